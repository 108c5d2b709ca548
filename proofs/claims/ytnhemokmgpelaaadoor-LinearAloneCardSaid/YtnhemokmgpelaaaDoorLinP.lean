/- Chapter 50: the walk of LinearFindsOrder. Condition: the table of Itoa lies as the program lays it. -/
import Derived.Test.YtnhemokmgpelaaaDoorMLinL
import Derived.Test.YtnhemokmgpelaaaDoorLinK
import Derived.Test.YtnhemokmgpelaaaDoorLinO
namespace Go.Proofs.YtnhemokmgpelaaaDoor
set_option linter.unusedVariables false
set_option linter.unusedSimpArgs false
open Go.RowKit
theorem placeAll_count {r : List Int} : ∀ {pl q : List Bool}, placeAll pl r = some q → q.count false + r.length = pl.count false := by
  induction r with
  | nil => intro pl q h; simp [placeAll] at h; rw [h]; simp
  | cons m r ih =>
    intro pl q h
    have hf := (placeAll_fresh h m (by simp)).2
    unfold placeAll at h
    split at h
    · simp at h
    · have := ih h
      have := count_set hf
      simp
      omega
theorem compl_len {l : List PCl} {order : List Int} (h : completeB l order = true) : order.length ≤ l.length := by
  unfold completeB at h
  cases hp : placeAll (List.replicate l.length false) order with
  | none => rw [hp] at h; simp at h
  | some q =>
    have := placeAll_count hp
    simp at this
    omega
set_option maxHeartbeats 4000000 in
set_option maxRecDepth 100000 in
theorem finds_walk (a0 : Option Addr) (len0 cap0 : Nat) (l0 : List Ce) (a1 : Option Addr) (len1 cap1 : Nat) (l1 : List Cl) (a2 : Option Addr) (len2 cap2 : Nat) (l2 : List Int) (w : World)
    (h0 : l0.length = len0 ∧ InIs ceC 4 w a0 cap0 l0 ∧ goodL l0) (h1 : l1.length = len1 ∧ LIn w a1 cap1 l1 ∧ (∀ x ∈ l1, goodCl x) ∧ ∀ x ∈ l1, goodL x.ans) (h2 : l2.length = len2 ∧ InIs icI 1 w a2 cap2 l2 ∧ (∀ x ∈ l2, (Lit.int .i64 x).wf = true) ∧ len2 ≤ 1099511627776000) (ht : TabW w) :
    Calls Tryd.prog 7 #[.slice a0 len0 cap0, .slice a1 len1 cap1, .slice a2 len2 cap2] w fun e w' => e = .returned (.bool true) ∧ Below w.heap.size w w' := by
  obtain ⟨rfl, hs, hsg⟩ := h0
  obtain ⟨rfl, hl, hg, -⟩ := h1
  obtain ⟨rfl, hi, -, hlen⟩ := h2
  refine Calls.mono (R := fun e w' => e = .returned (.bool true) ∧ Chg [] w w') ?_ (fun e w' h => ⟨h.1, h.2.toBelow (Nat.le_refl _) (by simp)⟩)
  have AW := Lib.hid (fun w' (hc : Chg [] w w') => awake_any w' (ht.kept hc))
  by_cases h8 : 8 < l1.length
  · have h8' : (8 : Int) < (l1.length : Int) := by omega
    go_enter Tryd.func7, Tryd.ntmps7
    go_wp2_with fail
    refine (AW.out _ (Chg.refl _ _)).mono ?_; rintro e w2 ⟨rfl, hc⟩
    have C2 := Lib.hid hc
    clear hc
    go_wp2_with fail
    go_ret
    exact ⟨rfl, C2.out⟩
  have h8' : (l1.length : Int) ≤ 8 := by omega
  have A := Lib.hid (legal_any hl hg hs hsg ht hi hlen)
  by_cases hz : (legalZ l0 (l1.map Cl.p) l2).2 = 0
  case neg =>
    have hzb : ((legalZ l0 (l1.map Cl.p) l2).2 != 0) = true := by simpa using hz
    clear hl hg hs hsg ht hi hz
    generalize legalZ l0 (l1.map Cl.p) l2 = z at *
    obtain ⟨z1, z2⟩ := z
    simp only at hzb A
    go_enter Tryd.func7, Tryd.ntmps7
    go_wp2_with fail
    refine A.out.mono ?_; rintro e w2 ⟨rfl, hc⟩
    have C2 := Lib.hid hc
    clear hc
    go_wp2_with fail
    refine (AW.out _ C2.out).mono ?_; rintro e w3 ⟨rfl, hc⟩
    have C3 := Lib.hid (C2.out.thenSame hc)
    clear hc
    go_wp2_with fail
    go_ret
    exact ⟨rfl, C3.out⟩
  obtain ⟨o, f1, f2, f3⟩ := finds_order hz
  have hol : o.length ≤ 8 := by
    have := compl_len (legal_zero (by rw [f2])).2.1
    rw [List.length_map] at this
    omega
  have F := Lib.hid (fun w' (hc : Chg [] w w') => lfind_any (hl.kept hc) hg (hs.kept hc) hsg (ht.kept hc))
  rw [f1] at F
  have G := Lib.hid (fun w' (hc : Chg [] w w') oa oc (ho : InIs icI 1 w' oa oc o) => legal_any (hl.kept hc) hg (hs.kept hc) hsg (ht.kept hc) ho (by omega))
  rw [f2] at G
  rw [hz] at A
  generalize (legalZ l0 (l1.map Cl.p) l2).1 = z1 at *
  have HI := Lib.hid hi
  have HX := Lib.hid f3
  have hol' : (o.length : Int) ≤ 8 := by omega
  have hl2' : (l2.length : Int) ≤ 1099511627776000 := by omega
  clear hl hg hs hsg ht hi hz f1 f2 f3
  go_enter Tryd.func7, Tryd.ntmps7
  go_wp2_with fail
  refine A.out.mono ?_; rintro e w2 ⟨rfl, hc⟩
  have C2 := Lib.hid hc
  clear hc
  go_wp2_with fail
  refine (F.out _ C2.out).mono ?_; rintro e w3 ⟨oa, oc, rfl, ho, -, hc⟩
  have C3 := Lib.hid (C2.out.thenSame hc)
  have HO := Lib.hid ho
  clear hc ho
  go_wp2_with fail
  refine (G.out _ C3.out _ _ HO.out).mono ?_; rintro e w4 ⟨rfl, hc⟩
  have C4 := Lib.hid (C3.out.thenSame hc)
  have HO4 := Lib.hid (HO.out.kept hc)
  have HI4 := Lib.hid (HI.out.kept C4.out)
  clear hc
  have hon : ((o.length : Int) != (o.length : Int)) = false := by simp
  go_wp2_with fail
  go_loopw [13] (fun i wr => ∃ k : Nat, i = .int .i64 k ∧ k ≤ o.length ∧ k ≤ l2.length ∧ Hid (lexB (o.drop k) (l2.drop k) = true) ∧ Hid (Chg [] w4 wr)) (fun i _ => o.length - (intOf i).toNat)
  case atStart => exact ⟨0, rfl, Nat.zero_le _, Nat.zero_le _, HX, Lib.hid (Chg.refl _ _)⟩
  case round =>
    obtain ⟨k, rfl, hk1, hk2, HK, D⟩ := hrel
    have hk0 : (0 : Int) ≤ (k : Int) := by omega
    have CD := Lib.hid (C4.out.thenSame D.out)
    by_cases hko : k < o.length
    · have hko' : (k : Int) < (o.length : Int) := by omega
      by_cases hkl : k < l2.length
      · have hkl' : (k : Int) < (l2.length : Int) := by omega
        obtain ⟨b1, o1, e1, -, -, hc1⟩ := HO4.out.1.elem D.out k hko
        obtain ⟨b2, o2, e2, -, -, hc2⟩ := HI4.out.1.elem D.out k hkl
        subst e1
        subst e2
        have u1 := hc1 0 (by omega)
        have u2 := hc2 0 (by omega)
        have U1 := Lib.hid (fun w' (hc : Chg [] wr w') => (HO4.out.kept (D.out.thenSame hc)).1.2 k hko)
        have hlex := HK.out
        rw [List.drop_eq_getElem_cons hko, List.drop_eq_getElem_cons hkl, lexB] at hlex
        simp only [icI, List.getElem?_cons_zero, Nat.add_zero, Nat.mul_one] at u1 u2
        have hb1 : b1 < wr.heap.size := World.block_lt_of_cell? wr _ u1
        have hb2 : b2 < wr.heap.size := World.block_lt_of_cell? wr _ u2
        generalize o[k] = x at *
        generalize l2[k] = y at *
        have V := Lib.hid (fun w' (hc : Chg [] wr w') => And.intro ((World.cell?_of_block (w := wr) (hc.block b1 hb1 (by simp))).trans u1) ((World.cell?_of_block (w := wr) (hc.block b2 hb2 (by simp))).trans u2))
        clear hc1 hc2
        by_cases hxy : x = y
        · rw [if_pos hxy] at hlex
          have HL2 := Lib.hid hlex
          have hxyb : (x != y) = false := by simp [hxy]
          clear hlex hxy
          go_wp2_with fail
          go_quiet (fail)
          go_wp2_with fail
          exact ⟨⟨k + 1, by go_num, by omega, by omega, HL2, Lib.hid (D.out.drewN _)⟩, by simp [intOf]; omega⟩
        · rw [if_neg hxy] at hlex
          have hxyb : (x != y) = true := by simpa using hxy
          have hlt : x < y := by simpa using hlex
          have hltb : decide (x < y) = true := hlex
          clear hlex hxy
          go_wp2_with fail
          go_quiet (fail)
          obtain ⟨wd, hwd⟩ : ∃ wd, wd = wr := ⟨_, rfl⟩
          go_upto_region 16 with fail
          go_region_held3 (fun w' => w'.cell? ⟨b1, o1 + k, none⟩ = some (.int .i64 x) ∧ w'.cell? ⟨b2, o2 + k, none⟩ = some (.int .i64 y))
            (first | exact ⟨u1, u2⟩ | exact V.out _ ((Chg.refl _ _).drewN _) | exact V.out _ (((Chg.refl [] wr).drewN (nq + 1))) | exact V.out _ ((Chg.refl _ _).drew) | exact V.out _ CC.out)
            (first | (go_at_call 8; (with_reducible refine Calls.mono (AW.out _ (CD.out.drewN _)) ?_); rintro e w9 ⟨rfl, hc⟩; have CC := Lib.hid (((Chg.refl [] wr).drewN _).thenSame hc); clear hc))
          go_wp2_with fail
          go_ret
          exact ⟨rfl, CD.out.thenSame CC.out⟩
      · have hke : k = l2.length := by omega
        exact absurd HK.out (by rw [hke, List.drop_length, List.drop_eq_getElem_cons (by omega)]; simp [lexB])
    · have hke : k = o.length := by omega
      have hle : (o.length : Int) ≤ (l2.length : Int) := by omega
      have hleb : decide ((o.length : Int) ≤ (l2.length : Int)) = true := decide_eq_true hle
      have AWD := Lib.hid (AW.out _ CD.out)
      clear hke
      go_wp2_with (go_at_call 8; (with_reducible refine Calls.mono AWD.out ?_); rintro e w9 ⟨rfl, hc⟩; have CC := Lib.hid (CD.out.thenSame hc); clear hc)
      go_ret
      exact ⟨rfl, CC.out⟩
end Go.Proofs.YtnhemokmgpelaaaDoor
