/- Chapter 50: contract: complete. No condition. Chapter 50: contract: Legal. Condition: the table of Itoa lies as the program lays it. Chapter 50, plain: the search finds the first legal order. No condition. -/
import Derived.Deep.DeepCutAuto
import Derived.Test.YtnhemokmgpelaaaGreatDoorLinJ
namespace Go.Proofs.YtnhemokmgpelaaaGreatDoor
set_option linter.unusedVariables false
set_option linter.unusedSimpArgs false
open Go.RowKit
variable {w : World} {la : Option Addr} {lc : Nat} {l : List Cl}
/-- What is placed after an order; none if it has an index twice, or one that is none. -/
def placeAll : List Bool → List Int → Option (List Bool)
  | pl, [] => some pl
  | pl, k :: r => if k < 0 ∨ (pl.length : Int) ≤ k ∨ pl[k.toNat]? = some true then none else placeAll (pl.set k.toNat true) r
def completeB (l : List PCl) (order : List Int) : Bool := match placeAll (List.replicate l.length false) order with | none => false | some pl => doneB l pl
theorem placeAll_len : ∀ {r : List Int} {pl q : List Bool}, placeAll pl r = some q → q.length = pl.length := by
  intro r
  induction r with
  | nil => intro pl q h; simp [placeAll] at h; rw [h]
  | cons k r ih =>
    intro pl q h
    unfold placeAll at h
    split at h
    · simp at h
    · rw [ih h, List.length_set]
theorem placeAll_take {order : List Int} {i : Nat} (hi : i < order.length) : ∀ {pl q : List Bool}, placeAll pl (order.take i) = some q → placeAll pl (order.take (i + 1)) = (if order[i] < 0 ∨ (q.length : Int) ≤ order[i] ∨ q[order[i].toNat]? = some true then none else some (q.set order[i].toNat true)) := by
  induction order generalizing i with
  | nil => simp at hi
  | cons k r ih =>
    intro pl q h
    cases i with
    | zero => simp [placeAll] at h ⊢; subst h; rfl
    | succ i =>
      simp only [List.take_succ_cons, placeAll] at h ⊢
      split at h
      · simp at h
      · rename_i hk
        rw [if_neg hk]
        exact ih (by simpa using hi) h
theorem placeAll_none {order : List Int} {i : Nat} {pl : List Bool} (h : placeAll pl (order.take i) = none) : placeAll pl order = none := by
  induction order generalizing i pl with
  | nil => simp [placeAll] at h
  | cons k r ih =>
    cases i with
    | zero => simp [placeAll] at h
    | succ i =>
      simp only [List.take_succ_cons, placeAll] at h ⊢
      split at h
      · rename_i hk; rw [if_pos hk]
      · rename_i hk; rw [if_neg hk]; exact ih h
set_option maxHeartbeats 4000000 in
set_option maxRecDepth 100000 in
theorem compl_any {ia : Option Addr} {ic : Nat} {order : List Int} (hl : LIn w la lc l) (hi : InIs icI 1 w ia ic order) (h8 : l.length ≤ 8) (hlen : order.length ≤ 1099511627776000) :
    Calls Tryz.prog 28 #[.slice la l.length lc, .slice ia order.length ic] w fun e w' => e = .returned (.bool (completeB (l.map Cl.p) order)) ∧ Chg [] w w' := by
  obtain ⟨R, hR⟩ : ∃ R, R = completeB (l.map Cl.p) order := ⟨_, rfl⟩
  rw [← hR]
  have HR := Lib.hid hR
  have HL := Lib.hid hl
  have HI := Lib.hid hi
  have h8' : (l.length : Int) ≤ 8 := by omega
  have hl0 : (0 : Int) ≤ (l.length : Int) := by omega
  have ho1 : (order.length : Int) ≤ 1099511627776000 := by omega
  clear hl hi hR
  go_enter Tryz.func28, Tryz.ntmps28
  go_wp2_with (at_make; go_loud (refine wpl_make (cf := bC) rfl _ _ 53 rfl w.heap.size 4 _ 1 Tryz.underlying53 boolInfo false rfl rfl l.length rfl rfl (by omega) (by unfold maxLen; omega) (Nat.le_refl _) ?_); intro w3 hr3 hc3 hl3; have R3 := Lib.hid hr3; have K3 := Lib.hid hc3; clear hr3 hc3)
  have hb0 : w.heap.size < w3.heap.size := hl3
  go_loopw [15] (fun i wr => ∃ (k : Nat) (pl : List Bool), i = .int .i64 k ∧ k ≤ order.length ∧ Hid (placeAll (List.replicate l.length false) (order.take k) = some pl) ∧ Hid (RowOf bC 1 wr w.heap.size 4 (.slice (some ⟨w.heap.size, 0, none⟩) l.length l.length) pl) ∧ Hid (pl.length = l.length) ∧ Hid (Chg [] w wr)) (fun i _ => order.length - (intOf i).toNat)
  case atStart => exact ⟨0, _, rfl, Nat.zero_le _, Lib.hid rfl, R3, Lib.hid List.length_replicate, K3⟩
  case round =>
    obtain ⟨k, pl, rfl, hkl, HP, RP, PL, D⟩ := hrel
    have hk0 : (0 : Int) ≤ (k : Int) := by omega
    by_cases hk : k < order.length
    · obtain ⟨b, off, rfl, -, hbr, hcc⟩ := HI.out.1.elem D.out k hk
      have d0 := hcc 0 (by omega)
      have hst := placeAll_take hk HP.out
      have hno := fun h => placeAll_none (order := order) (i := k + 1) (pl := List.replicate l.length false) h
      generalize order[k] = m at *
      simp only [icI, List.getElem?_cons_zero, Nat.add_zero, Nat.mul_one] at d0
      have hk1 : (k : Int) < (order.length : Int) := by omega
      have HF := Lib.hid (fun (h : m < 0 ∨ (pl.length : Int) ≤ m ∨ pl[m.toNat]? = some true) => show R = false by rw [HR.out]; unfold completeB; rw [List.length_map, hno (hst.trans (if_pos h))])
      rw [PL.out] at HF hst
      clear hcc hno
      by_cases h1 : m < 0
      · have HE := Lib.hid (HF.out (.inl h1))
        clear hst
        go_wp2_with fail
        go_ret
        exact ⟨retB HE.out.symm, D.out⟩
      by_cases h2 : (l.length : Int) ≤ m
      · have HE := Lib.hid (HF.out (.inr (.inl h2)))
        clear hst
        go_wp2_with fail
        go_ret
        exact ⟨retB HE.out.symm, D.out⟩
      obtain ⟨n, rfl⟩ : ∃ n : Nat, m = n := ⟨m.toNat, by omega⟩
      have hn : n < pl.length := by have := PL.out; omega
      obtain ⟨-, -, -, p4, p5, -⟩ := RowOf.atS RP.out bC_len
      have q4 := p4 n hn 0 (by omega)
      have q5 := p5 n
      obtain ⟨bp, hbp⟩ : ∃ bp, bp = pl[n] := ⟨_, rfl⟩
      rw [← hbp] at q4
      simp only [bC, List.getElem?_cons_zero, Nat.add_zero, Nat.mul_one] at q4
      have hn0 : (0 : Int) ≤ (n : Int) := by omega
      have hn1 : (n : Int) < (l.length : Int) := by omega
      simp only [Int.toNat_natCast] at HF hst
      have HBP := Lib.hid (show pl[n]? = some bp by rw [List.getElem?_eq_getElem hn, hbp])
      clear hbp p4 p5
      cases bp
      · have hst2 := hst.trans (if_neg (by rw [HBP.out]; simp; omega))
        have HST := Lib.hid hst2
        have RS := RowOf.stored RP.out PL.out.symm bC_len n hn 0 (by omega) (.bool true) true rfl
        simp only [Nat.add_zero, Nat.mul_one] at RS
        have RS := Lib.hid RS
        have PS := Lib.hid (show (pl.set n true).length = l.length by rw [List.length_set]; exact PL.out)
        have DS := Lib.hid (D.out.setCell ⟨w.heap.size, n, none⟩ (.bool true) (fun h => absurd h (Nat.lt_irrefl _)))
        clear hst hst2
        go_wp2_with fail
        exact ⟨⟨k + 1, pl.set n true, by go_num, by omega, HST, RS, PS, DS⟩, by simp [intOf]; omega⟩
      · have HE := Lib.hid (HF.out (.inr (.inr HBP.out)))
        clear hst
        go_wp2_with fail
        go_ret
        exact ⟨retB HE.out.symm, D.out⟩
    · have hks : k = order.length := by omega
      have HRR := Lib.hid (show R = doneB (l.map Cl.p) pl by rw [HR.out]; unfold completeB; have := HP.out; rw [hks, List.take_of_length_le (Nat.le_refl _)] at this; rw [List.length_map, this])
      clear hks
      go_wp2_with fail
      obtain ⟨wo, hwo⟩ : ∃ wo, wo = wr := ⟨_, rfl⟩
      subst hwo
      go_loopw [39] (fun i wz => ∃ j : Nat, i = .int .i64 j ∧ j ≤ l.length ∧ Hid (doneTo (l.map Cl.p) pl j = true) ∧ Hid (Chg [] wo wz)) (fun i _ => l.length - (intOf i).toNat)
      case atStart => exact ⟨0, rfl, Nat.zero_le _, Lib.hid rfl, Lib.hid (Chg.refl _ _)⟩
      case round =>
        obtain ⟨j, rfl, hjl, HS, E⟩ := hrel
        have hj0 : (0 : Int) ≤ (j : Int) := by omega
        by_cases hj : j < l.length
        · obtain ⟨b, off, rfl, -, hcc⟩ := HL.out.at8 (w' := w) j hj
          have hkp : j < pl.length := by have := PL.out; omega
          have hst := doneTo_step (l := l.map Cl.p) (pl := pl) (k := j) (by rw [List.length_map]; exact hj) hkp
          have hno := doneB_no (l := l.map Cl.p) (pl := pl) (k := j) (by rw [List.length_map]; exact hj) hkp
          rw [HS.out, Bool.true_and] at hst
          simp only [List.getElem_map] at hst hno
          have DE := Lib.hid (D.out.thenSame E.out)
          obtain ⟨d0, d1, d2, d3, d4, d5, d6, d7⟩ := hcc _ DE.out
          have AO := fun w' => lopen_any l[j] w'
          obtain ⟨W1, hW1⟩ : ∃ W1, W1 = wr.alloc (clO l[j]) := ⟨_, rfl⟩
          have C1 := Lib.hid (show Chg [] wo W1 by rw [hW1]; exact E.out.alloc _)
          have B1 := Lib.hid (show W1.heap[wr.heap.size]? = some (clO l[j]) by rw [hW1]; exact heap_alloc_new _ _)
          generalize l[j] = x at *
          have HP5 := Lib.hid (fun w' (hc : Chg [] wo w') => by
            have h2 := RP.out.kept hc (by simp)
            obtain ⟨-, -, -, p4, -⟩ := RowOf.atS h2 bC_len
            have p5 := p4 j hkp 0 (by omega)
            simp only [bC, List.getElem?_cons_zero, Nat.add_zero, Nat.mul_one] at p5
            exact p5)
          generalize pl[j] = bp at *
          unfold clO at hW1
          have HW1 := Lib.hid hW1
          have k1 := blk_cell (show W1.heap[wr.heap.size]? = some (.cells _ _ (0, 0)) from B1.out)
          generalize openB x.p = q at *
          unfold clC at AO
          have AO := Lib.hid AO
          rename_i AO0
          have hj1 : (j : Int) < (l.length : Int) := by omega
          clear AO0 hcc hW1
          go_upto_region 12 with fail
          rw [← HW1.out]
          clear d0 d1 d2 d3 d4 d5 d6 d7
          cases q
          · cases bp
            · have HE := Lib.hid (show R = false from HRR.out.trans (hno rfl))
              clear hst hno
              go_wp2_with (go_at_call 26; (with_reducible refine Calls.mono (AO.out _) ?_); rintro e w9 ⟨rfl, hc⟩; have D9 := Lib.hid (C1.out.thenSame hc); have p6 := HP5.out _ D9.out; clear hc)
              go_ret
              exact ⟨retB HE.out.symm, D.out.thenSame D9.out⟩
            · have HST := Lib.hid hst
              clear hst hno
              go_wp2_with (go_at_call 26; (with_reducible refine Calls.mono (AO.out _) ?_); rintro e w9 ⟨rfl, hc⟩; have D9 := Lib.hid (C1.out.thenSame hc); have p6 := HP5.out _ D9.out; clear hc)
              exact ⟨⟨j + 1, by go_num, by omega, HST, D9⟩, by simp [intOf]; omega⟩
          · have HST := Lib.hid hst
            clear hst hno
            go_wp2_with (go_at_call 26; (with_reducible refine Calls.mono (AO.out _) ?_); rintro e w9 ⟨rfl, hc⟩; have D9 := Lib.hid (C1.out.thenSame hc); clear hc)
            exact ⟨⟨j + 1, by go_num, by omega, HST, D9⟩, by simp [intOf]; omega⟩
        · have hks : j = l.length := by omega
          have HE := Lib.hid (show R = true from HRR.out.trans (doneB_stop (by rw [List.length_map]; exact PL.out) (by rw [List.length_map]; exact hks) HS.out))
          clear hks
          go_wp2_with fail
          go_ret
          exact ⟨retB HE.out.symm, D.out.thenSame E.out⟩
end Go.Proofs.YtnhemokmgpelaaaGreatDoor
namespace Go.Proofs.YtnhemokmgpelaaaGreatDoor
set_option linter.unusedVariables false
set_option linter.unusedSimpArgs false
open Go.RowKit
variable {w : World} {la : Option Addr} {lc : Nat} {l : List Cl} {sa : Option Addr} {sc : Nat} {st : List Ce}
def befI (l : List PCl) (j k : Int) : Bool := match l[j.toNat]?, l[k.toNat]? with | some y, some x => befB y x | _, _ => false
def fitsI (l : List PCl) (st : List Ce) (k : Int) : Option (List Ce) := match l[k.toNat]? with | some x => fitsF st x | none => none
def legalGo (l : List PCl) : List Int → List Ce → Nat → Int × Int
  | [], _, i => ((i : Int), 0)
  | k :: r, st, i => if r.any (fun j => befI l j k) = true then ((i : Int), 11) else match fitsI l st k with
    | none => ((i : Int), 19)
    | some s => legalGo l r s (i + 1)
def legalZ (st : List Ce) (l : List PCl) (order : List Int) : Int × Int := if hchkZ st l ≠ 0 then (0, hchkZ st l) else if completeB l order = false then (0, 2) else legalGo l order st 0
theorem placeAll_range {order : List Int} : ∀ {pl q : List Bool}, placeAll pl order = some q → ∀ k ∈ order, 0 ≤ k ∧ k < pl.length := by
  induction order with
  | nil => intro pl q _ k hk; cases hk
  | cons m r ih =>
    intro pl q h k hk
    unfold placeAll at h
    split at h
    · simp at h
    · rename_i hm
      rcases List.mem_cons.1 hk with rfl | hk
      · omega
      · have := ih h k hk
        rw [List.length_set] at this
        exact this
theorem compl_range {l : List PCl} {order : List Int} (h : completeB l order = true) : ∀ k ∈ order, 0 ≤ k ∧ k < l.length := by
  unfold completeB at h
  intro k hk
  cases hp : placeAll (List.replicate l.length false) order with
  | none => rw [hp] at h; simp at h
  | some q =>
    have := placeAll_range hp k hk
    rwa [List.length_replicate] at this
theorem any_drop {order : List Int} {p : Int → Bool} {i j : Nat} (hi : i < order.length) (h : ((order.drop i).take j).any p = false) (hp : p (order[i]) = false) : True := trivial
set_option maxHeartbeats 8000000 in
set_option maxRecDepth 100000 in
theorem legal_any {ia : Option Addr} {ic : Nat} {order : List Int} (hl : LIn w la lc l) (hg : ∀ x ∈ l, goodCl x) (hs : InIs ceC 4 w sa sc st) (hsg : goodL st) (ht : TabW w) (hi : InIs icI 1 w ia ic order) (hlen : order.length ≤ 1099511627776000) :
    Calls Tryz.prog 13 #[.slice sa st.length sc, .slice la l.length lc, .slice ia order.length ic] w fun e w' => e = .returned (.tuple #[.int .i64 (legalZ st (l.map Cl.p) order).1, .int .i64 (legalZ st (l.map Cl.p) order).2]) ∧ Chg [] w w' := by
  have A := Lib.hid (lcheck2_any (lc := lc) hl hg hs hsg ht)
  obtain ⟨R, hR⟩ : ∃ R, R = legalZ st (l.map Cl.p) order := ⟨_, rfl⟩
  rw [← hR]
  by_cases hz : hchkZ st (l.map Cl.p) = 0
  case neg =>
    have HE := Lib.hid (show R = (0, hchkZ st (l.map Cl.p)) by rw [hR]; unfold legalZ; rw [if_pos hz])
    rw [HE.out]
    have hzb : (hchkZ st (l.map Cl.p) != 0) = true := by simpa using hz
    clear hl hg hs hsg ht hz hi hR
    generalize hchkZ st (l.map Cl.p) = z at *
    go_enter Tryz.func13, Tryz.ntmps13
    go_wp2_with fail
    refine A.out.mono ?_; rintro e w2 ⟨rfl, hc⟩
    have C2 := Lib.hid hc
    clear hc
    go_wp2_with fail
    go_ret2
    exact ⟨rfl, C2.out⟩
  have hh : hcheckZ (l.map Cl.p) = 0 := by
    unfold hchkZ at hz
    split at hz
    · rename_i h1; exact absurd hz h1
    · rename_i h1; simpa using h1
  have h8 : l.length ≤ 8 := by have := (hcheck_zero hh).1; rwa [List.length_map] at this
  rw [hz] at A
  have HI := Lib.hid hi
  have B := Lib.hid (fun w' (hc : Chg [] w w') => compl_any (lc := lc) (hl.kept hc) (hi.kept hc) h8 hlen)
  have HL := Lib.hid hl
  have HG := Lib.hid hg
  have HT := Lib.hid ht
  have HSI := Lib.hid hs
  have HSG := Lib.hid hsg
  have ho1 : (order.length : Int) ≤ 1099511627776000 := by omega
  have hR1 : R = if completeB (l.map Cl.p) order = false then (0, 2) else legalGo (l.map Cl.p) order st 0 := by rw [hR]; unfold legalZ; rw [if_neg (by simp [hz])]
  by_cases hcb : completeB (l.map Cl.p) order = true
  case neg =>
    have hcb : completeB (l.map Cl.p) order = false := by simpa using hcb
    have HE := Lib.hid (show R = (0, 2) by rw [hR1, if_pos hcb])
    rw [HE.out]
    rw [hcb] at B
    clear hl hg hs hsg ht hz hi hR hR1 hcb
    go_enter Tryz.func13, Tryz.ntmps13
    go_wp2_with fail
    refine A.out.mono ?_; rintro e w2 ⟨rfl, hc⟩
    have C2 := Lib.hid hc
    clear hc
    go_wp2_with fail
    refine (B.out _ C2.out).mono ?_; rintro e w3 ⟨rfl, hc⟩
    have C3 := Lib.hid (C2.out.thenSame hc)
    clear hc
    go_wp2_with fail
    go_ret2
    exact ⟨rfl, C3.out⟩
  have HR := Lib.hid (show R = legalGo (l.map Cl.p) order st 0 by rw [hR1, if_neg (by rw [hcb]; simp)])
  have RG := Lib.hid (compl_range hcb)
  rw [hcb] at B
  clear hl hg hs hsg ht hz hi hR hR1 hcb hh
  go_enter Tryz.func13, Tryz.ntmps13
  go_wp2_with fail
  refine A.out.mono ?_; rintro e w2 ⟨rfl, hc⟩
  have C2 := Lib.hid hc
  clear hc
  go_wp2_with fail
  refine (B.out _ C2.out).mono ?_; rintro e w3 ⟨rfl, hc⟩
  have C3 := Lib.hid (C2.out.thenSame hc)
  clear hc
  go_wp2_with fail
  go_loopw [9, 29] (fun s i wr => ∃ (k : Nat) (sa1 : Option Addr) (sc1 : Nat) (st1 : List Ce), s = .slice sa1 st1.length sc1 ∧ i = .int .i64 k ∧ k ≤ order.length ∧ Hid (InIs ceC 4 wr sa1 sc1 st1) ∧ Hid (goodL st1) ∧ Hid (R = legalGo (l.map Cl.p) (order.drop k) st1 k) ∧ Hid (Chg [] w wr)) (fun _ i _ => order.length - (intOf i).toNat)
  case atStart => exact ⟨0, sa, sc, st, rfl, rfl, Nat.zero_le _, Lib.hid (HSI.out.kept C3.out), HSG, HR, C3⟩
  case round =>
    obtain ⟨k, sa1, sc1, st1, rfl, rfl, hkl, SI, SG, HK, D⟩ := hrel
    have hk0 : (0 : Int) ≤ (k : Int) := by omega
    by_cases hk : k < order.length
    · have hk1 : (k : Int) < (order.length : Int) := by omega
      obtain ⟨b, off, eia, -, hbr, hcc⟩ := HI.out.1.elem D.out k hk
      subst eia
      have d0 := hcc 0 (by omega)
      have hmr := RG.out _ (List.getElem_mem hk)
      have hdk : order.drop k = order[k] :: order.drop (k + 1) := List.drop_eq_getElem_cons hk
      rw [List.length_map] at hmr
      obtain ⟨n, hn⟩ : ∃ n : Nat, order[k] = n := ⟨(order[k]).toNat, by omega⟩
      rw [hn] at hmr hdk d0
      have hnl : n < l.length := by omega
      have hn0 : (0 : Int) ≤ (n : Int) := by omega
      have hn1 : (n : Int) < (l.length : Int) := by omega
      simp only [icI, List.getElem?_cons_zero, Nat.add_zero, Nat.mul_one] at d0
      have HK2 := Lib.hid (show R = legalGo (l.map Cl.p) ((n : Int) :: order.drop (k + 1)) st1 k by rw [HK.out, hdk])
      have SLD := Lib.hid (HI.out.kept D.out)
      obtain ⟨lb, lo, ela, -, hcn⟩ := HL.out.at8 (w' := w) n hnl
      subst ela
      have XN := Lib.hid hcn
      have PN := Lib.hid (show (l.map Cl.p)[n]? = some (l[n]).p by rw [List.getElem?_map, List.getElem?_eq_getElem hnl]; rfl)
      have FN := Lib.hid (fun w' (hc : Chg [] wr w') => fits_any sa1 sc1 st1 l[n] w' (SI.out.kept hc) SG.out ((HL.out.2 _ (List.getElem_mem hnl)).kept (D.out.thenSame hc)) (HG.out _ (List.getElem_mem hnl)).1 (HT.out.kept (D.out.thenSame hc)))
      have GN := Lib.hid (HG.out _ (List.getElem_mem hnl)).1
      have AB := Lib.hid (fun y w' => lbef_any y l[n] w')
      generalize l[n] = x at *
      have hic : order.length ≤ ic := HI.out.2.1
      have hk2 : k + 1 ≤ order.length := by omega
      clear hcc hmr hdk hn hcn
      go_wp2_with (refine wpl_slice_lo rfl _ _ 27 rfl elemInts (sizeInt _) (some ⟨b, off, none⟩) order.length ic (k + 1) order rfl rfl hk2 hic SLD.out.1 ?_; intro a4 h4; have S4 := Lib.hid h4; clear h4)
      obtain ⟨N4, hN4⟩ : ∃ N4, N4 = order.length - (k + 1) := ⟨_, rfl⟩
      rw [← hN4] at S4 ⊢
      obtain ⟨wo, hwo⟩ : ∃ wo, wo = wr := ⟨_, rfl⟩
      subst hwo
      have hN5 : (N4 : Int) ≤ 1099511627776000 := by omega
      have HN4 := Lib.hid hN4
      clear hN4
      go_loopw [39] (fun i wz => ∃ j : Nat, i = .int .i64 j ∧ j ≤ N4 ∧ Hid (((order.drop (k + 1)).take j).any (fun q => befI (l.map Cl.p) q (n : Int)) = false) ∧ Hid (Chg [] wo wz)) (fun i _ => N4 - (intOf i).toNat)
      case atStart => exact ⟨0, rfl, Nat.zero_le _, Lib.hid rfl, Lib.hid (Chg.refl _ _)⟩
      case round =>
        obtain ⟨j, rfl, hjl, HS, E⟩ := hrel
        have hj0 : (0 : Int) ≤ (j : Int) := by omega
        have DE := Lib.hid (D.out.thenSame E.out)
        by_cases hj : j < N4
        · have hj1 : (j : Int) < (N4 : Int) := by omega
          have hjd : j < (order.drop (k + 1)).length := by rw [S4.out.1]; exact hj
          obtain ⟨b4, o4, ea4, -, hbr4, hcc4⟩ := S4.out.elem E.out j hjd
          subst ea4
          have e0 := hcc4 0 (by omega)
          have hqr := RG.out (order.drop (k + 1))[j] (List.drop_subset _ _ (List.getElem_mem hjd))
          rw [List.length_map] at hqr
          have htk : ((order.drop (k + 1)).take (j + 1)).any (fun q => befI (l.map Cl.p) q (n : Int)) = befI (l.map Cl.p) (order.drop (k + 1))[j] (n : Int) := by
            rw [List.take_succ_eq_append_getElem hjd, List.any_append, HS.out]; simp
          have hyes := fun (h : befI (l.map Cl.p) (order.drop (k + 1))[j] (n : Int) = true) => (show (order.drop (k + 1)).any (fun q => befI (l.map Cl.p) q (n : Int)) = true from List.any_eq_true.2 ⟨_, List.getElem_mem hjd, h⟩)
          generalize (order.drop (k + 1))[j] = q at *
          obtain ⟨p, rfl⟩ : ∃ p : Nat, q = p := ⟨q.toNat, by omega⟩
          have hpl : p < l.length := by omega
          have hp0 : (0 : Int) ≤ (p : Int) := by omega
          have hp1 : (p : Int) < (l.length : Int) := by omega
          simp only [icI, List.getElem?_cons_zero, Nat.add_zero, Nat.mul_one] at e0
          obtain ⟨lb', lo', ela, -, hcp⟩ := HL.out.at8 (w' := w) p hpl
          cases ela
          have XP := Lib.hid hcp
          have hbf : befI (l.map Cl.p) (p : Int) (n : Int) = befB (l[p]).p x.p := by
            unfold befI
            rw [Int.toNat_natCast, Int.toNat_natCast, PN.out, List.getElem?_map, List.getElem?_eq_getElem hpl]
            rfl
          rw [hbf] at htk hyes
          have AB2 := AB.out l[p]
          generalize l[p] = y at *
          generalize befB y.p x.p = bb at *
          unfold clC at AB2
          have AB2 := Lib.hid AB2
          rename_i AB20
          have X1 := Lib.hid (fun w' (hc : Chg [] wr w') => XP.out w' (DE.out.thenSame hc))
          have X2 := Lib.hid (fun w' (hc : Chg [] wr w') => XN.out w' (DE.out.thenSame hc))
          unfold At8 at X1 X2
          clear AB20 hcc4 hqr hcp hbf
          go_upto_region 13 with fail
          go_cut [51] (fun v wx => v = .bool bb ∧ Hid (Chg [] wr wx))
          case first =>
            go_region_held3 (fun w' => (w'.cell? ⟨lb, lo + p * 8, none⟩ = some (.string y.o.ent) ∧ w'.cell? ⟨lb, lo + p * 8 + 1, none⟩ = some (.string y.o.id) ∧ w'.cell? ⟨lb, lo + p * 8 + 2, none⟩ = some (.string y.o.op) ∧ w'.cell? ⟨lb, lo + p * 8 + 3, none⟩ = some (.slice y.o.aa y.o.args.length y.o.ac) ∧ w'.cell? ⟨lb, lo + p * 8 + 4, none⟩ = some (.int .i64 y.err) ∧ w'.cell? ⟨lb, lo + p * 8 + 5, none⟩ = some (.slice y.va y.ans.length y.vc) ∧ w'.cell? ⟨lb, lo + p * 8 + 6, none⟩ = some (.int .i64 y.from_) ∧ w'.cell? ⟨lb, lo + p * 8 + 7, none⟩ = some (.int .i64 y.to_)) ∧ w'.cell? ⟨lb, lo + n * 8, none⟩ = some (.string x.o.ent) ∧ w'.cell? ⟨lb, lo + n * 8 + 1, none⟩ = some (.string x.o.id) ∧ w'.cell? ⟨lb, lo + n * 8 + 2, none⟩ = some (.string x.o.op) ∧ w'.cell? ⟨lb, lo + n * 8 + 3, none⟩ = some (.slice x.o.aa x.o.args.length x.o.ac) ∧ w'.cell? ⟨lb, lo + n * 8 + 4, none⟩ = some (.int .i64 x.err) ∧ w'.cell? ⟨lb, lo + n * 8 + 5, none⟩ = some (.slice x.va x.ans.length x.vc) ∧ w'.cell? ⟨lb, lo + n * 8 + 6, none⟩ = some (.int .i64 x.from_) ∧ w'.cell? ⟨lb, lo + n * 8 + 7, none⟩ = some (.int .i64 x.to_))
              (first | exact ⟨X1.out _ ((Chg.refl _ _).drew), X2.out _ ((Chg.refl _ _).drew)⟩ | exact ⟨X1.out _ CC.out, X2.out _ CC.out⟩)
              ((first | (go_at_call 29; (with_reducible refine (AB2.out _).mono ?_); rintro e w9 ⟨rfl, hc⟩; have CC := Lib.hid (((Chg.refl [] wr).drew).thenSame hc); clear hc)))
            go_wp2_with fail
            go_meet
            exact ⟨rfl, CC⟩
          case rest =>
            obtain ⟨rfl, CC⟩ := hcut
            cases bb
            · have HST := Lib.hid htk
              clear htk hyes
              go_wp2_with fail
              exact ⟨⟨j + 1, by go_num, by omega, HST, Lib.hid (E.out.thenSame CC.out)⟩, by simp [intOf]; omega⟩
            · have HY := hyes rfl
              have HE := Lib.hid (show R = ((k : Int), 11) by rw [HK2.out, legalGo, if_pos HY])
              clear htk hyes HY
              go_wp2_with fail
              go_ret2
              exact ⟨by rw [HE.out]; rfl, DE.out.thenSame CC.out⟩
        · have hjs : j = (order.drop (k + 1)).length := by rw [S4.out.1]; omega
          have HNA := Lib.hid (show (order.drop (k + 1)).any (fun q => befI (l.map Cl.p) q (n : Int)) = false by have := HS.out; rwa [hjs, List.take_of_length_le (Nat.le_refl _)] at this)
          clear hjs
          obtain ⟨x0, x1, x2, x3, x4, x5, x6, x7⟩ := XN.out _ DE.out
          have FZ := FN.out _ E.out
          have hfi : fitsI (l.map Cl.p) st1 (n : Int) = fitsF st1 x.p := by unfold fitsI; rw [Int.toNat_natCast, PN.out]
          have HG2 := Lib.hid (show R = match fitsF st1 x.p with | none => ((k : Int), 19) | some s => legalGo (l.map Cl.p) (order.drop (k + 1)) s (k + 1) by rw [HK2.out, legalGo, if_neg (by rw [HNA.out]; simp), hfi])
          have HFS := Lib.hid (fun s (h : fitsF st1 x.p = some s) => fits_some h)
          generalize fitsF st1 x.p = ft at *
          unfold clC at FZ
          have FZ := Lib.hid FZ
          rename_i FZ0
          clear FZ0 hfi
          cases ft with
          | none =>
            have HE := Lib.hid (show R = ((k : Int), 19) from HG2.out)
            go_wp2_with (go_at_call 30; (with_reducible refine Calls.mono FZ.out ?_); rintro e w9 ⟨na, nc, m9, rfl, -, hc⟩; have C9 := Lib.hid (DE.out.thenSame hc); clear hc)
            go_ret2
            exact ⟨by rw [HE.out]; rfl, C9.out⟩
          | some s =>
            have HE := Lib.hid (show R = legalGo (l.map Cl.p) (order.drop (k + 1)) s (k + 1) from HG2.out)
            have GS := Lib.hid (show goodL s by obtain ⟨f1, f2, -⟩ := HFS.out s rfl; rw [f2]; exact doZ_good f1 SG.out GN.out)
            go_wp2_with (go_at_call 30; (with_reducible refine Calls.mono FZ.out ?_); rintro e w9 ⟨na, nc, m9, rfl, hs9, hc⟩; obtain ⟨rfl, hi9, -⟩ := hs9 s rfl; have C9 := Lib.hid (DE.out.thenSame hc); have I9 := Lib.hid hi9; clear hc hs9 hi9)
            exact ⟨⟨k + 1, na, nc, s, rfl, by go_num, by omega, I9, GS, HE, C9⟩, by simp [intOf]; omega⟩
    · have hks : k = order.length := by omega
      have HE := Lib.hid (show R = ((order.length : Int), 0) by rw [HK.out, hks, List.drop_length]; rfl)
      clear hks
      go_wp2_with fail
      go_ret2
      exact ⟨by rw [HE.out]; rfl, D.out⟩
end Go.Proofs.YtnhemokmgpelaaaGreatDoor
namespace Go.Proofs.YtnhemokmgpelaaaGreatDoor
set_option linter.unusedVariables false
set_option linter.unusedSimpArgs false
open Go.RowKit
variable {l : List PCl}
theorem placeAll_fresh {r : List Int} : ∀ {pl q : List Bool}, placeAll pl r = some q → ∀ j ∈ r, 0 ≤ j ∧ pl[j.toNat]? = some false := by
  induction r with
  | nil => intro pl q _ j hj; cases hj
  | cons m r ih =>
    intro pl q h j hj
    unfold placeAll at h
    split at h
    · simp at h
    · rename_i hm
      rcases List.mem_cons.1 hj with rfl | hj
      · refine ⟨by omega, ?_⟩
        have hlt : j.toNat < pl.length := by omega
        cases hb : pl[j.toNat]'hlt with
        | false => rw [List.getElem?_eq_getElem hlt, hb]
        | true => exact absurd (.inr (.inr (by rw [List.getElem?_eq_getElem hlt, hb]))) hm
      · obtain ⟨h1, h2⟩ := ih h j hj
        refine ⟨h1, ?_⟩
        rw [List.getElem?_set] at h2
        split at h2
        · split at h2 <;> simp at h2
        · exact h2
/-- What is placed stays placed; what is not in the order stays as it was. -/
theorem placeAll_at {r : List Int} : ∀ {pl q : List Bool}, placeAll pl r = some q → ∀ j : Nat, (j : Int) ∉ r → q[j]? = pl[j]? := by
  induction r with
  | nil => intro pl q h j _; simp [placeAll] at h; rw [h]
  | cons m r ih =>
    intro pl q h j hj
    unfold placeAll at h
    split at h
    · simp at h
    · rename_i hm
      rw [ih h j (fun hh => hj (by simp [hh]))]
      rw [List.getElem?_set, if_neg (fun e => hj (by simp; left; omega))]
def lexB : List Int → List Int → Bool
  | [], _ => true
  | _ :: _, [] => false
  | x :: a, y :: b => if x = y then lexB a b else decide (x < y)
/-- What Find returns is legal. -/
theorem find_sound : ∀ n st pl od o i, pl.length = l.length → findF l n st pl od = some o → ∃ r, o = od ++ r ∧ legalGo l r st i = (((i + r.length : Nat) : Int), 0) ∧ ∃ q, placeAll pl r = some q ∧ doneB l q = true := by
  have done : ∀ {st pl od o} {i : Nat}, doneB l pl = true → some od = some o → ∃ r, o = od ++ r ∧ legalGo l r st i = (((i + r.length : Nat) : Int), 0) ∧ ∃ q, placeAll pl r = some q ∧ doneB l q = true := by
    intro st pl od o i hd h
    cases h
    exact ⟨[], by simp, rfl, pl, rfl, hd⟩
  intro n
  induction n with
  | zero =>
    intro st pl od o i hl h
    unfold findF at h
    split at h
    · rename_i hd; exact done hd h
    · simp at h
  | succ n ih =>
    intro st pl od o i hl h
    unfold findF at h
    split at h
    · rename_i hd; exact done hd h
    · obtain ⟨k, -, hk, hT, -⟩ := firstO_some h
      unfold tryF at hT
      split at hT
      · rename_i x hx hp
        split at hT
        · simp at hT
        · rename_i hb
          unfold goF at hT
          cases hf : fitsF st x with
          | none => rw [hf] at hT; simp at hT
          | some s =>
            rw [hf] at hT
            obtain ⟨r, rfl, h2, q, h3, h4⟩ := ih s (pl.set k true) (od ++ [(k : Int)]) o (i + 1) (by rw [List.length_set]; exact hl) hT
            have hkp : k < pl.length := (List.getElem?_eq_some_iff.1 hp).1
            have hno : r.any (fun j => befI l j (k : Int)) = false := by
              rw [List.any_eq_false]
              intro j hj hbf
              obtain ⟨j0, j1⟩ := placeAll_fresh h3 j hj
              rw [List.getElem?_set] at j1
              split at j1
              · first | (simp at j1; done) | (split at j1 <;> simp at j1)
              · unfold befI at hbf
                rw [Int.toNat_natCast, hx] at hbf
                cases hy : l[j.toNat]? with
                | none => rw [hy] at hbf; simp at hbf
                | some y =>
                  rw [hy] at hbf
                  obtain ⟨hjl, rfl⟩ := List.getElem?_eq_some_iff.1 hy
                  obtain ⟨hjp, hjb⟩ := List.getElem?_eq_some_iff.1 j1
                  exact hb (blockB_yes hjl hjp (by rw [hjb]; simpa using hbf))
            refine ⟨(k : Int) :: r, by simp, ?_, q, ?_, h4⟩
            · rw [legalGo, hno]
              unfold fitsI
              rw [Int.toNat_natCast, hx]
              simp only [hf]
              simp only [Bool.false_eq_true, if_false]
              rw [h2]
              simp
              omega
            · unfold placeAll
              rw [Int.toNat_natCast, if_neg (by rw [hp]; simp; omega)]
              exact h3
      · simp at hT
theorem firstO_all_none {f : Nat → Option (List Int)} : ∀ {n k0 : Nat}, firstO f k0 n = none → ∀ j, k0 ≤ j → j < k0 + n → f j = none := by
  intro n
  induction n with
  | zero => intro k0 _ j h1 h2; omega
  | succ n ih =>
    intro k0 h j h1 h2
    unfold firstO at h
    cases hf : f k0 with
    | some r => rw [hf] at h; simp at h
    | none =>
      rw [hf] at h
      by_cases e : j = k0
      · rw [e]; exact hf
      · exact ih h j (by omega) (by omega)
/-- If an order is legal, Find returns one, not after it. -/
theorem find_first (hself : ∀ x ∈ l, befB x x = false) : ∀ n st pl od rest i q, pl.length = l.length → pl.count false ≤ n → placeAll pl rest = some q → doneB l q = true → (legalGo l rest st i).2 = 0 → ∃ r, findF l n st pl od = some (od ++ r) ∧ lexB r rest = true := by
  intro n
  induction n with
  | zero =>
    intro st pl od rest i q hl hc hp hd hg
    have := done_count hl (Nat.le_zero.1 hc)
    exact ⟨[], by unfold findF; rw [if_pos this]; simp, rfl⟩
  | succ n ih =>
    intro st pl od rest i q hl hc hp hd hg
    by_cases hdn : doneB l pl = true
    · exact ⟨[], by unfold findF; rw [if_pos hdn]; simp, rfl⟩
    cases rest with
    | nil => simp [placeAll] at hp; subst hp; exact absurd hd hdn
    | cons k rest =>
      unfold placeAll at hp
      split at hp
      · simp at hp
      rename_i hk
      obtain ⟨m, rfl⟩ : ∃ m : Nat, k = m := ⟨k.toNat, by omega⟩
      rw [Int.toNat_natCast] at hk hp
      have hml : m < pl.length := by omega
      have hmp : pl[m]? = some false := by
        cases hb : pl[m]'hml with
        | false => rw [List.getElem?_eq_getElem hml, hb]
        | true => exact absurd (.inr (.inr (by rw [List.getElem?_eq_getElem hml, hb]))) hk
      have hmx : l[m]? = some (l[m]'(by omega)) := List.getElem?_eq_getElem _
      obtain ⟨x, hx⟩ : ∃ x, x = l[m]'(by omega) := ⟨_, rfl⟩
      rw [← hx] at hmx
      have hxm : x ∈ l := by rw [hx]; exact List.getElem_mem _
      rw [legalGo] at hg
      split at hg
      · simp at hg
      rename_i hany
      unfold fitsI at hg
      rw [Int.toNat_natCast, hmx] at hg
      simp only at hg
      cases hf : fitsF st x with
      | none => rw [hf] at hg; simp at hg
      | some s =>
        rw [hf] at hg
        simp only at hg
        obtain ⟨r, h1, h2⟩ := ih s (pl.set m true) (od ++ [(m : Int)]) rest (i + 1) q (by rw [List.length_set]; exact hl) (by have := count_set hmp; omega) hp hd hg
        have hblk : blockB l pl x = false := by
          unfold blockB blockTo
          rw [List.any_eq_false]
          intro j hj
          have hj : j < l.length := by simpa using hj
          rw [List.getElem?_eq_getElem hj, List.getElem?_eq_getElem (by omega)]
          simp only [Bool.and_eq_true, Bool.not_eq_true', not_and]
          intro hjp hbf
          by_cases hjm : j = m
          · subst hjm
            rw [← hx, hself x hxm] at hbf
            simp at hbf
          by_cases hjr : (j : Int) ∈ rest
          · apply hany
            rw [List.any_eq_true]
            refine ⟨j, hjr, ?_⟩
            unfold befI
            rw [Int.toNat_natCast, Int.toNat_natCast, hmx, List.getElem?_eq_getElem hj]
            exact hbf
          · have hq := placeAll_at hp j hjr
            have hpj : pl[j]? = some false := by rw [List.getElem?_eq_getElem (by omega), hjp]
            rw [List.getElem?_set, if_neg (fun e => hjm e.symm), hpj] at hq
            have hql := placeAll_len hp
            rw [List.length_set] at hql
            rcases (doneB_iff (by omega)).1 hd j hj with ho | ho
            · unfold befB at hbf
              rw [ho] at hbf
              simp at hbf
            · obtain ⟨hq1, hq2⟩ := List.getElem?_eq_some_iff.1 hq
              rw [ho] at hq2
              simp at hq2
        have hT : tryF l (findF l n) st pl od m = some (od ++ ((m : Int) :: r)) := by
          unfold tryF
          rw [hmx, hmp]
          simp only [hblk, Bool.false_eq_true, if_false]
          unfold goF
          rw [hf]
          simp only [h1]
          simp
        have hfd : findF l (n + 1) st pl od = firstO (tryF l (findF l n) st pl od) 0 l.length := by rw [findF, if_neg hdn]
        rw [hfd]
        cases hfo : firstO (tryF l (findF l n) st pl od) 0 l.length with
        | none => exact absurd (firstO_all_none hfo m (Nat.zero_le _) (by omega)) (by rw [hT]; simp)
        | some o =>
          obtain ⟨k', -, hk', hT', hlt⟩ := firstO_some hfo
          have hkm : k' ≤ m := by
            rcases Nat.lt_or_ge m k' with hmk | hmk
            · have := hlt m (Nat.zero_le _) hmk
              rw [hT] at this
              simp at this
            · exact hmk
          by_cases he : k' = m
          · subst he
            rw [hT] at hT'
            cases hT'
            exact ⟨(k' : Int) :: r, rfl, by rw [lexB, if_pos rfl]; exact h2⟩
          · have hT2 := hT'
            unfold tryF at hT2
            split at hT2
            · rename_i x' hx' hp'
              split at hT2
              · simp at hT2
              · unfold goF at hT2
                cases hf' : fitsF st x' with
                | none => rw [hf'] at hT2; simp at hT2
                | some s' =>
                  rw [hf'] at hT2
                  obtain ⟨r', rfl, -, -⟩ := find_sound n s' (pl.set k' true) (od ++ [(k' : Int)]) o 0 (by rw [List.length_set]; exact hl) hT2
                  exact ⟨(k' : Int) :: r', by simp, by rw [lexB, if_neg (by omega)]; exact decide_eq_true (by omega)⟩
            · simp at hT2
theorem befB_self {x : PCl} (h : badT x = false) : befB x x = false := by
  unfold badT at h
  unfold befB
  cases ho : openB x
  · rw [ho] at h
    simp at h
    simp
    omega
  · simp
theorem hcheck_self {l : List PCl} (h : hcheckZ l = 0) : ∀ x ∈ l, befB x x = false := by
  intro x hx
  obtain ⟨k, hk, rfl⟩ := List.mem_iff_getElem.1 hx
  have h1 := (hcheck_zero h).2 k hk
  unfold chkAt at h1
  rw [List.getElem?_eq_getElem hk, List.getElem?_eq_getElem (by omega)] at h1
  simp only at h1
  refine befB_self ?_
  unfold chk1 at h1
  split at h1
  · simp at h1
  · split at h1
    · simp at h1
    · split at h1
      · simp at h1
      · rename_i hb; simpa using hb
theorem legal_zero {st : List Ce} {l : List PCl} {order : List Int} (h : (legalZ st l order).2 = 0) : hchkZ st l = 0 ∧ completeB l order = true ∧ legalZ st l order = legalGo l order st 0 := by
  unfold legalZ at h ⊢
  split at h
  · rename_i h1; exact absurd h h1
  · rename_i h1
    split at h
    · simp at h
    · rename_i h2
      exact ⟨by simpa using h1, by simpa using h2, by rw [if_neg h1, if_neg h2]⟩
/-- The law, plain. -/
theorem finds_order {st : List Ce} {l : List PCl} {order : List Int} (h : (legalZ st l order).2 = 0) : ∃ o, findZ st l = (o, 0) ∧ legalZ st l o = ((o.length : Int), 0) ∧ lexB o order = true := by
  obtain ⟨h1, h2, h3⟩ := legal_zero h
  rw [h3] at h
  have hh : hcheckZ l = 0 := by
    unfold hchkZ at h1
    split at h1
    · rename_i h0; exact absurd h1 h0
    · rename_i h0; simpa using h0
  have hrl : (List.replicate l.length false).length = l.length := List.length_replicate
  unfold completeB at h2
  cases hp : placeAll (List.replicate l.length false) order with
  | none => rw [hp] at h2; simp at h2
  | some q =>
    rw [hp] at h2
    obtain ⟨r, e1, e2⟩ := find_first (hcheck_self hh) l.length st (List.replicate l.length false) [] order 0 q hrl (by simp) hp h2 h
    rw [List.nil_append] at e1
    obtain ⟨r', e3, e4, q', e5, e6⟩ := find_sound l.length st (List.replicate l.length false) [] r 0 hrl e1
    rw [List.nil_append] at e3
    subst e3
    refine ⟨r, by unfold findZ; rw [if_neg (by simp [h1]), e1], ?_, e2⟩
    have hc : completeB l r = true := by unfold completeB; rw [e5]; exact e6
    unfold legalZ
    rw [if_neg (by simp [h1]), if_neg (by rw [hc]; simp), e4]
    simp
end Go.Proofs.YtnhemokmgpelaaaGreatDoor
