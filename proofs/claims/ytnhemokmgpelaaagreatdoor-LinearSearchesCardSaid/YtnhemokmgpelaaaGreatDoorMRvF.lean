/- Values: contracts of the reference's Next (all), formed, levels. No condition. Values: contracts of the reference's quoted, Text (the text's length). Condition: the table of Itoa lies as the program lays it. Values: contract of the reference's Check: it is the program's. Condition: the table of Itoa lies as the program lays it. -/
import Derived.Test.YtnhemokmgpelaaaGreatDoorRvE
namespace Go.Proofs.YtnhemokmgpelaaaGreatDoor
set_option linter.unusedVariables false
set_option linter.unusedSimpArgs false
open Go.RowKit
theorem next_all (a : Option Addr) (c : Nat) (l : List Ce) (hl : l.length ≤ 3518437208780) (hg : ∀ x ∈ l, x.good) : ∀ f lo w, SlIs ceC 4 w a l.length l → l.length < f + lo → NextC l a c f lo w := by
  intro f
  induction f with
  | zero => intro lo w hs hf i w' hc h1 h2; omega
  | succ f ih =>
    intro lo w hs hf i w' hc h1 h2
    by_cases hi : i < l.length
    · exact next_in a c l f i w' hl (hs.kept hc) hg hi (fun w'' hc2 => ih (i + 1) w'' ((hs.kept hc).kept hc2) (by omega))
    · rw [show jZ (parP l (f + 1) i) = -1 by rw [parP, List.getElem?_eq_none (by omega)]; rfl]
      exact next_end a c l i w' hl (by omega) (by omega)
theorem formed_any (a : Option Addr) (c : Nat) (l : List Ce) (w : World) (hl : l.length ≤ 3518437208780) (hs : SlIs ceC 4 w a l.length l) (hg : ∀ x ∈ l, x.good) :
    Calls Tryz.prog 42 #[.slice a l.length c] w fun e w' => e = .returned (.bool (decide (0 < l.length) && jZ (parP l (l.length + 1) 0) == (l.length : Int))) ∧ Chg [] w w' := by
  have A := Lib.hid (next_all a c l hl hg (l.length + 1) 0 w hs (by omega) 0 w (Chg.refl _ _) (Nat.le_refl _) (Nat.zero_le _))
  generalize jZ (parP l (l.length + 1) 0) = z at *
  by_cases h0 : 0 < l.length
  · have h0' : (0 : Int) < (l.length : Int) := by omega
    rw [decide_eq_true h0]
    generalize l.length = m at *
    go_enter Tryz.func42, Tryz.ntmps42
    go_wp2_with fail
    refine A.out.mono ?_; rintro e w2 ⟨rfl, hc⟩
    have C := Lib.hid hc
    clear hc A
    go_wp2_with fail
    go_ret
    exact ⟨by simp, C.out⟩
  · rw [decide_eq_false h0]
    have hz : l.length = 0 := by omega
    rw [hz]
    go_enter Tryz.func42, Tryz.ntmps42
    go_wp2_with fail
    go_ret
    exact ⟨rfl, Chg.refl _ _⟩
theorem els_depth {g : Nat → Par} {B : Nat} (hg : ∀ i j lv tl, g i = some (j, lv, tl) → lv ≤ B) : ∀ n i m t j m' t', elsP g n i m t = some (j, m', t') → m ≤ B → m ≤ m' ∧ m' ≤ B := by
  intro n
  induction n with
  | zero => intro i m t j m' t' h hm; simp [elsP] at h; omega
  | succ n ih =>
    intro i m t j m' t' h hm
    rw [elsP] at h
    split at h
    · cases h
    · rename_i q1 j1 lv tl hj
      have := hg _ _ _ _ hj
      have := ih _ _ _ _ _ _ h (by omega)
      omega
theorem prs_depth {v : List Ce} {g : Nat → Par} {B : Nat} (hg : ∀ i j lv tl, g i = some (j, lv, tl) → lv ≤ B) : ∀ n i last m t j m' t', prsP v g n i last m t = some (j, m', t') → m ≤ B → m ≤ m' ∧ m' ≤ B := by
  intro n
  induction n with
  | zero => intro i last m t j m' t' h hm; simp [prsP] at h; omega
  | succ n ih =>
    intro i last m t j m' t' h hm
    rw [prsP] at h
    split at h
    · cases h
    · split at h
      · cases h
      · split at h
        · cases h
        · rename_i q1 j1 lv tl hj
          have := hg _ _ _ _ hj
          have := ih _ _ _ _ _ _ _ h (by omega)
          omega
theorem par_depth (v : List Ce) : ∀ f i j lv tl, parP v f i = some (j, lv, tl) → lv ≤ f := by
  intro f
  induction f with
  | zero => intro i j lv tl h; cases h
  | succ f ih =>
    intro i j lv tl h
    rw [parP] at h
    split at h
    · cases h
    · split at h
      · cases h
      · split at h
        · obtain ⟨m, t, h1, rfl, -⟩ := wrapP_some h
          have := els_depth ih _ _ _ _ _ _ _ h1 (by omega)
          omega
        · split at h
          · obtain ⟨m, t, h1, rfl, -⟩ := wrapP_some h
            have := prs_depth ih _ _ _ _ _ _ _ _ h1 (by omega)
            omega
          · simp at h; omega
theorem els_next {g : Nat → Par} {n i m : Nat} {t : Int} {r : Nat × Nat × Int} (h : elsP g (n + 1) i m t = some r) : ∃ j lv tl, g i = some (j, lv, tl) ∧ elsP g n j (max m lv) (t + tl) = some r := by
  rw [elsP] at h
  split at h
  · cases h
  · rename_i q1 j1 lv tl hj
    exact ⟨_, _, _, hj, h⟩
theorem prs_next {v : List Ce} {g : Nat → Par} {n i m : Nat} {last : Option ByteArray} {t : Int} {r : Nat × Nat × Int} (h : prsP v g (n + 1) i last m t = some r) : ∃ c j lv tl, v[i]? = some c ∧ g (i + 1) = some (j, lv, tl) ∧ prsP v g n j (some c.str) (max m lv) (t + (quotN c.str + 1) + tl) = some r := by
  rw [prsP] at h
  split at h
  · cases h
  · rename_i c hc
    split at h
    · cases h
    · split at h
      · cases h
      · rename_i q1 j1 lv tl hj
        exact ⟨c, _, _, _, hc, hj, h⟩
set_option maxHeartbeats 16000000 in
set_option maxRecDepth 100000 in
theorem levels_any (a : Option Addr) (c : Nat) (l : List Ce) (hl : l.length ≤ 3518437208780) (hg : ∀ x ∈ l, x.good) : ∀ f i w, SlIs ceC 4 w a l.length l → l.length < f + i → f ≤ 3518437208800 → ∀ j lv tl, parP l f i = some (j, lv, tl) →
    Calls Tryz.prog 43 #[.slice a l.length c, .int .i64 i] w fun e w' => e = .returned (.int .i64 lv) ∧ Chg [] w w' := by
  intro f
  induction f with
  | zero => intro i w hs hf hf6 j lv tl h; cases h
  | succ f ih =>
    intro i w hs hf hf6 j lv tl hp
    rw [parP] at hp
    split at hp
    · cases hp
    rename_i x hx
    obtain ⟨hi, hxe⟩ := List.getElem?_eq_some_iff.1 hx
    split at hp
    · cases hp
    rename_i hpl
    obtain ⟨g1, o1, rfl, hb1, hbr, hcc⟩ := hs.elem (Chg.refl _ _) i hi
    rw [hxe] at hcc
    have hxg := hg _ (List.getElem_mem hi)
    rw [hxe] at hxg
    obtain ⟨k, n, s, cn⟩ := x
    have d0 := hcc 0 (by omega)
    have d1 := hcc 1 (by omega)
    have d2 := hcc 2 (by omega)
    have d3 := hcc 3 (by omega)
    simp only [ceC, List.getElem?_cons_zero, List.getElem?_cons_succ, Nat.add_zero] at d0 d1 d2 d3
    have i0 : (0 : Int) ≤ (i : Int) := by omega
    have i1 : (i : Int) < (l.length : Int) := by omega
    obtain ⟨W1, hW1⟩ : ∃ W1, W1 = w.alloc (.cells #[.int .i64 k, .int .i64 n, .string s, .int .i64 cn] 74) := ⟨_, rfl⟩
    have C1 := Lib.hid (show Chg [] w W1 by rw [hW1]; exact (Chg.refl _ _).alloc _)
    have X1 := Lib.hid (show W1.heap[w.heap.size]? = some (ceO ⟨k, n, s, cn⟩) by rw [hW1]; exact heap_alloc_new _ _)
    have x1 := blk_cell X1.out
    unfold ceO at x1
    have HW1 := Lib.hid hW1
    have IH := Lib.hid (fun i' (h : i < i') w' (hc : Chg [] w w') => ih i' w' (hs.kept hc) (by omega) (by omega))
    have HN := Lib.hid (next_all (some ⟨g1, o1, none⟩) c l hl hg f (i + 1) w hs (by omega))
    have HG := Lib.hid (par_grows l f)
    have hpl : plainB ⟨k, n, s, cn⟩ = true := by simpa using hpl
    clear hW1 hcc hx hxe ih hs
    by_cases hk : k = 5 ∨ k = 6
    · obtain ⟨hc0, -, -⟩ := kinds56 hk hpl
      have hc0 : 0 ≤ cn := hc0
      have hcn : cn ≤ 9223372036854775807 := by
        have := hxg.2.2.2
        obtain ⟨u1, u2⟩ : IntKind.i64.min ≤ cn ∧ cn ≤ IntKind.i64.max := by simpa [Lit.wf] using this
        exact u2
      obtain ⟨N, rfl⟩ : ∃ N : Nat, cn = (N : Int) := ⟨cn.toNat, by omega⟩
      simp only [Int.toNat_natCast] at hp
      have HX := Lib.hid (fun w' (hc : Chg [] W1 w') => blk_cell (hc.at (by simp) X1.out))
      unfold ceO at HX
      have HDP := Lib.hid (par_depth l f)
      rcases hk with rfl | rfl
      · rw [if_pos rfl] at hp
        obtain ⟨m0, t0, hp2, rfl, -⟩ := wrapP_some hp
        have hm0 := (els_depth HDP.out _ _ _ _ _ _ _ hp2 (Nat.zero_le _)).2
        have HP := Lib.hid hp2
        clear hp hp2 hpl hxg
        go_enter Tryz.func43, Tryz.ntmps43
        go_wp2_with fail
        rw [← HW1.out]
        go_wp2_with fail
        go_loopw [6, 7, 8] (fun mo at_ t wr => ∃ (k q m : Nat) (s : Int) (LST : Option ByteArray), mo = .int .i64 m ∧ at_ = .int .i64 q ∧ t = .int .i64 k ∧ k ≤ N ∧ i < q ∧ q ≤ l.length ∧ m ≤ f ∧ Hid (elsP (parP l f) (N - k) q m s = some (j, m0, t0)) ∧ Hid (Chg [] W1 wr)) (fun _ _ t _ => N - (intOf t).toNat)
        case atStart => exact ⟨0, i + 1, 0, 0, none, rfl, by go_num, rfl, Nat.zero_le _, by omega, by omega, by omega, HP, Lib.hid (Chg.refl _ _)⟩
        case round =>
          obtain ⟨k, q, m, s, LST, rfl, rfl, rfl, hk, hiq, hql, hm0, HE, D⟩ := hrel
          have k0 : (0 : Int) ≤ (k : Int) := by omega
          have q0 : (0 : Int) ≤ (q : Int) := by omega
          have x2 := HX.out wr D.out
          by_cases hlt : k < N
          · have k1 : (k : Int) < (N : Int) := by omega
            have hst : N - k = (N - (k + 1)) + 1 := by omega
            have hE := HE.out
            rw [hst] at hE
            have LS2 := LST
            obtain ⟨j1, lv1, tl1, hj1, hE2⟩ := els_next hE
            obtain ⟨g2, g3⟩ := HG.out _ _ _ _ hj1
            have HE2 := Lib.hid hE2
            have hl1 := HDP.out _ _ _ _ hj1
            have D0 := Lib.hid (C1.out.thenSame D.out)
            have A1 := Lib.hid (fun w' (hc : Chg [] w w') => IH.out (q) (by omega) w' hc _ _ _ hj1)
            have A2 := Lib.hid (fun w' (hc : Chg [] w w') => HN.out (q) w' hc (by omega) (by omega))
            rw [hj1] at A2
            simp only [jZ] at A2
            have l0 : (0 : Int) ≤ (lv1 : Int) := by omega
            clear hst hj1 hE2
            by_cases hgt : (m : Int) < (lv1 : Int)
            · go_wp2_with (first | (go_at_call 43; refine (A1.out _ D0.out).mono ?_; rintro e w2 ⟨rfl, hc⟩; have D2 := Lib.hid (D.out.thenSame hc); have D3 := Lib.hid (C1.out.thenSame D2.out); have x3 := HX.out w2 D2.out; clear hc) | (go_at_call 62; refine (A2.out _ D3.out).mono ?_; rintro e w3 ⟨rfl, hc⟩; have D4 := Lib.hid (D2.out.thenSame hc); have x4 := HX.out w3 D4.out; clear hc))
              exact ⟨⟨k + 1, j1, lv1, _, LS2, rfl, rfl, by go_num, by omega, by omega, by omega, by omega, Lib.hid (by rw [show lv1 = max m lv1 by omega]; exact HE2.out), D4⟩, by simp [intOf]; omega⟩
            · go_wp2_with (first | (go_at_call 43; refine (A1.out _ D0.out).mono ?_; rintro e w2 ⟨rfl, hc⟩; have D2 := Lib.hid (D.out.thenSame hc); have D3 := Lib.hid (C1.out.thenSame D2.out); have x3 := HX.out w2 D2.out; clear hc) | (go_at_call 62; refine (A2.out _ D3.out).mono ?_; rintro e w3 ⟨rfl, hc⟩; have D4 := Lib.hid (D2.out.thenSame hc); have x4 := HX.out w3 D4.out; clear hc))
              exact ⟨⟨k + 1, j1, m, _, LS2, rfl, rfl, by go_num, by omega, by omega, by omega, by omega, Lib.hid (by rw [show max m lv1 = m by omega] at HE2; exact HE2.out), D4⟩, by simp [intOf]; omega⟩
          · have hks : N - k = 0 := by omega
            have hE := HE.out
            rw [hks] at hE
            simp only [elsP, prsP, Option.some.injEq, Prod.mk.injEq] at hE
            obtain ⟨-, rfl, -⟩ := hE
            have hkn : ¬ ((k : Int) < (N : Int)) := by omega
            have D0 := Lib.hid (C1.out.thenSame D.out)
            clear hks
            go_wp2_with fail
            go_ret
            exact ⟨rfl, D0.out⟩
      · rw [if_neg (by decide), if_pos rfl] at hp
        obtain ⟨m0, t0, hp2, rfl, -⟩ := wrapP_some hp
        have hm0 := (prs_depth HDP.out _ _ _ _ _ _ _ _ hp2 (Nat.zero_le _)).2
        have HP := Lib.hid hp2
        clear hp hp2 hpl hxg
        go_enter Tryz.func43, Tryz.ntmps43
        go_wp2_with fail
        rw [← HW1.out]
        go_wp2_with fail
        go_loopw [6, 7, 8] (fun mo at_ t wr => ∃ (k q m : Nat) (s : Int) (LST : Option ByteArray), mo = .int .i64 m ∧ at_ = .int .i64 q ∧ t = .int .i64 k ∧ k ≤ N ∧ i < q ∧ q ≤ l.length ∧ m ≤ f ∧ Hid (prsP l (parP l f) (N - k) q LST m s = some (j, m0, t0)) ∧ Hid (Chg [] W1 wr)) (fun _ _ t _ => N - (intOf t).toNat)
        case atStart => exact ⟨0, i + 1, 0, 0, none, rfl, by go_num, rfl, Nat.zero_le _, by omega, by omega, by omega, HP, Lib.hid (Chg.refl _ _)⟩
        case round =>
          obtain ⟨k, q, m, s, LST, rfl, rfl, rfl, hk, hiq, hql, hm0, HE, D⟩ := hrel
          have k0 : (0 : Int) ≤ (k : Int) := by omega
          have q0 : (0 : Int) ≤ (q : Int) := by omega
          have x2 := HX.out wr D.out
          by_cases hlt : k < N
          · have k1 : (k : Int) < (N : Int) := by omega
            have hst : N - k = (N - (k + 1)) + 1 := by omega
            have hE := HE.out
            rw [hst] at hE
            skip
            (obtain ⟨c0, j1, lv1, tl1, hc0, hj1, hE2⟩ := prs_next hE; have hql2 := (List.getElem?_eq_some_iff.1 hc0).1; obtain ⟨LS2, hLS⟩ : ∃ LS2, LS2 = some c0.str := ⟨_, rfl⟩; rw [← hLS] at hE2; clear hLS hc0)
            obtain ⟨g2, g3⟩ := HG.out _ _ _ _ hj1
            have HE2 := Lib.hid hE2
            have hl1 := HDP.out _ _ _ _ hj1
            have D0 := Lib.hid (C1.out.thenSame D.out)
            have A1 := Lib.hid (fun w' (hc : Chg [] w w') => IH.out (q + 1) (by omega) w' hc _ _ _ hj1)
            have A2 := Lib.hid (fun w' (hc : Chg [] w w') => HN.out (q + 1) w' hc (by omega) (by omega))
            rw [hj1] at A2
            simp only [jZ] at A2
            have l0 : (0 : Int) ≤ (lv1 : Int) := by omega
            clear hst hj1 hE2
            by_cases hgt : (m : Int) < (lv1 : Int)
            · go_wp2_with (first | (go_at_call 43; refine (A1.out _ D0.out).mono ?_; rintro e w2 ⟨rfl, hc⟩; have D2 := Lib.hid (D.out.thenSame hc); have D3 := Lib.hid (C1.out.thenSame D2.out); have x3 := HX.out w2 D2.out; clear hc) | (go_at_call 62; refine (A2.out _ D3.out).mono ?_; rintro e w3 ⟨rfl, hc⟩; have D4 := Lib.hid (D2.out.thenSame hc); have x4 := HX.out w3 D4.out; clear hc))
              exact ⟨⟨k + 1, j1, lv1, _, LS2, rfl, rfl, by go_num, by omega, by omega, by omega, by omega, Lib.hid (by rw [show lv1 = max m lv1 by omega]; exact HE2.out), D4⟩, by simp [intOf]; omega⟩
            · go_wp2_with (first | (go_at_call 43; refine (A1.out _ D0.out).mono ?_; rintro e w2 ⟨rfl, hc⟩; have D2 := Lib.hid (D.out.thenSame hc); have D3 := Lib.hid (C1.out.thenSame D2.out); have x3 := HX.out w2 D2.out; clear hc) | (go_at_call 62; refine (A2.out _ D3.out).mono ?_; rintro e w3 ⟨rfl, hc⟩; have D4 := Lib.hid (D2.out.thenSame hc); have x4 := HX.out w3 D4.out; clear hc))
              exact ⟨⟨k + 1, j1, m, _, LS2, rfl, rfl, by go_num, by omega, by omega, by omega, by omega, Lib.hid (by rw [show max m lv1 = m by omega] at HE2; exact HE2.out), D4⟩, by simp [intOf]; omega⟩
          · have hks : N - k = 0 := by omega
            have hE := HE.out
            rw [hks] at hE
            simp only [elsP, prsP, Option.some.injEq, Prod.mk.injEq] at hE
            obtain ⟨-, rfl, -⟩ := hE
            have hkn : ¬ ((k : Int) < (N : Int)) := by omega
            have D0 := Lib.hid (C1.out.thenSame D.out)
            clear hks
            go_wp2_with fail
            go_ret
            exact ⟨rfl, D0.out⟩
    · have h5 : k ≠ 5 := fun h => hk (.inl h)
      have h6 : k ≠ 6 := fun h => hk (.inr h)
      rw [if_neg h5, if_neg h6] at hp
      simp only [Option.some.injEq, Prod.mk.injEq] at hp
      obtain ⟨-, rfl, -⟩ := hp
      have k5 : (k != 5) = true := by simpa using h5
      have k6 : (k != 6) = true := by simpa using h6
      clear h5 h6 hk
      go_enter Tryz.func43, Tryz.ntmps43
      go_wp2_with fail
      rw [← HW1.out]
      go_wp2_with fail
      go_ret
      exact ⟨rfl, C1.out⟩
end Go.Proofs.YtnhemokmgpelaaaGreatDoor
namespace Go.Proofs.YtnhemokmgpelaaaGreatDoor
set_option linter.unusedVariables false
set_option linter.unusedSimpArgs false
open Go.RowKit
theorem count_snoc (l : List UInt8) (x c : UInt8) : Lib.countByte (l ++ [x]) c = Lib.countByte l c + if x = c then 1 else 0 := by
  unfold Lib.countByte
  simp [List.count_append, List.countP_append, List.filter_append, List.count_singleton, List.countP_singleton]
theorem rquoted_any (s : ByteArray) (w : World) (hs : s.size ≤ 200) : Calls Tryz.prog 64 #[.string s] w fun e w' => ∃ q : ByteArray, e = .returned (.string q) ∧ (q.size : Int) = quotN s ∧ w = w' := by
  obtain ⟨R, hR⟩ : ∃ R, R = quotN s := ⟨_, rfl⟩
  rw [← hR]
  unfold quotN at hR
  have HR := Lib.hid hR
  clear hR
  go_enter Tryz.func64, Tryz.ntmps64
  go_wp2_with fail
  go_loop [3, 4] (fun o i => ∃ (p : Nat) (q : ByteArray), o = .string q ∧ i = .int .i64 p ∧ p ≤ s.size ∧ Hid (q.size = 1 + p + Lib.countByte (s.data.toList.take p) 34 + Lib.countByte (s.data.toList.take p) 92)) (fun _ i => s.size - (intOf i).toNat)
  case atStart => exact ⟨0, ⟨#[34]⟩, rfl, rfl, Nat.zero_le _, Lib.hid (by simp [Lib.countByte]; rfl)⟩
  case round =>
    obtain ⟨p, q, rfl, rfl, hp, HQ⟩ := hrel
    have p0 : (0 : Int) ≤ (p : Int) := by omega
    have hqs : q.size ≤ 1000 := by
      have h1 := count_le (s.data.toList.take p) 34
      have h2 := count_le (s.data.toList.take p) 92
      have h3 : (s.data.toList.take p).length ≤ 200 := by simp; omega
      have := HQ.out
      omega
    by_cases hlt : p < s.size
    · have hc : s.data.toList.take (p + 1) = s.data.toList.take p ++ [s[p]'hlt] := by
        rw [List.take_succ_eq_append_getElem (by simpa using hlt)]
        simp [ByteArray.getElem_eq_getElem_data]
      have h1 := count_snoc (s.data.toList.take p) (s[p]'hlt) 34
      have h2 := count_snoc (s.data.toList.take p) (s[p]'hlt) 92
      rw [← hc] at h1 h2
      have H1 := Lib.hid h1
      have H2 := Lib.hid h2
      have p1 : (p : Int) < (s.size : Int) := by omega
      have hz1 : (⟨#[92]⟩ : ByteArray).size = 1 := rfl
      have hz2 : (s.extract p (p + 1)).size = 1 := by rw [ByteArray.size_extract]; omega
      clear h1 h2 hc
      by_cases q1 : s[p]'hlt = 34
      · rw [if_pos q1] at H1
        rw [if_neg (by rw [q1]; decide)] at H2
        go_wp2_with fail
        exact ⟨⟨p + 1, _, rfl, by go_num, by omega, Lib.hid (by rw [H1.out, H2.out]; have := HQ.out; simp only [ByteArray.size_append, hz1, hz2]; omega)⟩, by simp [intOf]; omega⟩
      · by_cases q2 : s[p]'hlt = 92
        · rw [if_neg q1] at H1
          rw [if_pos q2] at H2
          go_wp2_with fail
          exact ⟨⟨p + 1, _, rfl, by go_num, by omega, Lib.hid (by rw [H1.out, H2.out]; have := HQ.out; simp only [ByteArray.size_append, hz1, hz2]; omega)⟩, by simp [intOf]; omega⟩
        · rw [if_neg q1] at H1
          rw [if_neg q2] at H2
          have n1 : ¬ ((s[p]'hlt).toNat = 34) := fun h => q1 (UInt8.toNat_inj.1 h)
          have n2 : ¬ ((s[p]'hlt).toNat = 92) := fun h => q2 (UInt8.toNat_inj.1 h)
          have m1 : (((s[p]'hlt).toNat : Int) == 34) = false := beq_eq_false_iff_ne.2 (by omega)
          have m2 : (((s[p]'hlt).toNat : Int) == 92) = false := beq_eq_false_iff_ne.2 (by omega)
          go_wp2_with fail
          exact ⟨⟨p + 1, _, rfl, by go_num, by omega, Lib.hid (by rw [H1.out, H2.out]; have := HQ.out; simp only [ByteArray.size_append, hz1, hz2]; omega)⟩, by simp [intOf]; omega⟩
    · have hps : p = s.size := by omega
      have hpn : ¬ ((p : Int) < (s.size : Int)) := by omega
      have ht : s.data.toList.take p = s.data.toList := List.take_of_length_le (by simp; omega)
      have HQ2 := HQ.out
      rw [ht] at HQ2
      have HQ3 := Lib.hid HQ2
      clear HQ2 ht
      go_wp2_with fail
      go_ret
      exact ⟨_, rfl, by rw [HR.out]; have := HQ3.out; simp only [ByteArray.size_append, show (⟨#[34]⟩ : ByteArray).size = 1 from rfl]; omega, rfl⟩
theorem par_bytes {v : List Ce} (hgood : ∀ c ∈ v, c.good) (ht : Tiny v) {f i j lv : Nat} {tl : Int} (hf : v.length < f + i) (h : parP v f i = some (j, lv, tl)) : 0 ≤ tl ∧ tl + 1000 * (i : Int) ≤ 1000 * (j : Int) := by
  obtain ⟨-, s', -, h2⟩ := (look_par v hgood f i hf ⟨0, 1000 * (i : Int), false, false⟩ [] keyTop_nil).2 _ _ _ h
  have := h2.bytes ht (by simp only; omega) (Int.le_refl _)
  simp only at this
  omega
set_option maxHeartbeats 16000000 in
set_option maxRecDepth 100000 in
theorem rtext_any (a : Option Addr) (c : Nat) (l : List Ce) (hl : l.length ≤ 3518437208780) (hg : ∀ x ∈ l, x.good) (hty : Tiny l) : ∀ f i w, SlIs ceC 4 w a l.length l → l.length < f + i → f ≤ 3518437208800 → TabW w → ∀ j lv tl, parP l f i = some (j, lv, tl) →
    Calls Tryz.prog 44 #[.slice a l.length c, .int .i64 i] w fun e w' => ∃ t : ByteArray, e = .returned (.string t) ∧ (t.size : Int) = tl ∧ Chg [] w w' := by
  intro f
  induction f with
  | zero => intro i w hs hf hf6 ht j lv tl h; cases h
  | succ f ih =>
    intro i w hs hf hf6 ht j lv tl hp0
    have hpb := par_bytes hg hty hf hp0
    have hp := hp0
    rw [parP] at hp
    split at hp
    · cases hp
    rename_i x hx
    obtain ⟨hi, hxe⟩ := List.getElem?_eq_some_iff.1 hx
    split at hp
    · cases hp
    rename_i hpl
    obtain ⟨g1, o1, rfl, hb1, hbr, hcc⟩ := hs.elem (Chg.refl _ _) i hi
    rw [hxe] at hcc
    have hxg := hg _ (List.getElem_mem hi)
    rw [hxe] at hxg
    have hxs := hty.2 _ (List.getElem_mem hi)
    rw [hxe] at hxs
    obtain ⟨k, n, s, cn⟩ := x
    have hxs : s.size ≤ 200 := hxs
    have d0 := hcc 0 (by omega)
    have d1 := hcc 1 (by omega)
    have d2 := hcc 2 (by omega)
    have d3 := hcc 3 (by omega)
    simp only [ceC, List.getElem?_cons_zero, List.getElem?_cons_succ, Nat.add_zero] at d0 d1 d2 d3
    have i0 : (0 : Int) ≤ (i : Int) := by omega
    have i1 : (i : Int) < (l.length : Int) := by omega
    obtain ⟨W1, hW1⟩ : ∃ W1, W1 = w.alloc (.cells #[.int .i64 k, .int .i64 n, .string s, .int .i64 cn] 74) := ⟨_, rfl⟩
    have C1 := Lib.hid (show Chg [] w W1 by rw [hW1]; exact (Chg.refl _ _).alloc _)
    have X1 := Lib.hid (show W1.heap[w.heap.size]? = some (ceO ⟨k, n, s, cn⟩) by rw [hW1]; exact heap_alloc_new _ _)
    have x1 := blk_cell X1.out
    unfold ceO at x1
    have HW1 := Lib.hid hW1
    have IH := Lib.hid (fun i' (h : i < i') w' (hc : Chg [] w w') => ih i' w' (hs.kept hc) (by omega) (by omega) (ht.kept hc))
    have HN := Lib.hid (next_all (some ⟨g1, o1, none⟩) c l hl hg f (i + 1) w hs (by omega))
    have HG := Lib.hid (par_grows l f)
    have HPB := Lib.hid (fun i' (h : i < i') j lv tl (hj : parP l f i' = some (j, lv, tl)) => par_bytes hg hty (show l.length < f + i' by omega) hj)
    have HSL := Lib.hid hs
    have HT := Lib.hid (ht.kept C1.out)
    have hl200 := hty.1
    have hpl : plainB ⟨k, n, s, cn⟩ = true := by simpa using hpl
    clear hW1 hcc hx hxe ih hs hp0
    by_cases hk : k = 5 ∨ k = 6
    · obtain ⟨hc0, -, -⟩ := kinds56 hk hpl
      have hc0 : 0 ≤ cn := hc0
      have hcn : cn ≤ 9223372036854775807 := by
        have := hxg.2.2.2
        obtain ⟨u1, u2⟩ : IntKind.i64.min ≤ cn ∧ cn ≤ IntKind.i64.max := by simpa [Lit.wf] using this
        exact u2
      obtain ⟨N, rfl⟩ : ∃ N : Nat, cn = (N : Int) := ⟨cn.toNat, by omega⟩
      simp only [Int.toNat_natCast] at hp
      have HX := Lib.hid (fun w' (hc : Chg [] W1 w') => blk_cell (hc.at (by simp) X1.out))
      unfold ceO at HX
      rcases hk with rfl | rfl
      · rw [if_pos rfl] at hp
        obtain ⟨m0, t0, hp2, -, rfl⟩ := wrapP_some hp
        have HP := Lib.hid hp2
        clear hp hp2 hpl hxg
        go_enter Tryz.func44, Tryz.ntmps44
        go_wp2_with fail
        rw [← HW1.out]
        go_wp2_with fail
        go_loopw [6, 7, 8] (fun oo at_ t wr => ∃ (k q m : Nat) (s2 : Int) (LST : Option ByteArray) (o : ByteArray), oo = .string o ∧ at_ = .int .i64 q ∧ t = .int .i64 k ∧ k ≤ N ∧ i < q ∧ q ≤ l.length ∧ k + i < q ∧ Hid (elsP (parP l f) (N - k) q m s2 = some (j, m0, t0)) ∧ Hid ((o.size : Int) = s2 + (k - 1 : Nat) ∧ 0 ≤ s2 ∧ s2 + 1000 * ((i : Int) + 1) ≤ 1000 * (q : Int)) ∧ Hid (Chg [] W1 wr)) (fun _ _ t _ => N - (intOf t).toNat)
        case atStart => exact ⟨0, i + 1, 0, 0, none, ⟨#[]⟩, rfl, by go_num, rfl, Nat.zero_le _, by omega, by omega, by omega, HP, Lib.hid ⟨rfl, by omega, by push_cast; omega⟩, Lib.hid (Chg.refl _ _)⟩
        case round =>
          obtain ⟨k, q, m, s2, LST, o, rfl, rfl, rfl, hk, hiq, hql, hkq, HE, HSZ, D⟩ := hrel
          have k0 : (0 : Int) ≤ (k : Int) := by omega
          have q0 : (0 : Int) ≤ (q : Int) := by omega
          have x2 := HX.out wr D.out
          have hos : o.size ≤ 1000000 := by have := HSZ.out; omega
          have D0 := Lib.hid (C1.out.thenSame D.out)
          by_cases hlt : k < N
          · have k1 : (k : Int) < (N : Int) := by omega
            have hst : N - k = (N - (k + 1)) + 1 := by omega
            have hE := HE.out
            rw [hst] at hE
            have LS2 := LST
            obtain ⟨j1, lv1, tl1, hj1, hE2⟩ := els_next hE
            obtain ⟨g2, g3⟩ := HG.out _ _ _ _ hj1
            obtain ⟨g4, g5⟩ := HPB.out (q) (by omega) _ _ _ hj1
            have HE2 := Lib.hid hE2
            have A1 := Lib.hid (fun w' (hc : Chg [] w w') => IH.out (q) (by omega) w' hc _ _ _ hj1)
            have A2 := Lib.hid (fun w' (hc : Chg [] w w') => HN.out (q) w' hc (by omega) (by omega))
            rw [hj1] at A2
            simp only [jZ] at A2
            clear hst hj1 hE2
            by_cases hk0 : k = 0
            · have hk0' : ¬ (0 < k) := by omega
              clear hk0
              go_wp2_with (first | (go_at_call 64; refine (AQ.out _).mono ?_; rintro e w5 ⟨bb, rfl, hbb, rfl⟩; have hbs : bb.size ≤ 1000 := (by have := HQB.out; omega); have HBB := Lib.hid hbb) | (go_at_call 44; refine (A1.out _ D0.out).mono ?_; rintro e w2 ⟨tt, rfl, htt, hc⟩; have hts : tt.size ≤ 200000 := (by omega); have HTT := Lib.hid htt; have D2 := Lib.hid (D.out.thenSame hc); have D3 := Lib.hid (C1.out.thenSame D2.out); have x3 := HX.out w2 D2.out; clear hc) | (go_at_call 62; refine (A2.out _ D3.out).mono ?_; rintro e w3 ⟨rfl, hc⟩; have D4 := Lib.hid (D2.out.thenSame hc); have x4 := HX.out w3 D4.out; clear hc))
              have hk0 : k = 0 := by omega
              refine ⟨⟨k + 1, j1, _, _, LS2, _, rfl, rfl, by go_num, by omega, by omega, by omega, by omega, HE2, Lib.hid ⟨?_, ?_, ?_⟩, D4⟩, by simp [intOf]; omega⟩
              · have := HSZ.out; have := HTT.out; skip; simp only [ByteArray.size_append, show (⟨#[44]⟩ : ByteArray).size = 1 from rfl, show (⟨#[58]⟩ : ByteArray).size = 1 from rfl]; omega
              all_goals (have := HSZ.out; have := HTT.out; skip; omega)
            · have hk0' : 0 < k := by omega
              go_wp2_with (first | (go_at_call 64; refine (AQ.out _).mono ?_; rintro e w5 ⟨bb, rfl, hbb, rfl⟩; have hbs : bb.size ≤ 1000 := (by have := HQB.out; omega); have HBB := Lib.hid hbb) | (go_at_call 44; refine (A1.out _ D0.out).mono ?_; rintro e w2 ⟨tt, rfl, htt, hc⟩; have hts : tt.size ≤ 200000 := (by omega); have HTT := Lib.hid htt; have D2 := Lib.hid (D.out.thenSame hc); have D3 := Lib.hid (C1.out.thenSame D2.out); have x3 := HX.out w2 D2.out; clear hc) | (go_at_call 62; refine (A2.out _ D3.out).mono ?_; rintro e w3 ⟨rfl, hc⟩; have D4 := Lib.hid (D2.out.thenSame hc); have x4 := HX.out w3 D4.out; clear hc))
              refine ⟨⟨k + 1, j1, _, _, LS2, _, rfl, rfl, by go_num, by omega, by omega, by omega, by omega, HE2, Lib.hid ⟨?_, ?_, ?_⟩, D4⟩, by simp [intOf]; omega⟩
              · have := HSZ.out; have := HTT.out; skip; simp only [ByteArray.size_append, show (⟨#[44]⟩ : ByteArray).size = 1 from rfl, show (⟨#[58]⟩ : ByteArray).size = 1 from rfl]; omega
              all_goals (have := HSZ.out; have := HTT.out; skip; omega)
          · have hks : N - k = 0 := by omega
            have hE := HE.out
            rw [hks] at hE
            simp only [elsP, prsP, Option.some.injEq, Prod.mk.injEq] at hE
            obtain ⟨-, -, rfl⟩ := hE
            have hkN : k = N := by omega
            have hkn : ¬ ((k : Int) < (N : Int)) := by omega
            clear hks
            go_wp2_with fail
            go_ret
            exact ⟨_, rfl, by have := HSZ.out; simp only [ByteArray.size_append, show (⟨#[91]⟩ : ByteArray).size = 1 from rfl, show (⟨#[93]⟩ : ByteArray).size = 1 from rfl]; omega, D0.out⟩
      · rw [if_neg (by decide), if_pos rfl] at hp
        obtain ⟨m0, t0, hp2, -, rfl⟩ := wrapP_some hp
        have HP := Lib.hid hp2
        clear hp hp2 hpl hxg
        go_enter Tryz.func44, Tryz.ntmps44
        go_wp2_with fail
        rw [← HW1.out]
        go_wp2_with fail
        go_loopw [6, 7, 8] (fun oo at_ t wr => ∃ (k q m : Nat) (s2 : Int) (LST : Option ByteArray) (o : ByteArray), oo = .string o ∧ at_ = .int .i64 q ∧ t = .int .i64 k ∧ k ≤ N ∧ i < q ∧ q ≤ l.length ∧ k + i < q ∧ Hid (prsP l (parP l f) (N - k) q LST m s2 = some (j, m0, t0)) ∧ Hid ((o.size : Int) = s2 + (k - 1 : Nat) ∧ 0 ≤ s2 ∧ s2 + 1000 * ((i : Int) + 1) ≤ 1000 * (q : Int)) ∧ Hid (Chg [] W1 wr)) (fun _ _ t _ => N - (intOf t).toNat)
        case atStart => exact ⟨0, i + 1, 0, 0, none, ⟨#[]⟩, rfl, by go_num, rfl, Nat.zero_le _, by omega, by omega, by omega, HP, Lib.hid ⟨rfl, by omega, by push_cast; omega⟩, Lib.hid (Chg.refl _ _)⟩
        case round =>
          obtain ⟨k, q, m, s2, LST, o, rfl, rfl, rfl, hk, hiq, hql, hkq, HE, HSZ, D⟩ := hrel
          have k0 : (0 : Int) ≤ (k : Int) := by omega
          have q0 : (0 : Int) ≤ (q : Int) := by omega
          have x2 := HX.out wr D.out
          have hos : o.size ≤ 1000000 := by have := HSZ.out; omega
          have D0 := Lib.hid (C1.out.thenSame D.out)
          by_cases hlt : k < N
          · have k1 : (k : Int) < (N : Int) := by omega
            have hst : N - k = (N - (k + 1)) + 1 := by omega
            have hE := HE.out
            rw [hst] at hE
            skip
            (obtain ⟨c0, j1, lv1, tl1, hc0', hj1, hE2⟩ := prs_next hE; obtain ⟨hql2, hce⟩ := List.getElem?_eq_some_iff.1 hc0'; obtain ⟨LS2, hLS⟩ : ∃ LS2, LS2 = some c0.str := ⟨_, rfl⟩; rw [← hLS] at hE2; clear hLS hc0'; have hcs : c0.str.size ≤ 200 := (by rw [← hce]; exact hty.2 _ (List.getElem_mem hql2)); have u2 : wr.cell? ⟨g1, o1 + q * 4 + 2, none⟩ = some (.string c0.str) := (by obtain ⟨g2, o2, e2, -, -, hcc⟩ := HSL.out.elem D0.out q hql2; cases e2; rw [hce] at hcc; exact hcc 2 (by omega)); have AQ := Lib.hid (fun w' => rquoted_any c0.str w' hcs); have HQB := Lib.hid (quot_small hcs).2; have hq1 : (q : Int) < (l.length : Int) := (by omega); clear hce hcs)
            obtain ⟨g2, g3⟩ := HG.out _ _ _ _ hj1
            obtain ⟨g4, g5⟩ := HPB.out (q + 1) (by omega) _ _ _ hj1
            have HE2 := Lib.hid hE2
            have A1 := Lib.hid (fun w' (hc : Chg [] w w') => IH.out (q + 1) (by omega) w' hc _ _ _ hj1)
            have A2 := Lib.hid (fun w' (hc : Chg [] w w') => HN.out (q + 1) w' hc (by omega) (by omega))
            rw [hj1] at A2
            simp only [jZ] at A2
            clear hst hj1 hE2
            by_cases hk0 : k = 0
            · have hk0' : ¬ (0 < k) := by omega
              clear hk0
              go_wp2_with (first | (go_at_call 64; refine (AQ.out _).mono ?_; rintro e w5 ⟨bb, rfl, hbb, rfl⟩; have hbs : bb.size ≤ 1000 := (by have := HQB.out; omega); have HBB := Lib.hid hbb) | (go_at_call 44; refine (A1.out _ D0.out).mono ?_; rintro e w2 ⟨tt, rfl, htt, hc⟩; have hts : tt.size ≤ 200000 := (by omega); have HTT := Lib.hid htt; have D2 := Lib.hid (D.out.thenSame hc); have D3 := Lib.hid (C1.out.thenSame D2.out); have x3 := HX.out w2 D2.out; clear hc) | (go_at_call 62; refine (A2.out _ D3.out).mono ?_; rintro e w3 ⟨rfl, hc⟩; have D4 := Lib.hid (D2.out.thenSame hc); have x4 := HX.out w3 D4.out; clear hc))
              have hk0 : k = 0 := by omega
              refine ⟨⟨k + 1, j1, _, _, LS2, _, rfl, rfl, by go_num, by omega, by omega, by omega, by omega, HE2, Lib.hid ⟨?_, ?_, ?_⟩, D4⟩, by simp [intOf]; omega⟩
              · have := HSZ.out; have := HTT.out; have := HBB.out; have := HQB.out; simp only [ByteArray.size_append, show (⟨#[44]⟩ : ByteArray).size = 1 from rfl, show (⟨#[58]⟩ : ByteArray).size = 1 from rfl]; omega
              all_goals (have := HSZ.out; have := HTT.out; have := HBB.out; have := HQB.out; omega)
            · have hk0' : 0 < k := by omega
              go_wp2_with (first | (go_at_call 64; refine (AQ.out _).mono ?_; rintro e w5 ⟨bb, rfl, hbb, rfl⟩; have hbs : bb.size ≤ 1000 := (by have := HQB.out; omega); have HBB := Lib.hid hbb) | (go_at_call 44; refine (A1.out _ D0.out).mono ?_; rintro e w2 ⟨tt, rfl, htt, hc⟩; have hts : tt.size ≤ 200000 := (by omega); have HTT := Lib.hid htt; have D2 := Lib.hid (D.out.thenSame hc); have D3 := Lib.hid (C1.out.thenSame D2.out); have x3 := HX.out w2 D2.out; clear hc) | (go_at_call 62; refine (A2.out _ D3.out).mono ?_; rintro e w3 ⟨rfl, hc⟩; have D4 := Lib.hid (D2.out.thenSame hc); have x4 := HX.out w3 D4.out; clear hc))
              refine ⟨⟨k + 1, j1, _, _, LS2, _, rfl, rfl, by go_num, by omega, by omega, by omega, by omega, HE2, Lib.hid ⟨?_, ?_, ?_⟩, D4⟩, by simp [intOf]; omega⟩
              · have := HSZ.out; have := HTT.out; have := HBB.out; have := HQB.out; simp only [ByteArray.size_append, show (⟨#[44]⟩ : ByteArray).size = 1 from rfl, show (⟨#[58]⟩ : ByteArray).size = 1 from rfl]; omega
              all_goals (have := HSZ.out; have := HTT.out; have := HBB.out; have := HQB.out; omega)
          · have hks : N - k = 0 := by omega
            have hE := HE.out
            rw [hks] at hE
            simp only [elsP, prsP, Option.some.injEq, Prod.mk.injEq] at hE
            obtain ⟨-, -, rfl⟩ := hE
            have hkN : k = N := by omega
            have hkn : ¬ ((k : Int) < (N : Int)) := by omega
            clear hks
            go_wp2_with fail
            go_ret
            exact ⟨_, rfl, by have := HSZ.out; simp only [ByteArray.size_append, show (⟨#[123]⟩ : ByteArray).size = 1 from rfl, show (⟨#[125]⟩ : ByteArray).size = 1 from rfl]; omega, D0.out⟩
    · have h5 : k ≠ 5 := fun h => hk (.inl h)
      have h6 : k ≠ 6 := fun h => hk (.inr h)
      rw [if_neg h5, if_neg h6] at hp
      simp only [Option.some.injEq, Prod.mk.injEq] at hp
      obtain ⟨-, -, rfl⟩ := hp
      unfold leafN
      unfold plainB at hpl
      simp only at hpl ⊢
      by_cases h1 : k = 1
      · subst h1
        clear hpl
        go_enter Tryz.func44, Tryz.ntmps44
        go_wp2_with fail
        rw [← HW1.out]
        go_wp2_with fail
        go_ret
        exact ⟨_, rfl, rfl, C1.out⟩
      rw [if_neg h1] at hpl ⊢
      have k1 : (k == 1) = false := by simpa using h1
      by_cases h2 : k = 2
      · subst h2
        rw [if_pos rfl] at hpl ⊢
        simp only [Bool.and_eq_true, Bool.or_eq_true, beq_iff_eq] at hpl
        obtain ⟨⟨hn, -⟩, -⟩ := hpl
        rcases hn with rfl | rfl
        · go_enter Tryz.func44, Tryz.ntmps44
          go_wp2_with fail
          rw [← HW1.out]
          go_wp2_with fail
          go_ret
          exact ⟨_, rfl, rfl, C1.out⟩
        · go_enter Tryz.func44, Tryz.ntmps44
          go_wp2_with fail
          rw [← HW1.out]
          go_wp2_with fail
          go_ret
          exact ⟨_, rfl, rfl, C1.out⟩
      rw [if_neg h2] at hpl ⊢
      have k2 : (k == 2) = false := by simpa using h2
      by_cases h3 : k = 3
      · subst h3
        have hb : -9223372036854775808 ≤ n ∧ n ≤ 9223372036854775807 := by
          have := hxg.2.1
          obtain ⟨u1, u2⟩ : IntKind.i64.min ≤ n ∧ n ≤ IntKind.i64.max := by simpa [Lit.wf] using this
          exact ⟨u1, u2⟩
        have A := Lib.hid (Tryz.strconv_Itoa n hb.1 hb.2 W1 HT.out)
        clear hpl hxg
        go_enter Tryz.func44, Tryz.ntmps44
        go_wp2_with fail
        rw [← HW1.out]
        go_wp2_with fail
        refine A.out.mono ?_; rintro e w2 ⟨rfl, kk, os, rfl⟩
        have C2 := Lib.hid (chg_regrown (W1.drewN kk) (W1.drewN kk).drawn os)
        go_wp2_with fail
        go_ret
        exact ⟨_, rfl, by simp [ByteArray.size], C1.out.thenSame (((Chg.refl _ _).drewN kk).thenSame C2.out)⟩
      rw [if_neg h3] at hpl ⊢
      have k3 : (k == 3) = false := by simpa using h3
      by_cases h4 : k = 4
      · subst h4
        have A := Lib.hid (rquoted_any s W1 hxs)
        clear hpl hxg
        go_enter Tryz.func44, Tryz.ntmps44
        go_wp2_with fail
        rw [← HW1.out]
        go_wp2_with fail
        refine A.out.mono ?_; rintro e w2 ⟨q, rfl, hq, rfl⟩
        go_wp2_with fail
        go_ret
        exact ⟨_, rfl, hq, C1.out⟩
      · exfalso
        rw [if_neg h4, if_neg hk] at hpl
        cases hpl
end Go.Proofs.YtnhemokmgpelaaaGreatDoor
namespace Go.Proofs.YtnhemokmgpelaaaGreatDoor
set_option linter.unusedVariables false
set_option linter.unusedSimpArgs false
open Go.RowKit
theorem any_step {p : Ce → Bool} {l : List Ce} {k : Nat} (hk : k < l.length) (h : (l.take k).any p = false) (hp : p l[k] = false) : (l.take (k + 1)).any p = false := by
  rw [List.take_succ_eq_append_getElem hk, List.any_append, h]
  simp [hp]
theorem any_at {p : Ce → Bool} {l : List Ce} {k : Nat} (hk : k < l.length) (hp : p l[k] = true) : l.any p = true := List.any_eq_true.2 ⟨_, List.getElem_mem hk, hp⟩
theorem badN_no {x : Ce} (h : x.kind ≠ 3 ∨ (-1000000000000 ≤ x.n ∧ x.n ≤ 1000000000000)) : badN x = false := by
  unfold badN validB
  rcases h with h | ⟨h1, h2⟩
  · have : (x.kind == 3) = false := by simpa using h
    rw [this]; rfl
  · rw [decide_eq_true h1, decide_eq_true h2]; simp
theorem badN_yes {x : Ce} (h : x.kind = 3) (h2 : ¬ (-1000000000000 ≤ x.n) ∨ ¬ (x.n ≤ 1000000000000)) : badN x = true := by
  unfold badN validB
  rw [h]
  rcases h2 with h2 | h2
  · rw [decide_eq_false h2]; rfl
  · rw [decide_eq_false h2, Bool.and_false]; rfl
set_option maxHeartbeats 16000000 in
set_option maxRecDepth 100000 in
theorem rcheck_any (a : Option Addr) (c : Nat) (l : List Ce) (w : World) (h : SlIs ceC 4 w a l.length l) (hl : l.length ≤ 3518437208780) (hg : ∀ x ∈ l, x.good) (ht : TabW w) :
    Calls Tryz.prog 22 #[.slice a l.length c] w fun e w' => e = .returned (.int .i64 (checkZ l)) ∧ Chg [] w w' := by
  rw [← checkR_eq l hg]
  have AF := Lib.hid (formed_any a c l w hl h hg)
  obtain ⟨R, hR⟩ : ∃ R, R = checkR l := ⟨_, rfl⟩
  rw [← hR]
  unfold checkR at hR
  have key : (decide (0 < l.length) && jZ (parP l (l.length + 1) 0) == (l.length : Int)) = false ∧ R = 1 ∨ (decide (0 < l.length) && jZ (parP l (l.length + 1) 0) == (l.length : Int)) = true ∧ ∃ lv tl, parP l (l.length + 1) 0 = some (l.length, lv, tl) ∧ R = if l.any badN = true then 2 else if 200 < l.length then 3 else if 8 < lv then 3 else if l.any longN = true then 3 else if 4000 < tl then 3 else 0 := by
    cases hp : parP l (l.length + 1) 0 with
    | none =>
      rw [hp] at hR
      left
      refine ⟨?_, hR⟩
      have : ((-1 : Int) == (l.length : Int)) = false := beq_eq_false_iff_ne.2 (by omega)
      simp [jZ, this]
    | some q =>
      obtain ⟨j, lv, tl⟩ := q
      rw [hp] at hR
      simp only at hR
      by_cases h0 : l.length = 0
      · left
        rw [if_pos h0] at hR
        exact ⟨by simp [h0], hR⟩
      · rw [if_neg h0] at hR
        by_cases hj : j = l.length
        · right
          subst hj
          rw [if_neg (by simp)] at hR
          exact ⟨by simp [jZ]; omega, lv, tl, rfl, hR⟩
        · left
          rw [if_pos hj] at hR
          exact ⟨by simp [jZ]; intro _; omega, hR⟩
  clear hR
  rcases key with ⟨k1, rfl⟩ | ⟨k1, lv, tl, hp, hR⟩
  · rw [k1] at AF
    clear k1
    go_enter Tryz.func22, Tryz.ntmps22
    go_wp2_with fail
    refine AF.out.mono ?_; rintro e w2 ⟨rfl, hc⟩
    have C := Lib.hid hc
    clear hc AF
    go_wp2_with fail
    go_ret
    exact ⟨rfl, C.out⟩
  rw [k1] at AF
  have HS := Lib.hid h
  have HGD := Lib.hid hg
  have HR := Lib.hid hR
  have HT := Lib.hid ht
  have AL := Lib.hid (fun w' (hc : Chg [] w w') => levels_any a c l hl hg (l.length + 1) 0 w' (h.kept hc) (by omega) (by omega) _ _ _ hp)
  have AT := Lib.hid (fun (hty : Tiny l) w' (hc : Chg [] w w') => rtext_any a c l hl hg hty (l.length + 1) 0 w' (h.kept hc) (by omega) (by omega) (ht.kept hc) _ _ _ hp)
  have hlv : lv ≤ l.length + 1 := par_depth _ _ _ _ _ _ hp
  have HPB := Lib.hid (fun (hty : Tiny l) => par_bytes hg hty (show l.length < (l.length + 1) + 0 by omega) hp)
  clear k1 h hg hR ht hp
  go_enter Tryz.func22, Tryz.ntmps22
  go_wp2_with fail
  refine AF.out.mono ?_; rintro e w2 ⟨rfl, hc⟩
  have C := Lib.hid hc
  clear hc AF
  go_wp2_with fail
  go_loopw [3] (fun t wr => ∃ k : Nat, t = .int .i64 k ∧ k ≤ l.length ∧ Hid ((l.take k).any badN = false) ∧ wr = w2) (fun t _ => l.length - (intOf t).toNat)
  case atStart => exact ⟨0, rfl, Nat.zero_le _, Lib.hid (by simp), rfl⟩
  case round =>
    obtain ⟨k, rfl, hk, HA, rfl⟩ := hrel
    have k0 : (0 : Int) ≤ (k : Int) := by omega
    by_cases hlt : k < l.length
    · have k1 : (k : Int) < (l.length : Int) := by omega
      obtain ⟨g1, o1, rfl, hb1, hbr, hcc⟩ := HS.out.elem C.out k hlt
      have HST := Lib.hid (fun h => any_step (p := badN) hlt HA.out h)
      have HAT := Lib.hid (any_at (p := badN) hlt)
      generalize l[k] = x at *
      have d0 := hcc 0 (by omega)
      have d1 := hcc 1 (by omega)
      simp only [ceC, List.getElem?_cons_zero, List.getElem?_cons_succ, Nat.add_zero] at d0 d1
      clear hcc
      by_cases h3 : x.kind = 3
      · have hk3 := h3
        rw [h3] at d0
        by_cases n1 : -1000000000000 ≤ x.n
        · by_cases n2 : x.n ≤ 1000000000000
          · have HB := Lib.hid (HST.out (badN_no (.inr ⟨n1, n2⟩)))
            generalize x.n = n at *
            clear h3 hk3
            go_wp2_with fail
            exact ⟨⟨k + 1, by go_num, by omega, HB, trivial⟩, by simp [intOf]; omega⟩
          · have HE : Hid (R = 2) := Lib.hid (by rw [HR.out, if_pos (HAT.out (badN_yes hk3 (.inr n2)))])
            generalize x.n = n at *
            clear h3 hk3
            go_wp2_with fail
            go_ret
            exact ⟨by rw [HE.out]; rfl, C.out⟩
        · have HE : Hid (R = 2) := Lib.hid (by rw [HR.out, if_pos (HAT.out (badN_yes hk3 (.inl n1)))])
          generalize x.n = n at *
          clear h3 hk3
          go_wp2_with fail
          go_ret
          exact ⟨by rw [HE.out]; rfl, C.out⟩
      · have HB := Lib.hid (HST.out (badN_no (.inl h3)))
        have h3' : (x.kind == 3) = false := by simpa using h3
        generalize x.kind = kd at *
        clear h3
        go_wp2_with fail
        exact ⟨⟨k + 1, by go_num, by omega, HB, trivial⟩, by simp [intOf]; omega⟩
    · have hkn : ¬ ((k : Int) < (l.length : Int)) := by omega
      have HR2 : Hid (R = if 200 < l.length then 3 else if 8 < lv then 3 else if l.any longN = true then 3 else if 4000 < tl then 3 else 0) := Lib.hid (by
        have h1 := HA.out
        rw [List.take_of_length_le (by omega)] at h1
        rw [HR.out, h1, if_neg (by simp)])
      clear HA HR
      by_cases h200 : 200 < l.length
      · have HE : Hid (R = 3) := Lib.hid (by rw [HR2.out, if_pos h200])
        have h200' : (200 : Int) < (l.length : Int) := by omega
        go_wp2_with fail
        go_ret
        exact ⟨by rw [HE.out]; rfl, C.out⟩
      have h200' : (l.length : Int) ≤ 200 := by omega
      have HR3 := Lib.hid (HR2.out.trans (if_neg h200))
      have hlv0 : (0 : Int) ≤ (lv : Int) := by omega
      clear HR2
      by_cases h8 : 8 < lv
      · have HE : Hid (R = 3) := Lib.hid (by rw [HR3.out, if_pos h8])
        have h8' : (8 : Int) < (lv : Int) := by omega
        go_wp2_with (go_at_call 43; refine (AL.out _ C.out).mono ?_; rintro e w3 ⟨rfl, hc⟩; have C3 := Lib.hid (C.out.thenSame hc); clear hc)
        go_ret
        exact ⟨by rw [HE.out]; rfl, C3.out⟩
      have h8' : (lv : Int) ≤ 8 := by omega
      have HR4 := Lib.hid (HR3.out.trans (if_neg h8))
      clear HR3
      go_wp2_with (go_at_call 43; refine (AL.out _ C.out).mono ?_; rintro e w3 ⟨rfl, hc⟩; have C3 := Lib.hid (C.out.thenSame hc); clear hc)
      go_loopw [4] (fun t wr => ∃ k : Nat, t = .int .i64 k ∧ k ≤ l.length ∧ Hid ((l.take k).any longN = false) ∧ wr = w3) (fun t _ => l.length - (intOf t).toNat)
      case atStart => exact ⟨0, rfl, Nat.zero_le _, Lib.hid (by simp), rfl⟩
      case round =>
        obtain ⟨q, rfl, hq, HA, rfl⟩ := hrel
        have q0 : (0 : Int) ≤ (q : Int) := by omega
        by_cases hlt2 : q < l.length
        · have q1 : (q : Int) < (l.length : Int) := by omega
          obtain ⟨g1, o1, rfl, hb1, hbr, hcc⟩ := HS.out.elem C3.out q hlt2
          have HST := Lib.hid (fun h => any_step (p := longN) hlt2 HA.out h)
          have HAT := Lib.hid (any_at (p := longN) hlt2)
          generalize l[q] = x at *
          have d2 := hcc 2 (by omega)
          simp only [ceC, List.getElem?_cons_zero, List.getElem?_cons_succ, Nat.add_zero] at d2
          clear hcc
          by_cases hs : (200 : Int) < (x.str.size : Int)
          · have HE : Hid (R = 3) := Lib.hid (by rw [HR4.out, if_pos (HAT.out (decide_eq_true hs))])
            go_wp2_with fail
            go_ret
            exact ⟨by rw [HE.out]; rfl, C3.out⟩
          · have HB := Lib.hid (HST.out (decide_eq_false hs))
            have hs' : (x.str.size : Int) ≤ 200 := by omega
            go_wp2_with fail
            exact ⟨⟨q + 1, by go_num, by omega, HB, trivial⟩, by simp [intOf]; omega⟩
        · have hqn : ¬ ((q : Int) < (l.length : Int)) := by omega
          have h1 := HA.out
          rw [List.take_of_length_le (by omega)] at h1
          have HR5 := Lib.hid (HR4.out.trans (if_neg (by rw [h1]; simp)))
          have hty : Tiny l := ⟨by omega, fun c hc => by
            have h2 : longN c = false := by
              cases hb : longN c
              · rfl
              · rw [List.any_eq_true.2 ⟨c, hc, hb⟩] at h1; cases h1
            unfold longN at h2
            simp only [decide_eq_false_iff_not] at h2
            omega⟩
          have A := Lib.hid (AT.out hty _ C3.out)
          have hpb := HPB.out hty
          clear h1 hty HA HR4
          go_wp2_with fail
          refine A.out.mono ?_; rintro e w4 ⟨t, rfl, hts, hc⟩
          have C4 := Lib.hid (C3.out.thenSame hc)
          clear hc A
          by_cases h4 : (4000 : Int) < (t.size : Int)
          · have HE : Hid (R = 3) := Lib.hid (by rw [HR5.out, if_pos (by omega)])
            go_wp2_with fail
            go_ret
            exact ⟨by rw [HE.out]; rfl, C4.out⟩
          · have HE : Hid (R = 0) := Lib.hid (by rw [HR5.out, if_neg (by omega)])
            go_wp2_with fail
            go_ret
            exact ⟨by rw [HE.out]; rfl, C4.out⟩
end Go.Proofs.YtnhemokmgpelaaaGreatDoor
