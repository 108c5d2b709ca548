/- Values: contract of the reference's Next. No condition. -/
import Derived.Test.YtnhemokmgpelaaaGreatDoorMRvA
namespace Go.Proofs.YtnhemokmgpelaaaGreatDoor
set_option linter.unusedVariables false
set_option linter.unusedSimpArgs false
open Go.RowKit
theorem next_end (a : Option Addr) (c : Nat) (l : List Ce) (i : Nat) (w : World) (hl : l.length ≤ 3518437208780) (hi : l.length ≤ i) (hi2 : i ≤ 3518437208781) : Calls Tryz.prog 62 #[.slice a l.length c, .int .i64 i] w fun e w' => e = .returned (.int .i64 (-1)) ∧ Chg [] w w' := by
  have h1 : (l.length : Int) ≤ (i : Int) := by omega
  have h0 : (0 : Int) ≤ (i : Int) := by omega
  go_enter Tryz.func62, Tryz.ntmps62
  go_wp2_with fail
  go_ret
  exact ⟨rfl, Chg.refl _ _⟩
theorem after_t (i : Nat) (w : World) (hi : (i : Int) ≤ 3518437208780) : Calls Tryz.prog 80 #[.bool true, .int .i64 i] w fun e w' => e = .returned (.int .i64 ((i : Int) + 1)) ∧ w = w' := after_any true i w hi
theorem after_f (i : Nat) (w : World) (hi : (i : Int) ≤ 3518437208780) : Calls Tryz.prog 80 #[.bool false, .int .i64 i] w fun e w' => e = .returned (.int .i64 (-1)) ∧ w = w' := after_any false i w hi
theorem jz_wrap (n : Nat) (P : Par) : Ending.returned (.int .i64 (jZ P)) = Ending.returned (.int .i64 (jZ (wrapP n P))) := by cases P <;> rfl
set_option maxHeartbeats 16000000 in
set_option maxRecDepth 100000 in
theorem next_in (a : Option Addr) (c : Nat) (l : List Ce) (f i : Nat) (w : World) (hl : l.length ≤ 3518437208780) (hs : SlIs ceC 4 w a l.length l) (hg : ∀ x ∈ l, x.good) (hi : i < l.length) (H : ∀ w', Chg [] w w' → NextC l a c f (i + 1) w') : Calls Tryz.prog 62 #[.slice a l.length c, .int .i64 i] w fun e w' => e = .returned (.int .i64 (jZ (parP l (f + 1) i))) ∧ Chg [] w w' := by
  rw [parP, List.getElem?_eq_getElem hi]
  simp only
  obtain ⟨g1, o1, rfl, hb1, hbr, hcc⟩ := hs.elem (Chg.refl _ _) i hi
  have hxg := hg _ (List.getElem_mem hi)
  have E := Lib.hid (fun (w' : World) (hc : Chg [] w w') (n : Int) (h0 : 0 ≤ n) (hn : n ≤ 9223372036854775807) => els_any (some ⟨g1, o1, none⟩) c l f (i + 1) w' hl (H w' hc) (i + 1) (Nat.le_refl _) (by omega) n h0 hn)
  have R := Lib.hid (fun (w' : World) (hc : Chg [] w w') (n : Int) (h0 : 0 ≤ n) (hn : n ≤ 9223372036854775807) => prs_any (some ⟨g1, o1, none⟩) c l f (i + 1) w' hl (hs.kept hc) hg (H w' hc) (i + 1) (Nat.le_refl _) (by omega) n h0 hn)
  generalize l[i] = x at *
  obtain ⟨k, n, s, cn⟩ := x
  have d0 := hcc 0 (by omega)
  have d1 := hcc 1 (by omega)
  have d2 := hcc 2 (by omega)
  have d3 := hcc 3 (by omega)
  simp only [ceC, List.getElem?_cons_zero, List.getElem?_cons_succ, Nat.add_zero] at d0 d1 d2 d3
  have i0 : (0 : Int) ≤ (i : Int) := by omega
  have i1 : (i : Int) < (l.length : Int) := by omega
  clear hcc H hs hg
  have hb := empty_cases s
  have hs9 : s.size ≤ maxLen := hxg.2.2.1
  have hcn : cn ≤ 9223372036854775807 := by
    have := hxg.2.2.2
    obtain ⟨u1, u2⟩ : IntKind.i64.min ≤ cn ∧ cn ≤ IntKind.i64.max := by simpa [Lit.wf] using this
    exact u2
  obtain ⟨W1, hW1⟩ : ∃ W1, W1 = w.alloc (.cells #[.int .i64 k, .int .i64 n, .string s, .int .i64 cn] 74) := ⟨_, rfl⟩
  have C1 := Lib.hid (show Chg [] w W1 by rw [hW1]; exact (Chg.refl _ _).alloc _)
  have X1 := Lib.hid (show W1.heap[w.heap.size]? = some (ceO ⟨k, n, s, cn⟩) by rw [hW1]; exact heap_alloc_new _ _)
  have x1 := blk_cell X1.out
  unfold ceO at x1
  have HW1 := Lib.hid hW1
  have AT := Lib.hid (after_t i W1 (by omega))
  have AF := Lib.hid (after_f i W1 (by omega))
  obtain ⟨P, hP⟩ : ∃ P, P = plainB ⟨k, n, s, cn⟩ := ⟨_, rfl⟩
  obtain ⟨RZ, hR⟩ : ∃ RZ, RZ = jZ (if P = false then none else if k = 5 then wrapP cn.toNat (elsP (parP l f) cn.toNat (i + 1) 0 0) else if k = 6 then wrapP cn.toNat (prsP l (parP l f) cn.toNat (i + 1) none 0 0) else some (i + 1, 1, leafN ⟨k, n, s, cn⟩)) := ⟨_, rfl⟩
  rw [← hP, ← hR]
  have HR := Lib.hid hR
  have HRL : Hid (k ≠ 5 → k ≠ 6 → RZ = if P = false then -1 else (i : Int) + 1) := Lib.hid (fun h5 h6 => by
    rw [hR, if_neg h5, if_neg h6]
    cases P <;> rfl)
  have HK := Lib.hid (rkey_any ⟨k, n, s, cn⟩ W1 hs9)
  unfold ceV at HK
  simp only at HK
  rw [← hP] at HK
  unfold plainB emptyB at hP
  simp only at hP
  have HP := Lib.hid hP
  clear hW1 hR hxg hP
  by_cases h1 : k = 1
  · subst h1
    cases b1 : n == 0 <;> rcases hb with ⟨b2, b2e⟩ | ⟨b2, b2e⟩ <;> cases b3 : cn == 0
    all_goals
      have HE := Lib.hid (HP.out.trans (by rw [if_pos rfl, b1, b2e, b3]))
      go_enter Tryz.func62, Tryz.ntmps62
      go_upto_region 4 with fail
      rw [← HW1.out]
      go_wp2_with (first | (go_at_call 80; (first | (with_reducible refine AT.out.mono ?_) | (with_reducible refine AF.out.mono ?_)); rintro e w2 ⟨rfl, rfl⟩) | fail)
      go_ret
      exact ⟨by rw [HRL.out (by decide) (by decide), HE.out]; rfl, C1.out⟩
  have k1 : (k == 1) = false := by simpa using h1
  by_cases h2 : k = 2
  · subst h2
    by_cases n0 : n = 0
    · subst n0
      rcases hb with ⟨b2, b2e⟩ | ⟨b2, b2e⟩ <;> cases b3 : cn == 0
      all_goals
        have HE := Lib.hid (HP.out.trans (by rw [if_neg (by decide), if_pos rfl, b2e, b3]))
        go_enter Tryz.func62, Tryz.ntmps62
        go_upto_region 4 with fail
        rw [← HW1.out]
        go_wp2_with (first | (go_at_call 80; (first | (with_reducible refine AT.out.mono ?_) | (with_reducible refine AF.out.mono ?_)); rintro e w2 ⟨rfl, rfl⟩) | fail)
        go_ret
        exact ⟨by rw [HRL.out (by decide) (by decide), HE.out]; rfl, C1.out⟩
    · have n0' : (n == 0) = false := by simpa using n0
      cases b1 : n == 1 <;> rcases hb with ⟨b2, b2e⟩ | ⟨b2, b2e⟩ <;> cases b3 : cn == 0
      all_goals
        have HE := Lib.hid (HP.out.trans (by rw [if_neg (by decide), if_pos rfl, n0', b1, b2e, b3]))
        go_enter Tryz.func62, Tryz.ntmps62
        go_upto_region 4 with fail
        rw [← HW1.out]
        go_wp2_with (first | (go_at_call 80; (first | (with_reducible refine AT.out.mono ?_) | (with_reducible refine AF.out.mono ?_)); rintro e w2 ⟨rfl, rfl⟩) | fail)
        go_ret
        exact ⟨by rw [HRL.out (by decide) (by decide), HE.out]; rfl, C1.out⟩
  have k2 : (k == 2) = false := by simpa using h2
  by_cases h3 : k = 3
  · subst h3
    rcases hb with ⟨b2, b2e⟩ | ⟨b2, b2e⟩ <;> cases b3 : cn == 0
    all_goals
      have HE := Lib.hid (HP.out.trans (by rw [if_neg (by decide), if_neg (by decide), if_pos rfl, b2e, b3]))
      go_enter Tryz.func62, Tryz.ntmps62
      go_upto_region 4 with fail
      rw [← HW1.out]
      go_wp2_with (first | (go_at_call 80; (first | (with_reducible refine AT.out.mono ?_) | (with_reducible refine AF.out.mono ?_)); rintro e w2 ⟨rfl, rfl⟩) | fail)
      go_ret
      exact ⟨by rw [HRL.out (by decide) (by decide), HE.out]; rfl, C1.out⟩
  have k3 : (k == 3) = false := by simpa using h3
  by_cases h4 : k = 4
  · subst h4
    clear HP
    rw [show ((4 : Int) == 4) = true from rfl, Bool.true_and] at HK
    cases P
    all_goals
      go_enter Tryz.func62, Tryz.ntmps62
      go_upto_region 4 with fail
      rw [← HW1.out]
      go_wp2_with (first | (go_at_call 81; refine HK.out.mono ?_; rintro e w2 ⟨rfl, hc⟩; have C2 := Lib.hid (C1.out.thenSame hc); clear hc HK) | (go_at_call 80; (first | (with_reducible refine (after_t i _ (by omega)).mono ?_) | (with_reducible refine (after_f i _ (by omega)).mono ?_)); rintro e w3 ⟨rfl, rfl⟩))
      go_ret
      exact ⟨by rw [HRL.out (by decide) (by decide)]; rfl, C2.out⟩
  have k4 : (k == 4) = false := by simpa using h4
  by_cases h56 : k = 5 ∨ k = 6
  · have HR2 := Lib.hid (HP.out.trans (by rw [if_neg h1, if_neg h2, if_neg h3, if_neg h4, if_pos h56]))
    clear HP HRL HK
    by_cases hc : 0 ≤ cn
    · rcases h56 with rfl | rfl
      · cases b1 : n == 0 <;> rcases hb with ⟨b2, b2e⟩ | ⟨b2, b2e⟩
        all_goals
          have HE := Lib.hid (HR2.out.trans (by rw [b1, b2e, decide_eq_true hc]))
          have HZ := Lib.hid HR.out
          rw [HE.out] at HZ
          have CC := Lib.hid (E.out W1 C1.out cn hc hcn)
          clear E R HR HE HR2
          go_enter Tryz.func62, Tryz.ntmps62
          go_upto_region 4 with fail
          rw [← HW1.out]
          go_wp2_with (go_at_call 82; refine CC.out.mono ?_; rintro e w2 ⟨rfl, hc2⟩; have C2 := Lib.hid (C1.out.thenSame hc2); clear hc2)
          go_ret
          first | exact ⟨by rw [HZ.out]; rfl, C1.out⟩ | exact ⟨by rw [HZ.out]; exact jz_wrap _ _, C2.out⟩
      · cases b1 : n == 0 <;> rcases hb with ⟨b2, b2e⟩ | ⟨b2, b2e⟩
        all_goals
          have HE := Lib.hid (HR2.out.trans (by rw [b1, b2e, decide_eq_true hc]))
          have HZ := Lib.hid HR.out
          rw [HE.out] at HZ
          have CC := Lib.hid (R.out W1 C1.out cn hc hcn)
          clear E R HR HE HR2
          go_enter Tryz.func62, Tryz.ntmps62
          go_upto_region 4 with fail
          rw [← HW1.out]
          go_wp2_with (go_at_call 83; refine CC.out.mono ?_; rintro e w2 ⟨rfl, hc2⟩; have C2 := Lib.hid (C1.out.thenSame hc2); clear hc2)
          go_ret
          first | exact ⟨by rw [HZ.out]; rfl, C1.out⟩ | exact ⟨by rw [HZ.out]; exact jz_wrap _ _, C2.out⟩
    · have hc' : cn < 0 := by omega
      have HE := Lib.hid (HR2.out.trans (by rw [decide_eq_false hc, Bool.and_false]))
      have HZ := Lib.hid HR.out
      rw [HE.out, if_pos rfl] at HZ
      clear E R HR HE HR2
      rcases h56 with rfl | rfl
      all_goals
        cases b1 : n == 0 <;> rcases hb with ⟨b2, b2e⟩ | ⟨b2, b2e⟩
        all_goals
          go_enter Tryz.func62, Tryz.ntmps62
          go_upto_region 4 with fail
          rw [← HW1.out]
          go_wp2_with fail
          go_ret
          exact ⟨by rw [HZ.out]; rfl, C1.out⟩
  · have HE := Lib.hid (HP.out.trans (by rw [if_neg h1, if_neg h2, if_neg h3, if_neg h4, if_neg h56]))
    have h5 : k ≠ 5 := fun h => h56 (.inl h)
    have h6 : k ≠ 6 := fun h => h56 (.inr h)
    have HZ := Lib.hid (HRL.out h5 h6)
    have k5 : (k == 5) = false := by simpa using h5
    have k6 : (k == 6) = false := by simpa using h6
    rw [HE.out, if_pos rfl] at HZ
    clear E R HR HE HP HRL HK h56 h5 h6 h1 h2 h3 h4 hb
    go_enter Tryz.func62, Tryz.ntmps62
    go_upto_region 4 with fail
    rw [← HW1.out]
    go_wp2_with fail
    go_ret
    exact ⟨by rw [HZ.out]; rfl, C1.out⟩
end Go.Proofs.YtnhemokmgpelaaaGreatDoor
