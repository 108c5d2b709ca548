/- Chapters 18, 19: contracts: the reference's Valid; floor; Number. No condition. -/
import Derived.Test.YtmmhcacpehpjdaaMetA
namespace Go.Proofs.Ytmmhcacpehpjdaa
set_option linter.unusedVariables false
set_option linter.unusedSimpArgs false
open Go.RowKit

set_option maxHeartbeats 1000000 in
theorem rvalid_any (x : Sd) (w : World) : Calls Try.prog 56 #[.agg #[.int .i64 x.c, .int .i64 x.s, .int .i64 x.mn, .int .i64 x.mx]] w fun e w' => e = .returned (.bool (validS x)) ∧ Chg [] w w' := by
  obtain ⟨c, s, mn, mx⟩ := x
  show Calls _ _ #[.agg #[.int .i64 c, .int .i64 s, .int .i64 mn, .int .i64 mx]] _ _
  by_cases h0 : c = 0
  · subst h0
    generalize hR : validS ⟨0, s, mn, mx⟩ = R
    have HR := Lib.hid hR
    clear hR
    go_enter Try.func56, Try.ntmps56
    go_wp2_with fail
    all_goals go_ret
    all_goals (refine ⟨retB ?_, (Chg.refl _ _).alloc _⟩; rw [← HR.out, Bool.eq_iff_iff]; simp [validS, *]; try omega)
  · by_cases h1 : inR c mn mx = true
    · have hw1 : IntKind.i64.wrap (c * mn) = c * mn := by
        simp [inR] at h1
        have := mul_in (c := c) (m := mn) (by omega) (by omega) (by omega) (by omega)
        exact IntWalk.i64_in _ (by omega)
      have hw2 : IntKind.i64.wrap (c * mx) = c * mx := by
        simp [inR] at h1
        have := mul_in (c := c) (m := mx) (by omega) (by omega) (by omega) (by omega)
        exact IntWalk.i64_in _ (by omega)
      generalize hR : validS ⟨c, s, mn, mx⟩ = R
      have HR := Lib.hid hR
      have h1' := h1
      simp [inR] at h1'
      obtain ⟨⟨⟨⟨i1, i2⟩, i3⟩, i4⟩, i5⟩ := h1'
      have cb : (c == 0) = false := by simpa using h0
      clear hR
      go_enter Try.func56, Try.ntmps56
      go_wp2_with fail
      all_goals go_ret
      all_goals (refine ⟨retB ?_, (Chg.refl _ _).alloc _⟩; rw [← HR.out, Bool.eq_iff_iff]; simp [validS, h0, h1]; try omega)
    · generalize hR : validS ⟨c, s, mn, mx⟩ = R
      have HR := Lib.hid hR
      have cb : (c == 0) = false := by simpa using h0
      clear hR
      go_enter Try.func56, Try.ntmps56
      go_wp2_with fail
      all_goals go_ret
      all_goals (
        have hf : validS ⟨c, s, mn, mx⟩ = false := by simp [validS, h0]; intro h; exact absurd h h1
        refine ⟨retB ?_, (Chg.refl _ _).alloc _⟩
        first
          | (rw [← HR.out, hf]; done)
          | (exfalso; apply h1; simp [inR]; omega))

def floorS (a b : Int) : Int := if a.tmod b < 0 then a.tdiv b - 1 else a.tdiv b

theorem tdiv_in {a b : Int} (h0 : 1 ≤ b) (h1 : -1000000000000000000 ≤ a) (h2 : a ≤ 1000000000000000000) : -1000000000000000000 ≤ a.tdiv b ∧ a.tdiv b ≤ 1000000000000000000 := by
  rcases Int.le_total 0 a with h | h
  · have e := Int.tdiv_eq_ediv_of_nonneg (b := b) h
    have l1 : 0 ≤ a / b := Int.ediv_nonneg h (by omega)
    have l2 : a / b ≤ a := Int.ediv_le_self b h
    omega
  · have e : a.tdiv b = -((-a) / b) := by rw [← Int.tdiv_eq_ediv_of_nonneg (by omega : 0 ≤ -a), Int.neg_tdiv, Int.neg_neg]
    have l1 : 0 ≤ (-a) / b := Int.ediv_nonneg (by omega) (by omega)
    have l2 : (-a) / b ≤ -a := Int.ediv_le_self b (by omega)
    omega

theorem floor_any (a b : Int) (w : World) (h0 : 1 ≤ b) (h1 : -1000000000000000000 ≤ a) (h2 : a ≤ 1000000000000000000) : Calls Try.prog 57 #[.int .i64 a, .int .i64 b] w fun e w' => e = .returned (.int .i64 (floorS a b)) ∧ w = w' := by
  obtain ⟨d1, d2⟩ := tdiv_in h0 h1 h2
  have hb : (b == 0) = false := by simp; omega
  have hw : IntKind.i64.wrap (a.tdiv b) = a.tdiv b := IntWalk.i64_in _ (by omega)
  generalize hR : floorS a b = R
  have HR := Lib.hid hR
  clear hR
  go_enter Try.func57, Try.ntmps57
  go_wp2_with fail
  all_goals go_ret
  · refine ⟨retI ?_, rfl⟩
    rw [← HR.out]; unfold floorS; rw [if_pos (by assumption)]
  · refine ⟨retI ?_, rfl⟩
    rw [← HR.out]; unfold floorS; rw [if_neg (by omega)]

theorem rfloor_any (a b : Int) (w : World) (h0 : 1 ≤ b) (h1 : -1000000000000000000 ≤ a) (h2 : a ≤ 1000000000000000000) : Calls Try.prog 58 #[.int .i64 a, .int .i64 b] w fun e w' => e = .returned (.int .i64 (floorS a b)) ∧ w = w' := by
  obtain ⟨d1, d2⟩ := tdiv_in h0 h1 h2
  have hb : (b == 0) = false := by simp; omega
  have hw : IntKind.i64.wrap (a.tdiv b) = a.tdiv b := IntWalk.i64_in _ (by omega)
  generalize hR : floorS a b = R
  have HR := Lib.hid hR
  clear hR
  go_enter Try.func58, Try.ntmps58
  go_wp2_with fail
  all_goals go_ret
  · refine ⟨retI ?_, rfl⟩
    rw [← HR.out]; unfold floorS; rw [if_pos (by assumption)]
  · refine ⟨retI ?_, rfl⟩
    rw [← HR.out]; unfold floorS; rw [if_neg (by omega)]

def numberS (x : Sd) (k : Int) : Int × Bool :=
  if validS x = false then (0, false) else if k = 1 then (x.c, true) else if k = 2 then (x.s, true) else if x.c = 0 then (0, false) else if k = 3 then (x.mn, true) else if k = 4 then (x.mx, true) else if k = 5 then (floorS x.s x.c, true) else (0, false)

def NumPost (w : World) (r : Int × Bool) (e : Ending) (w' : World) : Prop := e = .returned (.tuple #[.int .i64 r.1, .bool r.2]) ∧ Chg [] w w'

/-- Valid statistics of some values: the bounds of the sum. -/
theorem valid_in {x : Sd} (h : validS x = true) (h0 : x.c ≠ 0) : 1 ≤ x.c ∧ -1000000000000000000 ≤ x.s ∧ x.s ≤ 1000000000000000000 := by
  obtain ⟨c, s, mn, mx⟩ := x
  simp only at h0
  simp only [validS, if_neg h0, inR, Bool.and_eq_true, decide_eq_true_eq] at h
  obtain ⟨⟨⟨⟨⟨⟨h1, h2⟩, h3⟩, h4⟩, h5⟩, h6⟩, h7⟩ := h
  have a1 := mul_in (c := c) (m := mn) h1 h2 h3 (by omega)
  have a2 := mul_in (c := c) (m := mx) h1 h2 (by omega) h4
  simp only
  omega

set_option maxHeartbeats 1000000 in
theorem number_any (x : Sd) (k : Int) (w : World) : Calls Try.prog 38 #[.agg #[.int .i64 x.c, .int .i64 x.s, .int .i64 x.mn, .int .i64 x.mx], .int .i64 k] w (NumPost w (numberS x k)) := by
  obtain ⟨R, hR⟩ : ∃ R, R = numberS x k := ⟨_, rfl⟩
  rw [← hR]
  obtain ⟨ra, rb⟩ := R
  have HR := Lib.hid hR
  clear hR
  by_cases hv : validS x = true
  · have Hv := Lib.hid (valid_any x (w.alloc (.cells #[.int .i64 x.c, .int .i64 x.s, .int .i64 x.mn, .int .i64 x.mx] 26)))
    rw [hv] at Hv
    have hc := blk_cell (heap_alloc_new w (.cells #[.int .i64 x.c, .int .i64 x.s, .int .i64 x.mn, .int .i64 x.mx] 26))
    have Hin : Hid ((x.c == 0) = false → 1 ≤ x.c ∧ -1000000000000000000 ≤ x.s ∧ x.s ≤ 1000000000000000000) := fun h => valid_in hv (by simpa using h)
    obtain ⟨c, s, mn, mx⟩ := x
    simp only at Hv hc Hin
    show Calls _ _ #[.agg #[.int .i64 c, .int .i64 s, .int .i64 mn, .int .i64 mx], _] _ _
    have Hv2 := Lib.hid hv
    clear hv
    go_enter Try.func38, Try.ntmps38
    go_wp2_with fail
    refine Hv.out.mono ?_; rintro e w1 ⟨rfl, hc1⟩
    have q := blk_cell (hc1.at (b := w.heap.size) (by simp) (heap_alloc_new w _))
    have q0 := q 0
    have q1 := q 1
    have q2 := q 2
    have q3 := q 3
    simp only [List.getElem?_toArray, List.getElem?_cons_zero, List.getElem?_cons_succ] at q0 q1 q2 q3
    have Hc1 := Lib.hid hc1
    clear q hc hc1
    go_wp2_with (first | (go_at_call 57; refine (floor_any s c _ (Hin.out (by assumption)).1 (Hin.out (by assumption)).2.1 (Hin.out (by assumption)).2.2).mono ?_; rintro e w2 ⟨rfl, rfl⟩) | fail)
    all_goals go_ret2
    all_goals (
      have e := HR.out
      simp only [beq_iff_eq, beq_eq_false_iff_ne, ne_eq] at *
      simp [numberS, Hv2.out, *] at e
      obtain ⟨rfl, rfl⟩ := e
      exact ⟨rfl, ((Chg.refl _ _).alloc _).thenSame Hc1.out⟩)
  · have hv' : validS x = false := by simpa using hv
    have Hv := Lib.hid (valid_any x (w.alloc (.cells #[.int .i64 x.c, .int .i64 x.s, .int .i64 x.mn, .int .i64 x.mx] 26)))
    rw [hv'] at Hv
    have hc := blk_cell (heap_alloc_new w (.cells #[.int .i64 x.c, .int .i64 x.s, .int .i64 x.mn, .int .i64 x.mx] 26))
    have e := HR.out
    simp [numberS, hv'] at e
    obtain ⟨rfl, rfl⟩ := e
    obtain ⟨c, s, mn, mx⟩ := x
    simp only at Hv hc
    show Calls _ _ #[.agg #[.int .i64 c, .int .i64 s, .int .i64 mn, .int .i64 mx], _] _ _
    clear hv hv' HR
    go_enter Try.func38, Try.ntmps38
    go_wp2_with fail
    refine Hv.out.mono ?_; rintro e w1 ⟨rfl, hc1⟩
    clear hc
    go_wp2_with fail
    go_ret2
    exact ⟨rfl, ((Chg.refl _ _).alloc _).thenSame hc1⟩

set_option maxHeartbeats 1000000 in
theorem rnumber_any (x : Sd) (k : Int) (w : World) : Calls Try.prog 39 #[.agg #[.int .i64 x.c, .int .i64 x.s, .int .i64 x.mn, .int .i64 x.mx], .int .i64 k] w (NumPost w (numberS x k)) := by
  obtain ⟨R, hR⟩ : ∃ R, R = numberS x k := ⟨_, rfl⟩
  rw [← hR]
  obtain ⟨ra, rb⟩ := R
  have HR := Lib.hid hR
  clear hR
  by_cases hv : validS x = true
  · have Hv := Lib.hid (rvalid_any x (w.alloc (.cells #[.int .i64 x.c, .int .i64 x.s, .int .i64 x.mn, .int .i64 x.mx] 26)))
    rw [hv] at Hv
    have hc := blk_cell (heap_alloc_new w (.cells #[.int .i64 x.c, .int .i64 x.s, .int .i64 x.mn, .int .i64 x.mx] 26))
    have Hin : Hid ((x.c == 0) = false → 1 ≤ x.c ∧ -1000000000000000000 ≤ x.s ∧ x.s ≤ 1000000000000000000) := fun h => valid_in hv (by simpa using h)
    obtain ⟨c, s, mn, mx⟩ := x
    simp only at Hv hc Hin
    show Calls _ _ #[.agg #[.int .i64 c, .int .i64 s, .int .i64 mn, .int .i64 mx], _] _ _
    have Hv2 := Lib.hid hv
    clear hv
    go_enter Try.func39, Try.ntmps39
    go_wp2_with fail
    refine Hv.out.mono ?_; rintro e w1 ⟨rfl, hc1⟩
    have q := blk_cell (hc1.at (b := w.heap.size) (by simp) (heap_alloc_new w _))
    have q0 := q 0
    have q1 := q 1
    have q2 := q 2
    have q3 := q 3
    simp only [List.getElem?_toArray, List.getElem?_cons_zero, List.getElem?_cons_succ] at q0 q1 q2 q3
    have Hc1 := Lib.hid hc1
    clear q hc hc1
    go_wp2_with (first | (go_at_call 58; refine (rfloor_any s c _ (Hin.out (by assumption)).1 (Hin.out (by assumption)).2.1 (Hin.out (by assumption)).2.2).mono ?_; rintro e w2 ⟨rfl, rfl⟩) | fail)
    all_goals go_ret2
    all_goals (
      have e := HR.out
      simp only [beq_iff_eq, beq_eq_false_iff_ne, ne_eq] at *
      simp [numberS, Hv2.out, *] at e
      obtain ⟨rfl, rfl⟩ := e
      exact ⟨rfl, ((Chg.refl _ _).alloc _).thenSame Hc1.out⟩)
  · have hv' : validS x = false := by simpa using hv
    have Hv := Lib.hid (rvalid_any x (w.alloc (.cells #[.int .i64 x.c, .int .i64 x.s, .int .i64 x.mn, .int .i64 x.mx] 26)))
    rw [hv'] at Hv
    have hc := blk_cell (heap_alloc_new w (.cells #[.int .i64 x.c, .int .i64 x.s, .int .i64 x.mn, .int .i64 x.mx] 26))
    have e := HR.out
    simp [numberS, hv'] at e
    obtain ⟨rfl, rfl⟩ := e
    obtain ⟨c, s, mn, mx⟩ := x
    simp only at Hv hc
    show Calls _ _ #[.agg #[.int .i64 c, .int .i64 s, .int .i64 mn, .int .i64 mx], _] _ _
    clear hv hv' HR
    go_enter Try.func39, Try.ntmps39
    go_wp2_with fail
    refine Hv.out.mono ?_; rintro e w1 ⟨rfl, hc1⟩
    clear hc
    go_wp2_with fail
    go_ret2
    exact ⟨rfl, ((Chg.refl _ _).alloc _).thenSame hc1⟩
end Go.Proofs.Ytmmhcacpehpjdaa
