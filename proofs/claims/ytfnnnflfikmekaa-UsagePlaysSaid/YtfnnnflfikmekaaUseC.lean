/- Chapter 52: contracts of the reference's checks: Valid, Add of faasref34. No condition. -/
import Derived.Test.YtfnnnflfikmekaaUseB
namespace Go.Proofs.Ytfnnnflfikmekaa
set_option linter.unusedVariables false
set_option linter.unusedSimpArgs false
open Go.RowKit

theorem ramt01_any (n : Int) (w : World) : Calls Try.prog 72 #[.int .i64 n] w fun e w' => e = .returned (.bool (decide (-1000000000000 ≤ n) && decide (n ≤ 1000000000000))) ∧ w = w' := by
  by_cases h1 : -1000000000000 ≤ n
  · go_enter Try.func72, Try.ntmps72
    go_wp2
    go_ret
    exact ⟨by simp [h1], rfl⟩
  · go_enter Try.func72, Try.ntmps72
    go_wp2
    go_ret
    exact ⟨by simp; omega, rfl⟩
theorem ramt_any (n : Int) (w : World) : Calls Try.prog 59 #[.int .i64 n] w fun e w' => e = .returned (.bool (amtB n)) ∧ w = w' := by
  by_cases h1 : 0 ≤ n
  · go_enter Try.func59, Try.ntmps59
    go_wp2_with fail
    refine (ramt01_any n _).mono ?_; rintro e w1 ⟨rfl, rfl⟩
    go_wp2_with fail
    go_ret
    exact ⟨retB (by simp [amtB, h1]; omega), rfl⟩
  · go_enter Try.func59, Try.ntmps59
    go_wp2_with fail
    go_ret
    exact ⟨retB (by simp [amtB]; omega), rfl⟩
set_option maxHeartbeats 4000000 in
theorem rvalid_any (u : Us) (w : World) : Calls Try.prog 48 #[usV u] w fun e w' => e = .returned (.bool (usB u)) ∧ Chg [] w w' := by
  obtain ⟨a, b, c, d⟩ := u
  unfold usV usB
  simp only
  have A1 := ramt_any a
  have A2 := ramt_any b
  have A3 := ramt_any c
  have A4 := ramt_any d
  have hc : Chg [] w (w.alloc (.cells #[.int .i64 a, .int .i64 b, .int .i64 c, .int .i64 d] 28)) := (Chg.refl _ _).alloc _
  have C := Lib.hid hc
  clear hc
  cases hva : amtB a <;> cases hvb : amtB b <;> cases hvc : amtB c <;> cases hvd : amtB d
  all_goals
    go_enter Try.func48, Try.ntmps48
    go_wp2_with (first | (go_at_call 59; (with_reducible refine (A1 _).mono ?_); rintro e w1 ⟨rfl, rfl⟩) | (go_at_call 59; (with_reducible refine (A2 _).mono ?_); rintro e w1 ⟨rfl, rfl⟩) | (go_at_call 59; (with_reducible refine (A3 _).mono ?_); rintro e w1 ⟨rfl, rfl⟩) | (go_at_call 59; (with_reducible refine (A4 _).mono ?_); rintro e w1 ⟨rfl, rfl⟩))
    all_goals
      go_ret
      exact ⟨by first | (simp; done) | (simp_all; done), C.out⟩

set_option maxHeartbeats 4000000 in
set_option maxRecDepth 100000 in
theorem radd_any (a b : Us) (w : World) : Calls Try.prog 30 #[usV a, usV b] w fun e w' => e = .returned (.tuple #[usV (addU a b).1, .int .i64 (addU a b).2]) ∧ Chg [] w w' := by
  obtain ⟨W3, hW3⟩ : ∃ W3, W3 = ((w.alloc (usO a)).alloc (usO b)).alloc (usO zU) := ⟨_, rfl⟩
  have hc3 : Chg [] w W3 := by rw [hW3]; exact (((Chg.refl _ _).alloc _).alloc _).alloc _
  have hb1 : W3.heap[w.heap.size]? = some (.cells #[.int .i64 a.inv, .int .i64 a.steps, .int .i64 a.ticks, .int .i64 a.units] 28 (0, 0)) := by
    rw [hW3]
    exact (((Chg.refl [] (w.alloc (usO a))).alloc (usO b)).alloc (usO zU)).at (by simp) (heap_alloc_new w (usO a))
  have hb2 : W3.heap[w.heap.size + 1]? = some (.cells #[.int .i64 b.inv, .int .i64 b.steps, .int .i64 b.ticks, .int .i64 b.units] 28 (0, 0)) := by
    rw [hW3]
    have := heap_alloc_new (w.alloc (usO a)) (usO b)
    rw [World.size_alloc] at this
    exact ((Chg.refl [] ((w.alloc (usO a)).alloc (usO b))).alloc (usO zU)).at (by simp) this
  have hb3 : W3.heap[w.heap.size + 1 + 1]? = some (.cells #[.int .i64 0, .int .i64 0, .int .i64 0, .int .i64 0] 28 (0, 0)) := by
    rw [hW3]
    have := heap_alloc_new ((w.alloc (usO a)).alloc (usO b)) (usO zU)
    rw [World.size_alloc, World.size_alloc] at this
    exact this
  simp only [usO, zU] at hW3
  have HW3 := Lib.hid hW3
  have A1 := rvalid_any a
  have A2 := rvalid_any b
  obtain ⟨R, hR⟩ : ∃ R, R = addU a b := ⟨_, rfl⟩
  rw [← hR]
  unfold addU at hR
  unfold usV at A1 A2 ⊢
  by_cases h1 : usB a = true
  case neg =>
    rw [if_neg h1] at hR
    subst hR
    rw [show usB a = false by simpa using h1] at A1
    have A1 := Lib.hid A1
    go_enter Try.func30, Try.ntmps30
    go_wp2_with fail
    rw [← HW3.out]
    refine (A1.out W3).mono ?_; rintro e w4 ⟨rfl, hc4⟩
    have C4 := Lib.hid (hc3.thenSame hc4)
    have b3 := hc4.at (by simp) hb3
    have r1 := blk_cell b3
    have r2 := blk_free b3
    have r3 := lt_of_heap b3
    clear hc4 hc3 hb1 hb2 hb3 hW3 A2
    go_wp2_with fail
    exact bodyPost_ret (v := .tuple #[usV zU, .int .i64 2]) (by simp [results, Try.results30, go_sem, usV, zU, r1]) rfl ⟨rfl, by repeat (first | exact C4.out | refine Chg.setCell ?_ _ _ (by simp; omega) | refine Chg.drew ?_)⟩
  rw [if_pos h1] at hR
  rw [h1] at A1
  have A1 := Lib.hid A1
  rename_i A10
  clear A10
  by_cases h2 : usB b = true
  case neg =>
    rw [if_neg h2] at hR
    subst hR
    rw [show usB b = false by simpa using h2] at A2
    have A2 := Lib.hid A2
    rename_i A20
    clear A20
    go_enter Try.func30, Try.ntmps30
    go_wp2_with fail
    rw [← HW3.out]
    refine (A1.out W3).mono ?_; rintro e w4 ⟨rfl, hc4⟩
    have C4 := Lib.hid (hc3.thenSame hc4)
    have b2 := hc4.at (by simp) hb2
    have b3 := Lib.hid (hc4.at (by simp) hb3)
    have q2 := blk_cell b2
    clear hc4 hc3 hb1 hb2 hb3 hW3 b2
    go_wp2_with fail
    refine (A2.out w4).mono ?_; rintro e w5 ⟨rfl, hc5⟩
    have C5 := Lib.hid (C4.out.thenSame hc5)
    have b35 := hc5.at (by simp) b3.out
    have r1 := blk_cell b35
    have r2 := blk_free b35
    have r3 := lt_of_heap b35
    clear hc5 q2
    go_wp2_with fail
    exact bodyPost_ret (v := .tuple #[usV zU, .int .i64 2]) (by simp [results, Try.results30, go_sem, usV, zU, r1]) rfl ⟨rfl, by repeat (first | exact C5.out | refine Chg.setCell ?_ _ _ (by simp; omega) | refine Chg.drew ?_)⟩
  rw [if_pos h2] at hR
  rw [h2] at A2
  have A2 := Lib.hid A2
  rename_i A20
  clear A20
  obtain ⟨⟨a1, a2⟩, ⟨a3, a4⟩, ⟨a5, a6⟩, ⟨a7, a8⟩⟩ := usB_bounds h1
  obtain ⟨⟨b1, b2⟩, ⟨b3, b4⟩, ⟨b5, b6⟩, ⟨b7, b8⟩⟩ := usB_bounds h2
  have A3 := rvalid_any (plusU a b)
  unfold usV plusU at A3
  simp only at A3
  by_cases h3 : usB (plusU a b) = true
  all_goals
    first
      | rw [if_pos h3] at hR
      | rw [if_neg h3] at hR
    subst hR
    unfold plusU at h3
    first
      | rw [h3] at A3
      | rw [show usB ⟨a.inv + b.inv, a.steps + b.steps, a.ticks + b.ticks, a.units + b.units⟩ = false by simpa using h3] at A3
    have A3 := Lib.hid A3
    rename_i A30
    clear A30 h1 h2 h3
    go_enter Try.func30, Try.ntmps30
    go_wp2_with fail
    rw [← HW3.out]
    refine (A1.out W3).mono ?_; rintro e w4 ⟨rfl, hc4⟩
    have C4 := Lib.hid (hc3.thenSame hc4)
    have bb1 := Lib.hid (hc4.at (by simp) hb1)
    have bb2 := Lib.hid (hc4.at (by simp) hb2)
    have bb3 := Lib.hid (hc4.at (by simp) hb3)
    have q2 := blk_cell bb2.out
    clear hc4 hc3 hb1 hb2 hb3 hW3
    go_wp2_with fail
    refine (A2.out w4).mono ?_; rintro e w5 ⟨rfl, hc5⟩
    have C5 := Lib.hid (C4.out.thenSame hc5)
    have d1 := Lib.hid (hc5.at (by simp) bb1.out)
    have d2 := Lib.hid (hc5.at (by simp) bb2.out)
    have d3 := Lib.hid (hc5.at (by simp) bb3.out)
    have q1 := blk_cell d1.out
    have q3 := blk_cell d2.out
    clear hc5 q2
    go_wp2_with fail
    refine (A3.out _).mono ?_; rintro e w6 ⟨rfl, hc6⟩
    have C6 := Lib.hid ((C5.out.alloc _).thenSame hc6)
    have e0 := hc6.at (by simp) (heap_alloc_new w5 (.cells #[.int .i64 (a.inv + b.inv), .int .i64 (a.steps + b.steps), .int .i64 (a.ticks + b.ticks), .int .i64 (a.units + b.units)] 28))
    have e3 := (((Chg.refl [] w5).alloc (.cells #[.int .i64 (a.inv + b.inv), .int .i64 (a.steps + b.steps), .int .i64 (a.ticks + b.ticks), .int .i64 (a.units + b.units)] 28)).thenSame hc6).at (by simp) d3.out
    have q0 := blk_cell e0
    have r1 := blk_cell e3
    have r2 := blk_free e3
    have r3 := lt_of_heap e3
    clear hc6 q1 q3
    go_wp2_with fail
    first
      | exact bodyPost_ret (v := .tuple #[usV ⟨a.inv + b.inv, a.steps + b.steps, a.ticks + b.ticks, a.units + b.units⟩, .int .i64 0]) (by simp [results, Try.results30, go_sem, usV, r1]) rfl ⟨rfl, by repeat (first | exact C6.out | refine Chg.setCell ?_ _ _ (by simp; omega) | refine Chg.drew ?_)⟩
      | exact bodyPost_ret (v := .tuple #[usV zU, .int .i64 8]) (by simp [results, Try.results30, go_sem, usV, zU, r1]) rfl ⟨rfl, by repeat (first | exact C6.out | refine Chg.setCell ?_ _ _ (by simp; omega) | refine Chg.drew ?_)⟩
end Go.Proofs.Ytfnnnflfikmekaa
