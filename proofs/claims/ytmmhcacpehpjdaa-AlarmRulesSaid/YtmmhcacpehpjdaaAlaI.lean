/- Chapter 19: AlarmRules: rules are accepted and windows judged as defined. No condition. -/
import Derived.Test.YtmmhcacpehpjdaaAlaG
import Derived.Test.YtmmhcacpehpjdaaAlaH
namespace Go.Proofs.Ytmmhcacpehpjdaa
open Go.RowKit

set_option maxHeartbeats 2000000 in
set_option maxRecDepth 100000 in
theorem rules_walk (r : Rd) (x : Sd) (w : World) (_g0 : r.good) (_g1 : x.good) : Calls Try.prog 3 #[.agg #[.int .i64 r.st, .bool r.ab, .int .i64 r.th, .int .i64 r.wd, .int .i64 r.m, .int .i64 r.n, .bool r.ms], .agg #[.int .i64 x.c, .int .i64 x.s, .int .i64 x.mn, .int .i64 x.mx]] w fun e w' => e = .returned (.bool true) ∧ Below w.heap.size w w' := by
  have hb1 := heap_alloc_new w (.cells #[.int .i64 r.st, .bool r.ab, .int .i64 r.th, .int .i64 r.wd, .int .i64 r.m, .int .i64 r.n, .bool r.ms] 24)
  have hb2 := heap_alloc_new (w.alloc (.cells #[.int .i64 r.st, .bool r.ab, .int .i64 r.th, .int .i64 r.wd, .int .i64 r.m, .int .i64 r.n, .bool r.ms] 24)) (.cells #[.int .i64 x.c, .int .i64 x.s, .int .i64 x.mn, .int .i64 x.mx] 26)
  obtain ⟨w2, hw2⟩ : ∃ w2, w2 = (w.alloc (.cells #[.int .i64 r.st, .bool r.ab, .int .i64 r.th, .int .i64 r.wd, .int .i64 r.m, .int .i64 r.n, .bool r.ms] 24)).alloc (.cells #[.int .i64 x.c, .int .i64 x.s, .int .i64 x.mn, .int .i64 x.mx] 26) := ⟨_, rfl⟩
  have Hc0 : Hid (Chg [] w w2) := by rw [hw2]; exact ((Chg.refl [] w).alloc _).alloc _
  have hb3 := blk_alloc (o' := (.cells #[.int .i64 x.c, .int .i64 x.s, .int .i64 x.mn, .int .i64 x.mx] 26)) hb1
  rw [World.size_alloc] at hb2
  rw [← hw2] at hb2 hb3
  have Hb2 := Lib.hid hb2
  have Hb3 := Lib.hid hb3
  clear hb1 hb2 hb3
  obtain ⟨⟨ba, bb⟩, hp⟩ : ∃ p, p = breachS r x := ⟨_, rfl⟩
  have A1 := Lib.hid (fun w => breach_any r x w)
  have A2 := Lib.hid (fun w => rbreach_any r x w)
  rw [← hp] at A1 A2
  clear hp
  obtain ⟨E, hE⟩ : ∃ E, E = checkR r := ⟨_, rfl⟩
  have A3 := Lib.hid (fun w => acheck_any r w)
  have A4 := Lib.hid (fun w => racheck_any r w)
  rw [← hE] at A3 A4
  clear hE
  go_enter Try.func3, Try.ntmps3
  go_wp2_with fail
  rw [← hw2]
  clear hw2
  refine (A1.out _).mono ?_; rintro e w3 ⟨rfl, hc3⟩
  have p1 := blk_cell (hc3.at (by simp) Hb2.out)
  have p2 := blk_cell (hc3.at (by simp) Hb3.out)
  have Hc3 := Lib.hid hc3
  clear hc3
  simp only []
  go_wp2_with fail
  clear p1 p2
  refine (A2.out _).mono ?_; rintro e w4 ⟨rfl, hc4⟩
  have Hc4 := Lib.hid (Hc3.out.thenSame hc4)
  have hb4 := Hc4.out.at (by simp) Hb3.out
  have r1 := fun i d os => ((below_regrown w4 d os).cell (p := ⟨w.heap.size, i, none⟩) (lt_of_heap hb4)).trans (blk_cell hb4 i)
  have B3 := Lib.hid (fun d os => calls_regrown (A3.out (Go.Sort.grow (redrawn w4 d) os)))
  have B4 := Lib.hid (fun d os => calls_regrown (A4.out (Go.Sort.grow (redrawn w4 d) os)))
  have B5 := Lib.hid (fun d os => calls_regrown (awake_any (Go.Sort.grow (redrawn w4 d) os)))
  clear hc4 hb4
  simp only []
  go_wp2_with fail
  refine wp_region_quiet_below (by kernel_rfl) (by kernel_rfl) ?_
  repeat (any_goals (first | go_big_quiet_step (first | exact B3.out _ _ | exact B4.out _ _ | exact B5.out _ _) | quiet_step (first | exact B3.out _ _ | exact B4.out _ _ | exact B5.out _ _)))
  refine wpQuiet_nil ?_
  intro _ hw'
  obtain ⟨⟨dq, osq⟩, hw''⟩ := hw'
  subst hw''
  go_wp2_with fail
  go_ret
  exact ⟨rfl, ((Hc0.out.thenSame Hc4.out).thenSame (chg_regrown _ dq osq)).toBelow (Nat.le_refl _) (by simp)⟩
end Go.Proofs.Ytmmhcacpehpjdaa
