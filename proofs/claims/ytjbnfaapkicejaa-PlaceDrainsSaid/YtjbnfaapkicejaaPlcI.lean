/- Chapter 43: contract: whether a worker may take a placement. Conditions: memories are permitted. -/
import Derived.Lib.QuietBelow
import Derived.Test.YtjbnfaapkicejaaPlcH
namespace Go.Proofs.Ytjbnfaapkicejaa
set_option linter.unusedVariables false
set_option linter.unusedSimpArgs false
open Go.RowKit
def possB (x : Wk) (l : List Pl) (q : Pl) : Bool := !x.dr && decide (q.mem ≤ freeS x l)
set_option maxHeartbeats 8000000 in
set_option maxRecDepth 100000 in
theorem poss_any (a : Option Addr) (c : Nat) (l : List Pl) (q : Pl) (x : Wk) (t1 t2 : Nat) (w : World) (h : SlIs plC 4 w a l.length l) (hl : l.length ≤ 4096) (hm : ∀ q ∈ l, memB q.mem = true) (hx : memB x.mem = true)
    (h1 : w.heap[t1]? = some (.cells #[.slice a l.length c] 23 (0, 0))) (h2 : w.heap[t2]? = some (plO q)) : Calls Try.prog 53 #[wkV x, .pointer (some ⟨t1, 0, none⟩), .pointer (some ⟨t2, 0, none⟩)] w fun e w' => e = .returned (.bool (possB x l q)) ∧ Chg [] w w' := by
  obtain ⟨W1, hW1⟩ : ∃ W1, W1 = w.alloc (wkO x) := ⟨_, rfl⟩
  have C1 := Lib.hid (show Chg [] w W1 by rw [hW1]; exact (Chg.refl _ _).alloc _)
  have X1 := Lib.hid (show W1.heap[w.heap.size]? = some (wkO x) by rw [hW1]; exact heap_alloc_new _ _)
  have X2 := Lib.hid (C1.out.at (by simp) h1)
  have X3 := Lib.hid (C1.out.at (by simp) h2)
  unfold wkO at hW1 X1
  unfold plO at X3
  have x1 := blk_cell X1.out
  have l1 := lt_of_heap X1.out
  have x2 := blk_cell X2.out
  have l2 := lt_of_heap X2.out
  have x3 := blk_cell X3.out
  have l3 := lt_of_heap X3.out
  have B8 : ∀ d os, Calls Try.prog 34 #[wkV x, .slice a l.length c] (Go.Sort.grow (redrawn W1 d) os) fun e w'' => e = .returned (.int .i64 (freeS x l)) ∧ ∃ p : Regrown, w'' = Go.Sort.grow (redrawn W1 p.d) p.os := fun d os => calls_regrown (free_any a c l x _ (h.kept (C1.out.thenSame (chg_regrown W1 d os))) hl hm hx)
  have q0 := fun d os => ((below_regrown W1 d os).cell (p := ⟨w.heap.size, 0, none⟩) l1).trans (x1 0)
  have q1 := fun d os => ((below_regrown W1 d os).cell (p := ⟨w.heap.size, 1, none⟩) l1).trans (x1 1)
  have q2 := fun d os => ((below_regrown W1 d os).cell (p := ⟨w.heap.size, 2, none⟩) l1).trans (x1 2)
  have q3 := fun d os => ((below_regrown W1 d os).cell (p := ⟨t1, 0, none⟩) l2).trans (x2 0)
  have q4 := fun d os => ((below_regrown W1 d os).cell (p := ⟨t2, 2, none⟩) l3).trans (x3 2)
  obtain ⟨nm, mm, dr⟩ := x
  have HW1 := Lib.hid hW1
  unfold wkV at B8 ⊢
  obtain ⟨R, hR⟩ : ∃ R, R = possB ⟨nm, mm, dr⟩ l q := ⟨_, rfl⟩
  rw [← hR]
  unfold possB at hR
  generalize freeS ⟨nm, mm, dr⟩ l = n at *
  have HB8 := Lib.hid B8
  clear h h1 h2 hW1 B8 x1 x2 x3
  cases dr
  · go_enter Try.func53, Try.ntmps53
    go_wp2_with fail
    rw [← HW1.out]
    refine wp_region_quiet_below (by kernel_rfl) (by kernel_rfl) ?_
    repeat (any_goals (first | go_big_quiet_step (exact HB8.out _ _) | quiet_step (exact HB8.out _ _)))
    refine wpQuiet_nil ?_
    intro _ hw'
    obtain ⟨⟨dq, osq⟩, hw''⟩ := hw'
    subst hw''
    go_wp2_with fail
    go_ret
    exact ⟨by rw [hR]; rfl, C1.out.thenSame (chg_regrown W1 dq osq)⟩
  · go_enter Try.func53, Try.ntmps53
    go_wp2_with fail
    rw [← HW1.out]
    refine wp_region_quiet_below (by kernel_rfl) (by kernel_rfl) ?_
    repeat (any_goals (first | go_big_quiet_step (exact HB8.out _ _) | quiet_step (exact HB8.out _ _)))
    refine wpQuiet_nil ?_
    intro _ hw'
    obtain ⟨⟨dq, osq⟩, hw''⟩ := hw'
    subst hw''
    go_wp2_with fail
    go_ret
    exact ⟨by rw [hR]; rfl, C1.out.thenSame (chg_regrown W1 dq osq)⟩
end Go.Proofs.Ytjbnfaapkicejaa
