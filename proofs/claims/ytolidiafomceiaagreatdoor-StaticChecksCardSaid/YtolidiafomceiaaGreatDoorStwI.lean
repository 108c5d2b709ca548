/- Chapter 9: StaticChecks: the walk. Condition: the table of Itoa lies as the program lays it; the form's own bound on texts. -/
import Derived.Test.YtolidiafomceiaaGreatDoorStuF
import Derived.Test.YtolidiafomceiaaGreatDoorMSttM
import Derived.Test.YtolidiafomceiaaGreatDoorStwH
namespace Go.Proofs.YtolidiafomceiaaGreatDoor
set_option linter.unusedVariables false
set_option linter.unusedSimpArgs false
open Go.RowKit
theorem rcheck8c_any (x : Pr) (w : World) (h : PrIn w x) (hz : szPr x) : Calls Tryz.prog 29 #[.agg (prC x).toArray] w fun e w' => e = .returned (.int .i64 (scheckZ x.p)) ∧ Chg [] w w' := by
  have := rcheck8_of x w h (fun h1 h2 w' hc => rmeasure_any x w' (h.kept hc) hz h1 h2)
  rw [rvalid_eq] at this
  exact this
theorem rcheck9_any (x : Pr) (w : World) (h : PrIn w x) (hz : szPr x) : Calls Tryz.prog 11 #[.agg (prC x).toArray] w fun e w' => e = .returned (.tuple #[.int .i64 (studyZ x.p).2.2.1, .int .i64 (studyZ x.p).2.2.2]) ∧ Chg [] w w' := by
  have := rcheck9_of x w h (fun w' hc => rcheck8c_any x w' (h.kept hc) hz)
  rw [rcheck_eq] at this
  exact this
set_option maxHeartbeats 16000000 in
set_option maxRecDepth 100000 in
theorem checks_walk (x : Pr) (w : World) (h : (PrIn w x ∧ goodPr x) ∧ szPr x) (ht : TabW w) : Calls Tryz.prog 3 #[.agg (prC x).toArray] w fun e w' => e = .returned (.bool true) ∧ Below w.heap.size w w' := by
  obtain ⟨⟨hp, hg⟩, hz⟩ := h
  obtain ⟨W1, hW1⟩ : ∃ W1, W1 = w.alloc (prO x) := ⟨_, rfl⟩
  have C1 := Lib.hid (show Chg [] w W1 by rw [hW1]; exact (Chg.refl _ _).alloc _)
  have B1 := Lib.hid (show W1.heap[w.heap.size]? = some (prO x) by rw [hW1]; exact heap_alloc_new _ _)
  have SM := Lib.hid (small_any x W1 (hp.kept C1.out))
  have CK := Lib.hid (fun w' (hc : Chg [] w w') => check_any x w' (hp.kept hc) hg (ht.kept hc))
  have RC := Lib.hid (fun w' (hc : Chg [] w w') => rcheck9_any x w' (hp.kept hc) hz)
  have AW := Lib.hid (fun w' (hc : Chg [] w w') => stawake_any w' (ht.kept hc))
  unfold prO at hW1 B1
  have k1 := blk_cell B1.out
  simp only [prC] at SM CK RC ⊢
  generalize (studyZ x.p).2.2.2 = er at *
  generalize (studyZ x.p).2.2.1 = ea at *
  generalize smallN x = sm at *
  clear hp hg ht hz
  cases sm
  · go_enter Tryz.func3, Tryz.ntmps3
    go_upto_region 1 with fail
    rw [← hW1]
    clear hW1
    go_wp2_with (first | (go_at_call 8; (with_reducible refine Calls.mono SM.out ?_); rintro e w2 ⟨rfl, hc⟩; have C2 := Lib.hid (C1.out.thenSame hc); clear k1 hc) | (go_at_call 9; (with_reducible refine Calls.mono (AW.out _ C2.out) ?_); rintro e w3 ⟨rfl, hc⟩; have C3 := Lib.hid (C2.out.thenSame hc); clear hc))
    go_ret
    exact ⟨rfl, C3.out.toBelow (Nat.le_refl _) (by simp)⟩
  · go_enter Tryz.func3, Tryz.ntmps3
    go_upto_region 1 with fail
    rw [← hW1]
    clear hW1
    go_wp2_with (first | (go_at_call 8; (with_reducible refine Calls.mono SM.out ?_); rintro e w2 ⟨rfl, hc⟩; have C2 := Lib.hid (C1.out.thenSame hc); have B2 := Lib.hid (hc.at (by simp) B1.out); have k2 := blk_cell B2.out; clear k1 hc) | (go_at_call 10; (with_reducible refine Calls.mono (CK.out _ C2.out) ?_); rintro e w3 ⟨rfl, hc⟩; have C3 := Lib.hid (C2.out.thenSame hc); have B3 := Lib.hid (hc.at (by simp) B2.out); have k3 := blk_cell B3.out; clear k2 hc) | (go_at_call 11; (with_reducible refine Calls.mono (RC.out _ C3.out) ?_); rintro e w4 ⟨rfl, hc⟩; have C4 := Lib.hid (C3.out.thenSame hc); clear k3 hc) | (go_at_call 9; (with_reducible refine Calls.mono (AW.out _ C4.out) ?_); rintro e w5 ⟨rfl, hc⟩; have C5 := Lib.hid (C4.out.thenSame hc); clear hc))
    go_ret
    exact ⟨rfl, C5.out.toBelow (Nat.le_refl _) (by simp)⟩
end Go.Proofs.YtolidiafomceiaaGreatDoor
