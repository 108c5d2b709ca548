/- Chapter 9: contract: syntax.Find. No condition. -/
import Derived.Test.YtolidiafomceiaaGreatDoorStaN
namespace Go.Proofs.YtolidiafomceiaaGreatDoor
set_option linter.unusedVariables false
set_option linter.unusedSimpArgs false
open Go.RowKit
set_option maxHeartbeats 4000000 in
set_option maxRecDepth 100000 in
theorem find_any (x : Pr) (s : ByteArray) (w : World) (h : PrIn w x) : Calls Tryz.prog 38 #[.agg (prC x).toArray, .string s] w fun e w' => e = .returned (.int .i64 (idxFrom (fun f : Fn' => f.name == s) x.funcs 0)) ∧ Chg [] w w' := by
  obtain ⟨W1, hW1⟩ : ∃ W1, W1 = w.alloc (prO x) := ⟨_, rfl⟩
  have C1 := Lib.hid (show Chg [] w W1 by rw [hW1]; exact (Chg.refl _ _).alloc _)
  have B1 := Lib.hid (show W1.heap[w.heap.size]? = some (prO x) by rw [hW1]; exact heap_alloc_new _ _)
  have S1 : W1.heap.size = w.heap.size + 1 := by rw [hW1]; exact Array.size_push _
  obtain ⟨W2, hW2⟩ : ∃ W2, W2 = W1.alloc (.cells #[.string s] 9) := ⟨_, rfl⟩
  have C2 := Lib.hid (show Chg [] w W2 by rw [hW2]; exact C1.out.alloc _)
  have B2 := Lib.hid (show W2.heap[w.heap.size]? = some (prO x) by rw [hW2]; exact (heap_alloc_old _ _ (by omega)).trans B1.out)
  have K2 := Lib.hid (show W2.heap[w.heap.size + 1]? = some (.cells #[.string s] 9) by rw [hW2, ← S1]; exact heap_alloc_new _ _)
  have L2 : w.heap.size + 1 < W2.heap.size := (Array.getElem?_eq_some_iff.1 K2.out).1
  have k2 := blk_cell K2.out
  have A := Lib.hid (findexn_any (w := W2) (h.2.1.kept C2.out) (w.heap.size + 1) s (k2 0) L2)
  unfold prO at hW1 B2
  have k1 := blk_cell B2.out
  simp only [prC]
  generalize idxFrom (fun f : Fn' => f.name == s) x.funcs 0 = R at *
  clear h B1 L2
  go_enter Tryz.func38, Tryz.ntmps38
  go_upto_region 1 with fail
  rw [← hW1]
  try rw [S1]
  rw [← hW2]
  clear hW1 hW2 S1
  go_wp2_with (go_at_call 51; (with_reducible refine Calls.mono A.out ?_); rintro e w3 ⟨rfl, hc⟩)
  go_ret
  exact ⟨rfl, C2.out.thenSame hc⟩
end Go.Proofs.YtolidiafomceiaaGreatDoor
