/- More closed facts of the row and the card of TopBills. No condition. -/
import Derived.Test.YtmofknmeljdodaaGreatDoorRows
import Derived.WalkKit
import Derived.ProofKit
import Derived.SevenTiedAt
import Derived.Stop.Joined
namespace Go.Proofs.YtmofknmeljdodaaGreatDoor.topBills
open Go.ChangeShapes Go.WideShapes Go.ChangeAt Go.RowKit
set_option linter.unusedVariables false
set_option maxHeartbeats 100000000
theorem factN : Tryz.pinned.checked.prog.funcNamed Rows.topBillsRow.func = some 5 := by kernel_rfl
theorem factI : Tryz.f5.isInstance Tryz.pinned.checked.prog Rows.topBillsRow.origin Rows.topBillsRow.targs := of_decide_eq_true (by kernel_rfl)
theorem factW : Tryz.f5.isWrapper Tryz.pinned.checked.prog Rows.topBillsRow.wrapper Rows.topBillsRow.mainSum := by
  unfold Func.isWrapper
  first
  | (rw [if_pos (by decide +kernel)]; kernel_rfl)
  | (rw [if_neg (by decide +kernel)]; exact ⟨rfl, rfl⟩)
theorem factB : Rows.topBillsRow.wfByText (OpenSpec.ofChange Rows.topBillsSpec) = true := by kernel_rfl
theorem factM : Tryz.pinned.checked.prog.mainIs = some ((true, "fdbe0b61c3209918eed2afc272ab51e3cc3997a72991be3315fdf01ebc757b0e").1, (true, "fdbe0b61c3209918eed2afc272ab51e3cc3997a72991be3315fdf01ebc757b0e").2.toList) := by kernel_rfl
theorem factL : true = Tryz.pinned.checked.prog.looks [] := by kernel_rfl
theorem factS : ∀ (j : Nat) t, Tryz.f5.params[j]? = some t → Tryz.pinned.checked.prog.wantsStandIn t = false := fun j t ht => by
  rw [Tryz.params5] at ht
  have hm : t ∈ [5, 83, 84] := by simpa using Array.mem_of_getElem? ht
  have hall : ([5, 83, 84].all fun u => !Tryz.pinned.checked.prog.wantsStandIn u) = true := by kernel_rfl
  simpa using List.all_eq_true.1 hall t hm
theorem factG : false = Rows.topBillsRow.goesBy Tryz.pinned.checked.prog := by kernel_rfl
end Go.Proofs.YtmofknmeljdodaaGreatDoor.topBills
