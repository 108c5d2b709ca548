/- The closed facts of the row of TopBills. No condition. -/
import Derived.Test.YtmofknmeljdodaaGreatDoorRows
import Derived.WalkKit
import Derived.ProofKit
import Derived.SevenTiedAt
import Derived.Stop.Joined
namespace Go.Proofs.YtmofknmeljdodaaGreatDoor.topBills
open Go.ChangeShapes Go.WideShapes Go.ChangeAt Go.RowKit
set_option linter.unusedVariables false
set_option maxHeartbeats 100000000
theorem closedB : joinedFacts Tryz.pinned.checked.prog 5 Tryz.f5 Rows.topBillsSpec Rows.topBillsRow = true := by
  unfold joinedFacts
  repeat' (with_reducible refine Bool.and_eq_true_iff.mpr ⟨?_, ?_⟩)
  all_goals (as_aux_lemma => kernel_rfl)
end Go.Proofs.YtmofknmeljdodaaGreatDoor.topBills
