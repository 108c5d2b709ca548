/- The closed facts of the row of TopLinearizes. No condition. -/
import Derived.Test.YtmofknmeljdodaaGreatDoorRows
import Derived.WalkKit
import Derived.ProofKit
import Derived.SevenTiedAt
import Derived.Stop.Joined
namespace Go.Proofs.YtmofknmeljdodaaGreatDoor.topLinearizes
open Go.ChangeShapes Go.WideShapes Go.ChangeAt Go.RowKit
set_option linter.unusedVariables false
set_option maxHeartbeats 100000000
theorem closedB : joinedFacts Tryz.pinned.checked.prog 4 Tryz.f4 Rows.topLinearizesSpec Rows.topLinearizesRow = true := by
  unfold joinedFacts
  repeat' (with_reducible refine Bool.and_eq_true_iff.mpr ⟨?_, ?_⟩)
  all_goals (as_aux_lemma => kernel_rfl)
end Go.Proofs.YtmofknmeljdodaaGreatDoor.topLinearizes
