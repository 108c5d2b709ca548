/- Chapter 53: contract of the reference: Check of a price. No condition. Chapter 53: contract of the reference: Billable. No condition. Over any program: the operations of a function's region, by its number. No condition. -/
import Derived.Test.YtehjalgogjkdlaaDoorZ14
import Derived.Test.YtehjalgogjkdlaaDoorZ13
import Derived.Test.YtehjalgogjkdlaaDoorZ09
import Derived.Test.YtehjalgogjkdlaaDoorZ01
namespace Go.Proofs.YtehjalgogjkdlaaDoor
set_option linter.unusedVariables false
set_option linter.unusedSimpArgs false
open Go.RowKit
end Go.Proofs.YtehjalgogjkdlaaDoor

namespace Go.Proofs.YtehjalgogjkdlaaDoor
set_option linter.unusedVariables false
set_option linter.unusedSimpArgs false
open Go.RowKit
end Go.Proofs.YtehjalgogjkdlaaDoor

namespace Go.Proofs.YtehjalgogjkdlaaDoor
set_option linter.unusedVariables false
set_option linter.unusedSimpArgs false
/-- The operations of the region n. -/
def rgn (n : Nat) : Code → Option (Array Oper)
  | .region id ops _ => if id = n then some ops else none
  | .seq a b => (rgn n a).orElse fun _ => rgn n b
  | .cond _ a b => (rgn n a).orElse fun _ => rgn n b
  | .block _ c => rgn n c
  | .loop c => rgn n c
  | .scope c => rgn n c
  | _ => none
def rgnF (f : Func) (n : Nat) : Array Oper := ((f.body).bind (rgn n)).getD #[]
end Go.Proofs.YtehjalgogjkdlaaDoor
