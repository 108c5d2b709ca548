/- Chapter 54: contract of the reference: Check of an invoice. No condition. -/
import Derived.Test.YtehjalgogjkdlaaDoorZ10
namespace Go.Proofs.YtehjalgogjkdlaaDoor
set_option linter.unusedVariables false
set_option linter.unusedSimpArgs false
open Go.RowKit
end Go.Proofs.YtehjalgogjkdlaaDoor
