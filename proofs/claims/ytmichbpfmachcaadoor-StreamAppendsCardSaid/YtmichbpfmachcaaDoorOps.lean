/- Chapter 30: the law's operations. No condition. -/
import Derived.Test.YtmichbpfmachcaaDoorStmB
namespace Go.Proofs.YtmichbpfmachcaaDoor
set_option linter.unusedVariables false
set_option linter.unusedSimpArgs false
open Go.RowKit
structure OpS where
  kind : Int
  e : Ev
  now : Int
  shard : Int
  from_ : Int
  most : Int
def opC (x : OpS) : List Value := .int .i64 x.kind :: (evC x.e ++ [.int .i64 x.now, .int .i64 x.shard, .int .i64 x.from_, .int .i64 x.most])
theorem opC_len (x : OpS) : (opC x).length = 12 := rfl
end Go.Proofs.YtmichbpfmachcaaDoor
