/- Chapter 55: the walk of TopBills, double() with it. No condition but those that the statements name. -/
import Derived.Test.YtmofknmeljdodaaGreatDoorZS01
import Derived.Test.YtmofknmeljdodaaGreatDoorZB23
import Derived.Test.YtmofknmeljdodaaGreatDoorZS20
set_option maxHeartbeats 100000000
set_option maxRecDepth 100000
set_option linter.unusedVariables false
set_option linter.unusedSimpArgs false
open List renaming getElem_toArray→gTA,getElem_cons_zero→gCZ,getElem_cons_succ→gCS,setIfInBounds_toArray→sTA,set_cons_zero→sCZ,set_cons_succ→sCS
namespace Go.Proofs.YtmofknmeljdodaaGreatDoor
section
open Go.RowKit
theorem bills_walk (a0:Int) (a1:Int×Int) (a2:Option Addr) (len2 cap2:Nat) (l2:List Ud) (w:World) (h0:(Lit.int .u8 a0).wf=true) (h1:(Lit.int .u8 a1.1).wf=true∧(Lit.int .u8 a1.2).wf=true) (h2:SlIs udC 3 w a2 len2 l2∧(∀x∈l2,x.good)∧len2≤maxLen∧len2≤cap2) (ht:TabW w) (hs:ShW w):
 Calls Tryz.prog 5 #[.int .u8 a0, .agg #[.int .u8 a1.1, .int .u8 a1.2], .slice a2 len2 cap2] w fun e w'=>e= .returned (.bool true)∧Below w.heap.size w w':=
 bills_walk0 a0 a1 a2 len2 cap2 l2 w h0 h1 h2 (fun w' hc=>double_yes w' (ht.kept hc) (hs.kept hc))
end
end Go.Proofs.YtmofknmeljdodaaGreatDoor
