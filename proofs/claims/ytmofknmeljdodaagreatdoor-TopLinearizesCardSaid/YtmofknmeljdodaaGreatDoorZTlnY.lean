/- Chapter 55: the walk of TopLinearizes, double() with it. No condition but those that the statements name. -/
import Derived.Test.YtmofknmeljdodaaGreatDoorZS01
import Derived.Test.YtmofknmeljdodaaGreatDoorZA08
import Derived.Test.YtmofknmeljdodaaGreatDoorZS20
set_option maxHeartbeats 100000000
set_option maxRecDepth 100000
set_option linter.unusedVariables false
set_option linter.unusedSimpArgs false
open List renaming getElem_toArray→gTA,getElem_cons_zero→gCZ,getElem_cons_succ→gCS,setIfInBounds_toArray→sTA,set_cons_zero→sCZ,set_cons_succ→sCS
namespace Go.Proofs.YtmofknmeljdodaaGreatDoor
section
open Go.RowKit
theorem linearizes_walk (a0:Option Addr) (len0 cap0:Nat) (l0:List Cli) (w:World) (h0:SlIs cliC 2 w a0 len0 l0∧(∀x∈l0,x.good)∧len0≤maxLen∧len0≤cap0) (ht:TabW w) (hs:ShW w):
 Calls Tryz.prog 4 #[.slice a0 len0 cap0] w fun e w'=>e= .returned (.bool true)∧Below w.heap.size w w':=
 linearizes_walk0 a0 len0 cap0 l0 w h0 ht (fun w' hc=>double_yes w' (ht.kept hc) (hs.kept hc))
end
end Go.Proofs.YtmofknmeljdodaaGreatDoor
