/-
  No cell of these rows narrows 'for every input' (looked for: loops, veiled, ifaces, maps, wideKeys, modest, calm, conditions, laid).
  DERIVED. THE GIVEN ROWS OF THIS SEAT. 6 by the template 'for every input the law returns true; each argument reads behind the call as it read before'; 0 by the template 'total and deterministic' (their statements: YtfnnnflfikmekaaTotals.lean).
  GIVEN WITH THE SEED: the statements are not yours to turn. If you find one false, say at which input.
  Laid BY PROGRAM, IN A SANDBOX (cutbox-rows.mjs): the forced cells as the released guide's own fill.sh prints them over the translation e8a9293c5749a78a… (all of the seat's roots in one cut). By AI agents, Wed Nov 11 2026. No macro, syntax, notation, axiom, sorry.
-/
import Derived.Test.YtfnnnflfikmekaaChecked
import GoSem.Claim
import GoSem.ClaimJoined
import GoSem.ClaimMapViews
import Derived.JoinedTies
import Derived.KernelRfl
namespace Go.Proofs.Ytfnnnflfikmekaa
/- THE CELL 'sum', in the pinned program and in every row, IS THE sha256 OF THE DUMP (.gsa) THAT YtfnnnflfikmekaaProg.lean LOADS. Nothing in Lean hashes anything: it is a label: what it is worth is what the hold of that sum in a sandbox is worth. -/
noncomputable def Try.pinned : Pinned := { name := "ytfnnnflfikmekaa", sum := "e8a9293c5749a78a7dd1b5e3be5e5c3c38c4d3e577c4d97df06589959fcac89b", checked := Try.checked }
namespace Rows
def none {H : Type} : Left H := { results := [], args := [] }

/-- 'faaslaw52.UsageRepeats': WHATEVER THE INPUT: true; the input reads as it did. -/
def usageRepeatsSpec : ChangeSpec := { name := "usageRepeats", fn := fun _ => fun
  | [d1, d2, d3, d4, d5] => { results := [.lit (.bool true)], args := [d1, d2, d3, d4, d5] }
  | _ => none }
def usageRepeatsRow : OpenClaim := { program := "ytfnnnflfikmekaa", sum := "e8a9293c5749a78a7dd1b5e3be5e5c3c38c4d3e577c4d97df06589959fcac89b", func := "faas/faaslaw52.UsageRepeats", spec := "usageRepeats", unfollowed := true, recurses := true, apart := false }
def UsageRepeatsSaid : Prop := usageRepeatsRow.holds Try.pinned (OpenSpec.ofChange usageRepeatsSpec)

/-- ITS FALSE NEIGHBOUR: 'it returns false'. Refute it at one input. -/
def usageRepeatsWrong : ChangeSpec := { name := "usageRepeats", fn := fun _ => fun
  | [d1, d2, d3, d4, d5] => { results := [.lit (.bool false)], args := [d1, d2, d3, d4, d5] }
  | _ => none }
def UsageRepeatsWrongFalsely : Prop := usageRepeatsRow.holds Try.pinned (OpenSpec.ofChange usageRepeatsWrong)

/-- 'faaslaw52.UsageOthers': WHATEVER THE INPUT: true; the input reads as it did. -/
def usageOthersSpec : ChangeSpec := { name := "usageOthers", fn := fun _ => fun
  | [d1, d2, d3] => { results := [.lit (.bool true)], args := [d1, d2, d3] }
  | _ => none }
def usageOthersRow : OpenClaim := { program := "ytfnnnflfikmekaa", sum := "e8a9293c5749a78a7dd1b5e3be5e5c3c38c4d3e577c4d97df06589959fcac89b", func := "faas/faaslaw52.UsageOthers", spec := "usageOthers", unfollowed := true, recurses := true, apart := false }
def UsageOthersSaid : Prop := usageOthersRow.holds Try.pinned (OpenSpec.ofChange usageOthersSpec)

/-- ITS FALSE NEIGHBOUR: 'it returns false'. Refute it at one input. -/
def usageOthersWrong : ChangeSpec := { name := "usageOthers", fn := fun _ => fun
  | [d1, d2, d3] => { results := [.lit (.bool false)], args := [d1, d2, d3] }
  | _ => none }
def UsageOthersWrongFalsely : Prop := usageOthersRow.holds Try.pinned (OpenSpec.ofChange usageOthersWrong)

/-- 'faaslaw52.UsageCloses': WHATEVER THE INPUT: true; the input reads as it did. -/
def usageClosesSpec : ChangeSpec := { name := "usageCloses", fn := fun _ => fun
  | [d1, d2, d3] => { results := [.lit (.bool true)], args := [d1, d2, d3] }
  | _ => none }
def usageClosesRow : OpenClaim := { program := "ytfnnnflfikmekaa", sum := "e8a9293c5749a78a7dd1b5e3be5e5c3c38c4d3e577c4d97df06589959fcac89b", func := "faas/faaslaw52.UsageCloses", spec := "usageCloses", unfollowed := true, recurses := true, apart := false }
def UsageClosesSaid : Prop := usageClosesRow.holds Try.pinned (OpenSpec.ofChange usageClosesSpec)

/-- ITS FALSE NEIGHBOUR: 'it returns false'. Refute it at one input. -/
def usageClosesWrong : ChangeSpec := { name := "usageCloses", fn := fun _ => fun
  | [d1, d2, d3] => { results := [.lit (.bool false)], args := [d1, d2, d3] }
  | _ => none }
def UsageClosesWrongFalsely : Prop := usageClosesRow.holds Try.pinned (OpenSpec.ofChange usageClosesWrong)

/-- 'faaslaw52.UsagePlays': WHATEVER THE INPUT: true; the input reads as it did. -/
def usagePlaysSpec : ChangeSpec := { name := "usagePlays", fn := fun _ => fun
  | [d1, d2, d3, d4] => { results := [.lit (.bool true)], args := [d1, d2, d3, d4] }
  | _ => none }
def usagePlaysRow : OpenClaim := { program := "ytfnnnflfikmekaa", sum := "e8a9293c5749a78a7dd1b5e3be5e5c3c38c4d3e577c4d97df06589959fcac89b", func := "faas/faaslaw52.UsagePlays", spec := "usagePlays", unfollowed := true, recurses := true, apart := false }
def UsagePlaysSaid : Prop := usagePlaysRow.holds Try.pinned (OpenSpec.ofChange usagePlaysSpec)

/-- ITS FALSE NEIGHBOUR: 'it returns false'. Refute it at one input. -/
def usagePlaysWrong : ChangeSpec := { name := "usagePlays", fn := fun _ => fun
  | [d1, d2, d3, d4] => { results := [.lit (.bool false)], args := [d1, d2, d3, d4] }
  | _ => none }
def UsagePlaysWrongFalsely : Prop := usagePlaysRow.holds Try.pinned (OpenSpec.ofChange usagePlaysWrong)

/-- 'faaslaw52.UsageAggregates': WHATEVER THE INPUT: true; the input reads as it did. -/
def usageAggregatesSpec : ChangeSpec := { name := "usageAggregates", fn := fun _ => fun
  | [d1, d2, d3] => { results := [.lit (.bool true)], args := [d1, d2, d3] }
  | _ => none }
def usageAggregatesRow : OpenClaim := { program := "ytfnnnflfikmekaa", sum := "e8a9293c5749a78a7dd1b5e3be5e5c3c38c4d3e577c4d97df06589959fcac89b", func := "faas/faaslaw52.UsageAggregates", spec := "usageAggregates", unfollowed := true, recurses := true, apart := false }
def UsageAggregatesSaid : Prop := usageAggregatesRow.holds Try.pinned (OpenSpec.ofChange usageAggregatesSpec)

/-- ITS FALSE NEIGHBOUR: 'it returns false'. Refute it at one input. -/
def usageAggregatesWrong : ChangeSpec := { name := "usageAggregates", fn := fun _ => fun
  | [d1, d2, d3] => { results := [.lit (.bool false)], args := [d1, d2, d3] }
  | _ => none }
def UsageAggregatesWrongFalsely : Prop := usageAggregatesRow.holds Try.pinned (OpenSpec.ofChange usageAggregatesWrong)

/-- 'faaslaw52.UsageNobody': WHATEVER THE INPUT: true; the input reads as it did. -/
def usageNobodySpec : ChangeSpec := { name := "usageNobody", fn := fun _ => fun
  | [d1, d2, d3] => { results := [.lit (.bool true)], args := [d1, d2, d3] }
  | _ => none }
def usageNobodyRow : OpenClaim := { program := "ytfnnnflfikmekaa", sum := "e8a9293c5749a78a7dd1b5e3be5e5c3c38c4d3e577c4d97df06589959fcac89b", func := "faas/faaslaw52.UsageNobody", spec := "usageNobody", unfollowed := true, recurses := true, apart := false }
def UsageNobodySaid : Prop := usageNobodyRow.holds Try.pinned (OpenSpec.ofChange usageNobodySpec)

/-- ITS FALSE NEIGHBOUR: 'it returns false'. Refute it at one input. -/
def usageNobodyWrong : ChangeSpec := { name := "usageNobody", fn := fun _ => fun
  | [d1, d2, d3] => { results := [.lit (.bool false)], args := [d1, d2, d3] }
  | _ => none }
def UsageNobodyWrongFalsely : Prop := usageNobodyRow.holds Try.pinned (OpenSpec.ofChange usageNobodyWrong)

/- THE SECOND FORM. 'bulk': how many values and letters a reading holds, each counted each time it is reached (what is shared counts as often as it is met; a slice's spare places count too). A statement '..UptoSaid' is the law's where the arguments, and the package variables that the reading takes, are together of bulk at most 1048576: NARROWER than '..Said'. Prove '..Said' where nothing that the law and all that it calls make is longer than what came in: it says more and counts as full. Else prove '..UptoSaid'. A law counts once. -/
mutual
def uptoBulk {H : Type} : DataW H → Nat
  | .lit (.string bytes) => bytes.length + 1
  | .lit _ => 1
  | .nil => 1
  | .ptr d => uptoBulk d + 1
  | .slice elems spare => uptoBulkAll elems + uptoBulkAll spare + 1
  | .agg parts => uptoBulkAll parts + 1
  | .iface _ d => uptoBulk d + 1
  | .map entries => uptoBulkEntries entries + 1
  | .held _ => 1
def uptoBulkAll {H : Type} : List (DataW H) → Nat
  | [] => 0
  | d :: r => uptoBulk d + uptoBulkAll r
def uptoBulkEntries {H : Type} : List (Lit × DataW H) → Nat
  | [] => 0
  | x :: r => uptoBulkEntry x + uptoBulkEntries r
def uptoBulkEntry {H : Type} : Lit × DataW H → Nat
  | (.string bytes, d) => bytes.length + uptoBulk d + 1
  | (_, d) => uptoBulk d + 1
 end
def uptoSmall : (H : Type) → List (DataW H) → Bool := fun _ ds => decide (uptoBulkAll ds ≤ 1048576)
def OpenSpec.upto (s : _root_.Go.ChangeSpec) : _root_.Go.OpenSpec := { _root_.Go.OpenSpec.ofChange s with cond := some uptoSmall }

/-- 'faaslaw52.UsageRepeats', WHERE WHAT IT READS IS OF BULK AT MOST 1048576: true; the input reads as it did. -/
def usageRepeatsUptoRow : OpenClaim := { program := "ytfnnnflfikmekaa", sum := "e8a9293c5749a78a7dd1b5e3be5e5c3c38c4d3e577c4d97df06589959fcac89b", func := "faas/faaslaw52.UsageRepeats", spec := "usageRepeats", unfollowed := true, recurses := true, apart := false, narrowed := true }
def UsageRepeatsUptoSaid : Prop := usageRepeatsUptoRow.holds Try.pinned (OpenSpec.upto usageRepeatsSpec)

/-- 'faaslaw52.UsageOthers', WHERE WHAT IT READS IS OF BULK AT MOST 1048576: true; the input reads as it did. -/
def usageOthersUptoRow : OpenClaim := { program := "ytfnnnflfikmekaa", sum := "e8a9293c5749a78a7dd1b5e3be5e5c3c38c4d3e577c4d97df06589959fcac89b", func := "faas/faaslaw52.UsageOthers", spec := "usageOthers", unfollowed := true, recurses := true, apart := false, narrowed := true }
def UsageOthersUptoSaid : Prop := usageOthersUptoRow.holds Try.pinned (OpenSpec.upto usageOthersSpec)

/-- 'faaslaw52.UsageCloses', WHERE WHAT IT READS IS OF BULK AT MOST 1048576: true; the input reads as it did. -/
def usageClosesUptoRow : OpenClaim := { program := "ytfnnnflfikmekaa", sum := "e8a9293c5749a78a7dd1b5e3be5e5c3c38c4d3e577c4d97df06589959fcac89b", func := "faas/faaslaw52.UsageCloses", spec := "usageCloses", unfollowed := true, recurses := true, apart := false, narrowed := true }
def UsageClosesUptoSaid : Prop := usageClosesUptoRow.holds Try.pinned (OpenSpec.upto usageClosesSpec)

/-- 'faaslaw52.UsagePlays', WHERE WHAT IT READS IS OF BULK AT MOST 1048576: true; the input reads as it did. -/
def usagePlaysUptoRow : OpenClaim := { program := "ytfnnnflfikmekaa", sum := "e8a9293c5749a78a7dd1b5e3be5e5c3c38c4d3e577c4d97df06589959fcac89b", func := "faas/faaslaw52.UsagePlays", spec := "usagePlays", unfollowed := true, recurses := true, apart := false, narrowed := true }
def UsagePlaysUptoSaid : Prop := usagePlaysUptoRow.holds Try.pinned (OpenSpec.upto usagePlaysSpec)

/-- 'faaslaw52.UsageAggregates', WHERE WHAT IT READS IS OF BULK AT MOST 1048576: true; the input reads as it did. -/
def usageAggregatesUptoRow : OpenClaim := { program := "ytfnnnflfikmekaa", sum := "e8a9293c5749a78a7dd1b5e3be5e5c3c38c4d3e577c4d97df06589959fcac89b", func := "faas/faaslaw52.UsageAggregates", spec := "usageAggregates", unfollowed := true, recurses := true, apart := false, narrowed := true }
def UsageAggregatesUptoSaid : Prop := usageAggregatesUptoRow.holds Try.pinned (OpenSpec.upto usageAggregatesSpec)

/-- 'faaslaw52.UsageNobody', WHERE WHAT IT READS IS OF BULK AT MOST 1048576: true; the input reads as it did. -/
def usageNobodyUptoRow : OpenClaim := { program := "ytfnnnflfikmekaa", sum := "e8a9293c5749a78a7dd1b5e3be5e5c3c38c4d3e577c4d97df06589959fcac89b", func := "faas/faaslaw52.UsageNobody", spec := "usageNobody", unfollowed := true, recurses := true, apart := false, narrowed := true }
def UsageNobodyUptoSaid : Prop := usageNobodyUptoRow.holds Try.pinned (OpenSpec.upto usageNobodySpec)

end Rows
end Go.Proofs.Ytfnnnflfikmekaa
