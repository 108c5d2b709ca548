/-
  No cell of these rows narrows 'for every input' (looked for: loops, veiled, ifaces, maps, wideKeys, modest, calm, conditions, laid).
  DERIVED. THE GIVEN ROWS OF THIS SEAT. 5 by the template 'for every input the law returns true; each argument reads behind the call as it read before'; 0 by the template 'total and deterministic' (their statements: YtjbnfaapkicejaaTotals.lean).
  GIVEN WITH THE SEED: the statements are not yours to turn. If you find one false, say at which input.
  Laid BY PROGRAM, IN A SANDBOX (cutbox-rows.mjs): the forced cells as the released guide's own fill.sh prints them over the translation d41e2429908b87f7… (all of the seat's roots in one cut). By AI agents, Wed Nov 11 2026. No macro, syntax, notation, axiom, sorry.
-/
import Derived.Test.YtjbnfaapkicejaaChecked
import GoSem.Claim
import GoSem.ClaimJoined
import GoSem.ClaimMapViews
import Derived.JoinedTies
import Derived.KernelRfl
namespace Go.Proofs.Ytjbnfaapkicejaa
/- THE CELL 'sum', in the pinned program and in every row, IS THE sha256 OF THE DUMP (.gsa) THAT YtjbnfaapkicejaaProg.lean LOADS. Nothing in Lean hashes anything: it is a label: what it is worth is what the hold of that sum in a sandbox is worth. -/
noncomputable def Try.pinned : Pinned := { name := "ytjbnfaapkicejaa", sum := "d41e2429908b87f79091de25b7a472d5381af166a7167f10f98e9a6dd2a361b4", checked := Try.checked }
namespace Rows
def none {H : Type} : Left H := { results := [], args := [] }

/-- 'faaslaw43.PlaceChooses': WHATEVER THE INPUT: true; the input reads as it did. -/
def placeChoosesSpec : ChangeSpec := { name := "placeChooses", fn := fun _ => fun
  | [d1, d2, d3] => { results := [.lit (.bool true)], args := [d1, d2, d3] }
  | _ => none }
def placeChoosesRow : OpenClaim := { program := "ytjbnfaapkicejaa", sum := "d41e2429908b87f79091de25b7a472d5381af166a7167f10f98e9a6dd2a361b4", func := "faas/faaslaw43.PlaceChooses", spec := "placeChooses", unfollowed := true, recurses := true, apart := false }
def PlaceChoosesSaid : Prop := placeChoosesRow.holds Try.pinned (OpenSpec.ofChange placeChoosesSpec)

/-- ITS FALSE NEIGHBOUR: 'it returns false'. Refute it at one input. -/
def placeChoosesWrong : ChangeSpec := { name := "placeChooses", fn := fun _ => fun
  | [d1, d2, d3] => { results := [.lit (.bool false)], args := [d1, d2, d3] }
  | _ => none }
def PlaceChoosesWrongFalsely : Prop := placeChoosesRow.holds Try.pinned (OpenSpec.ofChange placeChoosesWrong)

/-- 'faaslaw43.PlaceSpreads': WHATEVER THE INPUT: true; the input reads as it did. -/
def placeSpreadsSpec : ChangeSpec := { name := "placeSpreads", fn := fun _ => fun
  | [d1, d2, d3] => { results := [.lit (.bool true)], args := [d1, d2, d3] }
  | _ => none }
def placeSpreadsRow : OpenClaim := { program := "ytjbnfaapkicejaa", sum := "d41e2429908b87f79091de25b7a472d5381af166a7167f10f98e9a6dd2a361b4", func := "faas/faaslaw43.PlaceSpreads", spec := "placeSpreads", unfollowed := true, recurses := true, apart := false }
def PlaceSpreadsSaid : Prop := placeSpreadsRow.holds Try.pinned (OpenSpec.ofChange placeSpreadsSpec)

/-- ITS FALSE NEIGHBOUR: 'it returns false'. Refute it at one input. -/
def placeSpreadsWrong : ChangeSpec := { name := "placeSpreads", fn := fun _ => fun
  | [d1, d2, d3] => { results := [.lit (.bool false)], args := [d1, d2, d3] }
  | _ => none }
def PlaceSpreadsWrongFalsely : Prop := placeSpreadsRow.holds Try.pinned (OpenSpec.ofChange placeSpreadsWrong)

/-- 'faaslaw43.PlaceDrains': WHATEVER THE INPUT: true; the input reads as it did. -/
def placeDrainsSpec : ChangeSpec := { name := "placeDrains", fn := fun _ => fun
  | [d1, d2, d3] => { results := [.lit (.bool true)], args := [d1, d2, d3] }
  | _ => none }
def placeDrainsRow : OpenClaim := { program := "ytjbnfaapkicejaa", sum := "d41e2429908b87f79091de25b7a472d5381af166a7167f10f98e9a6dd2a361b4", func := "faas/faaslaw43.PlaceDrains", spec := "placeDrains", unfollowed := true, recurses := true, apart := false }
def PlaceDrainsSaid : Prop := placeDrainsRow.holds Try.pinned (OpenSpec.ofChange placeDrainsSpec)

/-- ITS FALSE NEIGHBOUR: 'it returns false'. Refute it at one input. -/
def placeDrainsWrong : ChangeSpec := { name := "placeDrains", fn := fun _ => fun
  | [d1, d2, d3] => { results := [.lit (.bool false)], args := [d1, d2, d3] }
  | _ => none }
def PlaceDrainsWrongFalsely : Prop := placeDrainsRow.holds Try.pinned (OpenSpec.ofChange placeDrainsWrong)

/-- 'faaslaw43.PlaceChecks': WHATEVER THE INPUT: true; the input reads as it did. -/
def placeChecksSpec : ChangeSpec := { name := "placeChecks", fn := fun _ => fun
  | [d1, d2, d3] => { results := [.lit (.bool true)], args := [d1, d2, d3] }
  | _ => none }
def placeChecksRow : OpenClaim := { program := "ytjbnfaapkicejaa", sum := "d41e2429908b87f79091de25b7a472d5381af166a7167f10f98e9a6dd2a361b4", func := "faas/faaslaw43.PlaceChecks", spec := "placeChecks", unfollowed := true, recurses := true, apart := false }
def PlaceChecksSaid : Prop := placeChecksRow.holds Try.pinned (OpenSpec.ofChange placeChecksSpec)

/-- ITS FALSE NEIGHBOUR: 'it returns false'. Refute it at one input. -/
def placeChecksWrong : ChangeSpec := { name := "placeChecks", fn := fun _ => fun
  | [d1, d2, d3] => { results := [.lit (.bool false)], args := [d1, d2, d3] }
  | _ => none }
def PlaceChecksWrongFalsely : Prop := placeChecksRow.holds Try.pinned (OpenSpec.ofChange placeChecksWrong)

/-- 'faaslaw43.PlaceFits': WHATEVER THE INPUT: true; the input reads as it did. -/
def placeFitsSpec : ChangeSpec := { name := "placeFits", fn := fun _ => fun
  | [d1, d2, d3] => { results := [.lit (.bool true)], args := [d1, d2, d3] }
  | _ => none }
def placeFitsRow : OpenClaim := { program := "ytjbnfaapkicejaa", sum := "d41e2429908b87f79091de25b7a472d5381af166a7167f10f98e9a6dd2a361b4", func := "faas/faaslaw43.PlaceFits", spec := "placeFits", unfollowed := true, recurses := true, apart := false }
def PlaceFitsSaid : Prop := placeFitsRow.holds Try.pinned (OpenSpec.ofChange placeFitsSpec)

/-- ITS FALSE NEIGHBOUR: 'it returns false'. Refute it at one input. -/
def placeFitsWrong : ChangeSpec := { name := "placeFits", fn := fun _ => fun
  | [d1, d2, d3] => { results := [.lit (.bool false)], args := [d1, d2, d3] }
  | _ => none }
def PlaceFitsWrongFalsely : Prop := placeFitsRow.holds Try.pinned (OpenSpec.ofChange placeFitsWrong)

/- THE SECOND FORM. 'bulk': how many values and letters a reading holds, each counted each time it is reached (what is shared counts as often as it is met; a slice's spare places count too). A statement '..UptoSaid' is the law's where the arguments, and the package variables that the reading takes, are together of bulk at most 1048576: NARROWER than '..Said'. Prove '..Said' where nothing that the law and all that it calls make is longer than what came in: it says more and counts as full. Else prove '..UptoSaid'. A law counts once. -/
mutual
def uptoBulk {H : Type} : DataW H → Nat
  | .lit (.string bytes) => bytes.length + 1
  | .lit _ => 1
  | .nil => 1
  | .ptr d => uptoBulk d + 1
  | .slice elems spare => uptoBulkAll elems + uptoBulkAll spare + 1
  | .agg parts => uptoBulkAll parts + 1
  | .iface _ d => uptoBulk d + 1
  | .map entries => uptoBulkEntries entries + 1
  | .held _ => 1
def uptoBulkAll {H : Type} : List (DataW H) → Nat
  | [] => 0
  | d :: r => uptoBulk d + uptoBulkAll r
def uptoBulkEntries {H : Type} : List (Lit × DataW H) → Nat
  | [] => 0
  | x :: r => uptoBulkEntry x + uptoBulkEntries r
def uptoBulkEntry {H : Type} : Lit × DataW H → Nat
  | (.string bytes, d) => bytes.length + uptoBulk d + 1
  | (_, d) => uptoBulk d + 1
 end
def uptoSmall : (H : Type) → List (DataW H) → Bool := fun _ ds => decide (uptoBulkAll ds ≤ 1048576)
def OpenSpec.upto (s : _root_.Go.ChangeSpec) : _root_.Go.OpenSpec := { _root_.Go.OpenSpec.ofChange s with cond := some uptoSmall }

/-- 'faaslaw43.PlaceChooses', WHERE WHAT IT READS IS OF BULK AT MOST 1048576: true; the input reads as it did. -/
def placeChoosesUptoRow : OpenClaim := { program := "ytjbnfaapkicejaa", sum := "d41e2429908b87f79091de25b7a472d5381af166a7167f10f98e9a6dd2a361b4", func := "faas/faaslaw43.PlaceChooses", spec := "placeChooses", unfollowed := true, recurses := true, apart := false, narrowed := true }
def PlaceChoosesUptoSaid : Prop := placeChoosesUptoRow.holds Try.pinned (OpenSpec.upto placeChoosesSpec)

/-- 'faaslaw43.PlaceSpreads', WHERE WHAT IT READS IS OF BULK AT MOST 1048576: true; the input reads as it did. -/
def placeSpreadsUptoRow : OpenClaim := { program := "ytjbnfaapkicejaa", sum := "d41e2429908b87f79091de25b7a472d5381af166a7167f10f98e9a6dd2a361b4", func := "faas/faaslaw43.PlaceSpreads", spec := "placeSpreads", unfollowed := true, recurses := true, apart := false, narrowed := true }
def PlaceSpreadsUptoSaid : Prop := placeSpreadsUptoRow.holds Try.pinned (OpenSpec.upto placeSpreadsSpec)

/-- 'faaslaw43.PlaceDrains', WHERE WHAT IT READS IS OF BULK AT MOST 1048576: true; the input reads as it did. -/
def placeDrainsUptoRow : OpenClaim := { program := "ytjbnfaapkicejaa", sum := "d41e2429908b87f79091de25b7a472d5381af166a7167f10f98e9a6dd2a361b4", func := "faas/faaslaw43.PlaceDrains", spec := "placeDrains", unfollowed := true, recurses := true, apart := false, narrowed := true }
def PlaceDrainsUptoSaid : Prop := placeDrainsUptoRow.holds Try.pinned (OpenSpec.upto placeDrainsSpec)

/-- 'faaslaw43.PlaceChecks', WHERE WHAT IT READS IS OF BULK AT MOST 1048576: true; the input reads as it did. -/
def placeChecksUptoRow : OpenClaim := { program := "ytjbnfaapkicejaa", sum := "d41e2429908b87f79091de25b7a472d5381af166a7167f10f98e9a6dd2a361b4", func := "faas/faaslaw43.PlaceChecks", spec := "placeChecks", unfollowed := true, recurses := true, apart := false, narrowed := true }
def PlaceChecksUptoSaid : Prop := placeChecksUptoRow.holds Try.pinned (OpenSpec.upto placeChecksSpec)

/-- 'faaslaw43.PlaceFits', WHERE WHAT IT READS IS OF BULK AT MOST 1048576: true; the input reads as it did. -/
def placeFitsUptoRow : OpenClaim := { program := "ytjbnfaapkicejaa", sum := "d41e2429908b87f79091de25b7a472d5381af166a7167f10f98e9a6dd2a361b4", func := "faas/faaslaw43.PlaceFits", spec := "placeFits", unfollowed := true, recurses := true, apart := false, narrowed := true }
def PlaceFitsUptoSaid : Prop := placeFitsUptoRow.holds Try.pinned (OpenSpec.upto placeFitsSpec)

end Rows
end Go.Proofs.Ytjbnfaapkicejaa
