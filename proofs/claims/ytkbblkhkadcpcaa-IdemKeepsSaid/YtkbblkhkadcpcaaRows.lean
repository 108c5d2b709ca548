/-
  No cell of these rows narrows 'for every input' (looked for: loops, veiled, ifaces, maps, wideKeys, modest, calm, conditions, laid).
  DERIVED. THE GIVEN ROWS OF THIS SEAT. 5 by the template 'for every input the law returns true; each argument reads behind the call as it read before'; 0 by the template 'total and deterministic' (their statements: YtkbblkhkadcpcaaTotals.lean).
  GIVEN WITH THE SEED: the statements are not yours to turn. If you find one false, say at which input.
  Laid BY PROGRAM, IN A SANDBOX (cutbox-rows.mjs): the forced cells as the released guide's own fill.sh prints them over the translation e64c61eedb665179… (all of the seat's roots in one cut). By AI agents, Wed Nov 11 2026. No macro, syntax, notation, axiom, sorry.
-/
import Derived.Test.YtkbblkhkadcpcaaChecked
import GoSem.Claim
import GoSem.ClaimJoined
import GoSem.ClaimMapViews
import Derived.JoinedTies
import Derived.KernelRfl
namespace Go.Proofs.Ytkbblkhkadcpcaa
/- THE CELL 'sum', in the pinned program and in every row, IS THE sha256 OF THE DUMP (.gsa) THAT YtkbblkhkadcpcaaProg.lean LOADS. Nothing in Lean hashes anything: it is a label: what it is worth is what the hold of that sum in a sandbox is worth. -/
noncomputable def Try.pinned : Pinned := { name := "ytkbblkhkadcpcaa", sum := "e64c61eedb6651799101a0789b87a3c02cb7870dd1e12da4d5b4f9ebcc5b9bcb", checked := Try.checked }
namespace Rows
def none {H : Type} : Left H := { results := [], args := [] }

/-- 'faaslaw27.IdemLives': WHATEVER THE INPUT: true; the input reads as it did. -/
def idemLivesSpec : ChangeSpec := { name := "idemLives", fn := fun _ => fun
  | [d1, d2, d3] => { results := [.lit (.bool true)], args := [d1, d2, d3] }
  | _ => none }
def idemLivesRow : OpenClaim := { program := "ytkbblkhkadcpcaa", sum := "e64c61eedb6651799101a0789b87a3c02cb7870dd1e12da4d5b4f9ebcc5b9bcb", func := "faas/faaslaw27.IdemLives", spec := "idemLives", apart := false }
def IdemLivesSaid : Prop := idemLivesRow.holds Try.pinned (OpenSpec.ofChange idemLivesSpec)

/-- ITS FALSE NEIGHBOUR: 'it returns false'. Refute it at one input. -/
def idemLivesWrong : ChangeSpec := { name := "idemLives", fn := fun _ => fun
  | [d1, d2, d3] => { results := [.lit (.bool false)], args := [d1, d2, d3] }
  | _ => none }
def IdemLivesWrongFalsely : Prop := idemLivesRow.holds Try.pinned (OpenSpec.ofChange idemLivesWrong)

/-- 'faaslaw27.IdemOnce': WHATEVER THE INPUT: true; the input reads as it did. -/
def idemOnceSpec : ChangeSpec := { name := "idemOnce", fn := fun _ => fun
  | [d1, d2] => { results := [.lit (.bool true)], args := [d1, d2] }
  | _ => none }
def idemOnceRow : OpenClaim := { program := "ytkbblkhkadcpcaa", sum := "e64c61eedb6651799101a0789b87a3c02cb7870dd1e12da4d5b4f9ebcc5b9bcb", func := "faas/faaslaw27.IdemOnce", spec := "idemOnce", apart := false }
def IdemOnceSaid : Prop := idemOnceRow.holds Try.pinned (OpenSpec.ofChange idemOnceSpec)

/-- ITS FALSE NEIGHBOUR: 'it returns false'. Refute it at one input. -/
def idemOnceWrong : ChangeSpec := { name := "idemOnce", fn := fun _ => fun
  | [d1, d2] => { results := [.lit (.bool false)], args := [d1, d2] }
  | _ => none }
def IdemOnceWrongFalsely : Prop := idemOnceRow.holds Try.pinned (OpenSpec.ofChange idemOnceWrong)

/-- 'faaslaw27.IdemPlays': WHATEVER THE INPUT: true; the input reads as it did. -/
def idemPlaysSpec : ChangeSpec := { name := "idemPlays", fn := fun _ => fun
  | [d1, d2, d3] => { results := [.lit (.bool true)], args := [d1, d2, d3] }
  | _ => none }
def idemPlaysRow : OpenClaim := { program := "ytkbblkhkadcpcaa", sum := "e64c61eedb6651799101a0789b87a3c02cb7870dd1e12da4d5b4f9ebcc5b9bcb", func := "faas/faaslaw27.IdemPlays", spec := "idemPlays", recurses := true, apart := false }
def IdemPlaysSaid : Prop := idemPlaysRow.holds Try.pinned (OpenSpec.ofChange idemPlaysSpec)

/-- ITS FALSE NEIGHBOUR: 'it returns false'. Refute it at one input. -/
def idemPlaysWrong : ChangeSpec := { name := "idemPlays", fn := fun _ => fun
  | [d1, d2, d3] => { results := [.lit (.bool false)], args := [d1, d2, d3] }
  | _ => none }
def IdemPlaysWrongFalsely : Prop := idemPlaysRow.holds Try.pinned (OpenSpec.ofChange idemPlaysWrong)

/-- 'faaslaw27.IdemKeeps': WHATEVER THE INPUT: true; the input reads as it did. -/
def idemKeepsSpec : ChangeSpec := { name := "idemKeeps", fn := fun _ => fun
  | [d1, d2, d3, d4, d5] => { results := [.lit (.bool true)], args := [d1, d2, d3, d4, d5] }
  | _ => none }
def idemKeepsRow : OpenClaim := { program := "ytkbblkhkadcpcaa", sum := "e64c61eedb6651799101a0789b87a3c02cb7870dd1e12da4d5b4f9ebcc5b9bcb", func := "faas/faaslaw27.IdemKeeps", spec := "idemKeeps", recurses := true, apart := false }
def IdemKeepsSaid : Prop := idemKeepsRow.holds Try.pinned (OpenSpec.ofChange idemKeepsSpec)

/-- ITS FALSE NEIGHBOUR: 'it returns false'. Refute it at one input. -/
def idemKeepsWrong : ChangeSpec := { name := "idemKeeps", fn := fun _ => fun
  | [d1, d2, d3, d4, d5] => { results := [.lit (.bool false)], args := [d1, d2, d3, d4, d5] }
  | _ => none }
def IdemKeepsWrongFalsely : Prop := idemKeepsRow.holds Try.pinned (OpenSpec.ofChange idemKeepsWrong)

/-- 'faaslaw27.IdemNobody': WHATEVER THE INPUT: true; the input reads as it did. -/
def idemNobodySpec : ChangeSpec := { name := "idemNobody", fn := fun _ => fun
  | [d1, d2, d3] => { results := [.lit (.bool true)], args := [d1, d2, d3] }
  | _ => none }
def idemNobodyRow : OpenClaim := { program := "ytkbblkhkadcpcaa", sum := "e64c61eedb6651799101a0789b87a3c02cb7870dd1e12da4d5b4f9ebcc5b9bcb", func := "faas/faaslaw27.IdemNobody", spec := "idemNobody", recurses := true, apart := false }
def IdemNobodySaid : Prop := idemNobodyRow.holds Try.pinned (OpenSpec.ofChange idemNobodySpec)

/-- ITS FALSE NEIGHBOUR: 'it returns false'. Refute it at one input. -/
def idemNobodyWrong : ChangeSpec := { name := "idemNobody", fn := fun _ => fun
  | [d1, d2, d3] => { results := [.lit (.bool false)], args := [d1, d2, d3] }
  | _ => none }
def IdemNobodyWrongFalsely : Prop := idemNobodyRow.holds Try.pinned (OpenSpec.ofChange idemNobodyWrong)

/- THE SECOND FORM. 'bulk': how many values and letters a reading holds, each counted each time it is reached (what is shared counts as often as it is met; a slice's spare places count too). A statement '..UptoSaid' is the law's where the arguments, and the package variables that the reading takes, are together of bulk at most 1048576: NARROWER than '..Said'. Prove '..Said' where nothing that the law and all that it calls make is longer than what came in: it says more and counts as full. Else prove '..UptoSaid'. A law counts once. -/
mutual
def uptoBulk {H : Type} : DataW H → Nat
  | .lit (.string bytes) => bytes.length + 1
  | .lit _ => 1
  | .nil => 1
  | .ptr d => uptoBulk d + 1
  | .slice elems spare => uptoBulkAll elems + uptoBulkAll spare + 1
  | .agg parts => uptoBulkAll parts + 1
  | .iface _ d => uptoBulk d + 1
  | .map entries => uptoBulkEntries entries + 1
  | .held _ => 1
def uptoBulkAll {H : Type} : List (DataW H) → Nat
  | [] => 0
  | d :: r => uptoBulk d + uptoBulkAll r
def uptoBulkEntries {H : Type} : List (Lit × DataW H) → Nat
  | [] => 0
  | x :: r => uptoBulkEntry x + uptoBulkEntries r
def uptoBulkEntry {H : Type} : Lit × DataW H → Nat
  | (.string bytes, d) => bytes.length + uptoBulk d + 1
  | (_, d) => uptoBulk d + 1
 end
def uptoSmall : (H : Type) → List (DataW H) → Bool := fun _ ds => decide (uptoBulkAll ds ≤ 1048576)
def OpenSpec.upto (s : _root_.Go.ChangeSpec) : _root_.Go.OpenSpec := { _root_.Go.OpenSpec.ofChange s with cond := some uptoSmall }

/-- 'faaslaw27.IdemLives', WHERE WHAT IT READS IS OF BULK AT MOST 1048576: true; the input reads as it did. -/
def idemLivesUptoRow : OpenClaim := { program := "ytkbblkhkadcpcaa", sum := "e64c61eedb6651799101a0789b87a3c02cb7870dd1e12da4d5b4f9ebcc5b9bcb", func := "faas/faaslaw27.IdemLives", spec := "idemLives", apart := false, narrowed := true }
def IdemLivesUptoSaid : Prop := idemLivesUptoRow.holds Try.pinned (OpenSpec.upto idemLivesSpec)

/-- 'faaslaw27.IdemOnce', WHERE WHAT IT READS IS OF BULK AT MOST 1048576: true; the input reads as it did. -/
def idemOnceUptoRow : OpenClaim := { program := "ytkbblkhkadcpcaa", sum := "e64c61eedb6651799101a0789b87a3c02cb7870dd1e12da4d5b4f9ebcc5b9bcb", func := "faas/faaslaw27.IdemOnce", spec := "idemOnce", apart := false, narrowed := true }
def IdemOnceUptoSaid : Prop := idemOnceUptoRow.holds Try.pinned (OpenSpec.upto idemOnceSpec)

/-- 'faaslaw27.IdemPlays', WHERE WHAT IT READS IS OF BULK AT MOST 1048576: true; the input reads as it did. -/
def idemPlaysUptoRow : OpenClaim := { program := "ytkbblkhkadcpcaa", sum := "e64c61eedb6651799101a0789b87a3c02cb7870dd1e12da4d5b4f9ebcc5b9bcb", func := "faas/faaslaw27.IdemPlays", spec := "idemPlays", recurses := true, apart := false, narrowed := true }
def IdemPlaysUptoSaid : Prop := idemPlaysUptoRow.holds Try.pinned (OpenSpec.upto idemPlaysSpec)

/-- 'faaslaw27.IdemKeeps', WHERE WHAT IT READS IS OF BULK AT MOST 1048576: true; the input reads as it did. -/
def idemKeepsUptoRow : OpenClaim := { program := "ytkbblkhkadcpcaa", sum := "e64c61eedb6651799101a0789b87a3c02cb7870dd1e12da4d5b4f9ebcc5b9bcb", func := "faas/faaslaw27.IdemKeeps", spec := "idemKeeps", recurses := true, apart := false, narrowed := true }
def IdemKeepsUptoSaid : Prop := idemKeepsUptoRow.holds Try.pinned (OpenSpec.upto idemKeepsSpec)

/-- 'faaslaw27.IdemNobody', WHERE WHAT IT READS IS OF BULK AT MOST 1048576: true; the input reads as it did. -/
def idemNobodyUptoRow : OpenClaim := { program := "ytkbblkhkadcpcaa", sum := "e64c61eedb6651799101a0789b87a3c02cb7870dd1e12da4d5b4f9ebcc5b9bcb", func := "faas/faaslaw27.IdemNobody", spec := "idemNobody", recurses := true, apart := false, narrowed := true }
def IdemNobodyUptoSaid : Prop := idemNobodyUptoRow.holds Try.pinned (OpenSpec.upto idemNobodySpec)

end Rows
end Go.Proofs.Ytkbblkhkadcpcaa
