/-
  No cell of these rows narrows 'for every input' (looked for: loops, veiled, ifaces, maps, wideKeys, modest, calm, conditions, laid).
  DERIVED. THE GIVEN ROWS OF THIS SEAT. 6 by the template 'for every input the law returns true; each argument reads behind the call as it read before'; 0 by the template 'total and deterministic' (their statements: YtldilefhmpipkaaTotals.lean).
  GIVEN WITH THE SEED: the statements are not yours to turn. If you find one false, say at which input.
  Laid BY PROGRAM, IN A SANDBOX (cutbox-rows.mjs): the forced cells as the released guide's own fill.sh prints them over the translation b2d704977e42f055… (all of the seat's roots in one cut). By AI agents, Wed Nov 11 2026. No macro, syntax, notation, axiom, sorry.
-/
import Derived.Test.YtldilefhmpipkaaChecked
import GoSem.Claim
import GoSem.ClaimJoined
import GoSem.ClaimMapViews
import Derived.JoinedTies
import Derived.KernelRfl
namespace Go.Proofs.Ytldilefhmpipkaa
/- THE CELL 'sum', in the pinned program and in every row, IS THE sha256 OF THE DUMP (.gsa) THAT YtldilefhmpipkaaProg.lean LOADS. Nothing in Lean hashes anything: it is a label: what it is worth is what the hold of that sum in a sandbox is worth. -/
noncomputable def Try.pinned : Pinned := { name := "ytldilefhmpipkaa", sum := "b2d704977e42f0554d5e674ee28d8164d14c8686676a5642622b6d2c4002637e", checked := Try.checked }
namespace Rows
def none {H : Type} : Left H := { results := [], args := [] }

/-- 'faaslaw22.SecretTexts': WHATEVER THE INPUT: true; the input reads as it did. -/
def secretTextsSpec : ChangeSpec := { name := "secretTexts", fn := fun _ => fun
  | [d1, d2] => { results := [.lit (.bool true)], args := [d1, d2] }
  | _ => none }
def secretTextsRow : OpenClaim := { program := "ytldilefhmpipkaa", sum := "b2d704977e42f0554d5e674ee28d8164d14c8686676a5642622b6d2c4002637e", func := "faas/faaslaw22.SecretTexts", spec := "secretTexts", inPlace := ["internal/abi.NoEscape"], unfollowed := true, recurses := true, apart := false }
def SecretTextsSaid : Prop := secretTextsRow.holds Try.pinned (OpenSpec.ofChange secretTextsSpec)

/-- ITS FALSE NEIGHBOUR: 'it returns false'. Refute it at one input. -/
def secretTextsWrong : ChangeSpec := { name := "secretTexts", fn := fun _ => fun
  | [d1, d2] => { results := [.lit (.bool false)], args := [d1, d2] }
  | _ => none }
def SecretTextsWrongFalsely : Prop := secretTextsRow.holds Try.pinned (OpenSpec.ofChange secretTextsWrong)

/-- 'faaslaw22.SecretRedacts': WHATEVER THE INPUT: true; the input reads as it did. -/
def secretRedactsSpec : ChangeSpec := { name := "secretRedacts", fn := fun _ => fun
  | [d1, d2] => { results := [.lit (.bool true)], args := [d1, d2] }
  | _ => none }
def secretRedactsRow : OpenClaim := { program := "ytldilefhmpipkaa", sum := "b2d704977e42f0554d5e674ee28d8164d14c8686676a5642622b6d2c4002637e", func := "faas/faaslaw22.SecretRedacts", spec := "secretRedacts", inPlace := ["internal/abi.NoEscape"], unfollowed := true, recurses := true, apart := false }
def SecretRedactsSaid : Prop := secretRedactsRow.holds Try.pinned (OpenSpec.ofChange secretRedactsSpec)

/-- ITS FALSE NEIGHBOUR: 'it returns false'. Refute it at one input. -/
def secretRedactsWrong : ChangeSpec := { name := "secretRedacts", fn := fun _ => fun
  | [d1, d2] => { results := [.lit (.bool false)], args := [d1, d2] }
  | _ => none }
def SecretRedactsWrongFalsely : Prop := secretRedactsRow.holds Try.pinned (OpenSpec.ofChange secretRedactsWrong)

/-- 'faaslaw22.SecretRotates': WHATEVER THE INPUT: true; the input reads as it did. -/
def secretRotatesSpec : ChangeSpec := { name := "secretRotates", fn := fun _ => fun
  | [d1, d2, d3, d4, d5, d6, d7] => { results := [.lit (.bool true)], args := [d1, d2, d3, d4, d5, d6, d7] }
  | _ => none }
def secretRotatesRow : OpenClaim := { program := "ytldilefhmpipkaa", sum := "b2d704977e42f0554d5e674ee28d8164d14c8686676a5642622b6d2c4002637e", func := "faas/faaslaw22.SecretRotates", spec := "secretRotates", inPlace := ["internal/abi.NoEscape"], unfollowed := true, recurses := true, apart := false }
def SecretRotatesSaid : Prop := secretRotatesRow.holds Try.pinned (OpenSpec.ofChange secretRotatesSpec)

/-- ITS FALSE NEIGHBOUR: 'it returns false'. Refute it at one input. -/
def secretRotatesWrong : ChangeSpec := { name := "secretRotates", fn := fun _ => fun
  | [d1, d2, d3, d4, d5, d6, d7] => { results := [.lit (.bool false)], args := [d1, d2, d3, d4, d5, d6, d7] }
  | _ => none }
def SecretRotatesWrongFalsely : Prop := secretRotatesRow.holds Try.pinned (OpenSpec.ofChange secretRotatesWrong)

/-- 'faaslaw22.SecretWorks': WHATEVER THE INPUT: true; the input reads as it did. -/
def secretWorksSpec : ChangeSpec := { name := "secretWorks", fn := fun _ => fun
  | [d] => { results := [.lit (.bool true)], args := [d] }
  | _ => none }
def secretWorksRow : OpenClaim := { program := "ytldilefhmpipkaa", sum := "b2d704977e42f0554d5e674ee28d8164d14c8686676a5642622b6d2c4002637e", func := "faas/faaslaw22.SecretWorks", spec := "secretWorks", inPlace := ["internal/abi.NoEscape"], unfollowed := true, recurses := true, apart := false }
def SecretWorksSaid : Prop := secretWorksRow.holds Try.pinned (OpenSpec.ofChange secretWorksSpec)

/-- ITS FALSE NEIGHBOUR: 'it returns false'. Refute it at one input. -/
def secretWorksWrong : ChangeSpec := { name := "secretWorks", fn := fun _ => fun
  | [d] => { results := [.lit (.bool false)], args := [d] }
  | _ => none }
def SecretWorksWrongFalsely : Prop := secretWorksRow.holds Try.pinned (OpenSpec.ofChange secretWorksWrong)

/-- 'faaslaw22.SecretScopes': WHATEVER THE INPUT: true; the input reads as it did. -/
def secretScopesSpec : ChangeSpec := { name := "secretScopes", fn := fun _ => fun
  | [d1, d2, d3] => { results := [.lit (.bool true)], args := [d1, d2, d3] }
  | _ => none }
def secretScopesRow : OpenClaim := { program := "ytldilefhmpipkaa", sum := "b2d704977e42f0554d5e674ee28d8164d14c8686676a5642622b6d2c4002637e", func := "faas/faaslaw22.SecretScopes", spec := "secretScopes", inPlace := ["internal/abi.NoEscape"], unfollowed := true, recurses := true, apart := false }
def SecretScopesSaid : Prop := secretScopesRow.holds Try.pinned (OpenSpec.ofChange secretScopesSpec)

/-- ITS FALSE NEIGHBOUR: 'it returns false'. Refute it at one input. -/
def secretScopesWrong : ChangeSpec := { name := "secretScopes", fn := fun _ => fun
  | [d1, d2, d3] => { results := [.lit (.bool false)], args := [d1, d2, d3] }
  | _ => none }
def SecretScopesWrongFalsely : Prop := secretScopesRow.holds Try.pinned (OpenSpec.ofChange secretScopesWrong)

/-- 'faaslaw22.SecretNil': WHATEVER THE INPUT: true; the input reads as it did. -/
def secretNilSpec : ChangeSpec := { name := "secretNil", fn := fun _ => fun
  | [d] => { results := [.lit (.bool true)], args := [d] }
  | _ => none }
def secretNilRow : OpenClaim := { program := "ytldilefhmpipkaa", sum := "b2d704977e42f0554d5e674ee28d8164d14c8686676a5642622b6d2c4002637e", func := "faas/faaslaw22.SecretNil", spec := "secretNil", inPlace := ["internal/abi.NoEscape"], unfollowed := true, recurses := true, apart := false }
def SecretNilSaid : Prop := secretNilRow.holds Try.pinned (OpenSpec.ofChange secretNilSpec)

/-- ITS FALSE NEIGHBOUR: 'it returns false'. Refute it at one input. -/
def secretNilWrong : ChangeSpec := { name := "secretNil", fn := fun _ => fun
  | [d] => { results := [.lit (.bool false)], args := [d] }
  | _ => none }
def SecretNilWrongFalsely : Prop := secretNilRow.holds Try.pinned (OpenSpec.ofChange secretNilWrong)

/- THE SECOND FORM. 'bulk': how many values and letters a reading holds, each counted each time it is reached (what is shared counts as often as it is met; a slice's spare places count too). A statement '..UptoSaid' is the law's where the arguments, and the package variables that the reading takes, are together of bulk at most 1048576: NARROWER than '..Said'. Prove '..Said' where nothing that the law and all that it calls make is longer than what came in: it says more and counts as full. Else prove '..UptoSaid'. A law counts once. -/
mutual
def uptoBulk {H : Type} : DataW H → Nat
  | .lit (.string bytes) => bytes.length + 1
  | .lit _ => 1
  | .nil => 1
  | .ptr d => uptoBulk d + 1
  | .slice elems spare => uptoBulkAll elems + uptoBulkAll spare + 1
  | .agg parts => uptoBulkAll parts + 1
  | .iface _ d => uptoBulk d + 1
  | .map entries => uptoBulkEntries entries + 1
  | .held _ => 1
def uptoBulkAll {H : Type} : List (DataW H) → Nat
  | [] => 0
  | d :: r => uptoBulk d + uptoBulkAll r
def uptoBulkEntries {H : Type} : List (Lit × DataW H) → Nat
  | [] => 0
  | x :: r => uptoBulkEntry x + uptoBulkEntries r
def uptoBulkEntry {H : Type} : Lit × DataW H → Nat
  | (.string bytes, d) => bytes.length + uptoBulk d + 1
  | (_, d) => uptoBulk d + 1
 end
def uptoSmall : (H : Type) → List (DataW H) → Bool := fun _ ds => decide (uptoBulkAll ds ≤ 1048576)
def OpenSpec.upto (s : _root_.Go.ChangeSpec) : _root_.Go.OpenSpec := { _root_.Go.OpenSpec.ofChange s with cond := some uptoSmall }

/-- 'faaslaw22.SecretTexts', WHERE WHAT IT READS IS OF BULK AT MOST 1048576: true; the input reads as it did. -/
def secretTextsUptoRow : OpenClaim := { program := "ytldilefhmpipkaa", sum := "b2d704977e42f0554d5e674ee28d8164d14c8686676a5642622b6d2c4002637e", func := "faas/faaslaw22.SecretTexts", spec := "secretTexts", inPlace := ["internal/abi.NoEscape"], unfollowed := true, recurses := true, apart := false, narrowed := true }
def SecretTextsUptoSaid : Prop := secretTextsUptoRow.holds Try.pinned (OpenSpec.upto secretTextsSpec)

/-- 'faaslaw22.SecretRedacts', WHERE WHAT IT READS IS OF BULK AT MOST 1048576: true; the input reads as it did. -/
def secretRedactsUptoRow : OpenClaim := { program := "ytldilefhmpipkaa", sum := "b2d704977e42f0554d5e674ee28d8164d14c8686676a5642622b6d2c4002637e", func := "faas/faaslaw22.SecretRedacts", spec := "secretRedacts", inPlace := ["internal/abi.NoEscape"], unfollowed := true, recurses := true, apart := false, narrowed := true }
def SecretRedactsUptoSaid : Prop := secretRedactsUptoRow.holds Try.pinned (OpenSpec.upto secretRedactsSpec)

/-- 'faaslaw22.SecretRotates', WHERE WHAT IT READS IS OF BULK AT MOST 1048576: true; the input reads as it did. -/
def secretRotatesUptoRow : OpenClaim := { program := "ytldilefhmpipkaa", sum := "b2d704977e42f0554d5e674ee28d8164d14c8686676a5642622b6d2c4002637e", func := "faas/faaslaw22.SecretRotates", spec := "secretRotates", inPlace := ["internal/abi.NoEscape"], unfollowed := true, recurses := true, apart := false, narrowed := true }
def SecretRotatesUptoSaid : Prop := secretRotatesUptoRow.holds Try.pinned (OpenSpec.upto secretRotatesSpec)

/-- 'faaslaw22.SecretWorks', WHERE WHAT IT READS IS OF BULK AT MOST 1048576: true; the input reads as it did. -/
def secretWorksUptoRow : OpenClaim := { program := "ytldilefhmpipkaa", sum := "b2d704977e42f0554d5e674ee28d8164d14c8686676a5642622b6d2c4002637e", func := "faas/faaslaw22.SecretWorks", spec := "secretWorks", inPlace := ["internal/abi.NoEscape"], unfollowed := true, recurses := true, apart := false, narrowed := true }
def SecretWorksUptoSaid : Prop := secretWorksUptoRow.holds Try.pinned (OpenSpec.upto secretWorksSpec)

/-- 'faaslaw22.SecretScopes', WHERE WHAT IT READS IS OF BULK AT MOST 1048576: true; the input reads as it did. -/
def secretScopesUptoRow : OpenClaim := { program := "ytldilefhmpipkaa", sum := "b2d704977e42f0554d5e674ee28d8164d14c8686676a5642622b6d2c4002637e", func := "faas/faaslaw22.SecretScopes", spec := "secretScopes", inPlace := ["internal/abi.NoEscape"], unfollowed := true, recurses := true, apart := false, narrowed := true }
def SecretScopesUptoSaid : Prop := secretScopesUptoRow.holds Try.pinned (OpenSpec.upto secretScopesSpec)

/-- 'faaslaw22.SecretNil', WHERE WHAT IT READS IS OF BULK AT MOST 1048576: true; the input reads as it did. -/
def secretNilUptoRow : OpenClaim := { program := "ytldilefhmpipkaa", sum := "b2d704977e42f0554d5e674ee28d8164d14c8686676a5642622b6d2c4002637e", func := "faas/faaslaw22.SecretNil", spec := "secretNil", inPlace := ["internal/abi.NoEscape"], unfollowed := true, recurses := true, apart := false, narrowed := true }
def SecretNilUptoSaid : Prop := secretNilUptoRow.holds Try.pinned (OpenSpec.upto secretNilSpec)

end Rows
end Go.Proofs.Ytldilefhmpipkaa
