/-
  DERIVED. GIVEN WITH THE SEED: THE CARDS: each row of YtolidiafomceiaaDoorRows.lean that lists a variable, with what it lists TIED to the program's text (the seventh form; the later family's looks); each row that meets fmt, with fmt's text TOLD by the authors' own Lean function (tested against real Go, not proved from fmt's source: count such statements apart). THE CARD IS WHAT COUNTS. Prove the row's statement (the work); the ties are given (YtolidiafomceiaaDoorTie.lean); close each card by the builder's one call (the guide's Derived/Test/ToyasCard.lean, 'card_holds'). Laid BY PROGRAM, IN A SANDBOX (cutbox-door.mjs). By AI agents, Wed Nov 11 2026. No macro, syntax, notation, axiom, sorry.
-/
import Derived.Test.YtolidiafomceiaaDoorRows
import GoSem.ClaimSeven
namespace Go.Proofs.YtolidiafomceiaaDoor
namespace Rows

/-- THE TIED CARD OF 'faaslaw09.StaticNames'. -/
def staticNamesCard : Claim7 := { stood := { row := staticNamesRow, standIns := [], harness := (true, "0b0bcbdd184198c609695130de9fe8abc77ea22efafd1d58301d5ad0ee24d926"), looks := false }, kinds := [], alts := [], laidByText := true, laidKinds := [.data, .data, .data], laidTests := true, laidLooks := .later }
def StaticNamesCardSaid : Prop := Claim7.holds Tryd.pinned (.plain (OpenSpec.ofChange staticNamesSpec)) staticNamesCard

/-- THE SECOND FORM's CARD OF 'faaslaw09.StaticNames'. -/
def staticNamesUptoCard : Claim7 := { stood := { row := staticNamesUptoRow, standIns := [], harness := (true, "0b0bcbdd184198c609695130de9fe8abc77ea22efafd1d58301d5ad0ee24d926"), looks := false }, kinds := [], alts := [], laidByText := true, laidKinds := [.data, .data, .data], laidTests := true, laidLooks := .later }
def StaticNamesUptoCardSaid : Prop := Claim7.holds Tryd.pinned (.plain (OpenSpec.upto staticNamesSpec)) staticNamesUptoCard
end Rows
end Go.Proofs.YtolidiafomceiaaDoor
