/-
  DERIVED. GIVEN WITH THE SEED: THE CARDS: each row of YtnhemokmgpelaaaGreatDoorRows.lean that lists a variable, with what it lists TIED to the program's text (the seventh form; the later family's looks); each row that meets fmt, with fmt's text TOLD by the authors' own Lean function (tested against real Go, not proved from fmt's source: count such statements apart). THE CARD IS WHAT COUNTS. Prove the row's statement (the work); the ties are given (YtnhemokmgpelaaaGreatDoorTie.lean); close each card by the builder's one call (the guide's Derived/Test/ToyasCard.lean, 'card_holds'). Laid BY PROGRAM, IN A SANDBOX (cutbox-door.mjs). By AI agents, Wed Nov 11 2026. No macro, syntax, notation, axiom, sorry.
-/
import Derived.Test.YtnhemokmgpelaaaGreatDoorRows
import GoSem.ClaimSeven
namespace Go.Proofs.YtnhemokmgpelaaaGreatDoor
namespace Rows

/-- THE TIED CARD OF 'faaslaw50.LinearSearches'. -/
def linearSearchesCard : Claim7 := { stood := { row := linearSearchesRow, standIns := [], harness := (true, "1fb345f878d3542c8d26ede11edd9220ce53cbe152eee875bebe9f23ecd726d4"), looks := false }, kinds := [], alts := [], laidByText := true, laidKinds := [.data, .data, .data], laidTests := true, laidLooks := .later }
def LinearSearchesCardSaid : Prop := Claim7.holds Tryz.pinned (.plain (OpenSpec.ofChange linearSearchesSpec)) linearSearchesCard

/-- THE TIED CARD OF 'faaslaw50.LinearLegals'. -/
def linearLegalsCard : Claim7 := { stood := { row := linearLegalsRow, standIns := [], harness := (true, "1fb345f878d3542c8d26ede11edd9220ce53cbe152eee875bebe9f23ecd726d4"), looks := false }, kinds := [], alts := [], laidByText := true, laidKinds := [.data, .data, .data], laidTests := true, laidLooks := .later }
def LinearLegalsCardSaid : Prop := Claim7.holds Tryz.pinned (.plain (OpenSpec.ofChange linearLegalsSpec)) linearLegalsCard

/-- THE SECOND FORM's CARD OF 'faaslaw50.LinearSearches'. -/
def linearSearchesUptoCard : Claim7 := { stood := { row := linearSearchesUptoRow, standIns := [], harness := (true, "1fb345f878d3542c8d26ede11edd9220ce53cbe152eee875bebe9f23ecd726d4"), looks := false }, kinds := [], alts := [], laidByText := true, laidKinds := [.data, .data, .data], laidTests := true, laidLooks := .later }
def LinearSearchesUptoCardSaid : Prop := Claim7.holds Tryz.pinned (.plain (OpenSpec.upto linearSearchesSpec)) linearSearchesUptoCard

/-- THE SECOND FORM's CARD OF 'faaslaw50.LinearLegals'. -/
def linearLegalsUptoCard : Claim7 := { stood := { row := linearLegalsUptoRow, standIns := [], harness := (true, "1fb345f878d3542c8d26ede11edd9220ce53cbe152eee875bebe9f23ecd726d4"), looks := false }, kinds := [], alts := [], laidByText := true, laidKinds := [.data, .data, .data], laidTests := true, laidLooks := .later }
def LinearLegalsUptoCardSaid : Prop := Claim7.holds Tryz.pinned (.plain (OpenSpec.upto linearLegalsSpec)) linearLegalsUptoCard
end Rows
end Go.Proofs.YtnhemokmgpelaaaGreatDoor
