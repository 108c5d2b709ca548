/-
  DERIVED. GIVEN WITH THE SEED: THE CARDS: each row of YtmofknmeljdodaaGreatDoorRows.lean that lists a variable, with what it lists TIED to the program's text (the seventh form; the later family's looks); each row that meets fmt, with fmt's text TOLD by the authors' own Lean function (tested against real Go, not proved from fmt's source: count such statements apart). THE CARD IS WHAT COUNTS. Prove the row's statement (the work); the ties are given (YtmofknmeljdodaaGreatDoorTie.lean); close each card by the builder's one call (the guide's Derived/Test/ToyasCard.lean, 'card_holds'). Laid BY PROGRAM, IN A SANDBOX (cutbox-door.mjs). By AI agents, Wed Nov 11 2026. No macro, syntax, notation, axiom, sorry.
-/
import Derived.Test.YtmofknmeljdodaaGreatDoorRows
import GoSem.ClaimSeven
namespace Go.Proofs.YtmofknmeljdodaaGreatDoor
namespace Rows

/-- THE TIED CARD OF 'faastop.TopSource'. -/
def topSourceCard : Claim7 := { stood := { row := topSourceRow, standIns := [], harness := (true, "fdbe0b61c3209918eed2afc272ab51e3cc3997a72991be3315fdf01ebc757b0e"), looks := true }, kinds := [], alts := [], laidByText := true, laidKinds := [.data, .data, .data, .sentinel, .sentinel, .data], laidTests := true, laidLooks := .later }
def TopSourceCardSaid : Prop := Claim7.holds Tryz.pinned (.plain (OpenSpec.ofChange topSourceSpec)) topSourceCard

/-- THE TIED CARD OF 'faastop.TopLinearizes'. -/
def topLinearizesCard : Claim7 := { stood := { row := topLinearizesRow, standIns := [], harness := (true, "fdbe0b61c3209918eed2afc272ab51e3cc3997a72991be3315fdf01ebc757b0e"), looks := true }, kinds := [], alts := [], laidByText := true, laidKinds := [.data, .data, .data, .sentinel, .sentinel, .data], laidTests := true, laidLooks := .later }
def TopLinearizesCardSaid : Prop := Claim7.holds Tryz.pinned (.plain (OpenSpec.ofChange topLinearizesSpec)) topLinearizesCard

/-- THE TIED CARD OF 'faastop.TopBills'. -/
def topBillsCard : Claim7 := { stood := { row := topBillsRow, standIns := [], harness := (true, "fdbe0b61c3209918eed2afc272ab51e3cc3997a72991be3315fdf01ebc757b0e"), looks := true }, kinds := [], alts := [], laidByText := true, laidKinds := [.data, .data, .data, .sentinel, .sentinel, .data], laidTests := true, laidLooks := .later }
def TopBillsCardSaid : Prop := Claim7.holds Tryz.pinned (.plain (OpenSpec.ofChange topBillsSpec)) topBillsCard

/-- THE SECOND FORM's CARD OF 'faastop.TopSource'. -/
def topSourceUptoCard : Claim7 := { stood := { row := topSourceUptoRow, standIns := [], harness := (true, "fdbe0b61c3209918eed2afc272ab51e3cc3997a72991be3315fdf01ebc757b0e"), looks := true }, kinds := [], alts := [], laidByText := true, laidKinds := [.data, .data, .data, .sentinel, .sentinel, .data], laidTests := true, laidLooks := .later }
def TopSourceUptoCardSaid : Prop := Claim7.holds Tryz.pinned (.plain (OpenSpec.upto topSourceSpec)) topSourceUptoCard

/-- THE SECOND FORM's CARD OF 'faastop.TopLinearizes'. -/
def topLinearizesUptoCard : Claim7 := { stood := { row := topLinearizesUptoRow, standIns := [], harness := (true, "fdbe0b61c3209918eed2afc272ab51e3cc3997a72991be3315fdf01ebc757b0e"), looks := true }, kinds := [], alts := [], laidByText := true, laidKinds := [.data, .data, .data, .sentinel, .sentinel, .data], laidTests := true, laidLooks := .later }
def TopLinearizesUptoCardSaid : Prop := Claim7.holds Tryz.pinned (.plain (OpenSpec.upto topLinearizesSpec)) topLinearizesUptoCard

/-- THE SECOND FORM's CARD OF 'faastop.TopBills'. -/
def topBillsUptoCard : Claim7 := { stood := { row := topBillsUptoRow, standIns := [], harness := (true, "fdbe0b61c3209918eed2afc272ab51e3cc3997a72991be3315fdf01ebc757b0e"), looks := true }, kinds := [], alts := [], laidByText := true, laidKinds := [.data, .data, .data, .sentinel, .sentinel, .data], laidTests := true, laidLooks := .later }
def TopBillsUptoCardSaid : Prop := Claim7.holds Tryz.pinned (.plain (OpenSpec.upto topBillsSpec)) topBillsUptoCard
end Rows
end Go.Proofs.YtmofknmeljdodaaGreatDoor
