/-
  DERIVED. GIVEN WITH THE SEED: THE CARDS: each row of YtehjalgogjkdlaaDoorRows.lean that lists a variable, with what it lists TIED to the program's text (the seventh form; the later family's looks); each row that meets fmt, with fmt's text TOLD by the authors' own Lean function (tested against real Go, not proved from fmt's source: count such statements apart). THE CARD IS WHAT COUNTS. Prove the row's statement (the work); the ties are given (YtehjalgogjkdlaaDoorTie.lean); close each card by the builder's one call (the guide's Derived/Test/ToyasCard.lean, 'card_holds'). Laid BY PROGRAM, IN A SANDBOX (cutbox-door.mjs). By AI agents, Wed Nov 11 2026. No macro, syntax, notation, axiom, sorry.
-/
import Derived.Test.YtehjalgogjkdlaaDoorRows
import GoSem.ClaimSeven
namespace Go.Proofs.YtehjalgogjkdlaaDoor
namespace Rows

/-- THE TIED CARD OF 'faaslaw54.InvoiceAddsUp'. -/
def invoiceAddsUpCard : Claim7 := { stood := { row := invoiceAddsUpRow, standIns := [], harness := (true, "ff3c3922c3b200867794463ed08e66a029cabad0f1000a7ee32da254cb5c3cad"), looks := false }, kinds := [], alts := [], laidByText := true, laidKinds := [.data, .data, .data], laidTests := true, laidLooks := .later }
def InvoiceAddsUpCardSaid : Prop := Claim7.holds Tryd.pinned (.plain (OpenSpec.ofChange invoiceAddsUpSpec)) invoiceAddsUpCard

/-- THE TIED CARD OF 'faaslaw54.InvoiceRefunds'. -/
def invoiceRefundsCard : Claim7 := { stood := { row := invoiceRefundsRow, standIns := [], harness := (true, "ff3c3922c3b200867794463ed08e66a029cabad0f1000a7ee32da254cb5c3cad"), looks := false }, kinds := [], alts := [], laidByText := true, laidKinds := [.data, .data, .data], laidTests := true, laidLooks := .later }
def InvoiceRefundsCardSaid : Prop := Claim7.holds Tryd.pinned (.plain (OpenSpec.ofChange invoiceRefundsSpec)) invoiceRefundsCard

/-- THE SECOND FORM's CARD OF 'faaslaw54.InvoiceAddsUp'. -/
def invoiceAddsUpUptoCard : Claim7 := { stood := { row := invoiceAddsUpUptoRow, standIns := [], harness := (true, "ff3c3922c3b200867794463ed08e66a029cabad0f1000a7ee32da254cb5c3cad"), looks := false }, kinds := [], alts := [], laidByText := true, laidKinds := [.data, .data, .data], laidTests := true, laidLooks := .later }
def InvoiceAddsUpUptoCardSaid : Prop := Claim7.holds Tryd.pinned (.plain (OpenSpec.upto invoiceAddsUpSpec)) invoiceAddsUpUptoCard

/-- THE SECOND FORM's CARD OF 'faaslaw54.InvoiceRefunds'. -/
def invoiceRefundsUptoCard : Claim7 := { stood := { row := invoiceRefundsUptoRow, standIns := [], harness := (true, "ff3c3922c3b200867794463ed08e66a029cabad0f1000a7ee32da254cb5c3cad"), looks := false }, kinds := [], alts := [], laidByText := true, laidKinds := [.data, .data, .data], laidTests := true, laidLooks := .later }
def InvoiceRefundsUptoCardSaid : Prop := Claim7.holds Tryd.pinned (.plain (OpenSpec.upto invoiceRefundsSpec)) invoiceRefundsUptoCard
end Rows
end Go.Proofs.YtehjalgogjkdlaaDoor
