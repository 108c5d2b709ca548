/-
  DERIVED. GIVEN WITH THE SEED: THE CARDS: each row of YtehjalgogjkdlaaGreatDoorRows.lean that lists a variable, with what it lists TIED to the program's text (the seventh form; the later family's looks); each row that meets fmt, with fmt's text TOLD by the authors' own Lean function (tested against real Go, not proved from fmt's source: count such statements apart). THE CARD IS WHAT COUNTS. Prove the row's statement (the work); the ties are given (YtehjalgogjkdlaaGreatDoorTie.lean); close each card by the builder's one call (the guide's Derived/Test/ToyasCard.lean, 'card_holds'). Laid BY PROGRAM, IN A SANDBOX (cutbox-door.mjs). By AI agents, Wed Nov 11 2026. No macro, syntax, notation, axiom, sorry.
-/
import Derived.Test.YtehjalgogjkdlaaGreatDoorRows
import GoSem.ClaimSeven
namespace Go.Proofs.YtehjalgogjkdlaaGreatDoor
namespace Rows

/-- THE TIED CARD OF 'faaslaw54.InvoiceShares'. -/
def invoiceSharesCard : Claim7 := { stood := { row := invoiceSharesRow, standIns := [], harness := (true, "6569e834646f48cb7966c666dde00a1831dbd3ede42e6ed92f6bf406fc0eb72f"), looks := false }, kinds := [], alts := [], laidByText := true, laidKinds := [.data, .data, .data], laidTests := true, laidLooks := .later }
def InvoiceSharesCardSaid : Prop := Claim7.holds Tryz.pinned (.plain (OpenSpec.ofChange invoiceSharesSpec)) invoiceSharesCard

/-- THE TIED CARD OF 'faaslaw54.InvoiceChecks'. -/
def invoiceChecksCard : Claim7 := { stood := { row := invoiceChecksRow, standIns := [], harness := (true, "6569e834646f48cb7966c666dde00a1831dbd3ede42e6ed92f6bf406fc0eb72f"), looks := false }, kinds := [], alts := [], laidByText := true, laidKinds := [.data, .data, .data], laidTests := true, laidLooks := .later }
def InvoiceChecksCardSaid : Prop := Claim7.holds Tryz.pinned (.plain (OpenSpec.ofChange invoiceChecksSpec)) invoiceChecksCard

/-- THE TIED CARD OF 'faaslaw54.InvoiceTotals'. -/
def invoiceTotalsCard : Claim7 := { stood := { row := invoiceTotalsRow, standIns := [], harness := (true, "6569e834646f48cb7966c666dde00a1831dbd3ede42e6ed92f6bf406fc0eb72f"), looks := false }, kinds := [], alts := [], laidByText := true, laidKinds := [.data, .data, .data], laidTests := true, laidLooks := .later }
def InvoiceTotalsCardSaid : Prop := Claim7.holds Tryz.pinned (.plain (OpenSpec.ofChange invoiceTotalsSpec)) invoiceTotalsCard

/-- THE TIED CARD OF 'faaslaw54.InvoiceMakes'. -/
def invoiceMakesCard : Claim7 := { stood := { row := invoiceMakesRow, standIns := [], harness := (true, "6569e834646f48cb7966c666dde00a1831dbd3ede42e6ed92f6bf406fc0eb72f"), looks := false }, kinds := [], alts := [], laidByText := true, laidKinds := [.data, .data, .data], laidTests := true, laidLooks := .later }
def InvoiceMakesCardSaid : Prop := Claim7.holds Tryz.pinned (.plain (OpenSpec.ofChange invoiceMakesSpec)) invoiceMakesCard

/-- THE SECOND FORM's CARD OF 'faaslaw54.InvoiceShares'. -/
def invoiceSharesUptoCard : Claim7 := { stood := { row := invoiceSharesUptoRow, standIns := [], harness := (true, "6569e834646f48cb7966c666dde00a1831dbd3ede42e6ed92f6bf406fc0eb72f"), looks := false }, kinds := [], alts := [], laidByText := true, laidKinds := [.data, .data, .data], laidTests := true, laidLooks := .later }
def InvoiceSharesUptoCardSaid : Prop := Claim7.holds Tryz.pinned (.plain (OpenSpec.upto invoiceSharesSpec)) invoiceSharesUptoCard

/-- THE SECOND FORM's CARD OF 'faaslaw54.InvoiceChecks'. -/
def invoiceChecksUptoCard : Claim7 := { stood := { row := invoiceChecksUptoRow, standIns := [], harness := (true, "6569e834646f48cb7966c666dde00a1831dbd3ede42e6ed92f6bf406fc0eb72f"), looks := false }, kinds := [], alts := [], laidByText := true, laidKinds := [.data, .data, .data], laidTests := true, laidLooks := .later }
def InvoiceChecksUptoCardSaid : Prop := Claim7.holds Tryz.pinned (.plain (OpenSpec.upto invoiceChecksSpec)) invoiceChecksUptoCard

/-- THE SECOND FORM's CARD OF 'faaslaw54.InvoiceTotals'. -/
def invoiceTotalsUptoCard : Claim7 := { stood := { row := invoiceTotalsUptoRow, standIns := [], harness := (true, "6569e834646f48cb7966c666dde00a1831dbd3ede42e6ed92f6bf406fc0eb72f"), looks := false }, kinds := [], alts := [], laidByText := true, laidKinds := [.data, .data, .data], laidTests := true, laidLooks := .later }
def InvoiceTotalsUptoCardSaid : Prop := Claim7.holds Tryz.pinned (.plain (OpenSpec.upto invoiceTotalsSpec)) invoiceTotalsUptoCard

/-- THE SECOND FORM's CARD OF 'faaslaw54.InvoiceMakes'. -/
def invoiceMakesUptoCard : Claim7 := { stood := { row := invoiceMakesUptoRow, standIns := [], harness := (true, "6569e834646f48cb7966c666dde00a1831dbd3ede42e6ed92f6bf406fc0eb72f"), looks := false }, kinds := [], alts := [], laidByText := true, laidKinds := [.data, .data, .data], laidTests := true, laidLooks := .later }
def InvoiceMakesUptoCardSaid : Prop := Claim7.holds Tryz.pinned (.plain (OpenSpec.upto invoiceMakesSpec)) invoiceMakesUptoCard
end Rows
end Go.Proofs.YtehjalgogjkdlaaGreatDoor
