/-
  DERIVED. GIVEN WITH THE SEED: THE CARDS: each row of YtnhemokmgpelaaaDoorRows.lean that lists a variable, with what it lists TIED to the program's text (the seventh form; the later family's looks); each row that meets fmt, with fmt's text TOLD by the authors' own Lean function (tested against real Go, not proved from fmt's source: count such statements apart). THE CARD IS WHAT COUNTS. Prove the row's statement (the work); the ties are given (YtnhemokmgpelaaaDoorTie.lean); close each card by the builder's one call (the guide's Derived/Test/ToyasCard.lean, 'card_holds'). Laid BY PROGRAM, IN A SANDBOX (cutbox-door.mjs). By AI agents, Wed Nov 11 2026. No macro, syntax, notation, axiom, sorry.
-/
import Derived.Test.YtnhemokmgpelaaaDoorRows
import GoSem.ClaimSeven
namespace Go.Proofs.YtnhemokmgpelaaaDoor
namespace Rows

/-- THE TIED CARD OF 'faaslaw50.LinearAlone'. -/
def linearAloneCard : Claim7 := { stood := { row := linearAloneRow, standIns := [], harness := (true, "fc1438c547c0a620866682c2f5f23abfc1ccd0e1ebfd44e7105d24906c074800"), looks := false }, kinds := [], alts := [], laidByText := true, laidKinds := [.data, .data, .data], laidTests := true, laidLooks := .later }
def LinearAloneCardSaid : Prop := Claim7.holds Tryd.pinned (.plain (OpenSpec.ofChange linearAloneSpec)) linearAloneCard

/-- THE TIED CARD OF 'faaslaw50.LinearUnseen'. -/
def linearUnseenCard : Claim7 := { stood := { row := linearUnseenRow, standIns := [], harness := (true, "fc1438c547c0a620866682c2f5f23abfc1ccd0e1ebfd44e7105d24906c074800"), looks := false }, kinds := [], alts := [], laidByText := true, laidKinds := [.data, .data, .data], laidTests := true, laidLooks := .later }
def LinearUnseenCardSaid : Prop := Claim7.holds Tryd.pinned (.plain (OpenSpec.ofChange linearUnseenSpec)) linearUnseenCard

/-- THE TIED CARD OF 'faaslaw50.LinearChecks'. -/
def linearChecksCard : Claim7 := { stood := { row := linearChecksRow, standIns := [], harness := (true, "fc1438c547c0a620866682c2f5f23abfc1ccd0e1ebfd44e7105d24906c074800"), looks := false }, kinds := [], alts := [], laidByText := true, laidKinds := [.data, .data, .data], laidTests := true, laidLooks := .later }
def LinearChecksCardSaid : Prop := Claim7.holds Tryd.pinned (.plain (OpenSpec.ofChange linearChecksSpec)) linearChecksCard

/-- THE TIED CARD OF 'faaslaw50.LinearSerials'. -/
def linearSerialsCard : Claim7 := { stood := { row := linearSerialsRow, standIns := [], harness := (true, "fc1438c547c0a620866682c2f5f23abfc1ccd0e1ebfd44e7105d24906c074800"), looks := false }, kinds := [], alts := [], laidByText := true, laidKinds := [.data, .data, .data], laidTests := true, laidLooks := .later }
def LinearSerialsCardSaid : Prop := Claim7.holds Tryd.pinned (.plain (OpenSpec.ofChange linearSerialsSpec)) linearSerialsCard

/-- THE TIED CARD OF 'faaslaw50.LinearFindsOrder'. -/
def linearFindsOrderCard : Claim7 := { stood := { row := linearFindsOrderRow, standIns := [], harness := (true, "fc1438c547c0a620866682c2f5f23abfc1ccd0e1ebfd44e7105d24906c074800"), looks := false }, kinds := [], alts := [], laidByText := true, laidKinds := [.data, .data, .data], laidTests := true, laidLooks := .later }
def LinearFindsOrderCardSaid : Prop := Claim7.holds Tryd.pinned (.plain (OpenSpec.ofChange linearFindsOrderSpec)) linearFindsOrderCard

/-- THE SECOND FORM's CARD OF 'faaslaw50.LinearAlone'. -/
def linearAloneUptoCard : Claim7 := { stood := { row := linearAloneUptoRow, standIns := [], harness := (true, "fc1438c547c0a620866682c2f5f23abfc1ccd0e1ebfd44e7105d24906c074800"), looks := false }, kinds := [], alts := [], laidByText := true, laidKinds := [.data, .data, .data], laidTests := true, laidLooks := .later }
def LinearAloneUptoCardSaid : Prop := Claim7.holds Tryd.pinned (.plain (OpenSpec.upto linearAloneSpec)) linearAloneUptoCard

/-- THE SECOND FORM's CARD OF 'faaslaw50.LinearUnseen'. -/
def linearUnseenUptoCard : Claim7 := { stood := { row := linearUnseenUptoRow, standIns := [], harness := (true, "fc1438c547c0a620866682c2f5f23abfc1ccd0e1ebfd44e7105d24906c074800"), looks := false }, kinds := [], alts := [], laidByText := true, laidKinds := [.data, .data, .data], laidTests := true, laidLooks := .later }
def LinearUnseenUptoCardSaid : Prop := Claim7.holds Tryd.pinned (.plain (OpenSpec.upto linearUnseenSpec)) linearUnseenUptoCard

/-- THE SECOND FORM's CARD OF 'faaslaw50.LinearChecks'. -/
def linearChecksUptoCard : Claim7 := { stood := { row := linearChecksUptoRow, standIns := [], harness := (true, "fc1438c547c0a620866682c2f5f23abfc1ccd0e1ebfd44e7105d24906c074800"), looks := false }, kinds := [], alts := [], laidByText := true, laidKinds := [.data, .data, .data], laidTests := true, laidLooks := .later }
def LinearChecksUptoCardSaid : Prop := Claim7.holds Tryd.pinned (.plain (OpenSpec.upto linearChecksSpec)) linearChecksUptoCard

/-- THE SECOND FORM's CARD OF 'faaslaw50.LinearSerials'. -/
def linearSerialsUptoCard : Claim7 := { stood := { row := linearSerialsUptoRow, standIns := [], harness := (true, "fc1438c547c0a620866682c2f5f23abfc1ccd0e1ebfd44e7105d24906c074800"), looks := false }, kinds := [], alts := [], laidByText := true, laidKinds := [.data, .data, .data], laidTests := true, laidLooks := .later }
def LinearSerialsUptoCardSaid : Prop := Claim7.holds Tryd.pinned (.plain (OpenSpec.upto linearSerialsSpec)) linearSerialsUptoCard

/-- THE SECOND FORM's CARD OF 'faaslaw50.LinearFindsOrder'. -/
def linearFindsOrderUptoCard : Claim7 := { stood := { row := linearFindsOrderUptoRow, standIns := [], harness := (true, "fc1438c547c0a620866682c2f5f23abfc1ccd0e1ebfd44e7105d24906c074800"), looks := false }, kinds := [], alts := [], laidByText := true, laidKinds := [.data, .data, .data], laidTests := true, laidLooks := .later }
def LinearFindsOrderUptoCardSaid : Prop := Claim7.holds Tryd.pinned (.plain (OpenSpec.upto linearFindsOrderSpec)) linearFindsOrderUptoCard
end Rows
end Go.Proofs.YtnhemokmgpelaaaDoor
