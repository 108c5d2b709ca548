/-
  DERIVED. GIVEN WITH THE SEED: THE CARDS: each row of YtolidiafomceiaaGreatDoorRows.lean that lists a variable, with what it lists TIED to the program's text (the seventh form; the later family's looks); each row that meets fmt, with fmt's text TOLD by the authors' own Lean function (tested against real Go, not proved from fmt's source: count such statements apart). THE CARD IS WHAT COUNTS. Prove the row's statement (the work); the ties are given (YtolidiafomceiaaGreatDoorTie.lean); close each card by the builder's one call (the guide's Derived/Test/ToyasCard.lean, 'card_holds'). Laid BY PROGRAM, IN A SANDBOX (cutbox-door.mjs). By AI agents, Wed Nov 11 2026. No macro, syntax, notation, axiom, sorry.
-/
import Derived.Test.YtolidiafomceiaaGreatDoorRows
import GoSem.ClaimSeven
namespace Go.Proofs.YtolidiafomceiaaGreatDoor
namespace Rows

/-- THE TIED CARD OF 'faaslaw09.StaticChecks'. -/
def staticChecksCard : Claim7 := { stood := { row := staticChecksRow, standIns := [], harness := (true, "67b418d74366ebc433bef59ddb8e4d5a9372dde3c3a54d7d1cfa96da477429b0"), looks := false }, kinds := [], alts := [], laidByText := true, laidKinds := [.data, .data, .data], laidTests := true, laidLooks := .later }
def StaticChecksCardSaid : Prop := Claim7.holds Tryz.pinned (.plain (OpenSpec.ofChange staticChecksSpec)) staticChecksCard

/-- THE TIED CARD OF 'faaslaw09.StaticFindsSlots'. -/
def staticFindsSlotsCard : Claim7 := { stood := { row := staticFindsSlotsRow, standIns := [], harness := (true, "67b418d74366ebc433bef59ddb8e4d5a9372dde3c3a54d7d1cfa96da477429b0"), looks := false }, kinds := [], alts := [], laidByText := true, laidKinds := [.data, .data, .data], laidTests := true, laidLooks := .later }
def StaticFindsSlotsCardSaid : Prop := Claim7.holds Tryz.pinned (.plain (OpenSpec.ofChange staticFindsSlotsSpec)) staticFindsSlotsCard

/-- THE TIED CARD OF 'faaslaw09.StaticSlots'. -/
def staticSlotsCard : Claim7 := { stood := { row := staticSlotsRow, standIns := [], harness := (true, "67b418d74366ebc433bef59ddb8e4d5a9372dde3c3a54d7d1cfa96da477429b0"), looks := false }, kinds := [], alts := [], laidByText := true, laidKinds := [.data, .data, .data], laidTests := true, laidLooks := .later }
def StaticSlotsCardSaid : Prop := Claim7.holds Tryz.pinned (.plain (OpenSpec.ofChange staticSlotsSpec)) staticSlotsCard

/-- THE TIED CARD OF 'faaslaw09.StaticCalls'. -/
def staticCallsCard : Claim7 := { stood := { row := staticCallsRow, standIns := [], harness := (true, "67b418d74366ebc433bef59ddb8e4d5a9372dde3c3a54d7d1cfa96da477429b0"), looks := false }, kinds := [], alts := [], laidByText := true, laidKinds := [.data, .data, .data], laidTests := true, laidLooks := .later }
def StaticCallsCardSaid : Prop := Claim7.holds Tryz.pinned (.plain (OpenSpec.ofChange staticCallsSpec)) staticCallsCard

/-- THE TIED CARD OF 'faaslaw09.StaticReaches'. -/
def staticReachesCard : Claim7 := { stood := { row := staticReachesRow, standIns := [], harness := (true, "67b418d74366ebc433bef59ddb8e4d5a9372dde3c3a54d7d1cfa96da477429b0"), looks := false }, kinds := [], alts := [], laidByText := true, laidKinds := [.data, .data, .data], laidTests := true, laidLooks := .later }
def StaticReachesCardSaid : Prop := Claim7.holds Tryz.pinned (.plain (OpenSpec.ofChange staticReachesSpec)) staticReachesCard

/-- THE SECOND FORM's CARD OF 'faaslaw09.StaticChecks'. -/
def staticChecksUptoCard : Claim7 := { stood := { row := staticChecksUptoRow, standIns := [], harness := (true, "67b418d74366ebc433bef59ddb8e4d5a9372dde3c3a54d7d1cfa96da477429b0"), looks := false }, kinds := [], alts := [], laidByText := true, laidKinds := [.data, .data, .data], laidTests := true, laidLooks := .later }
def StaticChecksUptoCardSaid : Prop := Claim7.holds Tryz.pinned (.plain (OpenSpec.upto staticChecksSpec)) staticChecksUptoCard

/-- THE SECOND FORM's CARD OF 'faaslaw09.StaticFindsSlots'. -/
def staticFindsSlotsUptoCard : Claim7 := { stood := { row := staticFindsSlotsUptoRow, standIns := [], harness := (true, "67b418d74366ebc433bef59ddb8e4d5a9372dde3c3a54d7d1cfa96da477429b0"), looks := false }, kinds := [], alts := [], laidByText := true, laidKinds := [.data, .data, .data], laidTests := true, laidLooks := .later }
def StaticFindsSlotsUptoCardSaid : Prop := Claim7.holds Tryz.pinned (.plain (OpenSpec.upto staticFindsSlotsSpec)) staticFindsSlotsUptoCard

/-- THE SECOND FORM's CARD OF 'faaslaw09.StaticSlots'. -/
def staticSlotsUptoCard : Claim7 := { stood := { row := staticSlotsUptoRow, standIns := [], harness := (true, "67b418d74366ebc433bef59ddb8e4d5a9372dde3c3a54d7d1cfa96da477429b0"), looks := false }, kinds := [], alts := [], laidByText := true, laidKinds := [.data, .data, .data], laidTests := true, laidLooks := .later }
def StaticSlotsUptoCardSaid : Prop := Claim7.holds Tryz.pinned (.plain (OpenSpec.upto staticSlotsSpec)) staticSlotsUptoCard

/-- THE SECOND FORM's CARD OF 'faaslaw09.StaticCalls'. -/
def staticCallsUptoCard : Claim7 := { stood := { row := staticCallsUptoRow, standIns := [], harness := (true, "67b418d74366ebc433bef59ddb8e4d5a9372dde3c3a54d7d1cfa96da477429b0"), looks := false }, kinds := [], alts := [], laidByText := true, laidKinds := [.data, .data, .data], laidTests := true, laidLooks := .later }
def StaticCallsUptoCardSaid : Prop := Claim7.holds Tryz.pinned (.plain (OpenSpec.upto staticCallsSpec)) staticCallsUptoCard

/-- THE SECOND FORM's CARD OF 'faaslaw09.StaticReaches'. -/
def staticReachesUptoCard : Claim7 := { stood := { row := staticReachesUptoRow, standIns := [], harness := (true, "67b418d74366ebc433bef59ddb8e4d5a9372dde3c3a54d7d1cfa96da477429b0"), looks := false }, kinds := [], alts := [], laidByText := true, laidKinds := [.data, .data, .data], laidTests := true, laidLooks := .later }
def StaticReachesUptoCardSaid : Prop := Claim7.holds Tryz.pinned (.plain (OpenSpec.upto staticReachesSpec)) staticReachesUptoCard
end Rows
end Go.Proofs.YtolidiafomceiaaGreatDoor
