/-
  DERIVED. GIVEN WITH THE SEED: THE CARDS: each row of YtmichbpfmachcaaDoorRows.lean that lists a variable, with what it lists TIED to the program's text (the seventh form; the later family's looks); each row that meets fmt, with fmt's text TOLD by the authors' own Lean function (tested against real Go, not proved from fmt's source: count such statements apart). THE CARD IS WHAT COUNTS. Prove the row's statement (the work); the ties are given (YtmichbpfmachcaaDoorTie.lean); close each card by the builder's one call (the guide's Derived/Test/ToyasCard.lean, 'card_holds'). Laid BY PROGRAM, IN A SANDBOX (cutbox-door.mjs). By AI agents, Wed Nov 11 2026. No macro, syntax, notation, axiom, sorry.
-/
import Derived.Test.YtmichbpfmachcaaDoorRows
import GoSem.ClaimSeven
namespace Go.Proofs.YtmichbpfmachcaaDoor
namespace Rows

/-- THE TIED CARD OF 'faaslaw30.StreamKeeps'. -/
def streamKeepsCard : Claim7 := { stood := { row := streamKeepsRow, standIns := [], harness := (true, "83cacad7253cbc72fd0963c285d6b65ffd25683920d99403e0299b1023ead8e7"), looks := false }, kinds := [], alts := [], laidByText := true, laidKinds := [.data, .data, .data], laidTests := true, laidLooks := .later }
def StreamKeepsCardSaid : Prop := Claim7.holds Tryd.pinned (.plain (OpenSpec.ofChange streamKeepsSpec)) streamKeepsCard

/-- THE TIED CARD OF 'faaslaw30.StreamPlays'. -/
def streamPlaysCard : Claim7 := { stood := { row := streamPlaysRow, standIns := [], harness := (true, "83cacad7253cbc72fd0963c285d6b65ffd25683920d99403e0299b1023ead8e7"), looks := false }, kinds := [], alts := [], laidByText := true, laidKinds := [.data, .data, .data], laidTests := true, laidLooks := .later }
def StreamPlaysCardSaid : Prop := Claim7.holds Tryd.pinned (.plain (OpenSpec.ofChange streamPlaysSpec)) streamPlaysCard

/-- THE TIED CARD OF 'faaslaw30.StreamAppends'. -/
def streamAppendsCard : Claim7 := { stood := { row := streamAppendsRow, standIns := [], harness := (true, "83cacad7253cbc72fd0963c285d6b65ffd25683920d99403e0299b1023ead8e7"), looks := false }, kinds := [], alts := [], laidByText := true, laidKinds := [.data, .data, .data], laidTests := true, laidLooks := .later }
def StreamAppendsCardSaid : Prop := Claim7.holds Tryd.pinned (.plain (OpenSpec.ofChange streamAppendsSpec)) streamAppendsCard

/-- THE TIED CARD OF 'faaslaw30.StreamTrims'. -/
def streamTrimsCard : Claim7 := { stood := { row := streamTrimsRow, standIns := [], harness := (true, "83cacad7253cbc72fd0963c285d6b65ffd25683920d99403e0299b1023ead8e7"), looks := false }, kinds := [], alts := [], laidByText := true, laidKinds := [.data, .data, .data], laidTests := true, laidLooks := .later }
def StreamTrimsCardSaid : Prop := Claim7.holds Tryd.pinned (.plain (OpenSpec.ofChange streamTrimsSpec)) streamTrimsCard

/-- THE TIED CARD OF 'faaslaw30.StreamNobody'. -/
def streamNobodyCard : Claim7 := { stood := { row := streamNobodyRow, standIns := [], harness := (true, "83cacad7253cbc72fd0963c285d6b65ffd25683920d99403e0299b1023ead8e7"), looks := false }, kinds := [], alts := [], laidByText := true, laidKinds := [.data, .data, .data], laidTests := true, laidLooks := .later }
def StreamNobodyCardSaid : Prop := Claim7.holds Tryd.pinned (.plain (OpenSpec.ofChange streamNobodySpec)) streamNobodyCard

/-- THE SECOND FORM's CARD OF 'faaslaw30.StreamKeeps'. -/
def streamKeepsUptoCard : Claim7 := { stood := { row := streamKeepsUptoRow, standIns := [], harness := (true, "83cacad7253cbc72fd0963c285d6b65ffd25683920d99403e0299b1023ead8e7"), looks := false }, kinds := [], alts := [], laidByText := true, laidKinds := [.data, .data, .data], laidTests := true, laidLooks := .later }
def StreamKeepsUptoCardSaid : Prop := Claim7.holds Tryd.pinned (.plain (OpenSpec.upto streamKeepsSpec)) streamKeepsUptoCard

/-- THE SECOND FORM's CARD OF 'faaslaw30.StreamPlays'. -/
def streamPlaysUptoCard : Claim7 := { stood := { row := streamPlaysUptoRow, standIns := [], harness := (true, "83cacad7253cbc72fd0963c285d6b65ffd25683920d99403e0299b1023ead8e7"), looks := false }, kinds := [], alts := [], laidByText := true, laidKinds := [.data, .data, .data], laidTests := true, laidLooks := .later }
def StreamPlaysUptoCardSaid : Prop := Claim7.holds Tryd.pinned (.plain (OpenSpec.upto streamPlaysSpec)) streamPlaysUptoCard

/-- THE SECOND FORM's CARD OF 'faaslaw30.StreamAppends'. -/
def streamAppendsUptoCard : Claim7 := { stood := { row := streamAppendsUptoRow, standIns := [], harness := (true, "83cacad7253cbc72fd0963c285d6b65ffd25683920d99403e0299b1023ead8e7"), looks := false }, kinds := [], alts := [], laidByText := true, laidKinds := [.data, .data, .data], laidTests := true, laidLooks := .later }
def StreamAppendsUptoCardSaid : Prop := Claim7.holds Tryd.pinned (.plain (OpenSpec.upto streamAppendsSpec)) streamAppendsUptoCard

/-- THE SECOND FORM's CARD OF 'faaslaw30.StreamTrims'. -/
def streamTrimsUptoCard : Claim7 := { stood := { row := streamTrimsUptoRow, standIns := [], harness := (true, "83cacad7253cbc72fd0963c285d6b65ffd25683920d99403e0299b1023ead8e7"), looks := false }, kinds := [], alts := [], laidByText := true, laidKinds := [.data, .data, .data], laidTests := true, laidLooks := .later }
def StreamTrimsUptoCardSaid : Prop := Claim7.holds Tryd.pinned (.plain (OpenSpec.upto streamTrimsSpec)) streamTrimsUptoCard

/-- THE SECOND FORM's CARD OF 'faaslaw30.StreamNobody'. -/
def streamNobodyUptoCard : Claim7 := { stood := { row := streamNobodyUptoRow, standIns := [], harness := (true, "83cacad7253cbc72fd0963c285d6b65ffd25683920d99403e0299b1023ead8e7"), looks := false }, kinds := [], alts := [], laidByText := true, laidKinds := [.data, .data, .data], laidTests := true, laidLooks := .later }
def StreamNobodyUptoCardSaid : Prop := Claim7.holds Tryd.pinned (.plain (OpenSpec.upto streamNobodySpec)) streamNobodyUptoCard
end Rows
end Go.Proofs.YtmichbpfmachcaaDoor
