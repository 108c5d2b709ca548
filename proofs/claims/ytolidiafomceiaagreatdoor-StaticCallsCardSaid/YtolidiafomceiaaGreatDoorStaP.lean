/- Chapter 9, plain: what syntax.Check computes. No condition. -/
import Derived.Test.YtolidiafomceiaaGreatDoorStaA
import Derived.Test.YtolidiafomceiaaGreatDoorStmA
namespace Go.Proofs.YtolidiafomceiaaGreatDoor
set_option linter.unusedVariables false
set_option linter.unusedSimpArgs false
open Go.RowKit
def sStrCe (s : ByteArray) : Ce := ⟨4, 0, s, 0⟩
/-- A valid string. -/
def sTextB (s : ByteArray) : Bool := checkZ [sStrCe s] == 0
def sLowB (c : Nat) : Bool := (decide (97 ≤ c) && decide (c ≤ 122)) || c == 95
def sDigB (c : Nat) : Bool := decide (48 ≤ c) && decide (c ≤ 57)
def sRunTo (s : ByteArray) (k : Nat) : Bool := (List.range k).all (fun i => match s.data[i]? with | some c => sLowB c.toNat || (decide (0 < i) && sDigB c.toNat) | none => true)
def sRunB (s : ByteArray) : Bool := decide (1 ≤ s.size) && decide (s.size ≤ 24) && sRunTo s s.size
def sKwL : List ByteArray := [⟨#[102, 117, 110, 99]⟩, ⟨#[108, 101, 116]⟩, ⟨#[105, 102]⟩, ⟨#[101, 108, 115, 101]⟩, ⟨#[119, 104, 105, 108, 101]⟩, ⟨#[114, 101, 116, 117, 114, 110]⟩, ⟨#[97, 110, 100]⟩, ⟨#[111, 114]⟩, ⟨#[110, 111, 116]⟩, ⟨#[110, 117, 108, 108]⟩, ⟨#[116, 114, 117, 101]⟩, ⟨#[102, 97, 108, 115, 101]⟩]
def sKwB (s : ByteArray) : Bool := sKwL.any (fun k => s == k)
def sNameB (s : ByteArray) : Bool := sRunB s && !sKwB s
def sStatB (k : Int) : Bool := decide (13 ≤ k) && decide (k ≤ 18)
def sExprB (k : Int) : Bool := decide (1 ≤ k) && decide (k ≤ 12)
end Go.Proofs.YtolidiafomceiaaGreatDoor
