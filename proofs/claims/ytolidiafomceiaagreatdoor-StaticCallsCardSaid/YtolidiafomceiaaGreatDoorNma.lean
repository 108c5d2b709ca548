/- Names: what small letters, digits and names are; contracts of ident's small, digit. No condition. -/
import Derived.Test.YtolidiafomceiaaGreatDoorBase
import Derived.Test.YtolidiafomceiaaGreatDoorProg
namespace Go.Proofs.YtolidiafomceiaaGreatDoor
set_option linter.unusedVariables false
set_option linter.unusedSimpArgs false
open Go.RowKit

def smallB (c : Int) : Bool := decide (97 ≤ c) && decide (c ≤ 122)
def digitB (c : Int) : Bool := decide (48 ≤ c) && decide (c ≤ 57)
def okAt (i : Nat) (c : Int) : Bool := smallB c || (decide (0 < i) && (digitB c || c == 45 || c == 95))
def byteAt (s : ByteArray) (i : Nat) : Int := ((s.data.toList.getD i 0).toNat : Int)
/-- Which strings are names. -/
def nameB (s : ByteArray) : Bool := (List.range s.size).all (fun i => okAt i (byteAt s i)) && decide (1 ≤ s.size) && decide (s.size ≤ 24)

theorem byteAt_eq (s : ByteArray) (p : Nat) (h : p < s.size) : byteAt s p = ((s[p]'h).toNat : Int) := by
  unfold byteAt
  rw [List.getD_eq_getElem?_getD, List.getElem?_eq_getElem (by simpa using h)]
  simp [ByteArray.getElem_eq_getElem_data]
theorem okAt_high {i : Nat} {c : Int} (h : 128 ≤ c) : okAt i c = false := by
  have h1 : decide (c ≤ 122) = false := by simp; omega
  have h2 : decide (c ≤ 57) = false := by simp; omega
  have h3 : (c == 45) = false := beq_eq_false_iff_ne.2 (by omega)
  have h4 : (c == 95) = false := beq_eq_false_iff_ne.2 (by omega)
  simp [okAt, smallB, digitB, h1, h2, h3, h4]
theorem range_step (p : Nat) (f : Nat → Bool) : (List.range (p + 1)).all f = ((List.range p).all f && f p) := by
  rw [List.range_succ, List.all_append]; simp
theorem nameB_no {s : ByteArray} {p : Nat} (hp : p < s.size) (h : okAt p (byteAt s p) = false) : nameB s = false := by
  have : (List.range s.size).all (fun i => okAt i (byteAt s i)) = false := by
    rw [List.all_eq_false]
    exact ⟨p, List.mem_range.2 hp, by simpa using h⟩
  simp [nameB, this]

theorem decode_asc (s : ByteArray) (p : Nat) (h : p < s.size) : (Utf8.decode s p = ((s[p]'h).toNat, 1) ∧ (s[p]'h).toNat < 128) ∨ (128 ≤ (Utf8.decode s p).1 ∧ 128 ≤ (s[p]'h).toNat) := by
  by_cases ha : (s[p]'h).toNat < 128
  · exact .inl ⟨decode_ascii s p h ha, ha⟩
  · exact .inr ⟨(decode_high s p h (by omega)).1, by omega⟩
end Go.Proofs.YtolidiafomceiaaGreatDoor
