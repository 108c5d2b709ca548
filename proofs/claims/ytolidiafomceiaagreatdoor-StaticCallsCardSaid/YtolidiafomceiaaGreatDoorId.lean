/- Over any program with ident: ID, letter. No condition. -/
import Derived.Test.YtolidiafomceiaaGreatDoorNma
namespace Go.Proofs.YtolidiafomceiaaGreatDoor
set_option linter.unusedVariables false
set_option linter.unusedSimpArgs false
open Go.RowKit

def letterB (c : Int) : Bool := smallB c || digitB c || (decide (65 ≤ c) && decide (c ≤ 90)) || c == 45 || c == 95 || c == 46 || c == 58 || c == 47
/-- Which strings are identifiers. -/
def idB (s : ByteArray) : Bool := s.data.toList.all (fun c => letterB c.toNat) && decide (1 ≤ s.size) && decide (s.size ≤ 64)

theorem letterB_high {c : Int} (h : 128 ≤ c) : letterB c = false := by simp [letterB, smallB, digitB]; omega
theorem all_take_succ (l : List UInt8) (f : UInt8 → Bool) (p : Nat) (h : p < l.length) : (l.take (p + 1)).all f = ((l.take p).all f && f l[p]) := by
  rw [List.take_succ_eq_append_getElem h, List.all_append]; simp

end Go.Proofs.YtolidiafomceiaaGreatDoor
