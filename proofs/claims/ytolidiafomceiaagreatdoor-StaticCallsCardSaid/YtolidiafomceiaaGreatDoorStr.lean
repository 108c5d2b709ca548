/- Over any program: strings in tests, as the walk spells them. No condition. -/
import Derived.Test.YtolidiafomceiaaGreatDoorBase
import Derived.Lib.SlicesS
namespace Go.Proofs.YtolidiafomceiaaGreatDoor
set_option linter.unusedVariables false
set_option linter.unusedSimpArgs false
theorem byteL' (a b : ByteArray) : a.toList = b.toList ↔ a = b := by rw [← Lib.bytes_beq_iff, beq_iff_eq]
theorem nil_size {s : ByteArray} : s = ⟨#[]⟩ ↔ s.size = 0 := by
  constructor
  · rintro rfl; rfl
  · intro h
    cases s with
    | mk d => congr 1; exact Array.eq_empty_of_size_eq_zero h
theorem nil_toList : (⟨#[]⟩ : ByteArray).toList = [] := by kernel_rfl
theorem toList_nil {s : ByteArray} : s.toList = [] ↔ s.size = 0 := by
  rw [← nil_size, ← byteL', nil_toList]
theorem bne_bytes {a b : ByteArray} (h : a ≠ b) : (a.toList == b.toList) = false := (Lib.bytes_beq_false_iff _ _).2 h
end Go.Proofs.YtolidiafomceiaaGreatDoor
