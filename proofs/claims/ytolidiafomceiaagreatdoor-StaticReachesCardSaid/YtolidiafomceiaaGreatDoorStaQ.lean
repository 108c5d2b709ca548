/- Chapter 9: the first elements of a slice that came in. No condition. -/
import Derived.Test.YtolidiafomceiaaGreatDoorStaO
namespace Go.Proofs.YtolidiafomceiaaGreatDoor
set_option linter.unusedVariables false
set_option linter.unusedSimpArgs false
open Go.RowKit
theorem InIs.take {α : Type} {cf : α → List Value} {sz : Nat} {w : World} {a : Option Addr} {c : Nat} {l : List α} (h : InIs cf sz w a c l) {k : Nat} (hk : k ≤ l.length) : InIs cf sz w a c (l.take k) := by
  refine ⟨⟨rfl, fun j hj => ?_⟩, ?_, h.2.2.1, h.2.2.2⟩
  · rw [List.length_take] at hj
    obtain ⟨b, off, h1, h2, h3⟩ := h.1.2 j (by omega)
    exact ⟨b, off, h1, h2, fun i hi => by rw [h3 i hi, List.getElem_take]⟩
  · rw [List.length_take]
    have := h.2.1
    omega
end Go.Proofs.YtolidiafomceiaaGreatDoor
