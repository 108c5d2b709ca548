/- Over any program: stores into rows of structs. No condition. -/
import Derived.Test.YtolidiafomceiaaGreatDoorBase
namespace Go.Proofs.YtolidiafomceiaaGreatDoor
set_option linter.unusedVariables false
set_option linter.unusedSimpArgs false
open Go.RowKit
section
variable {α : Type} {cf : α → List Value} {sz : Nat}

theorem flatMap_set (hc : ∀ x, (cf x).length = sz) (l : List α) (k : Nat) (h : k < l.length) (j : Nat) (hj : j < sz) (u : Value) (x' : α) (hx : cf x' = (cf l[k]).set j u) : (l.set k x').flatMap cf = (l.flatMap cf).set (k * sz + j) u := by
  induction l generalizing k with
  | nil => simp at h
  | cons x l ih =>
    cases k with
    | zero =>
      simp only [List.getElem_cons_zero] at hx
      simp only [List.set_cons_zero, List.flatMap_cons, Nat.zero_mul, Nat.zero_add]
      rw [List.set_append_left _ _ (by rw [hc]; exact hj), hx]
    | succ k =>
      simp only [List.getElem_cons_succ] at hx
      simp only [List.set_cons_succ, List.flatMap_cons]
      rw [ih k (by simpa using h) hx, List.set_append_right _ _ (by rw [hc, Nat.add_mul]; omega), hc]
      congr 1
      rw [Nat.add_mul]
      congr 1
      omega

/-- A store into a cell of the row. -/
theorem RowOf.stored {w : World} {base : Nat} {e : TypeId} {g cap n : Nat} {l : List α} (h : RowOf cf sz w base e (.slice (some ⟨g, 0, none⟩) n cap) l) (hn : n = l.length) (hc : ∀ x, (cf x).length = sz) (k : Nat) (hk : k < l.length) (j : Nat) (hj : j < sz) (u : Value) (x' : α) (hx : cf x' = (cf l[k]).set j u) :
    RowOf cf sz (w.setCell ⟨g, k * sz + j, none⟩ u) base e (.slice (some ⟨g, 0, none⟩) n cap) (l.set k x') := by
  subst hn
  unfold RowOf
  rw [List.length_set, flatMap_set hc l k hk j hj u x' hx]
  exact (World.ownsRow.stored h _ _).1
end
end Go.Proofs.YtolidiafomceiaaGreatDoor
