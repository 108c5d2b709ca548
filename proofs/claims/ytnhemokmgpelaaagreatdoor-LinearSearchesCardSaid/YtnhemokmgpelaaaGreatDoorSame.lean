/- Over any program: two lists compared place by place. No condition. -/
import Derived.Test.YtnhemokmgpelaaaGreatDoorBase
import Derived.Laws.StructEq
namespace Go.Proofs.YtnhemokmgpelaaaGreatDoor
set_option linter.unusedVariables false
set_option linter.unusedSimpArgs false
open Go.RowKit
theorem listS (a b : ByteArray) : a.toList = b.toList ↔ a = b := by
  have := beq_toListBytes a b
  constructor
  · intro h
    rw [h] at this
    simpa using this
  · rintro rfl
    rfl
/-- Two lists are the same, as far as the first k. -/
def sameTo {α : Type} (e : α → α → Bool) (l m : List α) (k : Nat) : Bool := (List.range k).all (fun i => match l[i]?, m[i]? with | some x, some y => e x y | _, _ => true)
theorem sameTo_step {α : Type} {e : α → α → Bool} {l m : List α} {k : Nat} (h1 : k < l.length) (h2 : k < m.length) : sameTo e l m (k + 1) = (sameTo e l m k && e l[k] m[k]) := by
  unfold sameTo
  rw [List.range_succ, List.all_append]
  simp [List.getElem?_eq_getElem h1, List.getElem?_eq_getElem h2]
def sameB {α : Type} (e : α → α → Bool) (l m : List α) : Bool := decide (l.length = m.length) && sameTo e l m l.length
theorem same_no {α : Type} {e : α → α → Bool} {l m : List α} {k : Nat} (h1 : k < l.length) (h2 : k < m.length) (h : e l[k] m[k] = false) : sameB e l m = false := by
  unfold sameB sameTo
  have : (List.range l.length).all (fun i => match l[i]?, m[i]? with | some x, some y => e x y | _, _ => true) = false := by
    rw [List.all_eq_false]
    refine ⟨k, List.mem_range.2 h1, ?_⟩
    rw [List.getElem?_eq_getElem h1, List.getElem?_eq_getElem h2]
    simp [h]
  rw [this, Bool.and_false]
theorem same_refl {α : Type} {e : α → α → Bool} (he : ∀ x, e x x = true) (l : List α) : sameB e l l = true := by
  unfold sameB sameTo
  rw [decide_eq_true rfl, Bool.true_and, List.all_eq_true]
  intro i hi
  rw [List.mem_range] at hi
  rw [List.getElem?_eq_getElem hi]
  exact he _
end Go.Proofs.YtnhemokmgpelaaaGreatDoor
