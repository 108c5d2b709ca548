/- Over any program: the order of strings, as the walk spells it; sorted lists of strings. No condition. -/
import Derived.Test.YtolidiafomceiaaGreatDoorStr
import Derived.Laws.Cover1
import Derived.Sort.KeysCollected
namespace Go.Proofs.YtolidiafomceiaaGreatDoor
set_option linter.unusedVariables false
set_option linter.unusedSimpArgs false
theorem bless_eq : ∀ (x y : List UInt8), Op.bytesLess x y = decide (x < y)
  | [], [] => by simp [Op.bytesLess]
  | _ :: _, [] => by simp [Op.bytesLess]
  | [], _ :: _ => by simp [Op.bytesLess]
  | a :: x, b :: y => by
    rw [Op.bytesLess, bless_eq x y]
    simp only [List.cons_lt_cons_iff]
    by_cases h1 : a < b <;> by_cases h2 : a = b <;> by_cases h3 : x < y <;> simp [h1, h2, h3]
theorem bless (a b : ByteArray) : Op.bytesLess a.toList b.toList = decide (a.data.toList < b.data.toList) := by rw [bless_eq, ByteArray.toList_eq, ByteArray.toList_eq]
theorem blt_asymm {x y : List UInt8} (h : x < y) : ¬ y < x := fun h2 => List.lt_irrefl x (List.lt_trans h h2)
theorem blt_of {x y : List UInt8} (h : ¬ y < x) (hne : x ≠ y) : x < y := by
  have h1 : x ≤ y := h
  exact Decidable.byContradiction fun h2 => hne (List.le_antisymm h1 h2)
theorem leB_sorted (l : List (List UInt8)) : (l.mergeSort leB).Pairwise (· ≤ ·) := by
  have tr : ∀ a b c : List UInt8, leB a b = true → leB b c = true → leB a c = true := fun a b c h1 h2 => by simp only [leB, decide_eq_true_eq] at *; exact List.le_trans h1 h2
  have to : ∀ a b : List UInt8, (leB a b || leB b a) = true := fun a b => by simp only [leB, Bool.or_eq_true, decide_eq_true_eq]; exact List.le_total a b
  exact (List.pairwise_mergeSort tr to l).imp (fun h => by simpa [leB] using h)
theorem leB_strict {l : List (List UInt8)} (hd : l.Nodup) : (l.mergeSort leB).Pairwise (· < ·) := by
  have h1 := leB_sorted l
  have h2 : (l.mergeSort leB).Nodup := (List.mergeSort_perm l leB).nodup_iff.2 hd
  exact (h1.and h2).imp (fun ⟨a, b⟩ => blt_of a b)
end Go.Proofs.YtolidiafomceiaaGreatDoor
