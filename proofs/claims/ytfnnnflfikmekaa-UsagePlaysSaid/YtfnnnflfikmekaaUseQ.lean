/- Chapter 52: slices.Compact of a list of the call's own; Functions. No condition. -/
import Derived.Test.YtfnnnflfikmekaaShelfE
import Derived.Test.YtfnnnflfikmekaaRowm
import Derived.Test.YtfnnnflfikmekaaUseO
namespace Go.Proofs.Ytfnnnflfikmekaa
set_option linter.unusedVariables false
set_option linter.unusedSimpArgs false
open Go.RowKit Go.Sort
variable {w w' : World} {b mb : Nat} {v : Value} {s : Led}
theorem RowOf.shrink {α : Type} {cf : α → List Value} {sz : Nat} {w : World} {base g cap : Nat} {e : TypeId} {l1 l2 : List α} (hc : ∀ x, (cf x).length = sz) (h : RowOf cf sz w base e (.slice (some ⟨g, 0, none⟩) (l1 ++ l2).length cap) (l1 ++ l2)) : RowOf cf sz w base e (.slice (some ⟨g, 0, none⟩) l1.length cap) l1 := by
  obtain ⟨h1, h2⟩ := h
  refine ⟨flatMap_len hc l1, ?_⟩
  rcases h2 with ⟨h2, _⟩ | ⟨g', cap', cur, hv, hg, hh, h4, h5, h6, h7⟩
  · cases h2
  · cases hv
    rw [List.length_append] at h4 h7
    refine .inr ⟨g, cap, cur, rfl, hg, hh, by omega, h5, h6, ?_⟩
    have h8 := congrArg (List.take (l1.length * sz)) h7
    rw [List.take_take, Nat.min_eq_left (Nat.mul_le_mul_right _ (Nat.le_add_right _ _)), List.flatMap_append, List.take_append_of_le_length (by rw [flatMap_len hc]; exact Nat.le_refl _), List.take_of_length_le (l := l1.flatMap cf) (by rw [flatMap_len hc]; exact Nat.le_refl _)] at h8
    exact h8
theorem compact_len (zs : List (List UInt8)) : (Lib.compact zs).length ≤ zs.length := by
  unfold Lib.compact Lib.compactUpTo
  rw [List.length_map]
  refine Nat.le_trans (List.length_filter_le _ _) ?_
  simp
theorem compact_row {w : World} {base : Nat} {e : TypeId} {v : Value} {l : List (List UInt8)} (h : RowOf kc 1 w base e v l) (hl : l.length ≤ 9223372036854775807) :
    Calls Try.prog 40 #[v] w fun ex w' => ∃ v', ex = .returned v' ∧ RowOf kc 1 w' base e v' (Lib.compact l) ∧ Chg v.ownBlock.toList w w' := by
  rcases h.2 with ⟨h2, h3⟩ | ⟨g, cap, cur, hv, hg, hh, h4, h5, h6, h7⟩
  · have hl0 := List.eq_nil_of_length_eq_zero h3
    subst hl0
    subst h2
    refine (Try.slices_Compact_string_empty none 0 w).mono ?_
    rintro ex w' ⟨rfl, rfl⟩
    exact ⟨_, rfl, h, Chg.refl _ _⟩
  · subst hv
    rw [flat_kc, Nat.mul_one] at h7
    have hcl := compact_len l
    refine (Try.slices_Compact_string g 0 cap l w (holds_of_block hh h7) hl h4).mono ?_
    rintro ex w' ⟨rfl, n, rfl⟩
    refine ⟨_, rfl, ?_, Chg.ofRow (v := .slice (some ⟨g, 0, none⟩) l.length cap) (grownBy_sorted (os := #[]) _)⟩
    have e1 : (Lib.compact l ++ List.replicate (l.length - (Lib.compact l).length) ([] : List UInt8)).length = l.length := by rw [List.length_append, List.length_replicate]; omega
    have := ownsRow_sorted (n := n) (os := #[]) (ts := Lib.compact l ++ List.replicate (l.length - (Lib.compact l).length) []) (ss := l) e1 hg hh h4 h5 h6
    refine RowOf.shrink kLen (l2 := List.replicate (l.length - (Lib.compact l).length) []) ?_
    unfold RowOf
    rw [flat_kc, e1]
    exact this
theorem sort_any {w : World} {base : Nat} {e : TypeId} {v : Value} {l : List (List UInt8)} (h : RowOf kc 1 w base e v l) (hl : l.length < 4611686018427387904) :
    Calls Try.prog 39 #[v] w fun ex w' => ex = .returned (.tuple #[]) ∧ RowOf kc 1 w' base e v (l.mergeSort leB) ∧ Chg v.ownBlock.toList w w' :=
  sort_row Try.slices_Sort_string Try.slices_Sort_string_none h hl
end Go.Proofs.Ytfnnnflfikmekaa
