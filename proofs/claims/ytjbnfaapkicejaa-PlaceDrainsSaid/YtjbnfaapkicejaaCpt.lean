/- Over any program: slices.Compact of a sorted list of strings: no repetitions, the same elements. No condition. -/
import Derived.Shelf.Slices.CompactS
import Derived.Test.YtjbnfaapkicejaaLex
namespace Go.Proofs.Ytjbnfaapkicejaa
set_option linter.unusedVariables false
set_option linter.unusedSimpArgs false
open Go.RowKit
theorem compactUp (d : Array (List UInt8)) (hs : d.toList.Pairwise (· ≤ ·)) : ∀ m, m ≤ d.size → (Lib.compactUpTo d m).Pairwise (· < ·) ∧ (∀ x ∈ Lib.compactUpTo d m, ∃ j, j < m ∧ d[j]! = x) ∧ (∀ j, j < m → d[j]! ∈ Lib.compactUpTo d m) := by
  have hle : ∀ i j, i < j → j < d.size → d[i]! ≤ d[j]! := by
    intro i j hij hj
    rw [getElem!_pos d i (by omega), getElem!_pos d j hj]
    have := List.pairwise_iff_getElem.1 hs i j (by simp; omega) (by simpa using hj) hij
    simpa using this
  have hle' : ∀ i j, i ≤ j → j < d.size → d[i]! ≤ d[j]! := by
    intro i j hij hj
    rcases Nat.lt_or_ge i j with h | h
    · exact hle i j h hj
    · have : i = j := by omega
      subst this; exact List.le_refl _
  intro m
  induction m with
  | zero => intro _; exact ⟨by simp [Lib.compactUpTo], by simp [Lib.compactUpTo], fun j hj => absurd hj (Nat.not_lt_zero j)⟩
  | succ m ih =>
    intro hm
    obtain ⟨h1, h2, h3⟩ := ih (by omega)
    rw [Lib.compactUpTo_succ]
    cases hk : Lib.keeps d m
    · simp only [Bool.false_eq_true, if_false, List.append_nil]
      refine ⟨h1, fun x hx => ?_, fun j hj => ?_⟩
      · obtain ⟨j, hj, e⟩ := h2 x hx
        exact ⟨j, by omega, e⟩
      · by_cases e : j = m
        · subst e
          have hz : j ≠ 0 ∧ d[j]! = d[j - 1]! := by
            unfold Lib.keeps at hk
            simpa using hk
          rw [hz.2]
          exact h3 (j - 1) (by omega)
        · exact h3 j (by omega)
    · simp only [if_true]
      refine ⟨List.pairwise_append.2 ⟨h1, by simp, fun x hx y hy => ?_⟩, fun x hx => ?_, fun j hj => ?_⟩
      · simp at hy
        subst hy
        obtain ⟨j, hj, rfl⟩ := h2 x hx
        have hz : m = 0 ∨ d[m]! ≠ d[m - 1]! := by
          unfold Lib.keeps at hk
          simpa using hk
        have hne := hz.resolve_left (by omega)
        refine Classical.byContradiction fun hn => hne ?_
        have q1 : d[m]! ≤ d[j]! := List.not_lt.1 hn
        exact List.le_antisymm (List.le_trans q1 (hle' j (m - 1) (by omega) (by omega))) (hle' (m - 1) m (by omega) (by omega))
      · rcases List.mem_append.1 hx with hx | hx
        · obtain ⟨j, hj, e⟩ := h2 x hx
          exact ⟨j, by omega, e⟩
        · simp at hx
          exact ⟨m, by omega, hx.symm⟩
      · by_cases e : j = m
        · subst e; simp
        · exact List.mem_append_left _ (h3 j (by omega))
theorem compact_facts {zs : List (List UInt8)} (hs : zs.Pairwise (· ≤ ·)) : (Lib.compact zs).Pairwise (· < ·) ∧ ∀ x, x ∈ Lib.compact zs ↔ x ∈ zs := by
  obtain ⟨h1, h2, h3⟩ := compactUp zs.toArray (by simpa using hs) zs.length (by simp)
  refine ⟨h1, fun x => ⟨fun hx => ?_, fun hx => ?_⟩⟩
  · obtain ⟨j, hj, rfl⟩ := h2 x hx
    rw [getElem!_pos zs.toArray j (by simpa using hj)]
    simp
  · obtain ⟨j, hj, rfl⟩ := List.mem_iff_getElem.1 hx
    have := h3 j hj
    rw [getElem!_pos zs.toArray j (by simpa using hj)] at this
    show zs[j] ∈ Lib.compactUpTo zs.toArray zs.length
    simpa using this
theorem nodup_lt {l : List (List UInt8)} (h : l.Pairwise (· < ·)) : l.Nodup := by
  refine h.imp fun {a b} hab => ?_
  rintro rfl
  exact List.lt_irrefl _ hab
end Go.Proofs.Ytjbnfaapkicejaa
