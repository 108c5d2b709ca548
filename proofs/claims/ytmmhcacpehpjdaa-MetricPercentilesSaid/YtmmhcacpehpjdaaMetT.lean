/- Chapter 18: plain laws: the k-th least value; percentiles do not decrease. No condition. -/
import Derived.Test.YtmmhcacpehpjdaaMetM
import Derived.Test.YtmmhcacpehpjdaaMetR
namespace Go.Proofs.Ytmmhcacpehpjdaa
set_option linter.unusedVariables false
set_option linter.unusedSimpArgs false
open Go.RowKit

def lessN (L : List Int) (x : Int) : Nat := L.countP (fun y => decide (y < x))
def sameN (L : List Int) (x : Int) : Nat := L.countP (fun y => decide (y = x))
theorem leN (L : List Int) (x : Int) : lessN L x + sameN L x = L.countP (fun y => decide (y ≤ x)) := by
  unfold lessN sameN
  induction L with
  | nil => rfl
  | cons y L ih =>
    simp only [List.countP_cons, decide_eq_true_eq]
    split <;> split <;> split <;> omega
theorem less_le (L : List Int) (x : Int) : lessN L x ≤ L.length := List.countP_le_length
theorem same_le (L : List Int) (x : Int) : sameN L x ≤ L.length := List.countP_le_length
theorem less_step (L : List Int) (x : Int) (k : Nat) (hk : k < L.length) : lessN (L.take (k + 1)) x = lessN (L.take k) x + if L[k] < x then 1 else 0 := by
  unfold lessN
  rw [List.take_succ_eq_append_getElem hk, List.countP_append, List.countP_singleton]
  simp
theorem same_step (L : List Int) (x : Int) (k : Nat) (hk : k < L.length) : sameN (L.take (k + 1)) x = sameN (L.take k) x + if L[k] = x then 1 else 0 := by
  unfold sameN
  rw [List.take_succ_eq_append_getElem hk, List.countP_append, List.countP_singleton]
  simp

theorem sortI_perm (L : List Int) : (L.mergeSort leI).Perm L := List.mergeSort_perm L leI
theorem sortI_sorted (L : List Int) : (L.mergeSort leI).Pairwise (· ≤ ·) := by
  have := List.pairwise_mergeSort (le := leI) (fun a b c h1 h2 => by simp [leI] at *; omega) (fun a b => by simp [leI]; omega) L
  exact this.imp (fun h => by simpa [leI] using h)
theorem sortI_le {L : List Int} {i j : Nat} (h : i ≤ j) (hj : j < (L.mergeSort leI).length) : (L.mergeSort leI)[i]'(by omega) ≤ (L.mergeSort leI)[j] := by
  rcases Nat.lt_or_eq_of_le h with h | h
  · exact (List.pairwise_iff_getElem.1 (sortI_sorted L)) i j (by omega) hj h
  · subst h; exact Int.le_refl _
theorem countP_split {p : Int → Bool} (S : List Int) (j : Nat) : S.countP p = (S.take j).countP p + (S.drop j).countP p := by
  rw [← List.countP_append, List.take_append_drop]
theorem sorted_le {S : List Int} (hs : S.Pairwise (· ≤ ·)) {i j : Nat} (h : i ≤ j) (hj : j < S.length) : S[i]'(by omega) ≤ S[j] := by
  rcases Nat.lt_or_eq_of_le h with h | h
  · exact (List.pairwise_iff_getElem.1 hs) i j (by omega) hj h
  · subst h; exact Int.le_refl _
theorem kthS_fits {S : List Int} (hs : S.Pairwise (· ≤ ·)) {j : Nat} (hj : j < S.length) : lessN S S[j] < j + 1 ∧ j + 1 ≤ lessN S S[j] + sameN S S[j] := by
  constructor
  · unfold lessN
    rw [countP_split S j]
    have h1 : (S.drop j).countP (fun y => decide (y < S[j])) = 0 := by
      rw [List.countP_eq_zero]
      intro y hy
      obtain ⟨i, hi, rfl⟩ := List.mem_iff_getElem.1 hy
      rw [List.getElem_drop]
      have := sorted_le hs (i := j) (j := j + i) (by omega) (by simp at hi; omega)
      simp; omega
    have h2 : (S.take j).countP (fun y => decide (y < S[j])) ≤ j := Nat.le_trans List.countP_le_length (by simp; omega)
    omega
  · rw [leN]
    rw [countP_split S (j + 1)]
    have h1 : (S.take (j + 1)).countP (fun y => decide (y ≤ S[j])) = (S.take (j + 1)).length := by
      rw [List.countP_eq_length]
      intro y hy
      obtain ⟨i, hi, rfl⟩ := List.mem_iff_getElem.1 hy
      rw [List.getElem_take]
      have := sorted_le hs (i := i) (j := j) (by simp at hi; omega) hj
      simpa using this
    rw [h1, List.length_take]; omega
theorem kthS_eq {S : List Int} (hs : S.Pairwise (· ≤ ·)) {j : Nat} (hj : j < S.length) {x : Int} (h1 : lessN S x < j + 1) (h2 : j + 1 ≤ lessN S x + sameN S x) : S[j] = x := by
  rw [leN] at h2
  unfold lessN at h1
  have c1 : ¬ S[j] < x := by
    intro hlt
    rw [countP_split S (j + 1)] at h1
    have h3 : (S.take (j + 1)).countP (fun y => decide (y < x)) = (S.take (j + 1)).length := by
      rw [List.countP_eq_length]
      intro y hy
      obtain ⟨i, hi, rfl⟩ := List.mem_iff_getElem.1 hy
      rw [List.getElem_take]
      have := sorted_le hs (i := i) (j := j) (by simp at hi; omega) hj
      simp; omega
    rw [h3, List.length_take] at h1; omega
  have c2 : ¬ x < S[j] := by
    intro hlt
    rw [countP_split S j] at h2
    have h3 : (S.drop j).countP (fun y => decide (y ≤ x)) = 0 := by
      rw [List.countP_eq_zero]
      intro y hy
      obtain ⟨i, hi, rfl⟩ := List.mem_iff_getElem.1 hy
      rw [List.getElem_drop]
      have := sorted_le hs (i := j) (j := j + i) (by omega) (by simp at hi; omega)
      simp; omega
    have h4 : (S.take j).countP (fun y => decide (y ≤ x)) ≤ j := Nat.le_trans List.countP_le_length (by simp; omega)
    omega
  omega
theorem sort_less (L : List Int) (x : Int) : lessN (L.mergeSort leI) x = lessN L x ∧ sameN (L.mergeSort leI) x = sameN L x := ⟨(sortI_perm L).countP_eq _, (sortI_perm L).countP_eq _⟩
theorem kth_fits {L : List Int} {j : Nat} (hj : j < (L.mergeSort leI).length) : lessN L (L.mergeSort leI)[j] < j + 1 ∧ j + 1 ≤ lessN L (L.mergeSort leI)[j] + sameN L (L.mergeSort leI)[j] := by
  have := kthS_fits (sortI_sorted L) hj
  rw [(sort_less L _).1, (sort_less L _).2] at this
  exact this
theorem kth_eq {L : List Int} {j : Nat} (hj : j < (L.mergeSort leI).length) {x : Int} (h1 : lessN L x < j + 1) (h2 : j + 1 ≤ lessN L x + sameN L x) : (L.mergeSort leI)[j] = x := by
  rw [← (sort_less L x).1] at h1 h2
  rw [← (sort_less L x).2] at h2
  exact kthS_eq (sortI_sorted L) hj h1 h2

theorem fmax_mem (l : List Int) (x : Int) : l.foldl max x = x ∨ l.foldl max x ∈ l := by
  induction l generalizing x with
  | nil => simp
  | cons y l ih =>
    rw [List.foldl_cons]
    rcases ih (max x y) with h | h
    · rw [h]
      by_cases hxy : x ≤ y
      · right; rw [Int.max_eq_right hxy]; simp
      · left; omega
    · right; simp [h]
theorem stat_mx {L : List Int} (h : L ≠ []) : (statS L).mx ∈ L ∧ (∀ y ∈ L, y ≤ (statS L).mx) ∧ (∀ y ∈ L, (statS L).mn ≤ y) := by
  rcases L with _ | ⟨x, L⟩
  · exact absurd rfl h
  · unfold statS
    simp only [best_min, best_max]
    have h1 := fmax_ge L x
    have h2 := fmin_le L x
    refine ⟨?_, ?_, ?_⟩
    · rcases fmax_mem L x with h | h
      · rw [h]; simp
      · simp [h]
    · intro y hy
      rcases List.mem_cons.1 hy with rfl | hy
      · exact h1.1
      · exact h1.2 y hy
    · intro y hy
      rcases List.mem_cons.1 hy with rfl | hy
      · exact h2.1
      · exact h2.2 y hy
/-- What the law MetricPercentiles says of three percentiles of one window. -/
theorem perc_laws {l : List Pt} {lo hi p q : Int} {a b : Int} (hpq : p ≤ q) (hE : windowE l lo hi = 0) (h1 : percS l lo hi p = (a, 0)) (h2 : percS l lo hi q = (b, 0)) :
    percS l lo hi 1000 = ((statS (insideS l lo hi)).mx, 0) ∧ a ≤ b ∧ (statS (insideS l lo hi)).mn ≤ a ∧ b ≤ (statS (insideS l lo hi)).mx := by
  have hin := (inside_in (window_e hE) lo hi).2
  unfold percS at *
  rw [if_pos hE] at *
  by_cases hp : 1 ≤ p ∧ p ≤ 1000
  case neg => rw [if_neg hp] at h1; simp at h1
  by_cases hq : 1 ≤ q ∧ q ≤ 1000
  case neg => rw [if_neg hq] at h2; simp at h2
  rw [if_pos hp] at h1
  rw [if_pos hq] at h2
  rw [if_pos (by omega)]
  by_cases hz : insideS l lo hi = []
  · rw [if_pos hz] at h1; simp at h1
  rw [if_neg hz] at *
  obtain ⟨m1, m2, m3⟩ := stat_mx hz
  generalize insideS l lo hi = L at *
  have hn : 0 < L.length := List.length_pos_iff.2 hz
  have hlen : (L.mergeSort leI).length = L.length := by simp
  have hget : ∀ i, i < L.length → ∃ h, (L.mergeSort leI).getD i 0 = (L.mergeSort leI)[i]'h := fun i hi => ⟨by omega, by rw [List.getD_eq_getElem?_getD, List.getElem?_eq_getElem (by omega)]; rfl⟩
  have hmem : ∀ i (h : i < (L.mergeSort leI).length), (L.mergeSort leI)[i] ∈ L := fun i h => (sortI_perm L).mem_iff.1 (List.getElem_mem h)
  obtain ⟨a1, a2, a3, a4⟩ := rank_in hp.1 hp.2 hn hin
  obtain ⟨b1, b2, b3, b4⟩ := rank_in hq.1 hq.2 hn hin
  have hr : rankS p L.length ≤ rankS q L.length := by
    have : p * (L.length : Int) ≤ q * (L.length : Int) := Int.mul_le_mul_of_nonneg_right hpq (by omega)
    unfold rankS; omega
  have hr2 : rankS 1000 L.length = L.length := by unfold rankS; omega
  rw [hr2]
  simp only [Prod.mk.injEq, and_true] at h1 h2 ⊢
  obtain ⟨ha, ea⟩ := hget (rankS p L.length - 1).toNat (by omega)
  obtain ⟨hb, eb⟩ := hget (rankS q L.length - 1).toNat (by omega)
  obtain ⟨hc, ec⟩ := hget ((L.length : Int) - 1).toNat (by omega)
  rw [ea] at h1
  rw [eb] at h2
  rw [ec]
  have hmax : (L.mergeSort leI)[((L.length : Int) - 1).toNat] = (statS L).mx := by
    have u1 := m2 _ (hmem _ hc)
    obtain ⟨i, hi, hie⟩ := List.mem_iff_getElem.1 ((sortI_perm L).mem_iff.2 m1)
    have u2 := sortI_le (L := L) (i := i) (j := ((L.length : Int) - 1).toNat) (by omega) hc
    omega
  refine ⟨hmax, ?_, ?_, ?_⟩
  · rw [← h1, ← h2]; exact sortI_le (by omega) hb
  · rw [← h1]; exact m3 _ (hmem _ ha)
  · rw [← h2]; exact m2 _ (hmem _ hb)
end Go.Proofs.Ytmmhcacpehpjdaa
