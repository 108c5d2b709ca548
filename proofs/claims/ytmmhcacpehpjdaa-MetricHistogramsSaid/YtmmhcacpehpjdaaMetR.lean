/- Chapter 18: plain laws: the statistics of two lists together; neighbouring windows. No condition. -/
import Derived.Test.YtmmhcacpehpjdaaMetP
namespace Go.Proofs.Ytmmhcacpehpjdaa
set_option linter.unusedVariables false
set_option linter.unusedSimpArgs false
open Go.RowKit

theorem best_min (x : Int) (l : List Int) : bestS (fun a b => decide (a < b)) x l = l.foldl min x := by
  unfold bestS
  congr 1
  funext o y
  simp only [decide_eq_true_eq]
  split <;> omega
theorem best_max (x : Int) (l : List Int) : bestS (fun a b => decide (b < a)) x l = l.foldl max x := by
  unfold bestS
  congr 1
  funext o y
  simp only [decide_eq_true_eq]
  split <;> omega
theorem fold_min (l : List Int) (a x : Int) : l.foldl min (min a x) = min a (l.foldl min x) := by
  induction l generalizing x with
  | nil => rfl
  | cons y l ih => rw [List.foldl_cons, List.foldl_cons, ← ih (min x y)]; congr 1; omega
theorem fold_max (l : List Int) (a x : Int) : l.foldl max (max a x) = max a (l.foldl max x) := by
  induction l generalizing x with
  | nil => rfl
  | cons y l ih => rw [List.foldl_cons, List.foldl_cons, ← ih (max x y)]; congr 1; omega
theorem stat_app (x : Int) (l : List Int) (y : Int) (m : List Int) : statS ((x :: l) ++ (y :: m)) =
    ⟨(statS (x :: l)).c + (statS (y :: m)).c, (statS (x :: l)).s + (statS (y :: m)).s, min (statS (x :: l)).mn (statS (y :: m)).mn, max (statS (x :: l)).mx (statS (y :: m)).mx⟩ := by
  rw [List.cons_append]
  unfold statS
  simp only [best_min, best_max, List.foldl_append, List.foldl_cons, fold_min, fold_max, List.length_append, List.length_cons, List.sum_cons, List.sum_append]
  congr 1 <;> omega
theorem fmin_le (l : List Int) (x : Int) : l.foldl min x ≤ x ∧ ∀ y ∈ l, l.foldl min x ≤ y := by
  induction l generalizing x with
  | nil => simp
  | cons z l ih =>
    obtain ⟨h1, h2⟩ := ih (min x z)
    rw [List.foldl_cons]
    refine ⟨by omega, fun y hy => ?_⟩
    rcases List.mem_cons.1 hy with rfl | hy
    · omega
    · exact h2 y hy
theorem fmax_ge (l : List Int) (x : Int) : x ≤ l.foldl max x ∧ ∀ y ∈ l, y ≤ l.foldl max x := by
  induction l generalizing x with
  | nil => simp
  | cons z l ih =>
    obtain ⟨h1, h2⟩ := ih (max x z)
    rw [List.foldl_cons]
    refine ⟨by omega, fun y hy => ?_⟩
    rcases List.mem_cons.1 hy with rfl | hy
    · omega
    · exact h2 y hy
theorem fmin_in (l : List Int) (x : Int) {M : Int} (hx : M ≤ x) (h : ∀ y ∈ l, M ≤ y) : M ≤ l.foldl min x := by
  induction l generalizing x with
  | nil => simpa using hx
  | cons z l ih =>
    rw [List.foldl_cons]
    exact ih _ (by have := h z (by simp); omega) (fun y hy => h y (by simp [hy]))
theorem fmax_in (l : List Int) (x : Int) {M : Int} (hx : x ≤ M) (h : ∀ y ∈ l, y ≤ M) : l.foldl max x ≤ M := by
  induction l generalizing x with
  | nil => simpa using hx
  | cons z l ih =>
    rw [List.foldl_cons]
    exact ih _ (by have := h z (by simp); omega) (fun y hy => h y (by simp [hy]))
theorem sum_lo {m : Int} : ∀ (l : List Int), (∀ y ∈ l, m ≤ y) → (l.length : Int) * m ≤ l.sum := by
  intro l
  induction l with
  | nil => simp
  | cons x l ih =>
    intro h
    have h1 := ih (fun y hy => h y (by simp [hy]))
    have h2 := h x (by simp)
    rw [List.sum_cons, List.length_cons, Int.natCast_add, Int.add_mul]
    simp; omega
theorem sum_hi {m : Int} : ∀ (l : List Int), (∀ y ∈ l, y ≤ m) → l.sum ≤ (l.length : Int) * m := by
  intro l
  induction l with
  | nil => simp
  | cons x l ih =>
    intro h
    have h1 := ih (fun y hy => h y (by simp [hy]))
    have h2 := h x (by simp)
    rw [List.sum_cons, List.length_cons, Int.natCast_add, Int.add_mul]
    simp; omega
theorem stat_valid {l : List Int} (h : inB l) (hl : l.length ≤ 1000) : validS (statS l) = true := by
  rcases l with _ | ⟨x, l⟩
  · rfl
  · obtain ⟨b0, b1⟩ := h x (by simp)
    have hm := fmin_le l x
    have hM := fmax_ge l x
    have h1 := fmin_in l x b0 (fun y hy => (h y (by simp [hy])).1)
    have h2 := fmax_in l x b1 (fun y hy => (h y (by simp [hy])).2)
    have h3 := sum_lo (m := l.foldl min x) (x :: l) (fun y hy => by rcases List.mem_cons.1 hy with rfl | hy; exact hm.1; exact hm.2 y hy)
    have h4 := sum_hi (m := l.foldl max x) (x :: l) (fun y hy => by rcases List.mem_cons.1 hy with rfl | hy; exact hM.1; exact hM.2 y hy)
    simp only [List.length_cons] at hl h3 h4
    unfold validS statS
    simp only [best_min, best_max]
    rw [if_neg (by omega)]
    simp only [inR, Bool.and_eq_true, decide_eq_true_eq]
    have e : ((l.length + 1 : Nat) : Int) = (l.length : Int) + 1 := by omega
    rw [e] at h3 h4
    exact ⟨⟨⟨⟨⟨⟨by omega, by omega⟩, h1⟩, h2⟩, by omega⟩, h3⟩, h4⟩
theorem chk_sorted : ∀ (l : List Pt) (p : Option Pt), chkL p l = 0 → l.Pairwise (fun a b => a.t ≤ b.t) ∧ (∀ q, p = some q → ∀ x ∈ l, q.t ≤ x.t) := by
  intro l
  induction l with
  | nil => intro p _; simp
  | cons x l ih =>
    intro p h
    unfold chkL at h
    by_cases ha : chk1 x = true
    · rw [if_pos ha] at h; simp at h
    · rw [if_neg ha] at h
      have h2 : chkL (some x) l = 0 ∧ (∀ q, p = some q → q.t ≤ x.t) := by
        cases p with
        | none => simpa using h
        | some q =>
          by_cases hq : x.t < q.t
          · simp [hq] at h
          · simp [hq] at h
            exact ⟨h, fun q' e => by cases e; omega⟩
      obtain ⟨h3, h4⟩ := ih _ h2.1
      refine ⟨List.pairwise_cons.2 ⟨fun y hy => h4 x rfl y hy, h3⟩, fun q e y hy => ?_⟩
      rcases List.mem_cons.1 hy with rfl | hy
      · exact h2.2 q e
      · have := h2.2 q e; have := h4 x rfl y hy; omega
theorem check_sorted {l : List Pt} (h : checkP l = 0) : l.Pairwise (fun a b => a.t ≤ b.t) := by
  unfold checkP at h
  split at h
  · simp at h
  · exact (chk_sorted l none h).1
theorem inside_none {l : List Pt} {lo hi : Int} (h : ∀ x ∈ l, hi ≤ x.t) : insideS l lo hi = [] := by
  unfold insideS
  rw [List.filter_eq_nil_iff.2 (fun x hx => by have := h x hx; simp [inW]; omega)]; rfl
theorem inside_split {l : List Pt} (hs : l.Pairwise (fun a b => a.t ≤ b.t)) {lo mid hi : Int} (h1 : lo ≤ mid) (h2 : mid ≤ hi) : insideS l lo hi = insideS l lo mid ++ insideS l mid hi := by
  induction l with
  | nil => rfl
  | cons x l ih =>
    obtain ⟨hx, hs⟩ := List.pairwise_cons.1 hs
    have ih := ih hs
    unfold insideS at ih ⊢
    simp only [List.filter_cons]
    by_cases c1 : x.t < mid
    · have e1 : inW mid hi x = false := by simp [inW]; omega
      have e2 : inW lo hi x = inW lo mid x := by rw [Bool.eq_iff_iff]; simp [inW]; omega
      rw [e1, e2]
      split
      · simp [ih]
      · simpa using ih
    · have e1 : inW lo mid x = false := by simp [inW]; omega
      have e3 : List.filter (inW lo mid) l = [] := List.filter_eq_nil_iff.2 (fun y hy => by have := hx y hy; simp [inW]; omega)
      have e2 : inW lo hi x = inW mid hi x := by rw [Bool.eq_iff_iff]; simp [inW]; omega
      rw [e3] at ih ⊢
      rw [e1, e2]
      simp only [List.map_nil, List.nil_append, Bool.false_eq_true, if_false] at ih ⊢
      split
      · simp [ih]
      · exact ih
/-- Merge of two neighbouring windows is the window of both. -/
theorem merge_windows {l : List Pt} {a b c : Int} (h1 : windowE l a b = 0) (h2 : windowE l b c = 0) : windowE l a c = 0 ∧ mergeS (statS (insideS l a b)) (statS (insideS l b c)) = (statS (insideS l a c), 0) := by
  have hl := window_e h1
  have r1 : wrngB a b = true := by
    unfold windowE at h1
    rw [if_pos hl] at h1
    split at h1
    · assumption
    · simp at h1
  have r2 : wrngB b c = true := by
    unfold windowE at h2
    rw [if_pos hl] at h2
    split at h2
    · assumption
    · simp at h2
  simp only [wrngB, Bool.and_eq_true, decide_eq_true_eq] at r1 r2
  have r3 : wrngB a c = true := by simp only [wrngB, Bool.and_eq_true, decide_eq_true_eq]; omega
  have e := inside_split (check_sorted hl) (lo := a) (mid := b) (hi := c) (by omega) (by omega)
  refine ⟨by unfold windowE; rw [if_pos hl, if_pos r3], ?_⟩
  obtain ⟨i1, n1⟩ := inside_in hl a b
  obtain ⟨i2, n2⟩ := inside_in hl b c
  have v1 := stat_valid i1 (by omega)
  have v2 := stat_valid i2 (by omega)
  rw [e]
  generalize insideS l a b = A at *
  generalize insideS l b c = B at *
  unfold mergeS
  rw [if_pos v1, if_pos v2, if_neg (by rw [stat_c, stat_c]; omega), stat_c, stat_c]
  rcases A with _ | ⟨x, A⟩
  · simp
  · rw [if_neg (by simp; omega)]
    rcases B with _ | ⟨y, B⟩
    · simp
    · rw [if_neg (by simp; omega), stat_app]
      simp only [stat_c]
end Go.Proofs.Ytmmhcacpehpjdaa
