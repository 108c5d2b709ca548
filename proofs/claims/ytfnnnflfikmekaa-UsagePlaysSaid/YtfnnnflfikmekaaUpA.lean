/- Chapter 52: plain laws of the ledger. No condition. -/
import Derived.Test.YtfnnnflfikmekaaUseV
namespace Go.Proofs.Ytfnnnflfikmekaa
set_option linter.unusedVariables false
set_option linter.unusedSimpArgs false
open Go.RowKit
def play0 (l : List OpU) : Led := l.foldl stepU ⟨[], 0⟩
theorem rec_grow (s : Led) (r : UR) : ∃ new, (recS s r).l = s.l ++ new ∧ (∀ c ∈ new, s.p ≤ c.p) ∧ (recS s r).p = s.p ∧ new.length ≤ 1 := by
  unfold recS
  split
  · split
    · exact ⟨[], by simp, by simp, rfl, by simp⟩
    · split
      · exact ⟨[], by simp, by simp, rfl, by simp⟩
      · refine ⟨[⟨r, max r.per s.p⟩], rfl, ?_, rfl, by simp⟩
        intro c hc
        simp at hc
        subst hc
        exact Int.le_max_right _ _
  · exact ⟨[], by simp, by simp, rfl, by simp⟩
theorem close_grow (s : Led) (p : Int) : (closeS s p).l = s.l ∧ s.p ≤ (closeS s p).p ∧ (closeS s p).p ≤ s.p + 1 := by
  unfold closeS
  split
  · exact ⟨rfl, by omega, by omega⟩
  · split
    · exact ⟨rfl, by omega, by omega⟩
    · exact ⟨rfl, by simp only []; omega, by simp only []; omega⟩
theorem step_grow (s : Led) (x : OpU) : ∃ new, (stepU s x).l = s.l ++ new ∧ (∀ c ∈ new, s.p ≤ c.p) ∧ s.p ≤ (stepU s x).p ∧ (stepU s x).p ≤ s.p + 1 ∧ new.length ≤ 1 := by
  unfold stepU
  split
  · obtain ⟨new, h1, h2, h3, h4⟩ := rec_grow s x.r
    exact ⟨new, h1, h2, by omega, by omega, h4⟩
  · split
    · obtain ⟨h1, h2, h3⟩ := close_grow s x.p
      exact ⟨[], by simp [h1], by simp, h2, h3, by simp⟩
    · exact ⟨[], by simp, by simp, by omega, by omega, by simp⟩
theorem play_grow : ∀ (l : List OpU) (s : Led), ∃ new, (l.foldl stepU s).l = s.l ++ new ∧ (∀ c ∈ new, s.p ≤ c.p) ∧ s.p ≤ (l.foldl stepU s).p ∧ (l.foldl stepU s).p ≤ s.p + l.length ∧ new.length ≤ l.length
  | [], s => ⟨[], by simp, by simp, by simp, by simp, by simp⟩
  | x :: l, s => by
    obtain ⟨n1, h1, h2, h3, h4, h5⟩ := step_grow s x
    obtain ⟨n2, k1, k2, k3, k4, k5⟩ := play_grow l (stepU s x)
    refine ⟨n1 ++ n2, ?_, ?_, ?_, ?_, ?_⟩
    · rw [List.foldl_cons, k1, h1, List.append_assoc]
    · intro c hc
      rcases List.mem_append.1 hc with hc | hc
      · exact h2 c hc
      · have := k2 c hc; omega
    · rw [List.foldl_cons]; omega
    · rw [List.foldl_cons, List.length_cons]; omega
    · rw [List.length_append, List.length_cons]; omega
theorem play0_len (l : List OpU) : (play0 l).l.length ≤ l.length := by
  obtain ⟨new, h1, _, _, _, h5⟩ := play_grow l ⟨[], 0⟩
  unfold play0
  rw [h1]
  simpa using h5
theorem sumU_none (f : CR → Bool) : ∀ (l new : List CR) (u : Us), (∀ c ∈ new, f c = false) → sumU f (l ++ new) u = sumU f l u
  | [], new, u, h => by
    induction new with
    | nil => rfl
    | cons c l ih =>
      simp only [List.nil_append] at ih ⊢
      unfold sumU
      rw [h c (by simp)]
      simp only [Bool.false_eq_true, if_false]
      exact ih (fun d hd => h d (List.mem_cons_of_mem _ hd))
  | c :: l, new, u, h => by
    simp only [List.cons_append]
    unfold sumU
    split
    · split
      · exact sumU_none f l new _ h
      · rfl
    · exact sumU_none f l new u h
/-- The total of a closed period stays as it is. -/
theorem closed_total (s : Led) (more : List OpU) (tn : ByteArray) (p : Int) (hp : p < s.p) : totU (more.foldl stepU s) tn p = totU s tn p := by
  obtain ⟨new, h1, h2, _⟩ := play_grow more s
  unfold totU
  rw [h1, sumU_none _ _ _ _ (fun c hc => by
    have := h2 c hc
    have hne : (c.p == p) = false := by simp; omega
    unfold totB
    rw [hne]; simp)]
theorem close_now (L : List CR) (p : Int) (h0 : 0 ≤ p) (h1 : p ≤ 1000) : closeE ⟨L, p⟩ p = 0 ∧ closeS ⟨L, p⟩ p = ⟨L, p + 1⟩ := by
  have h : ¬ (p < 0 ∨ 1073741824 ≤ p) := by omega
  unfold closeE closeS
  rw [if_neg h, if_neg h]
  simp
theorem play0_facts (l : List OpU) (hl : l.length ≤ 60) : (l.foldl stepU ⟨[], 0⟩).l.length ≤ 60 ∧ 0 ≤ (l.foldl stepU ⟨[], 0⟩).p ∧ (l.foldl stepU ⟨[], 0⟩).p ≤ 60 := by
  obtain ⟨new, h1, h2, h3, h4, h5⟩ := play_grow l ⟨[], 0⟩
  rw [h1]
  simp only [List.nil_append]
  simp only at h3 h4
  exact ⟨by omega, h3, by omega⟩
theorem play_len (l : List OpU) (s : Led) (n : Nat) (hs : s.l.length ≤ n) : (l.foldl stepU s).l.length ≤ n + l.length := by
  obtain ⟨new, h1, h2, h3, h4, h5⟩ := play_grow l s
  rw [h1, List.length_append]
  omega
theorem eqU_self (u : Us) : eqU u u = true := eqU_iff.2 rfl
end Go.Proofs.Ytfnnnflfikmekaa
