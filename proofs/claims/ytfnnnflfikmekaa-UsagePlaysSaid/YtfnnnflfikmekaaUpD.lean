/- Chapter 52: plain laws for UsageAggregates. No condition. -/
import Derived.Test.YtfnnnflfikmekaaUpC
namespace Go.Proofs.Ytfnnnflfikmekaa
set_option linter.unusedVariables false
set_option linter.unusedSimpArgs false
open Go.RowKit
theorem by_ok (s : Led) (tn fn : ByteArray) (p : Int) (h : (byU s tn fn p).2.2 = 0) : (byU s tn fn p).1 = tot (ofB tn fn p false) s.l := by
  unfold byU at h ⊢
  split <;> rename_i h1
  · rw [if_pos h1] at h
    split <;> rename_i h2
    · rw [if_pos h2] at h
      split <;> rename_i h3
      · show (sumU (ofB tn fn p false) s.l zU).1 = _
        rw [sum_ok _ _ _ h2, zero_plus]
      · rw [if_neg h3] at h
        exact absurd h h3
    · rw [if_neg h2] at h
      exact absurd h h2
  · rw [if_neg h1] at h
    exact absurd h h1
theorem total_ok (s : Led) (tn : ByteArray) (p : Int) (h : (totU s tn p).2 = 0) : (totU s tn p).1 = tot (totB tn p) s.l := by
  unfold totU at h ⊢
  split <;> rename_i h1
  · rw [if_pos h1] at h
    rw [sum_ok _ _ _ h, zero_plus]
  · rw [if_neg h1] at h
    exact absurd h h1
def aggT (s : Led) (tn : ByteArray) (p : Int) (F : List (List UInt8)) : Us := F.foldl (fun u x => plusU u (tot (ofB tn ⟨x.toArray⟩ p false) s.l)) zU
theorem fold_sumF (g : List UInt8 → Us) : ∀ (F : List (List UInt8)) (x : Us), F.foldl (fun u s => plusU u (g s)) x = plusU x (sumF g F)
  | [], x => (plus_zero x).symm
  | s :: F, x => by
    rw [List.foldl_cons, fold_sumF g F, plus_assoc]
    rfl
theorem agg_total (s : Led) (tn : ByteArray) (p : Int) : aggT s tn p (fnsU s tn p) = tot (totB tn p) s.l := by
  obtain ⟨h1, h2⟩ := fns_facts s tn p
  unfold aggT
  rw [fold_sumF, zero_plus]
  refine tot_by tn p (fnsU s tn p) (nodup_lt h1) s.l (fun c hc hq => ?_)
  rw [h2]
  unfold fnL
  exact List.mem_map.2 ⟨c, List.mem_filter.2 ⟨hc, hq⟩, rfl⟩
theorem agg_step (s : Led) (tn : ByteArray) (p : Int) (F : List (List UInt8)) (k : Nat) (h : k < F.length) : aggT s tn p (F.take (k + 1)) = plusU (aggT s tn p (F.take k)) (tot (ofB tn ⟨F[k].toArray⟩ p false) s.l) := foldl_take _ _ _ _ h
/-- The records of a ledger have been checked. -/
def LOk (s : Led) : Prop := ∀ c ∈ s.l, nameB c.r.fn = true
theorem step_ok (s : Led) (x : OpU) (h : LOk s) : LOk (stepU s x) := by
  unfold stepU
  split
  · unfold recS
    split
    · rename_i hc
      split
      · exact h
      · split
        · exact h
        · intro c hc'
          simp only [List.mem_append, List.mem_singleton] at hc'
          rcases hc' with hc' | rfl
          · exact h c hc'
          · show nameB x.r.fn = true
            unfold checkR at hc
            split at hc
            · rename_i hn
              simp only [Bool.and_eq_true] at hn
              exact hn.2
            · simp at hc
    · exact h
  · split
    · intro c hc
      rw [(close_grow s x.p).1] at hc
      exact h c hc
    · exact h
theorem play_ok : ∀ (l : List OpU) (s : Led), LOk s → LOk (l.foldl stepU s)
  | [], _, h => h
  | x :: l, s, h => play_ok l _ (step_ok s x h)
theorem fns_size (s : Led) (h : LOk s) (tn : ByteArray) (p : Int) : ∀ x ∈ fnsU s tn p, x.length ≤ 24 := by
  intro x hx
  rw [(fns_facts s tn p).2] at hx
  unfold fnL at hx
  obtain ⟨c, hc, rfl⟩ := List.mem_map.1 hx
  have := h c (List.mem_filter.1 hc).1
  unfold nameB at this
  simp only [Bool.and_eq_true, decide_eq_true_eq] at this
  have h2 := this.2
  show c.r.fn.data.toList.length ≤ 24
  rw [Array.length_toList]
  exact h2
theorem fns_len (s : Led) (tn : ByteArray) (p : Int) : (fnsU s tn p).length ≤ s.l.length := by
  unfold fnsU
  refine Nat.le_trans (compact_len _) ?_
  rw [List.length_mergeSort]
  exact fnL_len _ _ _
end Go.Proofs.Ytfnnnflfikmekaa
