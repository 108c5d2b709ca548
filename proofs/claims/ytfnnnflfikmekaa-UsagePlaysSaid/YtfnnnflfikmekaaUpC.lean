/- Chapter 52: plain laws: a sorted list without repetitions; sums by function. No condition. -/
import Derived.Test.YtfnnnflfikmekaaUpA
import Derived.Test.YtfnnnflfikmekaaLex
namespace Go.Proofs.Ytfnnnflfikmekaa
set_option linter.unusedVariables false
set_option linter.unusedSimpArgs false
open Go.RowKit
theorem compactUp (d : Array (List UInt8)) (hs : d.toList.Pairwise (· ≤ ·)) : ∀ m, m ≤ d.size → (Lib.compactUpTo d m).Pairwise (· < ·) ∧ (∀ x ∈ Lib.compactUpTo d m, ∃ j, j < m ∧ d[j]! = x) ∧ (∀ j, j < m → d[j]! ∈ Lib.compactUpTo d m) := by
  have hle : ∀ i j, i < j → j < d.size → d[i]! ≤ d[j]! := by
    intro i j hij hj
    rw [getElem!_pos d i (by omega), getElem!_pos d j hj]
    have := List.pairwise_iff_getElem.1 hs i j (by simp; omega) (by simpa using hj) hij
    simpa using this
  have hle' : ∀ i j, i ≤ j → j < d.size → d[i]! ≤ d[j]! := by
    intro i j hij hj
    rcases Nat.lt_or_ge i j with h | h
    · exact hle i j h hj
    · have : i = j := by omega
      subst this; exact List.le_refl _
  intro m
  induction m with
  | zero => intro _; exact ⟨by simp [Lib.compactUpTo], by simp [Lib.compactUpTo], fun j hj => absurd hj (Nat.not_lt_zero j)⟩
  | succ m ih =>
    intro hm
    obtain ⟨h1, h2, h3⟩ := ih (by omega)
    rw [Lib.compactUpTo_succ]
    cases hk : Lib.keeps d m
    · simp only [Bool.false_eq_true, if_false, List.append_nil]
      refine ⟨h1, fun x hx => ?_, fun j hj => ?_⟩
      · obtain ⟨j, hj, e⟩ := h2 x hx
        exact ⟨j, by omega, e⟩
      · by_cases e : j = m
        · subst e
          have hz : j ≠ 0 ∧ d[j]! = d[j - 1]! := by
            unfold Lib.keeps at hk
            simpa using hk
          rw [hz.2]
          exact h3 (j - 1) (by omega)
        · exact h3 j (by omega)
    · simp only [if_true]
      refine ⟨List.pairwise_append.2 ⟨h1, by simp, fun x hx y hy => ?_⟩, fun x hx => ?_, fun j hj => ?_⟩
      · simp at hy
        subst hy
        obtain ⟨j, hj, rfl⟩ := h2 x hx
        have hz : m = 0 ∨ d[m]! ≠ d[m - 1]! := by
          unfold Lib.keeps at hk
          simpa using hk
        have hne := hz.resolve_left (by omega)
        refine Classical.byContradiction fun hn => hne ?_
        have q1 : d[m]! ≤ d[j]! := List.not_lt.1 hn
        exact List.le_antisymm (List.le_trans q1 (hle' j (m - 1) (by omega) (by omega))) (hle' (m - 1) m (by omega) (by omega))
      · rcases List.mem_append.1 hx with hx | hx
        · obtain ⟨j, hj, e⟩ := h2 x hx
          exact ⟨j, by omega, e⟩
        · simp at hx
          exact ⟨m, by omega, hx.symm⟩
      · by_cases e : j = m
        · subst e; simp
        · exact List.mem_append_left _ (h3 j (by omega))
theorem compact_facts {zs : List (List UInt8)} (hs : zs.Pairwise (· ≤ ·)) : (Lib.compact zs).Pairwise (· < ·) ∧ ∀ x, x ∈ Lib.compact zs ↔ x ∈ zs := by
  obtain ⟨h1, h2, h3⟩ := compactUp zs.toArray (by simpa using hs) zs.length (by simp)
  refine ⟨h1, fun x => ⟨fun hx => ?_, fun hx => ?_⟩⟩
  · obtain ⟨j, hj, rfl⟩ := h2 x hx
    rw [getElem!_pos zs.toArray j (by simpa using hj)]
    simp
  · obtain ⟨j, hj, rfl⟩ := List.mem_iff_getElem.1 hx
    have := h3 j hj
    rw [getElem!_pos zs.toArray j (by simpa using hj)] at this
    show zs[j] ∈ Lib.compactUpTo zs.toArray zs.length
    simpa using this
theorem fns_facts (s : Led) (tn : ByteArray) (p : Int) : (fnsU s tn p).Pairwise (· < ·) ∧ ∀ x, x ∈ fnsU s tn p ↔ x ∈ fnL tn p s.l := by
  obtain ⟨h1, h2⟩ := compact_facts (leB_sorted (fnL tn p s.l))
  exact ⟨h1, fun x => (h2 x).trans (List.mem_mergeSort)⟩
theorem nodup_lt {l : List (List UInt8)} (h : l.Pairwise (· < ·)) : l.Nodup := by
  refine h.imp fun {a b} hab => ?_
  rintro rfl
  exact List.lt_irrefl _ hab

def tot (f : CR → Bool) : List CR → Us
  | [] => zU
  | c :: l => if f c = true then plusU c.r.us (tot f l) else tot f l
theorem usE {a b : Us} (h1 : a.inv = b.inv) (h2 : a.steps = b.steps) (h3 : a.ticks = b.ticks) (h4 : a.units = b.units) : a = b := by
  obtain ⟨a1, a2, a3, a4⟩ := a
  obtain ⟨b1, b2, b3, b4⟩ := b
  simp_all
theorem plus_zero (a : Us) : plusU a zU = a := usE (by simp [plusU, zU]) (by simp [plusU, zU]) (by simp [plusU, zU]) (by simp [plusU, zU])
theorem zero_plus (a : Us) : plusU zU a = a := usE (by simp [plusU, zU]) (by simp [plusU, zU]) (by simp [plusU, zU]) (by simp [plusU, zU])
theorem plus_assoc (a b c : Us) : plusU (plusU a b) c = plusU a (plusU b c) := usE (by simp [plusU]; omega) (by simp [plusU]; omega) (by simp [plusU]; omega) (by simp [plusU]; omega)
theorem plus_left (a b c : Us) : plusU a (plusU b c) = plusU b (plusU a c) := usE (by simp [plusU]; omega) (by simp [plusU]; omega) (by simp [plusU]; omega) (by simp [plusU]; omega)
theorem add_ok {a b : Us} (h : (addU a b).2 = 0) : (addU a b).1 = plusU a b := by
  unfold addU at h ⊢
  split <;> rename_i h1
  · rw [if_pos h1] at h
    split <;> rename_i h2
    · rw [if_pos h2] at h
      split <;> rename_i h3
      · rfl
      · rw [if_neg h3] at h; simp at h
    · rw [if_neg h2] at h; simp at h
  · rw [if_neg h1] at h; simp at h
theorem sum_ok (f : CR → Bool) : ∀ (l : List CR) (u : Us), (sumU f l u).2 = 0 → (sumU f l u).1 = plusU u (tot f l)
  | [], u, _ => (plus_zero u).symm
  | c :: l, u, h => by
    unfold sumU at h ⊢
    unfold tot
    split <;> rename_i h1
    · rw [if_pos h1] at h
      split <;> rename_i h2
      · rw [if_pos h2] at h
        rw [sum_ok f l _ h, add_ok h2, plus_assoc]
      · rw [if_neg h2] at h
        exact absurd h h2
    · rw [if_neg h1] at h
      exact sum_ok f l u h
def sumF (g : List UInt8 → Us) : List (List UInt8) → Us
  | [] => zU
  | s :: F => plusU (g s) (sumF g F)
theorem sumF_add (g : List UInt8 → Us) (s0 : List UInt8) (x : Us) : ∀ (F : List (List UInt8)), F.Nodup → sumF (fun s => if s = s0 then plusU x (g s) else g s) F = if s0 ∈ F then plusU x (sumF g F) else sumF g F
  | [], _ => by simp [sumF]
  | s :: F, h => by
    have hs := List.nodup_cons.1 h
    have ih := sumF_add g s0 x F hs.2
    unfold sumF
    rw [ih]
    by_cases e : s = s0
    · subst e
      rw [if_pos rfl, if_neg hs.1, if_pos (by simp)]
      exact plus_assoc _ _ _
    · rw [if_neg e]
      by_cases hm : s0 ∈ F
      · rw [if_pos hm, if_pos (List.mem_cons_of_mem _ hm)]
        exact plus_left _ _ _
      · rw [if_neg hm, if_neg (fun h => by rcases List.mem_cons.1 h with h | h; exact e h.symm; exact hm h)]
theorem name_eq (b : ByteArray) (s : List UInt8) : (b == (⟨s.toArray⟩ : ByteArray)) = decide (s = bs b) := by
  by_cases h : s = bs b
  · subst h
    simp [bs]
  · rw [decide_eq_false h]
    refine beq_eq_false_iff_ne.2 fun e => h ?_
    rw [e]
    simp [bs]
theorem tot_by (tn : ByteArray) (p : Int) (F : List (List UInt8)) (hF : F.Nodup) : ∀ (l : List CR), (∀ c ∈ l, inB tn p c = true → bs c.r.fn ∈ F) → sumF (fun s => tot (ofB tn ⟨s.toArray⟩ p false) l) F = tot (totB tn p) l
  | [], _ => by
    simp only [tot]
    clear hF
    induction F with
    | nil => rfl
    | cons s F ih => unfold sumF; rw [ih (by simp)]; rfl
  | c :: l, h => by
    have ih := tot_by tn p F hF l (fun d hd => h d (List.mem_cons_of_mem _ hd))
    have hc := h c (by simp)
    by_cases hq : totB tn p c = true
    · have hq' : (c.r.tn == tn) = true ∧ (c.p == p) = true ∧ c.r.fl = false := by
        unfold totB at hq
        simp only [Bool.and_eq_true, Bool.not_eq_true'] at hq
        exact ⟨hq.1.1, hq.1.2, hq.2⟩
      have hm : bs c.r.fn ∈ F := hc (by unfold inB; rw [hq'.1, hq'.2.1]; rfl)
      have e : (fun s : List UInt8 => tot (ofB tn ⟨s.toArray⟩ p false) (c :: l)) = fun s : List UInt8 => if s = bs c.r.fn then plusU c.r.us (tot (ofB tn ⟨s.toArray⟩ p false) l) else tot (ofB tn ⟨s.toArray⟩ p false) l := by
        funext s
        rw [tot]
        have : ofB tn ⟨s.toArray⟩ p false c = decide (s = bs c.r.fn) := by
          unfold ofB
          rw [hq'.1, hq'.2.1, hq'.2.2, name_eq]
          simp
        rw [this]
        by_cases hs : s = bs c.r.fn <;> simp [hs]
      rw [e, sumF_add _ _ _ F hF, if_pos hm, ih, tot, if_pos hq]
    · have e : (fun s : List UInt8 => tot (ofB tn ⟨s.toArray⟩ p false) (c :: l)) = fun s : List UInt8 => tot (ofB tn ⟨s.toArray⟩ p false) l := by
        funext s
        rw [tot, if_neg]
        intro h2
        apply hq
        unfold ofB at h2
        unfold totB
        simp only [Bool.and_eq_true, beq_iff_eq] at h2
        rw [h2.1.1.1, h2.1.2, h2.2]
        simp
      rw [e, ih, tot, if_neg hq]
end Go.Proofs.Ytfnnnflfikmekaa
