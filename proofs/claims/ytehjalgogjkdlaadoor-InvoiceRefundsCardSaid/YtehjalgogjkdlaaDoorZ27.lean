/- Chapter 52: the reference's Total and ByFunction. No condition. Chapter 52: plain laws of the ledger. No condition. Over any program: strings in tests, as the walk spells them. No condition. Over any program: the order of strings, as the walk spells it; sorted lists of strings. No condition. Chapter 52: plain laws: a sorted list without repetitions; sums by function. No condition. -/
import Derived.Lib.SlicesS
import Derived.Laws.Cover1
import Derived.Sort.KeysCollected
import Derived.Test.YtehjalgogjkdlaaDoorZ26
import Derived.Test.YtehjalgogjkdlaaDoorZ18
import Derived.Test.YtehjalgogjkdlaaDoorZ22
import Derived.Test.YtehjalgogjkdlaaDoorZ01
namespace Go.Proofs.YtehjalgogjkdlaaDoor
set_option linter.unusedVariables false
set_option linter.unusedSimpArgs false
open Go.RowKit
variable {w w' : World} {b : Nat} {v : Value} {s : Led}
theorem ask_cases (ns : Bool) (E p : Int) (h : E = if ns = true then (if p < 0 ∨ 1073741824 < p then 2 else 0) else 4) : (ns = false ∧ E = 4) ∨ (ns = true ∧ p < 0 ∧ E = 2) ∨ (ns = true ∧ 0 ≤ p ∧ 1073741824 < p ∧ E = 2) ∨ (ns = true ∧ 0 ≤ p ∧ p ≤ 1073741824 ∧ E = 0) := by
  cases ns
  · exact .inl ⟨rfl, by simpa using h⟩
  · simp only [if_true] at h
    by_cases q1 : p < 0
    · rw [if_pos (.inl q1)] at h; exact .inr (.inl ⟨rfl, q1, h⟩)
    by_cases q2 : 1073741824 < p
    · rw [if_pos (.inr q2)] at h; exact .inr (.inr (.inl ⟨rfl, by omega, q2, h⟩))
    · rw [if_neg (by omega)] at h; exact .inr (.inr (.inr ⟨rfl, by omega, by omega, h⟩))
end Go.Proofs.YtehjalgogjkdlaaDoor

namespace Go.Proofs.YtehjalgogjkdlaaDoor
set_option linter.unusedVariables false
set_option linter.unusedSimpArgs false
open Go.RowKit
def play0 (l : List OpU) : Led := l.foldl stepU ⟨[], 0⟩
theorem rec_grow (s : Led) (r : UR) : ∃ new, (recS s r).l = s.l ++ new ∧ (∀ c ∈ new, s.p ≤ c.p) ∧ (recS s r).p = s.p ∧ new.length ≤ 1 := by
  unfold recS
  split
  · split
    · exact ⟨[], by simp, by simp, rfl, by simp⟩
    · split
      · exact ⟨[], by simp, by simp, rfl, by simp⟩
      · refine ⟨[⟨r, max r.per s.p⟩], rfl, ?_, rfl, by simp⟩
        intro c hc
        simp at hc
        subst hc
        exact Int.le_max_right _ _
  · exact ⟨[], by simp, by simp, rfl, by simp⟩
theorem close_grow (s : Led) (p : Int) : (closeS s p).l = s.l ∧ s.p ≤ (closeS s p).p ∧ (closeS s p).p ≤ s.p + 1 := by
  unfold closeS
  split
  · exact ⟨rfl, by omega, by omega⟩
  · split
    · exact ⟨rfl, by omega, by omega⟩
    · exact ⟨rfl, by simp only []; omega, by simp only []; omega⟩
theorem step_grow (s : Led) (x : OpU) : ∃ new, (stepU s x).l = s.l ++ new ∧ (∀ c ∈ new, s.p ≤ c.p) ∧ s.p ≤ (stepU s x).p ∧ (stepU s x).p ≤ s.p + 1 ∧ new.length ≤ 1 := by
  unfold stepU
  split
  · obtain ⟨new, h1, h2, h3, h4⟩ := rec_grow s x.r
    exact ⟨new, h1, h2, by omega, by omega, h4⟩
  · split
    · obtain ⟨h1, h2, h3⟩ := close_grow s x.p
      exact ⟨[], by simp [h1], by simp, h2, h3, by simp⟩
    · exact ⟨[], by simp, by simp, by omega, by omega, by simp⟩
theorem play_grow : ∀ (l : List OpU) (s : Led), ∃ new, (l.foldl stepU s).l = s.l ++ new ∧ (∀ c ∈ new, s.p ≤ c.p) ∧ s.p ≤ (l.foldl stepU s).p ∧ (l.foldl stepU s).p ≤ s.p + l.length ∧ new.length ≤ l.length
  | [], s => ⟨[], by simp, by simp, by simp, by simp, by simp⟩
  | x :: l, s => by
    obtain ⟨n1, h1, h2, h3, h4, h5⟩ := step_grow s x
    obtain ⟨n2, k1, k2, k3, k4, k5⟩ := play_grow l (stepU s x)
    refine ⟨n1 ++ n2, ?_, ?_, ?_, ?_, ?_⟩
    · rw [List.foldl_cons, k1, h1, List.append_assoc]
    · intro c hc
      rcases List.mem_append.1 hc with hc | hc
      · exact h2 c hc
      · have := k2 c hc; omega
    · rw [List.foldl_cons]; omega
    · rw [List.foldl_cons, List.length_cons]; omega
    · rw [List.length_append, List.length_cons]; omega
theorem play0_len (l : List OpU) : (play0 l).l.length ≤ l.length := by
  obtain ⟨new, h1, _, _, _, h5⟩ := play_grow l ⟨[], 0⟩
  unfold play0
  rw [h1]
  simpa using h5
theorem sumU_none (f : CR → Bool) : ∀ (l new : List CR) (u : Us), (∀ c ∈ new, f c = false) → sumU f (l ++ new) u = sumU f l u
  | [], new, u, h => by
    induction new with
    | nil => rfl
    | cons c l ih =>
      simp only [List.nil_append] at ih ⊢
      unfold sumU
      rw [h c (by simp)]
      simp only [Bool.false_eq_true, if_false]
      exact ih (fun d hd => h d (List.mem_cons_of_mem _ hd))
  | c :: l, new, u, h => by
    simp only [List.cons_append]
    unfold sumU
    split
    · split
      · exact sumU_none f l new _ h
      · rfl
    · exact sumU_none f l new u h
/-- The total of a closed period stays as it is. -/
theorem closed_total (s : Led) (more : List OpU) (tn : ByteArray) (p : Int) (hp : p < s.p) : totU (more.foldl stepU s) tn p = totU s tn p := by
  obtain ⟨new, h1, h2, _⟩ := play_grow more s
  unfold totU
  rw [h1, sumU_none _ _ _ _ (fun c hc => by
    have := h2 c hc
    have hne : (c.p == p) = false := by simp; omega
    unfold totB
    rw [hne]; simp)]
theorem close_now (L : List CR) (p : Int) (h0 : 0 ≤ p) (h1 : p ≤ 1000) : closeE ⟨L, p⟩ p = 0 ∧ closeS ⟨L, p⟩ p = ⟨L, p + 1⟩ := by
  have h : ¬ (p < 0 ∨ 1073741824 ≤ p) := by omega
  unfold closeE closeS
  rw [if_neg h, if_neg h]
  simp
theorem play0_facts (l : List OpU) (hl : l.length ≤ 60) : (l.foldl stepU ⟨[], 0⟩).l.length ≤ 60 ∧ 0 ≤ (l.foldl stepU ⟨[], 0⟩).p ∧ (l.foldl stepU ⟨[], 0⟩).p ≤ 60 := by
  obtain ⟨new, h1, h2, h3, h4, h5⟩ := play_grow l ⟨[], 0⟩
  rw [h1]
  simp only [List.nil_append]
  simp only at h3 h4
  exact ⟨by omega, h3, by omega⟩
theorem play_len (l : List OpU) (s : Led) (n : Nat) (hs : s.l.length ≤ n) : (l.foldl stepU s).l.length ≤ n + l.length := by
  obtain ⟨new, h1, h2, h3, h4, h5⟩ := play_grow l s
  rw [h1, List.length_append]
  omega
theorem eqU_self (u : Us) : eqU u u = true := eqU_iff.2 rfl
end Go.Proofs.YtehjalgogjkdlaaDoor

namespace Go.Proofs.YtehjalgogjkdlaaDoor
set_option linter.unusedVariables false
set_option linter.unusedSimpArgs false
theorem byteL' (a b : ByteArray) : a.toList = b.toList ↔ a = b := by rw [← Lib.bytes_beq_iff, beq_iff_eq]
theorem nil_size {s : ByteArray} : s = ⟨#[]⟩ ↔ s.size = 0 := by
  constructor
  · rintro rfl; rfl
  · intro h
    cases s with
    | mk d => congr 1; exact Array.eq_empty_of_size_eq_zero h
theorem nil_toList : (⟨#[]⟩ : ByteArray).toList = [] := by kernel_rfl
theorem toList_nil {s : ByteArray} : s.toList = [] ↔ s.size = 0 := by
  rw [← nil_size, ← byteL', nil_toList]
theorem bne_bytes {a b : ByteArray} (h : a ≠ b) : (a.toList == b.toList) = false := (Lib.bytes_beq_false_iff _ _).2 h
end Go.Proofs.YtehjalgogjkdlaaDoor

namespace Go.Proofs.YtehjalgogjkdlaaDoor
set_option linter.unusedVariables false
set_option linter.unusedSimpArgs false
theorem bless_eq : ∀ (x y : List UInt8), Op.bytesLess x y = decide (x < y)
  | [], [] => by simp [Op.bytesLess]
  | _ :: _, [] => by simp [Op.bytesLess]
  | [], _ :: _ => by simp [Op.bytesLess]
  | a :: x, b :: y => by
    rw [Op.bytesLess, bless_eq x y]
    simp only [List.cons_lt_cons_iff]
    by_cases h1 : a < b <;> by_cases h2 : a = b <;> by_cases h3 : x < y <;> simp [h1, h2, h3]
theorem bless (a b : ByteArray) : Op.bytesLess a.toList b.toList = decide (a.data.toList < b.data.toList) := by rw [bless_eq, ByteArray.toList_eq, ByteArray.toList_eq]
theorem blt_asymm {x y : List UInt8} (h : x < y) : ¬ y < x := fun h2 => List.lt_irrefl x (List.lt_trans h h2)
theorem blt_of {x y : List UInt8} (h : ¬ y < x) (hne : x ≠ y) : x < y := by
  have h1 : x ≤ y := h
  exact Decidable.byContradiction fun h2 => hne (List.le_antisymm h1 h2)
theorem leB_sorted (l : List (List UInt8)) : (l.mergeSort leB).Pairwise (· ≤ ·) := by
  have tr : ∀ a b c : List UInt8, leB a b = true → leB b c = true → leB a c = true := fun a b c h1 h2 => by simp only [leB, decide_eq_true_eq] at *; exact List.le_trans h1 h2
  have to : ∀ a b : List UInt8, (leB a b || leB b a) = true := fun a b => by simp only [leB, Bool.or_eq_true, decide_eq_true_eq]; exact List.le_total a b
  exact (List.pairwise_mergeSort tr to l).imp (fun h => by simpa [leB] using h)
theorem leB_strict {l : List (List UInt8)} (hd : l.Nodup) : (l.mergeSort leB).Pairwise (· < ·) := by
  have h1 := leB_sorted l
  have h2 : (l.mergeSort leB).Nodup := (List.mergeSort_perm l leB).nodup_iff.2 hd
  exact (h1.and h2).imp (fun ⟨a, b⟩ => blt_of a b)
end Go.Proofs.YtehjalgogjkdlaaDoor

namespace Go.Proofs.YtehjalgogjkdlaaDoor
set_option linter.unusedVariables false
set_option linter.unusedSimpArgs false
open Go.RowKit
theorem compactUp (d : Array (List UInt8)) (hs : d.toList.Pairwise (· ≤ ·)) : ∀ m, m ≤ d.size → (Lib.compactUpTo d m).Pairwise (· < ·) ∧ (∀ x ∈ Lib.compactUpTo d m, ∃ j, j < m ∧ d[j]! = x) ∧ (∀ j, j < m → d[j]! ∈ Lib.compactUpTo d m) := by
  have hle : ∀ i j, i < j → j < d.size → d[i]! ≤ d[j]! := by
    intro i j hij hj
    rw [getElem!_pos d i (by omega), getElem!_pos d j hj]
    have := List.pairwise_iff_getElem.1 hs i j (by simp; omega) (by simpa using hj) hij
    simpa using this
  have hle' : ∀ i j, i ≤ j → j < d.size → d[i]! ≤ d[j]! := by
    intro i j hij hj
    rcases Nat.lt_or_ge i j with h | h
    · exact hle i j h hj
    · have : i = j := by omega
      subst this; exact List.le_refl _
  intro m
  induction m with
  | zero => intro _; exact ⟨by simp [Lib.compactUpTo], by simp [Lib.compactUpTo], fun j hj => absurd hj (Nat.not_lt_zero j)⟩
  | succ m ih =>
    intro hm
    obtain ⟨h1, h2, h3⟩ := ih (by omega)
    rw [Lib.compactUpTo_succ]
    cases hk : Lib.keeps d m
    · simp only [Bool.false_eq_true, if_false, List.append_nil]
      refine ⟨h1, fun x hx => ?_, fun j hj => ?_⟩
      · obtain ⟨j, hj, e⟩ := h2 x hx
        exact ⟨j, by omega, e⟩
      · by_cases e : j = m
        · subst e
          have hz : j ≠ 0 ∧ d[j]! = d[j - 1]! := by
            unfold Lib.keeps at hk
            simpa using hk
          rw [hz.2]
          exact h3 (j - 1) (by omega)
        · exact h3 j (by omega)
    · simp only [if_true]
      refine ⟨List.pairwise_append.2 ⟨h1, by simp, fun x hx y hy => ?_⟩, fun x hx => ?_, fun j hj => ?_⟩
      · simp at hy
        subst hy
        obtain ⟨j, hj, rfl⟩ := h2 x hx
        have hz : m = 0 ∨ d[m]! ≠ d[m - 1]! := by
          unfold Lib.keeps at hk
          simpa using hk
        have hne := hz.resolve_left (by omega)
        refine Classical.byContradiction fun hn => hne ?_
        have q1 : d[m]! ≤ d[j]! := List.not_lt.1 hn
        exact List.le_antisymm (List.le_trans q1 (hle' j (m - 1) (by omega) (by omega))) (hle' (m - 1) m (by omega) (by omega))
      · rcases List.mem_append.1 hx with hx | hx
        · obtain ⟨j, hj, e⟩ := h2 x hx
          exact ⟨j, by omega, e⟩
        · simp at hx
          exact ⟨m, by omega, hx.symm⟩
      · by_cases e : j = m
        · subst e; simp
        · exact List.mem_append_left _ (h3 j (by omega))
theorem compact_facts {zs : List (List UInt8)} (hs : zs.Pairwise (· ≤ ·)) : (Lib.compact zs).Pairwise (· < ·) ∧ ∀ x, x ∈ Lib.compact zs ↔ x ∈ zs := by
  obtain ⟨h1, h2, h3⟩ := compactUp zs.toArray (by simpa using hs) zs.length (by simp)
  refine ⟨h1, fun x => ⟨fun hx => ?_, fun hx => ?_⟩⟩
  · obtain ⟨j, hj, rfl⟩ := h2 x hx
    rw [getElem!_pos zs.toArray j (by simpa using hj)]
    simp
  · obtain ⟨j, hj, rfl⟩ := List.mem_iff_getElem.1 hx
    have := h3 j hj
    rw [getElem!_pos zs.toArray j (by simpa using hj)] at this
    show zs[j] ∈ Lib.compactUpTo zs.toArray zs.length
    simpa using this
theorem fns_facts (s : Led) (tn : ByteArray) (p : Int) : (fnsU s tn p).Pairwise (· < ·) ∧ ∀ x, x ∈ fnsU s tn p ↔ x ∈ fnL tn p s.l := by
  obtain ⟨h1, h2⟩ := compact_facts (leB_sorted (fnL tn p s.l))
  exact ⟨h1, fun x => (h2 x).trans (List.mem_mergeSort)⟩
theorem nodup_lt {l : List (List UInt8)} (h : l.Pairwise (· < ·)) : l.Nodup := by
  refine h.imp fun {a b} hab => ?_
  rintro rfl
  exact List.lt_irrefl _ hab

def tot (f : CR → Bool) : List CR → Us
  | [] => zU
  | c :: l => if f c = true then plusU c.r.us (tot f l) else tot f l
theorem usE {a b : Us} (h1 : a.inv = b.inv) (h2 : a.steps = b.steps) (h3 : a.ticks = b.ticks) (h4 : a.units = b.units) : a = b := by
  obtain ⟨a1, a2, a3, a4⟩ := a
  obtain ⟨b1, b2, b3, b4⟩ := b
  simp_all
theorem plus_zero (a : Us) : plusU a zU = a := usE (by simp [plusU, zU]) (by simp [plusU, zU]) (by simp [plusU, zU]) (by simp [plusU, zU])
theorem zero_plus (a : Us) : plusU zU a = a := usE (by simp [plusU, zU]) (by simp [plusU, zU]) (by simp [plusU, zU]) (by simp [plusU, zU])
theorem plus_assoc (a b c : Us) : plusU (plusU a b) c = plusU a (plusU b c) := usE (by simp [plusU]; omega) (by simp [plusU]; omega) (by simp [plusU]; omega) (by simp [plusU]; omega)
theorem plus_left (a b c : Us) : plusU a (plusU b c) = plusU b (plusU a c) := usE (by simp [plusU]; omega) (by simp [plusU]; omega) (by simp [plusU]; omega) (by simp [plusU]; omega)
theorem add_ok {a b : Us} (h : (addU a b).2 = 0) : (addU a b).1 = plusU a b := by
  unfold addU at h ⊢
  split <;> rename_i h1
  · rw [if_pos h1] at h
    split <;> rename_i h2
    · rw [if_pos h2] at h
      split <;> rename_i h3
      · rfl
      · rw [if_neg h3] at h; simp at h
    · rw [if_neg h2] at h; simp at h
  · rw [if_neg h1] at h; simp at h
theorem sum_ok (f : CR → Bool) : ∀ (l : List CR) (u : Us), (sumU f l u).2 = 0 → (sumU f l u).1 = plusU u (tot f l)
  | [], u, _ => (plus_zero u).symm
  | c :: l, u, h => by
    unfold sumU at h ⊢
    unfold tot
    split <;> rename_i h1
    · rw [if_pos h1] at h
      split <;> rename_i h2
      · rw [if_pos h2] at h
        rw [sum_ok f l _ h, add_ok h2, plus_assoc]
      · rw [if_neg h2] at h
        exact absurd h h2
    · rw [if_neg h1] at h
      exact sum_ok f l u h
def sumF (g : List UInt8 → Us) : List (List UInt8) → Us
  | [] => zU
  | s :: F => plusU (g s) (sumF g F)
theorem sumF_add (g : List UInt8 → Us) (s0 : List UInt8) (x : Us) : ∀ (F : List (List UInt8)), F.Nodup → sumF (fun s => if s = s0 then plusU x (g s) else g s) F = if s0 ∈ F then plusU x (sumF g F) else sumF g F
  | [], _ => by simp [sumF]
  | s :: F, h => by
    have hs := List.nodup_cons.1 h
    have ih := sumF_add g s0 x F hs.2
    unfold sumF
    rw [ih]
    by_cases e : s = s0
    · subst e
      rw [if_pos rfl, if_neg hs.1, if_pos (by simp)]
      exact plus_assoc _ _ _
    · rw [if_neg e]
      by_cases hm : s0 ∈ F
      · rw [if_pos hm, if_pos (List.mem_cons_of_mem _ hm)]
        exact plus_left _ _ _
      · rw [if_neg hm, if_neg (fun h => by rcases List.mem_cons.1 h with h | h; exact e h.symm; exact hm h)]
theorem name_eq (b : ByteArray) (s : List UInt8) : (b == (⟨s.toArray⟩ : ByteArray)) = decide (s = bs b) := by
  by_cases h : s = bs b
  · subst h
    simp [bs]
  · rw [decide_eq_false h]
    refine beq_eq_false_iff_ne.2 fun e => h ?_
    rw [e]
    simp [bs]
theorem tot_by (tn : ByteArray) (p : Int) (F : List (List UInt8)) (hF : F.Nodup) : ∀ (l : List CR), (∀ c ∈ l, inB tn p c = true → bs c.r.fn ∈ F) → sumF (fun s => tot (ofB tn ⟨s.toArray⟩ p false) l) F = tot (totB tn p) l
  | [], _ => by
    simp only [tot]
    clear hF
    induction F with
    | nil => rfl
    | cons s F ih => unfold sumF; rw [ih (by simp)]; rfl
  | c :: l, h => by
    have ih := tot_by tn p F hF l (fun d hd => h d (List.mem_cons_of_mem _ hd))
    have hc := h c (by simp)
    by_cases hq : totB tn p c = true
    · have hq' : (c.r.tn == tn) = true ∧ (c.p == p) = true ∧ c.r.fl = false := by
        unfold totB at hq
        simp only [Bool.and_eq_true, Bool.not_eq_true'] at hq
        exact ⟨hq.1.1, hq.1.2, hq.2⟩
      have hm : bs c.r.fn ∈ F := hc (by unfold inB; rw [hq'.1, hq'.2.1]; rfl)
      have e : (fun s : List UInt8 => tot (ofB tn ⟨s.toArray⟩ p false) (c :: l)) = fun s : List UInt8 => if s = bs c.r.fn then plusU c.r.us (tot (ofB tn ⟨s.toArray⟩ p false) l) else tot (ofB tn ⟨s.toArray⟩ p false) l := by
        funext s
        rw [tot]
        have : ofB tn ⟨s.toArray⟩ p false c = decide (s = bs c.r.fn) := by
          unfold ofB
          rw [hq'.1, hq'.2.1, hq'.2.2, name_eq]
          simp
        rw [this]
        by_cases hs : s = bs c.r.fn <;> simp [hs]
      rw [e, sumF_add _ _ _ F hF, if_pos hm, ih, tot, if_pos hq]
    · have e : (fun s : List UInt8 => tot (ofB tn ⟨s.toArray⟩ p false) (c :: l)) = fun s : List UInt8 => tot (ofB tn ⟨s.toArray⟩ p false) l := by
        funext s
        rw [tot, if_neg]
        intro h2
        apply hq
        unfold ofB at h2
        unfold totB
        simp only [Bool.and_eq_true, beq_iff_eq] at h2
        rw [h2.1.1.1, h2.1.2, h2.2]
        simp
      rw [e, ih, tot, if_neg hq]
end Go.Proofs.YtehjalgogjkdlaaDoor
