/- Chapter 52: the reference's Sorted and Has; insertion is the sort. No condition. Chapter 52: plain laws for UsageAggregates. No condition. Chapter 52: the reference's Functions. No condition. -/
import Derived.Test.YtehjalgogjkdlaaDoorZ22
import Derived.Test.YtehjalgogjkdlaaDoorZ27
import Derived.Test.YtehjalgogjkdlaaDoorZ26
namespace Go.Proofs.YtehjalgogjkdlaaDoor
set_option linter.unusedVariables false
set_option linter.unusedSimpArgs false
open Go.RowKit
theorem toL (b : List UInt8) : (⟨b.toArray⟩ : ByteArray).toList = b := by rw [ByteArray.toList_eq]
theorem sInfo : (Tryd.prog.info? 9).map (fun i => (i.zero, i.size, i.bytes)) = some (some (.string ⟨#[]⟩), 1, 16) := by kernel_rfl
/-- One step of the reference's insertion. -/
def insS (out : List (List UInt8)) (x : List UInt8) : List (List UInt8) :=
  if out.dropWhile (fun y => decide (y < x)) = [] ∨ (out.dropWhile (fun y => decide (y < x))).head? ≠ some x then out.takeWhile (fun y => decide (y < x)) ++ x :: out.dropWhile (fun y => decide (y < x)) else out
def sortedS (l : List (List UInt8)) : List (List UInt8) := l.foldl insS []

theorem sElem : Tryd.prog.underlying 57 = some (.slice (Tryd.prog.elem 57)) := by kernel_rfl
theorem sSize (w : World) : (sizeOf (Tryd.prog.elem 57)).run Tryd.prog w = .ok 1 w := by kernel_rfl
theorem lessB (x y : List UInt8) : Op.bytesLess x y = decide (x < y) := bless_eq x y
theorem tw_take (p : List UInt8 → Bool) (O : List (List UInt8)) : O.takeWhile p = O.take (O.takeWhile p).length ∧ O.dropWhile p = O.drop (O.takeWhile p).length := by
  induction O with
  | nil => simp
  | cons y O ih =>
    by_cases hy : p y = true
    · simp only [List.takeWhile_cons, List.dropWhile_cons, hy, if_true, List.length_cons, List.take_succ_cons, List.drop_succ_cons]
      exact ⟨by rw [← ih.1], ih.2⟩
    · simp [hy]
theorem tw_lt (p : List UInt8 → Bool) (O : List (List UInt8)) {m : Nat} (hm : m ≤ (O.takeWhile p).length) (h : m < O.length) : m < (O.takeWhile p).length ↔ p O[m] = true := by
  induction O generalizing m with
  | nil => simp at h
  | cons y O ih =>
    by_cases hy : p y = true
    · simp only [List.takeWhile_cons, hy, if_true, List.length_cons] at hm ⊢
      cases m with
      | zero => simp [hy]
      | succ m => simpa using ih (by omega) (by simpa using h)
    · simp [hy] at hm ⊢
      subst hm
      simpa using hy
theorem ins_at {O : List (List UInt8)} {x : List UInt8} {m : Nat} (hm : m ≤ (O.takeWhile (fun y => decide (y < x))).length) (h : m = O.length ∨ ∃ h : m < O.length, Op.bytesLess O[m] x = false ∧ O[m] ≠ x) : insS O x = O.take m ++ x :: O.drop m := by
  have hle : (O.takeWhile (fun y => decide (y < x))).length ≤ O.length := (List.takeWhile_sublist _).length_le
  obtain ⟨h1, h2⟩ := tw_take (fun y => decide (y < x)) O
  have hT : (O.takeWhile (fun y => decide (y < x))).length = m := by
    rcases h with h | ⟨h, h3, _⟩
    · omega
    · have := tw_lt _ O hm h
      rw [lessB] at h3
      rw [h3] at this
      simp at this; omega
  rw [hT] at h1 h2
  unfold insS
  rw [if_pos, h1, h2]
  rw [h2]
  rcases h with h | ⟨h, _, h3⟩
  · left; subst h; simp
  · right; rw [List.head?_drop, List.getElem?_eq_getElem h]; simpa using h3
theorem ins_same {O : List (List UInt8)} {x : List UInt8} {m : Nat} (hm : m ≤ (O.takeWhile (fun y => decide (y < x))).length) (h : m < O.length) (hx : O[m] = x) : insS O x = O := by
  obtain ⟨h1, h2⟩ := tw_take (fun y => decide (y < x)) O
  have hT : (O.takeWhile (fun y => decide (y < x))).length = m := by
    have := tw_lt _ O hm h
    rw [hx] at this
    have hn : ¬ x < x := List.lt_irrefl x
    simp [hn] at this; omega
  rw [hT] at h2
  unfold insS
  rw [if_neg]
  rw [h2]
  simp only [List.drop_eq_nil_iff, List.head?_drop, List.getElem?_eq_getElem h, hx]
  simp; omega
theorem ins_step {O : List (List UInt8)} {x : List UInt8} {m : Nat} (hm : m ≤ (O.takeWhile (fun y => decide (y < x))).length) (h : m < O.length) (hx : Op.bytesLess O[m] x = true) : m + 1 ≤ (O.takeWhile (fun y => decide (y < x))).length := by
  have := tw_lt _ O hm h
  rw [lessB] at hx
  exact this.2 hx
theorem sorted_step (l : List (List UInt8)) (k : Nat) (hk : k < l.length) : sortedS (l.take (k + 1)) = insS (sortedS (l.take k)) l[k] := by
  unfold sortedS
  rw [List.take_succ_eq_append_getElem hk, List.foldl_append]; rfl

/-! insertion is the sort -/
theorem lt_le {a b : List UInt8} (h : a < b) : a ≤ b := List.le_of_lt h
theorem nlt {a b : List UInt8} (h : ¬ a < b) (hn : a ≠ b) : b < a := by
  have h1 : b ≤ a := List.not_lt.1 h
  by_cases h2 : b < a
  · exact h2
  · exact absurd (List.le_antisymm (List.not_lt.1 h2) h1) hn

theorem ins_new {O : List (List UInt8)} {x : List UInt8} (hp : O.Pairwise (· < ·)) (hx : x ∉ O) : (insS O x).Pairwise (· < ·) ∧ (insS O x).Perm (x :: O) := by
  have hsplit : O.takeWhile (fun y => decide (y < x)) ++ O.dropWhile (fun y => decide (y < x)) = O := List.takeWhile_append_dropWhile
  have hA : ∀ y ∈ O.takeWhile (fun y => decide (y < x)), y < x := by
    intro y hy
    have := List.all_eq_true.1 (List.all_takeWhile (p := fun y => decide (y < x)) (l := O)) y hy
    simpa using this
  have hB : ∀ y ∈ O.dropWhile (fun y => decide (y < x)), x < y := by
    intro y hy
    have hpB : (O.dropWhile (fun y => decide (y < x))).Pairwise (· < ·) := List.Pairwise.sublist (List.dropWhile_sublist _) hp
    have hxB : x ∉ O.dropWhile (fun y => decide (y < x)) := fun h => hx ((List.dropWhile_sublist _).subset h)
    cases hD : O.dropWhile (fun y => decide (y < x)) with
    | nil => rw [hD] at hy; cases hy
    | cons z D =>
      have hz : ¬ z < x := by
        have := List.head_dropWhile_not (fun y => decide (y < x)) (l := O) (by rw [hD]; simp)
        simp only [hD, List.head_cons] at this
        simpa using this
      rw [hD] at hy hpB hxB
      have hzx : x < z := nlt hz (fun e => hxB (by rw [e]; exact List.mem_cons_self))
      rcases List.mem_cons.1 hy with rfl | hy'
      · exact hzx
      · exact List.lt_trans hzx ((List.pairwise_cons.1 hpB).1 y hy')
  have hins : insS O x = O.takeWhile (fun y => decide (y < x)) ++ x :: O.dropWhile (fun y => decide (y < x)) := by
    unfold insS
    rw [if_pos]
    cases hD : O.dropWhile (fun y => decide (y < x)) with
    | nil => exact .inl rfl
    | cons z D =>
      right
      intro e
      simp only [List.head?_cons, Option.some.injEq] at e
      subst e
      exact hx ((List.dropWhile_sublist _).subset (by rw [hD]; exact List.mem_cons_self))
  rw [hins]
  constructor
  · rw [← hsplit] at hp
    obtain ⟨p1, p2, p3⟩ := List.pairwise_append.1 hp
    refine List.pairwise_append.2 ⟨p1, List.pairwise_cons.2 ⟨hB, p2⟩, fun a ha b hb => ?_⟩
    rcases List.mem_cons.1 hb with rfl | hb'
    · exact hA a ha
    · exact p3 a ha b hb'
  · exact List.perm_middle.trans (by rw [hsplit])

theorem sorted_fold (l O : List (List UInt8)) (hp : O.Pairwise (· < ·)) (hd : (O ++ l).Nodup) : (l.foldl insS O).Pairwise (· < ·) ∧ (l.foldl insS O).Perm (O ++ l) := by
  induction l generalizing O with
  | nil => exact ⟨hp, by simp⟩
  | cons x l ih =>
    have hx : x ∉ O := by
      intro h
      have := (List.nodup_append.1 hd).2.2
      exact this x h x List.mem_cons_self rfl
    obtain ⟨h1, h2⟩ := ins_new hp hx
    have hpm : (insS O x ++ l).Perm (O ++ x :: l) := (h2.append_right l).trans (by
      rw [List.cons_append]; exact List.perm_middle.symm)
    obtain ⟨h3, h4⟩ := ih (insS O x) h1 (hpm.nodup_iff.2 hd)
    exact ⟨h3, h4.trans hpm⟩

theorem sorted_merge (l : List (List UInt8)) (hd : l.Nodup) : sortedS l = l.mergeSort leB := by
  obtain ⟨h1, h2⟩ := sorted_fold l [] List.Pairwise.nil (by simpa using hd)
  have tr : ∀ a b c : List UInt8, leB a b = true → leB b c = true → leB a c = true := fun a b c h1 h2 => by simp only [leB, decide_eq_true_eq] at *; exact List.le_trans h1 h2
  have to : ∀ a b : List UInt8, (leB a b || leB b a) = true := fun a b => by simp only [leB, Bool.or_eq_true, decide_eq_true_eq]; exact List.le_total a b
  refine List.Perm.eq_of_pairwise (le := fun a b => leB a b = true) (fun a b _ _ h1 h2 => ?_) (h1.imp fun h => ?_) (List.pairwise_mergeSort tr to l) ((show (sortedS l).Perm ([] ++ l) from h2).trans (List.mergeSort_perm l leB).symm)
  · simp only [leB, decide_eq_true_eq] at h1 h2
    exact List.le_antisymm h1 h2
  · simpa [leB] using lt_le h

end Go.Proofs.YtehjalgogjkdlaaDoor

namespace Go.Proofs.YtehjalgogjkdlaaDoor
set_option linter.unusedVariables false
set_option linter.unusedSimpArgs false
open Go.RowKit
theorem by_ok (s : Led) (tn fn : ByteArray) (p : Int) (h : (byU s tn fn p).2.2 = 0) : (byU s tn fn p).1 = tot (ofB tn fn p false) s.l := by
  unfold byU at h ⊢
  split <;> rename_i h1
  · rw [if_pos h1] at h
    split <;> rename_i h2
    · rw [if_pos h2] at h
      split <;> rename_i h3
      · show (sumU (ofB tn fn p false) s.l zU).1 = _
        rw [sum_ok _ _ _ h2, zero_plus]
      · rw [if_neg h3] at h
        exact absurd h h3
    · rw [if_neg h2] at h
      exact absurd h h2
  · rw [if_neg h1] at h
    exact absurd h h1
theorem total_ok (s : Led) (tn : ByteArray) (p : Int) (h : (totU s tn p).2 = 0) : (totU s tn p).1 = tot (totB tn p) s.l := by
  unfold totU at h ⊢
  split <;> rename_i h1
  · rw [if_pos h1] at h
    rw [sum_ok _ _ _ h, zero_plus]
  · rw [if_neg h1] at h
    exact absurd h h1
def aggT (s : Led) (tn : ByteArray) (p : Int) (F : List (List UInt8)) : Us := F.foldl (fun u x => plusU u (tot (ofB tn ⟨x.toArray⟩ p false) s.l)) zU
theorem fold_sumF (g : List UInt8 → Us) : ∀ (F : List (List UInt8)) (x : Us), F.foldl (fun u s => plusU u (g s)) x = plusU x (sumF g F)
  | [], x => (plus_zero x).symm
  | s :: F, x => by
    rw [List.foldl_cons, fold_sumF g F, plus_assoc]
    rfl
theorem agg_total (s : Led) (tn : ByteArray) (p : Int) : aggT s tn p (fnsU s tn p) = tot (totB tn p) s.l := by
  obtain ⟨h1, h2⟩ := fns_facts s tn p
  unfold aggT
  rw [fold_sumF, zero_plus]
  refine tot_by tn p (fnsU s tn p) (nodup_lt h1) s.l (fun c hc hq => ?_)
  rw [h2]
  unfold fnL
  exact List.mem_map.2 ⟨c, List.mem_filter.2 ⟨hc, hq⟩, rfl⟩
theorem agg_step (s : Led) (tn : ByteArray) (p : Int) (F : List (List UInt8)) (k : Nat) (h : k < F.length) : aggT s tn p (F.take (k + 1)) = plusU (aggT s tn p (F.take k)) (tot (ofB tn ⟨F[k].toArray⟩ p false) s.l) := foldl_take _ _ _ _ h
/-- The records of a ledger have been checked. -/
def LOk (s : Led) : Prop := ∀ c ∈ s.l, nameB c.r.fn = true
theorem step_ok (s : Led) (x : OpU) (h : LOk s) : LOk (stepU s x) := by
  unfold stepU
  split
  · unfold recS
    split
    · rename_i hc
      split
      · exact h
      · split
        · exact h
        · intro c hc'
          simp only [List.mem_append, List.mem_singleton] at hc'
          rcases hc' with hc' | rfl
          · exact h c hc'
          · show nameB x.r.fn = true
            unfold checkR at hc
            split at hc
            · rename_i hn
              simp only [Bool.and_eq_true] at hn
              exact hn.2
            · simp at hc
    · exact h
  · split
    · intro c hc
      rw [(close_grow s x.p).1] at hc
      exact h c hc
    · exact h
theorem play_ok : ∀ (l : List OpU) (s : Led), LOk s → LOk (l.foldl stepU s)
  | [], _, h => h
  | x :: l, s, h => play_ok l _ (step_ok s x h)
theorem fns_size (s : Led) (h : LOk s) (tn : ByteArray) (p : Int) : ∀ x ∈ fnsU s tn p, x.length ≤ 24 := by
  intro x hx
  rw [(fns_facts s tn p).2] at hx
  unfold fnL at hx
  obtain ⟨c, hc, rfl⟩ := List.mem_map.1 hx
  have := h c (List.mem_filter.1 hc).1
  unfold nameB at this
  simp only [Bool.and_eq_true, decide_eq_true_eq] at this
  have h2 := this.2
  show c.r.fn.data.toList.length ≤ 24
  rw [Array.length_toList]
  exact h2
theorem fns_len (s : Led) (tn : ByteArray) (p : Int) : (fnsU s tn p).length ≤ s.l.length := by
  unfold fnsU
  refine Nat.le_trans (compact_len _) ?_
  rw [List.length_mergeSort]
  exact fnL_len _ _ _
end Go.Proofs.YtehjalgogjkdlaaDoor

namespace Go.Proofs.YtehjalgogjkdlaaDoor
set_option linter.unusedVariables false
set_option linter.unusedSimpArgs false
open Go.RowKit
variable {w w' : World} {b : Nat} {v : Value} {s : Led}
def rfF (tn : ByteArray) (p : Int) (out : List (List UInt8)) (c : CR) : List (List UInt8) := if (inB tn p c && !out.contains (bs c.r.fn)) = true then sortedS (out ++ [bs c.r.fn]) else out
theorem rf_step (tn : ByteArray) (p : Int) (out : List (List UInt8)) (c : CR) (h : out.Pairwise (· < ·)) : (rfF tn p out c).Pairwise (· < ·) ∧ (∀ x, x ∈ rfF tn p out c ↔ x ∈ out ∨ (inB tn p c = true ∧ x = bs c.r.fn)) ∧ (rfF tn p out c).length ≤ out.length + 1 := by
  unfold rfF
  by_cases hq : (inB tn p c && !out.contains (bs c.r.fn)) = true
  · rw [if_pos hq]
    simp only [Bool.and_eq_true, Bool.not_eq_true'] at hq
    have hn : bs c.r.fn ∉ out := fun hm => by
      rw [List.contains_iff_mem.2 hm] at hq; cases hq.2
    have hd : (out ++ [bs c.r.fn]).Nodup := List.nodup_append.2 ⟨nodup_lt h, by simp, fun a ha b hb => by simp at hb; subst hb; rintro rfl; exact hn ha⟩
    obtain ⟨h1, h2⟩ := sorted_fold (out ++ [bs c.r.fn]) [] List.Pairwise.nil (by simpa using hd)
    refine ⟨h1, fun x => ?_, ?_⟩
    · have := h2.mem_iff (a := x)
      unfold sortedS
      rw [this]
      simp [hq.1]
    · have := h2.length_eq
      unfold sortedS
      rw [this]
      simp
  · rw [if_neg hq]
    refine ⟨h, fun x => ⟨.inl, fun hx => hx.elim id fun ⟨h1, h2⟩ => ?_⟩, by omega⟩
    subst h2
    rw [h1] at hq
    simp only [Bool.true_and, Bool.not_eq_true', Bool.not_eq_false] at hq
    exact List.contains_iff_mem.1 hq
theorem rf_facts (tn : ByteArray) (p : Int) : ∀ (l : List CR) (out : List (List UInt8)), out.Pairwise (· < ·) → (l.foldl (rfF tn p) out).Pairwise (· < ·) ∧ (∀ x, x ∈ l.foldl (rfF tn p) out ↔ x ∈ out ∨ x ∈ fnL tn p l) ∧ (l.foldl (rfF tn p) out).length ≤ out.length + l.length
  | [], out, h => ⟨h, fun x => by simp [fnL], by simp⟩
  | c :: l, out, h => by
    obtain ⟨h1, h2, h3⟩ := rf_step tn p out c h
    obtain ⟨k1, k2, k3⟩ := rf_facts tn p l (rfF tn p out c) h1
    refine ⟨k1, fun x => ?_, ?_⟩
    · rw [List.foldl_cons, k2, h2]
      unfold fnL
      rw [List.filter_cons]
      cases hq : inB tn p c
      · simp
      · simp only [if_true, List.map_cons, List.mem_cons, true_and, or_assoc]
    · rw [List.foldl_cons, List.length_cons]; omega
theorem rf_eq (s : Led) (tn : ByteArray) (p : Int) : s.l.foldl (rfF tn p) [] = fnsU s tn p := by
  obtain ⟨h1, h2, _⟩ := rf_facts tn p s.l [] List.Pairwise.nil
  obtain ⟨k1, k2⟩ := fns_facts s tn p
  refine List.Perm.eq_of_pairwise (le := fun a b => leB a b = true) (fun a b _ _ h1 h2 => ?_) (h1.imp fun h => ?_) (k1.imp fun h => ?_) ((List.perm_ext_iff_of_nodup (nodup_lt h1) (nodup_lt k1)).2 fun x => ?_)
  · simp only [leB, decide_eq_true_eq] at h1 h2
    exact List.le_antisymm h1 h2
  · simpa [leB] using lt_le h
  · simpa [leB] using lt_le h
  · rw [h2, k2]; simp
end Go.Proofs.YtehjalgogjkdlaaDoor
