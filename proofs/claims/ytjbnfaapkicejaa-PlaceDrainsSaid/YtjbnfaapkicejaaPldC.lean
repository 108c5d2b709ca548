/- Chapter 43: plain law: Spread as the reference. No condition. -/
import Derived.Test.YtjbnfaapkicejaaCpt
import Derived.Test.YtjbnfaapkicejaaPlcO
import Derived.Test.YtjbnfaapkicejaaPldB
namespace Go.Proofs.Ytjbnfaapkicejaa
set_option linter.unusedVariables false
set_option linter.unusedSimpArgs false
open Go.RowKit
theorem wkL_mem {tn : ByteArray} {l : List Pl} {x : List UInt8} : x ∈ wkL tn l ↔ ∃ y ∈ l, y.tn = tn ∧ bs y.wk = x := by
  unfold wkL
  rw [List.mem_map]
  constructor
  · rintro ⟨y, hy, rfl⟩
    obtain ⟨h1, h2⟩ := List.mem_filter.1 hy
    exact ⟨y, h1, eq_of_beq h2, rfl⟩
  · rintro ⟨y, hy, rfl, rfl⟩
    exact ⟨y, List.mem_filter.2 ⟨hy, beq_self_eq_true _⟩, rfl⟩
theorem count_zero {l : List Pl} {tn s : ByteArray} : countS l tn s = 0 ↔ bs s ∉ wkL tn l := by
  unfold countS
  rw [List.countP_eq_zero, wkL_mem]
  constructor
  · rintro h ⟨y, hy, h1, h2⟩
    exact h y hy (by rw [h1, bs_inj h2]; simp)
  · intro h y hy hb
    rw [Bool.and_eq_true] at hb
    exact h ⟨y, hy, eq_of_beq hb.1, by rw [eq_of_beq hb.2]⟩
theorem rs_list (l : List Pl) (tn : ByteArray) : ∀ k, k ≤ l.length → ∃ d : List (List UInt8), d.length = rsN l tn k ∧ d.Nodup ∧ ∀ x, x ∈ d ↔ x ∈ wkL tn (l.take k) := by
  intro k
  induction k with
  | zero => intro _; exact ⟨[], rfl, List.nodup_nil, fun x => by simp [wkL]⟩
  | succ k ih =>
    intro hk
    obtain ⟨d, h1, h2, h3⟩ := ih (by omega)
    have hk' : k < l.length := by omega
    have hs := rsN_step l tn k hk'
    have hw := wkL_step tn l k hk'
    by_cases ht : l[k].tn = tn
    · rw [if_pos (by rw [ht]; simp)] at hw
      by_cases hc : countS (l.take k) tn l[k].wk = 0
      · rw [if_pos (by rw [ht, hc]; simp)] at hs
        refine ⟨d ++ [bs l[k].wk], by rw [List.length_append, h1, hs]; rfl, ?_, fun x => by rw [hw, List.mem_append, List.mem_append, h3]⟩
        rw [List.nodup_append]
        refine ⟨h2, by simp, ?_⟩
        intro x hx y hy e
        subst e
        simp at hy
        subst hy
        exact count_zero.1 hc ((h3 _).1 hx)
      · rw [if_neg (by rw [ht]; simp [hc])] at hs
        refine ⟨d, by rw [h1, hs, Nat.add_zero], h2, fun x => ?_⟩
        rw [hw, List.mem_append, h3]
        constructor
        · exact .inl
        · rintro (h | h)
          · exact h
          · simp at h
            subst h
            exact Classical.not_not.1 (fun hn => hc (count_zero.2 hn))
    · rw [if_neg (by simp [ht]), List.append_nil] at hw
      rw [if_neg (by simp [ht]), Nat.add_zero] at hs
      exact ⟨d, by omega, h2, fun x => by rw [hw, h3]⟩
theorem spread_same (l : List Pl) (tn : ByteArray) : spreadN l tn = rsN l tn l.length := by
  obtain ⟨d, h1, h2, h3⟩ := rs_list l tn l.length (Nat.le_refl _)
  rw [List.take_length] at h3
  obtain ⟨c1, c2⟩ := compact_facts (leB_sorted (wkL tn l))
  rw [← h1]
  unfold spreadN
  refine List.Perm.length_eq ((List.perm_ext_iff_of_nodup (nodup_lt c1) h2).2 fun x => ?_)
  rw [c2, h3]
  exact List.mem_mergeSort
end Go.Proofs.Ytjbnfaapkicejaa
