/- Chapter 52: plain law: records of other tenants do not affect a sum. No condition. -/
import Derived.Test.YtfnnnflfikmekaaUpD
namespace Go.Proofs.Ytfnnnflfikmekaa
set_option linter.unusedVariables false
set_option linter.unusedSimpArgs false
open Go.RowKit
/-- Ledger t has the records of a tenant among those of ledger s; ids: what has been seen. -/
structure OthI (tn : ByteArray) (s t : Led) (ids : List (List UInt8)) (k : Nat) : Prop where
  l : t.l = s.l.filter (fun c => c.r.tn == tn)
  p : t.p = s.p
  ids : ∀ c ∈ s.l, bs c.r.id ∈ ids
  len : s.l.length ≤ k
theorem bs_inj' {a b : ByteArray} (h : bs a = bs b) : a = b := bs_inj h
theorem find_new {l : List CR} {id : ByteArray} {ids : List (List UInt8)} (h : ∀ c ∈ l, bs c.r.id ∈ ids) (hn : bs id ∉ ids) : findC l id = none := by
  unfold findC
  rw [List.find?_eq_none]
  intro c hc
  simp only [beq_iff_eq]
  intro e
  exact hn (e ▸ h c hc)
def cB (tn : ByteArray) (x : OpU) : Bool := x.k == 1 || x.r.tn == tn
theorem oth_start (tn : ByteArray) : OthI tn ⟨[], 0⟩ ⟨[], 0⟩ [] 0 := ⟨rfl, rfl, by simp, by simp⟩
theorem OthI.len2 {tn : ByteArray} {s t : Led} {ids : List (List UInt8)} {k : Nat} (h : OthI tn s t ids k) : t.l.length ≤ k := by
  rw [h.l]
  exact Nat.le_trans (List.length_filter_le _ _) h.len
theorem OthI.skip {tn : ByteArray} {s t : Led} {ids : List (List UInt8)} {k : Nat} (h : OthI tn s t ids k) : OthI tn s t ids (k + 1) := ⟨h.l, h.p, h.ids, by have := h.len; omega⟩
/-- A new record. -/
theorem OthI.recd {tn : ByteArray} {s t : Led} {ids : List (List UInt8)} {k : Nat} (h : OthI tn s t ids k) (x : OpU) (hx : x.k = 0) (hn : bs x.r.id ∉ ids) (hk : k < 60) :
    OthI tn (stepU s x) (if cB tn x = true then stepU t x else t) (ids ++ [bs x.r.id]) (k + 1) := by
  have hf1 := find_new h.ids hn
  have hf2 : findC t.l x.r.id = none := find_new (fun c hc => h.ids c (by rw [h.l] at hc; exact (List.mem_filter.1 hc).1)) hn
  have hl1 := h.len
  have hl2 := h.len2
  have e1 : stepU s x = if checkR x.r = 0 then ⟨s.l ++ [⟨x.r, max x.r.per s.p⟩], s.p⟩ else s := by
    unfold stepU recS
    rw [if_pos hx, hf1]
    simp only [if_neg (show ¬ s.l.length = 4000 by omega)]
  have e2 : stepU t x = if checkR x.r = 0 then ⟨t.l ++ [⟨x.r, max x.r.per t.p⟩], t.p⟩ else t := by
    unfold stepU recS
    rw [if_pos hx, hf2]
    simp only [if_neg (show ¬ t.l.length = 4000 by omega)]
  have ec : cB tn x = (x.r.tn == tn) := by unfold cB; rw [hx]; rfl
  rw [e1, e2, ec]
  by_cases hc : checkR x.r = 0
  · rw [if_pos hc, if_pos hc]
    by_cases ht : (x.r.tn == tn) = true
    · rw [if_pos ht]
      refine ⟨?_, h.p, ?_, by simp; omega⟩
      · show t.l ++ _ = (s.l ++ _).filter _
        rw [List.filter_append, h.l, h.p]
        congr 1
        simp [List.filter, ht]
      · intro c hc'
        rcases List.mem_append.1 hc' with hc' | hc'
        · exact List.mem_append_left _ (h.ids c hc')
        · simp at hc'; subst hc'; simp
    · rw [if_neg ht]
      refine ⟨?_, h.p, ?_, by simp; omega⟩
      · show t.l = (s.l ++ _).filter _
        rw [List.filter_append, h.l]
        have : (x.r.tn == tn) = false := by simpa using ht
        simp [List.filter, this]
      · intro c hc'
        rcases List.mem_append.1 hc' with hc' | hc'
        · exact List.mem_append_left _ (h.ids c hc')
        · simp at hc'; subst hc'; simp
  · rw [if_neg hc, if_neg hc]
    simp only [ite_self]
    exact ⟨h.l, h.p, fun c hc' => List.mem_append_left _ (h.ids c hc'), by omega⟩
/-- Another call. -/
theorem OthI.other {tn : ByteArray} {s t : Led} {ids : List (List UInt8)} {k : Nat} (h : OthI tn s t ids k) (x : OpU) (hx : x.k ≠ 0) :
    OthI tn (stepU s x) (if cB tn x = true then stepU t x else t) ids (k + 1) := by
  by_cases h1 : x.k = 1
  · have ec : cB tn x = true := by unfold cB; rw [h1]; rfl
    rw [if_pos ec]
    unfold stepU
    rw [if_neg hx, if_pos h1, if_neg hx, if_pos h1]
    refine ⟨?_, ?_, ?_, ?_⟩
    · rw [(close_grow s x.p).1, (close_grow t x.p).1]; exact h.l
    · unfold closeS
      rw [h.p]
      split
      · exact h.p
      · split
        · exact h.p
        · rfl
    · rw [(close_grow s x.p).1]; exact h.ids
    · rw [(close_grow s x.p).1]; have := h.len; omega
  · have e : ∀ u : Led, stepU u x = u := fun u => by unfold stepU; rw [if_neg hx, if_neg h1]
    rw [e, e]
    simp only [ite_self]
    exact h.skip
theorem sum_filter (f g : CR → Bool) (h : ∀ c, f c = true → g c = true) : ∀ (l : List CR) (u : Us), sumU f (l.filter g) u = sumU f l u
  | [], _ => rfl
  | c :: l, u => by
    by_cases hg : g c = true
    · rw [List.filter_cons, if_pos hg]
      unfold sumU
      split
      · split
        · exact sum_filter f g h l _
        · rfl
      · exact sum_filter f g h l u
    · rw [List.filter_cons, if_neg hg]
      rw [sum_filter f g h l u, sumU, if_neg (fun hf => hg (h c hf))]
theorem OthI.total {tn : ByteArray} {s t : Led} {ids : List (List UInt8)} {k : Nat} (h : OthI tn s t ids k) (p : Int) : totU t tn p = totU s tn p := by
  unfold totU
  rw [h.l, sum_filter _ _ (fun c hc => by unfold totB at hc; simp only [Bool.and_eq_true] at hc; exact hc.1.1)]
theorem OthI.fns {tn : ByteArray} {s t : Led} {ids : List (List UInt8)} {k : Nat} (h : OthI tn s t ids k) (p : Int) : fnsU t tn p = fnsU s tn p := by
  unfold fnsU fnL
  rw [h.l, List.filter_filter]
  congr 3
  apply List.filter_congr
  intro c _
  unfold inB
  cases c.r.tn == tn <;> simp
end Go.Proofs.Ytfnnnflfikmekaa
