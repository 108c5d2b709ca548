/- Chapter 30: what Trim computes; a stream's own blocks; the test of Trim's inner loop in a round. Condition: what lies where. -/
import Derived.Test.YtmichbpfmachcaaDoorStmJ
namespace Go.Proofs.YtmichbpfmachcaaDoor
set_option linter.unusedVariables false
set_option linter.unusedSimpArgs false
open Go.RowKit Go.Shelf
attribute [local go_sem] Oper.semAt_some
variable {w w' : World} {b g c n : Nat} {D : List Sd} {keep now : Int} {f S : List Nat} {st : Stm}
def cntD (keep now : Int) (l : List PRec) : Nat := (l.takeWhile (fun r => decide (r.at_ + keep < now))).length
def trimD (keep now : Int) (d : Shd) : Shd := ⟨d.first + (cntD keep now d.recs : Int), d.recs.drop (cntD keep now d.recs)⟩
def trimR (st : Stm) (now : Int) : Int × Stm :=
  if now < st.now then (0, st) else if 1073741824 < now then (0, st) else ((((st.sh.map (fun d => cntD st.keep now d.recs)).sum : Nat) : Int), { st with now := now, sh := st.sh.map (trimD st.keep now) })
theorem cntD_le (keep now : Int) (l : List PRec) : cntD keep now l ≤ l.length := (List.takeWhile_sublist _).length_le
def stepK (keep now : Int) (q : List Shd × Nat) (x : Nat) : List Shd × Nat := match q.1[x]? with
  | none => q
  | some d => (q.1.set x (trimD keep now d), q.2 + cntD keep now d.recs)
def foldK (keep now : Int) (S0 : List Shd) (pre : List Nat) : List Shd × Nat := pre.foldl (stepK keep now) (S0, 0)
theorem foldK_snoc (keep now : Int) (S0 : List Shd) (pre : List Nat) (x : Nat) : foldK keep now S0 (pre ++ [x]) = stepK keep now (foldK keep now S0 pre) x := by
  unfold foldK
  rw [List.foldl_append]
  rfl
theorem foldK_range (keep now : Int) (S0 : List Shd) : ∀ k, k ≤ S0.length → foldK keep now S0 (List.range k) = ((S0.take k).map (trimD keep now) ++ S0.drop k, ((S0.take k).map (fun d => cntD keep now d.recs)).sum) := by
  intro k
  induction k with
  | zero => intro _; simp [foldK]
  | succ k ih =>
    intro hk
    have hk' : k < S0.length := by omega
    rw [List.range_succ, foldK_snoc, ih (by omega)]
    unfold stepK
    have hl : ((S0.take k).map (trimD keep now)).length = k := by simp; omega
    have hg : ((S0.take k).map (trimD keep now) ++ S0.drop k)[k]? = some S0[k] := by
      rw [List.getElem?_append_right (by omega), hl, Nat.sub_self, List.getElem?_drop, Nat.add_zero, List.getElem?_eq_getElem hk']
    simp only [hg]
    rw [List.take_succ_eq_append_getElem hk', List.map_append, List.map_append, List.sum_append]
    refine Prod.ext ?_ (by simp)
    simp only
    rw [List.set_append_right _ _ (by omega), hl, Nat.sub_self, List.drop_eq_getElem_cons hk', List.set_cons_zero]
    simp
theorem foldK_all (keep now : Int) (S0 : List Shd) : foldK keep now S0 (List.range S0.length) = (S0.map (trimD keep now), (S0.map (fun d => cntD keep now d.recs)).sum) := by
  rw [foldK_range keep now S0 _ (Nat.le_refl _)]
  simp
theorem trimD_ok {keep now : Int} {d : Shd} (h1 : 0 ≤ d.first) (h2 : d.first + (d.recs.length : Int) ≤ n) (h3 : d.recs.length ≤ 256) : 0 ≤ (trimD keep now d).first ∧ (trimD keep now d).first + ((trimD keep now d).recs.length : Int) ≤ n ∧ (trimD keep now d).recs.length ≤ 256 := by
  have := cntD_le keep now d.recs
  unfold trimD
  simp only [List.length_drop]
  omega
theorem ok_set {k : Int} {S0 : List Shd} (ho : (⟨keep, k, S0⟩ : Stm).ok n) (now : Int) (x : Nat) (d : Shd) (hd : S0[x]? = some d) : (⟨keep, k, S0.set x (trimD keep now d)⟩ : Stm).ok n := by
  obtain ⟨h1, h2, h3, h4, h5, h6, h7⟩ := ho
  refine ⟨by simpa using h1, by simpa using h2, h3, h4, h5, h6, fun e he => ?_⟩
  obtain ⟨hx, hxd⟩ := List.getElem?_eq_some_iff.1 hd
  rcases List.mem_or_eq_of_mem_set he with h | rfl
  · exact h7 e h
  · have hm := h7 d (hxd ▸ List.getElem_mem hx)
    obtain ⟨u1, u2, u3⟩ := trimD_ok (keep := keep) (now := now) hm.1 hm.2.1 hm.2.2.1
    exact ⟨u1, u2, u3, fun r hr => hm.2.2.2 r (List.mem_of_mem_drop hr)⟩
theorem foldK_ok {k : Int} {S0 : List Shd} (ho : (⟨keep, k, S0⟩ : Stm).ok n) (now : Int) (pre : List Nat) : (⟨keep, k, (foldK keep now S0 pre).1⟩ : Stm).ok n ∧ (foldK keep now S0 pre).1.length = S0.length ∧ (foldK keep now S0 pre).2 ≤ 256 * pre.length := by
  have key : ∀ (pre : List Nat) (q : List Shd × Nat), (⟨keep, k, q.1⟩ : Stm).ok n → q.1.length = S0.length → (⟨keep, k, (pre.foldl (stepK keep now) q).1⟩ : Stm).ok n ∧ (pre.foldl (stepK keep now) q).1.length = S0.length ∧ (pre.foldl (stepK keep now) q).2 ≤ q.2 + 256 * pre.length := by
    intro pre
    induction pre with
    | nil => intro q h1 h2; exact ⟨h1, h2, by simp⟩
    | cons x pre ih =>
      intro q h1 h2
      rw [List.foldl_cons]
      unfold stepK
      cases hx : q.1[x]? with
      | none =>
        obtain ⟨u1, u2, u3⟩ := ih q h1 h2
        exact ⟨u1, u2, by simp only [List.length_cons]; unfold stepK at u3; omega⟩
      | some d =>
        obtain ⟨u1, u2, u3⟩ := ih (q.1.set x (trimD keep now d), q.2 + cntD keep now d.recs) (ok_set h1 now x d hx) (by simpa using h2)
        refine ⟨u1, u2, ?_⟩
        have hd : d ∈ q.1 := by obtain ⟨hx1, hx2⟩ := List.getElem?_eq_some_iff.1 hx; exact hx2 ▸ List.getElem_mem hx1
        have := (h1.2.2.2.2.2.2 d hd).2.2.1
        have := cntD_le keep now d.recs
        unfold stepK at u3
        simp only [List.length_cons] at u3 ⊢
        omega
  have := key pre (S0, 0) ho rfl
  simpa [foldK] using this
/-- A stream's own blocks. -/
def canon (b g : Nat) (D : List Sd) : List Nat := b :: g :: D.flatMap (fun d => d.v.ownBlock.toList ++ d.L.filterMap (fun r => r.e.ba.map (·.block)))
theorem mem_canon {b g : Nat} {D : List Sd} {x : Nat} : x ∈ canon b g D ↔ x = b ∨ x = g ∨ ∃ d ∈ D, d.v.ownBlock = some x ∨ ∃ r ∈ d.L, ∃ y, r.e.ba = some y ∧ y.block = x := by
  unfold canon
  simp only [List.mem_cons, List.mem_flatMap, List.mem_append, Option.mem_toList, List.mem_filterMap, Option.map_eq_some_iff, Option.mem_def]
theorem StmAt.canon (h : StmAt w b g c D keep now f) : StmAt w b g c D keep now (canon b g D) ∧ (∀ x ∈ Go.Proofs.YtmichbpfmachcaaDoor.canon b g D, x ∈ f) ∧ ∀ x ∈ Go.Proofs.YtmichbpfmachcaaDoor.canon b g D, ∃ cur t, w.heap[x]? = some (.cells cur t (0, 0)) ∧ (t = 61 ∨ t = 70 ∨ t = 55 ∨ t = 66) := by
  have hin : ∀ x ∈ Go.Proofs.YtmichbpfmachcaaDoor.canon b g D, x ∈ f := by
    intro x hx
    rcases mem_canon.1 hx with rfl | rfl | ⟨d, hd, hx | ⟨r, hr, y, hy, rfl⟩⟩
    · exact h.inb
    · exact h.ing
    · exact h.inr d hd x hx
    · exact ((h.body d hd r hr).2 y hy).1
  refine ⟨⟨h.head, h.row, h.recs, h.apart, mem_canon.2 (.inl rfl), mem_canon.2 (.inr (.inl rfl)), fun d hd x hx => mem_canon.2 (.inr (.inr ⟨d, hd, .inl hx⟩)), fun d hd r hr => ⟨(h.body d hd r hr).1, fun x hx => ⟨mem_canon.2 (.inr (.inr ⟨d, hd, .inr ⟨r, hr, x, hx, rfl⟩⟩)), ((h.body d hd r hr).2 x hx).2⟩⟩, fun x hx => h.lt x (hin x hx)⟩, hin, ?_⟩
  intro x hx
  rcases mem_canon.1 hx with rfl | rfl | ⟨d, hd, hx | ⟨r, hr, y, hy, rfl⟩⟩
  · exact ⟨_, _, h.head, .inl rfl⟩
  · obtain ⟨cur, hc⟩ := h.rowAt
    exact ⟨cur, _, hc, .inr (.inl rfl)⟩
  · obtain ⟨cur, hc⟩ := rowBlk (h.recs d hd) hx
    exact ⟨cur, _, hc, .inr (.inr (.inl rfl))⟩
  · obtain ⟨cur, hc⟩ := ((h.body d hd r hr).2 y hy).2
    exact ⟨cur, _, hc, .inr (.inr (.inr rfl))⟩
end Go.Proofs.YtmichbpfmachcaaDoor
