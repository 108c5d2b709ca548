/- Chapter 30: plain laws of what was appended to each shard. No condition. -/
import Derived.Test.YtmichbpfmachcaaDoorStnC
namespace Go.Proofs.YtmichbpfmachcaaDoor
set_option linter.unusedVariables false
set_option linter.unusedSimpArgs false
open Go.RowKit
/-- What was appended to each shard, and what of it the shard keeps. -/
structure HistD (d : Shd) (h : List Ev) : Prop where
  pos : 0 ≤ d.first
  len : d.first.toNat + d.recs.length = h.length
  evs : d.recs.map (·.e) = (h.map Ev.p).drop d.first.toNat
structure Hist (st : Stm) (D : List (Rr Ev)) : Prop where
  len : D.length = st.sh.length
  at_ : ∀ (i : Nat) (d : Shd) (r : Rr Ev), st.sh[i]? = some d → D[i]? = some r → HistD d r.L
theorem hist_new (m : Nat) (k : Int) : Hist (newS m k) (List.replicate m ⟨none, 0, []⟩) := by
  refine ⟨by simp [newS], fun i d r hd hr => ?_⟩
  have h1 := List.eq_of_mem_replicate (List.mem_of_getElem? hd)
  have h2 := List.eq_of_mem_replicate (List.mem_of_getElem? hr)
  subst h1 h2
  exact ⟨by simp, by simp, by simp⟩
theorem hist_trim {st : Stm} {D : List (Rr Ev)} (h : Hist st D) (now : Int) : Hist (trimR st now).2 D := by
  rcases trimR_cases st now with ⟨h1, -⟩ | ⟨h1, h2, h3⟩
  · rw [h1]; exact h
  rw [h3]
  refine ⟨by simp [h.len], fun i d' r hd' hr => ?_⟩
  simp only [List.getElem?_map, Option.map_eq_some_iff] at hd'
  obtain ⟨d, hd, rfl⟩ := hd'
  obtain ⟨a1, a2, a3⟩ := h.at_ i d r hd hr
  have hle := cntD_le st.keep now d.recs
  simp only [trimD] at *
  have e1 : (d.first + (cntD st.keep now d.recs : Int)).toNat = d.first.toNat + cntD st.keep now d.recs := by omega
  refine ⟨by simp only; omega, by simp only [e1, List.length_drop]; omega, ?_⟩
  simp only [e1, List.map_drop, a3, List.drop_drop]
/-- An append that returned an error. -/
theorem hist_err {st : Stm} {D : List (Rr Ev)} (h : Hist st D) {e : PEv} {now : Int} (he : (appR st e now).1.2.2 ≠ 0) : Hist (appR st e now).2 D := by
  rw [appR_err he]; exact h
/-- An append that returned none: the shard, the number, and the list with the event behind it. -/
theorem hist_app {st : Stm} {n : Nat} {D : List (Rr Ev)} (ho : st.ok n) (h : Hist st D) (e : Ev) (now : Int) (he : (appR st e.p now).1.2.2 = 0) : ∃ k, ∃ hk : k < D.length, (appR st e.p now).1.1 = (k : Int) ∧ bucketZ e.p.key (st.sh.length : Int) = (k : Int) ∧ (appR st e.p now).1.2.1 = ((D[k]).L.length : Int) ∧
    ∀ a' c', Hist (appR st e.p now).2 (D.set k ⟨a', c', (D[k]).L ++ [e]⟩) := by
  have hbb := bucketZ_bounds e.p.key (n := (st.sh.length : Int)) (by have := ho.1; omega)
  rcases appR_cases st e.p now with ⟨-, h2 | h2⟩ | ⟨d, h1, h2, h3, h4⟩
  · exact absurd he h2
  · exfalso
    have hlt : (bucketZ e.p.key (st.sh.length : Int)).toNat < st.sh.length := by omega
    exact h2 _ (List.getElem?_eq_getElem hlt)
  · obtain ⟨hx, hxd⟩ := List.getElem?_eq_some_iff.1 h3
    have hk : (bucketZ e.p.key (st.sh.length : Int)).toNat < D.length := by rw [h.len]; exact hx
    have hD := h.at_ _ d _ h3 (List.getElem?_eq_getElem hk)
    obtain ⟨a1, a2, a3⟩ := hD
    refine ⟨(bucketZ e.p.key (st.sh.length : Int)).toNat, hk, by rw [h4]; simp only; omega, by omega, by rw [h4]; simp only; omega, fun a' c' => ?_⟩
    rw [h4]
    refine ⟨by simp [h.len], fun i d' r hd' hr => ?_⟩
    simp only at hd'
    by_cases hi : i = (bucketZ e.p.key (st.sh.length : Int)).toNat
    · subst hi
      rw [List.getElem?_set_self hx] at hd'
      rw [List.getElem?_set_self hk] at hr
      cases hd'
      cases hr
      refine ⟨a1, by simp only [List.length_append, List.length_singleton]; omega, ?_⟩
      simp only [List.map_append, List.map_cons, List.map_nil, a3]
      rw [List.drop_append_of_le_length (by rw [List.length_map]; omega)]
    · rw [List.getElem?_set_ne (by omega)] at hd' hr
      exact h.at_ i d' r hd' hr
/-- What the law asks of shard k. -/
theorem hist_shard {st : Stm} {n : Nat} {D : List (Rr Ev)} (ho : st.ok n) (hf : st.fine) (h : Hist st D) (k : Nat) (hk : k < D.length) : ∃ (fs : Nat) (R : List PRec), firstZ st k = ((fs : Int), 0) ∧ nextZ st k = (((D[k]).L.length : Int), 0) ∧ fs ≤ (D[k]).L.length ∧ readR st k fs 256 = (R, 0) ∧ R.length = (D[k]).L.length - fs ∧
    ∀ i (hi : i < R.length), (R[i]).sq = (fs : Int) + (i : Int) ∧ (R[i]).sh = (k : Int) ∧ (∃ hj : fs + i < (D[k]).L.length, (R[i]).e = ((D[k]).L[fs + i]).p) ∧ ∀ j (hj : j < R.length), j < i → (R[j]).at_ ≤ (R[i]).at_ := by
  have hks : k < st.sh.length := by rw [← h.len]; exact hk
  have hd := List.getElem?_eq_getElem hks
  generalize hdd : st.sh[k] = d at hd
  obtain ⟨a1, a2, a3⟩ := h.at_ k d _ hd (List.getElem?_eq_getElem hk)
  obtain ⟨f1, f2, f3⟩ := hf k d hd
  obtain ⟨o1, o2, o3, o4⟩ := ho.2.2.2.2.2.2 d (hdd ▸ List.getElem_mem hks)
  have e1 : ((d.first.toNat : Nat) : Int) = d.first := by omega
  refine ⟨d.first.toNat, d.recs, ?_, ?_, by omega, ?_, by omega, fun i hi => ?_⟩
  · unfold firstZ
    rw [if_neg (by omega), Int.toNat_natCast, hd, e1]
  · unfold nextZ
    rw [if_neg (by omega), Int.toNat_natCast, hd]
    simp only
    congr 1
    omega
  · unfold readR
    rw [if_neg (by omega), Int.toNat_natCast, hd]
    simp only
    rw [if_neg (by omega), if_neg (by omega), if_neg (by decide), if_neg (by decide), if_neg (by omega), e1, Int.sub_self]
    congr 1
    exact List.take_of_length_le (by simpa using o3)
  · obtain ⟨g1, g2⟩ := f3 i _ (List.getElem?_eq_getElem hi)
    refine ⟨by rw [g2, e1], g1, ⟨by omega, ?_⟩, fun j hj hji => (List.pairwise_iff_getElem.1 f1) j i hj hi hji⟩
    have := congrArg (fun l => l[i]?) a3
    simp only [List.getElem?_map, List.getElem?_drop, List.getElem?_eq_getElem hi, Option.map_some] at this
    rw [List.getElem?_eq_getElem (by omega : d.first.toNat + i < (D[k]).L.length)] at this
    exact Option.some.inj this
end Go.Proofs.YtmichbpfmachcaaDoor
