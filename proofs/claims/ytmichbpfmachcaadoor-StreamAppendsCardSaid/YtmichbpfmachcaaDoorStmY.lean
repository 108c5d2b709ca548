/- Chapter 30: plain laws of appends and of the comparison of records. No condition. -/
import Derived.Test.YtmichbpfmachcaaDoorStmV
namespace Go.Proofs.YtmichbpfmachcaaDoor
set_option linter.unusedVariables false
set_option linter.unusedSimpArgs false
open Go.RowKit
theorem appR_err {st : Stm} {e : PEv} {now : Int} (h : (appR st e now).1.2.2 ≠ 0) : (appR st e now).2 = st := by
  revert h
  unfold appR
  split
  · intro _; rfl
  split
  · intro _; rfl
  split
  · intro _; rfl
  split
  · intro _; rfl
  split
  · intro _; rfl
  · split
    · intro _; rfl
    · intro h; exact absurd rfl h
theorem ceE_refl (x : Ce) : ceE x x = true := ceE_iff.2 rfl
theorem evE_refl (e : PEv) : evE e e = true := by
  unfold evE
  simp [same_refl ceE_refl]
theorem recE_refl (r : PRec) : recE r r = true := by
  unfold recE
  simp [evE_refl]
theorem same_of_map {l m : List Rc} (h : l.map Rc.p = m.map Rc.p) : sameB rcE l m = true := by
  have hl : l.length = m.length := by have := congrArg List.length h; simpa using this
  unfold sameB sameTo
  rw [decide_eq_true hl, Bool.true_and, List.all_eq_true]
  intro i hi
  rw [List.mem_range] at hi
  have hi2 : i < m.length := by omega
  rw [List.getElem?_eq_getElem hi, List.getElem?_eq_getElem hi2]
  have h1 : (l.map Rc.p)[i]? = (m.map Rc.p)[i]? := by rw [h]
  rw [List.getElem?_map, List.getElem?_map, List.getElem?_eq_getElem hi, List.getElem?_eq_getElem hi2] at h1
  simp only [Option.map_some, Option.some.injEq] at h1
  show rcE l[i] m[i] = true
  unfold rcE
  rw [h1]
  exact recE_refl _
theorem readR_bodies {st : Stm} {n : Nat} (ho : st.ok n) (k from_ most : Int) : (∀ r ∈ (readR st k from_ most).1, r.e.body.length ≤ 1048576) ∧ (readR st k from_ most).1.length ≤ 256 := by
  unfold readR
  split
  · simp
  split
  · simp
  · rename_i d hd
    obtain ⟨hx, hxd⟩ := List.getElem?_eq_some_iff.1 hd
    have hm := ho.2.2.2.2.2.2 d (hxd ▸ List.getElem_mem hx)
    split
    · simp
    split
    · simp
    split
    · simp
    split
    · simp
    split
    · simp
    · refine ⟨fun r hr => (hm.2.2.2 r (List.mem_of_mem_drop (List.mem_of_mem_take hr))).2.2, ?_⟩
      rw [List.length_take, List.length_drop]
      have := hm.2.2.1
      omega
theorem Pair.join {W w : World} {J K : List Nat → World → Prop} (h : Pair W w J K) : Pair W w (AndSide J K) NoSide := by
  obtain ⟨f, g, h1, h2, h3, h4, h5, h6⟩ := h
  refine ⟨f ++ g, [], ⟨f, g, rfl, h1, h2, h5⟩, rfl, fun x hx => ?_, by simp, by simp, h6⟩
  rcases List.mem_append.1 hx with hx | hx
  · exact h3 x hx
  · exact h4 x hx
theorem Pair.dropR {W w : World} {J K L : List Nat → World → Prop} (h : Pair W w J (AndSide K L)) : Pair W w J K := by
  obtain ⟨f, g, h1, ⟨g1, g2, rfl, h2, h3, h4⟩, h5, h6, h7, h8⟩ := h
  exact ⟨f, g1, h1, h2, h5, fun x hx => h6 x (List.mem_append_left _ hx), fun x hx hy => h7 x hx (List.mem_append_left _ hy), h8⟩
/-- All appends of a list, one after the other. -/
def appsS (st : Stm) : List (PEv × Int) → Stm
  | [] => st
  | x :: l => appsS (appR st x.1 x.2).2 l
end Go.Proofs.YtmichbpfmachcaaDoor
