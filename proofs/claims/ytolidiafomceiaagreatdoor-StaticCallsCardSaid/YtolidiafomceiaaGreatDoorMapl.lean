/- Plain laws on the lists that stand for maps with string keys: look-up behind a store, a deletion, a filter. No program in sight. -/
import Derived.Test.YtolidiafomceiaaGreatDoorBase
namespace Go.Proofs.YtolidiafomceiaaGreatDoor
set_option linter.unusedVariables false
set_option linter.unusedSimpArgs false
section
variable {α : Type} {kf : α → ByteArray}

theorem lookL_key {l : List α} {k : ByteArray} {x : α} (h : lookL kf l k = some x) : kf x = k := by
  have := List.find?_some h
  simpa using this
theorem lookL_mem {l : List α} {k : ByteArray} {x : α} (h : lookL kf l k = some x) : x ∈ l := List.mem_of_find?_eq_some h
theorem lookL_of_mem {l : List α} {x : α} (hd : (l.map kf).Nodup) (hx : x ∈ l) : lookL kf l (kf x) = some x := by
  induction l with
  | nil => cases hx
  | cons y l ih =>
    simp only [List.map_cons, List.nodup_cons] at hd
    unfold lookL at ih ⊢
    rcases List.mem_cons.1 hx with rfl | hx'
    · simp
    · have : kf y ≠ kf x := fun e => hd.1 (by rw [e]; exact List.mem_map.2 ⟨x, hx', rfl⟩)
      rw [List.find?_cons_of_neg (by simpa using this)]
      exact ih hd.2 hx'
theorem lookL_none {l : List α} {k : ByteArray} : lookL kf l k = none ↔ ∀ x ∈ l, kf x ≠ k := by
  unfold lookL; rw [List.find?_eq_none]; simp
theorem lookL_eq_some {l : List α} {k : ByteArray} {x : α} (hd : (l.map kf).Nodup) : lookL kf l k = some x ↔ x ∈ l ∧ kf x = k :=
  ⟨fun h => ⟨lookL_mem h, lookL_key h⟩, fun ⟨h1, h2⟩ => h2 ▸ lookL_of_mem hd h1⟩

theorem nodup_filter {l : List α} (p : α → Bool) (hd : (l.map kf).Nodup) : ((l.filter p).map kf).Nodup := List.Sublist.nodup (List.Sublist.map _ List.filter_sublist) hd

theorem lookL_filter {l : List α} (p : α → Bool) (k : ByteArray) (hd : (l.map kf).Nodup) : lookL kf (l.filter p) k = (lookL kf l k).filter p := by
  cases h : lookL kf l k with
  | none =>
    rw [lookL_none] at h
    exact lookL_none.2 fun x hx => h x (List.mem_filter.1 hx).1
  | some x =>
    have hx := (lookL_eq_some hd).1 h
    cases hp : p x with
    | true => simp only [Option.filter, hp, if_true]; exact (lookL_eq_some (nodup_filter p hd)).2 ⟨List.mem_filter.2 ⟨hx.1, hp⟩, hx.2⟩
    | false =>
      simp only [Option.filter, hp]
      refine lookL_none.2 fun y hy e => ?_
      have hy' := List.mem_filter.1 hy
      have := lookL_of_mem hd hy'.1
      rw [e, h] at this
      cases this
      rw [hp] at hy'; cases hy'.2

theorem lookL_putL_same {l : List α} (x : α) : lookL kf (putL kf l x) (kf x) = some x := by
  unfold putL
  split
  · rename_i h
    simp only [List.any_eq_true, beq_iff_eq] at h
    obtain ⟨y, hy, he⟩ := h
    unfold lookL
    induction l with
    | nil => cases hy
    | cons z l ih =>
      by_cases hz : kf z = kf x
      · simp [hz]
      · rcases List.mem_cons.1 hy with rfl | hy'
        · exact absurd he hz
        · have := ih hy'
          simp only [List.map_cons, hz, beq_iff_eq, if_false]
          rw [List.find?_cons_of_neg (by simpa using hz)]
          simpa using this
  · rename_i h
    simp only [List.any_eq_true, beq_iff_eq, not_exists, not_and] at h
    unfold lookL
    rw [List.find?_append, List.find?_eq_none.2 (by intro y hy; simpa using h y hy)]
    simp
theorem lookL_putL_other {l : List α} {x : α} {k : ByteArray} (hne : k ≠ kf x) : lookL kf (putL kf l x) k = lookL kf l k := by
  unfold putL
  split
  · unfold lookL
    induction l with
    | nil => rfl
    | cons z l ih =>
      rename_i h
      have ih' : List.find? (fun a => kf a == k) (List.map (fun y => if (kf y == kf x) = true then x else y) l) = List.find? (fun a => kf a == k) l := by
        clear h ih
        induction l with
        | nil => rfl
        | cons u l ih =>
          by_cases hu : kf u = kf x
          · simp only [List.map_cons, hu, beq_self_eq_true, if_true]
            rw [List.find?_cons_of_neg (by simpa using hne.symm), List.find?_cons_of_neg (by simpa [hu] using hne.symm)]
            exact ih
          · simp only [List.map_cons, hu, beq_iff_eq, if_false]
            by_cases huk : kf u = k
            · simp [huk]
            · rw [List.find?_cons_of_neg (by simpa using huk), List.find?_cons_of_neg (by simpa using huk)]
              simpa using ih
      by_cases hz : kf z = kf x
      · simp only [List.map_cons, hz, beq_self_eq_true, if_true]
        rw [List.find?_cons_of_neg (by simpa using hne.symm), List.find?_cons_of_neg (by simpa [hz] using hne.symm)]
        exact ih'
      · simp only [List.map_cons, hz, beq_iff_eq, if_false]
        by_cases hzk : kf z = k
        · simp [hzk]
        · rw [List.find?_cons_of_neg (by simpa using hzk), List.find?_cons_of_neg (by simpa using hzk)]
          simpa using ih'
  · unfold lookL
    rw [List.find?_append]
    have : List.find? (fun a => kf a == k) [x] = none := by simp [hne.symm]
    rw [this]; simp
theorem lookL_delL_other {l : List α} {s k : ByteArray} (hne : k ≠ s) (hd : (l.map kf).Nodup) : lookL kf (delL kf l s) k = lookL kf l k := by
  unfold delL
  rw [lookL_filter _ _ hd]
  cases h : lookL kf l k with
  | none => rfl
  | some x =>
    have := lookL_key h
    simp [Option.filter, this, hne]
theorem lookL_delL_same {l : List α} {s : ByteArray} : lookL kf (delL kf l s) s = none := by
  refine lookL_none.2 fun x hx => ?_
  have := (List.mem_filter.1 hx).2
  simpa using this

theorem putL_length {l : List α} {x : α} : (putL kf l x).length = if (lookL kf l (kf x)).isSome then l.length else l.length + 1 := by
  unfold putL lookL
  by_cases h : l.any (fun y => kf y == kf x) = true
  · have h' : ∃ y ∈ l, (kf y == kf x) = true := by simpa using h
    rw [if_pos h, if_pos (List.find?_isSome.2 h'), List.length_map]
  · have h' : ¬ ∃ y ∈ l, (kf y == kf x) = true := by simpa using h
    rw [if_neg h, if_neg (fun e => h' (List.find?_isSome.1 e)), List.length_append, List.length_singleton]
theorem putL_new {l : List α} {x : α} (h : lookL kf l (kf x) = none) : putL kf l x = l ++ [x] := by
  unfold putL
  rw [if_neg]
  simp only [List.any_eq_true, beq_iff_eq, not_exists, not_and]
  exact fun y hy => lookL_none.1 h y hy
end
end Go.Proofs.YtolidiafomceiaaGreatDoor
