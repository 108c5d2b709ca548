/- Chapter 22: plain laws: the program's secrets and the reference's are the same. No program in sight. -/
import Derived.Test.YtldilefhmpipkaaSedD
import Derived.Test.YtldilefhmpipkaaSecU
namespace Go.Proofs.Ytldilefhmpipkaa
set_option linter.unusedVariables false
set_option linter.unusedSimpArgs false

abbrev Asc (l : List Bs) : Prop := l.Pairwise (· < ·)
theorem posOf_nil (a : Bs) : posOf [] a = 0 := rfl
theorem posOf_cons (z : Bs) (l : List Bs) (a : Bs) : posOf (z :: l) a = if z < a then posOf l a + 1 else 0 := by
  unfold posOf
  rw [List.takeWhile_cons]
  by_cases h : z < a <;> simp [h]
theorem pos_take (l : List Bs) (a : Bs) : ∀ y ∈ l.take (posOf l a), y < a := by
  induction l with
  | nil => simp
  | cons z l ih =>
    rw [posOf_cons]
    by_cases h : z < a
    · rw [if_pos h, List.take_succ_cons]
      intro y hy
      rcases List.mem_cons.1 hy with rfl | hy
      · exact h
      · exact ih y hy
    · rw [if_neg h]; simp
theorem pos_drop {l : List Bs} (hs : Asc l) (a : Bs) : ∀ y ∈ l.drop (posOf l a), ¬ y < a := by
  induction l with
  | nil => simp
  | cons z l ih =>
    obtain ⟨h1, h2⟩ := List.pairwise_cons.1 hs
    rw [posOf_cons]
    by_cases h : z < a
    · rw [if_pos h, List.drop_succ_cons]; exact ih h2
    · rw [if_neg h, List.drop_zero]
      intro y hy hya
      rcases List.mem_cons.1 hy with rfl | hy
      · exact h hya
      · exact h (List.lt_trans (h1 y hy) hya)
theorem found_iff {l : List Bs} (hs : Asc l) (a : Bs) : foundAt l a = true ↔ a ∈ l := by
  unfold foundAt
  rw [beq_iff_eq]
  refine ⟨fun h => List.mem_of_getElem? h, fun h => ?_⟩
  have hm : a ∈ l.take (posOf l a) ++ l.drop (posOf l a) := by rw [List.take_append_drop]; exact h
  rcases List.mem_append.1 hm with h1 | h1
  · exact absurd (pos_take l a a h1) (List.lt_irrefl a)
  · cases hd : l.drop (posOf l a) with
    | nil => rw [hd] at h1; cases h1
    | cons z r =>
      have hz : l[posOf l a]? = some z := by
        have := congrArg List.head? hd
        simpa [List.head?_drop] using this
      rw [hz]
      have hza := pos_drop hs a z (by rw [hd]; simp)
      rw [hd] at h1
      rcases List.mem_cons.1 h1 with e | e
      · rw [e]
      · have : Asc (z :: r) := hd ▸ (hs.sublist (List.drop_sublist _ _))
        exact absurd ((List.pairwise_cons.1 this).1 a e) hza
theorem ins_sorted {l : List Bs} (hs : Asc l) {a : Bs} (hn : a ∉ l) : Asc (l.take (posOf l a) ++ [a] ++ l.drop (posOf l a)) := by
  have h0 : Asc (l.take (posOf l a) ++ l.drop (posOf l a)) := by rw [List.take_append_drop]; exact hs
  obtain ⟨h1, h2, h3⟩ := List.pairwise_append.1 h0
  have ht := pos_take l a
  have hd := pos_drop hs a
  have hgt : ∀ y ∈ l.drop (posOf l a), a < y := fun y hy => blt_of (hd y hy) (fun e => hn (e ▸ List.mem_of_mem_drop hy))
  rw [List.append_assoc]
  refine List.pairwise_append.2 ⟨h1, List.pairwise_cons.2 ⟨hgt, h2⟩, ?_⟩
  intro x hx y hy
  rcases List.mem_cons.1 hy with rfl | hy
  · exact ht x hx
  · exact h3 x hx y hy
theorem mem_ins {l : List Bs} {a y : Bs} : y ∈ insAt l a ↔ y = a ∨ y ∈ l := by
  unfold insAt
  have : y ∈ l ↔ y ∈ l.take (posOf l a) ++ l.drop (posOf l a) := by rw [List.take_append_drop]
  rw [this]
  simp only [List.mem_append, List.mem_singleton]
  constructor
  · rintro ((h | h) | h)
    · exact .inr (.inl h)
    · exact .inl h
    · exact .inr (.inr h)
  · rintro (h | h | h)
    · exact .inl (.inr h)
    · exact .inl (.inl h)
    · exact .inr h
theorem len_ins (l : List Bs) (a : Bs) : (insAt l a).length = l.length + 1 := by
  have := posOf_le l a
  unfold insAt
  simp; omega
theorem del_split {l : List Bs} {a : Bs} (hf : foundAt l a = true) : l = l.take (posOf l a) ++ a :: l.drop (posOf l a + 1) := by
  unfold foundAt at hf
  rw [beq_iff_eq] at hf
  obtain ⟨h1, h2⟩ := List.getElem?_eq_some_iff.1 hf
  have := List.drop_eq_getElem_cons h1
  rw [h2] at this
  rw [← this, List.take_append_drop]
theorem mem_del {l : List Bs} (hs : Asc l) {a : Bs} (hf : foundAt l a = true) {y : Bs} : y ∈ delAt l a ↔ y ∈ l ∧ y ≠ a := by
  have hsp := del_split hf
  unfold delAt
  rw [hsp] at hs
  obtain ⟨h1, h2, h3⟩ := List.pairwise_append.1 hs
  have h4 := (List.pairwise_cons.1 h2).1
  have hm : y ∈ l ↔ y ∈ l.take (posOf l a) ∨ y = a ∨ y ∈ l.drop (posOf l a + 1) := by
    rw [show (y ∈ l) = (y ∈ l.take (posOf l a) ++ a :: l.drop (posOf l a + 1)) from by rw [← hsp]]
    simp
  rw [hm, List.mem_append]
  constructor
  · rintro (h | h)
    · exact ⟨.inl h, fun e => List.lt_irrefl a (e ▸ h3 y h a (by simp))⟩
    · exact ⟨.inr (.inr h), fun e => List.lt_irrefl a (e ▸ h4 y h)⟩
  · rintro ⟨h | h | h, hne⟩
    · exact .inl h
    · exact absurd h hne
    · exact .inr h
theorem del_sorted {l : List Bs} (hs : Asc l) {a : Bs} (hf : foundAt l a = true) : Asc (delAt l a) ∧ (delAt l a).length + 1 = l.length := by
  have hsp := del_split hf
  have hsub : (delAt l a).Sublist (l.take (posOf l a) ++ a :: l.drop (posOf l a + 1)) := by
    unfold delAt
    exact List.Sublist.append_left (List.sublist_cons_self _ _) _
  refine ⟨(hsp ▸ hs : Asc (l.take (posOf l a) ++ a :: l.drop (posOf l a + 1))).sublist hsub, ?_⟩
  have := congrArg List.length hsp
  unfold delAt
  rw [List.length_append, List.length_cons] at this
  rw [List.length_append]; omega

/-! the reference's list -/
theorem rlk_mem {M : List R0} {k : ByteArray} {y : R0} (h : rlk M k = some y) : y ∈ M ∧ y.name = k := by
  unfold rlk at h
  split at h
  · rename_i hf
    obtain ⟨hp, hn⟩ := foundR_lt hf
    rw [List.getElem?_eq_getElem hp] at h
    cases h
    exact ⟨List.getElem_mem hp, hn⟩
  · cases h
theorem rlk_some {M : List R0} (hs : Asc (rnms M)) {k : ByteArray} {y : R0} (hy : y ∈ M) (hn : y.name = k) : foundR M k = true ∧ ∃ z, rlk M k = some z := by
  have hf : foundR M k = true := (found_iff hs _).2 (List.mem_map.2 ⟨y, hy, by rw [hn]⟩)
  refine ⟨hf, ?_⟩
  obtain ⟨hp, _⟩ := foundR_lt hf
  unfold rlk
  rw [if_pos hf, List.getElem?_eq_getElem hp]
  exact ⟨_, rfl⟩
theorem asc_nodup {l : List Bs} (h : Asc l) : l.Nodup := h.imp (fun {a b} h e => by subst e; exact List.lt_irrefl a h)
theorem rname_eq {M : List R0} (hs : Asc (rnms M)) {x y : R0} (hx : x ∈ M) (hy : y ∈ M) (hn : x.name = y.name) : x = y := by
  have := asc_nodup hs
  unfold rnms at this
  obtain ⟨i, hi, rfl⟩ := List.mem_iff_getElem.1 hx
  obtain ⟨j, hj, rfl⟩ := List.mem_iff_getElem.1 hy
  have h2 := List.pairwise_iff_getElem.1 this
  rcases Nat.lt_trichotomy i j with h | h | h
  · exact (h2 i j (by simpa using hi) (by simpa using hj) h (by simp [hn])).elim
  · subst h; rfl
  · exact (h2 j i (by simpa using hj) (by simpa using hi) h (by simp [hn])).elim
theorem rlk_iff {M : List R0} (hs : Asc (rnms M)) {k : ByteArray} {y : R0} : rlk M k = some y ↔ y ∈ M ∧ y.name = k := by
  refine ⟨rlk_mem, fun ⟨h1, h2⟩ => ?_⟩
  obtain ⟨_, z, hz⟩ := rlk_some hs h1 h2
  obtain ⟨h3, h4⟩ := rlk_mem hz
  rw [hz, rname_eq hs h3 h1 (h4.trans h2.symm)]
theorem foundR_iff (M : List R0) (k : ByteArray) : foundR M k = (rlk M k).isSome := by
  unfold rlk
  cases hf : foundR M k
  · rfl
  · obtain ⟨hp, _⟩ := foundR_lt hf
    rw [if_pos rfl, List.getElem?_eq_getElem hp]; rfl
theorem updR_all {M : List R0} (hs : Asc (rnms M)) {k : ByteArray} {y : R0} (hy : rlk M k = some y) (f : R0 → R0) (hf : (f y).name = y.name) :
    rnms (updR M k f) = rnms M ∧ (updR M k f).length = M.length ∧ f y ∈ updR M k f ∧ (∀ z ∈ M, z.name ≠ k → z ∈ updR M k f) ∧ ∀ z ∈ updR M k f, z = f y ∨ (z ∈ M ∧ z.name ≠ k) := by
  have hfo : foundR M k = true := by rw [foundR_iff, hy]; rfl
  obtain ⟨hp, hn⟩ := foundR_lt hfo
  have hg : M[posR M k]? = some M[posR M k] := List.getElem?_eq_getElem hp
  have he : M[posR M k] = y := by
    unfold rlk at hy
    rw [if_pos hfo, hg] at hy
    exact Option.some.inj hy
  have hu : updR M k f = M.set (posR M k) (f y) := by unfold updR; rw [hg, ← he]
  rw [hu]
  refine ⟨?_, List.length_set, List.mem_set hp _, fun z hz hne => ?_, fun z hz => ?_⟩
  · unfold rnms
    rw [List.map_set, hf, ← he]
    have hl : posR M k < (M.map fun x => byt x.name).length := by rw [List.length_map]; exact hp
    have := List.set_getElem_self hl
    rw [List.getElem_map] at this
    exact this
  · obtain ⟨i, hi, rfl⟩ := List.mem_iff_getElem.1 hz
    have hne2 : posR M k ≠ i := fun e => hne (by subst e; exact hn)
    exact List.mem_iff_getElem.2 ⟨i, by simpa using hi, by rw [List.getElem_set_ne hne2]⟩
  · obtain ⟨i, hi, rfl⟩ := List.mem_iff_getElem.1 hz
    by_cases e : posR M k = i
    · subst e; left; simp
    · right
      rw [List.getElem_set_ne e]
      have hi2 : i < M.length := by simpa using hi
      refine ⟨List.getElem_mem hi2, fun hk => e ?_⟩
      have h2 := List.pairwise_iff_getElem.1 (asc_nodup hs)
      unfold rnms at h2
      rcases Nat.lt_trichotomy (posR M k) i with h | h | h
      · exact (h2 _ i (by simpa using hp) (by simpa using hi2) h (by simp [hn, hk])).elim
      · exact h
      · exact (h2 i _ (by simpa using hi2) (by simpa using hp) h (by simp [hn, hk])).elim
end Go.Proofs.Ytldilefhmpipkaa
