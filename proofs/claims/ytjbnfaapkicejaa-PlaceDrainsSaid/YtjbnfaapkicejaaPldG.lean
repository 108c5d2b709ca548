/- Chapter 43: plain laws: what Check says; the best worker; what Add keeps. No condition. -/
import Derived.Test.YtjbnfaapkicejaaPldD
import Derived.Test.YtjbnfaapkicejaaPlcY
namespace Go.Proofs.Ytjbnfaapkicejaa
set_option linter.unusedVariables false
set_option linter.unusedSimpArgs false
open Go.RowKit
theorem first_iff {f : Nat → Int} {n : Nat} : firstE f n = 0 ↔ ∀ i, i < n → f i = 0 := by
  constructor
  · exact fun h i hi => first_zero h i hi
  · intro h
    induction n with
    | zero => rfl
    | succ n ih =>
      unfold firstE
      rw [if_pos (ih (fun i hi => h i (by omega)))]
      exact h n (by omega)
theorem wIdx_iff {l : List Wk} {s : ByteArray} : wIdx l s < 0 ↔ ∀ x ∈ l, x.name ≠ s := by
  have := idx_any (fun x : Wk => x.name == s) l
  unfold wIdx
  constructor
  · intro h x hx e
    rw [decide_eq_false (by omega)] at this
    have := List.any_eq_false.1 this.symm x hx
    exact this (by rw [e]; simp)
  · intro h
    have h2 : l.any (fun x => x.name == s) = false := List.any_eq_false.2 (fun x hx => by simpa using h x hx)
    rw [h2] at this
    have := of_decide_eq_false this
    omega
theorem plcB_iff {l : List Pl} {s : ByteArray} : plcB l s = false ↔ ∀ x ∈ l, x.id ≠ s := by
  unfold plcB pIdx
  rw [idx_any, List.any_eq_false]
  exact ⟨fun h x hx e => h x hx (by rw [e]; simp), fun h x hx => by simpa using h x hx⟩
theorem fresh_iff {l : List Pl} {q : Pl} : freshE l q = 0 ↔ idB q.id = true ∧ (∀ x ∈ l, x.id ≠ q.id) ∧ nameB q.tn = true ∧ memB q.mem = true := by
  rw [← plcB_iff]
  unfold freshE
  cases idB q.id <;> cases plcB l q.id <;> cases nameB q.tn <;> cases memB q.mem <;> simp
structure Valid (ws : List Wk) (l : List Pl) : Prop where
  w8 : ws.length ≤ 8
  wn : ∀ x ∈ ws, nameB x.name = true ∧ memB x.mem = true
  wd : ws.Pairwise (fun x y => x.name ≠ y.name)
  l256 : l.length ≤ 256
  lp : ∀ q ∈ l, idB q.id = true ∧ nameB q.tn = true ∧ memB q.mem = true ∧ ∃ x ∈ ws, x.name = q.wk
  ld : l.Pairwise (fun x y => x.id ≠ y.id)
  fr : ∀ x ∈ ws, 0 ≤ freeS x l
theorem take_mem {α : Type} {l : List α} {i : Nat} {x : α} (h : x ∈ l.take i) : ∃ j, ∃ (hj : j < l.length), j < i ∧ l[j] = x := by
  obtain ⟨j, hj, rfl⟩ := List.mem_iff_getElem.1 h
  rw [List.length_take] at hj
  exact ⟨j, by omega, by omega, by rw [List.getElem_take]⟩
theorem mem_take {α : Type} {l : List α} {i j : Nat} (hj : j < l.length) (h : j < i) : l[j] ∈ l.take i := by
  rw [List.mem_take_iff_getElem]
  exact ⟨j, by omega, rfl⟩
theorem wE_iff {ws : List Wk} : (∀ i, i < ws.length → wE ws i = 0) ↔ (∀ x ∈ ws, nameB x.name = true ∧ memB x.mem = true) ∧ ws.Pairwise (fun x y => x.name ≠ y.name) := by
  have key : ∀ i (hi : i < ws.length), wE ws i = 0 ↔ nameB ws[i].name = true ∧ (∀ x ∈ ws.take i, x.name ≠ ws[i].name) ∧ memB ws[i].mem = true := by
    intro i hi
    rw [← wIdx_iff]
    unfold wE
    rw [List.getElem?_eq_getElem hi]
    dsimp only
    by_cases h : 0 ≤ wIdx (ws.take i) ws[i].name
    · have h2 : ¬ wIdx (ws.take i) ws[i].name < 0 := by omega
      cases nameB ws[i].name <;> cases memB ws[i].mem <;> simp [h, h2]
    · have h2 : wIdx (ws.take i) ws[i].name < 0 := by omega
      cases nameB ws[i].name <;> cases memB ws[i].mem <;> simp [h, h2]
  rw [List.pairwise_iff_getElem]
  constructor
  · intro h
    refine ⟨fun x hx => ?_, fun i j hi hj hij e => ?_⟩
    · obtain ⟨i, hi, rfl⟩ := List.mem_iff_getElem.1 hx
      have := (key i hi).1 (h i hi)
      exact ⟨this.1, this.2.2⟩
    · exact ((key j hj).1 (h j hj)).2.1 ws[i] (mem_take hi hij) e
  · rintro ⟨h1, h2⟩ i hi
    refine (key i hi).2 ⟨(h1 _ (List.getElem_mem hi)).1, fun x hx => ?_, (h1 _ (List.getElem_mem hi)).2⟩
    obtain ⟨j, hj, hji, rfl⟩ := take_mem hx
    exact h2 j i hj hi hji
theorem pE_iff {ws : List Wk} {l : List Pl} : (∀ i, i < l.length → pE ws l i = 0) ↔ (∀ q ∈ l, idB q.id = true ∧ nameB q.tn = true ∧ memB q.mem = true ∧ ∃ x ∈ ws, x.name = q.wk) ∧ l.Pairwise (fun x y => x.id ≠ y.id) := by
  have key : ∀ i (hi : i < l.length), pE ws l i = 0 ↔ (idB l[i].id = true ∧ (∀ x ∈ l.take i, x.id ≠ l[i].id) ∧ nameB l[i].tn = true ∧ memB l[i].mem = true) ∧ ∃ x ∈ ws, x.name = l[i].wk := by
    intro i hi
    rw [← fresh_iff]
    have hw : (∃ x ∈ ws, x.name = l[i].wk) ↔ ¬ wIdx ws l[i].wk < 0 := by
      rw [wIdx_iff]
      exact ⟨fun ⟨x, hx, e⟩ h => h x hx e, fun h => Classical.byContradiction fun hn => h (fun x hx e => hn ⟨x, hx, e⟩)⟩
    rw [hw]
    unfold pE
    rw [List.getElem?_eq_getElem hi]
    dsimp only
    by_cases h : freshE (l.take i) l[i] = 0 <;> by_cases h2 : wIdx ws l[i].wk < 0 <;> simp [h, h2]
  rw [List.pairwise_iff_getElem]
  constructor
  · intro h
    refine ⟨fun x hx => ?_, fun i j hi hj hij e => ?_⟩
    · obtain ⟨i, hi, rfl⟩ := List.mem_iff_getElem.1 hx
      have := (key i hi).1 (h i hi)
      exact ⟨this.1.1, this.1.2.2.1, this.1.2.2.2, this.2⟩
    · exact ((key j hj).1 (h j hj)).1.2.1 l[i] (mem_take hi hij) e
  · rintro ⟨h1, h2⟩ i hi
    have hq := h1 _ (List.getElem_mem hi)
    refine (key i hi).2 ⟨⟨hq.1, fun x hx => ?_, hq.2.1, hq.2.2.1⟩, hq.2.2.2⟩
    obtain ⟨j, hj, hji, rfl⟩ := take_mem hx
    exact h2 j i hj hi hji
theorem check_iff {ws : List Wk} {l : List Pl} : checkP ws l = 0 ↔ Valid ws l := by
  constructor
  · intro h
    obtain ⟨z1, z2, z3, z4, z5⟩ := check_zero h
    unfold checkP at h
    rw [if_neg (by omega)] at h
    have h1 : firstE (wE ws) ws.length = 0 := by
      by_cases e : firstE (wE ws) ws.length = 0
      · exact e
      · rw [if_neg e] at h; exact absurd h e
    rw [if_pos h1, if_neg (by omega)] at h
    have h2 : firstE (pE ws l) l.length = 0 := by
      by_cases e : firstE (pE ws l) l.length = 0
      · exact e
      · rw [if_neg e] at h; exact absurd h e
    obtain ⟨a1, a2⟩ := wE_iff.1 (first_iff.1 h1)
    obtain ⟨b1, b2⟩ := pE_iff.1 (first_iff.1 h2)
    exact ⟨z1, a1, a2, z2, b1, b2, z5⟩
  · rintro ⟨z1, a1, a2, z2, b1, b2, z5⟩
    unfold checkP
    rw [if_neg (by omega), if_pos (first_iff.2 (wE_iff.2 ⟨a1, a2⟩)), if_neg (by omega), if_pos (first_iff.2 (pE_iff.2 ⟨b1, b2⟩)), if_neg]
    intro h
    obtain ⟨x, hx, hf⟩ := List.any_eq_true.1 h
    have := z5 x hx
    have := of_decide_eq_true hf
    omega
theorem Valid.name_inj {ws : List Wk} {l : List Pl} (h : Valid ws l) {i j : Nat} (hi : i < ws.length) (hj : j < ws.length) (e : ws[i].name = ws[j].name) : i = j := by
  have hp := List.pairwise_iff_getElem.1 h.wd
  rcases Nat.lt_trichotomy i j with h1 | h1 | h1
  · exact absurd e (hp i j hi hj h1)
  · exact h1
  · exact absurd e.symm (hp j i hj hi h1)
theorem Valid.free {ws : List Wk} {l : List Pl} (h : Valid ws l) {i : Nat} (hi : i < ws.length) : freeP ws l ws[i].name = (freeS ws[i] l, 0) := by
  unfold freeP
  rw [if_pos (check_iff.2 h)]
  rcases idx_find (fun x : Wk => x.name == ws[i].name) ws with ⟨hf, _⟩ | ⟨j, hj, hf, _⟩
  · have := List.find?_eq_none.1 hf ws[i] (List.getElem_mem hi)
    simp at this
  · rw [hf]
    have := List.find?_some hf
    have e := h.name_inj hj hi (eq_of_beq this)
    subst e
    rfl
/-- The best of the first k: none is possible, or one is and no possible one is better. -/
theorem bestAt_max {α : Type} {f : α → Bool} {g : α → α → Bool} {l : List α} (hirr : ∀ a, g a a = false) (htr : ∀ a b c, g a b = false → g c b = true → g a c = false) : ∀ k, k ≤ l.length →
    (bestAt f g l k = -1 ∧ ∀ j (hj : j < l.length), j < k → f l[j] = false) ∨ ∃ m, ∃ (hm : m < l.length), bestAt f g l k = (m : Int) ∧ f l[m] = true ∧ ∀ j (hj : j < l.length), j < k → f l[j] = true → g l[j] l[m] = false := by
  intro k
  induction k with
  | zero => intro _; exact .inl ⟨rfl, fun j _ hj => absurd hj (Nat.not_lt_zero j)⟩
  | succ k ih =>
    intro hk
    have hk' : k < l.length := by omega
    cases hf : f l[k] with
    | false =>
      rw [bestAt_no hk' hf]
      rcases ih (by omega) with ⟨h1, h2⟩ | ⟨m, hm, h1, h2, h3⟩
      · refine .inl ⟨h1, fun j hj hjk => ?_⟩
        rcases Nat.lt_or_ge j k with h | h
        · exact h2 j hj h
        · have : j = k := by omega
          subst this; exact hf
      · refine .inr ⟨m, hm, h1, h2, fun j hj hjk hfj => ?_⟩
        rcases Nat.lt_or_ge j k with h | h
        · exact h3 j hj h hfj
        · have : j = k := by omega
          subst this; rw [hf] at hfj; simp at hfj
    | true =>
      rcases ih (by omega) with ⟨h1, h2⟩ | ⟨m, hm, h1, h2, h3⟩
      · rw [bestAt_first hk' hf (by omega)]
        refine .inr ⟨k, hk', rfl, hf, fun j hj hjk hfj => ?_⟩
        rcases Nat.lt_or_ge j k with h | h
        · rw [h2 j hj h] at hfj; simp at hfj
        · have : j = k := by omega
          subst this; exact hirr _
      · rw [bestAt_more hk' hm hf h1]
        cases hg : g l[k] l[m] with
        | false =>
          refine .inr ⟨m, hm, by simp, h2, fun j hj hjk hfj => ?_⟩
          rcases Nat.lt_or_ge j k with h | h
          · exact h3 j hj h hfj
          · have : j = k := by omega
            subst this; exact hg
        | true =>
          refine .inr ⟨k, hk', by simp, hf, fun j hj hjk hfj => ?_⟩
          rcases Nat.lt_or_ge j k with h | h
          · exact htr _ _ _ (h3 j hj h hfj) hg
          · have : j = k := by omega
            subst this; exact hirr _
theorem bet_irr (l : List Pl) (q : Pl) (a : Wk) : betB l q a a = false := by rw [bet_cases]; simp
theorem bet_tr (l : List Pl) (q : Pl) (a b c : Wk) (h1 : betB l q a b = false) (h2 : betB l q c b = true) : betB l q a c = false := by
  rw [bet_cases] at *
  simp only [Bool.or_eq_false_iff, Bool.and_eq_false_iff, decide_eq_false_iff_not, Bool.or_eq_true, Bool.and_eq_true, decide_eq_true_eq] at *
  omega
/-- What a choice says. -/
theorem choose_ok {ws : List Wk} {l : List Pl} {q : Pl} (h : (chooseP ws l q).2 = 0) : ∃ m, ∃ (hm : m < ws.length), (chooseP ws l q).1 = ws[m].name ∧ possB ws[m] l q = true ∧ ∀ j (hj : j < ws.length), possB ws[j] l q = true → betB l q ws[j] ws[m] = false := by
  rcases bestAt_max (f := fun x => possB x l q) (g := betB l q) (l := ws) (bet_irr l q) (bet_tr l q) ws.length (Nat.le_refl _) with ⟨h1, _⟩ | ⟨m, hm, h1, h2, h3⟩
  · have : chooseP ws l q = (⟨#[]⟩, 17) := by unfold chooseP bestI; rw [if_pos (by rw [h1]; decide)]
    rw [this] at h
    exact absurd h (by decide)
  · refine ⟨m, hm, ?_, h2, fun j hj hp => h3 j hj hj hp⟩
    have : chooseP ws l q = (ws[m].name, 0) := by
      unfold chooseP bestI
      rw [h1, if_neg (by omega), Int.toNat_natCast, List.getElem?_eq_getElem hm]
    rw [this]
theorem choosex_ok {ws : List Wk} {l : List Pl} {q : Pl} (h : (choosePX ws l q).2 = 0) : Valid ws l ∧ freshE l q = 0 ∧ (chooseP ws l q).2 = 0 ∧ choosePX ws l q = chooseP ws l q := by
  unfold choosePX at h ⊢
  by_cases h1 : checkP ws l = 0
  · rw [if_pos h1] at h ⊢
    by_cases h2 : freshE l q = 0
    · rw [if_pos h2] at h ⊢
      exact ⟨check_iff.1 h1, h2, h, rfl⟩
    · rw [if_neg h2] at h; exact absurd h h2
  · rw [if_neg h1] at h; exact absurd h h1
theorem choosex_no {ws : List Wk} {l : List Pl} {q : Pl} (h : (choosePX ws l q).2 ≠ 0) : (choosePX ws l q).1 = ⟨#[]⟩ := by
  unfold choosePX at h ⊢
  split
  · split
    · rename_i h1 h2
      rw [if_pos h1, if_pos h2] at h
      unfold chooseP at h ⊢
      split
      · rfl
      · rename_i h3
        rw [if_neg h3] at h
        split
        · rename_i x hx
          rw [hx] at h
          exact absurd rfl h
        · rfl
    · rfl
  · rfl
theorem free_append (x : Wk) (l m : List Pl) : freeS x (l ++ m) = freeS x l - usedS m x.name := by
  rw [free_used, free_used, used_append]; omega
theorem used_one (p : Pl) (s : ByteArray) : usedS [p] s = if p.wk = s then p.mem else 0 := by
  unfold usedS
  by_cases h : p.wk = s <;> simp [h]
/-- A placement that was chosen fits. -/
theorem Valid.put {ws : List Wk} {l : List Pl} {q : Pl} (h : Valid ws l) (hf : freshE l q = 0) (hl : l.length < 256) {m : Nat} (hm : m < ws.length) (hp : possB ws[m] l q = true) : Valid ws (l ++ [withW q ws[m].name]) := by
  obtain ⟨f1, f2, f3, f4⟩ := fresh_iff.1 hf
  refine ⟨h.w8, h.wn, h.wd, by rw [List.length_append]; simp; omega, fun x hx => ?_, ?_, fun x hx => ?_⟩
  · rcases List.mem_append.1 hx with hx | hx
    · exact h.lp x hx
    · simp at hx
      subst hx
      exact ⟨f1, f3, f4, ws[m], List.getElem_mem hm, rfl⟩
  · rw [List.pairwise_append]
    refine ⟨h.ld, by simp, fun a ha b hb => ?_⟩
    simp at hb
    subst hb
    exact f2 a ha
  · rw [free_append, used_one]
    obtain ⟨i, hi, rfl⟩ := List.mem_iff_getElem.1 hx
    have h0 := h.fr _ (List.getElem_mem hi)
    split
    · rename_i e
      have e2 : m = i := h.name_inj hm hi e
      subst e2
      unfold possB at hp
      simp only [Bool.and_eq_true, decide_eq_true_eq] at hp
      have := hp.2
      show 0 ≤ freeS ws[m] l - q.mem
      omega
    · omega
end Go.Proofs.Ytjbnfaapkicejaa
