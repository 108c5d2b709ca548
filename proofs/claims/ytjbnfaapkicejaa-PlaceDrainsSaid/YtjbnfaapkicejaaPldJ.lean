/- Chapter 43: plain laws: what a drain keeps. No condition. -/
import Derived.Test.YtjbnfaapkicejaaPldG
import Derived.Test.YtjbnfaapkicejaaPlcR
namespace Go.Proofs.Ytjbnfaapkicejaa
set_option linter.unusedVariables false
set_option linter.unusedSimpArgs false
open Go.RowKit
structure Part (ws : List Wk) (s : ByteArray) (l : List Pl) : Prop where
  lp : ∀ q ∈ l, idB q.id = true ∧ nameB q.tn = true ∧ memB q.mem = true ∧ ∃ x ∈ ws, x.name = q.wk
  ld : l.Pairwise (fun x y => x.id ≠ y.id)
  fr : ∀ x ∈ ws, 0 ≤ freeS x l
  ne : ∀ q ∈ l, q.wk ≠ s
theorem move_ok {ws : List Wk} {s : ByteArray} (hwd : ∀ i j (hi : i < ws.length) (hj : j < ws.length), ws[i].name = ws[j].name → i = j) {m : Nat} (hm : m < ws.length) (hms : ws[m].name = s) (hmd : ws[m].dr = true) :
    ∀ (M S : List Pl), Part ws s S → (∀ q ∈ M, idB q.id = true ∧ nameB q.tn = true ∧ memB q.mem = true) → (S ++ M).Pairwise (fun x y => x.id ≠ y.id) → (moveGo ws S M).2 = 0 →
      (moveGo ws S M).1.length = S.length + M.length ∧ Part ws s (moveGo ws S M).1 := by
  intro M
  induction M with
  | nil => intro S hS _ _ _; exact ⟨rfl, hS⟩
  | cons p M ih =>
    intro S hS hM hp h
    rw [moveGo] at h ⊢
    by_cases hc : (chooseP ws S p).2 = 0
    · rw [if_pos hc] at h ⊢
      obtain ⟨j, hj, v1, v2, -⟩ := choose_ok hc
      obtain ⟨q1, q2, q3⟩ := hM p (by simp)
      unfold possB at v2
      simp only [Bool.and_eq_true, decide_eq_true_eq] at v2
      obtain ⟨v3, v4⟩ := v2
      have hjm : ws[j].name ≠ s := fun e => by
        have : j = m := hwd j m hj hm (by rw [e, hms])
        subst this
        rw [hmd] at v3
        simp at v3
      have hpw : (S ++ p :: M).Pairwise (fun x y => x.id ≠ y.id) := hp
      rw [List.pairwise_append] at hpw
      obtain ⟨p1, p2, p3⟩ := hpw
      rw [List.pairwise_cons] at p2
      have hS' : Part ws s (S ++ [withW p (chooseP ws S p).1]) := by
        rw [v1]
        refine ⟨fun x hx => ?_, ?_, fun x hx => ?_, fun x hx => ?_⟩
        · rcases List.mem_append.1 hx with hx | hx
          · exact hS.lp x hx
          · simp at hx; subst hx; exact ⟨q1, q2, q3, ws[j], List.getElem_mem hj, rfl⟩
        · rw [List.pairwise_append]
          refine ⟨hS.ld, by simp, fun a ha b hb => ?_⟩
          simp at hb; subst hb
          exact p3 a ha p (by simp)
        · rw [free_append, used_one]
          obtain ⟨i, hi, rfl⟩ := List.mem_iff_getElem.1 hx
          have h0 := hS.fr _ (List.getElem_mem hi)
          split
          · rename_i e
            have e2 : j = i := hwd j i hj hi e
            subst e2
            show 0 ≤ freeS ws[j] S - p.mem
            omega
          · omega
        · rcases List.mem_append.1 hx with hx | hx
          · exact hS.ne x hx
          · simp at hx; subst hx; exact hjm
      obtain ⟨r1, r2⟩ := ih _ hS' (fun q hq => hM q (by simp [hq])) (by
        rw [List.append_assoc]
        rw [List.pairwise_append]
        refine ⟨p1, ?_, fun a ha b hb => ?_⟩
        · rw [List.singleton_append, List.pairwise_cons]
          exact ⟨fun a ha => p2.1 a ha, p2.2⟩
        · simp at hb
          rcases hb with rfl | hb
          · exact p3 a ha p (by simp)
          · exact p3 a ha b (by simp [hb])) h
      refine ⟨?_, r2⟩
      rw [r1, List.length_append]
      simp
      omega
    · rw [if_neg hc] at h
      exact absurd h hc
theorem used_filter (l : List Pl) (f : Pl → Bool) (s : ByteArray) (hm : ∀ q ∈ l, memB q.mem = true) : usedS (l.filter f) s ≤ usedS l s := by
  induction l with
  | nil => exact Int.le_refl _
  | cons q l ih =>
    have h1 := ih (fun x hx => hm x (by simp [hx]))
    have h2 := hm q (by simp)
    unfold memB at h2
    simp only [Bool.and_eq_true, decide_eq_true_eq] at h2
    have e1 : usedS (q :: l) s = usedS [q] s + usedS l s := used_append [q] l s
    rw [List.filter_cons]
    split
    · have e2 : usedS (q :: l.filter f) s = usedS [q] s + usedS (l.filter f) s := used_append [q] _ s
      omega
    · rw [e1, used_one]
      split <;> omega
theorem used_none {l : List Pl} {s : ByteArray} (h : ∀ q ∈ l, q.wk ≠ s) : usedS l s = 0 := by
  induction l with
  | nil => rfl
  | cons q l ih =>
    have e1 : usedS (q :: l) s = usedS [q] s + usedS l s := used_append [q] l s
    rw [e1, ih (fun x hx => h x (by simp [hx])), used_one, if_neg (h q (by simp))]
    rfl
theorem perm_pair {l : List Pl} {f : Pl → Bool} (h : l.Pairwise (fun x y => x.id ≠ y.id)) : (l.filter (fun y => !f y) ++ l.filter f).Pairwise (fun x y => x.id ≠ y.id) := by
  rw [List.pairwise_append]
  refine ⟨h.sublist List.filter_sublist, h.sublist List.filter_sublist, fun a ha b hb e => ?_⟩
  obtain ⟨a1, a2⟩ := List.mem_filter.1 ha
  obtain ⟨b1, b2⟩ := List.mem_filter.1 hb
  obtain ⟨i, hi, rfl⟩ := List.mem_iff_getElem.1 a1
  obtain ⟨j, hj, rfl⟩ := List.mem_iff_getElem.1 b1
  have hp := List.pairwise_iff_getElem.1 h
  rcases Nat.lt_trichotomy i j with h1 | h1 | h1
  · exact hp i j hi hj h1 e
  · subst h1; rw [b2] at a2; simp at a2
  · exact hp j i hj hi h1 e.symm
theorem filter_len (l : List Pl) (f : Pl → Bool) : (l.filter (fun y => !f y)).length + (l.filter f).length = l.length := by
  induction l with
  | nil => rfl
  | cons q l ih =>
    rw [List.filter_cons, List.filter_cons]
    cases hq : f q <;> simp <;> omega
theorem drain_ok {ws : List Wk} {l : List Pl} {s : ByteArray} (h : (drainP ws l s).2.2 = 0) : Valid (drainP ws l s).1 (drainP ws l s).2.1 ∧ (drainP ws l s).1.length = ws.length ∧ (drainP ws l s).2.1.length = l.length ∧ (∀ q ∈ (drainP ws l s).2.1, q.wk ≠ s) ∧
    ∃ m, ∃ (hm : m < ws.length), (∀ i (hi : i < ws.length), ws[i].name = s → i = m) ∧ freeP (drainP ws l s).1 (drainP ws l s).2.1 s = (ws[m].mem, 0) := by
  unfold drainP at h ⊢
  by_cases hck : checkP ws l = 0
  case neg => rw [if_neg hck] at h; exact absurd h hck
  rw [if_pos hck] at h ⊢
  have V := check_iff.1 hck
  rcases idx_find (fun x : Wk => x.name == s) ws with ⟨_, hi⟩ | ⟨m, hm, hfd, hi⟩
  · rw [if_pos (by unfold wIdx; rw [hi]; decide)] at h
    exact absurd h (by decide)
  have hidx : wIdx ws s = (m : Int) := hi
  have hfd2 := List.find?_some hfd
  have hnm : ws[m].name = s := eq_of_beq hfd2
  rw [hidx, if_neg (by omega), Int.toNat_natCast] at h ⊢
  by_cases hgo : (moveGo (offW ws m) (stays s l) (moves s l)).2 = 0
  case neg => rw [if_neg hgo] at h; exact absurd h hgo
  rw [if_pos hgo]
  have hoff : offW ws m = ws.set m { ws[m] with dr := true } := by unfold offW; rw [List.getElem?_eq_getElem hm]
  have hlen : (offW ws m).length = ws.length := offW_len ws m
  have hget : ∀ i (hi : i < ws.length), ∃ (hi' : i < (offW ws m).length), (offW ws m)[i].name = ws[i].name ∧ (offW ws m)[i].mem = ws[i].mem ∧ (i = m → (offW ws m)[i].dr = true) := by
    intro i hi
    refine ⟨by omega, ?_⟩
    have e : (offW ws m)[i]? = (ws.set m { ws[m] with dr := true })[i]? := by rw [hoff]
    rw [List.getElem?_eq_getElem (by omega)] at e
    by_cases him : i = m
    · subst him
      rw [List.getElem?_set_self hm, Option.some.injEq] at e
      rw [e]
      exact ⟨rfl, rfl, fun _ => rfl⟩
    · rw [List.getElem?_set_ne (Ne.symm him), List.getElem?_eq_getElem hi, Option.some.injEq] at e
      rw [e]
      exact ⟨rfl, rfl, fun h => absurd h him⟩
  have hinj : ∀ i j (hi : i < (offW ws m).length) (hj : j < (offW ws m).length), (offW ws m)[i].name = (offW ws m)[j].name → i = j := by
    intro i j hi hj e
    obtain ⟨_, a1, _⟩ := hget i (by omega)
    obtain ⟨_, a2, _⟩ := hget j (by omega)
    exact V.name_inj (by omega) (by omega) (by rw [← a1, ← a2, e])
  have hmem : ∀ x ∈ offW ws m, ∃ y ∈ ws, x.name = y.name ∧ x.mem = y.mem := by
    intro x hx
    obtain ⟨i, hi, rfl⟩ := List.mem_iff_getElem.1 hx
    obtain ⟨_, a1, a2, _⟩ := hget i (by omega)
    exact ⟨ws[i], List.getElem_mem (by omega), a1, a2⟩
  have hmem2 : ∀ y ∈ ws, ∃ x ∈ offW ws m, x.name = y.name := by
    intro y hy
    obtain ⟨i, hi, rfl⟩ := List.mem_iff_getElem.1 hy
    obtain ⟨h1, a1, _, _⟩ := hget i hi
    exact ⟨_, List.getElem_mem h1, a1⟩
  obtain ⟨hm', b1, b2, b3⟩ := hget m hm
  have hmm := fun q hq => (V.lp q hq).2.2.1
  obtain ⟨r1, r2⟩ := move_ok (s := s) hinj hm' (by rw [b1, hnm]) (b3 rfl) (moves s l) (stays s l)
    ⟨fun q hq => by
      obtain ⟨c1, c2, c3, y, hy, c4⟩ := V.lp q (List.mem_filter.1 hq).1
      obtain ⟨x, hx, c5⟩ := hmem2 y hy
      exact ⟨c1, c2, c3, x, hx, by rw [c5, c4]⟩,
     V.ld.sublist List.filter_sublist,
     fun x hx => by
      obtain ⟨y, hy, c1, c2⟩ := hmem x hx
      have h0 := V.fr y hy
      rw [free_used] at h0 ⊢
      have := used_filter l (fun y => !(y.wk == s)) y.name hmm
      rw [c1, c2]
      unfold stays
      omega,
     fun q hq => by simpa using (List.mem_filter.1 hq).2⟩
    (fun q hq => by
      obtain ⟨c1, c2, c3, _⟩ := V.lp q (List.mem_filter.1 hq).1
      exact ⟨c1, c2, c3⟩)
    (perm_pair V.ld) hgo
  have hl : (moveGo (offW ws m) (stays s l) (moves s l)).1.length = l.length := by rw [r1]; exact filter_len l _
  have VR : Valid (offW ws m) (moveGo (offW ws m) (stays s l) (moves s l)).1 := by
    refine ⟨by rw [hlen]; exact V.w8, fun x hx => ?_, ?_, by rw [hl]; exact V.l256, r2.lp, r2.ld, r2.fr⟩
    · obtain ⟨y, hy, c1, c2⟩ := hmem x hx
      rw [c1, c2]
      exact V.wn y hy
    · rw [List.pairwise_iff_getElem]
      intro i j hi hj hij e
      have := hinj i j hi hj e
      omega
  refine ⟨VR, hlen, hl, r2.ne, m, hm, fun i hi e => V.name_inj hi hm (by rw [e, hnm]), ?_⟩
  have := VR.free hm'
  rw [b1, hnm] at this
  rw [this, free_used, b1, b2, hnm, used_none r2.ne, Int.sub_zero]
theorem Valid.goods {ws : List Wk} {l : List Pl} (h : Valid ws l) : (∀ x ∈ ws, x.good) ∧ ∀ q ∈ l, q.good := by
  have hn : ∀ s, nameB s = true → s.size ≤ maxLen := fun s hs => by
    unfold nameB at hs
    simp only [Bool.and_eq_true, decide_eq_true_eq] at hs
    unfold maxLen
    omega
  have hi : ∀ s, idB s = true → s.size ≤ maxLen := fun s hs => by
    unfold idB at hs
    simp only [Bool.and_eq_true, decide_eq_true_eq] at hs
    unfold maxLen
    omega
  have hm : ∀ n, memB n = true → (Lit.int .i64 n).wf = true := fun n hn => by
    unfold memB at hn
    simp only [Bool.and_eq_true, decide_eq_true_eq] at hn
    exact WalkArith.wf_i64 (by omega)
  refine ⟨fun x hx => ⟨hn _ (h.wn x hx).1, hm _ (h.wn x hx).2⟩, fun q hq => ?_⟩
  obtain ⟨c1, c2, c3, x, hx, c4⟩ := h.lp q hq
  exact ⟨hi _ c1, hn _ c2, hm _ c3, by rw [← c4]; exact hn _ (h.wn x hx).1⟩
end Go.Proofs.Ytjbnfaapkicejaa
