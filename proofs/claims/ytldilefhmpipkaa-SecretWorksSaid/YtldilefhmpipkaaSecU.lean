/- Chapter 22: SecretScopes: a function reads a secret exactly while it is bound to it. No condition. -/
import Derived.Test.YtldilefhmpipkaaSecT
import Derived.Test.YtldilefhmpipkaaLex
namespace Go.Proofs.Ytldilefhmpipkaa
set_option linter.unusedVariables false
set_option linter.unusedSimpArgs false
open Go.RowKit

theorem nameB_size {s : ByteArray} (h : nameB s = true) : s.size ≤ 24 := by
  unfold nameB at h
  simp only [Bool.and_eq_true, decide_eq_true_eq] at h
  exact h.2
/-- Names and bindings are names. -/
def NOk (L : List S0) : Prop := ∀ x ∈ L, nameB x.name = true ∧ ∀ f ∈ x.bound, nameB f = true
theorem NOk.step {L : List S0} (hk : SOk L) (h : NOk L) (o : OpD) : NOk (stepS L o) := by
  unfold stepS
  split
  · unfold putS
    split
    · rename_i hz
      obtain ⟨h1, _⟩ := putE_zero hz
      intro x hx
      rcases List.mem_append.1 hx with hx | hx
      · exact h x hx
      · simp at hx; subst hx; exact ⟨h1, by simp [newS0]⟩
    · exact h
  · split
    · unfold bindS
      split
      · rename_i hz
        obtain ⟨x, h1, h2, _⟩ := bindE_zero hz
        intro y hy
        rcases upd_mem hk.nd h1 _ hy with rfl | ⟨hy, _⟩
        · refine ⟨(h x (look_mem h1)).1, fun f hf => ?_⟩
          rcases List.mem_append.1 hf with hf | hf
          · exact (h x (look_mem h1)).2 f hf
          · simp at hf; subst hf; exact h2
        · exact h y hy
      · exact h
    · split
      · unfold unbindS
        split
        · rename_i hz
          obtain ⟨x, h1, _⟩ := unbindE_zero hz
          intro y hy
          rcases upd_mem hk.nd h1 _ hy with rfl | ⟨hy, _⟩
          · refine ⟨(h x (look_mem h1)).1, fun f hf => (h x (look_mem h1)).2 f ?_⟩
            exact (List.mem_filter.1 hf).1
          · exact h y hy
        · exact h
      · split
        · unfold rotS
          split
          · rename_i hz
            obtain ⟨x, h1, _⟩ := rotE_zero hz
            intro y hy
            rcases upd_mem hk.nd h1 _ hy with rfl | ⟨hy, _⟩
            · exact h x (look_mem h1)
            · exact h y hy
          · exact h
        · exact h
theorem play_nok (l : List OpD) : NOk (playS l) := by
  have : ∀ (l : List OpD) (L : List S0), SOk L → NOk L → NOk (l.foldl stepS L) := by
    intro l
    induction l with
    | nil => intro L _ h; exact h
    | cons x l ih => intro L hk h; exact ih _ (hk.step x) (h.step hk x)
  exact this l [] SOk.nil (by intro x hx; cases hx)

theorem onames {W w : World} {vb : Nat} {L : List S0} (h : OwnC W w vb L) (hk : SOk L) (hn : NOk L) (fn : ByteArray) : Calls Try.prog 26 #[.pointer (some ⟨vb, 0, none⟩), .string fn] w fun e w' => ∃ v, e = .returned v ∧ RowOf kc 1 w' w.heap.size 9 v (namesS L fn) ∧ OwnC W w' vb L := by
  obtain ⟨⟨mb, l, rfl, h2, h3⟩, h4⟩ := h
  refine (names_any vb mb l fn w h2 (fun x hx => Nat.le_trans (nameB_size (hn _ (mem_s hx)).1) (by unfold maxLen; omega)) hk.secs.1).mono ?_
  rintro e w' ⟨v, rfl, hr, hc⟩
  exact ⟨v, rfl, hr, OwnC.keptN ⟨⟨mb, l, rfl, h2, h3⟩, h4⟩ hc⟩

theorem byt_inj {a b : ByteArray} (h : byt a = byt b) : a = b := bs_inj h
theorem names_nodup {L : List S0} (hk : SOk L) : (L.map fun x => byt x.name).Nodup := by
  have := hk.nd
  have e : (L.map fun x => byt x.name) = (L.map S0.name).map byt := by rw [List.map_map]; rfl
  rw [e]
  exact List.Pairwise.map _ (fun a b hab e => hab (byt_inj e)) this
theorem namesS_sorted {L : List S0} (hk : SOk L) (fn : ByteArray) : (namesS L fn).Pairwise (· < ·) := (leB_strict (names_nodup hk)).filter _
theorem namesS_mem {L : List S0} (fn name : ByteArray) : byt name ∈ namesS L fn ↔ ∃ x, look L name = some x ∧ hasB x fn = true := by
  unfold namesS
  rw [List.mem_filter, (List.mergeSort_perm _ _).mem_iff]
  unfold keepL
  rw [mk_byt]
  constructor
  · rintro ⟨_, h⟩
    cases hl : look L name with
    | none => rw [hl] at h; cases h
    | some x => rw [hl] at h; exact ⟨x, rfl, h⟩
  · rintro ⟨x, h1, h2⟩
    rw [h1]
    exact ⟨List.mem_map.2 ⟨x, look_mem h1, by rw [look_key h1]⟩, h2⟩
theorem namesS_len {L : List S0} (hk : SOk L) (fn : ByteArray) : (namesS L fn).length ≤ 256 := by
  unfold namesS
  have := List.length_filter_le (keepL L fn) ((L.map fun x => byt x.name).mergeSort leB)
  have h2 := hk.len
  simp at this; omega

/-- The answers of the calls of the law, in all the cases that there are. -/
theorem scopes_law {L : List S0} (hk : SOk L) (hn : NOk L) (name fn : ByteArray) :
    ∃ t v e f t' v' g h t'' v'' i b, readS L name fn = (t, v, e) ∧ bindE L name fn = f ∧ readS (bindS L name fn) name fn = (t', v', g) ∧ unbindE (bindS L name fn) name fn = h ∧ readS (unbindS (bindS L name fn) name fn) name fn = (t'', v'', i) ∧ (namesS L fn).contains (byt name) = b ∧
      ((e = 5 ∧ f = 5 ∧ g = 5 ∧ h = 5 ∧ i = 5 ∧ b = false) ∨ (e = 0 ∧ f = 6 ∧ g = 0 ∧ h = 0 ∧ i = 12 ∧ b = true) ∨ (e = 12 ∧ f = 4 ∧ g = 12 ∧ h = 5 ∧ i = 12 ∧ b = false) ∨ (e = 12 ∧ f = 3 ∧ g = 12 ∧ h = 5 ∧ i = 12 ∧ b = false) ∨ (e = 12 ∧ f = 0 ∧ g = 0 ∧ h = 0 ∧ i = 12 ∧ b = false)) := by
  have hb : ∀ b : Bool, ((∃ x, look L name = some x ∧ hasB x fn = true) ↔ b = true) → (namesS L fn).contains (byt name) = b := fun b hb => by
    rw [Bool.eq_iff_iff, List.contains_iff_mem, namesS_mem, hb]
  have hgone : ∀ (M : List S0) (x : S0), SOk M → look M name = some x → hasB x fn = true → (readS (unbindS M name fn) name fn).2.2 = 12 ∧ unbindE M name fn = 0 := by
    intro M x hM hx hb
    have hz : unbindE M name fn = 0 := by unfold unbindE; rw [hx]; simp [hb]
    refine ⟨?_, hz⟩
    unfold unbindS
    rw [if_pos hz]
    unfold readS
    rw [look_upd_same hM.nd hx (fun y => { y with bound := delL id y.bound fn }) (fun _ => rfl)]
    have : hasB { x with bound := delL id x.bound fn } fn = false := by
      rw [← Bool.not_eq_true, hasB_iff]
      intro h
      have := (List.mem_filter.1 h).2
      simp at this
    simp only [this]
    rfl
  cases hl : look L name with
  | none =>
    have e1 : readS L name fn = (em, 0, 5) := by unfold readS; rw [hl]
    have e2 : bindE L name fn = 5 := by unfold bindE; rw [hl]
    have e3 : bindS L name fn = L := by unfold bindS; rw [e2]; rfl
    have e4 : unbindE L name fn = 5 := by unfold unbindE; rw [hl]
    have e5 : unbindS L name fn = L := by unfold unbindS; rw [e4]; rfl
    refine ⟨em, 0, 5, 5, em, 0, 5, 5, em, 0, 5, false, e1, e2, by rw [e3]; exact e1, by rw [e3]; exact e4, by rw [e3, e5]; exact e1, hb false (by simp [hl]), .inl ⟨rfl, rfl, rfl, rfl, rfl, rfl⟩⟩
  | some x =>
    cases hh : hasB x fn with
    | true =>
      have hnm := (hn x (look_mem hl)).2 fn (hasB_iff.1 hh)
      have e1 : readS L name fn = (x.text, x.ver, 0) := by unfold readS; rw [hl]; simp [hh]
      have e2 : bindE L name fn = 6 := by unfold bindE; rw [hl]; simp [hh, hnm]
      have e3 : bindS L name fn = L := by unfold bindS; rw [e2]; rfl
      obtain ⟨e5, e4⟩ := hgone L x hk hl hh
      obtain ⟨⟨t2, v2, i2⟩, h2⟩ : ∃ r, r = readS (unbindS L name fn) name fn := ⟨_, rfl⟩
      rw [← h2] at e5
      exact ⟨x.text, x.ver, 0, 6, x.text, x.ver, 0, 0, t2, v2, i2, true, e1, e2, by rw [e3]; exact e1, by rw [e3]; exact e4, by rw [e3]; exact h2.symm, hb true (by simp [hl, hh]), .inr (.inl ⟨rfl, rfl, rfl, rfl, e5, rfl⟩)⟩
    | false =>
      have e1 : readS L name fn = (em, 0, 12) := by unfold readS; rw [hl]; simp [hh]
      have hbb := hb false (by simp [hl, hh])
      have e4 : unbindE L name fn = 5 := by unfold unbindE; rw [hl]; simp [hh]
      have e5 : unbindS L name fn = L := by unfold unbindS; rw [e4]; rfl
      cases hnm : nameB fn with
      | false =>
        have e2 : bindE L name fn = 4 := by unfold bindE; rw [hl]; simp [hnm]
        have e3 : bindS L name fn = L := by unfold bindS; rw [e2]; rfl
        exact ⟨em, 0, 12, 4, em, 0, 12, 5, em, 0, 12, false, e1, e2, by rw [e3]; exact e1, by rw [e3]; exact e4, by rw [e3, e5]; exact e1, hbb, .inr (.inr (.inl ⟨rfl, rfl, rfl, rfl, rfl, rfl⟩))⟩
      | true =>
        by_cases h32 : 32 ≤ x.bound.length
        · have e2 : bindE L name fn = 3 := by unfold bindE; rw [hl]; simp [hnm, hh, h32]
          have e3 : bindS L name fn = L := by unfold bindS; rw [e2]; rfl
          exact ⟨em, 0, 12, 3, em, 0, 12, 5, em, 0, 12, false, e1, e2, by rw [e3]; exact e1, by rw [e3]; exact e4, by rw [e3, e5]; exact e1, hbb, .inr (.inr (.inr (.inl ⟨rfl, rfl, rfl, rfl, rfl, rfl⟩)))⟩
        · have e2 : bindE L name fn = 0 := by unfold bindE; rw [hl]; simp [hnm, hh, h32]
          have hl1 : look (bindS L name fn) name = some { x with bound := x.bound ++ [fn] } := by
            unfold bindS
            rw [if_pos e2]
            exact look_upd_same hk.nd hl (fun y => { y with bound := y.bound ++ [fn] }) (fun _ => rfl)
          have hh1 : hasB { x with bound := x.bound ++ [fn] } fn = true := hasB_iff.2 (by simp)
          have e3 : readS (bindS L name fn) name fn = (x.text, x.ver, 0) := by unfold readS; rw [hl1]; simp [hh1]
          obtain ⟨e5, e4⟩ := hgone _ _ (hk.bind name fn) hl1 hh1
          obtain ⟨⟨t2, v2, i2⟩, h2⟩ : ∃ r, r = readS (unbindS (bindS L name fn) name fn) name fn := ⟨_, rfl⟩
          rw [← h2] at e5
          exact ⟨em, 0, 12, 0, x.text, x.ver, 0, 0, t2, v2, i2, false, e1, e2, e3, e4, h2.symm, hbb, .inr (.inr (.inr (.inr ⟨rfl, rfl, rfl, rfl, e5, rfl⟩)))⟩
end Go.Proofs.Ytldilefhmpipkaa
