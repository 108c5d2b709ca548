/- Chapter 22: plain laws: every text of a vault was given to it. No program in sight. -/
import Derived.Test.YtldilefhmpipkaaSecI
namespace Go.Proofs.Ytldilefhmpipkaa
set_option linter.unusedVariables false
set_option linter.unusedSimpArgs false

/-- Every text of the vault, under its secret's name, stands in one of the operations. -/
def Given (ops : List OpD) (L : List S0) : Prop := ∀ x ∈ L, (∃ o ∈ ops, o.name = x.name ∧ o.text = x.text) ∧ (1 < x.ver → ∃ o ∈ ops, o.name = x.name ∧ o.text = x.before) ∧ (x.ver ≤ 1 → x.before = em)
theorem Given.mono {ops ops' : List OpD} {L : List S0} (h : Given ops L) (hs : ∀ o ∈ ops, o ∈ ops') : Given ops' L := by
  intro x hx
  obtain ⟨⟨o, h1, h2⟩, h3, h4⟩ := h x hx
  exact ⟨⟨o, hs o h1, h2⟩, fun hv => by obtain ⟨o, h1, h2⟩ := h3 hv; exact ⟨o, hs o h1, h2⟩, h4⟩
theorem Given.step {ops : List OpD} {L : List S0} (hk : SOk L) (h : Given ops L) (o : OpD) : Given (ops ++ [o]) (stepS L o) := by
  have h' := h.mono (ops' := ops ++ [o]) (fun _ h => by simp [h])
  have ho : o ∈ ops ++ [o] := by simp
  unfold stepS
  split
  · unfold putS
    split
    · intro x hx
      rcases List.mem_append.1 hx with hx | hx
      · exact h' x hx
      · simp at hx; subst hx
        exact ⟨⟨o, ho, rfl, rfl⟩, by simp [newS0], fun _ => rfl⟩
    · exact h'
  · split
    · unfold bindS
      split
      · rename_i hz
        obtain ⟨x, h1, _⟩ := bindE_zero hz
        intro y hy
        rcases upd_mem hk.nd h1 _ hy with rfl | ⟨hy, _⟩
        · exact h' x (look_mem h1)
        · exact h' y hy
      · exact h'
    · split
      · unfold unbindS
        split
        · rename_i hz
          obtain ⟨x, h1, _⟩ := unbindE_zero hz
          intro y hy
          rcases upd_mem hk.nd h1 _ hy with rfl | ⟨hy, _⟩
          · exact h' x (look_mem h1)
          · exact h' y hy
        · exact h'
      · split
        · unfold rotS
          split
          · rename_i hz
            obtain ⟨x, h1, _⟩ := rotE_zero hz
            intro y hy
            rcases upd_mem hk.nd h1 _ hy with rfl | ⟨hy, _⟩
            · obtain ⟨q1, q2, q3⟩ := h' x (look_mem h1)
              have hv := (hk.all x (look_mem h1)).2.1
              refine ⟨⟨o, ho, (look_key h1).symm, rfl⟩, fun _ => q1, fun hv2 => ?_⟩
              simp [rotF] at hv2; omega
            · exact h' y hy
          · exact h'
        · exact h'
theorem play_given (l : List OpD) : Given l (playS l) := by
  have : ∀ n, n ≤ l.length → Given (l.take n) (playS (l.take n)) := by
    intro n
    induction n with
    | zero => intro _ x hx; simp [playS] at hx
    | succ n ih =>
      intro h
      rw [play_step l n (by omega), List.take_succ_eq_append_getElem (by omega)]
      exact (ih (by omega)).step (play_ok _) _
  have h := this l.length (Nat.le_refl _)
  rwa [List.take_length] at h

/-- An accepted text, at time 0. -/
theorem acc_texts {L : List S0} (hk : SOk L) {name t : ByteArray} (h : accB L name t 0 = true) : byt t ∈ texts L := by
  unfold accB at h
  cases hl : look L name with
  | none => rw [hl] at h; cases h
  | some x =>
    rw [hl] at h
    simp only [Bool.or_eq_true, Bool.and_eq_true, beq_iff_eq, decide_eq_true_eq] at h
    refine mem_texts.2 ⟨x, look_mem hl, ?_⟩
    rcases h with rfl | ⟨⟨_, rfl⟩, _⟩
    · exact .inl rfl
    · exact .inr rfl
theorem texts_acc {l : List OpD} {t : Bs} (ht : t ∈ texts (playS l)) (hn : t ≠ []) : ∃ o ∈ l, byt o.text = t ∧ accB (playS l) o.name o.text 0 = true := by
  obtain ⟨x, hx, he⟩ := mem_texts.1 ht
  have hk := play_ok l
  have hl := look_of hk.nd hx
  obtain ⟨⟨o, h1, h2, h3⟩, h4, h5⟩ := play_given l x hx
  rcases he with rfl | rfl
  · refine ⟨o, h1, by rw [h3], ?_⟩
    unfold accB
    rw [h2, hl, h3]; simp
  · have hv : 1 < x.ver := by
      refine Decidable.byContradiction fun hv => hn ?_
      rw [h5 (by omega)]; rfl
    obtain ⟨o, h1, h2, h3⟩ := h4 hv
    refine ⟨o, h1, by rw [h3], ?_⟩
    unfold accB
    rw [h2, hl, h3]
    have := (hk.all x hx).2.2.2.1
    simp [hv, this]

/-! what the law SecretRedacts goes through -/
def star : ByteArray := ⟨#[42]⟩
def isA (L : List S0) (x : OpD) : Bool := decide (x.text ≠ em) && accB L x.name x.text 0
def foundB (L : List S0) (s : ByteArray) (l : List OpD) : Bool := l.any fun x => isA L x && insB s x.text
def starsB (L : List S0) (l : List OpD) : Bool := l.any fun x => isA L x && insB x.text star
theorem byt_em {t : ByteArray} : t ≠ em ↔ byt t ≠ [] := by
  constructor
  · intro h e; exact h (nil_size.2 (by rw [← byt_len, e]; rfl))
  · rintro h rfl; exact h rfl
theorem redact_found {l : List OpD} {s : ByteArray} (h : foundB (playS l) s l = false) : redS (playS l) s = s := by
  unfold redS
  have hno : ∀ t ∈ texts (playS l), t ≠ [] → ¬ inside t (byt s) := by
    intro t ht hn hi
    obtain ⟨o, h1, h2, h3⟩ := texts_acc ht hn
    unfold foundB at h
    rw [List.any_eq_false] at h
    have := h o h1
    apply this
    unfold isA
    simp only [Bool.and_eq_true, decide_eq_true_eq]
    exact ⟨⟨byt_em.2 (by rw [h2]; exact hn), h3⟩, insB_iff.2 (by rw [h2]; exact hi)⟩
  rw [red_unchanged _ (byt s) (Nat.le_refl _) hno]
  rfl
theorem redact_clean {l : List OpD} {s : ByteArray} (h : starsB (playS l) l = false) {x : OpD} (hx : x ∈ l) (ha : isA (playS l) x = true) : insB (redS (playS l) s) x.text = false := by
  rw [← Bool.not_eq_true, insB_iff]
  unfold starsB at h
  rw [List.any_eq_false] at h
  have h1 := h x hx
  rw [ha, Bool.true_and] at h1
  unfold isA at ha
  simp only [Bool.and_eq_true, decide_eq_true_eq] at ha
  have h42 : (42 : UInt8) ∉ byt x.text := by
    intro hm
    apply h1
    obtain ⟨a, b, he⟩ := List.append_of_mem hm
    exact insB_iff.2 ⟨a, b, by rw [he]; simp [byt, star]⟩
  have := red_clean (acc_texts (play_ok l) ha.2) (byt_em.1 ha.1) h42 _ (byt s) (Nat.le_refl _)
  exact this
theorem redS_len (L : List S0) (s : ByteArray) : (redS L s).size ≤ 3 * s.size := by
  have h1 := red_len (texts L) _ (byt s) (Nat.le_refl _)
  rw [byt_len] at h1
  have h2 : (byt (redS L s)).length = (redS L s).size := byt_len _
  rw [← h2]
  exact h1
end Go.Proofs.Ytldilefhmpipkaa
