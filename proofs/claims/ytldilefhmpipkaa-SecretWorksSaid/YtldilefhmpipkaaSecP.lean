/- Chapter 22: plain laws of redaction: the longest text, what remains. No program in sight. -/
import Derived.Test.YtldilefhmpipkaaMapl
namespace Go.Proofs.Ytldilefhmpipkaa
set_option linter.unusedVariables false
set_option linter.unusedSimpArgs false

abbrev Bs := List UInt8

def longest (ts : List Bs) (s : Bs) : Nat := ts.foldl (fun n t => if t.isPrefixOf s = true then max n t.length else n) 0
theorem longest_fold (ts : List Bs) (s : Bs) : ∀ n, (n ≤ ts.foldl (fun n t => if t.isPrefixOf s = true then max n t.length else n) n) ∧ (∀ t ∈ ts, t <+: s → t.length ≤ ts.foldl (fun n t => if t.isPrefixOf s = true then max n t.length else n) n) ∧
    (ts.foldl (fun n t => if t.isPrefixOf s = true then max n t.length else n) n = n ∨ ∃ t ∈ ts, t <+: s ∧ t.length = ts.foldl (fun n t => if t.isPrefixOf s = true then max n t.length else n) n) := by
  induction ts with
  | nil => intro n; simp
  | cons t ts ih =>
    intro n
    rw [List.foldl_cons]
    by_cases hp : t.isPrefixOf s = true
    · rw [if_pos hp]
      obtain ⟨h1, h2, h3⟩ := ih (max n t.length)
      refine ⟨by omega, fun u hu hus => ?_, ?_⟩
      · rcases List.mem_cons.1 hu with rfl | hu
        · omega
        · exact h2 u hu hus
      · rcases h3 with h3 | ⟨u, hu, hus, hl⟩
        · rw [h3]
          by_cases hm : n ≤ t.length
          · exact .inr ⟨t, by simp, List.isPrefixOf_iff_prefix.1 hp, by omega⟩
          · exact .inl (by omega)
        · exact .inr ⟨u, by simp [hu], hus, hl⟩
    · rw [if_neg hp]
      obtain ⟨h1, h2, h3⟩ := ih n
      refine ⟨h1, fun u hu hus => ?_, ?_⟩
      · rcases List.mem_cons.1 hu with rfl | hu
        · exact absurd (List.isPrefixOf_iff_prefix.2 hus) hp
        · exact h2 u hu hus
      · rcases h3 with h3 | ⟨u, hu, hus, hl⟩
        · exact .inl h3
        · exact .inr ⟨u, by simp [hu], hus, hl⟩
theorem longest_ge {ts : List Bs} {s t : Bs} (ht : t ∈ ts) (hs : t <+: s) : t.length ≤ longest ts s := (longest_fold ts s 0).2.1 t ht hs
theorem longest_some {ts : List Bs} {s : Bs} (h : longest ts s ≠ 0) : ∃ t ∈ ts, t <+: s ∧ t.length = longest ts s := by
  rcases (longest_fold ts s 0).2.2 with h1 | h1
  · exact absurd h1 h
  · exact h1
theorem longest_le (ts : List Bs) (s : Bs) : longest ts s ≤ s.length := by
  by_cases h : longest ts s = 0
  · omega
  · obtain ⟨t, _, h2, h3⟩ := longest_some h
    have := h2.length_le; omega
/-- The longest text is known by its members. -/
theorem longest_same {ts us : List Bs} {s : Bs} (h : ∀ t, t ≠ [] → (t ∈ ts ↔ t ∈ us)) : longest ts s = longest us s := by
  have key : ∀ {ts us : List Bs}, (∀ t, t ≠ [] → t ∈ ts → t ∈ us) → longest ts s ≤ longest us s := by
    intro ts us h
    by_cases h0 : longest ts s = 0
    · omega
    · obtain ⟨t, h1, h2, h3⟩ := longest_some h0
      rw [← h3]
      by_cases hn : t = []
      · subst hn; simp
      · exact longest_ge (h t hn h1) h2
  have a := key (fun t hn ht => (h t hn).1 ht)
  have b := key (fun t hn ht => (h t hn).2 ht)
  omega
theorem longest_app (ts us : List Bs) (s : Bs) : longest (ts ++ us) s = us.foldl (fun n t => if t.isPrefixOf s = true then max n t.length else n) (longest ts s) := by
  unfold longest; rw [List.foldl_append]

def red (ts : List Bs) : Bs → Bs
  | [] => []
  | c :: s => if longest ts (c :: s) = 0 then c :: red ts s else 42 :: 42 :: 42 :: red ts (s.drop (longest ts (c :: s) - 1))
termination_by s => s.length
decreasing_by all_goals (simp <;> omega)

theorem red_nil (ts : List Bs) : red ts [] = [] := by rw [red]
theorem red_cons (ts : List Bs) (c : UInt8) (s : Bs) : red ts (c :: s) = if longest ts (c :: s) = 0 then c :: red ts s else 42 :: 42 :: 42 :: red ts (s.drop (longest ts (c :: s) - 1)) := by rw [red]
theorem red_zero {ts : List Bs} {s : Bs} {c : UInt8} {r : Bs} (hs : s = c :: r) (h : longest ts s = 0) : red ts s = c :: red ts r := by subst hs; rw [red_cons, if_pos h]
theorem red_some {ts : List Bs} {s : Bs} (h : longest ts s ≠ 0) : red ts s = [42, 42, 42] ++ red ts (s.drop (longest ts s)) := by
  cases s with
  | nil => have := longest_le ts []; simp at this; exact absurd this h
  | cons c s =>
    rw [red_cons, if_neg h]
    obtain ⟨n, hn⟩ : ∃ n, longest ts (c :: s) = n + 1 := ⟨longest ts (c :: s) - 1, by omega⟩
    rw [hn]; simp
theorem red_same {ts us : List Bs} (h : ∀ t, t ≠ [] → (t ∈ ts ↔ t ∈ us)) : ∀ n (s : Bs), s.length ≤ n → red ts s = red us s := by
  intro n
  induction n with
  | zero => intro s hs; have : s = [] := List.eq_nil_of_length_eq_zero (by omega); subst this; rw [red_nil, red_nil]
  | succ n ih =>
    intro s hs
    cases s with
    | nil => rw [red_nil, red_nil]
    | cons c s =>
      rw [red_cons, red_cons, longest_same h]
      simp at hs
      split
      · rw [ih s (by omega)]
      · rw [ih _ (by simp; omega)]

def inside (t s : Bs) : Prop := ∃ a b, s = a ++ t ++ b
theorem inside_cons {t s : Bs} {c : UInt8} (h : inside t s) : inside t (c :: s) := by
  obtain ⟨a, b, rfl⟩ := h; exact ⟨c :: a, b, by simp⟩
theorem inside_drop {t s : Bs} (n : Nat) (h : inside t (s.drop n)) : inside t s := by
  obtain ⟨a, b, h⟩ := h
  refine ⟨s.take n ++ a, b, (List.take_append_drop n s).symm.trans ?_⟩
  rw [h]; simp
theorem inside_pre {t s : Bs} (h : t <+: s) : inside t s := by obtain ⟨b, rfl⟩ := h; exact ⟨[], b, by simp⟩
theorem inside_cases {t s : Bs} {c : UInt8} (h : inside t (c :: s)) : t <+: c :: s ∨ inside t s := by
  obtain ⟨a, b, h⟩ := h
  cases a with
  | nil => exact .inl ⟨b, by simpa using h.symm⟩
  | cons d a => simp at h; exact .inr ⟨a, b, by rw [h.2]; simp⟩
theorem red_unchanged {ts : List Bs} : ∀ n (s : Bs), s.length ≤ n → (∀ t ∈ ts, t ≠ [] → ¬ inside t s) → red ts s = s := by
  intro n
  induction n with
  | zero => intro s hs _; have : s = [] := List.eq_nil_of_length_eq_zero (by omega); subst this; rw [red_nil]
  | succ n ih =>
    intro s hs h
    cases s with
    | nil => rw [red_nil]
    | cons c s =>
      have h0 : longest ts (c :: s) = 0 := by
        refine Decidable.byContradiction fun hne => ?_
        obtain ⟨t, h1, h2, h3⟩ := longest_some hne
        exact h t h1 (fun e => by subst e; simp at h3; omega) (inside_pre h2)
      rw [red_cons, if_pos h0, ih s (by simp at hs; omega) (fun t ht hn hi => h t ht hn (inside_cons hi))]
/-- A text without a star that heads what remains headed what was there. -/
theorem red_head {ts : List Bs} : ∀ n (s : Bs), s.length ≤ n → ∀ t : Bs, (42 : UInt8) ∉ t → t <+: red ts s → t <+: s := by
  intro n
  induction n with
  | zero => intro s hs t _ h; have : s = [] := List.eq_nil_of_length_eq_zero (by omega); subst this; rwa [red_nil] at h
  | succ n ih =>
    intro s hs t h42 h
    cases s with
    | nil => rwa [red_nil] at h
    | cons c s =>
      cases t with
      | nil => exact List.nil_prefix
      | cons d t =>
        rw [red_cons] at h
        split at h
        · rw [List.cons_prefix_cons] at h ⊢
          exact ⟨h.1, ih s (by simp at hs; omega) t (fun e => h42 (by simp [e])) h.2⟩
        · rw [List.cons_prefix_cons] at h
          exact absurd (by simp [h.1]) h42
theorem red_clean {ts : List Bs} {t : Bs} (ht : t ∈ ts) (hn : t ≠ []) (h42 : (42 : UInt8) ∉ t) : ∀ n (s : Bs), s.length ≤ n → ¬ inside t (red ts s) := by
  intro n
  have hno : ∀ (u : Bs), ¬ (t <+: 42 :: u) := by
    intro u h
    cases t with
    | nil => exact hn rfl
    | cons d t => rw [List.cons_prefix_cons] at h; exact h42 (by simp [h.1])
  induction n with
  | zero =>
    intro s hs h
    have : s = [] := List.eq_nil_of_length_eq_zero (by omega)
    subst this
    rw [red_nil] at h
    obtain ⟨a, b, h⟩ := h
    simp at h
    exact hn h.2.1
  | succ n ih =>
    intro s hs h
    cases s with
    | nil =>
      rw [red_nil] at h
      obtain ⟨a, b, h⟩ := h
      simp at h
      exact hn h.2.1
    | cons c s =>
      by_cases h0 : longest ts (c :: s) = 0
      · rcases inside_cases (by rw [red_cons, if_pos h0] at h; exact h) with h1 | h1
        · have h2 := red_head (ts := ts) (n + 1) (c :: s) hs t h42 (by rw [red_cons, if_pos h0]; exact h1)
          have := longest_ge ht h2
          rw [h0] at this
          exact hn (List.eq_nil_of_length_eq_zero (by omega))
        · exact ih s (by simp at hs; omega) h1
      · rw [red_cons, if_neg h0] at h
        rcases inside_cases h with h1 | h
        · exact hno _ h1
        rcases inside_cases h with h1 | h
        · exact hno _ h1
        rcases inside_cases h with h1 | h
        · exact hno _ h1
        exact ih _ (by simp at hs ⊢; omega) h
end Go.Proofs.Ytldilefhmpipkaa
