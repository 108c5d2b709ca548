/- Chapter 22: plain laws: the longest text found while the secrets are gone through in any order; texts of a vault. No program in sight. -/
import Derived.Test.YtldilefhmpipkaaSecA
import Derived.Test.YtldilefhmpipkaaSecP
namespace Go.Proofs.Ytldilefhmpipkaa
set_option linter.unusedVariables false
set_option linter.unusedSimpArgs false

def byt (b : ByteArray) : Bs := b.data.toList
def up (s : Bs) (t : Bs) (n : Nat) : Nat := if t.isPrefixOf s = true then max n t.length else n
def texts (L : List S0) : List Bs := L.flatMap fun x => [byt x.text, byt x.before]
/-- n is the longest of the texts of those that are no more to do. -/
def Seen (l todo : List Sec) (s : Bs) (n : Nat) : Prop :=
  (n = 0 ∨ ∃ t ∈ texts (l.map Sec.s), t <+: s ∧ t.length = n) ∧ ∀ x ∈ l, x ∈ todo ∨ ∀ t ∈ [byt x.s.text, byt x.s.before], t <+: s → t.length ≤ n
theorem mem_texts {L : List S0} {t : Bs} : t ∈ texts L ↔ ∃ x ∈ L, t = byt x.text ∨ t = byt x.before := by
  unfold texts; simp [List.mem_flatMap]
theorem seen_start (l : List Sec) (s : Bs) : Seen l l s 0 := ⟨.inl rfl, fun x hx => .inl hx⟩
theorem seen_end {l : List Sec} {s : Bs} {n : Nat} (h : Seen l [] s n) : n = longest (texts (l.map Sec.s)) s := by
  obtain ⟨h1, h2⟩ := h
  have hle : longest (texts (l.map Sec.s)) s ≤ n := by
    by_cases h0 : longest (texts (l.map Sec.s)) s = 0
    · omega
    · obtain ⟨t, ht, hp, hl⟩ := longest_some h0
      obtain ⟨x, hx, he⟩ := mem_texts.1 ht
      obtain ⟨y, hy, rfl⟩ := List.mem_map.1 hx
      rcases h2 y hy with h | h
      · cases h
      · have := h t (by rcases he with rfl | rfl <;> simp) hp
        omega
  rcases h1 with rfl | ⟨t, ht, hp, hl⟩
  · omega
  · have := longest_ge ht hp; omega
theorem up_ge (s t : Bs) (n : Nat) : n ≤ up s t n ∧ (t <+: s → t.length ≤ up s t n) := by
  unfold up
  split
  · exact ⟨by omega, fun _ => by omega⟩
  · rename_i h
    exact ⟨by omega, fun hp => absurd (List.isPrefixOf_iff_prefix.2 hp) h⟩
theorem up_is (s t : Bs) (n : Nat) : up s t n = n ∨ (t <+: s ∧ t.length = up s t n) := by
  unfold up
  split
  · rename_i h
    by_cases hn : n ≤ t.length
    · exact .inr ⟨List.isPrefixOf_iff_prefix.1 h, by omega⟩
    · exact .inl (by omega)
  · exact .inl rfl
theorem up_le (s t : Bs) {n : Nat} (h : n ≤ s.length) : up s t n ≤ s.length := by
  rcases up_is s t n with e | ⟨hp, e⟩
  · omega
  · have := hp.length_le; omega
theorem seen_step {l todo : List Sec} {s : Bs} {n : Nat} {x : Sec} (hd : (l.map Sec.name).Nodup) (hx : x ∈ l) (h : Seen l todo s n) : Seen l (delL Sec.name todo x.name) s (up s (byt x.s.before) (up s (byt x.s.text) n)) := by
  obtain ⟨h1, h2⟩ := h
  obtain ⟨a1, a2⟩ := up_ge s (byt x.s.text) n
  obtain ⟨b1, b2⟩ := up_ge s (byt x.s.before) (up s (byt x.s.text) n)
  refine ⟨?_, fun y hy => ?_⟩
  · rcases up_is s (byt x.s.before) (up s (byt x.s.text) n) with e | ⟨hp, e⟩
    · rw [e]
      rcases up_is s (byt x.s.text) n with e | ⟨hp, e⟩
      · rw [e]; exact h1
      · exact .inr ⟨_, mem_texts.2 ⟨x.s, List.mem_map.2 ⟨x, hx, rfl⟩, .inl rfl⟩, hp, e⟩
    · exact .inr ⟨_, mem_texts.2 ⟨x.s, List.mem_map.2 ⟨x, hx, rfl⟩, .inr rfl⟩, hp, e⟩
  · by_cases hn : y.name = x.name
    · have := eq_of_name hd hx hy hn
      subst this
      right
      intro t ht hp
      simp only [List.mem_cons, List.not_mem_nil, or_false] at ht
      rcases ht with rfl | rfl
      · have := a2 hp; omega
      · exact b2 hp
    · rcases h2 y hy with h | h
      · left
        unfold delL
        exact List.mem_filter.2 ⟨h, by simpa using hn⟩
      · exact .inr fun t ht hp => by have := h t ht hp; omega
theorem red_len (ts : List Bs) : ∀ n (s : Bs), s.length ≤ n → (red ts s).length ≤ 3 * s.length := by
  intro n
  induction n with
  | zero => intro s hs; have : s = [] := List.eq_nil_of_length_eq_zero (by omega); subst this; rw [red_nil]; simp
  | succ n ih =>
    intro s hs
    cases s with
    | nil => rw [red_nil]; simp
    | cons c s =>
      simp at hs
      rw [red_cons]
      split
      · have := ih s (by omega); simp; omega
      · have := ih (s.drop (longest ts (c :: s) - 1)) (by simp; omega)
        simp at this ⊢; omega
theorem byt_drop (s : ByteArray) (n : Nat) : byt (s.extract n s.size) = (byt s).drop n := by
  unfold byt
  rw [ByteArray.data_extract, Array.toList_extract]
  have : s.size = s.data.toList.length := by simp
  rw [this, List.extract_eq_take_drop, List.take_of_length_le (by simp)]
theorem byt_len (s : ByteArray) : (byt s).length = s.size := by unfold byt; simp
theorem byt_cons (s : ByteArray) (h : 0 < s.size) : byt s = s[0] :: (byt s).drop 1 := by
  have h1 : 0 < (byt s).length := by rw [byt_len]; exact h
  have := List.drop_eq_getElem_cons (l := byt s) (i := 0) h1
  rw [List.drop_zero] at this
  rw [this]
  congr 1
end Go.Proofs.Ytldilefhmpipkaa
