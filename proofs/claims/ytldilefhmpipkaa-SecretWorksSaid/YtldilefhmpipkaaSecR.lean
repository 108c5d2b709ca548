/- Chapter 22: plain laws: what the operations do to a vault's secrets. No program in sight. -/
import Derived.Test.YtldilefhmpipkaaSecE
import Derived.Test.YtldilefhmpipkaaSecF
namespace Go.Proofs.Ytldilefhmpipkaa
set_option linter.unusedVariables false
set_option linter.unusedSimpArgs false

structure SOk (L : List S0) : Prop where
  nd : (L.map S0.name).Nodup
  len : L.length ≤ 256
  all : ∀ x ∈ L, x.bound.length ≤ 32 ∧ 1 ≤ x.ver ∧ x.ver ≤ 32 ∧ 0 ≤ x.til ∧ x.bound.Nodup

theorem look_mem {L : List S0} {k : ByteArray} {x : S0} (h : look L k = some x) : x ∈ L := lookL_mem h
theorem look_key {L : List S0} {k : ByteArray} {x : S0} (h : look L k = some x) : x.name = k := lookL_key h
theorem look_none {L : List S0} {k : ByteArray} : look L k = none ↔ ∀ x ∈ L, x.name ≠ k := lookL_none
theorem look_of {L : List S0} (hd : (L.map S0.name).Nodup) {x : S0} (hx : x ∈ L) : look L x.name = some x := lookL_of_mem hd hx
theorem upd_names (L : List S0) (k : ByteArray) (f : S0 → S0) (hf : ∀ y, (f y).name = y.name) : (upd L k f).map S0.name = L.map S0.name := by
  unfold upd
  rw [List.map_map]
  refine List.map_congr_left fun y _ => ?_
  by_cases h : y.name = k
  · simp [h, hf]
  · simp [h]
theorem upd_mem {L : List S0} (hd : (L.map S0.name).Nodup) {k : ByteArray} {x : S0} (hx : look L k = some x) (f : S0 → S0) {y : S0} (hy : y ∈ upd L k f) : y = f x ∨ (y ∈ L ∧ y.name ≠ k) := by
  unfold upd at hy
  obtain ⟨z, hz, rfl⟩ := List.mem_map.1 hy
  by_cases h : z.name = k
  · have := look_of hd hz
    rw [h, hx] at this; cases this
    simp [h]
  · simp [h, hz]
theorem upd_mem' {L : List S0} (hd : (L.map S0.name).Nodup) {k : ByteArray} {x : S0} (hx : look L k = some x) (f : S0 → S0) {y : S0} : y ∈ upd L k f ↔ y = f x ∨ (y ∈ L ∧ y.name ≠ k) := by
  refine ⟨upd_mem hd hx f, fun h => ?_⟩
  unfold upd
  rcases h with rfl | ⟨h1, h2⟩
  · exact List.mem_map.2 ⟨x, look_mem hx, by simp [look_key hx]⟩
  · exact List.mem_map.2 ⟨y, h1, by simp [h2]⟩
theorem look_upd_same {L : List S0} {k : ByteArray} {x : S0} (hd : (L.map S0.name).Nodup) (hx : look L k = some x) (f : S0 → S0) (hf : ∀ y, (f y).name = y.name) : look (upd L k f) k = some (f x) := by
  have h1 : f x ∈ upd L k f := (upd_mem' hd hx f).2 (.inl rfl)
  have h2 := look_of (by rw [upd_names L k f hf]; exact hd) h1
  rw [hf, look_key hx] at h2; exact h2
theorem find_map_same {p : S0 → Bool} {g : S0 → S0} (h1 : ∀ y, p (g y) = p y) (h2 : ∀ y, p y = true → g y = y) : ∀ L : List S0, (L.map g).find? p = L.find? p := by
  intro L
  induction L with
  | nil => rfl
  | cons y L ih =>
    rw [List.map_cons, List.find?_cons, List.find?_cons, h1]
    cases hp : p y with
    | false => exact ih
    | true => simp [h2 y hp]
theorem look_upd_other {L : List S0} {k k' : ByteArray} (hne : k' ≠ k) (f : S0 → S0) (hf : ∀ y, (f y).name = y.name) : look (upd L k f) k' = look L k' := by
  unfold look lookL upd
  refine find_map_same (fun y => ?_) (fun y h => ?_) L
  · by_cases h : y.name = k
    · simp [h, hf]
    · simp [h]
  · have h3 : y.name = k' := by simpa using h
    have h4 : ¬ y.name = k := fun e => hne (h3.symm.trans e)
    simp [h4]
theorem look_app (L : List S0) (x : S0) (k : ByteArray) : look (L ++ [x]) k = (look L k).or (if x.name = k then some x else none) := by
  unfold look lookL
  rw [List.find?_append]
  congr 1
  by_cases h : x.name = k <;> simp [h]
theorem putE_zero {L : List S0} {name text : ByteArray} (h : putE L name text = 0) : nameB name = true ∧ textB text = true ∧ look L name = none ∧ L.length < 256 := by
  unfold putE at h
  by_cases h1 : nameB name = true
  · rw [if_pos h1] at h
    by_cases h2 : textB text = true
    · rw [if_pos h2] at h
      by_cases h3 : (look L name).isSome = true
      · rw [if_pos h3] at h; simp at h
      · rw [if_neg h3] at h
        refine ⟨h1, h2, by simpa using h3, ?_⟩
        split at h
        · simp at h
        · omega
    · rw [if_neg h2] at h; simp at h
  · rw [if_neg h1] at h; simp at h
theorem bindE_zero {L : List S0} {name fn : ByteArray} (h : bindE L name fn = 0) : ∃ x, look L name = some x ∧ nameB fn = true ∧ hasB x fn = false ∧ x.bound.length < 32 := by
  unfold bindE at h
  cases hl : look L name with
  | none => rw [hl] at h; simp at h
  | some x =>
    rw [hl] at h
    simp only at h
    refine ⟨x, rfl, ?_⟩
    by_cases h1 : nameB fn = true
    · rw [if_pos h1] at h
      by_cases h2 : hasB x fn = true
      · rw [if_pos h2] at h; simp at h
      · rw [if_neg h2] at h
        refine ⟨h1, by simpa using h2, ?_⟩
        split at h
        · simp at h
        · omega
    · rw [if_neg h1] at h; simp at h
theorem unbindE_zero {L : List S0} {name fn : ByteArray} (h : unbindE L name fn = 0) : ∃ x, look L name = some x ∧ hasB x fn = true := by
  unfold unbindE at h
  cases hl : look L name with
  | none => rw [hl] at h; simp at h
  | some x =>
    rw [hl] at h
    simp only at h
    refine ⟨x, rfl, ?_⟩
    by_cases h2 : hasB x fn = true
    · exact h2
    · rw [if_neg h2] at h; simp at h
theorem rotE_zero {L : List S0} {name text : ByteArray} {g n : Int} (h : (rotE L name text g n).2 = 0) : ∃ x, look L name = some x ∧ textB text = true ∧ 0 ≤ g ∧ g ≤ 1073741824 ∧ 0 ≤ n ∧ n ≤ 1073741824 ∧ x.now ≤ n ∧ x.ver < 32 ∧ rotE L name text g n = (x.ver + 1, 0) := by
  unfold rotE at h ⊢
  cases hl : look L name with
  | none => rw [hl] at h; simp at h
  | some x =>
    rw [hl] at h
    simp only at h ⊢
    refine ⟨x, rfl, ?_⟩
    by_cases h1 : textB text = true
    · rw [if_pos h1] at h ⊢
      by_cases h2 : timeB g = true
      · rw [if_pos h2] at h ⊢
        by_cases h3 : timeB n = true
        · rw [if_pos h3] at h ⊢
          by_cases h4 : n < x.now
          · rw [if_pos h4] at h; simp at h
          · rw [if_neg h4] at h ⊢
            by_cases h5 : 32 ≤ x.ver
            · rw [if_pos h5] at h; simp at h
            · rw [if_neg h5]
              simp only [timeB, Bool.and_eq_true, decide_eq_true_eq] at h2 h3
              exact ⟨h1, h2.1, h2.2, h3.1, h3.2, by omega, by omega, rfl⟩
        · rw [if_neg h3] at h; simp at h
      · rw [if_neg h2] at h; simp at h
    · rw [if_neg h1] at h; simp at h

theorem hasB_iff {x : S0} {fn : ByteArray} : hasB x fn = true ↔ fn ∈ x.bound := by
  unfold hasB
  rw [Option.isSome_iff_exists]
  constructor
  · rintro ⟨y, hy⟩
    have := lookL_key hy
    simp only [id] at this
    subst this; exact lookL_mem hy
  · intro h
    cases hl : lookL id x.bound fn with
    | some y => exact ⟨y, rfl⟩
    | none => exact absurd rfl (lookL_none.1 hl fn h)
theorem SOk.nil : SOk [] := ⟨by simp, by simp, by simp⟩
theorem SOk.put {L : List S0} (h : SOk L) (name text : ByteArray) : SOk (putS L name text) := by
  unfold putS
  by_cases hz : putE L name text = 0
  · rw [if_pos hz]
    obtain ⟨_, _, h3, h4⟩ := putE_zero hz
    refine ⟨?_, by simp; omega, ?_⟩
    · rw [List.map_append, List.nodup_append]
      refine ⟨h.nd, by simp, ?_⟩
      rintro a ha b hb
      simp at hb; subst hb
      obtain ⟨y, hy, rfl⟩ := List.mem_map.1 ha
      exact look_none.1 h3 y hy
    · intro x hx
      rcases List.mem_append.1 hx with hx | hx
      · exact h.all x hx
      · simp at hx; subst hx; simp [newS0]
  · rw [if_neg hz]; exact h
theorem SOk.bind {L : List S0} (h : SOk L) (name fn : ByteArray) : SOk (bindS L name fn) := by
  unfold bindS
  by_cases hz : bindE L name fn = 0
  · rw [if_pos hz]
    obtain ⟨x, h1, _, h3, h4⟩ := bindE_zero hz
    refine ⟨by rw [upd_names]; exact h.nd; exact fun _ => rfl, by unfold upd; rw [List.length_map]; exact h.len, ?_⟩
    intro y hy
    rcases upd_mem h.nd h1 _ hy with rfl | ⟨hy, _⟩
    · obtain ⟨a1, a2, a3, a4, a5⟩ := h.all x (look_mem h1)
      refine ⟨by simp; omega, a2, a3, a4, ?_⟩
      rw [List.nodup_append]
      refine ⟨a5, by simp, ?_⟩
      rintro a ha b hb
      simp at hb; subst hb
      intro e; subst e
      rw [hasB_iff.2 ha] at h3; cases h3
    · exact h.all y hy
  · rw [if_neg hz]; exact h
theorem SOk.unbind {L : List S0} (h : SOk L) (name fn : ByteArray) : SOk (unbindS L name fn) := by
  unfold unbindS
  by_cases hz : unbindE L name fn = 0
  · rw [if_pos hz]
    obtain ⟨x, h1, h3⟩ := unbindE_zero hz
    refine ⟨by rw [upd_names]; exact h.nd; exact fun _ => rfl, by unfold upd; rw [List.length_map]; exact h.len, ?_⟩
    intro y hy
    rcases upd_mem h.nd h1 _ hy with rfl | ⟨hy, _⟩
    · obtain ⟨a1, a2, a3, a4, a5⟩ := h.all x (look_mem h1)
      refine ⟨?_, a2, a3, a4, ?_⟩
      · have : (delL id x.bound fn).length ≤ x.bound.length := by unfold delL; exact List.length_filter_le _ _
        show (delL id x.bound fn).length ≤ 32
        omega
      · show (delL id x.bound fn).Nodup
        unfold delL
        exact List.Nodup.sublist List.filter_sublist a5
    · exact h.all y hy
  · rw [if_neg hz]; exact h
theorem SOk.rot {L : List S0} (h : SOk L) (name text : ByteArray) (g n : Int) : SOk (rotS L name text g n) := by
  unfold rotS
  by_cases hz : (rotE L name text g n).2 = 0
  · rw [if_pos hz]
    obtain ⟨x, h1, h2, h3, h4, h5, h6, h7, h8, _⟩ := rotE_zero hz
    refine ⟨by rw [upd_names]; exact h.nd; exact fun _ => rfl, by unfold upd; rw [List.length_map]; exact h.len, ?_⟩
    intro y hy
    rcases upd_mem h.nd h1 _ hy with rfl | ⟨hy, _⟩
    · obtain ⟨a1, a2, a3, a4, a5⟩ := h.all x (look_mem h1)
      exact ⟨a1, by simp [rotF]; omega, by simp [rotF]; omega, by simp [rotF]; omega, a5⟩
    · exact h.all y hy
  · rw [if_neg hz]; exact h

/-! a fuelled redaction, to be evaluated -/
def redF (ts : List Bs) : Nat → Bs → Bs
  | 0, _ => []
  | _, [] => []
  | n + 1, c :: s => if longest ts (c :: s) = 0 then c :: redF ts n s else 42 :: 42 :: 42 :: redF ts n (s.drop (longest ts (c :: s) - 1))
theorem redF_eq (ts : List Bs) : ∀ n (s : Bs), s.length ≤ n → red ts s = redF ts n s := by
  intro n
  induction n with
  | zero => intro s hs; have : s = [] := List.eq_nil_of_length_eq_zero (by omega); subst this; rw [red_nil]; rfl
  | succ n ih =>
    intro s hs
    cases s with
    | nil => rw [red_nil]; rfl
    | cons c s =>
      simp at hs
      rw [red_cons, redF]
      split
      · rw [ih s (by omega)]
      · rw [ih _ (by simp; omega)]
end Go.Proofs.Ytldilefhmpipkaa
