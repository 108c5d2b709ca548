/- Chapter 22: the methods of a vault of the caller's own. No condition. -/
import Derived.Test.YtldilefhmpipkaaSecH
namespace Go.Proofs.Ytldilefhmpipkaa
set_option linter.unusedVariables false
set_option linter.unusedSimpArgs false
open Go.RowKit

/-- A vault of the call's own, W the world when the call began. -/
def OwnC (W w : World) (vb : Nat) (L : List S0) : Prop := Own W.heap.size w vb L ∧ Chg [] W w
theorem OwnC.keptN {W w w' : World} {vb : Nat} {L : List S0} (h : OwnC W w vb L) (hc : Chg [] w w') : OwnC W w' vb L := ⟨h.1.keptN hc, h.2.thenSame hc⟩
theorem OwnC.below {W w : World} {vb : Nat} {L : List S0} (h : OwnC W w vb L) : Below W.heap.size W w := h.2.toBelow (Nat.le_refl _) (by simp)

variable {W w : World} {vb : Nat} {L : List S0}
theorem oput (h : OwnC W w vb L) (hk : SOk L) (name text : ByteArray) (hn : name.size ≤ maxLen) (ht : text.size ≤ maxLen) : Calls Try.prog 18 #[.pointer (some ⟨vb, 0, none⟩), .string name, .string text] w fun e w' => e = .returned (.int .i64 (putE L name text)) ∧ OwnC W w' vb (putS L name text) := by
  obtain ⟨⟨mb, l, rfl, h2, h3⟩, h4⟩ := h
  refine (put_any vb mb l name text w h2 hn ht hk.secs.1).mono ?_
  intro e w' hp
  exact Own.post hp h3 h4
theorem obind (h : OwnC W w vb L) (hk : SOk L) (name fn : ByteArray) (hn : fn.size ≤ maxLen) : Calls Try.prog 28 #[.pointer (some ⟨vb, 0, none⟩), .string name, .string fn] w fun e w' => e = .returned (.int .i64 (bindE L name fn)) ∧ OwnC W w' vb (bindS L name fn) := by
  obtain ⟨⟨mb, l, rfl, h2, h3⟩, h4⟩ := h
  refine (bind_any vb mb l name fn w h2 hn hk.secs.2.1).mono ?_
  intro e w' hp
  exact Own.post hp h3 h4
theorem ounbind (h : OwnC W w vb L) (name fn : ByteArray) : Calls Try.prog 29 #[.pointer (some ⟨vb, 0, none⟩), .string name, .string fn] w fun e w' => e = .returned (.int .i64 (unbindE L name fn)) ∧ OwnC W w' vb (unbindS L name fn) := by
  obtain ⟨⟨mb, l, rfl, h2, h3⟩, h4⟩ := h
  refine (unbind_any vb mb l name fn w h2).mono ?_
  intro e w' hp
  exact Own.post hp h3 h4
theorem orot (h : OwnC W w vb L) (hk : SOk L) (name text : ByteArray) (g n : Int) (ht : text.size ≤ maxLen) : Calls Try.prog 19 #[.pointer (some ⟨vb, 0, none⟩), .string name, .string text, .int .i64 g, .int .i64 n] w fun e w' => e = .returned (.tuple #[.int .i64 (rotE L name text g n).1, .int .i64 (rotE L name text g n).2]) ∧ OwnC W w' vb (rotS L name text g n) := by
  obtain ⟨⟨mb, l, rfl, h2, h3⟩, h4⟩ := h
  refine (rot_any vb mb l name text g n w h2 ht hk.secs.2.2).mono ?_
  intro e w' hp
  exact Own.post hp h3 h4
theorem oacc (h : OwnC W w vb L) (name text : ByteArray) (n : Int) : Calls Try.prog 16 #[.pointer (some ⟨vb, 0, none⟩), .string name, .string text, .int .i64 n] w fun e w' => e = .returned (.bool (accB L name text n)) ∧ w = w' := by
  obtain ⟨⟨mb, l, rfl, h2, h3⟩, h4⟩ := h
  exact acc_any vb mb l name text n w h2
theorem oread (h : OwnC W w vb L) (name fn : ByteArray) : Calls Try.prog 22 #[.pointer (some ⟨vb, 0, none⟩), .string name, .string fn] w fun e w' => e = .returned (.tuple #[.string (readS L name fn).1, .int .i64 (readS L name fn).2.1, .int .i64 (readS L name fn).2.2]) ∧ OwnC W w' vb L := by
  obtain ⟨⟨mb, l, rfl, h2, h3⟩, h4⟩ := h
  refine (read_any vb mb l name fn w h2).mono ?_
  rintro e w' ⟨rfl, hc⟩
  exact ⟨rfl, OwnC.keptN ⟨⟨mb, l, rfl, h2, h3⟩, h4⟩ hc⟩
theorem oredact (h : OwnC W w vb L) (s : ByteArray) (hs : s.size ≤ 4096) : Calls Try.prog 14 #[.pointer (some ⟨vb, 0, none⟩), .string s] w fun e w' => e = .returned (.string (redS L s)) ∧ OwnC W w' vb L := by
  obtain ⟨⟨mb, l, rfl, h2, h3⟩, h4⟩ := h
  refine (redact_any vb mb l s w h2 hs).mono ?_
  rintro e w' ⟨rfl, hc⟩
  exact ⟨rfl, OwnC.keptN ⟨⟨mb, l, rfl, h2, h3⟩, h4⟩ hc⟩
theorem odone (h : OwnC W w vb L) (hk : SOk L) (x : OpD) (hx : x.good) : Calls Try.prog 21 #[.pointer (some ⟨vb, 0, none⟩), .agg #[.int .i64 x.kind, .string x.name, .string x.text, .string x.fn, .int .i64 x.grace, .int .i64 x.now]] w fun e w' => e = .returned (.tuple #[.int .i64 (stepR L x).1, .int .i64 (stepR L x).2]) ∧ OwnC W w' vb (stepS L x) := by
  obtain ⟨⟨mb, l, rfl, h2, h3⟩, h4⟩ := h
  refine (done_any vb mb l x w h2 hk hx).mono ?_
  intro e w' hp
  exact Own.post hp h3 h4
theorem oplayed {a : Option Addr} {len cap : Nat} {l : List OpD} (h : SlIs oCells 6 w a len l) (hg : ∀ x ∈ l, x.good) (hm : len ≤ maxLen) (hc : Chg [] W w) : Calls Try.prog 11 #[.slice a len cap] w fun e w' => ∃ vb, e = .returned (.pointer (some ⟨vb, 0, none⟩)) ∧ OwnC W w' vb (playS l) := by
  refine (played_any a len cap l w h hg hm).mono ?_
  rintro e w' ⟨vb, rfl, ⟨mb, l2, e2, v2, b2⟩, hc2⟩
  exact ⟨vb, rfl, ⟨mb, l2, e2, v2, fun b hb => Nat.le_trans hc.size (b2 b hb)⟩, hc.thenSame hc2⟩

/-! what the law SecretRotates needs of three states -/
theorem rot_err {L : List S0} {name text : ByteArray} {g n : Int} (h : ¬ (rotE L name text g n).2 = 0) : (rotE L name text g n).1 = 0 ∧ rotS L name text g n = L := by
  refine ⟨?_, by unfold rotS; rw [if_neg h]⟩
  unfold rotE at h ⊢
  cases hl : look L name with
  | none => rfl
  | some x =>
    rw [hl] at h
    simp only at h ⊢
    by_cases h1 : textB text = true
    · rw [if_pos h1] at h ⊢
      by_cases h2 : timeB g = true
      · rw [if_pos h2] at h ⊢
        by_cases h3 : timeB n = true
        · rw [if_pos h3] at h ⊢
          by_cases h4 : n < x.now
          · rw [if_pos h4]
          · rw [if_neg h4] at h ⊢
            by_cases h5 : 32 ≤ x.ver
            · rw [if_pos h5]
            · rw [if_neg h5] at h; exact absurd rfl h
        · rw [if_neg h3]
      · rw [if_neg h2]
    · rw [if_neg h1]
theorem rot_look {L : List S0} (hk : SOk L) {name text : ByteArray} {g n : Int} (h : (rotE L name text g n).2 = 0) : ∃ x, look L name = some x ∧ look (rotS L name text g n) name = some (rotF text g n x) ∧ 0 ≤ g ∧ g ≤ 1073741824 ∧ 0 ≤ n ∧ n ≤ 1073741824 ∧ rotE L name text g n = (x.ver + 1, 0) := by
  obtain ⟨x, h1, h2, h3, h4, h5, h6, h7, h8, h9⟩ := rotE_zero h
  refine ⟨x, h1, ?_, h3, h4, h5, h6, h9⟩
  unfold rotS
  rw [if_pos h]
  exact look_upd_same hk.nd h1 _ (fun _ => rfl)
theorem put_look {L : List S0} {name text : ByteArray} (h : putE L name text = 0) : look (putS L name text) name = some (newS0 name text) := by
  unfold putS
  rw [if_pos h, look_app, (putE_zero h).2.2.1]
  simp [newS0]
theorem acc_at {L : List S0} {name text : ByteArray} {n : Int} {x : S0} (h : look L name = some x) : accB L name text n = (text == x.text || (decide (1 < x.ver) && text == x.before && decide (n ≤ x.til))) := by
  unfold accB; rw [h]
end Go.Proofs.Ytldilefhmpipkaa
