/- Chapter 22: the questions to both vaults, at any later world. No condition. -/
import Derived.Test.YtldilefhmpipkaaSedJ
namespace Go.Proofs.Ytldilefhmpipkaa
set_option linter.unusedVariables false
set_option linter.unusedSimpArgs false
open Go.RowKit

variable {W w : World} {vb rb : Nat} {L : List S0} {M : List R0}
theorem q_read (h : Two W w vb L rb M) (name fn : ByteArray) : ∀ w', Chg [] w w' → Calls Try.prog 22 #[.pointer (some ⟨vb, 0, none⟩), .string name, .string fn] w' fun e w'' => e = .returned (.tuple #[.string (readS L name fn).1, .int .i64 (readS L name fn).2.1, .int .i64 (readS L name fn).2.2]) ∧ Chg [] w' w'' := by
  intro w' hc
  obtain ⟨mb, l, sv, k, rfl, rfl, h3, h4, h5, h6, h7, h8⟩ := h
  exact read_any vb mb l name fn w' (h3.keptN hc)
theorem q_acc (h : Two W w vb L rb M) (name text : ByteArray) (n : Int) : ∀ w', Chg [] w w' → Calls Try.prog 16 #[.pointer (some ⟨vb, 0, none⟩), .string name, .string text, .int .i64 n] w' fun e w'' => e = .returned (.bool (accB L name text n)) ∧ Chg [] w' w'' := by
  intro w' hc
  obtain ⟨mb, l, sv, k, rfl, rfl, h3, h4, h5, h6, h7, h8⟩ := h
  refine (acc_any vb mb l name text n w' (h3.keptN hc)).mono ?_
  rintro e w2 ⟨rfl, rfl⟩
  exact ⟨rfl, Chg.refl _ _⟩
theorem q_names (h : Two W w vb L rb M) (hk : SOk L) (hn : NOk L) (fn : ByteArray) : ∀ w', Chg [] w w' → Calls Try.prog 26 #[.pointer (some ⟨vb, 0, none⟩), .string fn] w' fun e w'' => ∃ a c, e = .returned (.slice a (namesS L fn).length c) ∧ SlIs kc 1 w'' a (namesS L fn).length (namesS L fn) ∧ Chg [] w' w'' := by
  intro w' hc
  obtain ⟨mb, l, sv, k, rfl, rfl, h3, h4, h5, h6, h7, h8⟩ := h
  refine (names_any vb mb l fn w' (h3.keptN hc) (fun x hx => Nat.le_trans (nameB_size (hn _ (mem_s hx)).1) (by unfold maxLen; omega)) hk.secs.1).mono ?_
  rintro e w2 ⟨v, rfl, hr, hc2⟩
  obtain ⟨a, c, rfl⟩ := RowOf.shape hr
  exact ⟨a, c, rfl, (RowOf.sl hr kLen).1, hc2⟩
theorem q_rread (h : Two W w vb L rb M) (hs : Sim L M) (name fn : ByteArray) : ∀ w', Chg [] w w' → Calls Try.prog 23 #[.pointer (some ⟨rb, 0, none⟩), .string name, .string fn] w' fun e w'' => e = .returned (.tuple #[.string (readS L name fn).1, .int .i64 (readS L name fn).2.1, .int .i64 (readS L name fn).2.2]) ∧ Chg [] w' w'' := by
  intro w' hc
  rw [← hs.read]
  obtain ⟨mb, l, sv, k, rfl, rfl, h3, h4, h5, h6, h7, h8⟩ := h
  exact rread_any rb sv k name fn w' (h4.keptN hc) hs.secs.1 hs.secs.2.1
theorem q_racc (h : Two W w vb L rb M) (hs : Sim L M) (name text : ByteArray) (n : Int) : ∀ w', Chg [] w w' → Calls Try.prog 24 #[.pointer (some ⟨rb, 0, none⟩), .string name, .string text, .int .i64 n] w' fun e w'' => e = .returned (.bool (accB L name text n)) ∧ Chg [] w' w'' := by
  intro w' hc
  rw [← hs.acc]
  obtain ⟨mb, l, sv, k, rfl, rfl, h3, h4, h5, h6, h7, h8⟩ := h
  exact racc_any rb sv k name text n w' (h4.keptN hc) hs.secs.1
theorem q_rnames (h : Two W w vb L rb M) (hs : Sim L M) (fn : ByteArray) : ∀ w', Chg [] w w' → Calls Try.prog 27 #[.pointer (some ⟨rb, 0, none⟩), .string fn] w' fun e w'' => ∃ a c, e = .returned (.slice a (namesS L fn).length c) ∧ SlIs kc 1 w'' a (namesS L fn).length (namesS L fn) ∧ Chg [] w' w'' := by
  intro w' hc
  rw [← hs.names]
  obtain ⟨mb, l, sv, k, rfl, rfl, h3, h4, h5, h6, h7, h8⟩ := h
  refine (rnames_any rb sv k fn w' (h4.keptN hc) hs.secs.1 hs.secs.2.1).mono ?_
  rintro e w2 ⟨v, rfl, hr, hc2⟩
  obtain ⟨a, c, rfl⟩ := RowOf.shape hr
  exact ⟨a, c, rfl, (RowOf.sl hr kLen).1, hc2⟩
end Go.Proofs.Ytldilefhmpipkaa
