/- Chapter 52: the program's calls on one of two ledgers; play. No condition. -/
import Derived.Test.YtfnnnflfikmekaaPair
import Derived.Test.YtfnnnflfikmekaaUseL
import Derived.Test.YtfnnnflfikmekaaUseP
import Derived.Test.YtfnnnflfikmekaaUseR
import Derived.Test.YtfnnnflfikmekaaUseS
namespace Go.Proofs.Ytfnnnflfikmekaa
set_option linter.unusedVariables false
set_option linter.unusedSimpArgs false
open Go.RowKit
def JL (b : Nat) (s : Led) : List Nat → World → Prop := fun f w => ∃ mb v, f = lfp b mb v ∧ LIs w b mb v s
theorem sideL (b : Nat) (s : Led) : Side (JL b s) := by
  constructor
  · rintro f w ⟨mb, v, rfl, h⟩
    exact h.lt
  · rintro f S w w' ⟨mb, v, rfl, h⟩ hc hS
    exact ⟨mb, v, rfl, h.kept hc hS⟩
variable {W w : World} {b : Nat} {s : Led} {K : List Nat → World → Prop}
theorem Pair.led (h : Pair W w (JL b s) K) : ∃ mb v, LIs w b mb v s := by
  obtain ⟨f, g, ⟨mb, v, rfl, h1⟩, h2, h3, h4, h5, h6⟩ := h
  exact ⟨mb, v, h1⟩
theorem new_first {W w : World} (hc : Chg [] W w) : Calls Try.prog 11 #[] w fun e w' => ∃ b, e = .returned (.pointer (some ⟨b, 0, none⟩)) ∧ Pair W w' (JL b ⟨[], 0⟩) NoSide := by
  refine (new_any w).mono ?_
  rintro e w' ⟨b, mb, rfl, h, h1, h2, hc'⟩
  exact ⟨b, rfl, Pair.first hc ⟨_, ⟨mb, _, rfl, h⟩, hc', fun x hx => by rcases mem_lfp.1 hx with rfl | rfl | hx <;> first | assumption | simp [Value.ownBlock] at hx⟩⟩
theorem new_second {W w : World} (sK : Side K) (hK : Pair W w K NoSide) : Calls Try.prog 11 #[] w fun e w' => ∃ b, e = .returned (.pointer (some ⟨b, 0, none⟩)) ∧ Pair W w' (JL b ⟨[], 0⟩) K := by
  refine (new_any w).mono ?_
  rintro e w' ⟨b, mb, rfl, h, h1, h2, hc'⟩
  exact ⟨b, rfl, Pair.start sK hK ⟨_, ⟨mb, _, rfl, h⟩, hc', fun x hx => by rcases mem_lfp.1 hx with rfl | rfl | hx <;> first | assumption | simp [Value.ownBlock] at hx⟩⟩
theorem p_rec (sK : Side K) (h : Pair W w (JL b s) K) (r : UR) (hg : r.good) (hl : s.l.length ≤ 4000) : Calls Try.prog 14 #[.pointer (some ⟨b, 0, none⟩), urV r] w fun e w' => e = .returned (.int .i64 (recE s r)) ∧ Pair W w' (JL b (recS s r)) K := by
  have H := h
  obtain ⟨f, g, ⟨mb, v, rfl, h1⟩, h2, h3, h4, h5, h6⟩ := h
  refine (rec_any r hg h1 hl).mono ?_
  rintro e w' ⟨rfl, v', q1, q2, q3⟩
  have ht : Turn (lfp b mb v) w w' (JL b (recS s r)) := ⟨lfp b mb v', ⟨mb, v', rfl, q1⟩, q3, fun x hx => by
    rcases mem_lfp.1 hx with rfl | rfl | hx
    · exact .inl (mem_lfp.2 (.inl rfl))
    · exact .inl (mem_lfp.2 (.inr (.inl rfl)))
    · rcases q2 x hx with h | h
      · exact .inl (mem_lfp.2 (.inr (.inr h)))
      · exact .inr h⟩
  refine ⟨rfl, ?_⟩
  obtain ⟨f', t1, t2, t3⟩ := ht
  refine ⟨f', g, t1, sK.kept h2 t2 (fun x hx hy => h5 x hy hx), ?_, h4, ?_, h6.then t2 (fun y hy hl => by have := h3 y hy; omega)⟩
  · intro x hx
    rcases t3 x hx with h | h
    · exact h3 x h
    · exact Nat.le_trans h6.size h
  · intro x hx hy
    rcases t3 x hx with h | h
    · exact h5 x h hy
    · have := sK.lt h2 x hy; omega
theorem p_close (sK : Side K) (h : Pair W w (JL b s) K) (p : Int) : Calls Try.prog 20 #[.pointer (some ⟨b, 0, none⟩), .int .i64 p] w fun e w' => e = .returned (.int .i64 (closeE s p)) ∧ Pair W w' (JL b (closeS s p)) K := by
  obtain ⟨f, g, ⟨mb, v, rfl, h1⟩, h2, h3, h4, h5, h6⟩ := h
  refine (close_any p h1).mono ?_
  rintro e w' ⟨rfl, q1, q2⟩
  have q2' := q2.mono (T := lfp b mb v) (fun x hx _ => by simp at hx; subst hx; exact mem_lfp.2 (.inl rfl))
  exact ⟨rfl, lfp b mb v, g, ⟨mb, v, rfl, q1⟩, sK.kept h2 q2' (fun x hx hy => h5 x hy hx), h3, h4, h5, h6.then q2' (fun y hy hl => by have := h3 y hy; omega)⟩
theorem p_len (h : Pair W w (JL b s) K) : Calls Try.prog 13 #[.pointer (some ⟨b, 0, none⟩)] w fun e w' => e = .returned (.int .i64 s.l.length) ∧ w = w' := by
  obtain ⟨mb, v, h1⟩ := h.led
  exact len_any h1
theorem p_period (h : Pair W w (JL b s) K) : Calls Try.prog 19 #[.pointer (some ⟨b, 0, none⟩)] w fun e w' => e = .returned (.int .i64 s.p) ∧ w = w' := by
  obtain ⟨mb, v, h1⟩ := h.led
  exact period_any h1
theorem p_total (sK : Side K) (h : Pair W w (JL b s) K) (tn : ByteArray) (p : Int) (hs : tn.size ≤ maxLen) (hl : s.l.length ≤ 4000) : Calls Try.prog 15 #[.pointer (some ⟨b, 0, none⟩), .string tn, .int .i64 p] w fun e w' => e = .returned (.tuple #[usV (totU s tn p).1, .int .i64 (totU s tn p).2]) ∧ Chg [] w w' ∧ Pair W w' (JL b s) K := by
  obtain ⟨mb, v, h1⟩ := h.led
  refine (total_any tn p h1 hs hl).mono ?_
  rintro e w' ⟨rfl, hc⟩
  exact ⟨rfl, hc, h.keptN (sideL b s) sK hc⟩
theorem p_funcs (sK : Side K) (h : Pair W w (JL b s) K) (tn : ByteArray) (p : Int) (hl : s.l.length ≤ 4000) : Calls Try.prog 18 #[.pointer (some ⟨b, 0, none⟩), .string tn, .int .i64 p] w fun e w' => ∃ a c, e = .returned (.slice a (fnsU s tn p).length c) ∧ SlIs kc 1 w' a (fnsU s tn p).length (fnsU s tn p) ∧ Chg [] w w' ∧ Pair W w' (JL b s) K := by
  obtain ⟨mb, v, h1⟩ := h.led
  refine (funcs_any tn p h1 hl).mono ?_
  rintro e w' ⟨v', rfl, hr, hc⟩
  obtain ⟨a, c, rfl⟩ := RowOf.shape hr
  exact ⟨a, c, rfl, (RowOf.sl hr kLen).1, hc, h.keptN (sideL b s) sK hc⟩
def stepU (s : Led) (x : OpU) : Led := if x.k = 0 then recS s x.r else if x.k = 1 then closeS s x.p else s
theorem recS_len (s : Led) (r : UR) : (recS s r).l.length ≤ s.l.length + 1 := by
  unfold recS
  split
  · split
    · omega
    · split
      · omega
      · simp
  · omega
theorem stepU_len (s : Led) (x : OpU) : (stepU s x).l.length ≤ s.l.length + 1 := by
  unfold stepU
  split
  · exact recS_len s x.r
  · split
    · unfold closeS; split
      · omega
      · split <;> exact Nat.le_succ _
    · omega
end Go.Proofs.Ytfnnnflfikmekaa
