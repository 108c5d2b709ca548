/- Chapter 43: PlaceChecks: workers and placements are checked, and free memory, removals and spread computed, as the reference says. No condition. -/
import Derived.Test.YtjbnfaapkicejaaPldD
import Derived.Test.YtjbnfaapkicejaaPlcY
namespace Go.Proofs.Ytjbnfaapkicejaa
set_option linter.unusedVariables false
set_option linter.unusedSimpArgs false
open Go.RowKit Go.ChangeShapes Go.WideShapes
theorem trod_cap2 {H : Type} {enc : TypeId × Value → H} {P : Program} {w : World} {base : Nat} {spare : Nat → Bool} {held : Bool} {t e : TypeId} {a : Option Addr} {len cap : Nat} {d : DataW H} {ps : List MemPlace} (ht : P.underlying t = some (.slice e))
    (h : DataW.Trod enc P w base spare held t (.slice a len cap) d ps) : (a = none → cap = 0) ∧ cap ≤ maxLen := by
  obtain ⟨fuel, hf⟩ := h
  rcases Go.Deep.open_slice ht hf with ⟨h0, _⟩ | ⟨_, _, _, _, _, _, _, h0, _, _, h2, _⟩
  · simp [Value.cells] at h0; unfold maxLen; omega
  · simp [Value.cells] at h0
    exact ⟨fun e => by rw [e] at h0; simp at h0, by omega⟩
theorem opens2_Wk {H : Type} {enc : TypeId × Value → H} {w : World} {base : Nat} {spare : Nat → Bool} {held : Bool} {a : Option Addr} {len cap : Nat} {d : DataW H} {ps : List MemPlace}
    (h : DataW.Trod enc Try.prog w base spare held 22 (.slice a len cap) d ps) : ∃ l : List Wk, SlIs wkC 3 w a len l ∧ (∀ x ∈ l, x.good) ∧ len ≤ maxLen ∧ len ≤ cap ∧ (a = none → cap = 0) ∧ cap ≤ maxLen := by
  obtain ⟨l, h1, h2, h3, h4⟩ := opens_Wk h
  exact ⟨l, h1, h2, h3, h4, trod_cap2 Try.underlying22 h⟩
theorem opens2_Pl {H : Type} {enc : TypeId × Value → H} {w : World} {base : Nat} {spare : Nat → Bool} {held : Bool} {a : Option Addr} {len cap : Nat} {d : DataW H} {ps : List MemPlace}
    (h : DataW.Trod enc Try.prog w base spare held 23 (.slice a len cap) d ps) : ∃ l : List Pl, SlIs plC 4 w a len l ∧ (∀ x ∈ l, x.good) ∧ len ≤ maxLen ∧ len ≤ cap ∧ (a = none → cap = 0) ∧ cap ≤ maxLen := by
  obtain ⟨l, h1, h2, h3, h4⟩ := opens_Pl h
  exact ⟨l, h1, h2, h3, h4, trod_cap2 Try.underlying23 h⟩
set_option maxHeartbeats 16000000 in
set_option maxRecDepth 100000 in
theorem checks_walk (a0 : Option Addr) (len0 cap0 : Nat) (l0 : List Wk) (a1 : Option Addr) (len1 cap1 : Nat) (l1 : List Pl) (s : ByteArray) (w : World)
    (h0 : SlIs wkC 3 w a0 len0 l0 ∧ (∀ x ∈ l0, x.good) ∧ len0 ≤ maxLen ∧ len0 ≤ cap0 ∧ (a0 = none → cap0 = 0) ∧ cap0 ≤ maxLen)
    (h1 : SlIs plC 4 w a1 len1 l1 ∧ (∀ x ∈ l1, x.good) ∧ len1 ≤ maxLen ∧ len1 ≤ cap1 ∧ (a1 = none → cap1 = 0) ∧ cap1 ≤ maxLen) (h2 : s.size ≤ maxLen) :
    Calls Try.prog 6 #[.slice a0 len0 cap0, .slice a1 len1 cap1, .string s] w fun e w' => e = .returned (.bool true) ∧ Below w.heap.size w w' := by
  obtain ⟨s0, g0, m0, c0, n0, k0⟩ := h0
  obtain ⟨s1, g1, m1, c1, n1, k1⟩ := h1
  obtain rfl := s0.1
  obtain rfl := s1.1
  have I0 := Lib.hid (show InIs wkC 3 w a0 cap0 l0 from ⟨s0, c0, k0, n0⟩)
  have I1 := Lib.hid (show InIs plC 4 w a1 cap1 l1 from ⟨s1, c1, k1, n1⟩)
  have A0 := Lib.hid (smallF_any a0 cap0 l0 a1 cap1 l1 w s0 m0 g0 s1 m1 g1)
  have hbad : (smallB2 l0 l1 = false ∨ (smallB2 l0 l1 = true ∧ (300 : Int) < (s.size : Int))) ∨ (smallB2 l0 l1 = true ∧ (s.size : Int) ≤ 300) := by
    by_cases e0 : smallB2 l0 l1 = true
    · by_cases hq : (s.size : Int) ≤ 300
      · exact .inr ⟨e0, hq⟩
      · exact .inl (.inr ⟨e0, by omega⟩)
    · exact .inl (.inl (by simpa using e0))
  unfold maxLen at h2
  rcases hbad with hbad | ⟨b0, b2⟩
  · clear s0 g0 m0 c0 n0 k0 s1 g1 m1 c1 n1 k1
    rcases hbad with b0 | ⟨b0, b2⟩
    all_goals
      go_enter Try.func6, Try.ntmps6
      go_wp2_with (first
        | (go_at_call 8; (with_reducible refine A0.out.mono ?_); rw [b0]; rintro e w1 ⟨rfl, rfl⟩)
        | (go_at_call 9; (with_reducible refine (awake_any _).mono ?_); rintro e w3 ⟨rfl, hc3⟩; have C3 := Lib.hid hc3; clear hc3))
      go_ret
      exact ⟨rfl, C3.out.toBelow (Nat.le_refl _) (by simp)⟩
  have hs := b0
  unfold smallB2 at hs
  simp only [Bool.and_eq_true, decide_eq_true_eq] at hs
  obtain ⟨⟨⟨z0, z1⟩, -⟩, -⟩ := hs
  have A1 := Lib.hid (fun w' (hc : Chg [] w w') => freex_any a0 cap0 l0 a1 cap1 l1 s w' (s0.kept hc) (by omega) c0 g0 (s1.kept hc) (by omega) c1 g1)
  have A2 := Lib.hid (fun w' (hc : Chg [] w w') => rfree_any a0 cap0 l0 a1 cap1 l1 s w' (s0.kept hc) (by omega) c0 g0 (s1.kept hc) (by omega) c1 g1)
  have A3 := Lib.hid (fun w' (hc : Chg [] w w') => remove_any a1 cap1 l1 s w' (I1.out.kept hc) (by omega))
  have A4 := Lib.hid (fun w' (hc : Chg [] w w') => rremove_any a1 cap1 l1 s w' (I1.out.kept hc) (by omega))
  have A5 := Lib.hid (fun w' (hc : Chg [] w w') => check_any a0 cap0 l0 a1 cap1 l1 w' (s0.kept hc) (by omega) c0 g0 (s1.kept hc) (by omega) c1 g1)
  have A6 := Lib.hid (fun w' (hc : Chg [] w w') => rcheck_any a0 cap0 l0 a1 cap1 l1 w' (s0.kept hc) (by omega) c0 g0 (s1.kept hc) (by omega) c1 g1)
  have A7 := Lib.hid (fun w' (hc : Chg [] w w') => by
    have := spread_any a1 cap1 l1 s w' (s1.kept hc) (by omega)
    rw [spread_same] at this
    exact this)
  have A8 := Lib.hid (fun w' (hc : Chg [] w w') => rspread_any a1 cap1 l1 s w' (s1.kept hc) (by omega) c1)
  have hrl : (remP l1 s).1.length ≤ 4096 := by
    unfold remP
    split
    · simp
    · simp only [List.length_append, List.length_take, List.length_drop]; omega
  have HRL := Lib.hid hrl
  clear s0 g0 m0 c0 n0 k0 s1 g1 m1 c1 n1 k1 hrl
  obtain ⟨F, hF⟩ : ∃ F, F = freeP l0 l1 s := ⟨_, rfl⟩
  obtain ⟨M, hM⟩ : ∃ M, M = remP l1 s := ⟨_, rfl⟩
  rw [← hF] at A1 A2
  rw [← hM] at A3 A4 HRL
  clear hF hM
  obtain ⟨f1, f2⟩ := F
  obtain ⟨L, e2⟩ := M
  simp only at A1 A2 A3 A4 HRL
  generalize checkP l0 l1 = ck at *
  generalize rsN l1 s l1.length = sp at *
  go_enter Try.func6, Try.ntmps6
  go_wp2_with (first
    | (go_at_call 8; (with_reducible refine A0.out.mono ?_); rw [b0]; rintro e w1 ⟨rfl, rfl⟩)
    | (go_at_call 16; (with_reducible refine (A1.out _ (Chg.refl _ _)).mono ?_); rintro e w2 ⟨rfl, hc2⟩; have C2 := Lib.hid hc2; clear hc2)
    | (go_at_call 21; (with_reducible refine (A2.out _ C2.out).mono ?_); rintro e w3 ⟨rfl, hc3⟩; have C3 := Lib.hid (C2.out.thenSame hc3); clear hc3)
    | (go_at_call 22; (with_reducible refine (A3.out _ C3.out).mono ?_); rintro e w4 ⟨v4, rfl, hr4, hc4⟩; obtain ⟨a4, c4, hv4⟩ := RowOf.shape hr4; subst hv4; have R4 := Lib.hid hr4; have C4 := Lib.hid (C3.out.thenSame hc4); clear hr4 hc4)
    | (go_at_call 23; (with_reducible refine (A4.out _ C4.out).mono ?_); rintro e w5 ⟨v5, rfl, hr5, hc5⟩; obtain ⟨a5, c5, hv5⟩ := RowOf.shape hr5; subst hv5; have C5 := Lib.hid (C4.out.thenSame hc5); have S4 := Lib.hid ((RowOf.sl R4.out plC_len).1.kept hc5); have S5 := Lib.hid (RowOf.sl hr5 plC_len).1; clear hr5 hc5)
    | (go_at_call 20; (with_reducible refine (A5.out _ C5.out).mono ?_); rintro e w6 ⟨rfl, hc6⟩; have C6 := Lib.hid (C5.out.thenSame hc6); have T4 := Lib.hid (S4.out.kept hc6); have T5 := Lib.hid (S5.out.kept hc6); clear hc6)
    | (go_at_call 24; (with_reducible refine (A6.out _ C6.out).mono ?_); rintro e w7 ⟨rfl, hc7⟩; have C7 := Lib.hid (C6.out.thenSame hc7); have U4 := Lib.hid (T4.out.kept hc7); have U5 := Lib.hid (T5.out.kept hc7); clear hc7)
    | (go_at_call 14; (with_reducible refine (same_any _ _ _ _ _ _ _ U4.out U5.out HRL.out HRL.out).mono ?_); rw [same_refl (fun x => eqP_iff.2 rfl)]; rintro e w8 ⟨rfl, hc8⟩; have C8 := Lib.hid (C7.out.thenSame hc8); clear hc8)
    | (go_at_call 25; (with_reducible refine (A7.out _ C8.out).mono ?_); rintro e w9 ⟨rfl, hc9⟩; have C9 := Lib.hid (C8.out.thenSame hc9); clear hc9)
    | (go_at_call 26; (with_reducible refine (A8.out _ C9.out).mono ?_); rintro e w10 ⟨rfl, hc10⟩; have C10 := Lib.hid (C9.out.thenSame hc10); clear hc10)
    | (go_at_call 9; (with_reducible refine (awake_any _).mono ?_); rintro e w11 ⟨rfl, hc11⟩; have C11 := Lib.hid (C10.out.thenSame hc11); clear hc11))
  go_ret
  exact ⟨rfl, C11.out.toBelow (Nat.le_refl _) (by simp)⟩
end Go.Proofs.Ytjbnfaapkicejaa
