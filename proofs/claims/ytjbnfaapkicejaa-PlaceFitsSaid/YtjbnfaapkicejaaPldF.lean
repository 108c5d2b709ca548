/- Chapter 43: PlaceChooses: the worker of a placement is chosen, and the placement added, as the reference says. No condition. -/
import Derived.Test.YtjbnfaapkicejaaPldE
namespace Go.Proofs.Ytjbnfaapkicejaa
set_option linter.unusedVariables false
set_option linter.unusedSimpArgs false
open Go.RowKit
theorem plV_eq (q : Pl) : (.agg (plC q).toArray : Value) = plV q := rfl
set_option maxHeartbeats 16000000 in
set_option maxRecDepth 100000 in
theorem chooses_walk (a0 : Option Addr) (len0 cap0 : Nat) (l0 : List Wk) (a1 : Option Addr) (len1 cap1 : Nat) (l1 : List Pl) (q : Pl) (w : World)
    (h0 : SlIs wkC 3 w a0 len0 l0 ∧ (∀ x ∈ l0, x.good) ∧ len0 ≤ maxLen ∧ len0 ≤ cap0 ∧ (a0 = none → cap0 = 0) ∧ cap0 ≤ maxLen)
    (h1 : SlIs plC 4 w a1 len1 l1 ∧ (∀ x ∈ l1, x.good) ∧ len1 ≤ maxLen ∧ len1 ≤ cap1 ∧ (a1 = none → cap1 = 0) ∧ cap1 ≤ maxLen) (h2 : q.good) :
    Calls Try.prog 3 #[.slice a0 len0 cap0, .slice a1 len1 cap1, .agg (plC q).toArray] w fun e w' => e = .returned (.bool true) ∧ Below w.heap.size w w' := by
  rw [plV_eq]
  obtain ⟨s0, g0, m0, c0, n0, k0⟩ := h0
  obtain ⟨s1, g1, m1, c1, n1, k1⟩ := h1
  obtain rfl := s0.1
  obtain rfl := s1.1
  obtain ⟨W1, hW1⟩ : ∃ W1, W1 = w.alloc (plO q) := ⟨_, rfl⟩
  have C1 := Lib.hid (show Chg [] w W1 by rw [hW1]; exact (Chg.refl _ _).alloc _)
  have X1 := Lib.hid (show W1.heap[w.heap.size]? = some (plO q) by rw [hW1]; exact heap_alloc_new _ _)
  have I1 := Lib.hid (show InIs plC 4 w a1 cap1 l1 from ⟨s1, c1, k1, n1⟩)
  have A0 := Lib.hid (smallF_any a0 cap0 l0 a1 cap1 l1 W1 (s0.kept C1.out) m0 g0 (s1.kept C1.out) m1 g1)
  have K2 := Lib.hid (C1.out.alloc (plO q))
  have X2 := Lib.hid (blk_alloc (o' := plO q) X1.out)
  have N2 := Lib.hid (heap_alloc_new W1 (plO q))
  have B0 := Lib.hid (smallF_any none 0 [] (some ⟨W1.heap.size, 0, none⟩) 1 [q] (W1.alloc (plO q)) ⟨rfl, fun k hk => absurd hk (Nat.not_lt_zero k)⟩ (by unfold maxLen; simp) (by simp) (SlIs.ofBlock [q] N2.out plC_len rfl) (by unfold maxLen; simp) (by intro x hx; simp at hx; subst hx; exact h2))
  have hbad : (smallB2 l0 l1 = false ∨ (smallB2 l0 l1 = true ∧ smallB2 [] [q] = false)) ∨ (smallB2 l0 l1 = true ∧ smallB2 [] [q] = true) := by
    cases smallB2 l0 l1 <;> cases smallB2 [] [q] <;> simp
  have x1 := blk_cell X1.out
  have l1' := lt_of_heap X1.out
  unfold plV
  unfold plO at hW1 X1 X2 N2 K2 B0
  have HW1 := Lib.hid hW1
  clear hW1
  rcases hbad with hbad | ⟨b0, b2⟩
  · clear s0 g0 m0 c0 n0 k0 s1 g1 m1 c1 n1 k1 h2
    rcases hbad with b0 | ⟨b0, b2⟩
    · go_enter Try.func3, Try.ntmps3
      go_wp2_with fail
      rw [← HW1.out]
      go_wp2_with (first
        | (go_at_call 8; (with_reducible refine A0.out.mono ?_); rw [b0]; rintro e w1 ⟨rfl, rfl⟩)
        | (go_at_call 9; (with_reducible refine (awake_any _).mono ?_); rintro e w3 ⟨rfl, hc3⟩; have C3 := Lib.hid (C1.out.thenSame hc3); clear hc3))
      go_ret
      exact ⟨rfl, C3.out.toBelow (Nat.le_refl _) (by simp)⟩
    · go_enter Try.func3, Try.ntmps3
      go_wp2_with fail
      rw [← HW1.out]
      refine A0.out.mono ?_; rw [b0]; rintro e w1 ⟨rfl, rfl⟩
      go_wp2_with (first
        | (go_at_call 8; (refine B0.out.mono ?_); rw [b2]; rintro e w1 ⟨rfl, rfl⟩)
        | (go_at_call 9; (with_reducible refine (awake_any _).mono ?_); rintro e w3 ⟨rfl, hc3⟩; have C3 := Lib.hid (K2.out.thenSame hc3); clear hc3))
      go_ret
      exact ⟨rfl, C3.out.toBelow (Nat.le_refl _) (by simp)⟩
  have hs := b0
  unfold smallB2 at hs
  simp only [Bool.and_eq_true, decide_eq_true_eq] at hs
  obtain ⟨⟨⟨z0, z1⟩, -⟩, -⟩ := hs
  have A1 := Lib.hid (fun w' (hc : Chg [] w w') => choosex_any a0 cap0 l0 a1 cap1 l1 q w' (s0.kept hc) (by omega) c0 g0 (s1.kept hc) (by omega) c1 g1 h2)
  have A2 := Lib.hid (fun w' (hc : Chg [] w w') => rchoose_any a0 cap0 l0 a1 cap1 l1 q w' (s0.kept hc) (by omega) c0 g0 (s1.kept hc) (by omega) c1 g1 h2)
  have A3 := Lib.hid (fun w' (hc : Chg [] w w') => add_any a0 cap0 l0 a1 cap1 l1 q w' (s0.kept hc) (by omega) c0 g0 (I1.out.kept hc) (by omega) g1 h2)
  have A4 := Lib.hid (fun w' (hc : Chg [] w w') => radd_any a0 cap0 l0 a1 cap1 l1 q w' (s0.kept hc) (by omega) c0 g0 (I1.out.kept hc) (by omega) g1 h2)
  have hrl : (addP l0 l1 q).1.length ≤ 4096 := by
    unfold addP
    split
    · split
      · simp
      · simp; omega
    · simp
  have HRL := Lib.hid hrl
  clear s0 g0 m0 c0 n0 k0 s1 g1 m1 c1 n1 k1 hrl h2
  obtain ⟨F, hF⟩ : ∃ F, F = choosePX l0 l1 q := ⟨_, rfl⟩
  obtain ⟨M, hM⟩ : ∃ M, M = addP l0 l1 q := ⟨_, rfl⟩
  rw [← hF] at A1 A2
  rw [← hM] at A3 A4 HRL
  clear hF hM
  obtain ⟨f1, f2⟩ := F
  obtain ⟨L, e2⟩ := M
  simp only at A1 A2 A3 A4 HRL
  unfold plV at A1 A2 A3 A4
  have HO := Lib.hid (show ∀ w', Chg [] W1 w' → (w'.cell? ⟨w.heap.size, 0, none⟩ = some (.string q.id) ∧ w'.cell? ⟨w.heap.size, 1, none⟩ = some (.string q.tn) ∧ w'.cell? ⟨w.heap.size, 2, none⟩ = some (.int .i64 q.mem) ∧ w'.cell? ⟨w.heap.size, 3, none⟩ = some (.string q.wk)) ∧ w.heap.size < w'.heap.size from fun w' hc => by
    have x1 := blk_cell (hc.at (by simp) X1.out)
    exact ⟨⟨x1 0, x1 1, x1 2, x1 3⟩, lt_of_heap (hc.at (by simp) X1.out)⟩)
  have D2 := Lib.hid (show Chg [] W1 (W1.alloc (.cells #[.string q.id, .string q.tn, .int .i64 q.mem, .string q.wk] 25)) from (Chg.refl _ _).alloc _)
  go_enter Try.func3, Try.ntmps3
  go_wp2_with fail
  rw [← HW1.out]
  refine A0.out.mono ?_; rw [b0]; rintro e w1 ⟨rfl, rfl⟩
  go_wp2_with (go_at_call 8; (refine B0.out.mono ?_); rw [b2]; rintro e w1 ⟨rfl, rfl⟩; (obtain ⟨⟨y0, y1, y2, y3⟩, yl⟩ := HO.out _ D2.out))
  refine (A1.out _ K2.out).mono ?_; rintro e w3 ⟨rfl, hc3⟩
  have D3 := Lib.hid (D2.out.thenSame hc3)
  clear y0 y1 y2 y3 yl hc3
  obtain ⟨⟨y0, y1, y2, y3⟩, yl⟩ := HO.out _ D3.out
  go_wp2_with fail
  refine (A2.out _ (C1.out.thenSame D3.out)).mono ?_; rintro e w4 ⟨rfl, hc4⟩
  have D4 := Lib.hid (D3.out.thenSame hc4)
  clear y0 y1 y2 y3 yl hc4
  obtain ⟨⟨y0, y1, y2, y3⟩, yl⟩ := HO.out _ D4.out
  go_wp2_with fail
  refine (A3.out _ (C1.out.thenSame D4.out)).mono ?_; rintro e w5 ⟨v5, rfl, hr5, hc5⟩
  obtain ⟨a5, c5, hv5⟩ := RowOf.shape hr5
  subst hv5
  have D5 := Lib.hid (D4.out.thenSame hc5)
  have S5 := Lib.hid (RowOf.sl hr5 plC_len).1
  clear y0 y1 y2 y3 yl hc5 hr5
  obtain ⟨⟨y0, y1, y2, y3⟩, yl⟩ := HO.out _ D5.out
  go_wp2_with fail
  refine (A4.out _ (C1.out.thenSame D5.out)).mono ?_; rintro e w6 ⟨v6, rfl, hr6, hc6⟩
  obtain ⟨a6, c6, hv6⟩ := RowOf.shape hr6
  subst hv6
  have D6 := Lib.hid (D5.out.thenSame hc6)
  have S6 := Lib.hid (RowOf.sl hr6 plC_len).1
  have T5 := Lib.hid (S5.out.kept hc6)
  clear y0 y1 y2 y3 yl hc6 hr6
  go_wp2_with (first
    | (go_at_call 14; (with_reducible refine (same_any _ _ _ _ _ _ _ T5.out S6.out HRL.out HRL.out).mono ?_); rw [same_refl (fun x => eqP_iff.2 rfl)]; rintro e w8 ⟨rfl, hc8⟩; have D8 := Lib.hid (D6.out.thenSame hc8); clear hc8)
    | (go_at_call 9; (with_reducible refine (awake_any _).mono ?_); rintro e w11 ⟨rfl, hc11⟩; have D11 := Lib.hid (D8.out.thenSame hc11); clear hc11))
  go_ret
  exact ⟨rfl, (C1.out.thenSame D11.out).toBelow (Nat.le_refl _) (by simp)⟩
end Go.Proofs.Ytjbnfaapkicejaa
