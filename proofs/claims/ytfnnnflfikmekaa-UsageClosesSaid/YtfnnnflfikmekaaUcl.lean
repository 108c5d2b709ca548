/- Chapter 52: UsageCloses: after Close, the total of the closed period does not change. No condition. -/
import Derived.Test.YtfnnnflfikmekaaUpA
import Derived.Test.YtfnnnflfikmekaaUseX
namespace Go.Proofs.Ytfnnnflfikmekaa
set_option linter.unusedVariables false
set_option linter.unusedSimpArgs false
open Go.RowKit
set_option maxHeartbeats 8000000 in
set_option maxRecDepth 100000 in
theorem closes_walk (a0 : Option Addr) (len0 cap0 : Nat) (l0 : List OpU) (a1 : Option Addr) (len1 cap1 : Nat) (l1 : List OpU) (tn : ByteArray) (w : World) (h0 : SlIs opC 11 w a0 len0 l0 ∧ (∀ x ∈ l0, x.good) ∧ len0 ≤ maxLen ∧ len0 ≤ cap0) (h1 : SlIs opC 11 w a1 len1 l1 ∧ (∀ x ∈ l1, x.good) ∧ len1 ≤ maxLen ∧ len1 ≤ cap1) (h2 : tn.size ≤ maxLen) :
    Calls Try.prog 5 #[.slice a0 len0 cap0, .slice a1 len1 cap1, .string tn] w fun e w' => e = .returned (.bool true) ∧ Below w.heap.size w w' := by
  obtain ⟨s0, g0, m0, c0⟩ := h0
  obtain ⟨s1, g1, m1, c1⟩ := h1
  obtain rfl := s0.1
  obtain rfl := s1.1
  have S0 := Lib.hid s0
  have S1 := Lib.hid s1
  have G0 := Lib.hid g0
  have G1 := Lib.hid g1
  have N2 := Lib.hid h2
  have A0 := Lib.hid (fun w' (hc : Chg [] w w') => smallF_any a0 l0.length cap0 l0 w' (S0.out.kept hc) G0.out m0)
  have A1 := Lib.hid (fun w' (hc : Chg [] w w') => smallF_any a1 l1.length cap1 l1 w' (S1.out.kept hc) G1.out m1)
  have hbad : (smallU l0 = false ∨ (smallU l0 = true ∧ smallU l1 = false) ∨ (smallU l0 = true ∧ smallU l1 = true ∧ (100 : Int) < (tn.size : Int))) ∨ (smallU l0 = true ∧ smallU l1 = true ∧ (tn.size : Int) ≤ 100) := by
    cases smallU l0 <;> cases smallU l1 <;> by_cases hq : (tn.size : Int) ≤ 100 <;> simp_all <;> omega
  unfold maxLen at h2
  clear s0 s1 g0 g1 c0 c1 m0 m1
  rcases hbad with hbad | ⟨b0, b1, b2⟩
  · rcases hbad with b0 | ⟨b0, b1⟩ | ⟨b0, b1, b2⟩
    all_goals
      go_enter Try.func5, Try.ntmps5
      go_wp2_with (first
        | (go_at_call 9; (with_reducible refine (A0.out _ (Chg.refl _ _)).mono ?_); rw [b0]; rintro e w1 ⟨rfl, hc1⟩; have C1 := Lib.hid hc1; clear hc1)
        | (go_at_call 9; (with_reducible refine (A1.out _ C1.out).mono ?_); rw [b1]; rintro e w2 ⟨rfl, hc2⟩; have C2 := Lib.hid (C1.out.thenSame hc2); clear hc2)
        | (go_at_call 10; (with_reducible refine (awake_any _).mono ?_); rintro e w3 ⟨rfl, hc3⟩; have C3 := Lib.hid hc3; clear hc3))
      go_ret
      exact ⟨rfl, by first | exact (C2.out.thenSame C3.out).toBelow (Nat.le_refl _) (by simp) | exact (C1.out.thenSame C3.out).toBelow (Nat.le_refl _) (by simp)⟩
  have n0 : l0.length ≤ 60 := by
    unfold smallU at b0
    simp only [Bool.and_eq_true, decide_eq_true_eq] at b0
    exact b0.1
  have n1 : l1.length ≤ 60 := by
    unfold smallU at b1
    simp only [Bool.and_eq_true, decide_eq_true_eq] at b1
    exact b1.1
  have N0 := Lib.hid n0
  have N1 := Lib.hid n1
  clear n0 n1
  go_enter Try.func5, Try.ntmps5
  go_wp2_with (first
    | (go_at_call 9; (with_reducible refine (A0.out _ (Chg.refl _ _)).mono ?_); rw [b0]; rintro e w1 ⟨rfl, hc1⟩; have C1 := Lib.hid hc1; clear hc1)
    | (go_at_call 9; (with_reducible refine (A1.out _ C1.out).mono ?_); rw [b1]; rintro e w2 ⟨rfl, hc2⟩; have C2 := Lib.hid (C1.out.thenSame hc2); clear hc2)
    | (go_at_call 11; (with_reducible refine (new_first C2.out).mono ?_); rintro e w3 ⟨b, rfl, hp3⟩; have HP := Lib.hid hp3; clear hp3)
    | (go_at_call 12; (with_reducible refine (p_play noSide HP.out a0 cap0 l0 S0.out G0.out (by have := N0.out; simp; omega)).mono ?_); rintro e w4 ⟨rfl, hp4⟩; have HP := Lib.hid hp4; clear hp4))
  obtain ⟨f1, f2, f3⟩ := play0_facts l0 N0.out
  generalize l0.foldl stepU ⟨[], 0⟩ = s at *
  obtain ⟨L, p⟩ := s
  simp only at f1 f2 f3
  obtain ⟨q1, q2⟩ := close_now L p f2 (by omega)
  have hT := closed_total ⟨L, p + 1⟩ l1 tn p (by simp only []; omega)
  have hl1 := play_len l1 ⟨L, p + 1⟩ 60 f1
  have K1 := p_close noSide HP.out p
  rw [q1, q2] at K1
  have K1 := Lib.hid K1
  rename_i K10
  obtain ⟨T, hTT⟩ : ∃ T, T = totU ⟨L, p + 1⟩ tn p := ⟨_, rfl⟩
  rw [← hTT] at hT
  have HT := Lib.hid hT
  have HT2 := Lib.hid hTT.symm
  have F1 := Lib.hid f1
  have HL1 := Lib.hid hl1
  have QE := Lib.hid (fun w => eqlU T.1 T.1 w)
  rw [eqU_self] at QE
  unfold usV at QE
  obtain ⟨T1, T2⟩ := T
  simp only at QE
  have Q := QE.out
  clear K10 q1 q2 hT hTT f1 hl1
  refine (p_period HP.out).mono ?_; rintro e w5 ⟨rfl, rfl⟩
  go_wp2_with (first
    | (go_at_call 20; (with_reducible refine K1.out.mono ?_); rintro e w5 ⟨rfl, hp5⟩; have HP := Lib.hid hp5; clear hp5)
    | (go_at_call 19; (with_reducible refine (p_period HP.out).mono ?_); rintro e w6 ⟨rfl, rfl⟩))
  have U1 := p_total noSide HP.out tn p N2.out (by have := F1.out; simp; omega)
  rw [HT2.out] at U1
  unfold usV at U1
  refine U1.mono ?_; rintro e w7 ⟨rfl, hc7, hp7⟩
  have HP := Lib.hid (hp7.box (sideL _ _) noSide (usO T1))
  unfold usO at HP
  clear U1 hc7 hp7
  go_wp2_with fail
  generalize w7.alloc (.cells #[.int .i64 T1.inv, .int .i64 T1.steps, .int .i64 T1.ticks, .int .i64 T1.units] 28) = W8 at *
  generalize w7.heap.size = u7 at *
  have sB := Lib.hid (andSide noSide (boxSide u7 (.cells #[.int .i64 T1.inv, .int .i64 T1.steps, .int .i64 T1.ticks, .int .i64 T1.units] 28)))
  refine (p_play sB.out HP.out a1 cap1 l1 S1.out G1.out (by have := N1.out; have := F1.out; simp; omega)).mono ?_; rintro e w9 ⟨rfl, hp9⟩
  have HP := Lib.hid hp9
  clear hp9
  go_wp2_with fail
  have U2 := p_total sB.out HP.out tn p N2.out (by have := HL1.out; have := N1.out; omega)
  rw [HT.out] at U2
  unfold usV at U2
  refine U2.mono ?_; rintro e w10 ⟨rfl, hc10, hp10⟩
  have B10 := Lib.hid hp10.boxAt
  have D10 := Lib.hid hp10.chg
  have x10 := blk_cell B10.out
  have l10 := lt_of_heap B10.out
  clear U2 hc10 hp10 HP
  go_wp2_with (first
    | (go_at_call 10; (with_reducible refine (awake_any _).mono ?_); rintro e w11 ⟨rfl, hc11⟩; have C11 := Lib.hid ((D10.out.alloc (.cells #[.int .i64 T1.inv, .int .i64 T1.steps, .int .i64 T1.ticks, .int .i64 T1.units] 28)).thenSame hc11); clear hc11))
  go_ret
  exact ⟨rfl, C11.out.toBelow (Nat.le_refl _) (by simp)⟩
end Go.Proofs.Ytfnnnflfikmekaa
