/- Over any program: contract of bits.Div64 (the school division). No condition. Over any program with num: valid, MulDiv. No condition. -/
import Derived.Deep.RegionLaw
import Derived.Lib.ItoaNum
import Derived.Lib.MinMax
import Derived.Test.YtehjalgogjkdlaaDoorZ06
import Derived.Test.YtehjalgogjkdlaaDoorZ01
namespace Go.Proofs.YtehjalgogjkdlaaDoor
set_option linter.unusedVariables false
set_option linter.unusedSimpArgs false
open Go.RowKit
theorem lz_any (y : Nat) (hy : y < 18446744073709551616) (w : World) : Calls Tryd.prog 44 #[.int .u64 y] w fun e w' => e = .returned (.int .i64 (64 - Lib.bitLen y)) ∧ w = w' := by
  have A := Lib.hid (Tryd.bits_Len64 y w (by omega) (by omega))
  rw [Int.toNat_natCast] at A
  have hb : Lib.bitLen y ≤ 64 := Lib.bitLen_le y 64 (Nat.le_refl _) (by omega)
  generalize Lib.bitLen y = k at *
  go_enter Tryd.func44, Tryd.ntmps44
  go_wp2_with fail
  refine A.out.mono ?_; rintro e w1 ⟨rfl, rfl⟩
  go_wp2_with fail
  go_ret
  exact ⟨rfl, rfl⟩
theorem u64_in {a : Int} (h0 : 0 ≤ a) (h1 : a < 18446744073709551616) : IntKind.u64.wrap a = a := by rw [IntKind.wrap_u64]; omega
/-- The divisor, shifted. -/
theorem norm_y {y s : Nat} (h2 : y < 18446744073709551616) (hy : y ≠ 0) (hs : s = 64 - Lib.bitLen y) : s ≤ 64 ∧ 9223372036854775808 ≤ y * 2 ^ s ∧ y * 2 ^ s < 18446744073709551616 := by
  obtain ⟨q1, q2, q3⟩ := Lib.bitLenAux_bounds 64 y (by omega) hy
  have hb : Lib.bitLen y ≤ 64 := Lib.bitLen_le y 64 (Nat.le_refl _) (by omega)
  change 1 ≤ Lib.bitLen y at q1
  change 2 ^ (Lib.bitLen y - 1) ≤ y at q2
  change y < 2 ^ Lib.bitLen y at q3
  generalize Lib.bitLen y = k at *
  subst hs
  refine ⟨by omega, ?_, ?_⟩
  · have := Nat.mul_le_mul_right (2 ^ (64 - k)) q2
    rw [← Nat.pow_add, show k - 1 + (64 - k) = 63 by omega] at this
    exact this
  · have := Nat.mul_lt_mul_of_pos_right q3 (Nat.two_pow_pos (64 - k))
    rw [← Nat.pow_add, show k + (64 - k) = 64 by omega] at this
    exact this
set_option maxHeartbeats 4000000 in
set_option maxRecDepth 100000 in
theorem div64_low (lo y : Nat) (h1 : 0 < y) (h2 : y < 18446744073709551616) (h3 : lo < 18446744073709551616) (w : World) : Calls Tryd.prog 25 #[.int .u64 0, .int .u64 lo, .int .u64 y] w fun e w' => (∃ r : Int, e = .returned (.tuple #[.int .u64 (lo / y : Nat), .int .u64 r])) ∧ Chg [] w w' := by
  have hy0 : (y : Int) ≠ 0 := by omega
  have hy1 : ((y : Int) == 0) = false := by rw [beq_eq_false_iff_ne]; omega
  have hy2 : ¬ (y : Int) ≤ 0 := by omega
  have hq : lo / y < 18446744073709551616 := Nat.lt_of_le_of_lt (Nat.div_le_self _ _) h3
  have EQ := Lib.hid (show IntKind.u64.wrap ((lo : Int) / (y : Int)) = ((lo / y : Nat) : Int) by rw [← Int.natCast_ediv]; generalize lo / y = q at *; exact u64_in (by omega) (by omega))
  go_enter Tryd.func25, Tryd.ntmps25
  go_wp2_with fail
  go_quiet (fail)
  go_wp2_with fail
  rw [EQ.out]
  go_ret2
  exact ⟨⟨_, rfl⟩, (Chg.refl _ _).drewN _⟩
set_option maxHeartbeats 8000000 in
set_option maxRecDepth 100000 in
theorem div64_high (hi lo y : Nat) (h0 : hi ≠ 0) (h1 : hi < y) (h2 : y < 18446744073709551616) (h3 : lo < 18446744073709551616) (w : World) : Calls Tryd.prog 25 #[.int .u64 hi, .int .u64 lo, .int .u64 y] w fun e w' => (∃ r : Int, e = .returned (.tuple #[.int .u64 ((hi * 18446744073709551616 + lo) / y : Nat), .int .u64 r])) ∧ Chg [] w w' := by
  have A := Lib.hid (lz_any y h2)
  have hy1 : ((y : Int) == 0) = false := by rw [beq_eq_false_iff_ne]; omega
  have hy2 : ¬ (y : Int) ≤ (hi : Int) := by omega
  have hh1 : ((hi : Int) == 0) = false := by rw [beq_eq_false_iff_ne]; omega
  obtain ⟨s, hs⟩ : ∃ s, s = 64 - Lib.bitLen y := ⟨_, rfl⟩
  obtain ⟨n1, n2, n3⟩ := norm_y h2 (by omega) hs
  have hb : Lib.bitLen y ≤ 64 := Lib.bitLen_le y 64 (Nat.le_refl _) (by omega)
  have e1 : ((64 : Int) - Lib.bitLen y) = (s : Int) := by omega
  rw [e1] at A
  obtain ⟨Y, hY⟩ : ∃ Y, Y = y * 2 ^ s := ⟨_, rfl⟩
  obtain ⟨NN, hNN⟩ : ∃ NN, NN = (hi * 18446744073709551616 + lo) * 2 ^ s := ⟨_, rfl⟩
  obtain ⟨w1, w2, w3⟩ := shift_words (hi := hi) n1 h3
  have hdiv := div_shift hi lo y s (by omega)
  rw [← hY, ← hNN] at hdiv
  rw [← hNN] at w1 w2
  rw [← hY] at n2 n3
  obtain ⟨a, ha⟩ : ∃ a, a = Y / 4294967296 := ⟨_, rfl⟩
  obtain ⟨b, hb⟩ : ∃ b, b = Y % 4294967296 := ⟨_, rfl⟩
  obtain ⟨U, hU⟩ : ∃ U, U = NN / 18446744073709551616 := ⟨_, rfl⟩
  obtain ⟨t, ht⟩ : ∃ t, t = NN % 18446744073709551616 := ⟨_, rfl⟩
  obtain ⟨u1, hu1⟩ : ∃ u1, u1 = t / 4294967296 := ⟨_, rfl⟩
  obtain ⟨u0, hu0⟩ : ∃ u0, u0 = t % 4294967296 := ⟨_, rfl⟩
  have hYab : Y = a * 4294967296 + b := by omega
  have hUY : U < Y := by
    rw [hU, Nat.div_lt_iff_lt_mul (by decide), hNN, hY, Nat.mul_right_comm y]
    refine Nat.mul_lt_mul_of_pos_right ?_ (Nat.two_pow_pos s)
    omega
  have E1 := Lib.hid (show IntKind.u64.wrap ((y : Int) * 2 ^ s) = (Y : Int) by
    have : ((y : Int) * 2 ^ s) = (Y : Int) := by rw [hY, Int.natCast_mul, Int.natCast_pow]; rfl
    rw [this]; exact u64_in (by omega) (by omega))
  have E2 := Lib.hid (show (Y : Int) / 4294967296 = (a : Int) by omega)
  have E3 := Lib.hid (show bits BinOp.and IntKind.u64 (Y : Int) 4294967295 = (b : Int) by rw [Mul64.maskN Y n3, hb])
  have E4 := Lib.hid (show bits BinOp.or IntKind.u64 (IntKind.u64.wrap ((hi : Int) * 2 ^ s)) ((lo : Int) / 2 ^ (64 - s)) = (U : Int) by
    have x1 : hi * 2 ^ s < 18446744073709551616 := Nat.lt_of_le_of_lt (Nat.mul_le_mul_right _ (by omega : hi ≤ y)) (hY ▸ n3)
    have x2 : ((hi : Int) * 2 ^ s) = ((hi * 2 ^ s : Nat) : Int) := by rw [Int.natCast_mul, Int.natCast_pow]; rfl
    have x3 : ((lo : Int) / 2 ^ (64 - s)) = ((lo / 2 ^ (64 - s) : Nat) : Int) := by rw [Int.natCast_ediv, Int.natCast_pow]; rfl
    rw [x2, x3, u64_in (by omega) (by omega), bits_or_u64_nat _ _ x1 (Nat.lt_of_le_of_lt (Nat.div_le_self _ _) h3), or_add w3, hU, w1])
  have E5 := Lib.hid (show IntKind.u64.wrap ((lo : Int) * 2 ^ s) = (t : Int) by
    have x2 : ((lo : Int) * 2 ^ s) = ((lo * 2 ^ s : Nat) : Int) := by rw [Int.natCast_mul, Int.natCast_pow]; rfl
    rw [x2, Mul64.wrapM, ht, w2])
  have E6 := Lib.hid (show (t : Int) / 4294967296 = (u1 : Int) by omega)
  have E7 := Lib.hid (show bits BinOp.and IntKind.u64 (t : Int) 4294967295 = (u0 : Int) by rw [Mul64.maskN t (by omega), hu0])
  have EN := Lib.hid (show (hi * 18446744073709551616 + lo) / y = NN / Y from hdiv.symm)
  have ea : 2147483648 ≤ a := by omega
  have eb : b < 4294967296 := by omega
  have ea2 : a < 4294967296 := by omega
  have eu1 : u1 < 4294967296 := by omega
  have eu0 : u0 < 4294967296 := by omega
  have T0 := Lib.hid (tri_start (U := U) (u := u1) (b := b) (show 0 < a by omega) eu1)
  have HUYu1 := Lib.hid (show U < a * 4294967296 + b by omega)
  have HT := Lib.hid (show U / a ≤ 4294967297 from tri_top ea eb (by omega))
  obtain ⟨q, hq⟩ : ∃ q, q = U / a := ⟨_, rfl⟩
  obtain ⟨r, hr⟩ : ∃ r, r = U % a := ⟨_, rfl⟩
  have hqa := Nat.div_add_mod U a
  rw [Nat.mul_comm, ← hq, ← hr] at hqa
  rw [← hq] at HT T0
  rw [← hr] at T0
  have hra : r < a := by rw [hr]; exact Nat.mod_lt _ (by omega)
  have E8 := Lib.hid (show IntKind.u64.wrap ((U : Int) / (a : Int)) = (q : Int) by rw [← Int.natCast_ediv, ← hq]; exact u64_in (by omega) (by have := HT.out; omega))
  have E9 := Lib.hid (show IntKind.u64.wrap ((U : Int) - IntKind.u64.wrap ((q : Int) * (a : Int))) = (r : Int) by
    obtain ⟨z, hz⟩ : ∃ z, z = q * a := ⟨_, rfl⟩
    have e : (q : Int) * (a : Int) = (z : Int) := by rw [hz, Int.natCast_mul]
    rw [← hz] at hqa
    rw [e, u64_in (a := (z : Int)) (by omega) (by omega)]
    exact (u64_in (by omega) (by omega)).trans (by omega))
  rw [EN.out]
  have ha0 : (a : Int) ≠ 0 := by omega
  have ha1 : ((a : Int) == 0) = false := by rw [beq_eq_false_iff_ne]; omega
  have HU := Lib.hid hU
  have HTt := Lib.hid ht
  have HU1 := Lib.hid hu1
  have HU0 := Lib.hid hu0
  have HYab := Lib.hid hYab
  clear hY hNN w1 w2 w3 hdiv ha hb hs hq hr hqa hU ht hu1 hu0 hYab
  go_enter Tryd.func25, Tryd.ntmps25
  go_wp2_with fail
  refine (A.out _).mono ?_; rintro e w1 ⟨rfl, rfl⟩
  go_upto_region 15 with fail
  rw [E1.out, E2.out, E3.out, E4.out, E5.out, E6.out, E7.out]
  go_upto_region 16 with fail
  rw [E8.out]
  go_wp2_with fail
  rw [E9.out]
  have hQ0 : q ≤ 4294967297 := HT.out
  have hr0 : r < 4294967296 := by omega
  clear A E1 E2 E3 E4 E5 E6 E7 E8 E9 HT hra
  go_loopw [15, 16] (fun qv rv wr => ∃ Q R : Nat, qv = .int .u64 Q ∧ rv = .int .u64 R ∧ R < 4294967296 ∧ Q ≤ 4294967297 ∧ Hid (Tri U u1 a b Q R) ∧ Hid (Chg [] w wr)) (fun qv _ _ => (intOf qv).toNat)
  case atStart => exact ⟨q, r, rfl, rfl, hr0, hQ0, T0, Lib.hid (Chg.refl _ _)⟩
  case round =>
    clear T0 hQ0 hr0
    obtain ⟨Q, R, rfl, rfl, hR, hQ, HTR, HCW⟩ := hrel
    by_cases hc : 4294967296 ≤ Q ∨ 4294967296 * R + u1 < Q * b
    · obtain ⟨d1, d2⟩ := tri_down HTR.out HUYu1.out eu1 hc
      obtain ⟨Q1, eQ1⟩ : ∃ Q1, Q = Q1 + 1 := ⟨Q - 1, by omega⟩
      obtain ⟨R1, eR1⟩ : ∃ R1, R1 = R + a := ⟨_, rfl⟩
      rw [eQ1, Nat.add_sub_cancel, ← eR1] at d2
      have D2 := Lib.hid d2
      have G1 := Lib.hid (show (Q : Int) - 1 = (Q1 : Int) by omega)
      have G2 := Lib.hid (show (R : Int) + (a : Int) = (R1 : Int) by omega)
      have hQ1 : Q1 ≤ 4294967296 := by omega
      have hQ2 : Q1 < Q := by omega
      have hR1 : R1 < 8589934592 := by omega
      have hQp : 1 ≤ Q := by omega
      have hcases : (4294967296 : Int) ≤ (Q : Int) ∨ ∃ P : Nat, ¬ (4294967296 : Int) ≤ (Q : Int) ∧ IntKind.u64.wrap ((Q : Int) * (b : Int)) = (P : Int) ∧ 4294967296 * (R : Int) + (u1 : Int) < (P : Int) := by
        by_cases hc2 : 4294967296 ≤ Q
        · exact Or.inl (by omega)
        · obtain ⟨P, hP⟩ : ∃ P, P = Q * b := ⟨_, rfl⟩
          have hP1 : P < 18446744073709551616 := by
            have := Nat.mul_le_mul (show Q ≤ 4294967295 by omega) (show b ≤ 4294967295 by omega)
            omega
          refine Or.inr ⟨P, by omega, ?_, ?_⟩
          · rw [← Int.natCast_mul, ← hP]; exact u64_in (by omega) (by omega)
          · omega
      clear d2 eQ1 eR1 d1 HTR hc
      rcases hcases with hc3 | ⟨P, hc3, g3, g4⟩
      · by_cases hbr : 4294967296 ≤ R1
        · have hbr2 : (4294967296 : Int) ≤ (R1 : Int) := by omega
          have HQD := Lib.hid (tri_break D2.out (by omega) hQ1 eb hbr)
          clear hbr
          go_upto_region 20 with fail
          rw [G1.out, G2.out]
          clear G1 G2 D2 hQ2 hQp hc3 hR hQ
          obtain ⟨r1, hr1⟩ : ∃ r1, r1 = (U * 4294967296 + u1) % (a * 4294967296 + b) := ⟨_, rfl⟩
          have hrest := tri_rest HQD.out
          rw [← hr1, ← HYab.out] at hrest
          have hrY : r1 < Y := by rw [hr1, ← HYab.out]; exact Nat.mod_lt _ (by omega)
          have F1 := Lib.hid (show IntKind.u64.wrap (IntKind.u64.wrap (IntKind.u64.wrap ((U : Int) * 4294967296) + (u1 : Int)) - IntKind.u64.wrap ((Q1 : Int) * (Y : Int))) = (r1 : Int) by
            obtain ⟨z, hz⟩ : ∃ z, z = Q1 * Y := ⟨_, rfl⟩
            have e : (Q1 : Int) * (Y : Int) = (z : Int) := by rw [hz, Int.natCast_mul]
            rw [← hz] at hrest
            rw [e]
            simp only [IntKind.wrap_u64]
            omega)
          obtain ⟨q2, hq2⟩ : ∃ q2, q2 = r1 / a := ⟨_, rfl⟩
          obtain ⟨r2, hr2⟩ : ∃ r2, r2 = r1 % a := ⟨_, rfl⟩
          have hqa := Nat.div_add_mod r1 a
          rw [Nat.mul_comm, ← hq2, ← hr2] at hqa
          have hra : r2 < a := by rw [hr2]; exact Nat.mod_lt _ (by omega)
          have hq2t : q2 ≤ 4294967297 := by rw [hq2]; exact tri_top ea eb (by have := HYab.out; omega)
          have T1 := Lib.hid (tri_start (U := r1) (u := u0) (b := b) (show 0 < a by omega) eu0)
          rw [← hq2, ← hr2] at T1
          have F2 := Lib.hid (show IntKind.u64.wrap ((r1 : Int) / (a : Int)) = (q2 : Int) by rw [← Int.natCast_ediv, ← hq2]; exact u64_in (by omega) (by omega))
          have F3 := Lib.hid (show IntKind.u64.wrap ((r1 : Int) - IntKind.u64.wrap ((q2 : Int) * (a : Int))) = (r2 : Int) by
            obtain ⟨z, hz⟩ : ∃ z, z = q2 * a := ⟨_, rfl⟩
            have e : (q2 : Int) * (a : Int) = (z : Int) := by rw [hz, Int.natCast_mul]
            rw [← hz] at hqa
            rw [e, u64_in (a := (z : Int)) (by omega) (by omega)]
            exact (u64_in (by omega) (by omega)).trans (by omega))
          have HQ1 := Lib.hid HQD.out
          have HRest := Lib.hid hrest
          have HUYu0 := Lib.hid (show r1 < a * 4294967296 + b by have := HYab.out; omega)
          have hr20 : r2 < 4294967296 := by omega
          clear hr1 hrest hq2 hr2 hqa HQD hra
          go_upto_region 22 with fail
          rw [F1.out]
          go_upto_region 23 with fail
          rw [F2.out]
          go_wp2_with fail
          rw [F3.out]
          clear F1 F2 F3
          generalize Q1 = QA at *
          generalize R1 = RA at *
          have HQA := Lib.hid (show QA < 4294967296 by rw [HQ1.out]; exact tri_lt HUYu1.out eu1)
          go_loopw [18, 16] (fun qv rv wr => ∃ Q R : Nat, qv = .int .u64 Q ∧ rv = .int .u64 R ∧ R < 4294967296 ∧ Q ≤ 4294967297 ∧ Hid (Tri r1 u0 a b Q R) ∧ Hid (Chg [] w wr)) (fun qv _ _ => (intOf qv).toNat)
          case atStart => exact ⟨q2, r2, rfl, rfl, hr20, hq2t, T1, HCW⟩
          case round =>
            clear T1 hq2t hr20
            obtain ⟨Q, R, rfl, rfl, hR, hQ, HTR, HCW⟩ := hrel
            by_cases hc : 4294967296 ≤ Q ∨ 4294967296 * R + u0 < Q * b
            · obtain ⟨d1, d2⟩ := tri_down HTR.out HUYu0.out eu0 hc
              obtain ⟨Q1, eQ1⟩ : ∃ Q1, Q = Q1 + 1 := ⟨Q - 1, by omega⟩
              obtain ⟨R1, eR1⟩ : ∃ R1, R1 = R + a := ⟨_, rfl⟩
              rw [eQ1, Nat.add_sub_cancel, ← eR1] at d2
              have D2 := Lib.hid d2
              have G1 := Lib.hid (show (Q : Int) - 1 = (Q1 : Int) by omega)
              have G2 := Lib.hid (show (R : Int) + (a : Int) = (R1 : Int) by omega)
              have hQ1 : Q1 ≤ 4294967296 := by omega
              have hQ2 : Q1 < Q := by omega
              have hR1 : R1 < 8589934592 := by omega
              have hQp : 1 ≤ Q := by omega
              have hcases : (4294967296 : Int) ≤ (Q : Int) ∨ ∃ P : Nat, ¬ (4294967296 : Int) ≤ (Q : Int) ∧ IntKind.u64.wrap ((Q : Int) * (b : Int)) = (P : Int) ∧ 4294967296 * (R : Int) + (u0 : Int) < (P : Int) := by
                by_cases hc2 : 4294967296 ≤ Q
                · exact Or.inl (by omega)
                · obtain ⟨P, hP⟩ : ∃ P, P = Q * b := ⟨_, rfl⟩
                  have hP1 : P < 18446744073709551616 := by
                    have := Nat.mul_le_mul (show Q ≤ 4294967295 by omega) (show b ≤ 4294967295 by omega)
                    omega
                  refine Or.inr ⟨P, by omega, ?_, ?_⟩
                  · rw [← Int.natCast_mul, ← hP]; exact u64_in (by omega) (by omega)
                  · omega
              clear d2 eQ1 eR1 d1 HTR hc
              rcases hcases with hc3 | ⟨P, hc3, g3, g4⟩
              · by_cases hbr : 4294967296 ≤ R1
                · have hbr2 : (4294967296 : Int) ≤ (R1 : Int) := by omega
                  have HQD := Lib.hid (tri_break D2.out (by omega) hQ1 eb hbr)
                  clear hbr
                  go_upto_region 27 with fail
                  rw [G1.out, G2.out]
                  clear G1 G2 D2 hQ2 hQp hc3 hR hQ
                  have HQ2 := Lib.hid HQD.out
                  have hq2l : Q1 < 4294967296 := by rw [HQ2.out]; exact tri_lt HUYu0.out eu0
                  have HF := Lib.hid (show IntKind.u64.wrap (IntKind.u64.wrap ((QA : Int) * 4294967296) + (Q1 : Int)) = ((NN / Y : Nat) : Int) by
                    have h8 := div_two (N := NN) (Y := Y) (q1 := QA) (r1 := r1) (by have h1 := HRest.out; have h2 := HU.out; have h3 := HTt.out; have h4 := HU1.out; rw [← h2, ← h3, ← h4]; exact h1) hrY
                    have h9 : NN % 4294967296 = u0 := by have h3 := HTt.out; have h4 := HU0.out; omega
                    rw [h9, HYab.out, ← HQ2.out] at h8
                    rw [HYab.out, h8]
                    have := HQA.out
                    simp only [IntKind.wrap_u64]
                    omega)
                  have HF2 := Lib.hid (show (QA : Int) * 4294967296 + (Q1 : Int) = ((NN / Y : Nat) : Int) by
                    have h3 := HF.out
                    have := HQA.out
                    rw [← h3]
                    simp only [IntKind.wrap_u64]
                    omega)
                  go_wp2_with fail
                  first | rw [HF.out] | rw [HF2.out]
                  go_ret2
                  exact ⟨⟨_, rfl⟩, HCW.out⟩
                · have hbr2 : ¬ (4294967296 : Int) ≤ (R1 : Int) := by omega
                  go_upto_region 27 with fail
                  rw [G1.out, G2.out]
                  clear hc3
                  go_wp2_with fail
                  exact ⟨⟨Q1, R1, rfl, rfl, by omega, by omega, D2, HCW⟩, by simp [intOf]; omega⟩
              · by_cases hbr : 4294967296 ≤ R1
                · have hbr2 : (4294967296 : Int) ≤ (R1 : Int) := by omega
                  have HQD := Lib.hid (tri_break D2.out (by omega) hQ1 eb hbr)
                  clear hbr
                  go_upto_region 27 with fail
                  rw [G1.out, G2.out]
                  clear G1 G2 D2 hQ2 hQp hc3 g3 g4 hR hQ
                  have HQ2 := Lib.hid HQD.out
                  have hq2l : Q1 < 4294967296 := by rw [HQ2.out]; exact tri_lt HUYu0.out eu0
                  have HF := Lib.hid (show IntKind.u64.wrap (IntKind.u64.wrap ((QA : Int) * 4294967296) + (Q1 : Int)) = ((NN / Y : Nat) : Int) by
                    have h8 := div_two (N := NN) (Y := Y) (q1 := QA) (r1 := r1) (by have h1 := HRest.out; have h2 := HU.out; have h3 := HTt.out; have h4 := HU1.out; rw [← h2, ← h3, ← h4]; exact h1) hrY
                    have h9 : NN % 4294967296 = u0 := by have h3 := HTt.out; have h4 := HU0.out; omega
                    rw [h9, HYab.out, ← HQ2.out] at h8
                    rw [HYab.out, h8]
                    have := HQA.out
                    simp only [IntKind.wrap_u64]
                    omega)
                  have HF2 := Lib.hid (show (QA : Int) * 4294967296 + (Q1 : Int) = ((NN / Y : Nat) : Int) by
                    have h3 := HF.out
                    have := HQA.out
                    rw [← h3]
                    simp only [IntKind.wrap_u64]
                    omega)
                  go_wp2_with fail
                  first | rw [HF.out] | rw [HF2.out]
                  go_ret2
                  exact ⟨⟨_, rfl⟩, HCW.out⟩
                · have hbr2 : ¬ (4294967296 : Int) ≤ (R1 : Int) := by omega
                  go_upto_region 27 with fail
                  rw [G1.out, G2.out]
                  clear hc3 g3 g4
                  go_wp2_with fail
                  exact ⟨⟨Q1, R1, rfl, rfl, by omega, by omega, D2, HCW⟩, by simp [intOf]; omega⟩
            · have hq1 : Q < 4294967296 := by omega
              have hq2 : Q * b ≤ 4294967296 * R + u0 := by omega
              have HQD := Lib.hid (tri_end HTR.out (by omega) hq2)
              obtain ⟨P, hP⟩ : ∃ P, P = Q * b := ⟨_, rfl⟩
              have hP1 : P < 18446744073709551616 := by
                have := Nat.mul_le_mul (show Q ≤ 4294967295 by omega) (show b ≤ 4294967295 by omega)
                omega
              have g3 : IntKind.u64.wrap ((Q : Int) * (b : Int)) = (P : Int) := by rw [← Int.natCast_mul, ← hP]; exact u64_in (by omega) (by omega)
              have g4 : ¬ 4294967296 * (R : Int) + (u0 : Int) < (P : Int) := by omega
              have hc3 : ¬ (4294967296 : Int) ≤ (Q : Int) := by omega
              clear hc hq2 hP HTR
              go_upto_region 28 with fail
              clear hc3 g3 g4 hR hQ hP1
              have HQ2 := Lib.hid HQD.out
              have hq2l : Q < 4294967296 := by rw [HQ2.out]; exact tri_lt HUYu0.out eu0
              have HF := Lib.hid (show IntKind.u64.wrap (IntKind.u64.wrap ((QA : Int) * 4294967296) + (Q : Int)) = ((NN / Y : Nat) : Int) by
                have h8 := div_two (N := NN) (Y := Y) (q1 := QA) (r1 := r1) (by have h1 := HRest.out; have h2 := HU.out; have h3 := HTt.out; have h4 := HU1.out; rw [← h2, ← h3, ← h4]; exact h1) hrY
                have h9 : NN % 4294967296 = u0 := by have h3 := HTt.out; have h4 := HU0.out; omega
                rw [h9, HYab.out, ← HQ2.out] at h8
                rw [HYab.out, h8]
                have := HQA.out
                simp only [IntKind.wrap_u64]
                omega)
              have HF2 := Lib.hid (show (QA : Int) * 4294967296 + (Q : Int) = ((NN / Y : Nat) : Int) by
                have h3 := HF.out
                have := HQA.out
                rw [← h3]
                simp only [IntKind.wrap_u64]
                omega)
              go_wp2_with fail
              first | rw [HF.out] | rw [HF2.out]
              go_ret2
              exact ⟨⟨_, rfl⟩, HCW.out⟩
        · have hbr2 : ¬ (4294967296 : Int) ≤ (R1 : Int) := by omega
          go_upto_region 20 with fail
          rw [G1.out, G2.out]
          clear hc3
          go_wp2_with fail
          exact ⟨⟨Q1, R1, rfl, rfl, by omega, by omega, D2, HCW⟩, by simp [intOf]; omega⟩
      · by_cases hbr : 4294967296 ≤ R1
        · have hbr2 : (4294967296 : Int) ≤ (R1 : Int) := by omega
          have HQD := Lib.hid (tri_break D2.out (by omega) hQ1 eb hbr)
          clear hbr
          go_upto_region 20 with fail
          rw [G1.out, G2.out]
          clear G1 G2 D2 hQ2 hQp hc3 g3 g4 hR hQ
          obtain ⟨r1, hr1⟩ : ∃ r1, r1 = (U * 4294967296 + u1) % (a * 4294967296 + b) := ⟨_, rfl⟩
          have hrest := tri_rest HQD.out
          rw [← hr1, ← HYab.out] at hrest
          have hrY : r1 < Y := by rw [hr1, ← HYab.out]; exact Nat.mod_lt _ (by omega)
          have F1 := Lib.hid (show IntKind.u64.wrap (IntKind.u64.wrap (IntKind.u64.wrap ((U : Int) * 4294967296) + (u1 : Int)) - IntKind.u64.wrap ((Q1 : Int) * (Y : Int))) = (r1 : Int) by
            obtain ⟨z, hz⟩ : ∃ z, z = Q1 * Y := ⟨_, rfl⟩
            have e : (Q1 : Int) * (Y : Int) = (z : Int) := by rw [hz, Int.natCast_mul]
            rw [← hz] at hrest
            rw [e]
            simp only [IntKind.wrap_u64]
            omega)
          obtain ⟨q2, hq2⟩ : ∃ q2, q2 = r1 / a := ⟨_, rfl⟩
          obtain ⟨r2, hr2⟩ : ∃ r2, r2 = r1 % a := ⟨_, rfl⟩
          have hqa := Nat.div_add_mod r1 a
          rw [Nat.mul_comm, ← hq2, ← hr2] at hqa
          have hra : r2 < a := by rw [hr2]; exact Nat.mod_lt _ (by omega)
          have hq2t : q2 ≤ 4294967297 := by rw [hq2]; exact tri_top ea eb (by have := HYab.out; omega)
          have T1 := Lib.hid (tri_start (U := r1) (u := u0) (b := b) (show 0 < a by omega) eu0)
          rw [← hq2, ← hr2] at T1
          have F2 := Lib.hid (show IntKind.u64.wrap ((r1 : Int) / (a : Int)) = (q2 : Int) by rw [← Int.natCast_ediv, ← hq2]; exact u64_in (by omega) (by omega))
          have F3 := Lib.hid (show IntKind.u64.wrap ((r1 : Int) - IntKind.u64.wrap ((q2 : Int) * (a : Int))) = (r2 : Int) by
            obtain ⟨z, hz⟩ : ∃ z, z = q2 * a := ⟨_, rfl⟩
            have e : (q2 : Int) * (a : Int) = (z : Int) := by rw [hz, Int.natCast_mul]
            rw [← hz] at hqa
            rw [e, u64_in (a := (z : Int)) (by omega) (by omega)]
            exact (u64_in (by omega) (by omega)).trans (by omega))
          have HQ1 := Lib.hid HQD.out
          have HRest := Lib.hid hrest
          have HUYu0 := Lib.hid (show r1 < a * 4294967296 + b by have := HYab.out; omega)
          have hr20 : r2 < 4294967296 := by omega
          clear hr1 hrest hq2 hr2 hqa HQD hra
          go_upto_region 22 with fail
          rw [F1.out]
          go_upto_region 23 with fail
          rw [F2.out]
          go_wp2_with fail
          rw [F3.out]
          clear F1 F2 F3
          generalize Q1 = QA at *
          generalize R1 = RA at *
          have HQA := Lib.hid (show QA < 4294967296 by rw [HQ1.out]; exact tri_lt HUYu1.out eu1)
          go_loopw [18, 16] (fun qv rv wr => ∃ Q R : Nat, qv = .int .u64 Q ∧ rv = .int .u64 R ∧ R < 4294967296 ∧ Q ≤ 4294967297 ∧ Hid (Tri r1 u0 a b Q R) ∧ Hid (Chg [] w wr)) (fun qv _ _ => (intOf qv).toNat)
          case atStart => exact ⟨q2, r2, rfl, rfl, hr20, hq2t, T1, HCW⟩
          case round =>
            clear T1 hq2t hr20
            obtain ⟨Q, R, rfl, rfl, hR, hQ, HTR, HCW⟩ := hrel
            by_cases hc : 4294967296 ≤ Q ∨ 4294967296 * R + u0 < Q * b
            · obtain ⟨d1, d2⟩ := tri_down HTR.out HUYu0.out eu0 hc
              obtain ⟨Q1, eQ1⟩ : ∃ Q1, Q = Q1 + 1 := ⟨Q - 1, by omega⟩
              obtain ⟨R1, eR1⟩ : ∃ R1, R1 = R + a := ⟨_, rfl⟩
              rw [eQ1, Nat.add_sub_cancel, ← eR1] at d2
              have D2 := Lib.hid d2
              have G1 := Lib.hid (show (Q : Int) - 1 = (Q1 : Int) by omega)
              have G2 := Lib.hid (show (R : Int) + (a : Int) = (R1 : Int) by omega)
              have hQ1 : Q1 ≤ 4294967296 := by omega
              have hQ2 : Q1 < Q := by omega
              have hR1 : R1 < 8589934592 := by omega
              have hQp : 1 ≤ Q := by omega
              have hcases : (4294967296 : Int) ≤ (Q : Int) ∨ ∃ P : Nat, ¬ (4294967296 : Int) ≤ (Q : Int) ∧ IntKind.u64.wrap ((Q : Int) * (b : Int)) = (P : Int) ∧ 4294967296 * (R : Int) + (u0 : Int) < (P : Int) := by
                by_cases hc2 : 4294967296 ≤ Q
                · exact Or.inl (by omega)
                · obtain ⟨P, hP⟩ : ∃ P, P = Q * b := ⟨_, rfl⟩
                  have hP1 : P < 18446744073709551616 := by
                    have := Nat.mul_le_mul (show Q ≤ 4294967295 by omega) (show b ≤ 4294967295 by omega)
                    omega
                  refine Or.inr ⟨P, by omega, ?_, ?_⟩
                  · rw [← Int.natCast_mul, ← hP]; exact u64_in (by omega) (by omega)
                  · omega
              clear d2 eQ1 eR1 d1 HTR hc
              rcases hcases with hc3 | ⟨P, hc3, g3, g4⟩
              · by_cases hbr : 4294967296 ≤ R1
                · have hbr2 : (4294967296 : Int) ≤ (R1 : Int) := by omega
                  have HQD := Lib.hid (tri_break D2.out (by omega) hQ1 eb hbr)
                  clear hbr
                  go_upto_region 27 with fail
                  rw [G1.out, G2.out]
                  clear G1 G2 D2 hQ2 hQp hc3 hR hQ
                  have HQ2 := Lib.hid HQD.out
                  have hq2l : Q1 < 4294967296 := by rw [HQ2.out]; exact tri_lt HUYu0.out eu0
                  have HF := Lib.hid (show IntKind.u64.wrap (IntKind.u64.wrap ((QA : Int) * 4294967296) + (Q1 : Int)) = ((NN / Y : Nat) : Int) by
                    have h8 := div_two (N := NN) (Y := Y) (q1 := QA) (r1 := r1) (by have h1 := HRest.out; have h2 := HU.out; have h3 := HTt.out; have h4 := HU1.out; rw [← h2, ← h3, ← h4]; exact h1) hrY
                    have h9 : NN % 4294967296 = u0 := by have h3 := HTt.out; have h4 := HU0.out; omega
                    rw [h9, HYab.out, ← HQ2.out] at h8
                    rw [HYab.out, h8]
                    have := HQA.out
                    simp only [IntKind.wrap_u64]
                    omega)
                  have HF2 := Lib.hid (show (QA : Int) * 4294967296 + (Q1 : Int) = ((NN / Y : Nat) : Int) by
                    have h3 := HF.out
                    have := HQA.out
                    rw [← h3]
                    simp only [IntKind.wrap_u64]
                    omega)
                  go_wp2_with fail
                  first | rw [HF.out] | rw [HF2.out]
                  go_ret2
                  exact ⟨⟨_, rfl⟩, HCW.out⟩
                · have hbr2 : ¬ (4294967296 : Int) ≤ (R1 : Int) := by omega
                  go_upto_region 27 with fail
                  rw [G1.out, G2.out]
                  clear hc3
                  go_wp2_with fail
                  exact ⟨⟨Q1, R1, rfl, rfl, by omega, by omega, D2, HCW⟩, by simp [intOf]; omega⟩
              · by_cases hbr : 4294967296 ≤ R1
                · have hbr2 : (4294967296 : Int) ≤ (R1 : Int) := by omega
                  have HQD := Lib.hid (tri_break D2.out (by omega) hQ1 eb hbr)
                  clear hbr
                  go_upto_region 27 with fail
                  rw [G1.out, G2.out]
                  clear G1 G2 D2 hQ2 hQp hc3 g3 g4 hR hQ
                  have HQ2 := Lib.hid HQD.out
                  have hq2l : Q1 < 4294967296 := by rw [HQ2.out]; exact tri_lt HUYu0.out eu0
                  have HF := Lib.hid (show IntKind.u64.wrap (IntKind.u64.wrap ((QA : Int) * 4294967296) + (Q1 : Int)) = ((NN / Y : Nat) : Int) by
                    have h8 := div_two (N := NN) (Y := Y) (q1 := QA) (r1 := r1) (by have h1 := HRest.out; have h2 := HU.out; have h3 := HTt.out; have h4 := HU1.out; rw [← h2, ← h3, ← h4]; exact h1) hrY
                    have h9 : NN % 4294967296 = u0 := by have h3 := HTt.out; have h4 := HU0.out; omega
                    rw [h9, HYab.out, ← HQ2.out] at h8
                    rw [HYab.out, h8]
                    have := HQA.out
                    simp only [IntKind.wrap_u64]
                    omega)
                  have HF2 := Lib.hid (show (QA : Int) * 4294967296 + (Q1 : Int) = ((NN / Y : Nat) : Int) by
                    have h3 := HF.out
                    have := HQA.out
                    rw [← h3]
                    simp only [IntKind.wrap_u64]
                    omega)
                  go_wp2_with fail
                  first | rw [HF.out] | rw [HF2.out]
                  go_ret2
                  exact ⟨⟨_, rfl⟩, HCW.out⟩
                · have hbr2 : ¬ (4294967296 : Int) ≤ (R1 : Int) := by omega
                  go_upto_region 27 with fail
                  rw [G1.out, G2.out]
                  clear hc3 g3 g4
                  go_wp2_with fail
                  exact ⟨⟨Q1, R1, rfl, rfl, by omega, by omega, D2, HCW⟩, by simp [intOf]; omega⟩
            · have hq1 : Q < 4294967296 := by omega
              have hq2 : Q * b ≤ 4294967296 * R + u0 := by omega
              have HQD := Lib.hid (tri_end HTR.out (by omega) hq2)
              obtain ⟨P, hP⟩ : ∃ P, P = Q * b := ⟨_, rfl⟩
              have hP1 : P < 18446744073709551616 := by
                have := Nat.mul_le_mul (show Q ≤ 4294967295 by omega) (show b ≤ 4294967295 by omega)
                omega
              have g3 : IntKind.u64.wrap ((Q : Int) * (b : Int)) = (P : Int) := by rw [← Int.natCast_mul, ← hP]; exact u64_in (by omega) (by omega)
              have g4 : ¬ 4294967296 * (R : Int) + (u0 : Int) < (P : Int) := by omega
              have hc3 : ¬ (4294967296 : Int) ≤ (Q : Int) := by omega
              clear hc hq2 hP HTR
              go_upto_region 28 with fail
              clear hc3 g3 g4 hR hQ hP1
              have HQ2 := Lib.hid HQD.out
              have hq2l : Q < 4294967296 := by rw [HQ2.out]; exact tri_lt HUYu0.out eu0
              have HF := Lib.hid (show IntKind.u64.wrap (IntKind.u64.wrap ((QA : Int) * 4294967296) + (Q : Int)) = ((NN / Y : Nat) : Int) by
                have h8 := div_two (N := NN) (Y := Y) (q1 := QA) (r1 := r1) (by have h1 := HRest.out; have h2 := HU.out; have h3 := HTt.out; have h4 := HU1.out; rw [← h2, ← h3, ← h4]; exact h1) hrY
                have h9 : NN % 4294967296 = u0 := by have h3 := HTt.out; have h4 := HU0.out; omega
                rw [h9, HYab.out, ← HQ2.out] at h8
                rw [HYab.out, h8]
                have := HQA.out
                simp only [IntKind.wrap_u64]
                omega)
              have HF2 := Lib.hid (show (QA : Int) * 4294967296 + (Q : Int) = ((NN / Y : Nat) : Int) by
                have h3 := HF.out
                have := HQA.out
                rw [← h3]
                simp only [IntKind.wrap_u64]
                omega)
              go_wp2_with fail
              first | rw [HF.out] | rw [HF2.out]
              go_ret2
              exact ⟨⟨_, rfl⟩, HCW.out⟩
        · have hbr2 : ¬ (4294967296 : Int) ≤ (R1 : Int) := by omega
          go_upto_region 20 with fail
          rw [G1.out, G2.out]
          clear hc3 g3 g4
          go_wp2_with fail
          exact ⟨⟨Q1, R1, rfl, rfl, by omega, by omega, D2, HCW⟩, by simp [intOf]; omega⟩
    · have hq1 : Q < 4294967296 := by omega
      have hq2 : Q * b ≤ 4294967296 * R + u1 := by omega
      have HQD := Lib.hid (tri_end HTR.out (by omega) hq2)
      obtain ⟨P, hP⟩ : ∃ P, P = Q * b := ⟨_, rfl⟩
      have hP1 : P < 18446744073709551616 := by
        have := Nat.mul_le_mul (show Q ≤ 4294967295 by omega) (show b ≤ 4294967295 by omega)
        omega
      have g3 : IntKind.u64.wrap ((Q : Int) * (b : Int)) = (P : Int) := by rw [← Int.natCast_mul, ← hP]; exact u64_in (by omega) (by omega)
      have g4 : ¬ 4294967296 * (R : Int) + (u1 : Int) < (P : Int) := by omega
      have hc3 : ¬ (4294967296 : Int) ≤ (Q : Int) := by omega
      clear hc hq2 hP HTR
      go_upto_region 21 with fail
      clear hc3 g3 g4 hR hQ hP1
      obtain ⟨r1, hr1⟩ : ∃ r1, r1 = (U * 4294967296 + u1) % (a * 4294967296 + b) := ⟨_, rfl⟩
      have hrest := tri_rest HQD.out
      rw [← hr1, ← HYab.out] at hrest
      have hrY : r1 < Y := by rw [hr1, ← HYab.out]; exact Nat.mod_lt _ (by omega)
      have F1 := Lib.hid (show IntKind.u64.wrap (IntKind.u64.wrap (IntKind.u64.wrap ((U : Int) * 4294967296) + (u1 : Int)) - IntKind.u64.wrap ((Q : Int) * (Y : Int))) = (r1 : Int) by
        obtain ⟨z, hz⟩ : ∃ z, z = Q * Y := ⟨_, rfl⟩
        have e : (Q : Int) * (Y : Int) = (z : Int) := by rw [hz, Int.natCast_mul]
        rw [← hz] at hrest
        rw [e]
        simp only [IntKind.wrap_u64]
        omega)
      obtain ⟨q2, hq2⟩ : ∃ q2, q2 = r1 / a := ⟨_, rfl⟩
      obtain ⟨r2, hr2⟩ : ∃ r2, r2 = r1 % a := ⟨_, rfl⟩
      have hqa := Nat.div_add_mod r1 a
      rw [Nat.mul_comm, ← hq2, ← hr2] at hqa
      have hra : r2 < a := by rw [hr2]; exact Nat.mod_lt _ (by omega)
      have hq2t : q2 ≤ 4294967297 := by rw [hq2]; exact tri_top ea eb (by have := HYab.out; omega)
      have T1 := Lib.hid (tri_start (U := r1) (u := u0) (b := b) (show 0 < a by omega) eu0)
      rw [← hq2, ← hr2] at T1
      have F2 := Lib.hid (show IntKind.u64.wrap ((r1 : Int) / (a : Int)) = (q2 : Int) by rw [← Int.natCast_ediv, ← hq2]; exact u64_in (by omega) (by omega))
      have F3 := Lib.hid (show IntKind.u64.wrap ((r1 : Int) - IntKind.u64.wrap ((q2 : Int) * (a : Int))) = (r2 : Int) by
        obtain ⟨z, hz⟩ : ∃ z, z = q2 * a := ⟨_, rfl⟩
        have e : (q2 : Int) * (a : Int) = (z : Int) := by rw [hz, Int.natCast_mul]
        rw [← hz] at hqa
        rw [e, u64_in (a := (z : Int)) (by omega) (by omega)]
        exact (u64_in (by omega) (by omega)).trans (by omega))
      have HQ1 := Lib.hid HQD.out
      have HRest := Lib.hid hrest
      have HUYu0 := Lib.hid (show r1 < a * 4294967296 + b by have := HYab.out; omega)
      have hr20 : r2 < 4294967296 := by omega
      clear hr1 hrest hq2 hr2 hqa HQD hra
      go_upto_region 22 with fail
      rw [F1.out]
      go_upto_region 23 with fail
      rw [F2.out]
      go_wp2_with fail
      rw [F3.out]
      clear F1 F2 F3
      generalize Q = QA at *
      generalize R = RA at *
      have HQA := Lib.hid (show QA < 4294967296 by rw [HQ1.out]; exact tri_lt HUYu1.out eu1)
      go_loopw [18, 16] (fun qv rv wr => ∃ Q R : Nat, qv = .int .u64 Q ∧ rv = .int .u64 R ∧ R < 4294967296 ∧ Q ≤ 4294967297 ∧ Hid (Tri r1 u0 a b Q R) ∧ Hid (Chg [] w wr)) (fun qv _ _ => (intOf qv).toNat)
      case atStart => exact ⟨q2, r2, rfl, rfl, hr20, hq2t, T1, HCW⟩
      case round =>
        clear T1 hq2t hr20
        obtain ⟨Q, R, rfl, rfl, hR, hQ, HTR, HCW⟩ := hrel
        by_cases hc : 4294967296 ≤ Q ∨ 4294967296 * R + u0 < Q * b
        · obtain ⟨d1, d2⟩ := tri_down HTR.out HUYu0.out eu0 hc
          obtain ⟨Q1, eQ1⟩ : ∃ Q1, Q = Q1 + 1 := ⟨Q - 1, by omega⟩
          obtain ⟨R1, eR1⟩ : ∃ R1, R1 = R + a := ⟨_, rfl⟩
          rw [eQ1, Nat.add_sub_cancel, ← eR1] at d2
          have D2 := Lib.hid d2
          have G1 := Lib.hid (show (Q : Int) - 1 = (Q1 : Int) by omega)
          have G2 := Lib.hid (show (R : Int) + (a : Int) = (R1 : Int) by omega)
          have hQ1 : Q1 ≤ 4294967296 := by omega
          have hQ2 : Q1 < Q := by omega
          have hR1 : R1 < 8589934592 := by omega
          have hQp : 1 ≤ Q := by omega
          have hcases : (4294967296 : Int) ≤ (Q : Int) ∨ ∃ P : Nat, ¬ (4294967296 : Int) ≤ (Q : Int) ∧ IntKind.u64.wrap ((Q : Int) * (b : Int)) = (P : Int) ∧ 4294967296 * (R : Int) + (u0 : Int) < (P : Int) := by
            by_cases hc2 : 4294967296 ≤ Q
            · exact Or.inl (by omega)
            · obtain ⟨P, hP⟩ : ∃ P, P = Q * b := ⟨_, rfl⟩
              have hP1 : P < 18446744073709551616 := by
                have := Nat.mul_le_mul (show Q ≤ 4294967295 by omega) (show b ≤ 4294967295 by omega)
                omega
              refine Or.inr ⟨P, by omega, ?_, ?_⟩
              · rw [← Int.natCast_mul, ← hP]; exact u64_in (by omega) (by omega)
              · omega
          clear d2 eQ1 eR1 d1 HTR hc
          rcases hcases with hc3 | ⟨P, hc3, g3, g4⟩
          · by_cases hbr : 4294967296 ≤ R1
            · have hbr2 : (4294967296 : Int) ≤ (R1 : Int) := by omega
              have HQD := Lib.hid (tri_break D2.out (by omega) hQ1 eb hbr)
              clear hbr
              go_upto_region 27 with fail
              rw [G1.out, G2.out]
              clear G1 G2 D2 hQ2 hQp hc3 hR hQ
              have HQ2 := Lib.hid HQD.out
              have hq2l : Q1 < 4294967296 := by rw [HQ2.out]; exact tri_lt HUYu0.out eu0
              have HF := Lib.hid (show IntKind.u64.wrap (IntKind.u64.wrap ((QA : Int) * 4294967296) + (Q1 : Int)) = ((NN / Y : Nat) : Int) by
                have h8 := div_two (N := NN) (Y := Y) (q1 := QA) (r1 := r1) (by have h1 := HRest.out; have h2 := HU.out; have h3 := HTt.out; have h4 := HU1.out; rw [← h2, ← h3, ← h4]; exact h1) hrY
                have h9 : NN % 4294967296 = u0 := by have h3 := HTt.out; have h4 := HU0.out; omega
                rw [h9, HYab.out, ← HQ2.out] at h8
                rw [HYab.out, h8]
                have := HQA.out
                simp only [IntKind.wrap_u64]
                omega)
              have HF2 := Lib.hid (show (QA : Int) * 4294967296 + (Q1 : Int) = ((NN / Y : Nat) : Int) by
                have h3 := HF.out
                have := HQA.out
                rw [← h3]
                simp only [IntKind.wrap_u64]
                omega)
              go_wp2_with fail
              first | rw [HF.out] | rw [HF2.out]
              go_ret2
              exact ⟨⟨_, rfl⟩, HCW.out⟩
            · have hbr2 : ¬ (4294967296 : Int) ≤ (R1 : Int) := by omega
              go_upto_region 27 with fail
              rw [G1.out, G2.out]
              clear hc3
              go_wp2_with fail
              exact ⟨⟨Q1, R1, rfl, rfl, by omega, by omega, D2, HCW⟩, by simp [intOf]; omega⟩
          · by_cases hbr : 4294967296 ≤ R1
            · have hbr2 : (4294967296 : Int) ≤ (R1 : Int) := by omega
              have HQD := Lib.hid (tri_break D2.out (by omega) hQ1 eb hbr)
              clear hbr
              go_upto_region 27 with fail
              rw [G1.out, G2.out]
              clear G1 G2 D2 hQ2 hQp hc3 g3 g4 hR hQ
              have HQ2 := Lib.hid HQD.out
              have hq2l : Q1 < 4294967296 := by rw [HQ2.out]; exact tri_lt HUYu0.out eu0
              have HF := Lib.hid (show IntKind.u64.wrap (IntKind.u64.wrap ((QA : Int) * 4294967296) + (Q1 : Int)) = ((NN / Y : Nat) : Int) by
                have h8 := div_two (N := NN) (Y := Y) (q1 := QA) (r1 := r1) (by have h1 := HRest.out; have h2 := HU.out; have h3 := HTt.out; have h4 := HU1.out; rw [← h2, ← h3, ← h4]; exact h1) hrY
                have h9 : NN % 4294967296 = u0 := by have h3 := HTt.out; have h4 := HU0.out; omega
                rw [h9, HYab.out, ← HQ2.out] at h8
                rw [HYab.out, h8]
                have := HQA.out
                simp only [IntKind.wrap_u64]
                omega)
              have HF2 := Lib.hid (show (QA : Int) * 4294967296 + (Q1 : Int) = ((NN / Y : Nat) : Int) by
                have h3 := HF.out
                have := HQA.out
                rw [← h3]
                simp only [IntKind.wrap_u64]
                omega)
              go_wp2_with fail
              first | rw [HF.out] | rw [HF2.out]
              go_ret2
              exact ⟨⟨_, rfl⟩, HCW.out⟩
            · have hbr2 : ¬ (4294967296 : Int) ≤ (R1 : Int) := by omega
              go_upto_region 27 with fail
              rw [G1.out, G2.out]
              clear hc3 g3 g4
              go_wp2_with fail
              exact ⟨⟨Q1, R1, rfl, rfl, by omega, by omega, D2, HCW⟩, by simp [intOf]; omega⟩
        · have hq1 : Q < 4294967296 := by omega
          have hq2 : Q * b ≤ 4294967296 * R + u0 := by omega
          have HQD := Lib.hid (tri_end HTR.out (by omega) hq2)
          obtain ⟨P, hP⟩ : ∃ P, P = Q * b := ⟨_, rfl⟩
          have hP1 : P < 18446744073709551616 := by
            have := Nat.mul_le_mul (show Q ≤ 4294967295 by omega) (show b ≤ 4294967295 by omega)
            omega
          have g3 : IntKind.u64.wrap ((Q : Int) * (b : Int)) = (P : Int) := by rw [← Int.natCast_mul, ← hP]; exact u64_in (by omega) (by omega)
          have g4 : ¬ 4294967296 * (R : Int) + (u0 : Int) < (P : Int) := by omega
          have hc3 : ¬ (4294967296 : Int) ≤ (Q : Int) := by omega
          clear hc hq2 hP HTR
          go_upto_region 28 with fail
          clear hc3 g3 g4 hR hQ hP1
          have HQ2 := Lib.hid HQD.out
          have hq2l : Q < 4294967296 := by rw [HQ2.out]; exact tri_lt HUYu0.out eu0
          have HF := Lib.hid (show IntKind.u64.wrap (IntKind.u64.wrap ((QA : Int) * 4294967296) + (Q : Int)) = ((NN / Y : Nat) : Int) by
            have h8 := div_two (N := NN) (Y := Y) (q1 := QA) (r1 := r1) (by have h1 := HRest.out; have h2 := HU.out; have h3 := HTt.out; have h4 := HU1.out; rw [← h2, ← h3, ← h4]; exact h1) hrY
            have h9 : NN % 4294967296 = u0 := by have h3 := HTt.out; have h4 := HU0.out; omega
            rw [h9, HYab.out, ← HQ2.out] at h8
            rw [HYab.out, h8]
            have := HQA.out
            simp only [IntKind.wrap_u64]
            omega)
          have HF2 := Lib.hid (show (QA : Int) * 4294967296 + (Q : Int) = ((NN / Y : Nat) : Int) by
            have h3 := HF.out
            have := HQA.out
            rw [← h3]
            simp only [IntKind.wrap_u64]
            omega)
          go_wp2_with fail
          first | rw [HF.out] | rw [HF2.out]
          go_ret2
          exact ⟨⟨_, rfl⟩, HCW.out⟩
/-- bits.Div64: the quotient of a double word. -/
theorem div64_any (hi lo y : Nat) (h1 : hi < y) (h2 : y < 18446744073709551616) (h3 : lo < 18446744073709551616) (w : World) : Calls Tryd.prog 25 #[.int .u64 hi, .int .u64 lo, .int .u64 y] w fun e w' => (∃ r : Int, e = .returned (.tuple #[.int .u64 ((hi * 18446744073709551616 + lo) / y : Nat), .int .u64 r])) ∧ Chg [] w w' := by
  by_cases h0 : hi = 0
  · subst h0
    have := div64_low lo y h1 h2 h3 w
    simpa using this
  · exact div64_high hi lo y h0 h1 h2 h3 w
end Go.Proofs.YtehjalgogjkdlaaDoor

namespace Go.Proofs.YtehjalgogjkdlaaDoor
set_option linter.unusedVariables false
set_option linter.unusedSimpArgs false
open Go.RowKit
def vldB (n : Int) : Bool := decide (-1000000000000 ≤ n) && decide (n ≤ 1000000000000)
theorem vldB_iff {a : Int} : vldB a = true ↔ -1000000000000 ≤ a ∧ a ≤ 1000000000000 := by unfold vldB; simp
theorem vld_any (n : Int) (w : World) : Calls Tryd.prog 43 #[.int .i64 n] w fun e w' => e = .returned (.bool (vldB n)) ∧ w = w' := by
  by_cases h1 : -1000000000000 ≤ n
  · go_enter Tryd.func43, Tryd.ntmps43
    go_wp2
    go_ret
    exact ⟨by simp [vldB, h1], rfl⟩
  · go_enter Tryd.func43, Tryd.ntmps43
    go_wp2
    go_ret
    exact ⟨by simp [vldB]; omega, rfl⟩
theorem vlds_any (a : Option Addr) (cap : Nat) (l : List Int) (w : World) (h : SlIs icI 1 w a l.length l) (hm : l.length ≤ maxLen) : Calls Tryd.prog 23 #[.slice a l.length cap] w fun e w' => e = .returned (.bool (l.all vldB)) ∧ w = w' := by
  obtain ⟨R, hR⟩ : ∃ R, R = l.all vldB := ⟨_, rfl⟩
  rw [← hR]
  have HR := Lib.hid hR
  have H := Lib.hid h
  unfold maxLen at hm
  clear h hR
  go_enter Tryd.func23, Tryd.ntmps23
  go_wp2_with fail
  go_loop [7] (fun i => ∃ k : Nat, i = .int .i64 k ∧ k ≤ l.length ∧ Hid ((l.take k).all vldB = true)) (fun i => l.length - (intOf i).toNat)
  case atStart => exact ⟨0, rfl, Nat.zero_le _, Lib.hid (by simp)⟩
  case round =>
    obtain ⟨k, rfl, hkl, HT⟩ := hrel
    by_cases hk : k < l.length
    · obtain ⟨b, off, rfl, hb, hc⟩ := H.out.2 k hk
      have c0 := hc 0 (by omega)
      have HS := Lib.hid (show (l.take (k + 1)).all vldB = vldB l[k] by rw [List.take_succ_eq_append_getElem hk, List.all_append, HT.out]; simp)
      have HN := Lib.hid (show vldB l[k] = false → l.all vldB = false from fun hv => List.all_eq_false.2 ⟨l[k], List.getElem_mem hk, by rw [hv]; simp⟩)
      generalize l[k] = x at *
      simp only [icI, List.getElem?_cons_zero, Nat.add_zero, Nat.mul_one] at c0
      have A := vld_any x w
      have hk0 : (0 : Int) ≤ (k : Int) := by omega
      have hk1 : (k : Int) < (l.length : Int) := by omega
      cases hv : vldB x
      · rw [hv] at A
        have A := Lib.hid A
        rename_i A0
        have HE := Lib.hid (HR.out.trans (HN.out hv))
        clear hc A0 hv
        go_wp2_with fail
        refine A.out.mono ?_; rintro e w1 ⟨rfl, rfl⟩
        go_wp2_with fail
        go_ret
        exact ⟨by rw [HE.out]; rfl, rfl⟩
      · rw [hv] at A
        have A := Lib.hid A
        rename_i A0
        have HE := Lib.hid (HS.out.trans hv)
        clear hc A0 hv
        go_wp2_with fail
        refine A.out.mono ?_; rintro e w1 ⟨rfl, rfl⟩
        go_wp2_with fail
        exact ⟨⟨k + 1, by go_num, by omega, HE⟩, by simp [intOf]; omega⟩
    · have hks : k = l.length := by omega
      have HE : Hid (R = true) := Lib.hid (by rw [HR.out]; have := HT.out; rwa [hks, List.take_of_length_le (Nat.le_refl _)] at this)
      clear hks
      go_wp2_with fail
      go_ret
      exact ⟨by rw [HE.out]; rfl, rfl⟩
/-- The quotient of a product, or the error. -/
def mulDivZ (a b c : Int) : Int × Int :=
  if vldB a = false ∨ vldB b = false ∨ vldB c = false ∨ a < 0 ∨ b < 0 ∨ c < 0 then (0, 2) else if c = 0 then (0, 9) else if 1000000000000 < a * b / c then (0, 8) else (a * b / c, 0)
theorem mulDivZ_bad {a b c : Int} (h : vldB a = false ∨ vldB b = false ∨ vldB c = false ∨ a < 0 ∨ b < 0 ∨ c < 0) : mulDivZ a b c = (0, 2) := by unfold mulDivZ; rw [if_pos h]
theorem mulDivZ_nat {a b c : Nat} (ha : a ≤ 1000000000000) (hb : b ≤ 1000000000000) (hc : c ≤ 1000000000000) (h0 : 0 < c) : mulDivZ a b c = if 1000000000000 < a * b / c then (0, 8) else (((a * b / c : Nat) : Int), 0) := by
  unfold mulDivZ
  rw [if_neg (by simp only [← Bool.not_eq_true, vldB_iff]; omega), if_neg (by omega)]
  have e : (a : Int) * b / c = ((a * b / c : Nat) : Int) := by rw [Int.natCast_ediv, Int.natCast_mul]
  rw [e]
  by_cases h : 1000000000000 < a * b / c
  · rw [if_pos h, if_pos (by omega)]
  · rw [if_neg h, if_neg (by omega)]
theorem three_is {W : World} {a b c : Int} {n : Nat} (h : W.heap[n]? = some (.cells #[.int .i64 a, .int .i64 b, .int .i64 c] 3)) : SlIs icI 1 W (some ⟨n, 0, none⟩) 3 [a, b, c] := by
  refine ⟨rfl, fun k hk => ⟨n, 0, rfl, lt_of_heap h, fun j hj => ?_⟩⟩
  have hj0 : j = 0 := by omega
  subst hj0
  rw [blk_cell h]
  match k, hk with
  | 0, _ => rfl
  | 1, _ => rfl
  | 2, _ => rfl
set_option maxHeartbeats 4000000 in
set_option maxRecDepth 100000 in
theorem muldiv_bad (a b c : Int) (w : World) (h : vldB a = false ∨ vldB b = false ∨ vldB c = false ∨ a < 0 ∨ b < 0 ∨ c < 0) : Calls Tryd.prog 7 #[.int .i64 a, .int .i64 b, .int .i64 c] w fun e w' => e = .returned (.tuple #[.int .i64 0, .int .i64 2]) ∧ Chg [] w w' := by
  have hb := heap_alloc_new w (.cells #[.int .i64 a, .int .i64 b, .int .i64 c] 3)
  have A := vlds_any (some ⟨w.heap.size, 0, none⟩) 3 [a, b, c] _ (three_is hb) (by simp [maxLen])
  have hC := Lib.hid (show Chg [] w (w.alloc (.cells #[.int .i64 a, .int .i64 b, .int .i64 c] 3)) from (Chg.refl _ _).alloc _)
  simp only [List.all_cons, List.all_nil, Bool.and_true, List.length_cons, List.length_nil] at A
  by_cases hv : (vldB a && (vldB b && vldB c)) = true
  · rw [hv] at A
    have A := Lib.hid A
    rename_i A0
    have hneg : a < 0 ∨ b < 0 ∨ c < 0 := by
      simp only [Bool.and_eq_true] at hv
      rcases h with h | h | h | h
      · rw [h] at hv; cases hv.1
      · rw [h] at hv; cases hv.2.1
      · rw [h] at hv; cases hv.2.2
      · exact h
    clear A0 hb hv h
    have hmin : min (min a b) c < 0 := by omega
    have hmin2 : min a (min b c) < 0 := by omega
    clear hneg
    go_enter Tryd.func7, Tryd.ntmps7
    go_wp2_with fail
    refine A.out.mono ?_; rintro e w1 ⟨rfl, rfl⟩
    go_wp2_with fail
    all_goals first
      | (exfalso; omega)
      | (skip
         go_ret2
         exact ⟨rfl, hC.out⟩)
  · rw [Bool.not_eq_true] at hv
    rw [hv] at A
    have A := Lib.hid A
    rename_i A0
    clear A0 hb hv h
    go_enter Tryd.func7, Tryd.ntmps7
    go_wp2_with fail
    refine A.out.mono ?_; rintro e w1 ⟨rfl, rfl⟩
    go_wp2_with fail
    all_goals first
      | (exfalso; omega)
      | (skip
         go_ret2
         exact ⟨rfl, hC.out⟩)
set_option maxHeartbeats 4000000 in
set_option maxRecDepth 100000 in
theorem muldiv_nat (a b c : Nat) (ha : a ≤ 1000000000000) (hb : b ≤ 1000000000000) (hc : c ≤ 1000000000000) (w : World) : Calls Tryd.prog 7 #[.int .i64 a, .int .i64 b, .int .i64 c] w fun e w' => e = .returned (.tuple #[.int .i64 (mulDivZ a b c).1, .int .i64 (mulDivZ a b c).2]) ∧ Chg [] w w' := by
  have hh := heap_alloc_new w (.cells #[.int .i64 a, .int .i64 b, .int .i64 c] 3)
  have A := vlds_any (some ⟨w.heap.size, 0, none⟩) 3 [(a : Int), b, c] _ (three_is hh) (by simp [maxLen])
  have hC := Lib.hid (show Chg [] w (w.alloc (.cells #[.int .i64 a, .int .i64 b, .int .i64 c] 3)) from (Chg.refl _ _).alloc _)
  have h1 : vldB a = true := vldB_iff.2 (by omega)
  have h2 : vldB b = true := vldB_iff.2 (by omega)
  have h3 : vldB c = true := vldB_iff.2 (by omega)
  simp only [List.all_cons, List.all_nil, Bool.and_true, List.length_cons, List.length_nil, h1, h2, h3] at A
  have A := Lib.hid A
  rename_i A0
  have hmin : ¬ min (min (a : Int) b) c < 0 := by omega
  have hmin2 : ¬ min (a : Int) (min b c) < 0 := by omega
  clear A0 hh h1 h2 h3
  by_cases h0 : c = 0
  · subst h0
    have HZ := Lib.hid (show mulDivZ a b (0 : Nat) = (0, 9) by unfold mulDivZ; rw [if_neg (by simp only [← Bool.not_eq_true, vldB_iff]; omega)]; rfl)
    rw [HZ.out]
    go_enter Tryd.func7, Tryd.ntmps7
    go_wp2_with fail
    refine A.out.mono ?_; rintro e w1 ⟨rfl, rfl⟩
    go_wp2_with fail
    all_goals first
      | (exfalso; omega)
      | (skip
         go_ret2
         exact ⟨rfl, hC.out⟩)
  · have HZ := Lib.hid (mulDivZ_nat ha hb hc (by omega))
    have M := Lib.hid (fun w' => Tryd.bits_Mul64 a b (by omega) (by omega) w')
    obtain ⟨p, hp⟩ : ∃ p, p = a * b := ⟨_, rfl⟩
    have hpl : p ≤ 1000000000000000000000000 := by rw [hp]; exact Nat.mul_le_mul ha hb
    rw [← hp] at HZ M
    obtain ⟨hi, hhi⟩ : ∃ hi, hi = p / 18446744073709551616 := ⟨_, rfl⟩
    obtain ⟨lo, hlo⟩ : ∃ lo, lo = p % 18446744073709551616 := ⟨_, rfl⟩
    rw [← hhi, ← hlo] at M
    have hpe : p = hi * 18446744073709551616 + lo := by omega
    have hc0 : ((c : Int) == 0) = false := by rw [beq_eq_false_iff_ne]; omega
    obtain ⟨Z, hZ⟩ : ∃ Z, Z = mulDivZ a b c := ⟨_, rfl⟩
    rw [← hZ] at HZ ⊢
    have hlo2 : lo < 18446744073709551616 := by omega
    by_cases hg : c ≤ hi
    · have hge : (c : Int) ≤ (hi : Int) := by omega
      have HZ2 := Lib.hid (show Z = (0, 8) by
        rw [HZ.out, if_pos]
        refine Nat.lt_of_lt_of_le (show 1000000000000 < 18446744073709551616 by decide) ?_
        rw [Nat.le_div_iff_mul_le (by omega), hpe]
        have := Nat.mul_le_mul_left 18446744073709551616 hg
        omega)
      rw [HZ2.out]
      clear hZ hp hhi hlo hpe hpl
      go_enter Tryd.func7, Tryd.ntmps7
      go_wp2_with fail
      refine A.out.mono ?_; rintro e w1 ⟨rfl, rfl⟩
      go_wp2_with fail
      all_goals first
        | (exfalso; omega)
        | (skip
           refine (M.out _).mono ?_; rintro e w2 ⟨rfl, rfl⟩
           go_wp2_with fail
           go_ret2
           exact ⟨rfl, hC.out⟩)
    · have hge : ¬ (c : Int) ≤ (hi : Int) := by omega
      have D := Lib.hid (fun w' => div64_any hi lo c (by omega) (by omega) hlo2 w')
      rw [← hpe] at D
      obtain ⟨q, hq⟩ : ∃ q, q = p / c := ⟨_, rfl⟩
      rw [← hq] at D HZ
      have hqb : q < 18446744073709551616 := by
        rw [hq, Nat.div_lt_iff_lt_mul (by omega), hpe]
        have := Nat.mul_le_mul_left 18446744073709551616 (show hi + 1 ≤ c by omega)
        omega
      by_cases hqm : 1000000000000 < q
      · have hqm2 : (1000000000000 : Int) < (q : Int) := by omega
        have HZ2 := Lib.hid (show Z = (0, 8) by rw [HZ.out, if_pos hqm])
        rw [HZ2.out]
        clear hZ hp hhi hlo hpe hpl hq
        go_enter Tryd.func7, Tryd.ntmps7
        go_wp2_with fail
        refine A.out.mono ?_; rintro e w1 ⟨rfl, rfl⟩
        go_wp2_with fail
        all_goals first
          | (exfalso; omega)
          | (skip
             refine (M.out _).mono ?_; rintro e w2 ⟨rfl, rfl⟩
             go_wp2_with fail
             refine (D.out _).mono ?_; rintro e w3 ⟨⟨r, rfl⟩, h9⟩
             have C3 := Lib.hid (hC.out.thenSame h9)
             clear h9
             go_wp2_with fail
             go_ret2
             exact ⟨rfl, C3.out⟩)
      · have hqm2 : ¬ (1000000000000 : Int) < (q : Int) := by omega
        have HZ2 := Lib.hid (show Z = ((q : Int), 0) by rw [HZ.out, if_neg hqm])
        rw [HZ2.out]
        clear hZ hp hhi hlo hpe hpl hq
        go_enter Tryd.func7, Tryd.ntmps7
        go_wp2_with fail
        refine A.out.mono ?_; rintro e w1 ⟨rfl, rfl⟩
        go_wp2_with fail
        all_goals first
          | (exfalso; omega)
          | (skip
             refine (M.out _).mono ?_; rintro e w2 ⟨rfl, rfl⟩
             go_wp2_with fail
             refine (D.out _).mono ?_; rintro e w3 ⟨⟨r, rfl⟩, h9⟩
             have C3 := Lib.hid (hC.out.thenSame h9)
             clear h9
             go_wp2_with fail
             go_ret2
             exact ⟨rfl, C3.out⟩)
/-- MulDiv, whatever its arguments. -/
theorem muldiv_any (a b c : Int) (w : World) : Calls Tryd.prog 7 #[.int .i64 a, .int .i64 b, .int .i64 c] w fun e w' => e = .returned (.tuple #[.int .i64 (mulDivZ a b c).1, .int .i64 (mulDivZ a b c).2]) ∧ Chg [] w w' := by
  by_cases h : vldB a = false ∨ vldB b = false ∨ vldB c = false ∨ a < 0 ∨ b < 0 ∨ c < 0
  · rw [mulDivZ_bad h]
    exact muldiv_bad a b c w h
  · simp only [not_or, Bool.not_eq_false, vldB_iff] at h
    obtain ⟨a1, a2, a3, a4, a5, a6⟩ := h
    have ea : a = (a.toNat : Int) := by omega
    have eb : b = (b.toNat : Int) := by omega
    have ec : c = (c.toNat : Int) := by omega
    rw [ea, eb, ec]
    exact muldiv_nat _ _ _ (by omega) (by omega) (by omega) w
end Go.Proofs.YtehjalgogjkdlaaDoor
