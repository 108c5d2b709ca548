/- Names: contracts of the reference's small, digit, Name, at every string. No condition. -/
import Derived.Test.YtjbnfaapkicejaaNm
namespace Go.Proofs.Ytjbnfaapkicejaa
set_option linter.unusedVariables false
set_option linter.unusedSimpArgs false
open Go.RowKit

theorem rsmall_any (c : Int) (w : World) : Calls Try.prog 73 #[.int .u8 c] w fun e w' => e = .returned (.bool (smallB c)) ∧ w = w' := by
  by_cases h1 : 97 ≤ c
  · go_enter Try.func73, Try.ntmps73
    go_wp2
    go_ret
    exact ⟨by simp [smallB, h1], rfl⟩
  · go_enter Try.func73, Try.ntmps73
    go_wp2
    go_ret
    exact ⟨by simp [smallB]; omega, rfl⟩
theorem rdigit_any (c : Int) (w : World) : Calls Try.prog 74 #[.int .u8 c] w fun e w' => e = .returned (.bool (digitB c)) ∧ w = w' := by
  by_cases h1 : 48 ≤ c
  · go_enter Try.func74, Try.ntmps74
    go_wp2
    go_ret
    exact ⟨by simp [digitB, h1], rfl⟩
  · go_enter Try.func74, Try.ntmps74
    go_wp2
    go_ret
    exact ⟨by simp [digitB]; omega, rfl⟩
theorem okAt_succ {p : Nat} (hp : 0 < p) (c : Int) : okAt p c = (smallB c || (digitB c || c == 45 || c == 95)) := by
  unfold okAt
  rw [decide_eq_true hp]; simp

set_option maxHeartbeats 4000000 in
theorem rname_any (s : ByteArray) (w : World) (hs : s.size ≤ maxLen) : Calls Try.prog 59 #[.string s] w fun e w' => e = .returned (.bool (nameB s)) ∧ w = w' := by
  unfold maxLen at hs
  obtain ⟨R, hR⟩ : ∃ R, R = nameB s := ⟨_, rfl⟩
  rw [← hR]
  have HR := Lib.hid hR
  have hcs : (s.size < 1 ∧ Hid (R = false)) ∨ (1 ≤ s.size ∧ 24 < s.size ∧ Hid (R = false)) ∨ (0 < s.size ∧ 1 ≤ s.size ∧ s.size ≤ 24) := by
    by_cases h1 : 1 ≤ s.size
    · by_cases h2 : s.size ≤ 24
      · exact .inr (.inr ⟨by omega, h1, h2⟩)
      · exact .inr (.inl ⟨h1, by omega, Lib.hid (by rw [hR]; simp [nameB, h2])⟩)
    · exact .inl ⟨by omega, Lib.hid (by rw [hR]; simp [nameB, h1])⟩
  clear hR
  rcases hcs with ⟨h1, E⟩ | ⟨h1, h2, E⟩ | ⟨h0, h1, h2⟩
  · go_enter Try.func59, Try.ntmps59
    go_wp2
    go_ret
    exact ⟨by rw [E.out]; rfl, rfl⟩
  · go_enter Try.func59, Try.ntmps59
    go_wp2
    go_ret
    exact ⟨by rw [E.out]; rfl, rfl⟩
  have hb0 := byteAt_eq s 0 h0
  have A0 := fun w => rsmall_any (byteAt s 0) w
  cases hc0 : smallB (byteAt s 0)
  · have E := Lib.hid (HR.out.trans (nameB_no h0 (show okAt 0 (byteAt s 0) = false by unfold okAt; rw [hc0]; rfl)))
    rw [hc0, hb0] at A0
    have A0 := Lib.hid A0
    rename_i A00
    clear A00 hc0 hb0
    go_enter Try.func59, Try.ntmps59
    go_wp2_with fail
    refine (A0.out _).mono ?_; rintro e w1 ⟨rfl, rfl⟩
    go_wp2_with fail
    go_ret
    exact ⟨by rw [E.out]; rfl, rfl⟩
  · have H1 := Lib.hid (show (List.range 1).all (fun i => okAt i (byteAt s i)) = true by
      rw [show 1 = 0 + 1 from rfl, range_step]
      unfold okAt; rw [hc0]; rfl)
    rw [hc0, hb0] at A0
    have A0 := Lib.hid A0
    rename_i A00
    clear A00 hc0 hb0
    go_enter Try.func59, Try.ntmps59
    go_wp2_with fail
    refine (A0.out _).mono ?_; rintro e w1 ⟨rfl, rfl⟩
    go_wp2_with fail
    go_loop [3] (fun i => ∃ p : Nat, i = .int .i64 p ∧ 1 ≤ p ∧ p ≤ s.size ∧ Hid ((List.range p).all (fun i => okAt i (byteAt s i)) = true)) (fun i => s.size - (intOf i).toNat)
    case atStart => exact ⟨1, rfl, Nat.le_refl _, h1, H1⟩
    case round =>
      obtain ⟨p, rfl, hp1, hp, Hall⟩ := hrel
      by_cases hlt : p < s.size
      · have hbt := byteAt_eq s p hlt
        have hst := range_step p (fun i => okAt i (byteAt s i))
        simp only [okAt_succ (show 0 < p by omega)] at hst
        have hno := fun (h : okAt p (byteAt s p) = false) => HR.out.trans (nameB_no hlt h)
        rw [okAt_succ (show 0 < p by omega)] at hno
        have A1 := fun w => rsmall_any (byteAt s p) w
        have A2 := fun w => rdigit_any (byteAt s p) w
        have hpp : (0 : Int) ≤ (p : Int) := by omega
        have hpq : (p : Int) < (s.size : Int) := by omega
        rw [hbt] at A1 A2 hst hno
        obtain ⟨c, hc⟩ : ∃ c : Int, c = ((s[p]'hlt).toNat : Int) := ⟨_, rfl⟩
        have hcs : (smallB c = true ∧ Hid ((List.range (p + 1)).all (fun i => okAt i (byteAt s i)) = true)) ∨ (smallB c = false ∧ digitB c = true ∧ Hid ((List.range (p + 1)).all (fun i => okAt i (byteAt s i)) = true)) ∨ (smallB c = false ∧ digitB c = false ∧ (c != 45) = false ∧ Hid ((List.range (p + 1)).all (fun i => okAt i (byteAt s i)) = true)) ∨ (smallB c = false ∧ digitB c = false ∧ (c != 45) = true ∧ (c != 95) = false ∧ Hid ((List.range (p + 1)).all (fun i => okAt i (byteAt s i)) = true)) ∨ (smallB c = false ∧ digitB c = false ∧ (c != 45) = true ∧ (c != 95) = true ∧ Hid (R = false)) := by
          rw [← hc] at hst hno
          have hyes : (smallB c || (digitB c || c == 45 || c == 95)) = true → (List.range (p + 1)).all (fun i => okAt i (byteAt s i)) = true := fun h => by
            rw [range_step, Hall.out, hbt, ← hc, okAt_succ (show 0 < p by omega), h]; rfl
          cases h1 : smallB c
          · cases h2 : digitB c
            · cases h3 : (c == 45)
              · cases h4 : (c == 95)
                · exact .inr (.inr (.inr (.inr ⟨rfl, rfl, by simp [bne, h3], by simp [bne, h4], Lib.hid (hno (by simp [h1, h2, h3, h4]))⟩)))
                · exact .inr (.inr (.inr (.inl ⟨rfl, rfl, by simp [bne, h3], by simp [bne, h4], Lib.hid (hyes (by simp [h4]))⟩)))
              · exact .inr (.inr (.inl ⟨rfl, rfl, by simp [bne, h3], Lib.hid (hyes (by simp [h3]))⟩))
            · exact .inr (.inl ⟨rfl, rfl, Lib.hid (hyes (by simp [h2]))⟩)
          · exact .inl ⟨rfl, Lib.hid (hyes (by simp [h1]))⟩
        rw [hc] at hcs
        clear hst hno hbt hc
        rcases hcs with ⟨q1, E⟩ | ⟨q1, q2, E⟩ | ⟨q1, q2, q3, E⟩ | ⟨q1, q2, q3, q4, E⟩ | ⟨q1, q2, q3, q4, E⟩
        · rw [q1] at A1
          have A1 := Lib.hid A1
          rename_i A10
          clear A10 A2 q1
          go_wp2_with fail
          refine (A1.out _).mono ?_; rintro e w2 ⟨rfl, rfl⟩
          go_wp2_with fail
          exact ⟨⟨p + 1, by go_num, by omega, by omega, E⟩, by simp [intOf]; omega⟩
        iterate 3
          · rw [q1] at A1
            rw [q2] at A2
            have A1 := Lib.hid A1
            have A2 := Lib.hid A2
            rename_i A10 A20
            clear A10 A20 q1 q2
            go_wp2_with fail
            refine (A1.out _).mono ?_; rintro e w2 ⟨rfl, rfl⟩
            go_wp2_with fail
            refine (A2.out _).mono ?_; rintro e w2 ⟨rfl, rfl⟩
            go_wp2_with fail
            exact ⟨⟨p + 1, by go_num, by omega, by omega, E⟩, by simp [intOf]; omega⟩
        · rw [q1] at A1
          rw [q2] at A2
          have A1 := Lib.hid A1
          have A2 := Lib.hid A2
          rename_i A10 A20
          clear A10 A20 q1 q2
          go_wp2_with fail
          refine (A1.out _).mono ?_; rintro e w2 ⟨rfl, rfl⟩
          go_wp2_with fail
          refine (A2.out _).mono ?_; rintro e w2 ⟨rfl, rfl⟩
          go_wp2_with fail
          go_ret
          exact ⟨by rw [E.out]; rfl, rfl⟩
      · have hpe : p = s.size := by omega
        subst hpe
        have E := Lib.hid (show R = true by rw [HR.out]; unfold nameB; rw [Hall.out]; simp [h1, h2])
        go_wp2_with fail
        go_ret
        exact ⟨by rw [E.out]; rfl, rfl⟩
end Go.Proofs.Ytjbnfaapkicejaa
