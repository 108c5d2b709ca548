/- Names: contracts of ident's small, digit, Name, at every string. No condition. -/
import Derived.Test.YtjbnfaapkicejaaBase
import Derived.Test.YtjbnfaapkicejaaProg
namespace Go.Proofs.Ytjbnfaapkicejaa
set_option linter.unusedVariables false
set_option linter.unusedSimpArgs false
open Go.RowKit

def smallB (c : Int) : Bool := decide (97 ≤ c) && decide (c ≤ 122)
def digitB (c : Int) : Bool := decide (48 ≤ c) && decide (c ≤ 57)
def okAt (i : Nat) (c : Int) : Bool := smallB c || (decide (0 < i) && (digitB c || c == 45 || c == 95))
def byteAt (s : ByteArray) (i : Nat) : Int := ((s.data.toList.getD i 0).toNat : Int)
/-- Which strings are names. -/
def nameB (s : ByteArray) : Bool := (List.range s.size).all (fun i => okAt i (byteAt s i)) && decide (1 ≤ s.size) && decide (s.size ≤ 24)

theorem byteAt_eq (s : ByteArray) (p : Nat) (h : p < s.size) : byteAt s p = ((s[p]'h).toNat : Int) := by
  unfold byteAt
  rw [List.getD_eq_getElem?_getD, List.getElem?_eq_getElem (by simpa using h)]
  simp [ByteArray.getElem_eq_getElem_data]
theorem okAt_high {i : Nat} {c : Int} (h : 128 ≤ c) : okAt i c = false := by
  have h1 : decide (c ≤ 122) = false := by simp; omega
  have h2 : decide (c ≤ 57) = false := by simp; omega
  have h3 : (c == 45) = false := beq_eq_false_iff_ne.2 (by omega)
  have h4 : (c == 95) = false := beq_eq_false_iff_ne.2 (by omega)
  simp [okAt, smallB, digitB, h1, h2, h3, h4]
theorem range_step (p : Nat) (f : Nat → Bool) : (List.range (p + 1)).all f = ((List.range p).all f && f p) := by
  rw [List.range_succ, List.all_append]; simp
theorem nameB_no {s : ByteArray} {p : Nat} (hp : p < s.size) (h : okAt p (byteAt s p) = false) : nameB s = false := by
  have : (List.range s.size).all (fun i => okAt i (byteAt s i)) = false := by
    rw [List.all_eq_false]
    exact ⟨p, List.mem_range.2 hp, by simpa using h⟩
  simp [nameB, this]

theorem small_any (c : Int) (w : World) : Calls Try.prog 63 #[.int .i32 c] w fun e w' => e = .returned (.bool (smallB c)) ∧ w = w' := by
  by_cases h1 : 97 ≤ c
  · go_enter Try.func63, Try.ntmps63
    go_wp2
    go_ret
    exact ⟨by simp [smallB, h1], rfl⟩
  · go_enter Try.func63, Try.ntmps63
    go_wp2
    go_ret
    exact ⟨by simp [smallB]; omega, rfl⟩
theorem digit_any (c : Int) (w : World) : Calls Try.prog 64 #[.int .i32 c] w fun e w' => e = .returned (.bool (digitB c)) ∧ w = w' := by
  by_cases h1 : 48 ≤ c
  · go_enter Try.func64, Try.ntmps64
    go_wp2
    go_ret
    exact ⟨by simp [digitB, h1], rfl⟩
  · go_enter Try.func64, Try.ntmps64
    go_wp2
    go_ret
    exact ⟨by simp [digitB]; omega, rfl⟩
theorem decode_asc (s : ByteArray) (p : Nat) (h : p < s.size) : (Utf8.decode s p = ((s[p]'h).toNat, 1) ∧ (s[p]'h).toNat < 128) ∨ (128 ≤ (Utf8.decode s p).1 ∧ 128 ≤ (s[p]'h).toNat) := by
  by_cases ha : (s[p]'h).toNat < 128
  · exact .inl ⟨decode_ascii s p h ha, ha⟩
  · exact .inr ⟨(decode_high s p h (by omega)).1, by omega⟩

set_option maxHeartbeats 2000000 in
theorem name_any (s : ByteArray) (w : World) (hs : s.size ≤ maxLen) : Calls Try.prog 37 #[.string s] w fun e w' => e = .returned (.bool (nameB s)) ∧ Chg [] w w' := by
  unfold maxLen at hs
  obtain ⟨R, hR⟩ : ∃ R, R = nameB s := ⟨_, rfl⟩
  rw [← hR]
  have HR := Lib.hid hR
  clear hR
  go_enter Try.func37, Try.ntmps37
  go_wp2
  go_loopw [2] (fun r wr => ∃ p : Nat, wr = w.iter s p ∧ p ≤ s.size ∧ r = .bool false ∧ Hid ((List.range p).all (fun i => okAt i (byteAt s i)) = true)) (fun _ wr => s.size - wr.iterPos w.heap.size)
  case atStart => exact ⟨0, rfl, Nat.zero_le _, rfl, Lib.hid (by simp)⟩
  case round =>
    obtain ⟨p, rfl, hp, rfl, Hall⟩ := hrel
    by_cases hlt : p < s.size
    · have hnx := fun ty => run_next_any (P := Try.prog) w s p ty hlt
      have hbl : Hid (∀ q, Chg [] w (w.iter s q)) := Lib.hid (fun q => Chg.ofBelow ((Below.refl _ _).alloc (Nat.le_refl _) _))
      have hdec := decode_asc s p hlt
      have hbt := byteAt_eq s p hlt
      obtain ⟨c, hc⟩ : ∃ c : Nat, c = (Utf8.decode s p).fst := ⟨_, rfl⟩
      rw [← hc] at hnx hdec
      have hok : okAt p (byteAt s p) = okAt p c := by
        rcases hdec with ⟨hd, _⟩ | ⟨h1, h2⟩
        · have : c = (s[p]'hlt).toNat := by rw [hc, hd]
          rw [hbt, this]
        · rw [okAt_high (by omega), okAt_high (by omega)]
      have Hno : Hid (okAt p c = false → R = false) := Lib.hid (fun h => by rw [HR.out]; exact nameB_no hlt (hok.trans h))
      have Hyes : Hid (okAt p c = true → (Utf8.decode s p).2 = 1 ∧ (List.range (p + 1)).all (fun i => okAt i (byteAt s i)) = true) := Lib.hid (fun h => by
        refine ⟨?_, by rw [range_step, Hall.out, hok, h]; rfl⟩
        rcases hdec with ⟨hd, _⟩ | ⟨h1, h2⟩
        · rw [hd]
        · rw [okAt_high (by omega)] at h; cases h)
      have A1 := Lib.hid (fun w => small_any (c : Int) w)
      have A2 := Lib.hid (fun w => digit_any (c : Int) w)
      have hcs : (smallB c = true ∧ okAt p c = true) ∨ (smallB c = false ∧ p = 0 ∧ okAt p c = false) ∨ (smallB c = false ∧ ((p : Int) == 0) = false ∧ digitB c = true ∧ okAt p c = true) ∨ (smallB c = false ∧ ((p : Int) == 0) = false ∧ digitB c = false ∧ (((c : Int) == 45) = true ∧ ((c : Int) != 45) = false) ∧ okAt p c = true) ∨ (smallB c = false ∧ ((p : Int) == 0) = false ∧ digitB c = false ∧ ((c : Int) == 45) = false ∧ ((c : Int) != 45) = true ∧ ((c : Int) != 95) = false ∧ okAt p c = true) ∨ (smallB c = false ∧ ((p : Int) == 0) = false ∧ digitB c = false ∧ ((c : Int) == 45) = false ∧ ((c : Int) != 45) = true ∧ ((c : Int) != 95) = true ∧ okAt p c = false) := by
        unfold okAt
        cases h1 : smallB c
        · by_cases h0 : p = 0
          · subst h0; simp
          · have e0 : ((p : Int) == 0) = false := beq_eq_false_iff_ne.2 (by omega)
            have e1 : decide (0 < p) = true := by simp; omega
            rw [e0, e1]
            cases h2 : digitB c
            · cases h3 : ((c : Int) == 45)
              · cases h4 : ((c : Int) == 95)
                · simp [bne, h3, h4]
                · simp [bne, h3, h4]
              · simp [bne, h3]
            · simp
        · simp
      have HC := Lib.hid hc
      clear hdec hbt hok hc
      rcases hcs with ⟨h1, ho⟩ | ⟨h1, h2, ho⟩ | ⟨h1, h2, h3, ho⟩ | ⟨h1, h2, h3, ⟨h4, h5⟩, ho⟩ | ⟨h1, h2, h3, h4, h5, h6, ho⟩ | ⟨h1, h2, h3, h4, h5, h6, ho⟩
      · obtain ⟨d2, hall2⟩ := Hyes.out ho
        have HA := Lib.hid hall2
        clear ho hall2
        rw [h1] at A1
        go_wp2_with fail
        refine (A1.out _).mono ?_; rintro e w' ⟨rfl, rfl⟩
        go_wp2_with fail
        go_roundw
        case rel => exact ⟨p + 1, by first | rfl | rw [d2], by omega, rfl, HA⟩
        case measure => first | (simp; omega) | (simp [d2]; omega)
      · have HF := Lib.hid (Hno.out ho)
        clear ho
        rw [h1] at A1
        subst h2
        go_wp2_with fail
        refine (A1.out _).mono ?_; rintro e w' ⟨rfl, rfl⟩
        go_wp2_with fail
        go_ret
        exact ⟨by rw [HF.out]; rfl, hbl.out _⟩
      · obtain ⟨d2, hall2⟩ := Hyes.out ho
        have HA := Lib.hid hall2
        clear ho hall2
        rw [h1] at A1
        rw [h3] at A2
        go_wp2_with fail
        refine (A1.out _).mono ?_; rintro e w' ⟨rfl, rfl⟩
        go_wp2_with fail
        refine (A2.out _).mono ?_; rintro e w' ⟨rfl, rfl⟩
        go_wp2_with fail
        go_roundw
        case rel => exact ⟨p + 1, by first | rfl | rw [d2], by omega, rfl, HA⟩
        case measure => first | (simp; omega) | (simp [d2]; omega)
      · obtain ⟨d2, hall2⟩ := Hyes.out ho
        have HA := Lib.hid hall2
        clear ho hall2
        rw [h1] at A1
        rw [h3] at A2
        go_wp2_with fail
        refine (A1.out _).mono ?_; rintro e w' ⟨rfl, rfl⟩
        go_wp2_with fail
        refine (A2.out _).mono ?_; rintro e w' ⟨rfl, rfl⟩
        go_wp2_with fail
        go_roundw
        case rel => exact ⟨p + 1, by first | rfl | rw [d2], by omega, rfl, HA⟩
        case measure => first | (simp; omega) | (simp [d2]; omega)
      · obtain ⟨d2, hall2⟩ := Hyes.out ho
        have HA := Lib.hid hall2
        clear ho hall2
        rw [h1] at A1
        rw [h3] at A2
        go_wp2_with fail
        refine (A1.out _).mono ?_; rintro e w' ⟨rfl, rfl⟩
        go_wp2_with fail
        refine (A2.out _).mono ?_; rintro e w' ⟨rfl, rfl⟩
        go_wp2_with fail
        go_roundw
        case rel => exact ⟨p + 1, by first | rfl | rw [d2], by omega, rfl, HA⟩
        case measure => first | (simp; omega) | (simp [d2]; omega)
      · have HF := Lib.hid (Hno.out ho)
        clear ho
        rw [h1] at A1
        rw [h3] at A2
        go_wp2_with fail
        refine (A1.out _).mono ?_; rintro e w' ⟨rfl, rfl⟩
        go_wp2_with fail
        refine (A2.out _).mono ?_; rintro e w' ⟨rfl, rfl⟩
        go_wp2_with fail
        go_ret
        exact ⟨by rw [HF.out]; rfl, hbl.out _⟩
    · have hnx := fun ty => run_next_end (P := Try.prog) w s p ty hlt
      have hall := Hall.out
      have hpe : p = s.size := by omega
      subst hpe
      have HR2 : Hid (R = (decide (1 ≤ s.size) && decide (s.size ≤ 24))) := Lib.hid (by rw [HR.out, nameB, hall]; simp)
      have hcs : (s.size < 1 ∧ Hid (R = false)) ∨ (1 ≤ s.size ∧ s.size ≤ 24 ∧ Hid (R = true)) ∨ (1 ≤ s.size ∧ 24 < s.size ∧ Hid (R = false)) := by
        by_cases h1 : 1 ≤ s.size
        · by_cases h2 : s.size ≤ 24
          · exact .inr (.inl ⟨h1, h2, Lib.hid (by rw [HR2.out]; simp [h1, h2])⟩)
          · exact .inr (.inr ⟨h1, by omega, Lib.hid (by rw [HR2.out]; simp [h2])⟩)
        · exact .inl ⟨by omega, Lib.hid (by rw [HR2.out]; simp [h1])⟩
      clear hall
      rcases hcs with ⟨h1, h3⟩ | ⟨h1, h2, h3⟩ | ⟨h1, h2, h3⟩
      all_goals
        go_wp2
        go_ret
        exact ⟨by rw [h3.out]; first | rfl | (simp; omega), Chg.ofBelow ((Below.refl _ _).alloc (Nat.le_refl _) _)⟩
end Go.Proofs.Ytjbnfaapkicejaa
