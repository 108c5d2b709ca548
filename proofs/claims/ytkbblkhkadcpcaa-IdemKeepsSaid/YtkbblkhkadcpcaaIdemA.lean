/- Chapter 27: contracts of the small functions of the program and of the reference: which strings are identifiers, the checks of a time. No condition. -/
import Derived.Test.YtkbblkhkadcpcaaBase
import Derived.Test.YtkbblkhkadcpcaaProg
namespace Go.Proofs.Ytkbblkhkadcpcaa
open Go.RowKit

def smallB (c : Int) : Bool := decide (97 ≤ c) && decide (c ≤ 122)
def digitB (c : Int) : Bool := decide (48 ≤ c) && decide (c ≤ 57)
def letterB (c : Int) : Bool := smallB c || digitB c || (decide (65 ≤ c) && decide (c ≤ 90)) || c == 45 || c == 95 || c == 46 || c == 58 || c == 47
/-- Which strings are identifiers. -/
def idB (s : ByteArray) : Bool := s.data.toList.all (fun c => letterB c.toNat) && decide (1 ≤ s.size) && decide (s.size ≤ 64)

theorem smallB_high {c : Int} (h : 123 ≤ c) : smallB c = false := by simp [smallB]; omega
theorem letterB_high {c : Int} (h : 128 ≤ c) : letterB c = false := by simp [letterB, smallB, digitB]; omega

theorem small_any (c : Int) (w : World) : Calls Try.prog 43 #[.int .i32 c] w fun e w' => e = .returned (.bool (smallB c)) ∧ w = w' := by
  by_cases h1 : 97 ≤ c
  · go_enter Try.func43, Try.ntmps43
    go_wp2
    go_ret
    exact ⟨by simp [smallB, h1], rfl⟩
  · go_enter Try.func43, Try.ntmps43
    go_wp2
    go_ret
    exact ⟨by simp [smallB]; omega, rfl⟩

theorem digit_any (c : Int) (w : World) : Calls Try.prog 44 #[.int .i32 c] w fun e w' => e = .returned (.bool (digitB c)) ∧ w = w' := by
  by_cases h1 : 48 ≤ c
  · go_enter Try.func44, Try.ntmps44
    go_wp2
    go_ret
    exact ⟨by simp [digitB, h1], rfl⟩
  · go_enter Try.func44, Try.ntmps44
    go_wp2
    go_ret
    exact ⟨by simp [digitB]; omega, rfl⟩

theorem letter_any (c : Int) (w : World) : Calls Try.prog 36 #[.int .i32 c] w fun e w' => e = .returned (.bool (letterB c)) ∧ w = w' := by
  go_enter Try.func36, Try.ntmps36
  go_wp2_with (first | (go_at_call 43; refine (small_any _ _).mono ?_; rintro e w' ⟨rfl, rfl⟩) | (go_at_call 44; refine (digit_any _ _).mono ?_; rintro e w' ⟨rfl, rfl⟩))
  all_goals
    go_ret
    refine ⟨retB ?_, rfl⟩
    first
      | (simp [letterB, smallB, digitB, *]; done)
      | (simp_all [letterB]; done)
      | (have h65 : decide (65 ≤ c) = false := by simp; omega
         simp only [letterB, h65]
         simp_all)

theorem decode_asc (s : ByteArray) (p : Nat) (h : p < s.size) : (Utf8.decode s p = ((s[p]'h).toNat, 1) ∧ (s[p]'h).toNat < 128) ∨ (128 ≤ (Utf8.decode s p).1 ∧ 128 ≤ (s[p]'h).toNat) := by
  by_cases ha : (s[p]'h).toNat < 128
  · exact .inl ⟨decode_ascii s p h ha, ha⟩
  · exact .inr ⟨(decode_high s p h (by omega)).1, by omega⟩

theorem all_take_succ (l : List UInt8) (f : UInt8 → Bool) (p : Nat) (h : p < l.length) : (l.take (p + 1)).all f = ((l.take p).all f && f l[p]) := by
  rw [List.take_succ_eq_append_getElem h, List.all_append]; simp

set_option maxHeartbeats 400000 in
theorem ID_any (s : ByteArray) (w : World) (hs : s.size ≤ maxLen) : Calls Try.prog 24 #[.string s] w fun e w' => e = .returned (.bool (idB s)) ∧ Below w.heap.size w w' := by
  unfold maxLen at hs
  go_enter Try.func24, Try.ntmps24
  go_wp2
  go_loopw [2] (fun r wr => ∃ p : Nat, wr = w.iter s p ∧ p ≤ s.size ∧ r = .bool false ∧ (s.data.toList.take p).all (fun c => letterB c.toNat) = true) (fun _ wr => s.size - wr.iterPos w.heap.size)
  case atStart => exact ⟨0, rfl, Nat.zero_le _, rfl, by simp⟩
  case round =>
    obtain ⟨p, rfl, hp, rfl, hall⟩ := hrel
    by_cases hlt : p < s.size
    · have hnx := fun ty => run_next_any (P := Try.prog) w s p ty hlt
      have Hall := Lib.hid hall; clear hall
      go_wp2_with (go_at_call 36; refine (letter_any _ _).mono ?_; rintro e w' ⟨rfl, rfl⟩)
      · go_ret
        refine ⟨?_, (Below.refl _ _).alloc (Nat.le_refl _) _⟩
        have hno : letterB (s[p]'hlt).toNat = false := by
          rcases decode_asc s p hlt with ⟨hd, _⟩ | ⟨hd, hb⟩
          · have : (!letterB ↑(Utf8.decode s p).fst) = true := by assumption
            rw [hd] at this; simpa using this
          · exact letterB_high (by omega)
        have : idB s = false := by
          have h1 := List.take_append_drop p s.data.toList
          have : s.data.toList.all (fun c => letterB c.toNat) = false := by
            rw [List.all_eq_false]
            exact ⟨s[p]'hlt, by simp [ByteArray.getElem_eq_getElem_data], by simpa using hno⟩
          simp [idB, this]
        exact retB this.symm
      · have hyes : letterB (Utf8.decode s p).fst = true := by
          have : (!letterB ↑(Utf8.decode s p).fst) = false := by assumption
          simpa using this
        rcases decode_asc s p hlt with ⟨hd, _⟩ | ⟨hd, hb⟩
        · rw [hd] at hyes
          go_roundw
          case rel =>
            refine ⟨p + 1, by rw [hd], by omega, rfl, ?_⟩
            rw [all_take_succ _ _ p (by simpa using hlt), Hall.out]
            simpa [ByteArray.getElem_eq_getElem_data] using hyes
          case measure => simp [hd]; omega
        · rw [letterB_high (by omega)] at hyes; cases hyes
    · have hnx := fun ty => run_next_end (P := Try.prog) w s p ty hlt
      have Hall := Lib.hid hall; clear hall
      go_wp2
      all_goals
        go_ret
        refine ⟨retB ?_, (Below.refl _ _).alloc (Nat.le_refl _) _⟩
        have h1 := Hall.out
        rw [List.take_of_length_le (by simp; omega)] at h1
        simp only [idB, h1, Bool.true_and]
        rw [Bool.eq_iff_iff]
        simp
        omega

theorem rsmall_any (c : Int) (w : World) : Calls Try.prog 64 #[.int .u8 c] w fun e w' => e = .returned (.bool (smallB c)) ∧ w = w' := by
  by_cases h1 : 97 ≤ c
  · go_enter Try.func64, Try.ntmps64
    go_wp2
    go_ret
    exact ⟨by simp [smallB, h1], rfl⟩
  · go_enter Try.func64, Try.ntmps64
    go_wp2
    go_ret
    exact ⟨by simp [smallB]; omega, rfl⟩

theorem rdigit_any (c : Int) (w : World) : Calls Try.prog 65 #[.int .u8 c] w fun e w' => e = .returned (.bool (digitB c)) ∧ w = w' := by
  by_cases h1 : 48 ≤ c
  · go_enter Try.func65, Try.ntmps65
    go_wp2
    go_ret
    exact ⟨by simp [digitB, h1], rfl⟩
  · go_enter Try.func65, Try.ntmps65
    go_wp2
    go_ret
    exact ⟨by simp [digitB]; omega, rfl⟩

theorem rpart_any (c : Int) (w : World) : Calls Try.prog 57 #[.int .u8 c] w fun e w' => e = .returned (.bool (letterB c)) ∧ w = w' := by
  go_enter Try.func57, Try.ntmps57
  go_wp2_with (first | (go_at_call 64; refine (rsmall_any _ _).mono ?_; rintro e w' ⟨rfl, rfl⟩) | (go_at_call 65; refine (rdigit_any _ _).mono ?_; rintro e w' ⟨rfl, rfl⟩))
  all_goals
    go_ret
    refine ⟨retB ?_, rfl⟩
    first
      | (simp [letterB, smallB, digitB, *]; done)
      | (simp_all [letterB]; done)
      | (have h65 : decide (65 ≤ c) = false := by simp; omega
         simp only [letterB, h65]
         simp_all)

theorem RID_any (s : ByteArray) (w : World) (hs : s.size ≤ maxLen) : Calls Try.prog 45 #[.string s] w fun e w' => e = .returned (.bool (idB s)) ∧ w = w' := by
  unfold maxLen at hs
  by_cases hz : 1 ≤ s.size ∧ s.size ≤ 64
  · obtain ⟨h1, h2⟩ := hz
    go_enter Try.func45, Try.ntmps45
    go_wp2_with fail
    go_loop [2, 3] (fun r i => ∃ p : Nat, i = .int .i64 p ∧ p ≤ s.size ∧ r = .bool false ∧ (s.data.toList.take p).all (fun c => letterB c.toNat) = true) (fun _ i => s.size - (intOf i).toNat)
    case atStart => exact ⟨0, rfl, Nat.zero_le _, rfl, by simp⟩
    case round =>
      obtain ⟨p, rfl, hp, rfl, hall⟩ := hrel
      have Hall := Lib.hid hall; clear hall
      by_cases hlt : p < s.size
      · go_wp2_with (go_at_call 57; refine (rpart_any _ _).mono ?_; rintro e w' ⟨rfl, rfl⟩)
        · go_ret
          refine ⟨retB ?_, rfl⟩
          have hno : letterB (s[p]'hlt).toNat = false := by
            have : (!letterB ↑(s[p]'hlt).toNat) = true := by assumption
            simpa using this
          have : s.data.toList.all (fun c => letterB c.toNat) = false := by
            rw [List.all_eq_false]
            exact ⟨s[p]'hlt, by simp [ByteArray.getElem_eq_getElem_data], by simpa using hno⟩
          simp [idB, this]
        · have hyes : letterB (s[p]'hlt).toNat = true := by
            have : (!letterB ↑(s[p]'hlt).toNat) = false := by assumption
            simpa using this
          refine ⟨⟨p + 1, by go_num, by omega, rfl, ?_⟩, by simp [intOf]; omega⟩
          rw [all_take_succ _ _ p (by simpa using hlt), Hall.out]
          simpa [ByteArray.getElem_eq_getElem_data] using hyes
      · go_wp2
        go_ret
        refine ⟨retB ?_, rfl⟩
        have h1 := Hall.out
        rw [List.take_of_length_le (by simp; omega)] at h1
        simp only [idB, h1, Bool.true_and]
        rw [Bool.eq_iff_iff]
        simp
        omega
  · have hf : idB s = false := by simp [idB]; omega
    have Hf := Lib.hid hf; clear hf
    by_cases h1 : s.size < 1
    · go_enter Try.func45, Try.ntmps45
      go_wp2
      go_ret
      exact ⟨retB Hf.out.symm, rfl⟩
    · go_enter Try.func45, Try.ntmps45
      have h2 : 64 < s.size := by omega
      go_wp2
      go_ret
      exact ⟨retB Hf.out.symm, rfl⟩
end Go.Proofs.Ytkbblkhkadcpcaa
