/- Over any program with ident: ID, letter. No condition. -/
import Derived.Test.YtnhemokmgpelaaaGreatDoorNma
namespace Go.Proofs.YtnhemokmgpelaaaGreatDoor
set_option linter.unusedVariables false
set_option linter.unusedSimpArgs false
open Go.RowKit

def letterB (c : Int) : Bool := smallB c || digitB c || (decide (65 ≤ c) && decide (c ≤ 90)) || c == 45 || c == 95 || c == 46 || c == 58 || c == 47
/-- Which strings are identifiers. -/
def idB (s : ByteArray) : Bool := s.data.toList.all (fun c => letterB c.toNat) && decide (1 ≤ s.size) && decide (s.size ≤ 64)

theorem letterB_high {c : Int} (h : 128 ≤ c) : letterB c = false := by simp [letterB, smallB, digitB]; omega
theorem letter_any (c : Int) (w : World) : Calls Tryz.prog 73 #[.int .i32 c] w fun e w' => e = .returned (.bool (letterB c)) ∧ w = w' := by
  go_enter Tryz.func73, Tryz.ntmps73
  go_wp2_with (first | (go_at_call 86; refine (small_any _ _).mono ?_; rintro e w' ⟨rfl, rfl⟩) | (go_at_call 87; refine (digit_any _ _).mono ?_; rintro e w' ⟨rfl, rfl⟩))
  all_goals
    go_ret
    refine ⟨retB ?_, rfl⟩
    first
      | (simp [letterB, smallB, digitB, *]; done)
      | (simp_all [letterB]; done)
      | (have h65 : decide (65 ≤ c) = false := by simp; omega
         simp only [letterB, h65]
         simp_all)

theorem all_take_succ (l : List UInt8) (f : UInt8 → Bool) (p : Nat) (h : p < l.length) : (l.take (p + 1)).all f = ((l.take p).all f && f l[p]) := by
  rw [List.take_succ_eq_append_getElem h, List.all_append]; simp

set_option maxHeartbeats 400000 in
theorem ID_any (s : ByteArray) (w : World) (hs : s.size ≤ maxLen) : Calls Tryz.prog 56 #[.string s] w fun e w' => e = .returned (.bool (idB s)) ∧ Below w.heap.size w w' := by
  unfold maxLen at hs
  go_enter Tryz.func56, Tryz.ntmps56
  go_wp2
  go_loopw [2] (fun r wr => ∃ p : Nat, wr = w.iter s p ∧ p ≤ s.size ∧ r = .bool false ∧ (s.data.toList.take p).all (fun c => letterB c.toNat) = true) (fun _ wr => s.size - wr.iterPos w.heap.size)
  case atStart => exact ⟨0, rfl, Nat.zero_le _, rfl, by simp⟩
  case round =>
    obtain ⟨p, rfl, hp, rfl, hall⟩ := hrel
    by_cases hlt : p < s.size
    · have hnx := fun ty => run_next_any (P := Tryz.prog) w s p ty hlt
      have Hall := Lib.hid hall; clear hall
      go_wp2_with (go_at_call 73; refine (letter_any _ _).mono ?_; rintro e w' ⟨rfl, rfl⟩)
      · go_ret
        refine ⟨?_, (Below.refl _ _).alloc (Nat.le_refl _) _⟩
        have hno : letterB (s[p]'hlt).toNat = false := by
          rcases decode_asc s p hlt with ⟨hd, _⟩ | ⟨hd, hb⟩
          · have : (!letterB ↑(Utf8.decode s p).fst) = true := by assumption
            rw [hd] at this; simpa using this
          · exact letterB_high (by omega)
        have : idB s = false := by
          have h1 := List.take_append_drop p s.data.toList
          have : s.data.toList.all (fun c => letterB c.toNat) = false := by
            rw [List.all_eq_false]
            exact ⟨s[p]'hlt, by simp [ByteArray.getElem_eq_getElem_data], by simpa using hno⟩
          simp [idB, this]
        exact retB this.symm
      · have hyes : letterB (Utf8.decode s p).fst = true := by
          have : (!letterB ↑(Utf8.decode s p).fst) = false := by assumption
          simpa using this
        rcases decode_asc s p hlt with ⟨hd, _⟩ | ⟨hd, hb⟩
        · rw [hd] at hyes
          go_roundw
          case rel =>
            refine ⟨p + 1, by rw [hd], by omega, rfl, ?_⟩
            rw [all_take_succ _ _ p (by simpa using hlt), Hall.out]
            simpa [ByteArray.getElem_eq_getElem_data] using hyes
          case measure => simp [hd]; omega
        · rw [letterB_high (by omega)] at hyes; cases hyes
    · have hnx := fun ty => run_next_end (P := Tryz.prog) w s p ty hlt
      have Hall := Lib.hid hall; clear hall
      go_wp2
      all_goals
        go_ret
        refine ⟨retB ?_, (Below.refl _ _).alloc (Nat.le_refl _) _⟩
        have h1 := Hall.out
        rw [List.take_of_length_le (by simp; omega)] at h1
        simp only [idB, h1, Bool.true_and]
        rw [Bool.eq_iff_iff]
        simp
        omega

end Go.Proofs.YtnhemokmgpelaaaGreatDoor
