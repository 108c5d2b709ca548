/- Over any program with faasref05: ID. No condition. -/
import Derived.Test.YtnhemokmgpelaaaGreatDoorRNma
import Derived.Test.YtnhemokmgpelaaaGreatDoorId
namespace Go.Proofs.YtnhemokmgpelaaaGreatDoor
set_option linter.unusedVariables false
set_option linter.unusedSimpArgs false
open Go.RowKit

theorem rpart_any (c : Int) (w : World) : Calls Tryz.prog 33 #[.int .u8 c] w fun e w' => e = .returned (.bool (letterB c)) ∧ w = w' := by
  go_enter Tryz.func33, Tryz.ntmps33
  go_wp2_with (first | (go_at_call 52; refine (rsmall_any _ _).mono ?_; rintro e w' ⟨rfl, rfl⟩) | (go_at_call 53; refine (rdigit_any _ _).mono ?_; rintro e w' ⟨rfl, rfl⟩))
  all_goals
    go_ret
    refine ⟨retB ?_, rfl⟩
    first
      | (simp [letterB, smallB, digitB, *]; done)
      | (simp_all [letterB]; done)
      | (have h65 : decide (65 ≤ c) = false := by simp; omega
         simp only [letterB, h65]
         simp_all)

theorem RID_any (s : ByteArray) (w : World) (hs : s.size ≤ maxLen) : Calls Tryz.prog 15 #[.string s] w fun e w' => e = .returned (.bool (idB s)) ∧ w = w' := by
  unfold maxLen at hs
  by_cases hz : 1 ≤ s.size ∧ s.size ≤ 64
  · obtain ⟨h1, h2⟩ := hz
    go_enter Tryz.func15, Tryz.ntmps15
    go_wp2_with fail
    go_loop [2, 3] (fun r i => ∃ p : Nat, i = .int .i64 p ∧ p ≤ s.size ∧ r = .bool false ∧ (s.data.toList.take p).all (fun c => letterB c.toNat) = true) (fun _ i => s.size - (intOf i).toNat)
    case atStart => exact ⟨0, rfl, Nat.zero_le _, rfl, by simp⟩
    case round =>
      obtain ⟨p, rfl, hp, rfl, hall⟩ := hrel
      have Hall := Lib.hid hall; clear hall
      by_cases hlt : p < s.size
      · go_wp2_with (go_at_call 33; refine (rpart_any _ _).mono ?_; rintro e w' ⟨rfl, rfl⟩)
        · go_ret
          refine ⟨retB ?_, rfl⟩
          have hno : letterB (s[p]'hlt).toNat = false := by
            have : (!letterB ↑(s[p]'hlt).toNat) = true := by assumption
            simpa using this
          have : s.data.toList.all (fun c => letterB c.toNat) = false := by
            rw [List.all_eq_false]
            exact ⟨s[p]'hlt, by simp [ByteArray.getElem_eq_getElem_data], by simpa using hno⟩
          simp [idB, this]
        · have hyes : letterB (s[p]'hlt).toNat = true := by
            have : (!letterB ↑(s[p]'hlt).toNat) = false := by assumption
            simpa using this
          refine ⟨⟨p + 1, by go_num, by omega, rfl, ?_⟩, by simp [intOf]; omega⟩
          rw [all_take_succ _ _ p (by simpa using hlt), Hall.out]
          simpa [ByteArray.getElem_eq_getElem_data] using hyes
      · go_wp2
        go_ret
        refine ⟨retB ?_, rfl⟩
        have h1 := Hall.out
        rw [List.take_of_length_le (by simp; omega)] at h1
        simp only [idB, h1, Bool.true_and]
        rw [Bool.eq_iff_iff]
        simp
        omega
  · have hf : idB s = false := by simp [idB]; omega
    have Hf := Lib.hid hf; clear hf
    by_cases h1 : s.size < 1
    · go_enter Tryz.func15, Tryz.ntmps15
      go_wp2
      go_ret
      exact ⟨retB Hf.out.symm, rfl⟩
    · go_enter Tryz.func15, Tryz.ntmps15
      have h2 : 64 < s.size := by omega
      go_wp2
      go_ret
      exact ⟨retB Hf.out.symm, rfl⟩
end Go.Proofs.YtnhemokmgpelaaaGreatDoor
