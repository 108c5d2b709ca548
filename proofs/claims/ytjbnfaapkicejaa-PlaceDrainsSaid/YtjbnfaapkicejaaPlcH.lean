/- Chapter 43: contract: cmp.Or of two ints. No condition. -/
import Derived.Test.YtjbnfaapkicejaaPlcG
namespace Go.Proofs.Ytjbnfaapkicejaa
set_option linter.unusedVariables false
set_option linter.unusedSimpArgs false
open Go.RowKit
theorem ori_any (a b : Int) (g c : Nat) (w : World) (h : w.heap[g]? = some (.cells #[.int .i64 a, .int .i64 b] 3 (0, 0))) : Calls Try.prog 55 #[.slice (some ⟨g, 0, none⟩) 2 c] w fun e w' => e = .returned (.int .i64 (if a = 0 then b else a)) ∧ w = w' := by
  have y := blk_cell h
  have H := Lib.hid h
  obtain ⟨R, hR⟩ : ∃ R, R = if a = 0 then b else a := ⟨_, rfl⟩
  rw [← hR]
  have HR := Lib.hid hR
  clear h hR
  go_enter Try.func55, Try.ntmps55
  go_wp2_with fail
  go_loop [8] (fun i => ∃ k : Nat, i = .int .i64 k ∧ k ≤ 2 ∧ Hid (∀ j, j < k → (if j = 0 then a else b) = 0)) (fun i => 2 - (intOf i).toNat)
  case atStart => exact ⟨0, rfl, by omega, Lib.hid (fun j hj => absurd hj (Nat.not_lt_zero j))⟩
  case round =>
    obtain ⟨k, rfl, hk, HA⟩ := hrel
    have hcs : k = 2 ∨ ∃ v, k < 2 ∧ w.cell? ⟨g, k, none⟩ = some (.int .i64 v) ∧ v = if k = 0 then a else b := by
      rcases Nat.lt_or_ge k 1 with h' | h'
      · have : k = 0 := by omega
        subst this
        exact .inr ⟨a, by omega, y 0, rfl⟩
      · rcases Nat.lt_or_ge k 2 with h'' | h''
        · have : k = 1 := by omega
          subst this
          exact .inr ⟨b, by omega, y 1, rfl⟩
        · exact .inl (by omega)
    clear y
    rcases hcs with rfl | ⟨v, hk2, c0, hv⟩
    · have h0 := HA.out 0 (by omega)
      have h1 := HA.out 1 (by omega)
      have HE : Hid (R = 0) := Lib.hid (by rw [HR.out]; simp at h0 h1; rw [if_pos h0, h1])
      clear h0 h1
      go_wp2_with fail
      go_ret
      exact ⟨by rw [HE.out]; rfl, rfl⟩
    · have hk0 : (0 : Int) ≤ (k : Int) := by omega
      have hk1 : (k : Int) < 2 := by omega
      have HV := Lib.hid hv
      clear hv
      by_cases hz : v = 0
      · have HN := Lib.hid (show ∀ j, j < k + 1 → (if j = 0 then a else b) = 0 from fun j hj => by
          by_cases e : j = k
          · subst e; rw [← HV.out]; exact hz
          · exact HA.out j (by omega))
        subst hz
        go_wp2_with fail
        exact ⟨⟨k + 1, by go_num, by omega, HN⟩, by simp [intOf]; omega⟩
      · have HE : Hid (R = v) := Lib.hid (by
          rw [HR.out, HV.out]
          by_cases e : k = 0
          · subst e
            have := HV.out
            simp at this
            rw [if_neg (by rw [← this]; exact hz)]; simp
          · have h0 := HA.out 0 (by omega)
            simp at h0
            rw [if_pos h0, if_neg e])
        have hz' : (v == 0) = false := by simpa using hz
        go_wp2_with fail
        go_ret
        exact ⟨by rw [HE.out]; rfl, rfl⟩
end Go.Proofs.Ytjbnfaapkicejaa
