/- Names: contracts of the reference's small, digit. No condition. -/
import Derived.Test.YtnhemokmgpelaaaGreatDoorNma
namespace Go.Proofs.YtnhemokmgpelaaaGreatDoor
set_option linter.unusedVariables false
set_option linter.unusedSimpArgs false
open Go.RowKit

theorem rsmall_any (c : Int) (w : World) : Calls Tryz.prog 52 #[.int .u8 c] w fun e w' => e = .returned (.bool (smallB c)) ∧ w = w' := by
  by_cases h1 : 97 ≤ c
  · go_enter Tryz.func52, Tryz.ntmps52
    go_wp2
    go_ret
    exact ⟨by simp [smallB, h1], rfl⟩
  · go_enter Tryz.func52, Tryz.ntmps52
    go_wp2
    go_ret
    exact ⟨by simp [smallB]; omega, rfl⟩
theorem rdigit_any (c : Int) (w : World) : Calls Tryz.prog 53 #[.int .u8 c] w fun e w' => e = .returned (.bool (digitB c)) ∧ w = w' := by
  by_cases h1 : 48 ≤ c
  · go_enter Tryz.func53, Tryz.ntmps53
    go_wp2
    go_ret
    exact ⟨by simp [digitB, h1], rfl⟩
  · go_enter Tryz.func53, Tryz.ntmps53
    go_wp2
    go_ret
    exact ⟨by simp [digitB]; omega, rfl⟩
theorem okAt_succ {p : Nat} (hp : 0 < p) (c : Int) : okAt p c = (smallB c || (digitB c || c == 45 || c == 95)) := by
  unfold okAt
  rw [decide_eq_true hp]; simp
end Go.Proofs.YtnhemokmgpelaaaGreatDoor
