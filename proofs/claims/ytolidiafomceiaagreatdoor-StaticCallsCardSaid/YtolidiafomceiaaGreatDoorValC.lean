/- Values (chapters 30, 50): contracts: size, closed. Condition (size): the table of Itoa lies as the program lays it. -/
import Derived.Test.YtolidiafomceiaaGreatDoorValB
namespace Go.Proofs.YtolidiafomceiaaGreatDoor
set_option linter.unusedVariables false
set_option linter.unusedSimpArgs false
open Go.RowKit
set_option maxHeartbeats 8000000 in
set_option maxRecDepth 100000 in
theorem size_any (x : Ce) (w : World) (hg : x.good) (ht : TabW (w.alloc (ceO x))) : Calls Tryz.prog 143 #[ceV x] w fun e w' => e = .returned (.int .i64 (sizeZ x)) ∧ Chg [] w w' := by
  have C1 := Lib.hid (show Chg [] w (w.alloc (ceO x)) from (Chg.refl _ _).alloc _)
  have hwf := hg.2.1
  obtain ⟨k, n, s, cn⟩ := x
  have hn : -9223372036854775808 ≤ n ∧ n ≤ 9223372036854775807 := by
    simp [Lit.wf, IntKind.min, IntKind.max, IntKind.signed, IntKind.bits] at hwf
    omega
  have A1 := Lib.hid (format_any n hn.1 hn.2 _ ht)
  have A2 := Lib.hid (fun w' => quoted_any s w')
  obtain ⟨R, hR⟩ : ∃ R, R = sizeZ ⟨k, n, s, cn⟩ := ⟨_, rfl⟩
  rw [← hR]
  unfold sizeZ at hR
  simp only at hR
  unfold ceV
  unfold ceO at C1 A1
  generalize quotZ s = qz at *
  have HR := Lib.hid hR
  clear hR hg ht hwf hn
  by_cases h1 : k = 1
  · subst h1
    have HE := Lib.hid (HR.out.trans (by rw [if_pos rfl]))
    go_enter Tryz.func143, Tryz.ntmps143
    go_wp2_with fail
    go_ret
    exact ⟨by rw [HE.out]; rfl, C1.out⟩
  have k1 : (k == 1) = false := by simpa using h1
  by_cases h2 : k = 2
  · subst h2
    have HE := Lib.hid (HR.out.trans (by rw [if_neg (by decide), if_pos rfl]))
    go_enter Tryz.func143, Tryz.ntmps143
    go_wp2_with fail
    go_ret
    exact ⟨by rw [HE.out]; simp [IntWalk.i64_left], C1.out⟩
  have k2 : (k == 2) = false := by simpa using h2
  by_cases h3 : k = 3
  · subst h3
    have HE := Lib.hid (HR.out.trans (by rw [if_neg (by decide), if_neg (by decide), if_pos rfl]))
    generalize Lib.itoa n = it at *
    go_enter Tryz.func143, Tryz.ntmps143
    go_wp2_with fail
    refine A1.out.mono ?_; rintro e w1 ⟨rfl, hc1⟩
    have C2 := Lib.hid (C1.out.thenSame hc1)
    clear hc1
    go_wp2_with fail
    go_ret
    exact ⟨by rw [HE.out]; simp, C2.out⟩
  have k3 : (k == 3) = false := by simpa using h3
  by_cases h4 : k = 4
  · subst h4
    have HE := Lib.hid (HR.out.trans (by rw [if_neg (by decide), if_neg (by decide), if_neg (by decide), if_pos rfl]))
    go_enter Tryz.func143, Tryz.ntmps143
    go_wp2_with fail
    refine (A2.out _).mono ?_; rintro e w1 ⟨rfl, rfl⟩
    go_wp2_with fail
    go_ret
    exact ⟨by rw [HE.out]; rfl, C1.out⟩
  have k4 : (k == 4) = false := by simpa using h4
  have HE := Lib.hid (HR.out.trans (by rw [if_neg h1, if_neg h2, if_neg h3, if_neg h4]))
  go_enter Tryz.func143, Tryz.ntmps143
  go_wp2_with fail
  go_ret
  exact ⟨by rw [HE.out]; simp [IntWalk.i64_left], C1.out⟩
end Go.Proofs.YtolidiafomceiaaGreatDoor
