/- Chapters 18, 19: contracts: amount, valid and Valid of statistics, floor, Number; num.Valid, between, the checks of a rule, Breaches. No condition. -/
import Derived.Test.YtmmhcacpehpjdaaProg
import Derived.WalkKit
import Derived.ProofKit
import Derived.OpenShut
import Derived.Test.YtmmhcacpehpjdaaBase
import Derived.Test.YtmmhcacpehpjdaaSlice
namespace Go.Proofs.Ytmmhcacpehpjdaa
set_option linter.unusedVariables false
set_option linter.unusedSimpArgs false
open Go.RowKit

structure Sd where
  c : Int
  s : Int
  mn : Int
  mx : Int
def sCells (x : Sd) : List Value := [.int .i64 x.c, .int .i64 x.s, .int .i64 x.mn, .int .i64 x.mx]
def Sd.good (x : Sd) : Prop := (Lit.int .i64 x.c).wf = true ∧ (Lit.int .i64 x.s).wf = true ∧ (Lit.int .i64 x.mn).wf = true ∧ (Lit.int .i64 x.mx).wf = true

def amountB (n : Int) : Bool := decide (-1000000000 ≤ n) && decide (n ≤ 1000000000)

theorem amount_any (n : Int) (w : World) : Calls Try.prog 46 #[.int .i64 n] w fun e w' => e = .returned (.bool (amountB n)) ∧ w = w' := by
  unfold amountB
  generalize hR : (decide (-1000000000 ≤ n) && decide (n ≤ 1000000000)) = R
  have HR := Lib.hid hR
  clear hR
  go_enter Try.func46, Try.ntmps46
  go_wp2
  all_goals go_ret
  · refine ⟨retB ?_, rfl⟩
    rw [← HR.out, Bool.eq_iff_iff]; simp; omega
  · refine ⟨retB ?_, rfl⟩
    rw [← HR.out]; simp; omega

theorem mul_in {c m : Int} (h0 : 0 ≤ c) (h1 : c ≤ 1000000000) (h2 : -1000000000 ≤ m) (h3 : m ≤ 1000000000) : -1000000000000000000 ≤ c * m ∧ c * m ≤ 1000000000000000000 := by
  have a1 : c * m ≤ c * 1000000000 := Int.mul_le_mul_of_nonneg_left h3 h0
  have a2 : c * (-1000000000) ≤ c * m := Int.mul_le_mul_of_nonneg_left h2 h0
  omega

def inR (c mn mx : Int) : Bool := decide (0 ≤ c) && decide (c ≤ 1000000000) && decide (-1000000000 ≤ mn) && decide (mx ≤ 1000000000) && decide (mn ≤ mx)
def validS (x : Sd) : Bool := if x.c = 0 then decide (x.s = 0) && decide (x.mn = 0) && decide (x.mx = 0) else inR x.c x.mn x.mx && decide (x.c * x.mn ≤ x.s) && decide (x.s ≤ x.c * x.mx)

set_option maxHeartbeats 1000000 in
theorem valid_any (x : Sd) (w : World) : Calls Try.prog 55 #[.agg #[.int .i64 x.c, .int .i64 x.s, .int .i64 x.mn, .int .i64 x.mx]] w fun e w' => e = .returned (.bool (validS x)) ∧ Chg [] w w' := by
  obtain ⟨c, s, mn, mx⟩ := x
  show Calls _ _ #[.agg #[.int .i64 c, .int .i64 s, .int .i64 mn, .int .i64 mx]] _ _
  by_cases h0 : c = 0
  · subst h0
    generalize hR : validS ⟨0, s, mn, mx⟩ = R
    have HR := Lib.hid hR
    clear hR
    go_enter Try.func55, Try.ntmps55
    go_wp2_with fail
    all_goals go_ret
    all_goals (refine ⟨retB ?_, (Chg.refl _ _).alloc _⟩; rw [← HR.out]; simp [validS]; try omega)
  · by_cases h1 : inR c mn mx = true
    · have hw1 : IntKind.i64.wrap (c * mn) = c * mn := by
        simp [inR] at h1
        have := mul_in (c := c) (m := mn) (by omega) (by omega) (by omega) (by omega)
        exact IntWalk.i64_in _ (by omega)
      have hw2 : IntKind.i64.wrap (c * mx) = c * mx := by
        simp [inR] at h1
        have := mul_in (c := c) (m := mx) (by omega) (by omega) (by omega) (by omega)
        exact IntWalk.i64_in _ (by omega)
      generalize hR : validS ⟨c, s, mn, mx⟩ = R
      have HR := Lib.hid hR
      have h1' := h1
      simp [inR] at h1'
      obtain ⟨⟨⟨⟨i1, i2⟩, i3⟩, i4⟩, i5⟩ := h1'
      have am : amountB mn = true := by simp [amountB]; omega
      have ax : amountB mx = true := by simp [amountB]; omega
      have cb : (c == 0) = false := by simpa using h0
      clear hR
      go_enter Try.func55, Try.ntmps55
      go_wp2_with (first | (go_at_call 46; refine (amount_any _ _).mono ?_; rintro e w1 ⟨rfl, rfl⟩) | fail)
      all_goals go_ret
      all_goals (refine ⟨retB ?_, (Chg.refl _ _).alloc _⟩; rw [← HR.out, Bool.eq_iff_iff]; simp [validS, h0, h1]; try omega)
    · generalize hR : validS ⟨c, s, mn, mx⟩ = R
      have HR := Lib.hid hR
      have cb : (c == 0) = false := by simpa using h0
      clear hR
      go_enter Try.func55, Try.ntmps55
      go_wp2_with (first | (go_at_call 46; refine (amount_any _ _).mono ?_; rintro e w1 ⟨rfl, rfl⟩) | fail)
      all_goals go_ret
      all_goals (
        have hf : validS ⟨c, s, mn, mx⟩ = false := by simp [validS, h0]; intro h; exact absurd h h1
        refine ⟨retB ?_, (Chg.refl _ _).alloc _⟩
        first
          | (rw [← HR.out, hf]; done)
          | (exfalso; apply h1; simp [inR]; simp [amountB] at *; omega))
end Go.Proofs.Ytmmhcacpehpjdaa
