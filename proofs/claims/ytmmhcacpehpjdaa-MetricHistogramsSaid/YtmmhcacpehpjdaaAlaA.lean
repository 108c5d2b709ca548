/- Chapter 19: contracts: num.Valid, between, the checks of a rule, Breaches, of both. No condition. -/
import Derived.Test.YtmmhcacpehpjdaaMetB
namespace Go.Proofs.Ytmmhcacpehpjdaa
set_option linter.unusedVariables false
set_option linter.unusedSimpArgs false
open Go.RowKit

structure Rd where
  st : Int
  ab : Bool
  th : Int
  wd : Int
  m : Int
  n : Int
  ms : Bool
def rdCells (r : Rd) : List Value := [.int .i64 r.st, .bool r.ab, .int .i64 r.th, .int .i64 r.wd, .int .i64 r.m, .int .i64 r.n, .bool r.ms]
def Rd.good (r : Rd) : Prop := (Lit.int .i64 r.st).wf = true ∧ (Lit.int .i64 r.th).wf = true ∧ (Lit.int .i64 r.wd).wf = true ∧ (Lit.int .i64 r.m).wf = true ∧ (Lit.int .i64 r.n).wf = true

def nvalidB (n : Int) : Bool := decide (-1000000000000 ≤ n) && decide (n ≤ 1000000000000)
def betweenB (n lo hi : Int) : Bool := decide (lo ≤ n) && decide (n ≤ hi)

theorem nvalid_any (n : Int) (w : World) : Calls Try.prog 43 #[.int .i64 n] w fun e w' => e = .returned (.bool (nvalidB n)) ∧ w = w' := by
  unfold nvalidB
  generalize hR : (decide (-1000000000000 ≤ n) && decide (n ≤ 1000000000000)) = R
  have HR := Lib.hid hR
  clear hR
  go_enter Try.func43, Try.ntmps43
  go_wp2
  all_goals go_ret
  all_goals (refine ⟨retB ?_, rfl⟩; rw [← HR.out, Bool.eq_iff_iff]; simp; omega)
theorem rnvalid_any (n : Int) (w : World) : Calls Try.prog 45 #[.int .i64 n] w fun e w' => e = .returned (.bool (nvalidB n)) ∧ w = w' := by
  unfold nvalidB
  generalize hR : (decide (-1000000000000 ≤ n) && decide (n ≤ 1000000000000)) = R
  have HR := Lib.hid hR
  clear hR
  go_enter Try.func45, Try.ntmps45
  go_wp2
  all_goals go_ret
  all_goals (refine ⟨retB ?_, rfl⟩; rw [← HR.out, Bool.eq_iff_iff]; simp; omega)
theorem between_any (n lo hi : Int) (w : World) : Calls Try.prog 44 #[.int .i64 n, .int .i64 lo, .int .i64 hi] w fun e w' => e = .returned (.bool (betweenB n lo hi)) ∧ w = w' := by
  unfold betweenB
  generalize hR : (decide (lo ≤ n) && decide (n ≤ hi)) = R
  have HR := Lib.hid hR
  clear hR
  go_enter Try.func44, Try.ntmps44
  go_wp2
  all_goals go_ret
  all_goals (refine ⟨retB ?_, rfl⟩; rw [← HR.out, Bool.eq_iff_iff]; simp; omega)

def ruleB (r : Rd) : Bool := betweenB r.st 1 5 && nvalidB r.th && betweenB r.wd 1 1073741824 && betweenB r.n 1 32 && betweenB r.m 1 r.n
def checkR (r : Rd) : Int := if ruleB r = true then 0 else 2
theorem rule_in {r : Rd} (h : ruleB r = true) : (1 ≤ r.st ∧ r.st ≤ 5) ∧ (-1000000000000 ≤ r.th ∧ r.th ≤ 1000000000000) ∧ (1 ≤ r.wd ∧ r.wd ≤ 1073741824) ∧ (1 ≤ r.n ∧ r.n ≤ 32) ∧ (1 ≤ r.m ∧ r.m ≤ r.n) := by
  simp only [ruleB, betweenB, nvalidB, Bool.and_eq_true, decide_eq_true_eq] at h
  omega

set_option maxHeartbeats 2000000 in
theorem acheck_any (r : Rd) (w : World) : Calls Try.prog 16 #[.agg #[.int .i64 r.st, .bool r.ab, .int .i64 r.th, .int .i64 r.wd, .int .i64 r.m, .int .i64 r.n, .bool r.ms]] w fun e w' => e = .returned (.int .i64 (checkR r)) ∧ Chg [] w w' := by
  obtain ⟨st, ab, th, wd, m, n, ms⟩ := r
  show Calls _ _ #[.agg #[.int .i64 st, .bool ab, .int .i64 th, .int .i64 wd, .int .i64 m, .int .i64 n, .bool ms]] _ _
  obtain ⟨R, hR⟩ : ∃ R, R = checkR ⟨st, ab, th, wd, m, n, ms⟩ := ⟨_, rfl⟩
  rw [← hR]
  have HR := Lib.hid hR
  clear hR
  go_enter Try.func16, Try.ntmps16
  go_wp2_with (first
    | (go_at_call 43; refine (nvalid_any _ _).mono ?_; rintro e w1 ⟨rfl, rfl⟩)
    | (go_at_call 44; refine (between_any _ _ _ _).mono ?_; rintro e w1 ⟨rfl, rfl⟩) | fail)
  all_goals go_ret
  all_goals (
    refine ⟨retI ?_, (Chg.refl _ _).alloc _⟩
    rw [HR.out]
    unfold checkR
    simp only [ruleB, nvalidB, betweenB, Bool.and_eq_true, Bool.and_eq_false_iff, decide_eq_true_eq, decide_eq_false_iff_not, Bool.not_eq_true', Bool.not_eq_false'] at *
    split <;> omega)

set_option maxHeartbeats 2000000 in
theorem racheck_any (r : Rd) (w : World) : Calls Try.prog 17 #[.agg #[.int .i64 r.st, .bool r.ab, .int .i64 r.th, .int .i64 r.wd, .int .i64 r.m, .int .i64 r.n, .bool r.ms]] w fun e w' => e = .returned (.int .i64 (checkR r)) ∧ Chg [] w w' := by
  obtain ⟨st, ab, th, wd, m, n, ms⟩ := r
  show Calls _ _ #[.agg #[.int .i64 st, .bool ab, .int .i64 th, .int .i64 wd, .int .i64 m, .int .i64 n, .bool ms]] _ _
  obtain ⟨R, hR⟩ : ∃ R, R = checkR ⟨st, ab, th, wd, m, n, ms⟩ := ⟨_, rfl⟩
  rw [← hR]
  have HR := Lib.hid hR
  clear hR
  go_enter Try.func17, Try.ntmps17
  go_wp2_with (first
    | (go_at_call 45; refine (rnvalid_any _ _).mono ?_; rintro e w1 ⟨rfl, rfl⟩) | fail)
  all_goals go_ret
  all_goals (
    refine ⟨retI ?_, (Chg.refl _ _).alloc _⟩
    rw [HR.out]
    unfold checkR
    simp only [ruleB, nvalidB, betweenB, Bool.and_eq_true, decide_eq_true_eq] at *
    split <;> omega)
end Go.Proofs.Ytmmhcacpehpjdaa
