/- Chapter 52: contracts of the checks: meter.Valid, meter.Add, those of the reference. No condition. -/
import Derived.Test.YtfnnnflfikmekaaBase
import Derived.Test.YtfnnnflfikmekaaProg
namespace Go.Proofs.Ytfnnnflfikmekaa
set_option linter.unusedVariables false
set_option linter.unusedSimpArgs false
open Go.RowKit

structure Us where
  inv : Int
  steps : Int
  ticks : Int
  units : Int
def usV (u : Us) : Value := .agg #[.int .i64 u.inv, .int .i64 u.steps, .int .i64 u.ticks, .int .i64 u.units]
def amtB (n : Int) : Bool := decide (0 ≤ n) && decide (n ≤ 1000000000000)
def usB (u : Us) : Bool := amtB u.inv && amtB u.steps && amtB u.ticks && amtB u.units
theorem betw_any (n lo hi : Int) (w : World) : Calls Try.prog 52 #[.int .i64 n, .int .i64 lo, .int .i64 hi] w fun e w' => e = .returned (.bool (decide (lo ≤ n) && decide (n ≤ hi))) ∧ w = w' := by
  by_cases h1 : lo ≤ n
  · go_enter Try.func52, Try.ntmps52
    go_wp2
    go_ret
    exact ⟨by simp [h1], rfl⟩
  · go_enter Try.func52, Try.ntmps52
    go_wp2
    go_ret
    exact ⟨by simp; omega, rfl⟩
def usL (u : Us) : List Int := [u.inv, u.steps, u.ticks, u.units]
theorem usB_all (u : Us) : usB u = (usL u).all amtB := by simp [usB, usL, Bool.and_assoc]

set_option maxHeartbeats 4000000 in
set_option maxRecDepth 100000 in
theorem mvalid_any (u : Us) (w : World) : Calls Try.prog 35 #[usV u] w fun e w' => e = .returned (.bool (usB u)) ∧ Chg [] w w' := by
  obtain ⟨a, b, c, d⟩ := u
  obtain ⟨R, hR⟩ : ∃ R, R = usB ⟨a, b, c, d⟩ := ⟨_, rfl⟩
  rw [← hR]
  rw [usB_all] at hR
  have HR := Lib.hid hR
  obtain ⟨vs, hvs⟩ : ∃ vs, vs = usL ⟨a, b, c, d⟩ := ⟨_, rfl⟩
  rw [← hvs] at HR
  have hlen : vs.length = 4 := by rw [hvs]; rfl
  have Hl := Lib.hid hlen
  have hcl : ∀ (W : World) (t : TypeId) (B : Nat), W.heap[B]? = some (.cells #[.int .i64 a, .int .i64 b, .int .i64 c, .int .i64 d] t (0, 0)) → ∀ k (hk : k < vs.length), W.cell? ⟨B, k, none⟩ = some (.int .i64 vs[k]) := by
    intro W t B hB k hk
    rw [blk_cell hB]
    subst hvs
    match k, hk with
    | 0, _ => rfl
    | 1, _ => rfl
    | 2, _ => rfl
    | 3, _ => rfl
  have Hcl := Lib.hid hcl
  unfold usV
  clear hR hvs hlen hcl
  go_enter Try.func35, Try.ntmps35
  go_wp2_with fail
  obtain ⟨w2, hw2⟩ : ∃ w2, w2 = (w.alloc (.cells #[.int .i64 a, .int .i64 b, .int .i64 c, .int .i64 d] 28)).alloc (.cells #[.int .i64 a, .int .i64 b, .int .i64 c, .int .i64 d] 3) := ⟨_, rfl⟩
  have hc2 : Chg [] w w2 := by rw [hw2]; exact ((Chg.refl _ _).alloc _).alloc _
  have hb2 : w2.heap[w.heap.size + 1]? = some (.cells #[.int .i64 a, .int .i64 b, .int .i64 c, .int .i64 d] 3 (0, 0)) := by
    rw [hw2]
    have := heap_alloc_new (w.alloc (.cells #[.int .i64 a, .int .i64 b, .int .i64 c, .int .i64 d] 28)) (.cells #[.int .i64 a, .int .i64 b, .int .i64 c, .int .i64 d] 3)
    rw [World.size_alloc] at this
    exact this
  rw [← hw2]
  have HC := Lib.hid hc2
  have Hcc := Lib.hid (Hcl.out w2 _ _ hb2)
  clear hw2 hc2 hb2 Hcl
  go_loop [15] (fun i => ∃ k : Nat, i = .int .i64 k ∧ k ≤ 4 ∧ Hid ((vs.take k).all amtB = true)) (fun i => 4 - (intOf i).toNat)
  case atStart => exact ⟨0, rfl, Nat.zero_le _, Lib.hid rfl⟩
  case round =>
    obtain ⟨k, rfl, hk4, Hall⟩ := hrel
    by_cases hk : k < 4
    · have hkv : k < vs.length := by rw [Hl.out]; exact hk
      have c0 := Hcc.out k hkv
      have hst : (vs.take (k + 1)).all amtB = amtB vs[k] := by
        rw [List.take_succ_eq_append_getElem hkv, List.all_append, Hall.out]; simp
      have hno : amtB vs[k] = false → R = false := fun h => by
        rw [HR.out, List.all_eq_false]
        exact ⟨vs[k], List.getElem_mem hkv, by simp [h]⟩
      have hk0 : (0 : Int) ≤ (k : Int) := by omega
      have hk1 : (k : Int) < 4 := by omega
      generalize vs[k] = v at *
      have A := fun w => betw_any v 0 1000000000000 w
      rw [show (decide (0 ≤ v) && decide (v ≤ 1000000000000)) = amtB v from rfl] at A
      have Hst := Lib.hid hst
      have Hno := Lib.hid hno
      cases hv : amtB v
      · rw [hv] at A
        have A := Lib.hid A
        have E := Lib.hid (Hno.out hv)
        rename_i A0
        clear A0 hst hno hv
        go_wp2_with fail
        refine (A.out _).mono ?_; rintro e w3 ⟨rfl, rfl⟩
        go_wp2_with fail
        go_ret
        exact ⟨by rw [E.out]; rfl, HC.out⟩
      · rw [hv] at A Hst
        have A := Lib.hid A
        rename_i A0
        clear A0 hst hno hv
        go_wp2_with fail
        refine (A.out _).mono ?_; rintro e w3 ⟨rfl, rfl⟩
        go_wp2_with fail
        exact ⟨⟨k + 1, by go_num, by omega, Hst⟩, by simp [intOf]; omega⟩
    · have E : Hid (R = true) := Lib.hid (by
        have h := Hall.out
        rw [List.take_of_length_le (by rw [Hl.out]; omega)] at h
        rw [HR.out]; exact h)
      go_wp2_with fail
      go_ret
      exact ⟨by rw [E.out]; rfl, HC.out⟩
end Go.Proofs.Ytfnnnflfikmekaa
