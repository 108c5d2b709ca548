/- Values (chapters 30, 50): contract: value.Check. Conditions: at most 3518437208780 cells; the table of Itoa lies as the program lays it. -/
import Derived.Test.YtolidiafomceiaaGreatDoorValF
namespace Go.Proofs.YtolidiafomceiaaGreatDoor
set_option linter.unusedVariables false
set_option linter.unusedSimpArgs false
open Go.RowKit
def checkQ (len : Nat) (q : Int × Sh × Bool) : Int :=
  if q.2.2 = false then 1 else if q.1 ≠ (len : Int) then 1 else if q.2.1.outside = true then 2 else if q.2.1.long = true then 3 else if 200 < (len : Int) then 3 else if 8 < q.2.1.depth then 3 else if 4000 < q.2.1.bytes then 3 else 0
def checkZ (l : List Ce) : Int := checkQ l.length (lookS l)
set_option maxHeartbeats 4000000 in
set_option maxRecDepth 100000 in
theorem vcheck_any (a : Option Addr) (c : Nat) (l : List Ce) (w : World) (h : SlIs ceC 4 w a l.length l) (hl : l.length ≤ 3518437208780) (hg : ∀ x ∈ l, x.good) (ht : TabW w) :
    Calls Tryz.prog 139 #[.slice a l.length c] w fun e w' => e = .returned (.int .i64 (checkZ l)) ∧ Chg [] w w' := by
  have A := Lib.hid (look_any a c l w h hl hg ht)
  obtain ⟨R, hR⟩ : ∃ R, R = checkZ l := ⟨_, rfl⟩
  rw [← hR]
  unfold checkZ at hR
  have HL : Hid (l.length ≤ 3518437208780) := Lib.hid hl
  clear h hg ht hl
  generalize lookS l = q at *
  obtain ⟨n, s, ok⟩ := q
  obtain ⟨dp, by_, os, lg⟩ := s
  unfold shC at A
  simp only [checkQ] at hR A
  generalize l.length = m at *
  cases ok
  · have HF := Lib.hid (hR.trans (if_pos rfl))
    clear hR
    go_enter Tryz.func139, Tryz.ntmps139
    go_wp2_with fail
    refine A.out.mono ?_; rintro e w1 ⟨rfl, hc⟩
    have D := Lib.hid hc
    clear hc
    go_wp2_with fail
    go_ret
    exact ⟨retI HF.out.symm, D.out.alloc _⟩
  rw [if_neg (by decide)] at hR
  by_cases hn : n = (m : Int)
  · subst hn
    rw [if_neg (by simp)] at hR
    cases os
    · rw [if_neg (by decide)] at hR
      cases lg
      · rw [if_neg (by decide)] at hR
        by_cases h2 : 200 < (m : Int)
        · have HF := Lib.hid (hR.trans (if_pos h2))
          clear hR
          go_enter Tryz.func139, Tryz.ntmps139
          go_wp2_with fail
          refine A.out.mono ?_; rintro e w1 ⟨rfl, hc⟩
          have D := Lib.hid hc
          clear hc
          go_wp2_with fail
          go_ret
          exact ⟨retI HF.out.symm, D.out.alloc _⟩
        rw [if_neg h2] at hR
        by_cases h3 : 8 < dp
        · have HF := Lib.hid (hR.trans (if_pos h3))
          clear hR
          go_enter Tryz.func139, Tryz.ntmps139
          go_wp2_with fail
          refine A.out.mono ?_; rintro e w1 ⟨rfl, hc⟩
          have D := Lib.hid hc
          clear hc
          go_wp2_with fail
          go_ret
          exact ⟨retI HF.out.symm, D.out.alloc _⟩
        rw [if_neg h3] at hR
        by_cases h4 : 4000 < by_
        · have HF := Lib.hid (hR.trans (if_pos h4))
          clear hR
          go_enter Tryz.func139, Tryz.ntmps139
          go_wp2_with fail
          refine A.out.mono ?_; rintro e w1 ⟨rfl, hc⟩
          have D := Lib.hid hc
          clear hc
          go_wp2_with fail
          go_ret
          exact ⟨retI HF.out.symm, D.out.alloc _⟩
        have HF := Lib.hid (hR.trans (if_neg h4))
        clear hR
        go_enter Tryz.func139, Tryz.ntmps139
        go_wp2_with fail
        refine A.out.mono ?_; rintro e w1 ⟨rfl, hc⟩
        have D := Lib.hid hc
        clear hc
        go_wp2_with fail
        go_ret
        exact ⟨retI HF.out.symm, D.out.alloc _⟩
      · have HF := Lib.hid (hR.trans (if_pos rfl))
        clear hR
        go_enter Tryz.func139, Tryz.ntmps139
        go_wp2_with fail
        refine A.out.mono ?_; rintro e w1 ⟨rfl, hc⟩
        have D := Lib.hid hc
        clear hc
        go_wp2_with fail
        go_ret
        exact ⟨retI HF.out.symm, D.out.alloc _⟩
    · have HF := Lib.hid (hR.trans (if_pos rfl))
      clear hR
      go_enter Tryz.func139, Tryz.ntmps139
      go_wp2_with fail
      refine A.out.mono ?_; rintro e w1 ⟨rfl, hc⟩
      have D := Lib.hid hc
      clear hc
      go_wp2_with fail
      go_ret
      exact ⟨retI HF.out.symm, D.out.alloc _⟩
  · have HF := Lib.hid (hR.trans (if_pos hn))
    clear hR
    go_enter Tryz.func139, Tryz.ntmps139
    go_wp2_with fail
    refine A.out.mono ?_; rintro e w1 ⟨rfl, hc⟩
    have D := Lib.hid hc
    clear hc
    go_wp2_with fail
    go_ret
    exact ⟨retI HF.out.symm, D.out.alloc _⟩
end Go.Proofs.YtolidiafomceiaaGreatDoor
