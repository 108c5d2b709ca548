/- Values (chapters 30, 50): contracts: plain, size. Condition (size): the table of Itoa lies as the program lays it. -/
import Derived.Lib.MinMax
import Derived.Test.YtolidiafomceiaaGreatDoorValA
namespace Go.Proofs.YtolidiafomceiaaGreatDoor
set_option linter.unusedVariables false
set_option linter.unusedSimpArgs false
open Go.RowKit
def emptyB (s : ByteArray) : Bool := s.toList.isEmpty
theorem empty_cases (s : ByteArray) : (s.toList = [] ∧ s.toList.isEmpty = true) ∨ (¬ s.toList = [] ∧ s.toList.isEmpty = false) := by
  cases h : s.toList <;> simp
def plainB (x : Ce) : Bool :=
  if x.kind = 1 then x.n == 0 && emptyB x.str && x.cn == 0
  else if x.kind = 2 then (x.n == 0 || x.n == 1) && emptyB x.str && x.cn == 0
  else if x.kind = 3 then emptyB x.str && x.cn == 0
  else if x.kind = 4 then x.n == 0 && x.cn == 0 && textB x.str
  else if x.kind = 5 ∨ x.kind = 6 then x.n == 0 && emptyB x.str && decide (0 ≤ x.cn)
  else false
set_option maxHeartbeats 16000000 in
set_option maxRecDepth 100000 in
theorem plain_any (x : Ce) (w : World) (hs : x.str.size ≤ maxLen) : Calls Tryz.prog 141 #[ceV x] w fun e w' => e = .returned (.bool (plainB x)) ∧ Chg [] w w' := by
  have C1 := Lib.hid (show Chg [] w (w.alloc (ceO x)) from (Chg.refl _ _).alloc _)
  have A1 := Lib.hid (fun w' => text_any x.str w' hs)
  obtain ⟨k, n, s, cn⟩ := x
  obtain ⟨R, hR⟩ : ∃ R, R = plainB ⟨k, n, s, cn⟩ := ⟨_, rfl⟩
  rw [← hR]
  unfold plainB emptyB at hR
  simp only at hR A1
  unfold ceV
  unfold ceO at C1
  generalize textB s = tb at *
  have HR := Lib.hid hR
  have hb := empty_cases s
  clear hR hs
  by_cases h1 : k = 1
  · subst h1
    cases b1 : n == 0 <;> rcases hb with ⟨b2, b2e⟩ | ⟨b2, b2e⟩ <;> cases b3 : cn == 0
    all_goals
      have HE := Lib.hid (HR.out.trans (by rw [if_pos rfl, b1, b2e, b3]))
      go_enter Tryz.func141, Tryz.ntmps141
      go_wp2_with fail
      go_ret
      exact ⟨by rw [HE.out]; rfl, C1.out⟩
  have k1 : (k == 1) = false := by simpa using h1
  by_cases h2 : k = 2
  · subst h2
    by_cases n0 : n = 0
    · subst n0
      rcases hb with ⟨b2, b2e⟩ | ⟨b2, b2e⟩ <;> cases b3 : cn == 0
      all_goals
        have HE := Lib.hid (HR.out.trans (by rw [if_neg (by decide), if_pos rfl, b2e, b3]))
        go_enter Tryz.func141, Tryz.ntmps141
        go_wp2_with fail
        go_ret
        exact ⟨by rw [HE.out]; rfl, C1.out⟩
    · have n0' : (n == 0) = false := by simpa using n0
      cases b1 : n == 1 <;> rcases hb with ⟨b2, b2e⟩ | ⟨b2, b2e⟩ <;> cases b3 : cn == 0
      all_goals
        have HE := Lib.hid (HR.out.trans (by rw [if_neg (by decide), if_pos rfl, n0', b1, b2e, b3]))
        go_enter Tryz.func141, Tryz.ntmps141
        go_wp2_with fail
        go_ret
        exact ⟨by rw [HE.out]; rfl, C1.out⟩
  have k2 : (k == 2) = false := by simpa using h2
  by_cases h3 : k = 3
  · subst h3
    rcases hb with ⟨b2, b2e⟩ | ⟨b2, b2e⟩ <;> cases b3 : cn == 0
    all_goals
      have HE := Lib.hid (HR.out.trans (by rw [if_neg (by decide), if_neg (by decide), if_pos rfl, b2e, b3]))
      go_enter Tryz.func141, Tryz.ntmps141
      go_wp2_with fail
      go_ret
      exact ⟨by rw [HE.out]; rfl, C1.out⟩
  have k3 : (k == 3) = false := by simpa using h3
  by_cases h4 : k = 4
  · subst h4
    cases b1 : n == 0 <;> cases b3 : cn == 0
    all_goals
      have HE := Lib.hid (HR.out.trans (by rw [if_neg (by decide), if_neg (by decide), if_neg (by decide), if_pos rfl, b1, b3]))
      go_enter Tryz.func141, Tryz.ntmps141
      go_wp2_with (go_at_call 146; (with_reducible refine (A1.out _).mono ?_); rintro e w2 ⟨rfl, rfl⟩)
      go_ret
      exact ⟨by rw [HE.out]; rfl, C1.out⟩
  have k4 : (k == 4) = false := by simpa using h4
  by_cases h56 : k = 5 ∨ k = 6
  · have HR2 := Lib.hid (HR.out.trans (by rw [if_neg h1, if_neg h2, if_neg h3, if_neg h4, if_pos h56]))
    clear HR
    by_cases hc : 0 ≤ cn
    · rcases h56 with rfl | rfl
      all_goals
        cases b1 : n == 0 <;> rcases hb with ⟨b2, b2e⟩ | ⟨b2, b2e⟩
        all_goals
          have HE := Lib.hid (HR2.out.trans (by rw [b1, b2e, decide_eq_true hc]))
          go_enter Tryz.func141, Tryz.ntmps141
          go_wp2_with fail
          go_ret
          exact ⟨by rw [HE.out]; rfl, C1.out⟩
    · have hc' : cn < 0 := by omega
      rcases h56 with rfl | rfl
      all_goals
        cases b1 : n == 0 <;> rcases hb with ⟨b2, b2e⟩ | ⟨b2, b2e⟩
        all_goals
          have HE := Lib.hid (HR2.out.trans (by rw [b1, b2e, decide_eq_false hc]))
          go_enter Tryz.func141, Tryz.ntmps141
          go_wp2_with fail
          go_ret
          exact ⟨by rw [HE.out]; rfl, C1.out⟩
  · have HE := Lib.hid (HR.out.trans (by rw [if_neg h1, if_neg h2, if_neg h3, if_neg h4, if_neg h56]))
    have k5 : (k == 5) = false := by simp; intro h; exact h56 (.inl h)
    have k6 : (k == 6) = false := by simp; intro h; exact h56 (.inr h)
    go_enter Tryz.func141, Tryz.ntmps141
    go_wp2_with fail
    go_ret
    exact ⟨by rw [HE.out]; rfl, C1.out⟩
def TabW (w : World) : Prop := Lib.TabIs Tryz.prog w "internal/strconv.uint64pow10" .u64 Lib.pow10Tab
def sizeZ (x : Ce) : Int :=
  if x.kind = 1 then 4
  else if x.kind = 2 then IntKind.i64.wrap (5 - x.n)
  else if x.kind = 3 then ((Lib.itoa x.n).length : Int)
  else if x.kind = 4 then quotZ x.str
  else IntKind.i64.wrap (2 + max 0 (IntKind.i64.wrap (x.cn - 1)))
theorem format_any (n : Int) (h0 : -9223372036854775808 ≤ n) (h1 : n ≤ 9223372036854775807) (w : World) (ht : TabW w) : Calls Tryz.prog 148 #[.int .i64 n] w fun e w' => e = .returned (.string ⟨(Lib.itoa n).toArray⟩) ∧ Chg [] w w' := by
  have A1 := Lib.hid (Tryz.strconv_Itoa n h0 h1 w ht)
  go_enter Tryz.func148, Tryz.ntmps148
  go_wp2_with fail
  refine A1.out.mono ?_; rintro e w1 ⟨rfl, k, os, rfl⟩
  have C1 := Lib.hid (chg_regrown (w.drewN k) (w.drewN k).drawn os)
  go_wp2_with fail
  go_ret
  exact ⟨rfl, ((Chg.refl _ _).drewN k).thenSame C1.out⟩
end Go.Proofs.YtolidiafomceiaaGreatDoor
