/- Chapter 9: contracts: count, fits. No condition. -/
import Derived.Test.YtolidiafomceiaaGreatDoorStaE
namespace Go.Proofs.YtolidiafomceiaaGreatDoor
set_option linter.unusedVariables false
set_option linter.unusedSimpArgs false
open Go.RowKit
def countB (x : PNd) : Bool :=
  if x.kind = 1 ∨ x.kind = 2 ∨ x.kind = 3 ∨ x.kind = 4 ∨ x.kind = 5 then ((x.kids.length : Int) == 0)
  else if x.kind = 8 ∨ x.kind = 13 ∨ x.kind = 14 ∨ x.kind = 17 ∨ x.kind = 18 then ((x.kids.length : Int) == 1)
  else if x.kind = 9 ∨ x.kind = 10 ∨ x.kind = 16 then ((x.kids.length : Int) == 2)
  else if x.kind = 15 then ((x.kids.length : Int) == 2 || (x.kids.length : Int) == 3)
  else decide (x.kind = 6 ∨ x.kind = 7 ∨ x.kind = 11 ∨ x.kind = 12 ∨ x.kind = 19)
def fitsB (x : PNd) (k part : Int) : Bool :=
  if x.kind = 19 then sStatB part else if x.kind = 15 ∨ x.kind = 16 then (if 0 < k then part == 19 else sExprB part) else sExprB part
set_option maxHeartbeats 16000000 in
set_option maxRecDepth 100000 in
theorem count_any (x : Nd) (w : World) : Calls Tryz.prog 114 #[.agg (ndC x).toArray] w fun e w' => e = .returned (.bool (countB x.p)) ∧ Chg [] w w' := by
  obtain ⟨R, hR⟩ : ∃ R, R = countB x.p := ⟨_, rfl⟩
  rw [← hR]
  have HR := Lib.hid hR
  clear hR
  obtain ⟨W1, hW1⟩ : ∃ W1, W1 = w.alloc (ndO x) := ⟨_, rfl⟩
  have C1 := Lib.hid (show Chg [] w W1 by rw [hW1]; exact (Chg.refl _ _).alloc _)
  have B1 := Lib.hid (show W1.heap[w.heap.size]? = some (ndO x) by rw [hW1]; exact heap_alloc_new _ _)
  obtain ⟨kind, text, n, ka, kc, keys, da, dc, kids⟩ := x
  unfold ndO at hW1 B1
  simp only at hW1 B1
  have HW1 := Lib.hid hW1
  have k1 := blk_cell B1.out
  simp only [ndC]
  clear hW1
  have HRR := Lib.hid (show R = countB ⟨kind, text, n, keys, kids⟩ from HR.out)
  clear HR
  by_cases hk1 : kind = 1
  · subst hk1
    have HE := Lib.hid (show R = ((kids.length : Int) == 0) by rw [HRR.out]; unfold countB; simp)
    go_enter Tryz.func114, Tryz.ntmps114
    go_upto_region 1 with fail
    rw [← HW1.out]
    go_wp2_with fail
    go_ret
    exact ⟨retB HE.out.symm, C1.out⟩
  by_cases hk2 : kind = 2
  · subst hk2
    have HE := Lib.hid (show R = ((kids.length : Int) == 0) by rw [HRR.out]; unfold countB; simp)
    go_enter Tryz.func114, Tryz.ntmps114
    go_upto_region 1 with fail
    rw [← HW1.out]
    go_wp2_with fail
    go_ret
    exact ⟨retB HE.out.symm, C1.out⟩
  by_cases hk3 : kind = 3
  · subst hk3
    have HE := Lib.hid (show R = ((kids.length : Int) == 0) by rw [HRR.out]; unfold countB; simp)
    go_enter Tryz.func114, Tryz.ntmps114
    go_upto_region 1 with fail
    rw [← HW1.out]
    go_wp2_with fail
    go_ret
    exact ⟨retB HE.out.symm, C1.out⟩
  by_cases hk4 : kind = 4
  · subst hk4
    have HE := Lib.hid (show R = ((kids.length : Int) == 0) by rw [HRR.out]; unfold countB; simp)
    go_enter Tryz.func114, Tryz.ntmps114
    go_upto_region 1 with fail
    rw [← HW1.out]
    go_wp2_with fail
    go_ret
    exact ⟨retB HE.out.symm, C1.out⟩
  by_cases hk5 : kind = 5
  · subst hk5
    have HE := Lib.hid (show R = ((kids.length : Int) == 0) by rw [HRR.out]; unfold countB; simp)
    go_enter Tryz.func114, Tryz.ntmps114
    go_upto_region 1 with fail
    rw [← HW1.out]
    go_wp2_with fail
    go_ret
    exact ⟨retB HE.out.symm, C1.out⟩
  by_cases hk6 : kind = 6
  · subst hk6
    have HE := Lib.hid (show R = true by rw [HRR.out]; unfold countB; simp)
    go_enter Tryz.func114, Tryz.ntmps114
    go_upto_region 1 with fail
    rw [← HW1.out]
    go_wp2_with fail
    go_ret
    exact ⟨retB HE.out.symm, C1.out⟩
  by_cases hk7 : kind = 7
  · subst hk7
    have HE := Lib.hid (show R = true by rw [HRR.out]; unfold countB; simp)
    go_enter Tryz.func114, Tryz.ntmps114
    go_upto_region 1 with fail
    rw [← HW1.out]
    go_wp2_with fail
    go_ret
    exact ⟨retB HE.out.symm, C1.out⟩
  by_cases hk8 : kind = 8
  · subst hk8
    have HE := Lib.hid (show R = ((kids.length : Int) == 1) by rw [HRR.out]; unfold countB; simp)
    go_enter Tryz.func114, Tryz.ntmps114
    go_upto_region 1 with fail
    rw [← HW1.out]
    go_wp2_with fail
    go_ret
    exact ⟨retB HE.out.symm, C1.out⟩
  by_cases hk9 : kind = 9
  · subst hk9
    have HE := Lib.hid (show R = ((kids.length : Int) == 2) by rw [HRR.out]; unfold countB; simp)
    go_enter Tryz.func114, Tryz.ntmps114
    go_upto_region 1 with fail
    rw [← HW1.out]
    go_wp2_with fail
    go_ret
    exact ⟨retB HE.out.symm, C1.out⟩
  by_cases hk10 : kind = 10
  · subst hk10
    have HE := Lib.hid (show R = ((kids.length : Int) == 2) by rw [HRR.out]; unfold countB; simp)
    go_enter Tryz.func114, Tryz.ntmps114
    go_upto_region 1 with fail
    rw [← HW1.out]
    go_wp2_with fail
    go_ret
    exact ⟨retB HE.out.symm, C1.out⟩
  by_cases hk11 : kind = 11
  · subst hk11
    have HE := Lib.hid (show R = true by rw [HRR.out]; unfold countB; simp)
    go_enter Tryz.func114, Tryz.ntmps114
    go_upto_region 1 with fail
    rw [← HW1.out]
    go_wp2_with fail
    go_ret
    exact ⟨retB HE.out.symm, C1.out⟩
  by_cases hk12 : kind = 12
  · subst hk12
    have HE := Lib.hid (show R = true by rw [HRR.out]; unfold countB; simp)
    go_enter Tryz.func114, Tryz.ntmps114
    go_upto_region 1 with fail
    rw [← HW1.out]
    go_wp2_with fail
    go_ret
    exact ⟨retB HE.out.symm, C1.out⟩
  by_cases hk13 : kind = 13
  · subst hk13
    have HE := Lib.hid (show R = ((kids.length : Int) == 1) by rw [HRR.out]; unfold countB; simp)
    go_enter Tryz.func114, Tryz.ntmps114
    go_upto_region 1 with fail
    rw [← HW1.out]
    go_wp2_with fail
    go_ret
    exact ⟨retB HE.out.symm, C1.out⟩
  by_cases hk14 : kind = 14
  · subst hk14
    have HE := Lib.hid (show R = ((kids.length : Int) == 1) by rw [HRR.out]; unfold countB; simp)
    go_enter Tryz.func114, Tryz.ntmps114
    go_upto_region 1 with fail
    rw [← HW1.out]
    go_wp2_with fail
    go_ret
    exact ⟨retB HE.out.symm, C1.out⟩
  by_cases hk15 : kind = 15
  · subst hk15
    cases q2 : ((kids.length : Int) == 2)
    · have HE := Lib.hid (show R = ((kids.length : Int) == 3) by rw [HRR.out]; unfold countB; simp [q2])
      go_enter Tryz.func114, Tryz.ntmps114
      go_upto_region 1 with fail
      rw [← HW1.out]
      go_wp2_with fail
      go_ret
      exact ⟨retB HE.out.symm, C1.out⟩
    · have HE := Lib.hid (show R = true by rw [HRR.out]; unfold countB; simp [q2])
      go_enter Tryz.func114, Tryz.ntmps114
      go_upto_region 1 with fail
      rw [← HW1.out]
      go_wp2_with fail
      go_ret
      exact ⟨retB HE.out.symm, C1.out⟩
  by_cases hk16 : kind = 16
  · subst hk16
    have HE := Lib.hid (show R = ((kids.length : Int) == 2) by rw [HRR.out]; unfold countB; simp)
    go_enter Tryz.func114, Tryz.ntmps114
    go_upto_region 1 with fail
    rw [← HW1.out]
    go_wp2_with fail
    go_ret
    exact ⟨retB HE.out.symm, C1.out⟩
  by_cases hk17 : kind = 17
  · subst hk17
    have HE := Lib.hid (show R = ((kids.length : Int) == 1) by rw [HRR.out]; unfold countB; simp)
    go_enter Tryz.func114, Tryz.ntmps114
    go_upto_region 1 with fail
    rw [← HW1.out]
    go_wp2_with fail
    go_ret
    exact ⟨retB HE.out.symm, C1.out⟩
  by_cases hk18 : kind = 18
  · subst hk18
    have HE := Lib.hid (show R = ((kids.length : Int) == 1) by rw [HRR.out]; unfold countB; simp)
    go_enter Tryz.func114, Tryz.ntmps114
    go_upto_region 1 with fail
    rw [← HW1.out]
    go_wp2_with fail
    go_ret
    exact ⟨retB HE.out.symm, C1.out⟩
  by_cases hk19 : kind = 19
  · subst hk19
    have HE := Lib.hid (show R = true by rw [HRR.out]; unfold countB; simp)
    go_enter Tryz.func114, Tryz.ntmps114
    go_upto_region 1 with fail
    rw [← HW1.out]
    go_wp2_with fail
    go_ret
    exact ⟨retB HE.out.symm, C1.out⟩
  have HE := Lib.hid (show R = false by rw [HRR.out]; unfold countB; simp [hk1, hk2, hk3, hk4, hk5, hk6, hk7, hk8, hk9, hk10, hk11, hk12, hk13, hk14, hk15, hk16, hk17, hk18, hk19])
  have e1 : (kind == 1) = false := beq_eq_false_iff_ne.2 hk1
  have e2 : (kind == 2) = false := beq_eq_false_iff_ne.2 hk2
  have e3 : (kind == 3) = false := beq_eq_false_iff_ne.2 hk3
  have e4 : (kind == 4) = false := beq_eq_false_iff_ne.2 hk4
  have e5 : (kind == 5) = false := beq_eq_false_iff_ne.2 hk5
  have e6 : (kind == 6) = false := beq_eq_false_iff_ne.2 hk6
  have e7 : (kind == 7) = false := beq_eq_false_iff_ne.2 hk7
  have e8 : (kind == 8) = false := beq_eq_false_iff_ne.2 hk8
  have e9 : (kind == 9) = false := beq_eq_false_iff_ne.2 hk9
  have e10 : (kind == 10) = false := beq_eq_false_iff_ne.2 hk10
  have e11 : (kind == 11) = false := beq_eq_false_iff_ne.2 hk11
  have e12 : (kind == 12) = false := beq_eq_false_iff_ne.2 hk12
  have e13 : (kind == 13) = false := beq_eq_false_iff_ne.2 hk13
  have e14 : (kind == 14) = false := beq_eq_false_iff_ne.2 hk14
  have e15 : (kind == 15) = false := beq_eq_false_iff_ne.2 hk15
  have e16 : (kind == 16) = false := beq_eq_false_iff_ne.2 hk16
  have e17 : (kind == 17) = false := beq_eq_false_iff_ne.2 hk17
  have e18 : (kind == 18) = false := beq_eq_false_iff_ne.2 hk18
  have e19 : (kind == 19) = false := beq_eq_false_iff_ne.2 hk19
  clear HRR hk1 hk2 hk3 hk4 hk5 hk6 hk7 hk8 hk9 hk10 hk11 hk12 hk13 hk14 hk15 hk16 hk17 hk18 hk19
  go_enter Tryz.func114, Tryz.ntmps114
  go_upto_region 1 with fail
  rw [← HW1.out]
  go_wp2_with fail
  go_ret
  exact ⟨retB HE.out.symm, C1.out⟩
set_option maxHeartbeats 16000000 in
set_option maxRecDepth 100000 in
theorem fits_any (x : Nd) (k part : Int) (w : World) : Calls Tryz.prog 115 #[.agg (ndC x).toArray, .int .i64 k, .int .i64 part] w fun e w' => e = .returned (.bool (fitsB x.p k part)) ∧ Chg [] w w' := by
  obtain ⟨R, hR⟩ : ∃ R, R = fitsB x.p k part := ⟨_, rfl⟩
  rw [← hR]
  have HR := Lib.hid hR
  have ST := Lib.hid (fun w' => statement_any part w')
  have EX := Lib.hid (fun w' => expression_any part w')
  clear hR
  obtain ⟨W1, hW1⟩ : ∃ W1, W1 = w.alloc (ndO x) := ⟨_, rfl⟩
  have C1 := Lib.hid (show Chg [] w W1 by rw [hW1]; exact (Chg.refl _ _).alloc _)
  have B1 := Lib.hid (show W1.heap[w.heap.size]? = some (ndO x) by rw [hW1]; exact heap_alloc_new _ _)
  obtain ⟨kind, text, n, ka, kc, keys, da, dc, kids⟩ := x
  unfold ndO at hW1 B1
  simp only at hW1 B1
  have HW1 := Lib.hid hW1
  have k1 := blk_cell B1.out
  simp only [ndC]
  clear hW1
  have HRR := Lib.hid (show R = fitsB ⟨kind, text, n, keys, kids⟩ k part from HR.out)
  clear HR
  by_cases hk19 : kind = 19
  · subst hk19
    have HE := Lib.hid (show R = sStatB part by rw [HRR.out]; unfold fitsB; simp)
    clear HRR
    generalize sStatB part = q at *
    go_enter Tryz.func115, Tryz.ntmps115
    go_upto_region 1 with fail
    rw [← HW1.out]
    go_wp2_with (go_at_call 131; (with_reducible refine Calls.mono (ST.out _) ?_); rintro e w2 ⟨rfl, rfl⟩)
    go_ret
    exact ⟨retB HE.out.symm, C1.out⟩
  by_cases hk15 : kind = 15
  · subst hk15
    by_cases h0 : 0 < k
    · have HE := Lib.hid (show R = (part == 19) by rw [HRR.out]; unfold fitsB; simp [h0])
      clear HRR
      go_enter Tryz.func115, Tryz.ntmps115
      go_upto_region 1 with fail
      rw [← HW1.out]
      go_wp2_with fail
      go_ret
      exact ⟨retB HE.out.symm, C1.out⟩
    · have HE := Lib.hid (show R = sExprB part by rw [HRR.out]; unfold fitsB; simp [h0])
      have h0' : k ≤ 0 := by omega
      clear HRR h0
      generalize sExprB part = q at *
      go_enter Tryz.func115, Tryz.ntmps115
      go_upto_region 1 with fail
      rw [← HW1.out]
      go_wp2_with (go_at_call 132; (with_reducible refine Calls.mono (EX.out _) ?_); rintro e w2 ⟨rfl, rfl⟩)
      go_ret
      exact ⟨retB HE.out.symm, C1.out⟩
  by_cases hk16 : kind = 16
  · subst hk16
    by_cases h0 : 0 < k
    · have HE := Lib.hid (show R = (part == 19) by rw [HRR.out]; unfold fitsB; simp [h0])
      clear HRR
      go_enter Tryz.func115, Tryz.ntmps115
      go_upto_region 1 with fail
      rw [← HW1.out]
      go_wp2_with fail
      go_ret
      exact ⟨retB HE.out.symm, C1.out⟩
    · have HE := Lib.hid (show R = sExprB part by rw [HRR.out]; unfold fitsB; simp [h0])
      have h0' : k ≤ 0 := by omega
      clear HRR h0
      generalize sExprB part = q at *
      go_enter Tryz.func115, Tryz.ntmps115
      go_upto_region 1 with fail
      rw [← HW1.out]
      go_wp2_with (go_at_call 132; (with_reducible refine Calls.mono (EX.out _) ?_); rintro e w2 ⟨rfl, rfl⟩)
      go_ret
      exact ⟨retB HE.out.symm, C1.out⟩
  have HE := Lib.hid (show R = sExprB part by rw [HRR.out]; unfold fitsB; rw [if_neg hk19, if_neg (by simp [hk15, hk16])])
  have e19 : (kind == 19) = false := beq_eq_false_iff_ne.2 hk19
  have e15 : (kind == 15) = false := beq_eq_false_iff_ne.2 hk15
  have e16 : (kind == 16) = false := beq_eq_false_iff_ne.2 hk16
  clear HRR hk19 hk15 hk16
  generalize sExprB part = q at *
  go_enter Tryz.func115, Tryz.ntmps115
  go_upto_region 1 with fail
  rw [← HW1.out]
  go_wp2_with (go_at_call 132; (with_reducible refine Calls.mono (EX.out _) ?_); rintro e w2 ⟨rfl, rfl⟩)
  go_ret
  exact ⟨retB HE.out.symm, C1.out⟩
end Go.Proofs.YtolidiafomceiaaGreatDoor
