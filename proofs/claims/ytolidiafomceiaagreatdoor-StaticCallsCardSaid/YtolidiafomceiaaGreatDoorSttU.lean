/- Chapter 9: the reference's fields. Condition: the form's own bound on texts. -/
import Derived.Test.YtolidiafomceiaaGreatDoorSttV
namespace Go.Proofs.YtolidiafomceiaaGreatDoor
set_option linter.unusedVariables false
set_option linter.unusedSimpArgs false
open Go.RowKit
set_option maxHeartbeats 16000000 in
set_option maxRecDepth 100000 in
theorem rfields_any (x : Nd) (w : World) (hin : NdIn w x) (hz : szNd x) : Calls Tryz.prog 66 #[.agg (ndC x).toArray] w fun e w' => e = .returned (.bool (fieldsR x.p)) ∧ Chg [] w w' := by
  obtain ⟨R, hR⟩ : ∃ R, R = fieldsR x.p := ⟨_, rfl⟩
  rw [← hR]
  have HR := Lib.hid hR
  obtain ⟨W1, hW1⟩ : ∃ W1, W1 = w.alloc (ndO x) := ⟨_, rfl⟩
  have C1 := Lib.hid (show Chg [] w W1 by rw [hW1]; exact (Chg.refl _ _).alloc _)
  have B1 := Lib.hid (show W1.heap[w.heap.size]? = some (ndO x) by rw [hW1]; exact heap_alloc_new _ _)
  have TX := Lib.hid (fun w' => rstr_any x.text w' hz.1)
  have NM := Lib.hid (fun w' => rname_any x.text w')
  have RN := Lib.hid (fun w' => rtext_host x.text w')
  have OP := Lib.hid (fun w' => rbinary_any x.text w')
  have HIN := Lib.hid hin.1
  have HZ := Lib.hid hz.2
  obtain ⟨kind, text, n, ka, kc, keys, da, dc, kids⟩ := x
  unfold ndO at hW1 B1
  simp only at hW1 B1 TX NM RN OP HIN HZ
  have HW1 := Lib.hid hW1
  have k1 := blk_cell B1.out
  have hkl : (0 : Int) ≤ (keys.length : Int) := by omega
  simp only [ndC]
  clear hR hW1 hin hz
  by_cases hA : kind ≠ 7 ∧ 0 < keys.length
  · have HE := Lib.hid (show R = false by rw [HR.out]; unfold fieldsR; rw [if_pos]; unfold badF Nd.p; simp [hA.1, hA.2])
    have q1 : (kind != 7) = true := bne_iff_ne.2 hA.1
    have q2 : 0 < keys.length := hA.2
    clear hA hkl
    cases q3 : (kind != 3)
    · go_enter Tryz.func66, Tryz.ntmps66
      go_upto_region 1 with fail
      rw [← HW1.out]
      go_wp2_with fail
      go_ret
      exact ⟨retB HE.out.symm, C1.out⟩
    · cases q4 : (kind != 2)
      · go_enter Tryz.func66, Tryz.ntmps66
        go_upto_region 1 with fail
        rw [← HW1.out]
        go_wp2_with fail
        go_ret
        exact ⟨retB HE.out.symm, C1.out⟩
      · cases q5 : (n != 0)
        · go_enter Tryz.func66, Tryz.ntmps66
          go_upto_region 1 with fail
          rw [← HW1.out]
          go_wp2_with fail
          go_ret
          exact ⟨retB HE.out.symm, C1.out⟩
        · go_enter Tryz.func66, Tryz.ntmps66
          go_upto_region 1 with fail
          rw [← HW1.out]
          go_wp2_with fail
          go_ret
          exact ⟨retB HE.out.symm, C1.out⟩
  have hA' : kind = 7 ∨ ¬ 0 < keys.length := by
    by_cases h : kind = 7
    · exact .inl h
    · exact .inr (fun h2 => hA ⟨h, h2⟩)
  by_cases hB : (kind ≠ 2 ∧ kind ≠ 3) ∧ n ≠ 0
  · have HE := Lib.hid (show R = false by rw [HR.out]; unfold fieldsR; rw [if_pos]; unfold badF Nd.p; simp [hB.1.1, hB.1.2, hB.2])
    have q1 : (kind != 2) = true := bne_iff_ne.2 hB.1.1
    have q2 : (kind != 3) = true := bne_iff_ne.2 hB.1.2
    have q3 : (n != 0) = true := bne_iff_ne.2 hB.2
    have HA' := Lib.hid hA'
    clear hA hA' hB
    go_enter Tryz.func66, Tryz.ntmps66
    go_upto_region 1 with fail
    rw [← HW1.out]
    go_wp2_with fail
    go_ret
    exact ⟨retB HE.out.symm, C1.out⟩
  have HNB := Lib.hid (show badF ⟨kind, text, n, keys, kids⟩ = false by
    unfold badF
    rw [Bool.or_eq_false_iff]
    constructor
    · rcases hA' with h | h
      · simp [h]
      · rw [decide_eq_false h]; simp
    · by_cases h : kind = 2
      · simp [h]
      · by_cases h3 : kind = 3
        · simp [h3]
        · have : n = 0 := by
            by_cases hn : n = 0
            · exact hn
            · exact absurd ⟨⟨h, h3⟩, hn⟩ hB
          simp [this])
  have hN : (kind = 2 ∨ kind = 3) ∨ n = 0 := by
    by_cases h : kind = 2
    · exact .inl (.inl h)
    · by_cases h3 : kind = 3
      · exact .inl (.inr h3)
      · exact .inr (by
          by_cases hn : n = 0
          · exact hn
          · exact absurd ⟨⟨h, h3⟩, hn⟩ hB)
  have HRR := Lib.hid (show R = fieldsR ⟨kind, text, n, keys, kids⟩ from HR.out)
  have HAA := Lib.hid hA'
  have HNN := Lib.hid hN
  clear hA hA' hB hN HR
  by_cases hk2 : kind = 2
  · subst hk2
    have hK : ¬ 0 < keys.length := HAA.out.resolve_left (by decide)
    by_cases he : text = emS
    case neg =>
      have hem := em_isEmpty he
      have hem2 := str_ne (k := emS) (l := []) (by kernel_rfl) he
      have HE := Lib.hid (show R = false by rw [HRR.out]; unfold fieldsR; rw [if_neg (by rw [HNB.out]; simp)]; simp [sbeq_ne he])
      clear he
      go_enter Tryz.func66, Tryz.ntmps66
      go_upto_region 1 with fail
      rw [← HW1.out]
      go_wp2_with fail
      go_ret
      exact ⟨retB HE.out.symm, C1.out⟩
    subst he
    unfold emS at *
    cases h0 : (n == 0)
    · cases h1 : (n == 1)
      · have HE := Lib.hid (show R = false by rw [HRR.out]; unfold fieldsR; rw [if_neg (by rw [HNB.out]; simp)]; simp [h0, h1])
        go_enter Tryz.func66, Tryz.ntmps66
        go_upto_region 1 with fail
        rw [← HW1.out]
        go_wp2_with fail
        go_ret
        exact ⟨retB HE.out.symm, C1.out⟩
      · have HE := Lib.hid (show R = true by rw [HRR.out]; unfold fieldsR; rw [if_neg (by rw [HNB.out]; simp)]; simp [h0, h1, emS])
        go_enter Tryz.func66, Tryz.ntmps66
        go_upto_region 1 with fail
        rw [← HW1.out]
        go_wp2_with fail
        go_ret
        exact ⟨retB HE.out.symm, C1.out⟩
    · have HE := Lib.hid (show R = true by rw [HRR.out]; unfold fieldsR; rw [if_neg (by rw [HNB.out]; simp)]; simp [h0, emS])
      go_enter Tryz.func66, Tryz.ntmps66
      go_upto_region 1 with fail
      rw [← HW1.out]
      go_wp2_with fail
      go_ret
      exact ⟨retB HE.out.symm, C1.out⟩
  by_cases hk3 : kind = 3
  · subst hk3
    have hK : ¬ 0 < keys.length := HAA.out.resolve_left (by decide)
    by_cases he : text = emS
    case neg =>
      have hem := em_isEmpty he
      have hem2 := str_ne (k := emS) (l := []) (by kernel_rfl) he
      have HE := Lib.hid (show R = false by rw [HRR.out]; unfold fieldsR; rw [if_neg (by rw [HNB.out]; simp)]; simp [sbeq_ne he])
      clear he
      go_enter Tryz.func66, Tryz.ntmps66
      go_upto_region 1 with fail
      rw [← HW1.out]
      go_wp2_with fail
      go_ret
      exact ⟨retB HE.out.symm, C1.out⟩
    subst he
    unfold emS at *
    by_cases h0 : 0 ≤ n
    · have HE := Lib.hid (show R = decide (n ≤ 1000000000000) by rw [HRR.out]; unfold fieldsR; rw [if_neg (by rw [HNB.out]; simp)]; rw [decide_eq_true h0]; rfl)
      go_enter Tryz.func66, Tryz.ntmps66
      go_upto_region 1 with fail
      rw [← HW1.out]
      go_wp2_with fail
      go_ret
      exact ⟨retB HE.out.symm, C1.out⟩
    · have HE := Lib.hid (show R = false by rw [HRR.out]; unfold fieldsR; rw [if_neg (by rw [HNB.out]; simp)]; rw [decide_eq_false h0]; simp)
      have h0' : n < 0 := by omega
      clear h0
      go_enter Tryz.func66, Tryz.ntmps66
      go_upto_region 1 with fail
      rw [← HW1.out]
      go_wp2_with fail
      go_ret
      exact ⟨retB HE.out.symm, C1.out⟩
  by_cases hk4 : kind = 4
  · subst hk4
    have hK : ¬ 0 < keys.length := HAA.out.resolve_left (by decide)
    have hn0 : n = 0 := HNN.out.resolve_left (by decide)
    have hn : (n != 0) = false := by simp [hn0]
    clear hn0
    have HE := Lib.hid (show R = sQuoB text by rw [HRR.out]; unfold fieldsR; rw [if_neg (by rw [HNB.out]; simp)]; rfl)
    clear HRR
    generalize sQuoB text = q at *
    go_enter Tryz.func66, Tryz.ntmps66
    go_upto_region 1 with fail
    rw [← HW1.out]
    go_wp2_with (go_at_call 90; (with_reducible refine Calls.mono (TX.out _) ?_); rintro e w2 ⟨rfl, hc⟩; have C2 := Lib.hid (C1.out.thenSame hc); clear hc)
    go_ret
    exact ⟨retB HE.out.symm, C2.out⟩
  by_cases hk5 : kind = 5
  · subst hk5
    have hK : ¬ 0 < keys.length := HAA.out.resolve_left (by decide)
    have hn0 : n = 0 := HNN.out.resolve_left (by decide)
    have hn : (n != 0) = false := by simp [hn0]
    clear hn0
    have HE := Lib.hid (show R = sNameB text by rw [HRR.out]; unfold fieldsR; rw [if_neg (by rw [HNB.out]; simp)]; rfl)
    clear HRR
    generalize sNameB text = q at *
    go_enter Tryz.func66, Tryz.ntmps66
    go_upto_region 1 with fail
    rw [← HW1.out]
    go_wp2_with (go_at_call 65; (with_reducible refine Calls.mono (NM.out _) ?_); rintro e w2 ⟨rfl, hc⟩; have C2 := Lib.hid (C1.out.thenSame hc); clear hc)
    go_ret
    exact ⟨retB HE.out.symm, C2.out⟩
  by_cases hk11 : kind = 11
  · subst hk11
    have hK : ¬ 0 < keys.length := HAA.out.resolve_left (by decide)
    have hn0 : n = 0 := HNN.out.resolve_left (by decide)
    have hn : (n != 0) = false := by simp [hn0]
    clear hn0
    have HE := Lib.hid (show R = sNameB text by rw [HRR.out]; unfold fieldsR; rw [if_neg (by rw [HNB.out]; simp)]; rfl)
    clear HRR
    generalize sNameB text = q at *
    go_enter Tryz.func66, Tryz.ntmps66
    go_upto_region 1 with fail
    rw [← HW1.out]
    go_wp2_with (go_at_call 65; (with_reducible refine Calls.mono (NM.out _) ?_); rintro e w2 ⟨rfl, hc⟩; have C2 := Lib.hid (C1.out.thenSame hc); clear hc)
    go_ret
    exact ⟨retB HE.out.symm, C2.out⟩
  by_cases hk13 : kind = 13
  · subst hk13
    have hK : ¬ 0 < keys.length := HAA.out.resolve_left (by decide)
    have hn0 : n = 0 := HNN.out.resolve_left (by decide)
    have hn : (n != 0) = false := by simp [hn0]
    clear hn0
    have HE := Lib.hid (show R = sNameB text by rw [HRR.out]; unfold fieldsR; rw [if_neg (by rw [HNB.out]; simp)]; rfl)
    clear HRR
    generalize sNameB text = q at *
    go_enter Tryz.func66, Tryz.ntmps66
    go_upto_region 1 with fail
    rw [← HW1.out]
    go_wp2_with (go_at_call 65; (with_reducible refine Calls.mono (NM.out _) ?_); rintro e w2 ⟨rfl, hc⟩; have C2 := Lib.hid (C1.out.thenSame hc); clear hc)
    go_ret
    exact ⟨retB HE.out.symm, C2.out⟩
  by_cases hk14 : kind = 14
  · subst hk14
    have hK : ¬ 0 < keys.length := HAA.out.resolve_left (by decide)
    have hn0 : n = 0 := HNN.out.resolve_left (by decide)
    have hn : (n != 0) = false := by simp [hn0]
    clear hn0
    have HE := Lib.hid (show R = sNameB text by rw [HRR.out]; unfold fieldsR; rw [if_neg (by rw [HNB.out]; simp)]; rfl)
    clear HRR
    generalize sNameB text = q at *
    go_enter Tryz.func66, Tryz.ntmps66
    go_upto_region 1 with fail
    rw [← HW1.out]
    go_wp2_with (go_at_call 65; (with_reducible refine Calls.mono (NM.out _) ?_); rintro e w2 ⟨rfl, hc⟩; have C2 := Lib.hid (C1.out.thenSame hc); clear hc)
    go_ret
    exact ⟨retB HE.out.symm, C2.out⟩
  by_cases hk12 : kind = 12
  · subst hk12
    have hK : ¬ 0 < keys.length := HAA.out.resolve_left (by decide)
    have hn0 : n = 0 := HNN.out.resolve_left (by decide)
    have hn : (n != 0) = false := by simp [hn0]
    clear hn0
    have HE := Lib.hid (show R = sRunB text by rw [HRR.out]; unfold fieldsR; rw [if_neg (by rw [HNB.out]; simp)]; rfl)
    clear HRR
    generalize sRunB text = q at *
    go_enter Tryz.func66, Tryz.ntmps66
    go_upto_region 1 with fail
    rw [← HW1.out]
    go_wp2_with (go_at_call 89; (with_reducible refine Calls.mono (RN.out _) ?_); rintro e w2 ⟨o, er, rfl, her, hc⟩; have HER := Lib.hid her; have C2 := Lib.hid (C1.out.thenSame hc); clear hc her)
    go_ret
    exact ⟨retB (HER.out.trans HE.out.symm), C2.out⟩
  by_cases hk7 : kind = 7
  · subst hk7
    have hn0 : n = 0 := HNN.out.resolve_left (by decide)
    have hn : (n != 0) = false := by simp [hn0]
    clear hn0
    by_cases he : text = emS
    case neg =>
      have hem := em_isEmpty he
      have hem2 := str_ne (k := emS) (l := []) (by kernel_rfl) he
      have HE := Lib.hid (show R = false by rw [HRR.out]; unfold fieldsR; rw [if_neg (by rw [HNB.out]; simp)]; simp [sbeq_ne he])
      clear he
      go_enter Tryz.func66, Tryz.ntmps66
      go_upto_region 1 with fail
      rw [← HW1.out]
      go_wp2_with fail
      go_ret
      exact ⟨retB HE.out.symm, C1.out⟩
    subst he
    unfold emS at *
    have HE := Lib.hid (show R = (decide (keys.length = kids.length) && keysR keys) by rw [HRR.out]; unfold fieldsR; rw [if_neg (by rw [HNB.out]; simp)]; rfl)
    exact Calls.mono (rfields_map ka da kc dc n keys kids w hn HIN.out HZ.out) (fun e w' h => ⟨h.1.trans (retB HE.out.symm), h.2⟩)
  by_cases hk8 : kind = 8
  · subst hk8
    have hK : ¬ 0 < keys.length := HAA.out.resolve_left (by decide)
    have hn0 : n = 0 := HNN.out.resolve_left (by decide)
    have hn : (n != 0) = false := by simp [hn0]
    clear hn0
    by_cases h0 : text = ⟨#[45]⟩
    · have HE := Lib.hid (show R = true by rw [HRR.out]; unfold fieldsR; rw [if_neg (by rw [HNB.out]; simp)]; rw [h0]; kernel_rfl)
      subst h0
      go_enter Tryz.func66, Tryz.ntmps66
      go_upto_region 1 with fail
      rw [← HW1.out]
      go_wp2_with fail
      go_ret
      exact ⟨retB HE.out.symm, C1.out⟩
    have q0 := str_ne (l := [45]) (by kernel_rfl) h0
    by_cases h1 : text = ⟨#[110, 111, 116]⟩
    · have HE := Lib.hid (show R = true by rw [HRR.out]; unfold fieldsR; rw [if_neg (by rw [HNB.out]; simp)]; rw [h1]; kernel_rfl)
      subst h1
      go_enter Tryz.func66, Tryz.ntmps66
      go_upto_region 1 with fail
      rw [← HW1.out]
      go_wp2_with fail
      go_ret
      exact ⟨retB HE.out.symm, C1.out⟩
    have q1 := str_ne (l := [110, 111, 116]) (by kernel_rfl) h1
    have HE := Lib.hid (show R = false by rw [HRR.out]; unfold fieldsR; rw [if_neg (by rw [HNB.out]; simp)]; simp [sbeq_ne h0, sbeq_ne h1])
    clear h0 h1
    go_enter Tryz.func66, Tryz.ntmps66
    go_upto_region 1 with fail
    rw [← HW1.out]
    go_wp2_with fail
    go_ret
    exact ⟨retB HE.out.symm, C1.out⟩
  by_cases hk9 : kind = 9
  · subst hk9
    have hK : ¬ 0 < keys.length := HAA.out.resolve_left (by decide)
    have hn0 : n = 0 := HNN.out.resolve_left (by decide)
    have hn : (n != 0) = false := by simp [hn0]
    clear hn0
    have HE := Lib.hid (show R = rbinB text by rw [HRR.out]; unfold fieldsR; rw [if_neg (by rw [HNB.out]; simp)]; rfl)
    clear HRR
    generalize rbinB text = q at *
    go_enter Tryz.func66, Tryz.ntmps66
    go_upto_region 1 with fail
    rw [← HW1.out]
    go_wp2_with (go_at_call 91; (with_reducible refine Calls.mono (OP.out _) ?_); rintro e w2 ⟨rfl, hw⟩; rw [hw]; clear hw)
    go_ret
    exact ⟨retB HE.out.symm, C1.out⟩
  have hK : ¬ 0 < keys.length := HAA.out.resolve_left hk7
  have hn0 : n = 0 := HNN.out.resolve_left (by rintro (h | h); exact hk2 h; exact hk3 h)
  have hn : (n != 0) = false := by simp [hn0]
  have HRS := Lib.hid (show R = (text == emS) by rw [HRR.out]; unfold fieldsR; rw [if_neg (by rw [HNB.out]; simp), if_neg hk2, if_neg hk3, if_neg hk4, if_neg (by simp [hk5, hk11, hk13, hk14]), if_neg hk12, if_neg hk7, if_neg hk8, if_neg hk9])
  have e2 : (kind == 2) = false := beq_eq_false_iff_ne.2 hk2
  have e3 : (kind == 3) = false := beq_eq_false_iff_ne.2 hk3
  have e4 : (kind == 4) = false := beq_eq_false_iff_ne.2 hk4
  have e5 : (kind == 5) = false := beq_eq_false_iff_ne.2 hk5
  have e11 : (kind == 11) = false := beq_eq_false_iff_ne.2 hk11
  have e13 : (kind == 13) = false := beq_eq_false_iff_ne.2 hk13
  have e14 : (kind == 14) = false := beq_eq_false_iff_ne.2 hk14
  have e12 : (kind == 12) = false := beq_eq_false_iff_ne.2 hk12
  have e7 : (kind == 7) = false := beq_eq_false_iff_ne.2 hk7
  have e8 : (kind == 8) = false := beq_eq_false_iff_ne.2 hk8
  have e9 : (kind == 9) = false := beq_eq_false_iff_ne.2 hk9
  have d7 : (kind != 7) = true := bne_iff_ne.2 hk7
  have d2 : (kind != 2) = true := bne_iff_ne.2 hk2
  have d3 : (kind != 3) = true := bne_iff_ne.2 hk3
  clear hn0 HRR hk2 hk3 hk4 hk5 hk11 hk13 hk14 hk12 hk7 hk8 hk9
  by_cases he : text = emS
  · have HE := Lib.hid (show R = true by rw [HRS.out, he]; kernel_rfl)
    subst he
    unfold emS at *
    go_enter Tryz.func66, Tryz.ntmps66
    go_upto_region 1 with fail
    rw [← HW1.out]
    go_wp2_with fail
    go_ret
    exact ⟨retB HE.out.symm, C1.out⟩
  · have HE := Lib.hid (show R = false by rw [HRS.out]; exact sbeq_ne he)
    have hem := em_isEmpty he
    have hem2 := str_ne (k := emS) (l := []) (by kernel_rfl) he
    clear he
    go_enter Tryz.func66, Tryz.ntmps66
    go_upto_region 1 with fail
    rw [← HW1.out]
    go_wp2_with fail
    go_ret
    exact ⟨retB HE.out.symm, C1.out⟩
end Go.Proofs.YtolidiafomceiaaGreatDoor
