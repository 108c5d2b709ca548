/- Chapter 9: contracts: keys, fields, count, fits. Condition: the table of Itoa lies as the program lays it. Chapter 9: contracts: fields, count, fits. Condition: the table of Itoa lies as the program lays it. Chapter 9: contracts: count, fits. No condition. -/
import Derived.Test.YtolidiafomceiaaGreatDoorStaC
namespace Go.Proofs.YtolidiafomceiaaGreatDoor
set_option linter.unusedVariables false
set_option linter.unusedSimpArgs false
open Go.RowKit
def keyAt (l : List ByteArray) (i : Nat) : Bool := match l[i]? with | some s => sTextB s && (decide (i = 0) || (match l[i - 1]? with | some p => !leS s p | none => true)) | none => true
def keysTo (l : List ByteArray) (k : Nat) : Bool := (List.range k).all (keyAt l)
def keysB (l : List ByteArray) : Bool := keysTo l l.length
theorem keysTo_step {l : List ByteArray} {k : Nat} : keysTo l (k + 1) = (keysTo l k && keyAt l k) := by
  unfold keysTo
  rw [List.range_succ, List.all_append, List.all_cons, List.all_nil, Bool.and_true]
theorem keys_no {l : List ByteArray} {k : Nat} (hk : k < l.length) (h : keyAt l k = false) : keysB l = false := by
  unfold keysB keysTo
  rw [List.all_eq_false]
  exact ⟨k, by simpa using hk, by rw [h]; simp⟩
set_option maxHeartbeats 8000000 in
set_option maxRecDepth 100000 in
theorem skeys_any {a : Option Addr} {c : Nat} {l : List ByteArray} {w : World} (h : InIs skC 1 w a c l) (hs : ∀ s ∈ l, s.size ≤ maxLen) (ht : TabW w) : Calls Tryz.prog 129 #[.slice a l.length c] w fun e w' => e = .returned (.bool (keysB l)) ∧ Chg [] w w' := by
  obtain ⟨R, hR⟩ : ∃ R, R = keysB l := ⟨_, rfl⟩
  rw [← hR]
  have HR := Lib.hid hR
  have H := Lib.hid h
  have HS := Lib.hid hs
  have HT := Lib.hid ht
  have hm : (l.length : Int) ≤ 9223372036854775807 := by have h1 := h.2.1; have h2 := h.2.2.1; unfold maxLen at h2; omega
  clear hR h hs ht
  go_enter Tryz.func129, Tryz.ntmps129
  go_wp2_with fail
  go_loopw [7] (fun u wr => ∃ k : Nat, u = .int .i64 k ∧ k ≤ l.length ∧ Hid (keysTo l k = true) ∧ Hid (Chg [] w wr)) (fun u _ => l.length - (intOf u).toNat)
  case atStart => exact ⟨0, rfl, Nat.zero_le _, Lib.hid rfl, Lib.hid (Chg.refl _ _)⟩
  case round =>
    obtain ⟨k, rfl, hk, HK, D⟩ := hrel
    have hk0 : (0 : Int) ≤ (k : Int) := by omega
    by_cases hkl : k < l.length
    · have hkl' : (k : Int) < (l.length : Int) := by omega
      obtain ⟨b1, o1, rfl, -, -, hc1⟩ := H.out.1.elem D.out k hkl
      have u1 := hc1 0 (by omega)
      simp only [skC, List.getElem?_cons_zero, Nat.add_zero, Nat.mul_one] at u1
      have A := Lib.hid (stext_any l[k] wr (HS.out _ (List.getElem_mem hkl)) (HT.out.kept D.out))
      have HA : keyAt l k = (sTextB l[k] && (decide (k = 0) || (match l[k - 1]? with | some p => !leS l[k] p | none => true))) := by unfold keyAt; rw [List.getElem?_eq_getElem hkl]
      have HN := Lib.hid (fun h => show R = false by rw [HR.out]; exact keys_no hkl h)
      have HY := Lib.hid (fun (h : keyAt l k = true) => show keysTo l (k + 1) = true by rw [keysTo_step, HK.out, h]; rfl)
      cases hq : sTextB l[k]
      · rw [hq] at A HA
        have HE := Lib.hid (HN.out HA)
        clear hc1 HA hq
        generalize l[k] = x at *
        go_wp2_with (go_at_call 128; (with_reducible refine Calls.mono A.out ?_); rintro e w2 ⟨rfl, hc⟩; have D2 := Lib.hid (D.out.thenSame hc); clear hc)
        go_ret
        exact ⟨retB HE.out.symm, D2.out⟩
      rw [hq] at A HA
      by_cases hz : k = 0
      · have HY2 := Lib.hid (HY.out (by rw [HA, decide_eq_true hz]; rfl))
        have hz' : (k : Int) ≤ 0 := by omega
        clear hc1 HA hq hz
        generalize l[k] = x at *
        go_wp2_with (go_at_call 128; (with_reducible refine Calls.mono A.out ?_); rintro e w2 ⟨rfl, hc⟩; have D2 := Lib.hid (D.out.thenSame hc); clear hc)
        exact ⟨⟨k + 1, by go_num, by omega, HY2, D2⟩, by simp [intOf]; omega⟩
      obtain ⟨j, rfl⟩ : ∃ j, k = j + 1 := ⟨k - 1, by omega⟩
      have hj : j < l.length := by omega
      have hj' : (0 : Int) < ((j + 1 : Nat) : Int) := by omega
      have UW := Lib.hid (fun w' (hc : Chg [] w w') => show w'.cell? ⟨b1, o1 + j, none⟩ = some (.string l[j]) from by
        obtain ⟨b2, o2, e, -, -, hcc⟩ := H.out.1.elem hc j hj
        cases e
        simpa [skC] using hcc 0 (by omega))
      rw [decide_eq_false hz, Bool.false_or, Nat.add_sub_cancel, List.getElem?_eq_getElem hj] at HA
      simp only [Bool.true_and] at HA
      clear hc1 hq hz
      generalize l[j] = y at *
      generalize l[j + 1] = x at *
      cases hle : leS x y
      · rw [hle] at HA
        have HY2 := Lib.hid (HY.out HA)
        unfold leS at hle
        clear HA
        go_wp2_with (go_at_call 128; (with_reducible refine Calls.mono A.out ?_); rintro e w2 ⟨rfl, hc⟩; have D2 := Lib.hid (D.out.thenSame hc); have u2 := UW.out _ D2.out; clear hc)
        exact ⟨⟨j + 1 + 1, by go_num, by omega, HY2, D2⟩, by simp [intOf]; omega⟩
      · rw [hle] at HA
        have HE := Lib.hid (HN.out HA)
        unfold leS at hle
        clear HA
        go_wp2_with (go_at_call 128; (with_reducible refine Calls.mono A.out ?_); rintro e w2 ⟨rfl, hc⟩; have D2 := Lib.hid (D.out.thenSame hc); have u2 := UW.out _ D2.out; clear hc)
        go_ret
        exact ⟨retB HE.out.symm, D2.out⟩
    · have hke : k = l.length := by omega
      have HE := Lib.hid (show R = true by rw [HR.out]; unfold keysB; rw [← hke]; exact HK.out)
      clear hke
      go_wp2_with fail
      go_ret
      exact ⟨retB HE.out.symm, D.out⟩
end Go.Proofs.YtolidiafomceiaaGreatDoor
namespace Go.Proofs.YtolidiafomceiaaGreatDoor
set_option linter.unusedVariables false
set_option linter.unusedSimpArgs false
open Go.RowKit
def emS : ByteArray := ⟨#[]⟩
def badF (x : PNd) : Bool := (x.kind != 7 && decide (0 < x.keys.length)) || (x.kind != 2 && x.kind != 3 && x.n != 0)
def fieldsB (x : PNd) : Bool :=
  if badF x = true then false
  else if x.kind = 2 then (x.text == emS) && (x.n == 0 || x.n == 1)
  else if x.kind = 3 then (x.text == emS) && (decide (0 ≤ x.n) && decide (x.n ≤ 1000000000000))
  else if x.kind = 4 then sTextB x.text
  else if x.kind = 5 ∨ x.kind = 11 ∨ x.kind = 13 ∨ x.kind = 14 then sNameB x.text
  else if x.kind = 12 then sRunB x.text
  else if x.kind = 7 then (x.text == emS) && (decide (x.keys.length = x.kids.length) && keysB x.keys)
  else if x.kind = 8 then (x.text == ⟨#[45]⟩) || (x.text == ⟨#[110, 111, 116]⟩)
  else if x.kind = 9 then decide (0 < binZ x.text)
  else x.text == emS
theorem str_ne {s k : ByteArray} {l : List UInt8} (hl : k.toList = l) (h : s ≠ k) : (s.toList == l) = false := by
  rw [← hl]
  exact (beq_toListBytes s k).symm.trans (beq_eq_false_iff_ne.2 h)
theorem em_isEmpty {s : ByteArray} (h : s ≠ emS) : s.toList.isEmpty = false := by
  have := str_ne (k := emS) (l := []) (by kernel_rfl) h
  cases hs : s.toList with
  | nil => rw [hs] at this; cases this
  | cons x r => rfl
theorem sbeq_ne {s k : ByteArray} (h : s ≠ k) : (s == k) = false := beq_eq_false_iff_ne.2 h
set_option maxHeartbeats 16000000 in
set_option maxRecDepth 100000 in
theorem fields_any (x : Nd) (w : World) (hin : NdIn w x) (hg : goodNd x) (ht : TabW w) : Calls Tryz.prog 113 #[.agg (ndC x).toArray] w fun e w' => e = .returned (.bool (fieldsB x.p)) ∧ Chg [] w w' := by
  obtain ⟨R, hR⟩ : ∃ R, R = fieldsB x.p := ⟨_, rfl⟩
  rw [← hR]
  have HR := Lib.hid hR
  obtain ⟨W1, hW1⟩ : ∃ W1, W1 = w.alloc (ndO x) := ⟨_, rfl⟩
  have C1 := Lib.hid (show Chg [] w W1 by rw [hW1]; exact (Chg.refl _ _).alloc _)
  have B1 := Lib.hid (show W1.heap[w.heap.size]? = some (ndO x) by rw [hW1]; exact heap_alloc_new _ _)
  have HT := Lib.hid (ht.kept C1.out)
  have KY := Lib.hid (skeys_any (hin.1.kept C1.out) hg.2.2.2.1 HT.out)
  have TX := Lib.hid (stext_any x.text W1 hg.2.1 HT.out)
  have NM := Lib.hid (fun w' => sname_any x.text w')
  have RN := Lib.hid (fun w' => run_any x.text w')
  have OP := Lib.hid (fun w' => operator_any x.text w')
  obtain ⟨kind, text, n, ka, kc, keys, da, dc, kids⟩ := x
  unfold ndO at hW1 B1
  simp only at hW1 B1 KY TX NM RN OP
  have HW1 := Lib.hid hW1
  have k1 := blk_cell B1.out
  have hkl : (0 : Int) ≤ (keys.length : Int) := by omega
  simp only [ndC]
  clear hR hW1 hin hg ht
  by_cases hA : kind ≠ 7 ∧ 0 < keys.length
  · have HE := Lib.hid (show R = false by rw [HR.out]; unfold fieldsB; rw [if_pos]; unfold badF Nd.p; simp [hA.1, hA.2])
    have q1 : (kind != 7) = true := bne_iff_ne.2 hA.1
    have q2 : 0 < keys.length := hA.2
    clear hA hkl
    go_enter Tryz.func113, Tryz.ntmps113
    go_upto_region 1 with fail
    rw [← HW1.out]
    go_wp2_with fail
    go_ret
    exact ⟨retB HE.out.symm, C1.out⟩
  have hA' : kind = 7 ∨ ¬ 0 < keys.length := by
    by_cases h : kind = 7
    · exact .inl h
    · exact .inr (fun h2 => hA ⟨h, h2⟩)
  by_cases hB : (kind ≠ 2 ∧ kind ≠ 3) ∧ n ≠ 0
  · have HE := Lib.hid (show R = false by rw [HR.out]; unfold fieldsB; rw [if_pos]; unfold badF Nd.p; simp [hB.1.1, hB.1.2, hB.2])
    have q1 : (kind != 2) = true := bne_iff_ne.2 hB.1.1
    have q2 : (kind != 3) = true := bne_iff_ne.2 hB.1.2
    have q3 : (n != 0) = true := bne_iff_ne.2 hB.2
    have HA' := Lib.hid hA'
    clear hA hA' hB
    rcases HA'.out with h | h
    · subst h
      go_enter Tryz.func113, Tryz.ntmps113
      go_upto_region 1 with fail
      rw [← HW1.out]
      go_wp2_with fail
      go_ret
      exact ⟨retB HE.out.symm, C1.out⟩
    · cases q0 : (kind != 7)
      all_goals
        go_enter Tryz.func113, Tryz.ntmps113
        go_upto_region 1 with fail
        rw [← HW1.out]
        go_wp2_with fail
        go_ret
        exact ⟨retB HE.out.symm, C1.out⟩
  have HNB := Lib.hid (show badF ⟨kind, text, n, keys, kids⟩ = false by
    unfold badF
    rw [Bool.or_eq_false_iff]
    constructor
    · rcases hA' with h | h
      · simp [h]
      · rw [decide_eq_false h]; simp
    · by_cases h : kind = 2
      · simp [h]
      · by_cases h3 : kind = 3
        · simp [h3]
        · have : n = 0 := by
            by_cases hn : n = 0
            · exact hn
            · exact absurd ⟨⟨h, h3⟩, hn⟩ hB
          simp [this])
  have hN : (kind = 2 ∨ kind = 3) ∨ n = 0 := by
    by_cases h : kind = 2
    · exact .inl (.inl h)
    · by_cases h3 : kind = 3
      · exact .inl (.inr h3)
      · exact .inr (by
          by_cases hn : n = 0
          · exact hn
          · exact absurd ⟨⟨h, h3⟩, hn⟩ hB)
  have HRR := Lib.hid (show R = fieldsB ⟨kind, text, n, keys, kids⟩ from HR.out)
  have HAA := Lib.hid hA'
  have HNN := Lib.hid hN
  clear hA hA' hB hN HR
  by_cases hk2 : kind = 2
  · subst hk2
    have hK : ¬ 0 < keys.length := HAA.out.resolve_left (by decide)
    by_cases he : text = emS
    case neg =>
      have hem := em_isEmpty he
      have hem2 := str_ne (k := emS) (l := []) (by kernel_rfl) he
      have HE := Lib.hid (show R = false by rw [HRR.out]; unfold fieldsB; rw [if_neg (by rw [HNB.out]; simp)]; simp [sbeq_ne he])
      clear he
      go_enter Tryz.func113, Tryz.ntmps113
      go_upto_region 1 with fail
      rw [← HW1.out]
      go_wp2_with fail
      go_ret
      exact ⟨retB HE.out.symm, C1.out⟩
    subst he
    unfold emS at *
    cases h0 : (n == 0)
    · cases h1 : (n == 1)
      · have HE := Lib.hid (show R = false by rw [HRR.out]; unfold fieldsB; rw [if_neg (by rw [HNB.out]; simp)]; simp [h0, h1])
        go_enter Tryz.func113, Tryz.ntmps113
        go_upto_region 1 with fail
        rw [← HW1.out]
        go_wp2_with fail
        go_ret
        exact ⟨retB HE.out.symm, C1.out⟩
      · have HE := Lib.hid (show R = true by rw [HRR.out]; unfold fieldsB; rw [if_neg (by rw [HNB.out]; simp)]; simp [h0, h1, emS])
        go_enter Tryz.func113, Tryz.ntmps113
        go_upto_region 1 with fail
        rw [← HW1.out]
        go_wp2_with fail
        go_ret
        exact ⟨retB HE.out.symm, C1.out⟩
    · have HE := Lib.hid (show R = true by rw [HRR.out]; unfold fieldsB; rw [if_neg (by rw [HNB.out]; simp)]; simp [h0, emS])
      go_enter Tryz.func113, Tryz.ntmps113
      go_upto_region 1 with fail
      rw [← HW1.out]
      go_wp2_with fail
      go_ret
      exact ⟨retB HE.out.symm, C1.out⟩
  by_cases hk3 : kind = 3
  · subst hk3
    have hK : ¬ 0 < keys.length := HAA.out.resolve_left (by decide)
    by_cases he : text = emS
    case neg =>
      have hem := em_isEmpty he
      have hem2 := str_ne (k := emS) (l := []) (by kernel_rfl) he
      have HE := Lib.hid (show R = false by rw [HRR.out]; unfold fieldsB; rw [if_neg (by rw [HNB.out]; simp)]; simp [sbeq_ne he])
      clear he
      go_enter Tryz.func113, Tryz.ntmps113
      go_upto_region 1 with fail
      rw [← HW1.out]
      go_wp2_with fail
      go_ret
      exact ⟨retB HE.out.symm, C1.out⟩
    subst he
    unfold emS at *
    by_cases h0 : 0 ≤ n
    · have HE := Lib.hid (show R = decide (n ≤ 1000000000000) by rw [HRR.out]; unfold fieldsB; rw [if_neg (by rw [HNB.out]; simp)]; rw [decide_eq_true h0]; rfl)
      go_enter Tryz.func113, Tryz.ntmps113
      go_upto_region 1 with fail
      rw [← HW1.out]
      go_wp2_with fail
      go_ret
      exact ⟨retB HE.out.symm, C1.out⟩
    · have HE := Lib.hid (show R = false by rw [HRR.out]; unfold fieldsB; rw [if_neg (by rw [HNB.out]; simp)]; rw [decide_eq_false h0]; simp)
      have h0' : n < 0 := by omega
      clear h0
      go_enter Tryz.func113, Tryz.ntmps113
      go_upto_region 1 with fail
      rw [← HW1.out]
      go_wp2_with fail
      go_ret
      exact ⟨retB HE.out.symm, C1.out⟩
  by_cases hk4 : kind = 4
  · subst hk4
    have hK : ¬ 0 < keys.length := HAA.out.resolve_left (by decide)
    have hn0 : n = 0 := HNN.out.resolve_left (by decide)
    have hn : (n != 0) = false := by simp [hn0]
    clear hn0
    have HE := Lib.hid (show R = sTextB text by rw [HRR.out]; unfold fieldsB; rw [if_neg (by rw [HNB.out]; simp)]; rfl)
    clear HRR
    generalize sTextB text = q at *
    go_enter Tryz.func113, Tryz.ntmps113
    go_upto_region 1 with fail
    rw [← HW1.out]
    go_wp2_with (go_at_call 128; (with_reducible refine Calls.mono TX.out ?_); rintro e w2 ⟨rfl, hc⟩; have C2 := Lib.hid (C1.out.thenSame hc); clear hc)
    go_ret
    exact ⟨retB HE.out.symm, C2.out⟩
  by_cases hk5 : kind = 5
  · subst hk5
    have hK : ¬ 0 < keys.length := HAA.out.resolve_left (by decide)
    have hn0 : n = 0 := HNN.out.resolve_left (by decide)
    have hn : (n != 0) = false := by simp [hn0]
    clear hn0
    have HE := Lib.hid (show R = sNameB text by rw [HRR.out]; unfold fieldsB; rw [if_neg (by rw [HNB.out]; simp)]; rfl)
    clear HRR
    generalize sNameB text = q at *
    go_enter Tryz.func113, Tryz.ntmps113
    go_upto_region 1 with fail
    rw [← HW1.out]
    go_wp2_with (go_at_call 83; (with_reducible refine Calls.mono (NM.out _) ?_); rintro e w2 ⟨rfl, rfl⟩)
    go_ret
    exact ⟨retB HE.out.symm, C1.out⟩
  by_cases hk11 : kind = 11
  · subst hk11
    have hK : ¬ 0 < keys.length := HAA.out.resolve_left (by decide)
    have hn0 : n = 0 := HNN.out.resolve_left (by decide)
    have hn : (n != 0) = false := by simp [hn0]
    clear hn0
    have HE := Lib.hid (show R = sNameB text by rw [HRR.out]; unfold fieldsB; rw [if_neg (by rw [HNB.out]; simp)]; rfl)
    clear HRR
    generalize sNameB text = q at *
    go_enter Tryz.func113, Tryz.ntmps113
    go_upto_region 1 with fail
    rw [← HW1.out]
    go_wp2_with (go_at_call 83; (with_reducible refine Calls.mono (NM.out _) ?_); rintro e w2 ⟨rfl, rfl⟩)
    go_ret
    exact ⟨retB HE.out.symm, C1.out⟩
  by_cases hk13 : kind = 13
  · subst hk13
    have hK : ¬ 0 < keys.length := HAA.out.resolve_left (by decide)
    have hn0 : n = 0 := HNN.out.resolve_left (by decide)
    have hn : (n != 0) = false := by simp [hn0]
    clear hn0
    have HE := Lib.hid (show R = sNameB text by rw [HRR.out]; unfold fieldsB; rw [if_neg (by rw [HNB.out]; simp)]; rfl)
    clear HRR
    generalize sNameB text = q at *
    go_enter Tryz.func113, Tryz.ntmps113
    go_upto_region 1 with fail
    rw [← HW1.out]
    go_wp2_with (go_at_call 83; (with_reducible refine Calls.mono (NM.out _) ?_); rintro e w2 ⟨rfl, rfl⟩)
    go_ret
    exact ⟨retB HE.out.symm, C1.out⟩
  by_cases hk14 : kind = 14
  · subst hk14
    have hK : ¬ 0 < keys.length := HAA.out.resolve_left (by decide)
    have hn0 : n = 0 := HNN.out.resolve_left (by decide)
    have hn : (n != 0) = false := by simp [hn0]
    clear hn0
    have HE := Lib.hid (show R = sNameB text by rw [HRR.out]; unfold fieldsB; rw [if_neg (by rw [HNB.out]; simp)]; rfl)
    clear HRR
    generalize sNameB text = q at *
    go_enter Tryz.func113, Tryz.ntmps113
    go_upto_region 1 with fail
    rw [← HW1.out]
    go_wp2_with (go_at_call 83; (with_reducible refine Calls.mono (NM.out _) ?_); rintro e w2 ⟨rfl, rfl⟩)
    go_ret
    exact ⟨retB HE.out.symm, C1.out⟩
  by_cases hk12 : kind = 12
  · subst hk12
    have hK : ¬ 0 < keys.length := HAA.out.resolve_left (by decide)
    have hn0 : n = 0 := HNN.out.resolve_left (by decide)
    have hn : (n != 0) = false := by simp [hn0]
    clear hn0
    have HE := Lib.hid (show R = sRunB text by rw [HRR.out]; unfold fieldsB; rw [if_neg (by rw [HNB.out]; simp)]; rfl)
    clear HRR
    generalize sRunB text = q at *
    go_enter Tryz.func113, Tryz.ntmps113
    go_upto_region 1 with fail
    rw [← HW1.out]
    go_wp2_with (go_at_call 110; (with_reducible refine Calls.mono (RN.out _) ?_); rintro e w2 ⟨rfl, rfl⟩)
    go_ret
    exact ⟨retB HE.out.symm, C1.out⟩
  by_cases hk7 : kind = 7
  · subst hk7
    have hn0 : n = 0 := HNN.out.resolve_left (by decide)
    have hn : (n != 0) = false := by simp [hn0]
    clear hn0
    by_cases he : text = emS
    case neg =>
      have hem := em_isEmpty he
      have hem2 := str_ne (k := emS) (l := []) (by kernel_rfl) he
      have HE := Lib.hid (show R = false by rw [HRR.out]; unfold fieldsB; rw [if_neg (by rw [HNB.out]; simp)]; simp [sbeq_ne he])
      clear he
      go_enter Tryz.func113, Tryz.ntmps113
      go_upto_region 1 with fail
      rw [← HW1.out]
      go_wp2_with fail
      go_ret
      exact ⟨retB HE.out.symm, C1.out⟩
    subst he
    unfold emS at *
    by_cases hll : keys.length = kids.length
    · have HE := Lib.hid (show R = keysB keys by rw [HRR.out]; unfold fieldsB; rw [if_neg (by rw [HNB.out]; simp)]; rw [decide_eq_true hll]; rfl)
      have hl2 : ((keys.length : Int) == (kids.length : Int)) = true := by simp [hll]
      clear HRR hll
      generalize keysB keys = q at *
      go_enter Tryz.func113, Tryz.ntmps113
      go_upto_region 1 with fail
      rw [← HW1.out]
      go_wp2_with (go_at_call 129; (with_reducible refine Calls.mono KY.out ?_); rintro e w2 ⟨rfl, hc⟩; have C2 := Lib.hid (C1.out.thenSame hc); clear hc)
      go_ret
      exact ⟨retB HE.out.symm, C2.out⟩
    · have HE := Lib.hid (show R = false by rw [HRR.out]; unfold fieldsB; rw [if_neg (by rw [HNB.out]; simp)]; rw [decide_eq_false hll]; simp)
      have hl2 : ((keys.length : Int) == (kids.length : Int)) = false := beq_eq_false_iff_ne.2 (by omega)
      clear HRR hll
      go_enter Tryz.func113, Tryz.ntmps113
      go_upto_region 1 with fail
      rw [← HW1.out]
      go_wp2_with fail
      go_ret
      exact ⟨retB HE.out.symm, C1.out⟩
  by_cases hk8 : kind = 8
  · subst hk8
    have hK : ¬ 0 < keys.length := HAA.out.resolve_left (by decide)
    have hn0 : n = 0 := HNN.out.resolve_left (by decide)
    have hn : (n != 0) = false := by simp [hn0]
    clear hn0
    by_cases h0 : text = ⟨#[45]⟩
    · have HE := Lib.hid (show R = true by rw [HRR.out]; unfold fieldsB; rw [if_neg (by rw [HNB.out]; simp)]; rw [h0]; kernel_rfl)
      subst h0
      go_enter Tryz.func113, Tryz.ntmps113
      go_upto_region 1 with fail
      rw [← HW1.out]
      go_wp2_with fail
      go_ret
      exact ⟨retB HE.out.symm, C1.out⟩
    have q0 := str_ne (l := [45]) (by kernel_rfl) h0
    by_cases h1 : text = ⟨#[110, 111, 116]⟩
    · have HE := Lib.hid (show R = true by rw [HRR.out]; unfold fieldsB; rw [if_neg (by rw [HNB.out]; simp)]; rw [h1]; kernel_rfl)
      subst h1
      go_enter Tryz.func113, Tryz.ntmps113
      go_upto_region 1 with fail
      rw [← HW1.out]
      go_wp2_with fail
      go_ret
      exact ⟨retB HE.out.symm, C1.out⟩
    have q1 := str_ne (l := [110, 111, 116]) (by kernel_rfl) h1
    have HE := Lib.hid (show R = false by rw [HRR.out]; unfold fieldsB; rw [if_neg (by rw [HNB.out]; simp)]; simp [sbeq_ne h0, sbeq_ne h1])
    clear h0 h1
    go_enter Tryz.func113, Tryz.ntmps113
    go_upto_region 1 with fail
    rw [← HW1.out]
    go_wp2_with fail
    go_ret
    exact ⟨retB HE.out.symm, C1.out⟩
  by_cases hk9 : kind = 9
  · subst hk9
    have hK : ¬ 0 < keys.length := HAA.out.resolve_left (by decide)
    have hn0 : n = 0 := HNN.out.resolve_left (by decide)
    have hn : (n != 0) = false := by simp [hn0]
    clear hn0
    have HE := Lib.hid (show R = decide (0 < binZ text) by rw [HRR.out]; unfold fieldsB; rw [if_neg (by rw [HNB.out]; simp)]; rfl)
    clear HRR
    generalize decide (0 < binZ text) = q at *
    go_enter Tryz.func113, Tryz.ntmps113
    go_upto_region 1 with fail
    rw [← HW1.out]
    go_wp2_with (go_at_call 130; (with_reducible refine Calls.mono (OP.out _) ?_); rintro e w2 ⟨rfl, rfl⟩)
    go_ret
    exact ⟨retB HE.out.symm, C1.out⟩
  have hK : ¬ 0 < keys.length := HAA.out.resolve_left hk7
  have hn0 : n = 0 := HNN.out.resolve_left (by rintro (h | h); exact hk2 h; exact hk3 h)
  have hn : (n != 0) = false := by simp [hn0]
  have HRS := Lib.hid (show R = (text == emS) by rw [HRR.out]; unfold fieldsB; rw [if_neg (by rw [HNB.out]; simp), if_neg hk2, if_neg hk3, if_neg hk4, if_neg (by simp [hk5, hk11, hk13, hk14]), if_neg hk12, if_neg hk7, if_neg hk8, if_neg hk9])
  have e2 : (kind == 2) = false := beq_eq_false_iff_ne.2 hk2
  have e3 : (kind == 3) = false := beq_eq_false_iff_ne.2 hk3
  have e4 : (kind == 4) = false := beq_eq_false_iff_ne.2 hk4
  have e5 : (kind == 5) = false := beq_eq_false_iff_ne.2 hk5
  have e11 : (kind == 11) = false := beq_eq_false_iff_ne.2 hk11
  have e13 : (kind == 13) = false := beq_eq_false_iff_ne.2 hk13
  have e14 : (kind == 14) = false := beq_eq_false_iff_ne.2 hk14
  have e12 : (kind == 12) = false := beq_eq_false_iff_ne.2 hk12
  have e7 : (kind == 7) = false := beq_eq_false_iff_ne.2 hk7
  have e8 : (kind == 8) = false := beq_eq_false_iff_ne.2 hk8
  have e9 : (kind == 9) = false := beq_eq_false_iff_ne.2 hk9
  have d7 : (kind != 7) = true := bne_iff_ne.2 hk7
  have d2 : (kind != 2) = true := bne_iff_ne.2 hk2
  have d3 : (kind != 3) = true := bne_iff_ne.2 hk3
  clear hn0 HRR hk2 hk3 hk4 hk5 hk11 hk13 hk14 hk12 hk7 hk8 hk9
  by_cases he : text = emS
  · have HE := Lib.hid (show R = true by rw [HRS.out, he]; kernel_rfl)
    subst he
    unfold emS at *
    go_enter Tryz.func113, Tryz.ntmps113
    go_upto_region 1 with fail
    rw [← HW1.out]
    go_wp2_with fail
    go_ret
    exact ⟨retB HE.out.symm, C1.out⟩
  · have HE := Lib.hid (show R = false by rw [HRS.out]; exact sbeq_ne he)
    have hem := em_isEmpty he
    have hem2 := str_ne (k := emS) (l := []) (by kernel_rfl) he
    clear he
    go_enter Tryz.func113, Tryz.ntmps113
    go_upto_region 1 with fail
    rw [← HW1.out]
    go_wp2_with fail
    go_ret
    exact ⟨retB HE.out.symm, C1.out⟩
end Go.Proofs.YtolidiafomceiaaGreatDoor
namespace Go.Proofs.YtolidiafomceiaaGreatDoor
set_option linter.unusedVariables false
set_option linter.unusedSimpArgs false
open Go.RowKit
def countB (x : PNd) : Bool :=
  if x.kind = 1 ∨ x.kind = 2 ∨ x.kind = 3 ∨ x.kind = 4 ∨ x.kind = 5 then ((x.kids.length : Int) == 0)
  else if x.kind = 8 ∨ x.kind = 13 ∨ x.kind = 14 ∨ x.kind = 17 ∨ x.kind = 18 then ((x.kids.length : Int) == 1)
  else if x.kind = 9 ∨ x.kind = 10 ∨ x.kind = 16 then ((x.kids.length : Int) == 2)
  else if x.kind = 15 then ((x.kids.length : Int) == 2 || (x.kids.length : Int) == 3)
  else decide (x.kind = 6 ∨ x.kind = 7 ∨ x.kind = 11 ∨ x.kind = 12 ∨ x.kind = 19)
def fitsB (x : PNd) (k part : Int) : Bool :=
  if x.kind = 19 then sStatB part else if x.kind = 15 ∨ x.kind = 16 then (if 0 < k then part == 19 else sExprB part) else sExprB part
set_option maxHeartbeats 16000000 in
set_option maxRecDepth 100000 in
theorem count_any (x : Nd) (w : World) : Calls Tryz.prog 114 #[.agg (ndC x).toArray] w fun e w' => e = .returned (.bool (countB x.p)) ∧ Chg [] w w' := by
  obtain ⟨R, hR⟩ : ∃ R, R = countB x.p := ⟨_, rfl⟩
  rw [← hR]
  have HR := Lib.hid hR
  clear hR
  obtain ⟨W1, hW1⟩ : ∃ W1, W1 = w.alloc (ndO x) := ⟨_, rfl⟩
  have C1 := Lib.hid (show Chg [] w W1 by rw [hW1]; exact (Chg.refl _ _).alloc _)
  have B1 := Lib.hid (show W1.heap[w.heap.size]? = some (ndO x) by rw [hW1]; exact heap_alloc_new _ _)
  obtain ⟨kind, text, n, ka, kc, keys, da, dc, kids⟩ := x
  unfold ndO at hW1 B1
  simp only at hW1 B1
  have HW1 := Lib.hid hW1
  have k1 := blk_cell B1.out
  simp only [ndC]
  clear hW1
  have HRR := Lib.hid (show R = countB ⟨kind, text, n, keys, kids⟩ from HR.out)
  clear HR
  by_cases hk1 : kind = 1
  · subst hk1
    have HE := Lib.hid (show R = ((kids.length : Int) == 0) by rw [HRR.out]; unfold countB; simp)
    go_enter Tryz.func114, Tryz.ntmps114
    go_upto_region 1 with fail
    rw [← HW1.out]
    go_wp2_with fail
    go_ret
    exact ⟨retB HE.out.symm, C1.out⟩
  by_cases hk2 : kind = 2
  · subst hk2
    have HE := Lib.hid (show R = ((kids.length : Int) == 0) by rw [HRR.out]; unfold countB; simp)
    go_enter Tryz.func114, Tryz.ntmps114
    go_upto_region 1 with fail
    rw [← HW1.out]
    go_wp2_with fail
    go_ret
    exact ⟨retB HE.out.symm, C1.out⟩
  by_cases hk3 : kind = 3
  · subst hk3
    have HE := Lib.hid (show R = ((kids.length : Int) == 0) by rw [HRR.out]; unfold countB; simp)
    go_enter Tryz.func114, Tryz.ntmps114
    go_upto_region 1 with fail
    rw [← HW1.out]
    go_wp2_with fail
    go_ret
    exact ⟨retB HE.out.symm, C1.out⟩
  by_cases hk4 : kind = 4
  · subst hk4
    have HE := Lib.hid (show R = ((kids.length : Int) == 0) by rw [HRR.out]; unfold countB; simp)
    go_enter Tryz.func114, Tryz.ntmps114
    go_upto_region 1 with fail
    rw [← HW1.out]
    go_wp2_with fail
    go_ret
    exact ⟨retB HE.out.symm, C1.out⟩
  by_cases hk5 : kind = 5
  · subst hk5
    have HE := Lib.hid (show R = ((kids.length : Int) == 0) by rw [HRR.out]; unfold countB; simp)
    go_enter Tryz.func114, Tryz.ntmps114
    go_upto_region 1 with fail
    rw [← HW1.out]
    go_wp2_with fail
    go_ret
    exact ⟨retB HE.out.symm, C1.out⟩
  by_cases hk6 : kind = 6
  · subst hk6
    have HE := Lib.hid (show R = true by rw [HRR.out]; unfold countB; simp)
    go_enter Tryz.func114, Tryz.ntmps114
    go_upto_region 1 with fail
    rw [← HW1.out]
    go_wp2_with fail
    go_ret
    exact ⟨retB HE.out.symm, C1.out⟩
  by_cases hk7 : kind = 7
  · subst hk7
    have HE := Lib.hid (show R = true by rw [HRR.out]; unfold countB; simp)
    go_enter Tryz.func114, Tryz.ntmps114
    go_upto_region 1 with fail
    rw [← HW1.out]
    go_wp2_with fail
    go_ret
    exact ⟨retB HE.out.symm, C1.out⟩
  by_cases hk8 : kind = 8
  · subst hk8
    have HE := Lib.hid (show R = ((kids.length : Int) == 1) by rw [HRR.out]; unfold countB; simp)
    go_enter Tryz.func114, Tryz.ntmps114
    go_upto_region 1 with fail
    rw [← HW1.out]
    go_wp2_with fail
    go_ret
    exact ⟨retB HE.out.symm, C1.out⟩
  by_cases hk9 : kind = 9
  · subst hk9
    have HE := Lib.hid (show R = ((kids.length : Int) == 2) by rw [HRR.out]; unfold countB; simp)
    go_enter Tryz.func114, Tryz.ntmps114
    go_upto_region 1 with fail
    rw [← HW1.out]
    go_wp2_with fail
    go_ret
    exact ⟨retB HE.out.symm, C1.out⟩
  by_cases hk10 : kind = 10
  · subst hk10
    have HE := Lib.hid (show R = ((kids.length : Int) == 2) by rw [HRR.out]; unfold countB; simp)
    go_enter Tryz.func114, Tryz.ntmps114
    go_upto_region 1 with fail
    rw [← HW1.out]
    go_wp2_with fail
    go_ret
    exact ⟨retB HE.out.symm, C1.out⟩
  by_cases hk11 : kind = 11
  · subst hk11
    have HE := Lib.hid (show R = true by rw [HRR.out]; unfold countB; simp)
    go_enter Tryz.func114, Tryz.ntmps114
    go_upto_region 1 with fail
    rw [← HW1.out]
    go_wp2_with fail
    go_ret
    exact ⟨retB HE.out.symm, C1.out⟩
  by_cases hk12 : kind = 12
  · subst hk12
    have HE := Lib.hid (show R = true by rw [HRR.out]; unfold countB; simp)
    go_enter Tryz.func114, Tryz.ntmps114
    go_upto_region 1 with fail
    rw [← HW1.out]
    go_wp2_with fail
    go_ret
    exact ⟨retB HE.out.symm, C1.out⟩
  by_cases hk13 : kind = 13
  · subst hk13
    have HE := Lib.hid (show R = ((kids.length : Int) == 1) by rw [HRR.out]; unfold countB; simp)
    go_enter Tryz.func114, Tryz.ntmps114
    go_upto_region 1 with fail
    rw [← HW1.out]
    go_wp2_with fail
    go_ret
    exact ⟨retB HE.out.symm, C1.out⟩
  by_cases hk14 : kind = 14
  · subst hk14
    have HE := Lib.hid (show R = ((kids.length : Int) == 1) by rw [HRR.out]; unfold countB; simp)
    go_enter Tryz.func114, Tryz.ntmps114
    go_upto_region 1 with fail
    rw [← HW1.out]
    go_wp2_with fail
    go_ret
    exact ⟨retB HE.out.symm, C1.out⟩
  by_cases hk15 : kind = 15
  · subst hk15
    cases q2 : ((kids.length : Int) == 2)
    · have HE := Lib.hid (show R = ((kids.length : Int) == 3) by rw [HRR.out]; unfold countB; simp [q2])
      go_enter Tryz.func114, Tryz.ntmps114
      go_upto_region 1 with fail
      rw [← HW1.out]
      go_wp2_with fail
      go_ret
      exact ⟨retB HE.out.symm, C1.out⟩
    · have HE := Lib.hid (show R = true by rw [HRR.out]; unfold countB; simp [q2])
      go_enter Tryz.func114, Tryz.ntmps114
      go_upto_region 1 with fail
      rw [← HW1.out]
      go_wp2_with fail
      go_ret
      exact ⟨retB HE.out.symm, C1.out⟩
  by_cases hk16 : kind = 16
  · subst hk16
    have HE := Lib.hid (show R = ((kids.length : Int) == 2) by rw [HRR.out]; unfold countB; simp)
    go_enter Tryz.func114, Tryz.ntmps114
    go_upto_region 1 with fail
    rw [← HW1.out]
    go_wp2_with fail
    go_ret
    exact ⟨retB HE.out.symm, C1.out⟩
  by_cases hk17 : kind = 17
  · subst hk17
    have HE := Lib.hid (show R = ((kids.length : Int) == 1) by rw [HRR.out]; unfold countB; simp)
    go_enter Tryz.func114, Tryz.ntmps114
    go_upto_region 1 with fail
    rw [← HW1.out]
    go_wp2_with fail
    go_ret
    exact ⟨retB HE.out.symm, C1.out⟩
  by_cases hk18 : kind = 18
  · subst hk18
    have HE := Lib.hid (show R = ((kids.length : Int) == 1) by rw [HRR.out]; unfold countB; simp)
    go_enter Tryz.func114, Tryz.ntmps114
    go_upto_region 1 with fail
    rw [← HW1.out]
    go_wp2_with fail
    go_ret
    exact ⟨retB HE.out.symm, C1.out⟩
  by_cases hk19 : kind = 19
  · subst hk19
    have HE := Lib.hid (show R = true by rw [HRR.out]; unfold countB; simp)
    go_enter Tryz.func114, Tryz.ntmps114
    go_upto_region 1 with fail
    rw [← HW1.out]
    go_wp2_with fail
    go_ret
    exact ⟨retB HE.out.symm, C1.out⟩
  have HE := Lib.hid (show R = false by rw [HRR.out]; unfold countB; simp [hk1, hk2, hk3, hk4, hk5, hk6, hk7, hk8, hk9, hk10, hk11, hk12, hk13, hk14, hk15, hk16, hk17, hk18, hk19])
  have e1 : (kind == 1) = false := beq_eq_false_iff_ne.2 hk1
  have e2 : (kind == 2) = false := beq_eq_false_iff_ne.2 hk2
  have e3 : (kind == 3) = false := beq_eq_false_iff_ne.2 hk3
  have e4 : (kind == 4) = false := beq_eq_false_iff_ne.2 hk4
  have e5 : (kind == 5) = false := beq_eq_false_iff_ne.2 hk5
  have e6 : (kind == 6) = false := beq_eq_false_iff_ne.2 hk6
  have e7 : (kind == 7) = false := beq_eq_false_iff_ne.2 hk7
  have e8 : (kind == 8) = false := beq_eq_false_iff_ne.2 hk8
  have e9 : (kind == 9) = false := beq_eq_false_iff_ne.2 hk9
  have e10 : (kind == 10) = false := beq_eq_false_iff_ne.2 hk10
  have e11 : (kind == 11) = false := beq_eq_false_iff_ne.2 hk11
  have e12 : (kind == 12) = false := beq_eq_false_iff_ne.2 hk12
  have e13 : (kind == 13) = false := beq_eq_false_iff_ne.2 hk13
  have e14 : (kind == 14) = false := beq_eq_false_iff_ne.2 hk14
  have e15 : (kind == 15) = false := beq_eq_false_iff_ne.2 hk15
  have e16 : (kind == 16) = false := beq_eq_false_iff_ne.2 hk16
  have e17 : (kind == 17) = false := beq_eq_false_iff_ne.2 hk17
  have e18 : (kind == 18) = false := beq_eq_false_iff_ne.2 hk18
  have e19 : (kind == 19) = false := beq_eq_false_iff_ne.2 hk19
  clear HRR hk1 hk2 hk3 hk4 hk5 hk6 hk7 hk8 hk9 hk10 hk11 hk12 hk13 hk14 hk15 hk16 hk17 hk18 hk19
  go_enter Tryz.func114, Tryz.ntmps114
  go_upto_region 1 with fail
  rw [← HW1.out]
  go_wp2_with fail
  go_ret
  exact ⟨retB HE.out.symm, C1.out⟩
set_option maxHeartbeats 16000000 in
set_option maxRecDepth 100000 in
theorem fits_any (x : Nd) (k part : Int) (w : World) : Calls Tryz.prog 115 #[.agg (ndC x).toArray, .int .i64 k, .int .i64 part] w fun e w' => e = .returned (.bool (fitsB x.p k part)) ∧ Chg [] w w' := by
  obtain ⟨R, hR⟩ : ∃ R, R = fitsB x.p k part := ⟨_, rfl⟩
  rw [← hR]
  have HR := Lib.hid hR
  have ST := Lib.hid (fun w' => statement_any part w')
  have EX := Lib.hid (fun w' => expression_any part w')
  clear hR
  obtain ⟨W1, hW1⟩ : ∃ W1, W1 = w.alloc (ndO x) := ⟨_, rfl⟩
  have C1 := Lib.hid (show Chg [] w W1 by rw [hW1]; exact (Chg.refl _ _).alloc _)
  have B1 := Lib.hid (show W1.heap[w.heap.size]? = some (ndO x) by rw [hW1]; exact heap_alloc_new _ _)
  obtain ⟨kind, text, n, ka, kc, keys, da, dc, kids⟩ := x
  unfold ndO at hW1 B1
  simp only at hW1 B1
  have HW1 := Lib.hid hW1
  have k1 := blk_cell B1.out
  simp only [ndC]
  clear hW1
  have HRR := Lib.hid (show R = fitsB ⟨kind, text, n, keys, kids⟩ k part from HR.out)
  clear HR
  by_cases hk19 : kind = 19
  · subst hk19
    have HE := Lib.hid (show R = sStatB part by rw [HRR.out]; unfold fitsB; simp)
    clear HRR
    generalize sStatB part = q at *
    go_enter Tryz.func115, Tryz.ntmps115
    go_upto_region 1 with fail
    rw [← HW1.out]
    go_wp2_with (go_at_call 131; (with_reducible refine Calls.mono (ST.out _) ?_); rintro e w2 ⟨rfl, rfl⟩)
    go_ret
    exact ⟨retB HE.out.symm, C1.out⟩
  by_cases hk15 : kind = 15
  · subst hk15
    by_cases h0 : 0 < k
    · have HE := Lib.hid (show R = (part == 19) by rw [HRR.out]; unfold fitsB; simp [h0])
      clear HRR
      go_enter Tryz.func115, Tryz.ntmps115
      go_upto_region 1 with fail
      rw [← HW1.out]
      go_wp2_with fail
      go_ret
      exact ⟨retB HE.out.symm, C1.out⟩
    · have HE := Lib.hid (show R = sExprB part by rw [HRR.out]; unfold fitsB; simp [h0])
      have h0' : k ≤ 0 := by omega
      clear HRR h0
      generalize sExprB part = q at *
      go_enter Tryz.func115, Tryz.ntmps115
      go_upto_region 1 with fail
      rw [← HW1.out]
      go_wp2_with (go_at_call 132; (with_reducible refine Calls.mono (EX.out _) ?_); rintro e w2 ⟨rfl, rfl⟩)
      go_ret
      exact ⟨retB HE.out.symm, C1.out⟩
  by_cases hk16 : kind = 16
  · subst hk16
    by_cases h0 : 0 < k
    · have HE := Lib.hid (show R = (part == 19) by rw [HRR.out]; unfold fitsB; simp [h0])
      clear HRR
      go_enter Tryz.func115, Tryz.ntmps115
      go_upto_region 1 with fail
      rw [← HW1.out]
      go_wp2_with fail
      go_ret
      exact ⟨retB HE.out.symm, C1.out⟩
    · have HE := Lib.hid (show R = sExprB part by rw [HRR.out]; unfold fitsB; simp [h0])
      have h0' : k ≤ 0 := by omega
      clear HRR h0
      generalize sExprB part = q at *
      go_enter Tryz.func115, Tryz.ntmps115
      go_upto_region 1 with fail
      rw [← HW1.out]
      go_wp2_with (go_at_call 132; (with_reducible refine Calls.mono (EX.out _) ?_); rintro e w2 ⟨rfl, rfl⟩)
      go_ret
      exact ⟨retB HE.out.symm, C1.out⟩
  have HE := Lib.hid (show R = sExprB part by rw [HRR.out]; unfold fitsB; rw [if_neg hk19, if_neg (by simp [hk15, hk16])])
  have e19 : (kind == 19) = false := beq_eq_false_iff_ne.2 hk19
  have e15 : (kind == 15) = false := beq_eq_false_iff_ne.2 hk15
  have e16 : (kind == 16) = false := beq_eq_false_iff_ne.2 hk16
  clear HRR hk19 hk15 hk16
  generalize sExprB part = q at *
  go_enter Tryz.func115, Tryz.ntmps115
  go_upto_region 1 with fail
  rw [← HW1.out]
  go_wp2_with (go_at_call 132; (with_reducible refine Calls.mono (EX.out _) ?_); rintro e w2 ⟨rfl, rfl⟩)
  go_ret
  exact ⟨retB HE.out.symm, C1.out⟩
end Go.Proofs.YtolidiafomceiaaGreatDoor
