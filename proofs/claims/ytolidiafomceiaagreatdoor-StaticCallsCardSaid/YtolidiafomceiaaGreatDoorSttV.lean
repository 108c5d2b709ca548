/- Chapter 9: the reference's fields of a map. Condition: the form's own bound on texts. -/
import Derived.Test.YtolidiafomceiaaGreatDoorMStaD
import Derived.Test.YtolidiafomceiaaGreatDoorMSttP
import Derived.Test.YtolidiafomceiaaGreatDoorSttT
namespace Go.Proofs.YtolidiafomceiaaGreatDoor
set_option linter.unusedVariables false
set_option linter.unusedSimpArgs false
open Go.RowKit
def keyAtR (l : List ByteArray) (i : Nat) : Bool := match l[i]? with | some s => sQuoB s && (decide (i = 0) || (match l[i - 1]? with | some p => !leS s p | none => true)) | none => true
def keysToR (l : List ByteArray) (k : Nat) : Bool := (List.range k).all (keyAtR l)
def keysR (l : List ByteArray) : Bool := keysToR l l.length
theorem keysToR_step {l : List ByteArray} {k : Nat} : keysToR l (k + 1) = (keysToR l k && keyAtR l k) := by
  unfold keysToR
  rw [List.range_succ, List.all_append, List.all_cons, List.all_nil, Bool.and_true]
theorem keysR_no {l : List ByteArray} {k : Nat} (hk : k < l.length) (h : keyAtR l k = false) : keysR l = false := by
  unfold keysR keysToR
  rw [List.all_eq_false]
  exact ⟨k, by simpa using hk, by rw [h]; simp⟩
def fieldsR (x : PNd) : Bool :=
  if badF x = true then false
  else if x.kind = 2 then (x.text == emS) && (x.n == 0 || x.n == 1)
  else if x.kind = 3 then (x.text == emS) && (decide (0 ≤ x.n) && decide (x.n ≤ 1000000000000))
  else if x.kind = 4 then sQuoB x.text
  else if x.kind = 5 ∨ x.kind = 11 ∨ x.kind = 13 ∨ x.kind = 14 then sNameB x.text
  else if x.kind = 12 then sRunB x.text
  else if x.kind = 7 then (x.text == emS) && (decide (x.keys.length = x.kids.length) && keysR x.keys)
  else if x.kind = 8 then (x.text == ⟨#[45]⟩) || (x.text == ⟨#[110, 111, 116]⟩)
  else if x.kind = 9 then rbinB x.text
  else x.text == emS
set_option maxHeartbeats 16000000 in
set_option maxRecDepth 100000 in
theorem rfields_map (ka da : Option Addr) (kc dc : Nat) (n : Int) (keys : List ByteArray) (kids : List Int) (w : World) (hn : (n != 0) = false) (hin : InIs skC 1 w ka kc keys) (hz : ∀ s ∈ keys, s.size ≤ reachBytes) : Calls Tryz.prog 66 #[.agg #[.int .i64 7, .string ⟨#[]⟩, .int .i64 n, .slice ka keys.length kc, .slice da kids.length dc]] w fun e w' => e = .returned (.bool (decide (keys.length = kids.length) && keysR keys)) ∧ Chg [] w w' := by
  obtain ⟨W1, hW1⟩ : ∃ W1, W1 = w.alloc (.cells #[.int .i64 7, .string ⟨#[]⟩, .int .i64 n, .slice ka keys.length kc, .slice da kids.length dc] 49) := ⟨_, rfl⟩
  have C1 := Lib.hid (show Chg [] w W1 by rw [hW1]; exact (Chg.refl _ _).alloc _)
  have B1 := Lib.hid (show W1.heap[w.heap.size]? = some (.cells #[.int .i64 7, .string ⟨#[]⟩, .int .i64 n, .slice ka keys.length kc, .slice da kids.length dc] 49 (0, 0)) by rw [hW1]; exact heap_alloc_new _ _)
  have k1 := blk_cell B1.out
  have H := Lib.hid hin
  have HZ := Lib.hid hz
  have hm : (keys.length : Int) ≤ 9223372036854775807 := by have h1 := hin.2.1; have h2 := hin.2.2.1; unfold maxLen at h2; omega
  obtain ⟨R, hR⟩ : ∃ R, R = (decide (keys.length = kids.length) && keysR keys) := ⟨_, rfl⟩
  rw [← hR]
  have HR := Lib.hid hR
  clear hin hz hR
  go_enter Tryz.func66, Tryz.ntmps66
  go_upto_region 1 with fail
  rw [← hW1]
  clear hW1
  go_wp2_with fail
  clear k1
  go_loopw [5] (fun u wr => ∃ k : Nat, u = .int .i64 k ∧ k ≤ keys.length ∧ Hid (keysToR keys k = true) ∧ Hid (Chg [] w wr) ∧ Hid (wr.heap[w.heap.size]? = some (.cells #[.int .i64 7, .string ⟨#[]⟩, .int .i64 n, .slice ka keys.length kc, .slice da kids.length dc] 49 (0, 0)))) (fun u _ => keys.length - (intOf u).toNat)
  case atStart => exact ⟨0, rfl, Nat.zero_le _, Lib.hid rfl, C1, B1⟩
  case round =>
    obtain ⟨k, rfl, hk, HK, C, B⟩ := hrel
    have hk0 : (0 : Int) ≤ (k : Int) := by omega
    by_cases hkl : k < keys.length
    · have hkl' : (k : Int) < (keys.length : Int) := by omega
      obtain ⟨b1, o1, e1, -, hb1, hc1⟩ := H.out.1.elem C.out k hkl
      have u1 := hc1 0 (by omega)
      simp only [skC, List.getElem?_cons_zero, Nat.add_zero, Nat.mul_one] at u1
      have k3 := blk_cell (by have := B.out; rw [e1] at this; exact this)
      have q0 := fun d os => ((below_regrown wr d os).cell (p := ⟨w.heap.size, 3, none⟩) (lt_of_heap B.out)).trans (k3 3)
      have qk := fun d os => ((below_regrown wr d os).cell (p := ⟨b1, o1 + k, none⟩) hb1).trans u1
      have HA : keyAtR keys k = (sQuoB keys[k] && (decide (k = 0) || (match keys[k - 1]? with | some p => !leS keys[k] p | none => true))) := by unfold keyAtR; rw [List.getElem?_eq_getElem hkl]
      have HN := Lib.hid (fun (h : keyAtR keys k = false) => show R = false by rw [HR.out, keysR_no hkl h, Bool.and_false])
      have HY := Lib.hid (fun (h : keyAtR keys k = true) => show keysToR keys (k + 1) = true by rw [keysToR_step, HK.out, h]; rfl)
      have qw : IntKind.i64.wrap ((k : Int) + 1) = (k : Int) + 1 := IntWalk.i64_in _ (by omega)
      have HB9 := Lib.hid (fun d os => calls_regrown (d := d) (os := os) (rstr_any keys[k] (Go.Sort.grow (redrawn wr d) os) (HZ.out _ (List.getElem_mem hkl))))
      clear hc1 u1
      rw [e1]
      cases hq : sQuoB keys[k]
      · have HB8 := Lib.hid (by have := HB9.out; rw [hq] at this; exact this)
        rw [hq] at HA
        have HE := Lib.hid (HN.out HA)
        clear HA hq HB9
        generalize keys[k] = x at *
        go_upto_region 25 with fail
        clear k3
        refine wp_region_quiet_below (by kernel_rfl) (by kernel_rfl) ?_
        repeat (any_goals (first | go_big_quiet_step (exact HB8.out _ _) | quiet_step (exact HB8.out _ _)))
        refine wpQuiet_nil ?_
        intro _ hw'
        obtain ⟨⟨dq, osq⟩, hw''⟩ := hw'
        subst hw''
        have C4 := Lib.hid (C.out.thenSame (chg_regrown wr dq osq))
        have B4 := Lib.hid ((chg_regrown wr dq osq).at (by simp) B.out)
        generalize Go.Sort.grow (redrawn wr dq) osq = W4 at *
        clear q0 qk HB8
        go_wp2_with fail
        go_ret
        exact ⟨retB HE.out.symm, C4.out⟩
      have HB8 := Lib.hid (by have := HB9.out; rw [hq] at this; exact this)
      rw [hq] at HA
      clear hq HB9
      by_cases hz : k = 0
      · have HY2 := Lib.hid (HY.out (by rw [HA, decide_eq_true hz]; rfl))
        have hz' : (k : Int) ≤ 0 := by omega
        have hz2 : ¬ (k : Int) > 0 := by omega
        have hz3 : ¬ 0 < k := by omega
        clear HA hz
        generalize keys[k] = x at *
        go_upto_region 25 with fail
        clear k3
        refine wp_region_quiet_below (by kernel_rfl) (by kernel_rfl) ?_
        repeat (any_goals (first | go_big_quiet_step (exact HB8.out _ _) | quiet_step (exact HB8.out _ _)))
        refine wpQuiet_nil ?_
        intro _ hw'
        obtain ⟨⟨dq, osq⟩, hw''⟩ := hw'
        subst hw''
        have C4 := Lib.hid (C.out.thenSame (chg_regrown wr dq osq))
        have B4 := Lib.hid ((chg_regrown wr dq osq).at (by simp) B.out)
        generalize Go.Sort.grow (redrawn wr dq) osq = W4 at *
        clear q0 qk HB8
        go_wp2_with fail
        exact ⟨⟨k + 1, by go_num, by omega, HY2, C4, (by first | exact B4 | (rw [e1] at B4; exact B4))⟩, by simp [intOf]; omega⟩
      obtain ⟨j, hj⟩ : ∃ j, k = j + 1 := ⟨k - 1, by omega⟩
      have hjl : j < keys.length := by omega
      obtain ⟨b2, o2, e2, -, hb2, hc2⟩ := H.out.1.elem C.out j hjl
      rw [e1] at e2
      cases e2
      have u2 := hc2 0 (by omega)
      simp only [skC, List.getElem?_cons_zero, Nat.add_zero, Nat.mul_one] at u2
      have qj := fun d os => ((below_regrown wr d os).cell (p := ⟨b1, o1 + j, none⟩) hb1).trans u2
      have qs : IntKind.i64.wrap ((k : Int) - 1) = (j : Int) := by rw [IntWalk.i64_in _ (by omega)]; omega
      have hz2 : (k : Int) > 0 := by omega
      have hz3 : 0 < k := by omega
      have hj0 : (0 : Int) ≤ (j : Int) := by omega
      have hj1 : (j : Int) < (keys.length : Int) := by omega
      rw [decide_eq_false hz, Bool.false_or, show k - 1 = j by omega, List.getElem?_eq_getElem hjl] at HA
      simp only [Bool.true_and] at HA
      clear hc2 u2 hz hj
      generalize keys[j] = y at *
      generalize keys[k] = x at *
      cases hle : leS x y
      · rw [hle] at HA
        have HY2 := Lib.hid (HY.out HA)
        unfold leS at hle
        clear HA
        go_upto_region 25 with fail
        clear k3
        refine wp_region_quiet_below (by kernel_rfl) (by kernel_rfl) ?_
        repeat (any_goals (first | go_big_quiet_step (exact HB8.out _ _) | quiet_step (exact HB8.out _ _)))
        refine wpQuiet_nil ?_
        intro _ hw'
        obtain ⟨⟨dq, osq⟩, hw''⟩ := hw'
        subst hw''
        have C4 := Lib.hid (C.out.thenSame (chg_regrown wr dq osq))
        have B4 := Lib.hid ((chg_regrown wr dq osq).at (by simp) B.out)
        generalize Go.Sort.grow (redrawn wr dq) osq = W4 at *
        clear q0 qk HB8
        clear qj
        go_wp2_with fail
        exact ⟨⟨k + 1, by go_num, by omega, HY2, C4, (by first | exact B4 | (rw [e1] at B4; exact B4))⟩, by simp [intOf]; omega⟩
      · rw [hle] at HA
        have HE := Lib.hid (HN.out HA)
        unfold leS at hle
        clear HA
        go_upto_region 25 with fail
        clear k3
        refine wp_region_quiet_below (by kernel_rfl) (by kernel_rfl) ?_
        repeat (any_goals (first | go_big_quiet_step (exact HB8.out _ _) | quiet_step (exact HB8.out _ _)))
        refine wpQuiet_nil ?_
        intro _ hw'
        obtain ⟨⟨dq, osq⟩, hw''⟩ := hw'
        subst hw''
        have C4 := Lib.hid (C.out.thenSame (chg_regrown wr dq osq))
        have B4 := Lib.hid ((chg_regrown wr dq osq).at (by simp) B.out)
        generalize Go.Sort.grow (redrawn wr dq) osq = W4 at *
        clear q0 qk HB8
        clear qj
        go_wp2_with fail
        go_ret
        exact ⟨retB HE.out.symm, C4.out⟩
    · have hke : k = keys.length := by omega
      have hK := HK.out
      rw [hke] at hK
      have HE := Lib.hid (show R = decide (keys.length = kids.length) by rw [HR.out]; unfold keysR; rw [hK, Bool.and_true])
      have hks' : ¬ (k : Int) < (keys.length : Int) := by omega
      have k3 := blk_cell B.out
      clear hke hK
      by_cases hll : keys.length = kids.length
      · have HE2 := Lib.hid (show R = true by rw [HE.out]; exact decide_eq_true hll)
        have hl2 : ((keys.length : Int) == (kids.length : Int)) = true := by simp [hll]
        clear hll
        go_wp2_with fail
        go_ret
        exact ⟨retB HE2.out.symm, C.out⟩
      · have HE2 := Lib.hid (show R = false by rw [HE.out]; exact decide_eq_false hll)
        have hl2 : ((keys.length : Int) == (kids.length : Int)) = false := beq_eq_false_iff_ne.2 (by omega)
        clear hll
        go_wp2_with fail
        go_ret
        exact ⟨retB HE2.out.symm, C.out⟩
end Go.Proofs.YtolidiafomceiaaGreatDoor
