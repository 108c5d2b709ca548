/- Chapter 9: contracts: slices.IndexFunc and ContainsFunc with the closures of ordered and Check. No condition. -/
import Derived.Test.YtolidiafomceiaaGreatDoorStaI
namespace Go.Proofs.YtolidiafomceiaaGreatDoor
set_option linter.unusedVariables false
set_option linter.unusedSimpArgs false
open Go.RowKit
theorem any_step {α : Type} {l : List α} {p : α → Bool} {k : Nat} (hk : k < l.length) : (l.take (k + 1)).any p = ((l.take k).any p || p l[k]) := by
  rw [List.take_add_one, List.getElem?_eq_getElem hk, List.any_append]
  simp
theorem any_yes {α : Type} {l : List α} {p : α → Bool} {k : Nat} (hk : k < l.length) (h : p l[k] = true) : l.any p = true := List.any_eq_true.2 ⟨_, List.getElem_mem hk, h⟩
set_option maxHeartbeats 4000000 in
set_option maxRecDepth 100000 in
theorem ord1_any (s : ByteArray) (w : World) : Calls Tryz.prog 85 #[.string s] w fun e w' => e = .returned (.bool (!sNameB s)) ∧ Chg [] w w' := by
  have A := Lib.hid (sname_any s w)
  generalize sNameB s = q at *
  go_enter Tryz.func85, Tryz.ntmps85
  go_wp2_with (go_at_call 83; (with_reducible refine Calls.mono A.out ?_); rintro e w2 ⟨rfl, rfl⟩)
  go_ret
  exact ⟨rfl, Chg.refl _ _⟩
set_option maxHeartbeats 4000000 in
set_option maxRecDepth 100000 in
theorem chk1_any (x : Fn') (w : World) : Calls Tryz.prog 58 #[.agg (fnC x).toArray] w fun e w' => e = .returned (.bool (decide (8 < x.params.length))) ∧ Chg [] w w' := by
  obtain ⟨W1, hW1⟩ : ∃ W1, W1 = w.alloc (fnO x) := ⟨_, rfl⟩
  have C1 := Lib.hid (show Chg [] w W1 by rw [hW1]; exact (Chg.refl _ _).alloc _)
  have B1 := Lib.hid (show W1.heap[w.heap.size]? = some (fnO x) by rw [hW1]; exact heap_alloc_new _ _)
  unfold fnO at hW1 B1
  have k1 := blk_cell B1.out
  simp only [fnC]
  by_cases h8 : 8 < x.params.length
  · have h8' : (8 : Int) < (x.params.length : Int) := by omega
    have HE := Lib.hid (show decide (8 < x.params.length) = true from decide_eq_true h8)
    clear h8
    go_enter Tryz.func58, Tryz.ntmps58
    go_upto_region 1 with fail
    rw [← hW1]
    clear hW1
    go_wp2_with fail
    go_ret
    exact ⟨retB HE.out.symm, C1.out⟩
  · have h8' : ¬ (8 : Int) < (x.params.length : Int) := by omega
    have HE := Lib.hid (show decide (8 < x.params.length) = false from decide_eq_false h8)
    clear h8
    go_enter Tryz.func58, Tryz.ntmps58
    go_upto_region 1 with fail
    rw [← hW1]
    clear hW1
    go_wp2_with fail
    go_ret
    exact ⟨retB HE.out.symm, C1.out⟩
set_option maxHeartbeats 4000000 in
set_option maxRecDepth 100000 in
theorem sindexf_any {a : Option Addr} {c : Nat} {l : List ByteArray} {w : World} (h : InIs skC 1 w a c l) :
    Calls Tryz.prog 112 #[.slice a l.length c, .func (.func 85) #[] #[]] w fun e w' => ∃ n : Int, e = .returned (.int .i64 n) ∧ (decide (0 ≤ n)) = l.any (fun s => !sNameB s) ∧ Chg [] w w' := by
  have H := Lib.hid h
  have hm : (l.length : Int) ≤ 9223372036854775807 := by have h1 := h.2.1; have h2 := h.2.2.1; unfold maxLen at h2; omega
  clear h
  go_enter Tryz.func112, Tryz.ntmps112
  go_wp2_with fail
  go_loopw [8] (fun i wr => ∃ k : Nat, i = .int .i64 k ∧ k ≤ l.length ∧ Hid ((l.take k).any (fun s => !sNameB s) = false) ∧ Hid (Chg [] w wr)) (fun i _ => l.length - (intOf i).toNat)
  case atStart => exact ⟨0, rfl, Nat.zero_le _, Lib.hid rfl, Lib.hid (Chg.refl _ _)⟩
  case round =>
    obtain ⟨k, rfl, hkl, HS, D⟩ := hrel
    by_cases hk : k < l.length
    · obtain ⟨b, off, rfl, -, -, hcc⟩ := H.out.1.elem D.out k hk
      have u1 := hcc 0 (by omega)
      simp only [skC, List.getElem?_cons_zero, Nat.add_zero, Nat.mul_one] at u1
      have hst := any_step (p := fun s => !sNameB s) hk
      rw [HS.out, Bool.false_or] at hst
      have hy := fun h => any_yes (p := fun s => !sNameB s) hk h
      (try simp only at hst)
      (try simp only at hy)
      generalize l[k] = x at *
      have A := Lib.hid (ord1_any x wr)
      have hk0 : (0 : Int) ≤ (k : Int) := by omega
      have hk1 : (k : Int) < (l.length : Int) := by omega
      clear hcc
      generalize (!sNameB x) = q at *
      cases q
      · have HST := Lib.hid hst
        clear hst hy
        go_wp2_with (first | (with_reducible refine Calls.mono A.out ?_); rintro e w2 ⟨rfl, hc⟩; have D2 := Lib.hid (D.out.thenSame hc); clear hc)
        exact ⟨⟨k + 1, by go_num, by omega, HST, D2⟩, by simp [intOf]; omega⟩
      · have HY := Lib.hid (hy rfl)
        clear hst hy
        go_wp2_with (first | (with_reducible refine Calls.mono A.out ?_); rintro e w2 ⟨rfl, hc⟩; have D2 := Lib.hid (D.out.thenSame hc); clear hc)
        go_ret
        exact ⟨_, rfl, by rw [HY.out]; exact decide_eq_true hk0, D2.out⟩
    · have hks : k = l.length := by omega
      have HE : Hid (l.any (fun s => !sNameB s) = false) := Lib.hid (by have := HS.out; rwa [hks, List.take_of_length_le (Nat.le_refl _)] at this)
      clear hks
      go_wp2_with fail
      go_ret
      exact ⟨_, rfl, by rw [HE.out]; rfl, D.out⟩
set_option maxHeartbeats 4000000 in
set_option maxRecDepth 100000 in
theorem scontf_any {a : Option Addr} {c : Nat} {l : List ByteArray} {w : World} (h : InIs skC 1 w a c l) :
    Calls Tryz.prog 84 #[.slice a l.length c, .func (.func 85) #[] #[]] w fun e w' => e = .returned (.bool (l.any (fun s => !sNameB s))) ∧ Chg [] w w' := by
  have A := Lib.hid (sindexf_any h)
  generalize l.any (fun s => !sNameB s) = q at *
  go_enter Tryz.func84, Tryz.ntmps84
  go_wp2_with (go_at_call 112; (with_reducible refine Calls.mono A.out ?_); rintro e w2 ⟨n, rfl, hn, hc⟩)
  go_ret
  exact ⟨by rw [← hn]; rfl, hc⟩
set_option maxHeartbeats 4000000 in
set_option maxRecDepth 100000 in
theorem findexf_any {a : Option Addr} {c : Nat} {l : List Fn'} {w : World} (h : InIs fnC 3 w a c l) :
    Calls Tryz.prog 51 #[.slice a l.length c, .func (.func 58) #[] #[]] w fun e w' => ∃ n : Int, e = .returned (.int .i64 n) ∧ (decide (0 ≤ n)) = l.any (fun f => decide (8 < f.params.length)) ∧ Chg [] w w' := by
  have H := Lib.hid h
  have hm : (l.length : Int) ≤ 9223372036854775807 := by have h1 := h.2.1; have h2 := h.2.2.1; unfold maxLen at h2; omega
  clear h
  go_enter Tryz.func51, Tryz.ntmps51
  go_wp2_with fail
  go_loopw [8] (fun i wr => ∃ k : Nat, i = .int .i64 k ∧ k ≤ l.length ∧ Hid ((l.take k).any (fun f => decide (8 < f.params.length)) = false) ∧ Hid (Chg [] w wr)) (fun i _ => l.length - (intOf i).toNat)
  case atStart => exact ⟨0, rfl, Nat.zero_le _, Lib.hid rfl, Lib.hid (Chg.refl _ _)⟩
  case round =>
    obtain ⟨k, rfl, hkl, HS, D⟩ := hrel
    by_cases hk : k < l.length
    · obtain ⟨b, off, rfl, -, -, hcc⟩ := H.out.1.elem D.out k hk
      have u0 := hcc 0 (by omega)
      have u1 := hcc 1 (by omega)
      have u2 := hcc 2 (by omega)
      simp only [fnC, List.getElem?_cons_zero, List.getElem?_cons_succ, Nat.add_zero] at u0 u1 u2
      have hst := any_step (p := fun f : Fn' => decide (8 < f.params.length)) hk
      rw [HS.out, Bool.false_or] at hst
      have hy := fun h => any_yes (p := fun f : Fn' => decide (8 < f.params.length)) hk h
      (try simp only at hst)
      (try simp only at hy)
      generalize l[k] = x at *
      have A := chk1_any x wr
      unfold fnC at A
      have A := Lib.hid A
      rename_i A0
      have hk0 : (0 : Int) ≤ (k : Int) := by omega
      have hk1 : (k : Int) < (l.length : Int) := by omega
      clear hcc A0
      generalize hq : decide (8 < x.params.length) = q at *
      clear hq
      cases q
      · have HST := Lib.hid hst
        clear hst hy
        go_wp2_with (first | (with_reducible refine Calls.mono A.out ?_); rintro e w2 ⟨rfl, hc⟩; have D2 := Lib.hid (D.out.thenSame hc); clear hc)
        exact ⟨⟨k + 1, by go_num, by omega, HST, D2⟩, by simp [intOf]; omega⟩
      · have HY := Lib.hid (hy rfl)
        clear hst hy
        go_wp2_with (first | (with_reducible refine Calls.mono A.out ?_); rintro e w2 ⟨rfl, hc⟩; have D2 := Lib.hid (D.out.thenSame hc); clear hc)
        go_ret
        exact ⟨_, rfl, by rw [HY.out]; exact decide_eq_true hk0, D2.out⟩
    · have hks : k = l.length := by omega
      have HE : Hid (l.any (fun f => decide (8 < f.params.length)) = false) := Lib.hid (by have := HS.out; rwa [hks, List.take_of_length_le (Nat.le_refl _)] at this)
      clear hks
      go_wp2_with fail
      go_ret
      exact ⟨_, rfl, by rw [HE.out]; rfl, D.out⟩
set_option maxHeartbeats 4000000 in
set_option maxRecDepth 100000 in
theorem fcontf_any {a : Option Addr} {c : Nat} {l : List Fn'} {w : World} (h : InIs fnC 3 w a c l) :
    Calls Tryz.prog 57 #[.slice a l.length c, .func (.func 58) #[] #[]] w fun e w' => e = .returned (.bool (l.any (fun f => decide (8 < f.params.length)))) ∧ Chg [] w w' := by
  have A := Lib.hid (findexf_any h)
  generalize l.any (fun f => decide (8 < f.params.length)) = q at *
  go_enter Tryz.func57, Tryz.ntmps57
  go_wp2_with (go_at_call 51; (with_reducible refine Calls.mono A.out ?_); rintro e w2 ⟨n, rfl, hn, hc⟩)
  go_ret
  exact ⟨by rw [← hn]; rfl, hc⟩
end Go.Proofs.YtolidiafomceiaaGreatDoor
