/- Chapter 43: contracts: Choose, slices.Clone. No condition. -/
import Derived.Lib.SliceRun
import Derived.Test.YtjbnfaapkicejaaPlcL
import Derived.Test.YtjbnfaapkicejaaPlcF
import Derived.Test.YtjbnfaapkicejaaInl
namespace Go.Proofs.Ytjbnfaapkicejaa
set_option linter.unusedVariables false
set_option linter.unusedSimpArgs false
open Go.RowKit
def choosePX (ws : List Wk) (l : List Pl) (q : Pl) : ByteArray × Int := if checkP ws l = 0 then (if freshE l q = 0 then chooseP ws l q else (⟨#[]⟩, freshE l q)) else (⟨#[]⟩, checkP ws l)
set_option maxHeartbeats 8000000 in
set_option maxRecDepth 100000 in
theorem choosex_any (aw : Option Addr) (cw : Nat) (ws : List Wk) (a : Option Addr) (c : Nat) (l : List Pl) (q : Pl) (w : World) (hw : SlIs wkC 3 w aw ws.length ws) (hwl : ws.length ≤ 4096) (hwc : ws.length ≤ cw) (hwg : ∀ x ∈ ws, x.good)
    (h : SlIs plC 4 w a l.length l) (hl : l.length ≤ 4096) (hlc : l.length ≤ c) (hg : ∀ x ∈ l, x.good) (hq : q.good) :
    Calls Try.prog 10 #[.slice aw ws.length cw, .slice a l.length c, plV q] w fun e w' => e = .returned (.tuple #[.string (choosePX ws l q).1, .int .i64 (choosePX ws l q).2]) ∧ Chg [] w w' := by
  obtain ⟨W1, hW1⟩ : ∃ W1, W1 = w.alloc (plO q) := ⟨_, rfl⟩
  have C1 := Lib.hid (show Chg [] w W1 by rw [hW1]; exact (Chg.refl _ _).alloc _)
  have X1 := Lib.hid (show W1.heap[w.heap.size]? = some (plO q) by rw [hW1]; exact heap_alloc_new _ _)
  have A1 := Lib.hid (check_any aw cw ws a c l W1 (hw.kept C1.out) hwl hwc hwg (h.kept C1.out) hl hlc hg)
  have A2 := Lib.hid (fun w' (hc : Chg [] w w') => fresh_any a c l q w' (h.kept hc) hl hq)
  have A3 := Lib.hid (fun w' (hc : Chg [] w w') hx hm => choose_any aw cw ws a c l q w' (hw.kept hc) hwl (h.kept hc) hl hx hm)
  obtain ⟨R, hR⟩ : ∃ R, R = choosePX ws l q := ⟨_, rfl⟩
  rw [← hR]
  unfold choosePX at hR
  have hz := @check_zero ws l
  generalize checkP ws l = E at *
  generalize freshE l q = F at *
  generalize chooseP ws l q = V at *
  unfold plV at A2 A3 ⊢
  unfold plO at hW1 X1
  have HW1 := Lib.hid hW1
  clear hw h hwg hg hW1 hq
  by_cases hE : E = 0
  case neg =>
    rw [if_neg hE] at hR
    subst hR
    have hE' : (E == 0) = false := by simpa using hE
    clear hz
    go_enter Try.func10, Try.ntmps10
    go_wp2_with fail
    rw [← HW1.out]
    refine A1.out.mono ?_; rintro e w1 ⟨rfl, hc1⟩
    have C2 := Lib.hid (C1.out.thenSame hc1)
    clear hc1
    go_wp2_with fail
    go_ret2
    exact ⟨rfl, C2.out⟩
  rw [if_pos hE] at hR
  obtain ⟨z1, z2, z3, z4, z5⟩ := hz hE
  subst hE
  have A3' := Lib.hid (fun w' (hc : Chg [] w w') => A3.out w' hc z3 z4)
  clear hz z1 z2 z3 z4 z5 A3
  by_cases hF : F = 0
  case neg =>
    rw [if_neg hF] at hR
    subst hR
    have hF' : (F == 0) = false := by simpa using hF
    go_enter Try.func10, Try.ntmps10
    go_wp2_with fail
    rw [← HW1.out]
    refine A1.out.mono ?_; rintro e w1 ⟨rfl, hc1⟩
    have C2 := Lib.hid (C1.out.thenSame hc1)
    have x1 := blk_cell (hc1.at (by simp) X1.out)
    have l1 := lt_of_heap (hc1.at (by simp) X1.out)
    clear hc1
    go_wp2_with fail
    refine (A2.out _ C2.out).mono ?_; rintro e w2 ⟨rfl, hc2⟩
    have C3 := Lib.hid (C2.out.thenSame hc2)
    clear hc2 x1 l1
    go_wp2_with fail
    go_ret2
    exact ⟨rfl, C3.out⟩
  rw [if_pos hF] at hR
  subst hF
  subst hR
  go_enter Try.func10, Try.ntmps10
  go_wp2_with fail
  rw [← HW1.out]
  refine A1.out.mono ?_; rintro e w1 ⟨rfl, hc1⟩
  have C2 := Lib.hid (C1.out.thenSame hc1)
  have X2 := Lib.hid (hc1.at (by simp) X1.out)
  have x1 := blk_cell X2.out
  have l1 := lt_of_heap X2.out
  clear hc1
  go_wp2_with fail
  refine (A2.out _ C2.out).mono ?_; rintro e w2 ⟨rfl, hc2⟩
  have C3 := Lib.hid (C2.out.thenSame hc2)
  have X3 := Lib.hid (hc2.at (by simp) X2.out)
  clear hc2 x1 l1
  have x1 := blk_cell X3.out
  have l1 := lt_of_heap X3.out
  go_wp2_with fail
  refine (A3'.out _ C3.out).mono ?_; rintro e w3 ⟨rfl, hc3⟩
  have C4 := Lib.hid (C3.out.thenSame hc3)
  clear hc3 x1 l1
  go_wp2_with fail
  go_ret2
  exact ⟨rfl, C4.out⟩
theorem plInfo : (Try.prog.info? 25).map (fun i => (i.zero, i.size, i.bytes)) = some (some (.agg #[.string ⟨#[]⟩, .string ⟨#[]⟩, .int .i64 0, .string ⟨#[]⟩]), 4, 56) := by kernel_rfl
theorem wkInfo : (Try.prog.info? 36).map (fun i => (i.zero, i.size, i.bytes)) = some (some (.agg #[.string ⟨#[]⟩, .int .i64 0, .bool false]), 3, 32) := by kernel_rfl
theorem plElem : Try.prog.underlying 23 = some (.slice (Try.prog.elem 23)) := by kernel_rfl
theorem wkElem : Try.prog.underlying 22 = some (.slice (Try.prog.elem 22)) := by kernel_rfl
theorem plSize (w : World) : (sizeOf (Try.prog.elem 23)).run Try.prog w = .ok 4 w := by kernel_rfl
set_option maxHeartbeats 4000000 in
set_option maxRecDepth 100000 in
theorem clonep_any (a : Option Addr) (c : Nat) (l : List Pl) (w : World) (h : InIs plC 4 w a c l) (hl : l.length ≤ 4096) :
    Calls Try.prog 32 #[.slice a l.length c] w fun e w' => ∃ v, e = .returned v ∧ RowOf plC 4 w' w.heap.size 25 v l ∧ Chg [] w w' := by
  have qn : ∀ (w : World) (a : Option Addr) (n c n' c' : Nat), (binOp .eql 23 (.slice a n c) (.slice none n' c')).run Try.prog w = .ok (.bool a.isNone) w := fun w a n c n' c' => Lib.run_eql_slice_nil w _ _ a n c n' c' Try.underlying23
  cases a with
  | none =>
    obtain ⟨e1, e2⟩ := SlIs.none h.1
    subst e2
    clear h
    go_enter Try.func32, Try.ntmps32
    go_wp2_with fail
    go_ret
    exact ⟨.slice none 0 0, rfl, RowOf.nil _ _ _, Chg.refl _ _⟩
  | some ad =>
    have H := Lib.hid h
    clear h
    go_enter Try.func32, Try.ntmps32
    go_wp2_with (at_builtin; go_loud (refine wpl_appendsI rfl _ _ 23 rfl w.heap.size 25 _ 56 Try.underlying23 plInfo rfl (by decide) plC_len plC_one (.slice (some ⟨w.heap.size, 0, none⟩) 0 0) [] rfl (RowOf.empty (g := w.heap.size) (Nat.le_refl _) (heap_alloc_new _ _) rfl) (some ad) c l rfl (H.out.kept ((Chg.refl _ _).alloc _)) (by unfold maxLen; simp; omega) (by simp; omega) (by simp) ?_; intro v1 w1 hr1 hc1; have R1 := Lib.hid hr1; have K1 := Lib.hid (Chg.then ((Chg.refl [] w).alloc (.cells #[] 25)) hc1 (by intro y hy hl; simp [Value.ownBlock] at hy; omega)); clear hr1 hc1))
    go_ret
    exact ⟨_, rfl, R1.out, K1.out⟩
set_option maxHeartbeats 4000000 in
set_option maxRecDepth 100000 in
theorem clonew_any (a : Option Addr) (c : Nat) (l : List Wk) (w : World) (h : InIs wkC 3 w a c l) (hl : l.length ≤ 4096) :
    Calls Try.prog 35 #[.slice a l.length c] w fun e w' => ∃ v, e = .returned v ∧ RowOf wkC 3 w' w.heap.size 36 v l ∧ Chg [] w w' := by
  have qn : ∀ (w : World) (a : Option Addr) (n c n' c' : Nat), (binOp .eql 22 (.slice a n c) (.slice none n' c')).run Try.prog w = .ok (.bool a.isNone) w := fun w a n c n' c' => Lib.run_eql_slice_nil w _ _ a n c n' c' Try.underlying22
  cases a with
  | none =>
    obtain ⟨e1, e2⟩ := SlIs.none h.1
    subst e2
    clear h
    go_enter Try.func35, Try.ntmps35
    go_wp2_with fail
    go_ret
    exact ⟨.slice none 0 0, rfl, RowOf.nil _ _ _, Chg.refl _ _⟩
  | some ad =>
    have H := Lib.hid h
    clear h
    go_enter Try.func35, Try.ntmps35
    go_wp2_with (at_builtin; go_loud (refine wpl_appendsI rfl _ _ 22 rfl w.heap.size 36 _ 32 Try.underlying22 wkInfo rfl (by decide) wkC_len wkC_one (.slice (some ⟨w.heap.size, 0, none⟩) 0 0) [] rfl (RowOf.empty (g := w.heap.size) (Nat.le_refl _) (heap_alloc_new _ _) rfl) (some ad) c l rfl (H.out.kept ((Chg.refl _ _).alloc _)) (by unfold maxLen; simp; omega) (by simp; omega) (by simp) ?_; intro v1 w1 hr1 hc1; have R1 := Lib.hid hr1; have K1 := Lib.hid (Chg.then ((Chg.refl [] w).alloc (.cells #[] 36)) hc1 (by intro y hy hl; simp [Value.ownBlock] at hy; omega)); clear hr1 hc1))
    go_ret
    exact ⟨_, rfl, R1.out, K1.out⟩
end Go.Proofs.Ytjbnfaapkicejaa
