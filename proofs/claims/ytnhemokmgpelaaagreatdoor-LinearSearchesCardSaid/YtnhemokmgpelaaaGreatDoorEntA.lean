/- Chapters 48, 50: contracts: the copy of cells, slices.Equal, Same, Null, Bool. No condition. -/
import Derived.Lib.SliceRun
import Derived.Test.YtnhemokmgpelaaaGreatDoorCsm
import Derived.Test.YtnhemokmgpelaaaGreatDoorInl
namespace Go.Proofs.YtnhemokmgpelaaaGreatDoor
set_option linter.unusedVariables false
set_option linter.unusedSimpArgs false
open Go.RowKit
theorem cellInfo : (Tryz.prog.info? 74).map (fun i => (i.zero, i.size, i.bytes)) = some (some (.agg #[.int .i64 0, .int .i64 0, .string ⟨#[]⟩, .int .i64 0]), 4, 40) := by kernel_rfl
set_option maxHeartbeats 4000000 in
set_option maxRecDepth 100000 in
theorem clonec_any (a : Option Addr) (c : Nat) (l : List Ce) (w : World) (h : InIs ceC 4 w a c l) (hl : l.length ≤ 3518437208780) :
    Calls Tryz.prog 46 #[.slice a l.length c] w fun e w' => ∃ a' c', e = .returned (.slice a' l.length c') ∧ RowOf ceC 4 w' w.heap.size 74 (.slice a' l.length c') l ∧ Chg [] w w' := by
  have qn : ∀ (w : World) (a : Option Addr) (n c n' c' : Nat), (binOp .eql 22 (.slice a n c) (.slice none n' c')).run Tryz.prog w = .ok (.bool a.isNone) w := fun w a n c n' c' => Lib.run_eql_slice_nil w _ _ a n c n' c' Tryz.underlying22
  cases a with
  | none =>
    obtain ⟨e1, e2⟩ := SlIs.none h.1
    subst e2
    clear h
    go_enter Tryz.func46, Tryz.ntmps46
    go_wp2_with fail
    go_ret
    exact ⟨none, 0, rfl, RowOf.nil _ _ _, Chg.refl _ _⟩
  | some ad =>
    have H := Lib.hid h
    clear h
    go_enter Tryz.func46, Tryz.ntmps46
    go_wp2_with (at_builtin; go_loud (refine wpl_appendsI rfl _ _ 22 rfl w.heap.size 74 _ 40 Tryz.underlying22 cellInfo rfl (by decide) ceC_len ceC_one (.slice (some ⟨w.heap.size, 0, none⟩) 0 0) [] rfl (RowOf.empty (g := w.heap.size) (Nat.le_refl _) (heap_alloc_new _ _) rfl) (some ad) c l rfl (H.out.kept ((Chg.refl _ _).alloc _)) (by unfold maxLen; simp; omega) (by simp; omega) (by simp) ?_; intro v1 w1 hr1 hc1; have R1 := Lib.hid hr1; have K1 := Lib.hid (Chg.then ((Chg.refl [] w).alloc (.cells #[] 74)) hc1 (by intro y hy hl; simp [Value.ownBlock] at hy; omega)); clear hr1 hc1))
    obtain ⟨a', c', rfl⟩ := RowOf.shape R1.out
    go_ret
    exact ⟨a', c', rfl, R1.out, K1.out⟩
/-- The same, as a slice that can be read. -/
theorem clonec_in (a : Option Addr) (c : Nat) (l : List Ce) (w : World) (h : InIs ceC 4 w a c l) (hl : l.length ≤ 3518437208780) :
    Calls Tryz.prog 46 #[.slice a l.length c] w fun e w' => ∃ a' c', e = .returned (.slice a' l.length c') ∧ InIs ceC 4 w' a' c' l ∧ (∀ x, a' = some x → w.heap.size ≤ x.block) ∧ Chg [] w w' :=
  (clonec_any a c l w h hl).mono fun e w' ⟨a', c', h1, h2, h3⟩ => ⟨a', c', h1, (InIs.ofRow h2 ceC_len).2, fun x hx => (RowOf.block h2 x.block (by subst hx; rfl)).1, h3⟩
set_option maxHeartbeats 4000000 in
set_option maxRecDepth 100000 in
theorem equalc_any (a : Option Addr) (c : Nat) (l : List Ce) (a2 : Option Addr) (c2 : Nat) (m : List Ce) (w : World) (h : SlIs ceC 4 w a l.length l) (hm : SlIs ceC 4 w a2 m.length m) (hl : l.length ≤ 1048576) :
    Calls Tryz.prog 71 #[.slice a l.length c, .slice a2 m.length c2] w fun e w' => e = .returned (.bool (sameB ceE l m)) ∧ Chg [] w w' := by
  have H := Lib.hid h
  have HM := Lib.hid hm
  obtain ⟨R, hR⟩ : ∃ R, R = sameB ceE l m := ⟨_, rfl⟩
  rw [← hR]
  have HR := Lib.hid hR
  clear h hm hR
  by_cases hlen : l.length = m.length
  case neg =>
    have HE : Hid (R = false) := Lib.hid (by rw [HR.out]; unfold sameB; rw [decide_eq_false hlen]; rfl)
    have hlen' : ((l.length : Int) != (m.length : Int)) = true := by rw [bne, beq_eq_false_iff_ne.2 (show (l.length : Int) ≠ (m.length : Int) by omega)]; rfl
    have hlen2 : ((l.length : Int) == (m.length : Int)) = false := beq_eq_false_iff_ne.2 (by omega)
    go_enter Tryz.func71, Tryz.ntmps71
    go_wp2_with fail
    go_ret
    exact ⟨by rw [HE.out]; rfl, Chg.refl _ _⟩
  have hlen' : ((l.length : Int) == (m.length : Int)) = true := beq_iff_eq.2 (by omega)
  have HLen := Lib.hid hlen
  clear hlen
  go_enter Tryz.func71, Tryz.ntmps71
  go_wp2_with fail
  go_loopw [13] (fun i wr => ∃ k : Nat, i = .int .i64 k ∧ k ≤ l.length ∧ Hid (sameTo ceE l m k = true) ∧ Hid (Chg [] w wr)) (fun i _ => l.length - (intOf i).toNat)
  case atStart => exact ⟨0, rfl, Nat.zero_le _, Lib.hid rfl, Lib.hid (Chg.refl _ _)⟩
  case round =>
    obtain ⟨k, rfl, hkl, HS, D⟩ := hrel
    by_cases hk : k < l.length
    · have hk2 : k < m.length := by have := HLen.out; omega
      obtain ⟨g1, o1, rfl, -, hbr1, hcc1⟩ := H.out.elem D.out k hk
      obtain ⟨g2, o2, rfl, -, hbr2, hcc2⟩ := HM.out.elem D.out k hk2
      have hst := sameTo_step (e := ceE) hk hk2
      rw [HS.out, Bool.true_and] at hst
      have hno := same_no (e := ceE) hk hk2
      generalize l[k] = x at *
      generalize m[k] = y at *
      have d0 := hcc1 0 (by omega)
      have d1 := hcc1 1 (by omega)
      have d2 := hcc1 2 (by omega)
      have d3 := hcc1 3 (by omega)
      have e0 := hcc2 0 (by omega)
      have e1 := hcc2 1 (by omega)
      have e2 := hcc2 2 (by omega)
      have e3 := hcc2 3 (by omega)
      simp only [ceC, List.getElem?_cons_zero, List.getElem?_cons_succ, Nat.add_zero] at d0 d1 d2 d3 e0 e1 e2 e3
      have hk0 : (0 : Int) ≤ (k : Int) := by omega
      have hk1 : (k : Int) < (l.length : Int) := by omega
      have hk2' : (k : Int) < (m.length : Int) := by omega
      have qn := fun w => neqCe x y w
      have HR0 := Lib.hid HR.out
      unfold ceV at qn
      clear hcc1 hcc2
      cases hq : ceE x y
      · rw [hq] at qn
        have HE : Hid (R = false) := Lib.hid (by rw [HR0.out]; exact hno hq)
        clear hst hno
        go_wp2_with fail
        go_quiet (fail)
        go_wp2_with fail
        go_ret
        exact ⟨by rw [HE.out]; rfl, D.out.drewN _⟩
      · rw [hq] at qn hst
        have HST := Lib.hid hst
        clear hst hno
        go_wp2_with fail
        go_quiet (fail)
        go_wp2_with fail
        exact ⟨⟨k + 1, by go_num, by omega, HST, Lib.hid (D.out.drewN _)⟩, by simp [intOf]; omega⟩
    · have hks : k = l.length := by omega
      subst hks
      have HE : Hid (R = true) := Lib.hid (by rw [HR.out]; unfold sameB; rw [decide_eq_true HLen.out, HS.out]; rfl)
      go_wp2_with fail
      go_ret
      exact ⟨by rw [HE.out]; rfl, D.out⟩
theorem vsame_any (a : Option Addr) (c : Nat) (l : List Ce) (a2 : Option Addr) (c2 : Nat) (m : List Ce) (w : World) (h : SlIs ceC 4 w a l.length l) (hm : SlIs ceC 4 w a2 m.length m) (hl : l.length ≤ 1048576) :
    Calls Tryz.prog 49 #[.slice a l.length c, .slice a2 m.length c2] w fun e w' => e = .returned (.bool (sameB ceE l m)) ∧ Chg [] w w' := by
  have A := Lib.hid (equalc_any a c l a2 c2 m w h hm hl)
  clear h hm hl
  generalize sameB ceE l m = q at *
  go_enter Tryz.func49, Tryz.ntmps49
  go_wp2_with fail
  refine A.out.mono ?_; rintro e w1 ⟨rfl, hc⟩
  have C := Lib.hid hc
  clear hc
  go_wp2_with fail
  go_ret
  exact ⟨rfl, C.out⟩
theorem one_in {w : World} {b : Nat} {x : Ce} (hb : w.heap[b]? = some (.cells #[.int .i64 x.kind, .int .i64 x.n, .string x.str, .int .i64 x.cn] 74 (0, 0))) : InIs ceC 4 w (some ⟨b, 0, none⟩) 1 [x] :=
  ⟨SlIs.ofBlock (cf := ceC) [x] hb ceC_len rfl, Nat.le_refl _, by unfold maxLen; omega, fun h => by cases h⟩
def nullC : Ce := ⟨1, 0, ⟨#[]⟩, 0⟩
def boolC (b : Bool) : Ce := ⟨2, if b then 1 else 0, ⟨#[]⟩, 0⟩
def intC (n : Int) : Ce := ⟨3, n, ⟨#[]⟩, 0⟩
theorem vnull_any (w : World) : Calls Tryz.prog 60 #[] w fun e w' => ∃ a c, e = .returned (.slice a 1 c) ∧ InIs ceC 4 w' a c [nullC] ∧ (∀ x, a = some x → w.heap.size ≤ x.block) ∧ Chg [] w w' := by
  go_enter Tryz.func60, Tryz.ntmps60
  go_wp2_with fail
  go_ret
  exact ⟨_, _, rfl, one_in (x := nullC) (heap_alloc_new _ _), fun x hx => by cases hx; exact Nat.le_refl _, (Chg.refl _ _).alloc _⟩
theorem vbool_any (b : Bool) (w : World) : Calls Tryz.prog 70 #[.bool b] w fun e w' => ∃ a c, e = .returned (.slice a 1 c) ∧ InIs ceC 4 w' a c [boolC b] ∧ (∀ x, a = some x → w.heap.size ≤ x.block) ∧ Chg [] w w' := by
  cases b
  · go_enter Tryz.func70, Tryz.ntmps70
    go_wp2_with fail
    go_ret
    refine ⟨_, _, rfl, one_in (x := boolC false) ?_, fun x hx => by cases hx; simp, ((Chg.refl _ _).alloc _).alloc _⟩
    have := heap_alloc_new (w.alloc (.cells #[.int .i64 2, .int .i64 0, .string ⟨#[]⟩, .int .i64 0] 74)) (.cells #[.int .i64 2, .int .i64 0, .string ⟨#[]⟩, .int .i64 0] 74)
    rw [World.size_alloc] at this
    exact this
  · go_enter Tryz.func70, Tryz.ntmps70
    go_wp2_with fail
    go_ret
    refine ⟨_, _, rfl, one_in (x := boolC true) ?_, fun x hx => by cases hx; simp, ((Chg.refl _ _).alloc _).alloc _⟩
    have := heap_alloc_new (w.alloc (.cells #[.int .i64 2, .int .i64 1, .string ⟨#[]⟩, .int .i64 0] 74)) (.cells #[.int .i64 2, .int .i64 1, .string ⟨#[]⟩, .int .i64 0] 74)
    rw [World.size_alloc] at this
    exact this
end Go.Proofs.YtnhemokmgpelaaaGreatDoor
