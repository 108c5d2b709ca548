/- Chapter 30: contracts: the comparisons of cells, events, records. No condition. -/
import Derived.Test.YtmichbpfmachcaaDoorStmP
import Derived.Test.YtmichbpfmachcaaDoorStmS
import Derived.Test.YtmichbpfmachcaaDoorSame
namespace Go.Proofs.YtmichbpfmachcaaDoor
set_option linter.unusedVariables false
set_option linter.unusedSimpArgs false
open Go.RowKit
def ceE (a b : Ce) : Bool := a.kind == b.kind && a.n == b.n && a.str == b.str && a.cn == b.cn
theorem ceE_iff {a b : Ce} : ceE a b = true ↔ a = b := by
  obtain ⟨a1, a2, a3, a4⟩ := a
  obtain ⟨b1, b2, b3, b4⟩ := b
  simp [ceE, and_assoc]
theorem structCe : Tryd.prog.underlying 66 = some (.struct (Tryd.prog.fieldsOf 66)) := by kernel_rfl
theorem heldCe : Tryd.prog.stoodInHeld 66 = false := by kernel_rfl
set_option maxRecDepth 100000 in
set_option maxHeartbeats 4000000 in
theorem eqlCe_in (d : Nat) (a b : Ce) (w : World) : (Op.equalIn (d + 2) 66 (ceV a) (ceV b)).run Tryd.prog w = .ok (ceE a b) w := by
  obtain ⟨a1, a2, a3, a4⟩ := a
  obtain ⟨b1, b2, b3, b4⟩ := b
  simp only [ceV, ceE]
  rw [show d + 2 = (d + 1) + 1 from rfl, run_equalIn_struct w (d + 1) 66 _ _ structCe heldCe]
  simp only [Program.fieldsOf, Tryd.underlying66]
  go_simp
  cases h1 : a1 == b1 <;> cases h2 : a2 == b2 <;> cases h3 : a3 == b3 <;> cases h4 : a4 == b4 <;> simp [listS] <;> simp_all
theorem neqCe (a b : Ce) (w : World) : (binOp .neq 66 (ceV a) (ceV b)).run Tryd.prog w = .ok (.bool (!ceE a b)) w := by
  unfold ceV
  rw [run_neq_struct]
  have := eqlCe_in 9998 a b w
  unfold ceV at this
  rw [this]
  rfl
set_option maxHeartbeats 4000000 in
set_option maxRecDepth 100000 in
theorem csame_any (a : Option Addr) (c : Nat) (l : List Ce) (a2 : Option Addr) (c2 : Nat) (m : List Ce) (w : World) (h : SlIs ceC 4 w a l.length l) (hm : SlIs ceC 4 w a2 m.length m) (hl : l.length ≤ 1048576) (hml : m.length ≤ 1048576) :
    Calls Tryd.prog 39 #[.slice a l.length c, .slice a2 m.length c2] w fun e w' => e = .returned (.bool (sameB ceE l m)) ∧ Chg [] w w' := by
  have H := Lib.hid h
  have HM := Lib.hid hm
  obtain ⟨R, hR⟩ : ∃ R, R = sameB ceE l m := ⟨_, rfl⟩
  rw [← hR]
  have HR := Lib.hid hR
  clear h hm hR
  by_cases hlen : l.length = m.length
  case neg =>
    have HE : Hid (R = false) := Lib.hid (by rw [HR.out]; unfold sameB; rw [decide_eq_false hlen]; rfl)
    have hlen' : ((l.length : Int) == (m.length : Int)) = false := beq_eq_false_iff_ne.2 (by omega)
    go_enter Tryd.func39, Tryd.ntmps39
    go_wp2_with fail
    go_ret
    exact ⟨by rw [HE.out]; rfl, Chg.refl _ _⟩
  have hlen' : ((l.length : Int) == (m.length : Int)) = true := beq_iff_eq.2 (by omega)
  have HLen := Lib.hid hlen
  clear hlen
  go_enter Tryd.func39, Tryd.ntmps39
  go_wp2_with fail
  go_loopw [5] (fun i wr => ∃ k : Nat, i = .int .i64 k ∧ k ≤ l.length ∧ Hid (sameTo ceE l m k = true) ∧ Hid (Chg [] w wr)) (fun i _ => l.length - (intOf i).toNat)
  case atStart => exact ⟨0, rfl, Nat.zero_le _, Lib.hid rfl, Lib.hid (Chg.refl _ _)⟩
  case round =>
    obtain ⟨k, rfl, hkl, HS, D⟩ := hrel
    by_cases hk : k < l.length
    · have hk2 : k < m.length := by have := HLen.out; omega
      obtain ⟨g1, o1, rfl, -, hbr1, hcc1⟩ := H.out.elem D.out k hk
      obtain ⟨g2, o2, rfl, -, hbr2, hcc2⟩ := HM.out.elem D.out k hk2
      have hst := sameTo_step (e := ceE) hk hk2
      rw [HS.out, Bool.true_and] at hst
      have hno := same_no (e := ceE) hk hk2
      generalize l[k] = x at *
      generalize m[k] = y at *
      have d0 := hcc1 0 (by omega)
      have d1 := hcc1 1 (by omega)
      have d2 := hcc1 2 (by omega)
      have d3 := hcc1 3 (by omega)
      have e0 := hcc2 0 (by omega)
      have e1 := hcc2 1 (by omega)
      have e2 := hcc2 2 (by omega)
      have e3 := hcc2 3 (by omega)
      simp only [ceC, List.getElem?_cons_zero, List.getElem?_cons_succ, Nat.add_zero] at d0 d1 d2 d3 e0 e1 e2 e3
      have hk0 : (0 : Int) ≤ (k : Int) := by omega
      have hk1 : (k : Int) < (l.length : Int) := by omega
      have hk2' : (k : Int) < (m.length : Int) := by omega
      have qn := fun w => neqCe x y w
      have HR0 := Lib.hid HR.out
      unfold ceV at qn
      clear hcc1 hcc2
      cases hq : ceE x y
      · rw [hq] at qn
        have HE : Hid (R = false) := Lib.hid (by rw [HR0.out]; exact hno hq)
        clear hst hno
        go_wp2_with fail
        go_quiet (fail)
        go_wp2_with fail
        go_ret
        exact ⟨by rw [HE.out]; rfl, D.out.drewN _⟩
      · rw [hq] at qn hst
        have HST := Lib.hid hst
        clear hst hno
        go_wp2_with fail
        go_quiet (fail)
        go_wp2_with fail
        exact ⟨⟨k + 1, by go_num, by omega, HST, Lib.hid (D.out.drewN _)⟩, by simp [intOf]; omega⟩
    · have hks : k = l.length := by omega
      subst hks
      have HE : Hid (R = true) := Lib.hid (by rw [HR.out]; unfold sameB; rw [decide_eq_true HLen.out, HS.out]; rfl)
      go_wp2_with fail
      go_ret
      exact ⟨by rw [HE.out]; rfl, D.out⟩
def evE (a b : PEv) : Bool := a.id == b.id && a.tn == b.tn && a.src == b.src && a.key == b.key && a.at_ == b.at_ && a.cause == b.cause && sameB ceE a.body b.body
set_option maxHeartbeats 4000000 in
set_option maxRecDepth 100000 in
theorem esame_any (a b : Ev) (w : World) (ha : InIs ceC 4 w a.ba a.bc a.p.body) (hb : InIs ceC 4 w b.ba b.bc b.p.body) (hl : a.p.body.length ≤ 1048576) (hl2 : b.p.body.length ≤ 1048576) :
    Calls Tryd.prog 23 #[.agg (evC a).toArray, .agg (evC b).toArray] w fun x w' => x = .returned (.bool (evE a.p b.p)) ∧ Chg [] w w' := by
  obtain ⟨⟨a1, a2, a3, a4, a5, a6, a7⟩, aa, ac⟩ := a
  obtain ⟨⟨b1, b2, b3, b4, b5, b6, b7⟩, ba, bc⟩ := b
  simp only [evC] at *
  obtain ⟨R, hR⟩ : ∃ R, R = evE ⟨a1, a2, a3, a4, a5, a6, a7⟩ ⟨b1, b2, b3, b4, b5, b6, b7⟩ := ⟨_, rfl⟩
  rw [← hR]
  simp only [evE] at hR
  obtain ⟨W1, hW1⟩ : ∃ W1, W1 = (w.alloc (.cells #[.string a1, .string a2, .string a3, .string a4, .int .i64 a5, .string a6, .slice aa a7.length ac] 25)).alloc (.cells #[.string b1, .string b2, .string b3, .string b4, .int .i64 b5, .string b6, .slice ba b7.length bc] 25) := ⟨_, rfl⟩
  have C := Lib.hid (show Chg [] w W1 by rw [hW1]; exact ((Chg.refl _ _).alloc _).alloc _)
  have X1 := Lib.hid (show W1.heap[w.heap.size]? = some (.cells #[.string a1, .string a2, .string a3, .string a4, .int .i64 a5, .string a6, .slice aa a7.length ac] 25 (0, 0)) by rw [hW1]; exact blk_alloc (heap_alloc_new _ _))
  have X2 := Lib.hid (show W1.heap[w.heap.size + 1]? = some (.cells #[.string b1, .string b2, .string b3, .string b4, .int .i64 b5, .string b6, .slice ba b7.length bc] 25 (0, 0)) by rw [hW1]; have := heap_alloc_new (w.alloc (.cells #[.string a1, .string a2, .string a3, .string a4, .int .i64 a5, .string a6, .slice aa a7.length ac] 25)) (.cells #[.string b1, .string b2, .string b3, .string b4, .int .i64 b5, .string b6, .slice ba b7.length bc] 25); rw [World.size_alloc] at this; exact this)
  have x1 := blk_cell X1.out
  have x2 := blk_cell X2.out
  have A := Lib.hid (csame_any aa ac a7 ba bc b7 W1 (ha.kept C.out).1 (hb.kept C.out).1 hl hl2)
  have HW1 := Lib.hid hW1
  clear hW1 ha hb hl hl2
  generalize sameB ceE a7 b7 = q7 at *
  have s1 := (beq_toListBytes a1 b1).symm
  have s2 := (beq_toListBytes a2 b2).symm
  have s3 := (beq_toListBytes a3 b3).symm
  have s4 := (beq_toListBytes a4 b4).symm
  have s6 := (beq_toListBytes a6 b6).symm
  generalize hq1 : (a1 == b1) = q1 at *
  generalize hq2 : (a2 == b2) = q2 at *
  generalize hq3 : (a3 == b3) = q3 at *
  generalize hq4 : (a4 == b4) = q4 at *
  generalize hq5 : (a5 == b5) = q5 at *
  generalize hq6 : (a6 == b6) = q6 at *
  cases q1
  · have HF := Lib.hid hR
    clear hR
    go_enter Tryd.func23, Tryd.ntmps23
    go_wp2_with fail
    rw [← HW1.out]
    go_wp2_with (go_at_call 39; refine A.out.mono ?_; rintro e w2 ⟨rfl, hc⟩; have C := Lib.hid (C.out.thenSame hc); clear hc)
    go_ret
    exact ⟨retB HF.out.symm, C.out⟩
  cases q2
  · have HF := Lib.hid hR
    clear hR
    go_enter Tryd.func23, Tryd.ntmps23
    go_wp2_with fail
    rw [← HW1.out]
    go_wp2_with (go_at_call 39; refine A.out.mono ?_; rintro e w2 ⟨rfl, hc⟩; have C := Lib.hid (C.out.thenSame hc); clear hc)
    go_ret
    exact ⟨retB HF.out.symm, C.out⟩
  cases q3
  · have HF := Lib.hid hR
    clear hR
    go_enter Tryd.func23, Tryd.ntmps23
    go_wp2_with fail
    rw [← HW1.out]
    go_wp2_with (go_at_call 39; refine A.out.mono ?_; rintro e w2 ⟨rfl, hc⟩; have C := Lib.hid (C.out.thenSame hc); clear hc)
    go_ret
    exact ⟨retB HF.out.symm, C.out⟩
  cases q4
  · have HF := Lib.hid hR
    clear hR
    go_enter Tryd.func23, Tryd.ntmps23
    go_wp2_with fail
    rw [← HW1.out]
    go_wp2_with (go_at_call 39; refine A.out.mono ?_; rintro e w2 ⟨rfl, hc⟩; have C := Lib.hid (C.out.thenSame hc); clear hc)
    go_ret
    exact ⟨retB HF.out.symm, C.out⟩
  cases q5
  · have HF := Lib.hid hR
    clear hR
    go_enter Tryd.func23, Tryd.ntmps23
    go_wp2_with fail
    rw [← HW1.out]
    go_wp2_with (go_at_call 39; refine A.out.mono ?_; rintro e w2 ⟨rfl, hc⟩; have C := Lib.hid (C.out.thenSame hc); clear hc)
    go_ret
    exact ⟨retB HF.out.symm, C.out⟩
  cases q6
  · have HF := Lib.hid hR
    clear hR
    go_enter Tryd.func23, Tryd.ntmps23
    go_wp2_with fail
    rw [← HW1.out]
    go_wp2_with (go_at_call 39; refine A.out.mono ?_; rintro e w2 ⟨rfl, hc⟩; have C := Lib.hid (C.out.thenSame hc); clear hc)
    go_ret
    exact ⟨retB HF.out.symm, C.out⟩
  have HF := Lib.hid hR
  clear hR
  go_enter Tryd.func23, Tryd.ntmps23
  go_wp2_with fail
  rw [← HW1.out]
  go_wp2_with (go_at_call 39; refine A.out.mono ?_; rintro e w2 ⟨rfl, hc⟩; have C := Lib.hid (C.out.thenSame hc); clear hc)
  go_ret
  exact ⟨retB HF.out.symm, C.out⟩
end Go.Proofs.YtmichbpfmachcaaDoor
