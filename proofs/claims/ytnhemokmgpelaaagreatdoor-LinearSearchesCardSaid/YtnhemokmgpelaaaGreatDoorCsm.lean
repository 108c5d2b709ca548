/- Over any program with faasref06: cells compared. No condition. -/
import Derived.Test.YtnhemokmgpelaaaGreatDoorStmA
import Derived.Test.YtnhemokmgpelaaaGreatDoorSame
namespace Go.Proofs.YtnhemokmgpelaaaGreatDoor
set_option linter.unusedVariables false
set_option linter.unusedSimpArgs false
open Go.RowKit
def ceE (a b : Ce) : Bool := a.kind == b.kind && a.n == b.n && a.str == b.str && a.cn == b.cn
theorem ceE_iff {a b : Ce} : ceE a b = true ↔ a = b := by
  obtain ⟨a1, a2, a3, a4⟩ := a
  obtain ⟨b1, b2, b3, b4⟩ := b
  simp [ceE, and_assoc]
theorem structCe : Tryz.prog.underlying 74 = some (.struct (Tryz.prog.fieldsOf 74)) := by kernel_rfl
theorem heldCe : Tryz.prog.stoodInHeld 74 = false := by kernel_rfl
set_option maxRecDepth 100000 in
set_option maxHeartbeats 4000000 in
theorem eqlCe_in (d : Nat) (a b : Ce) (w : World) : (Op.equalIn (d + 2) 74 (ceV a) (ceV b)).run Tryz.prog w = .ok (ceE a b) w := by
  obtain ⟨a1, a2, a3, a4⟩ := a
  obtain ⟨b1, b2, b3, b4⟩ := b
  simp only [ceV, ceE]
  rw [show d + 2 = (d + 1) + 1 from rfl, run_equalIn_struct w (d + 1) 74 _ _ structCe heldCe]
  simp only [Program.fieldsOf, Tryz.underlying74]
  go_simp
  cases h1 : a1 == b1 <;> cases h2 : a2 == b2 <;> cases h3 : a3 == b3 <;> cases h4 : a4 == b4 <;> simp [listS] <;> simp_all
theorem neqCe (a b : Ce) (w : World) : (binOp .neq 74 (ceV a) (ceV b)).run Tryz.prog w = .ok (.bool (!ceE a b)) w := by
  unfold ceV
  rw [run_neq_struct]
  have := eqlCe_in 9998 a b w
  unfold ceV at this
  rw [this]
  rfl
set_option maxHeartbeats 4000000 in
set_option maxRecDepth 100000 in
theorem csame_any (a : Option Addr) (c : Nat) (l : List Ce) (a2 : Option Addr) (c2 : Nat) (m : List Ce) (w : World) (h : SlIs ceC 4 w a l.length l) (hm : SlIs ceC 4 w a2 m.length m) (hl : l.length ≤ 3518437208780) (hml : m.length ≤ 3518437208780) :
    Calls Tryz.prog 36 #[.slice a l.length c, .slice a2 m.length c2] w fun e w' => e = .returned (.bool (sameB ceE l m)) ∧ Chg [] w w' := by
  have H := Lib.hid h
  have HM := Lib.hid hm
  obtain ⟨R, hR⟩ : ∃ R, R = sameB ceE l m := ⟨_, rfl⟩
  rw [← hR]
  have HR := Lib.hid hR
  clear h hm hR
  by_cases hlen : l.length = m.length
  case neg =>
    have HE : Hid (R = false) := Lib.hid (by rw [HR.out]; unfold sameB; rw [decide_eq_false hlen]; rfl)
    have hlen' : ((l.length : Int) == (m.length : Int)) = false := beq_eq_false_iff_ne.2 (by omega)
    go_enter Tryz.func36, Tryz.ntmps36
    go_wp2_with fail
    go_ret
    exact ⟨by rw [HE.out]; rfl, Chg.refl _ _⟩
  have hlen' : ((l.length : Int) == (m.length : Int)) = true := beq_iff_eq.2 (by omega)
  have HLen := Lib.hid hlen
  clear hlen
  go_enter Tryz.func36, Tryz.ntmps36
  go_wp2_with fail
  go_loopw [5] (fun i wr => ∃ k : Nat, i = .int .i64 k ∧ k ≤ l.length ∧ Hid (sameTo ceE l m k = true) ∧ Hid (Chg [] w wr)) (fun i _ => l.length - (intOf i).toNat)
  case atStart => exact ⟨0, rfl, Nat.zero_le _, Lib.hid rfl, Lib.hid (Chg.refl _ _)⟩
  case round =>
    obtain ⟨k, rfl, hkl, HS, D⟩ := hrel
    by_cases hk : k < l.length
    · have hk2 : k < m.length := by have := HLen.out; omega
      obtain ⟨g1, o1, rfl, -, hbr1, hcc1⟩ := H.out.elem D.out k hk
      obtain ⟨g2, o2, rfl, -, hbr2, hcc2⟩ := HM.out.elem D.out k hk2
      have hst := sameTo_step (e := ceE) hk hk2
      rw [HS.out, Bool.true_and] at hst
      have hno := same_no (e := ceE) hk hk2
      generalize l[k] = x at *
      generalize m[k] = y at *
      have d0 := hcc1 0 (by omega)
      have d1 := hcc1 1 (by omega)
      have d2 := hcc1 2 (by omega)
      have d3 := hcc1 3 (by omega)
      have e0 := hcc2 0 (by omega)
      have e1 := hcc2 1 (by omega)
      have e2 := hcc2 2 (by omega)
      have e3 := hcc2 3 (by omega)
      simp only [ceC, List.getElem?_cons_zero, List.getElem?_cons_succ, Nat.add_zero] at d0 d1 d2 d3 e0 e1 e2 e3
      have hk0 : (0 : Int) ≤ (k : Int) := by omega
      have hk1 : (k : Int) < (l.length : Int) := by omega
      have hk2' : (k : Int) < (m.length : Int) := by omega
      have qn := fun w => neqCe x y w
      have HR0 := Lib.hid HR.out
      unfold ceV at qn
      clear hcc1 hcc2
      cases hq : ceE x y
      · rw [hq] at qn
        have HE : Hid (R = false) := Lib.hid (by rw [HR0.out]; exact hno hq)
        clear hst hno
        go_wp2_with fail
        go_quiet (fail)
        go_wp2_with fail
        go_ret
        exact ⟨by rw [HE.out]; rfl, D.out.drewN _⟩
      · rw [hq] at qn hst
        have HST := Lib.hid hst
        clear hst hno
        go_wp2_with fail
        go_quiet (fail)
        go_wp2_with fail
        exact ⟨⟨k + 1, by go_num, by omega, HST, Lib.hid (D.out.drewN _)⟩, by simp [intOf]; omega⟩
    · have hks : k = l.length := by omega
      subst hks
      have HE : Hid (R = true) := Lib.hid (by rw [HR.out]; unfold sameB; rw [decide_eq_true HLen.out, HS.out]; rfl)
      go_wp2_with fail
      go_ret
      exact ⟨by rw [HE.out]; rfl, D.out⟩
end Go.Proofs.YtnhemokmgpelaaaGreatDoor
