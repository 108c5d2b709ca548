/- Chapter 30: contract: the comparison of records. No condition. -/
import Derived.Test.YtmichbpfmachcaaDoorStmU
namespace Go.Proofs.YtmichbpfmachcaaDoor
set_option linter.unusedVariables false
set_option linter.unusedSimpArgs false
open Go.RowKit
def recE (a b : PRec) : Bool := a.sh == b.sh && a.sq == b.sq && a.at_ == b.at_ && evE a.e b.e
def rcE (a b : Rc) : Bool := recE a.p b.p
set_option maxHeartbeats 4000000 in
set_option maxRecDepth 100000 in
theorem rsame_any (a : Option Addr) (c : Nat) (l : List Rc) (a2 : Option Addr) (c2 : Nat) (m : List Rc) (w : World) (h : RecsIn w a l) (hm : RecsIn w a2 m) (hl : ∀ r ∈ l, r.e.p.body.length ≤ 1048576) (hml : ∀ r ∈ m, r.e.p.body.length ≤ 1048576) (hll : l.length ≤ 1048576) (hlm : m.length ≤ 1048576) :
    Calls Tryd.prog 13 #[.slice a l.length c, .slice a2 m.length c2] w fun e w' => e = .returned (.bool (sameB rcE l m)) ∧ Chg [] w w' := by
  have H := Lib.hid h
  have HM := Lib.hid hm
  have HL := Lib.hid hl
  have HML := Lib.hid hml
  obtain ⟨R, hR⟩ : ∃ R, R = sameB rcE l m := ⟨_, rfl⟩
  rw [← hR]
  have HR := Lib.hid hR
  clear h hm hR hl hml
  by_cases hlen : l.length = m.length
  case neg =>
    have HE : Hid (R = false) := Lib.hid (by rw [HR.out]; unfold sameB; rw [decide_eq_false hlen]; rfl)
    have hlen' : ((l.length : Int) == (m.length : Int)) = false := beq_eq_false_iff_ne.2 (by omega)
    go_enter Tryd.func13, Tryd.ntmps13
    go_wp2_with fail
    go_ret
    exact ⟨by rw [HE.out]; rfl, Chg.refl _ _⟩
  have hlen' : ((l.length : Int) == (m.length : Int)) = true := beq_iff_eq.2 (by omega)
  have HLen := Lib.hid hlen
  clear hlen
  go_enter Tryd.func13, Tryd.ntmps13
  go_wp2_with fail
  go_loopw [13] (fun i wr => ∃ k : Nat, i = .int .i64 k ∧ k ≤ l.length ∧ Hid (sameTo rcE l m k = true) ∧ Hid (Chg [] w wr)) (fun i _ => l.length - (intOf i).toNat)
  case atStart => exact ⟨0, rfl, Nat.zero_le _, Lib.hid rfl, Lib.hid (Chg.refl _ _)⟩
  case round =>
    obtain ⟨k, rfl, hkl, HS, D⟩ := hrel
    by_cases hk : k < l.length
    · have hk2 : k < m.length := by have := HLen.out; omega
      obtain ⟨g1, o1, rfl, -, hbr1, hcc1⟩ := H.out.1.elem D.out k hk
      obtain ⟨g2, o2, rfl, -, hbr2, hcc2⟩ := HM.out.1.elem D.out k hk2
      have hst := sameTo_step (e := rcE) hk hk2
      rw [HS.out, Bool.true_and] at hst
      have hno := same_no (e := rcE) hk hk2
      have i1 := (H.out.2 _ (List.getElem_mem hk)).kept D.out
      have i2 := (HM.out.2 _ (List.getElem_mem hk2)).kept D.out
      have b1 := HL.out _ (List.getElem_mem hk)
      have b2 := HML.out _ (List.getElem_mem hk2)
      generalize l[k] = x at *
      generalize m[k] = y at *
      have HB := Lib.hid (fun d os => calls_regrown (esame_any x.e y.e (Go.Sort.grow (redrawn wr d) os) (i1.kept (chg_regrown wr d os)) (i2.kept (chg_regrown wr d os)) b1 b2))
      simp only [evC] at HB
      have hk0 : (0 : Int) ≤ (k : Int) := by omega
      have hk1 : (k : Int) < (l.length : Int) := by omega
      have hk2' : (k : Int) < (m.length : Int) := by omega
      have f1 := fun j (hj : j < 10) d os => ((below_regrown wr d os).cell (p := ⟨g1, o1 + k * 10 + j, none⟩) hbr1).trans (hcc1 j hj)
      have f2 := fun j (hj : j < 10) d os => ((below_regrown wr d os).cell (p := ⟨g2, o2 + k * 10 + j, none⟩) hbr2).trans (hcc2 j hj)
      have d0 := f1 0 (by omega)
      have d1 := f1 1 (by omega)
      have d2 := f1 2 (by omega)
      have d3 := f1 3 (by omega)
      have d4 := f1 4 (by omega)
      have d5 := f1 5 (by omega)
      have d6 := f1 6 (by omega)
      have d7 := f1 7 (by omega)
      have d8 := f1 8 (by omega)
      have d9 := f1 9 (by omega)
      have e0 := f2 0 (by omega)
      have e1 := f2 1 (by omega)
      have e2 := f2 2 (by omega)
      have e3 := f2 3 (by omega)
      have e4 := f2 4 (by omega)
      have e5 := f2 5 (by omega)
      have e6 := f2 6 (by omega)
      have e7 := f2 7 (by omega)
      have e8 := f2 8 (by omega)
      have e9 := f2 9 (by omega)
      simp only [rcC, evC, List.getElem?_cons_zero, List.getElem?_cons_succ, Nat.add_zero] at d0 d1 d2 d3 d4 d5 d6 d7 d8 d9 e0 e1 e2 e3 e4 e5 e6 e7 e8 e9
      have HR0 := Lib.hid HR.out
      clear hcc1 hcc2 f1 f2 i1 i2 b1 b2
      generalize hev : evE x.e.p y.e.p = qe at *
      cases q1 : x.sh == y.sh
      · have pq1 : (x.sh != y.sh) = true := by rw [bne, q1]; rfl
        have HE : Hid (R = false) := Lib.hid (by rw [HR0.out]; exact hno (by unfold rcE recE Rc.p; simp_all))
        clear hst hno
        go_wp2_with fail
        refine wp_region_quiet_below (by kernel_rfl) (by kernel_rfl) ?_
        repeat (any_goals (first | go_big_quiet_step (exact HB.out _ _) | quiet_step (exact HB.out _ _)))
        refine wpQuiet_nil ?_
        intro _ hw'
        obtain ⟨⟨dq, osq⟩, hw''⟩ := hw'
        subst hw''
        change Exit.then _ _ Exit.normal _ (Go.Sort.grow (redrawn wr dq) osq)
        go_wp2_with fail
        go_ret
        exact ⟨by rw [HE.out]; rfl, D.out.thenSame (chg_regrown wr dq osq)⟩
      have pq1 : (x.sh != y.sh) = false := by rw [bne, q1]; rfl
      cases q2 : x.sq == y.sq
      · have pq2 : (x.sq != y.sq) = true := by rw [bne, q2]; rfl
        have HE : Hid (R = false) := Lib.hid (by rw [HR0.out]; exact hno (by unfold rcE recE Rc.p; simp_all))
        clear hst hno
        go_wp2_with fail
        refine wp_region_quiet_below (by kernel_rfl) (by kernel_rfl) ?_
        repeat (any_goals (first | go_big_quiet_step (exact HB.out _ _) | quiet_step (exact HB.out _ _)))
        refine wpQuiet_nil ?_
        intro _ hw'
        obtain ⟨⟨dq, osq⟩, hw''⟩ := hw'
        subst hw''
        change Exit.then _ _ Exit.normal _ (Go.Sort.grow (redrawn wr dq) osq)
        go_wp2_with fail
        go_ret
        exact ⟨by rw [HE.out]; rfl, D.out.thenSame (chg_regrown wr dq osq)⟩
      have pq2 : (x.sq != y.sq) = false := by rw [bne, q2]; rfl
      cases q3 : x.at_ == y.at_
      · have pq3 : (x.at_ != y.at_) = true := by rw [bne, q3]; rfl
        have HE : Hid (R = false) := Lib.hid (by rw [HR0.out]; exact hno (by unfold rcE recE Rc.p; simp_all))
        clear hst hno
        go_wp2_with fail
        refine wp_region_quiet_below (by kernel_rfl) (by kernel_rfl) ?_
        repeat (any_goals (first | go_big_quiet_step (exact HB.out _ _) | quiet_step (exact HB.out _ _)))
        refine wpQuiet_nil ?_
        intro _ hw'
        obtain ⟨⟨dq, osq⟩, hw''⟩ := hw'
        subst hw''
        change Exit.then _ _ Exit.normal _ (Go.Sort.grow (redrawn wr dq) osq)
        go_wp2_with fail
        go_ret
        exact ⟨by rw [HE.out]; rfl, D.out.thenSame (chg_regrown wr dq osq)⟩
      have pq3 : (x.at_ != y.at_) = false := by rw [bne, q3]; rfl
      cases qe
      · have HE : Hid (R = false) := Lib.hid (by rw [HR0.out]; exact hno (by unfold rcE recE Rc.p; simp_all))
        clear hst hno
        go_wp2_with fail
        refine wp_region_quiet_below (by kernel_rfl) (by kernel_rfl) ?_
        repeat (any_goals (first | go_big_quiet_step (exact HB.out _ _) | quiet_step (exact HB.out _ _)))
        refine wpQuiet_nil ?_
        intro _ hw'
        obtain ⟨⟨dq, osq⟩, hw''⟩ := hw'
        subst hw''
        change Exit.then _ _ Exit.normal _ (Go.Sort.grow (redrawn wr dq) osq)
        go_wp2_with fail
        go_ret
        exact ⟨by rw [HE.out]; rfl, D.out.thenSame (chg_regrown wr dq osq)⟩
      · have HST := Lib.hid (show sameTo rcE l m (k + 1) = true by rw [hst]; unfold rcE recE Rc.p; simp_all)
        clear hst hno
        go_wp2_with fail
        refine wp_region_quiet_below (by kernel_rfl) (by kernel_rfl) ?_
        repeat (any_goals (first | go_big_quiet_step (exact HB.out _ _) | quiet_step (exact HB.out _ _)))
        refine wpQuiet_nil ?_
        intro _ hw'
        obtain ⟨⟨dq, osq⟩, hw''⟩ := hw'
        subst hw''
        change Exit.then _ _ Exit.normal _ (Go.Sort.grow (redrawn wr dq) osq)
        go_wp2_with fail
        exact ⟨⟨k + 1, by go_num, by omega, HST, Lib.hid (D.out.thenSame (chg_regrown wr dq osq))⟩, by simp [intOf]; omega⟩
    · have hks : k = l.length := by omega
      subst hks
      have HE : Hid (R = true) := Lib.hid (by rw [HR.out]; unfold sameB; rw [decide_eq_true HLen.out, HS.out]; rfl)
      go_wp2_with fail
      go_ret
      exact ⟨by rw [HE.out]; rfl, D.out⟩
end Go.Proofs.YtmichbpfmachcaaDoor
