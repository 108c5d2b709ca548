/- Chapter 43: contracts of the reference: Check, Free. No condition. -/
import Derived.Test.YtjbnfaapkicejaaPlcF
import Derived.Test.YtjbnfaapkicejaaPlcT
namespace Go.Proofs.Ytjbnfaapkicejaa
set_option linter.unusedVariables false
set_option linter.unusedSimpArgs false
open Go.RowKit
set_option maxHeartbeats 16000000 in
set_option maxRecDepth 100000 in
theorem rcheck_any (aw : Option Addr) (cw : Nat) (ws : List Wk) (a : Option Addr) (c : Nat) (l : List Pl) (w : World) (hw : SlIs wkC 3 w aw ws.length ws) (hwl : ws.length ≤ 4096) (hwc : ws.length ≤ cw) (hwg : ∀ x ∈ ws, x.good)
    (h : SlIs plC 4 w a l.length l) (hl : l.length ≤ 4096) (hlc : l.length ≤ c) (hg : ∀ x ∈ l, x.good) :
    Calls Try.prog 24 #[.slice aw ws.length cw, .slice a l.length c] w fun e w' => e = .returned (.int .i64 (checkP ws l)) ∧ Chg [] w w' := by
  have HW := Lib.hid hw
  have H := Lib.hid h
  have HG := Lib.hid hg
  have A1 := Lib.hid (rworkers_any aw cw ws w hw hwl hwc hwg)
  obtain ⟨R, hR⟩ : ∃ R, R = checkP ws l := ⟨_, rfl⟩
  rw [← hR]
  have hR2 : R = if workersE ws = 0 then (if 256 < l.length then 3 else if firstE (pE ws l) l.length = 0 then (if ws.any (fun x => decide (freeS x l < 0)) = true then 16 else 0) else firstE (pE ws l) l.length) else workersE ws := by
    rw [hR]; unfold checkP workersE
    by_cases h8 : 8 < ws.length
    · rw [if_pos h8, if_pos h8, if_neg (by decide)]
    · rw [if_neg h8, if_neg h8]
  have hwm : workersE ws = 0 → ∀ x ∈ ws, memB x.mem = true := fun h => by
    unfold workersE at h
    split at h
    · simp at h
    · exact wE_mem h
  clear hw h hwg hg hR
  generalize workersE ws = WE at *
  by_cases hWE : WE = 0
  case neg =>
    rw [if_neg hWE] at hR2
    have hWE' : (WE == 0) = false := by simpa using hWE
    have HE := Lib.hid hR2
    clear hwm hR2
    go_enter Try.func24, Try.ntmps24
    go_wp2_with fail
    refine A1.out.mono ?_; rintro e w1 ⟨rfl, hc1⟩
    have C1 := Lib.hid hc1
    clear hc1
    go_wp2_with fail
    go_ret
    exact ⟨by rw [HE.out]; rfl, C1.out⟩
  rw [if_pos hWE] at hR2
  have HWM := Lib.hid (hwm hWE)
  subst hWE
  clear hwm
  by_cases h256 : 256 < l.length
  · rw [if_pos h256] at hR2
    have HE := Lib.hid hR2
    have h256' : (256 : Int) < (l.length : Int) := by omega
    clear hR2
    go_enter Try.func24, Try.ntmps24
    go_wp2_with fail
    refine A1.out.mono ?_; rintro e w1 ⟨rfl, hc1⟩
    have C1 := Lib.hid hc1
    clear hc1
    go_wp2_with fail
    go_ret
    exact ⟨by rw [HE.out]; rfl, C1.out⟩
  rw [if_neg h256] at hR2
  have HR := Lib.hid hR2
  have h256' : (l.length : Int) ≤ 256 := by omega
  clear hR2
  go_enter Try.func24, Try.ntmps24
  go_wp2_with fail
  refine A1.out.mono ?_; rintro e w1 ⟨rfl, hc1⟩
  have C1 := Lib.hid hc1
  clear hc1
  go_wp2_with fail
  go_loopw [18] (fun i wr => ∃ j : Nat, i = .int .i64 j ∧ j ≤ l.length ∧ Hid (firstE (pE ws l) j = 0) ∧ Hid (Chg [] w wr)) (fun i _ => l.length - (intOf i).toNat)
  case atStart => exact ⟨0, rfl, Nat.zero_le _, Lib.hid rfl, C1⟩
  case round =>
    obtain ⟨j, rfl, hjl, HP, D⟩ := hrel
    by_cases hj : j < l.length
    · obtain ⟨g2, o2, rfl, hgl2, hbr2, hcc⟩ := H.out.elem D.out j hj
      have hgx := HG.out l[j] (List.getElem_mem hj)
      have hpe : pE ws l j = if freshE (l.take j) l[j] = 0 then (if wIdx ws l[j].wk < 0 then 5 else 0) else freshE (l.take j) l[j] := by
        unfold pE; rw [List.getElem?_eq_getElem hj]
      have d0 := hcc 0 (by omega)
      have d1 := hcc 1 (by omega)
      have d2 := hcc 2 (by omega)
      have d3 := hcc 3 (by omega)
      generalize l[j] = q at *
      simp only [plC, List.getElem?_cons_zero, List.getElem?_cons_succ, Nat.add_zero] at d0 d1 d2 d3
      have hj0 : (0 : Int) ≤ (j : Int) := by omega
      have hj1 : (j : Int) < (l.length : Int) := by omega
      have hjn : j ≤ c := by omega
      have hstop : pE ws l j ≠ 0 → R = pE ws l j := fun hne => by
        have := first_hit HP.out hne hj
        rw [HR.out, this, if_neg hne]
      have HNext := Lib.hid (fun h0 => first_step HP.out (show pE ws l j = 0 from h0))
      generalize pE ws l j = PE at *
      have HST := Lib.hid hstop
      have B8 : ∀ d os, Calls Try.prog 30 #[.slice (some ⟨g2, o2, none⟩) j c, plV q] (Go.Sort.grow (redrawn wr d) os) fun e w'' => e = .returned (.int .i64 (freshE (l.take j) q)) ∧ ∃ p : Regrown, w'' = Go.Sort.grow (redrawn wr p.d) p.os := fun d os => calls_regrown (by
        have := rplacement_any (some ⟨g2, o2, none⟩) c (l.take j) q (Go.Sort.grow (redrawn wr d) os) ((H.out.take j hjl).kept (D.out.thenSame (chg_regrown _ d os))) (by rw [List.length_take]; omega) hgx
        rw [show (l.take j).length = j by rw [List.length_take]; omega] at this
        exact this)
      have q0 := fun d os => ((below_regrown wr d os).cell (p := ⟨g2, o2 + j * 4, none⟩) hbr2).trans d0
      have q1 := fun d os => ((below_regrown wr d os).cell (p := ⟨g2, o2 + j * 4 + 1, none⟩) hbr2).trans d1
      have q2 := fun d os => ((below_regrown wr d os).cell (p := ⟨g2, o2 + j * 4 + 2, none⟩) hbr2).trans d2
      have q3 := fun d os => ((below_regrown wr d os).cell (p := ⟨g2, o2 + j * 4 + 3, none⟩) hbr2).trans d3
      generalize freshE (l.take j) q = fe at *
      unfold plV at B8
      have HB8 := Lib.hid B8
      clear B8 hcc hstop hgx
      go_wp2_with fail
      refine wp_region_quiet_below (by kernel_rfl) (by kernel_rfl) ?_
      repeat (any_goals (first | go_big_quiet_step (exact HB8.out _ _) | quiet_step (exact HB8.out _ _)))
      refine wpQuiet_nil ?_
      intro _ hw'
      obtain ⟨⟨dq, osq⟩, hw''⟩ := hw'
      subst hw''
      have hcz := chg_regrown wr dq osq
      have E5 := Lib.hid (D.out.thenSame hcz)
      have p3 := q3 dq osq
      have lr := Nat.lt_of_lt_of_le hbr2 (below_regrown wr dq osq).size
      clear q0 q1 q2 q3 HB8 hcz d0 d1 d2 d3
      change Exit.then _ _ Exit.normal _ (Go.Sort.grow (redrawn wr dq) osq)
      generalize Go.Sort.grow (redrawn wr dq) osq = w5 at *
      have A5 := Lib.hid (rworker_any aw cw ws q.wk w5 (HW.out.kept E5.out) hwl)
      by_cases hfe : fe = 0
      case neg =>
        rw [if_neg hfe] at hpe
        have HE : Hid (R = fe) := Lib.hid (by rw [HST.out (by rw [hpe]; exact hfe), hpe])
        have hfe' : (fe == 0) = false := by simpa using hfe
        clear hpe
        go_wp2_with fail
        go_ret
        exact ⟨by rw [HE.out]; rfl, E5.out⟩
      rw [if_pos hfe] at hpe
      subst hfe
      generalize wIdx ws q.wk = ix at *
      by_cases h5 : ix < 0
      · rw [if_pos h5] at hpe
        have HE : Hid (R = 5) := Lib.hid (by rw [HST.out (by rw [hpe]; decide), hpe])
        clear hpe
        go_wp2_with fail
        refine A5.out.mono ?_; rintro e w6 ⟨rfl, rfl⟩
        go_wp2_with fail
        go_ret
        exact ⟨by rw [HE.out]; rfl, E5.out⟩
      · rw [if_neg h5] at hpe
        have HE := Lib.hid (HNext.out hpe)
        have h5' : 0 ≤ ix := by omega
        clear hpe
        go_wp2_with fail
        refine A5.out.mono ?_; rintro e w6 ⟨rfl, rfl⟩
        go_wp2_with fail
        exact ⟨⟨j + 1, by go_num, by omega, HE, E5⟩, by simp [intOf]; omega⟩
    · have hjs : j = l.length := by omega
      subst hjs
      have HPM := Lib.hid (pE_mem HP.out)
      have HR3 := Lib.hid (show R = if ws.any (fun x => decide (freeS x l < 0)) = true then 16 else 0 by rw [HR.out, if_pos HP.out])
      go_wp2_with fail
      go_loopw [43] (fun i wr => ∃ j : Nat, i = .int .i64 j ∧ j ≤ ws.length ∧ Hid ((ws.take j).any (fun x => decide (freeS x l < 0)) = false) ∧ Hid (Chg [] w wr)) (fun i _ => ws.length - (intOf i).toNat)
      case atStart => exact ⟨0, rfl, Nat.zero_le _, Lib.hid (by simp), D⟩
      case round =>
        obtain ⟨j, rfl, hjl, HN, E⟩ := hrel
        by_cases hj : j < ws.length
        · obtain ⟨g1, o1, rfl, hgl, hbr1, hcc⟩ := HW.out.elem E.out j hj
          have d0 := hcc 0 (by omega)
          have d1 := hcc 1 (by omega)
          have hst := any_step (fun x => decide (freeS x l < 0)) ws j hj
          rw [HN.out, Bool.false_or] at hst
          have hmem := HWM.out ws[j] (List.getElem_mem hj)
          have hhit : decide (freeS ws[j] l < 0) = true → ws.any (fun x => decide (freeS x l < 0)) = true := fun hf => List.any_eq_true.2 ⟨ws[j], List.getElem_mem hj, hf⟩
          generalize ws[j] = x at *
          simp only [wkC, List.getElem?_cons_zero, List.getElem?_cons_succ, Nat.add_zero] at d0 d1
          rw [free_used] at hst hhit
          have hj0 : (0 : Int) ≤ (j : Int) := by omega
          have hj1 : (j : Int) < (ws.length : Int) := by omega
          have B8 : ∀ d os, Calls Try.prog 41 #[.slice a l.length c, .string x.name] (Go.Sort.grow (redrawn wr d) os) fun e w'' => e = .returned (.int .i64 (usedS l x.name)) ∧ ∃ p : Regrown, w'' = Go.Sort.grow (redrawn wr p.d) p.os := fun d os => calls_regrown ((used_any a c l x.name (Go.Sort.grow (redrawn wr d) os) (H.out.kept (E.out.thenSame (chg_regrown _ d os))) hl HPM.out).mono (fun e w' ⟨h1, h2⟩ => ⟨h1, h2 ▸ Chg.refl _ _⟩))
          have q0 := fun d os => ((below_regrown wr d os).cell (p := ⟨g1, o1 + j * 3, none⟩) hbr1).trans d0
          have q1 := fun d os => ((below_regrown wr d os).cell (p := ⟨g1, o1 + j * 3 + 1, none⟩) hbr1).trans d1
          generalize usedS l x.name = us at *
          have HB8 := Lib.hid B8
          have HST := Lib.hid hst
          have HH := Lib.hid hhit
          clear B8 hcc hst hhit
          by_cases hu : us > x.mem
          · have hE : Hid (R = 16) := Lib.hid (by rw [HR3.out, HH.out (by simp; omega), if_pos rfl])
            go_wp2_with fail
            refine wp_region_quiet_below (by kernel_rfl) (by kernel_rfl) ?_
            repeat (any_goals (first | go_big_quiet_step (exact HB8.out _ _) | quiet_step (exact HB8.out _ _)))
            refine wpQuiet_nil ?_
            intro _ hw'
            obtain ⟨⟨dq, osq⟩, hw''⟩ := hw'
            subst hw''
            go_wp2_with fail
            go_ret
            exact ⟨by rw [hE.out]; rfl, E.out.thenSame (chg_regrown wr dq osq)⟩
          · have hu' : us ≤ x.mem := by omega
            have HN2 := Lib.hid (HST.out.trans (decide_eq_false (by omega)))
            go_wp2_with fail
            refine wp_region_quiet_below (by kernel_rfl) (by kernel_rfl) ?_
            repeat (any_goals (first | go_big_quiet_step (exact HB8.out _ _) | quiet_step (exact HB8.out _ _)))
            refine wpQuiet_nil ?_
            intro _ hw'
            obtain ⟨⟨dq, osq⟩, hw''⟩ := hw'
            subst hw''
            go_wp2_with fail
            exact ⟨⟨j + 1, by go_num, by omega, HN2, Lib.hid (E.out.thenSame (chg_regrown wr dq osq))⟩, by simp [intOf]; omega⟩
        · have hjs : j = ws.length := by omega
          subst hjs
          have hE : Hid (R = 0) := Lib.hid (by
            have := HN.out
            rw [List.take_length] at this
            rw [HR3.out, this]; rfl)
          go_wp2_with fail
          go_ret
          exact ⟨by rw [hE.out]; rfl, E.out⟩
end Go.Proofs.Ytjbnfaapkicejaa
