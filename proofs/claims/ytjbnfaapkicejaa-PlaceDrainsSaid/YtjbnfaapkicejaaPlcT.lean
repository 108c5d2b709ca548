/- Chapter 43: contracts of the reference: placement, workers. No condition. -/
import Derived.Test.YtjbnfaapkicejaaPlcE
import Derived.Test.YtjbnfaapkicejaaPlcS
namespace Go.Proofs.Ytjbnfaapkicejaa
set_option linter.unusedVariables false
set_option linter.unusedSimpArgs false
open Go.RowKit
set_option maxHeartbeats 8000000 in
set_option maxRecDepth 100000 in
theorem rplacement_any (a : Option Addr) (c : Nat) (l : List Pl) (q : Pl) (w : World) (h : SlIs plC 4 w a l.length l) (hl : l.length ≤ 4096) (hg : q.good) : Calls Try.prog 30 #[.slice a l.length c, plV q] w fun e w' => e = .returned (.int .i64 (freshE l q)) ∧ Chg [] w w' := by
  have hbx := Lib.hid (heap_alloc_new w (plO q))
  have hC0 := Lib.hid (show Chg [] w (w.alloc (plO q)) from (Chg.refl _ _).alloc _)
  have k1 := blk_cell hbx.out
  have A1 := Lib.hid (fun w' => RID_any q.id w' hg.1)
  have A2 := Lib.hid (rfind_any a c l q.id _ (h.kept hC0.out) hl)
  have A3 := Lib.hid (fun w' => rname_any q.tn w' hg.2.1)
  have A4 := Lib.hid (fun w' => rmemory_any q.mem w')
  obtain ⟨R, hR⟩ : ∃ R, R = freshE l q := ⟨_, rfl⟩
  rw [← hR]
  unfold freshE plcB at hR
  unfold plV
  unfold plO at A2 k1 hC0 hbx
  generalize pIdx l q.id = ix at *
  clear h
  have hcs : (idB q.id = false ∧ R = 4) ∨ (idB q.id = true ∧ 0 ≤ ix ∧ R = 6) ∨ (idB q.id = true ∧ ix < 0 ∧ nameB q.tn = false ∧ R = 4) ∨ (idB q.id = true ∧ ix < 0 ∧ nameB q.tn = true ∧ memB q.mem = false ∧ R = 2) ∨ (idB q.id = true ∧ ix < 0 ∧ nameB q.tn = true ∧ memB q.mem = true ∧ R = 0) := by
    by_cases hix : 0 ≤ ix
    · cases h1 : idB q.id <;> rw [h1] at hR <;> simp [hix] at hR <;> simp [hR, hix]
    · have h2 : ix < 0 := by omega
      cases h1 : idB q.id <;> cases h3 : nameB q.tn <;> cases h4 : memB q.mem <;> rw [h1, h3, h4] at hR <;> simp [hix] at hR <;> simp [hR, h2]
  clear hR hg
  rcases hcs with ⟨h1, rfl⟩ | ⟨h1, h2, rfl⟩ | ⟨h1, h2, h3, rfl⟩ | ⟨h1, h2, h3, h4, rfl⟩ | ⟨h1, h2, h3, h4, rfl⟩
  all_goals
    go_enter Try.func30, Try.ntmps30
    go_wp2_with (first
      | (go_at_call 58; (with_reducible refine (A1.out _).mono ?_); rw [h1]; rintro e w2 ⟨rfl, rfl⟩)
      | (go_at_call 45; (with_reducible refine A2.out.mono ?_); rintro e w3 ⟨rfl, rfl⟩)
      | (go_at_call 59; (with_reducible refine (A3.out _).mono ?_); rw [h3]; rintro e w4 ⟨rfl, rfl⟩)
      | (go_at_call 60; (with_reducible refine (A4.out _).mono ?_); rw [h4]; rintro e w5 ⟨rfl, rfl⟩))
    go_ret
    exact ⟨rfl, hC0.out⟩
def workersE (ws : List Wk) : Int := if 8 < ws.length then 3 else firstE (wE ws) ws.length
set_option maxHeartbeats 16000000 in
set_option maxRecDepth 100000 in
theorem rworkers_any (aw : Option Addr) (cw : Nat) (ws : List Wk) (w : World) (hw : SlIs wkC 3 w aw ws.length ws) (hwl : ws.length ≤ 4096) (hwc : ws.length ≤ cw) (hwg : ∀ x ∈ ws, x.good) :
    Calls Try.prog 46 #[.slice aw ws.length cw] w fun e w' => e = .returned (.int .i64 (workersE ws)) ∧ Chg [] w w' := by
  have HW := Lib.hid hw
  have HWG := Lib.hid hwg
  obtain ⟨R, hR⟩ : ∃ R, R = workersE ws := ⟨_, rfl⟩
  rw [← hR]
  have HR := Lib.hid hR
  clear hw hwg hR
  by_cases h8 : 8 < ws.length
  · have HE : Hid (R = 3) := Lib.hid (by rw [HR.out]; unfold workersE; rw [if_pos h8])
    have h8' : (8 : Int) < (ws.length : Int) := by omega
    go_enter Try.func46, Try.ntmps46
    go_wp2_with fail
    go_ret
    exact ⟨by rw [HE.out]; rfl, Chg.refl _ _⟩
  have h8' : (ws.length : Int) ≤ 8 := by omega
  go_enter Try.func46, Try.ntmps46
  go_wp2_with fail
  go_loopw [9] (fun i wr => ∃ k : Nat, i = .int .i64 k ∧ k ≤ ws.length ∧ Hid (firstE (wE ws) k = 0) ∧ Hid (Chg [] w wr)) (fun i _ => ws.length - (intOf i).toNat)
  case atStart => exact ⟨0, rfl, Nat.zero_le _, Lib.hid rfl, Lib.hid (Chg.refl _ _)⟩
  case round =>
    obtain ⟨k, rfl, hkl, HF, D⟩ := hrel
    by_cases hk : k < ws.length
    · obtain ⟨g1, o1, rfl, hgl, hbr1, hcc⟩ := HW.out.elem D.out k hk
      have d0 := hcc 0 (by omega)
      have d1 := hcc 1 (by omega)
      have d2 := hcc 2 (by omega)
      have hgx := HWG.out ws[k] (List.getElem_mem hk)
      have hwe : wE ws k = if nameB ws[k].name = true then (if 0 ≤ wIdx (ws.take k) ws[k].name then 6 else if memB ws[k].mem = true then 0 else 2) else 4 := by
        unfold wE; rw [List.getElem?_eq_getElem hk]
      generalize ws[k] = x at *
      simp only [wkC, List.getElem?_cons_zero, List.getElem?_cons_succ, Nat.add_zero] at d0 d1 d2
      have hk0 : (0 : Int) ≤ (k : Int) := by omega
      have hk1 : (k : Int) < (ws.length : Int) := by omega
      have hkc : (k : Int) ≤ (cw : Int) := by omega
      have hkn : k ≤ cw := by omega
      have hstop : wE ws k ≠ 0 → R = wE ws k := fun hne => by
        have := first_hit HF.out hne hk
        rw [HR.out]; unfold workersE; rw [if_neg h8, this]
      have HNext := Lib.hid (fun h0 => first_step HF.out (show wE ws k = 0 from h0))
      generalize wE ws k = E at *
      have A1 := Lib.hid (fun w' => rname_any x.name w' hgx.1)
      have A3 := Lib.hid (fun w' => rmemory_any x.mem w')
      have HST := Lib.hid hstop
      clear hcc hgx hstop
      cases h1 : nameB x.name
      case false =>
        rw [h1] at hwe A1
        have HE : Hid (R = 4) := Lib.hid (by have : E = 4 := by simpa using hwe
                                             rw [HST.out (by omega), this])
        clear hwe
        go_wp2_with fail
        refine (A1.out _).mono ?_; rintro e w4 ⟨rfl, rfl⟩
        go_wp2_with fail
        go_ret
        exact ⟨by rw [HE.out]; rfl, D.out⟩
      rw [h1] at hwe A1
      rw [if_pos rfl] at hwe
      have B8 : ∀ d os, Calls Try.prog 36 #[.slice (some ⟨g1, o1, none⟩) k cw, .string x.name] (Go.Sort.grow (redrawn wr d) os) fun e w'' => e = .returned (.int .i64 (wIdx (ws.take k) x.name)) ∧ ∃ p : Regrown, w'' = Go.Sort.grow (redrawn wr p.d) p.os := fun d os => calls_regrown (by
        have := rworker_any (some ⟨g1, o1, none⟩) cw (ws.take k) x.name (Go.Sort.grow (redrawn wr d) os) ((HW.out.take k hkl).kept (D.out.thenSame (chg_regrown wr d os))) (by rw [List.length_take]; omega)
        rw [show (ws.take k).length = k by rw [List.length_take]; omega] at this
        exact this.mono (fun e w' ⟨h1, h2⟩ => ⟨h1, h2 ▸ Chg.refl _ _⟩))
      have HB8 := Lib.hid B8
      have q0 := fun d os => ((below_regrown wr d os).cell (p := ⟨g1, o1 + k * 3, none⟩) hbr1).trans d0
      generalize wIdx (ws.take k) x.name = ix at *
      clear B8
      go_wp2_with fail
      refine (A1.out _).mono ?_; rintro e w4 ⟨rfl, rfl⟩
      go_wp2_with fail
      refine wp_region_quiet_below (by kernel_rfl) (by kernel_rfl) ?_
      repeat (any_goals (first | go_big_quiet_step (exact HB8.out _ _) | quiet_step (exact HB8.out _ _)))
      refine wpQuiet_nil ?_
      intro _ hw'
      obtain ⟨⟨dq, osq⟩, hw''⟩ := hw'
      subst hw''
      have C5 := Lib.hid (D.out.thenSame (chg_regrown wr dq osq))
      have p1 := (((below_regrown wr dq osq).cell (p := ⟨g1, o1 + k * 3 + 1, none⟩) hbr1).trans d1)
      have lr := Nat.lt_of_lt_of_le hbr1 (below_regrown wr dq osq).size
      clear q0 HB8 d0 d1 d2
      change Exit.then _ _ Exit.normal _ (Go.Sort.grow (redrawn wr dq) osq)
      generalize Go.Sort.grow (redrawn wr dq) osq = w5 at *
      by_cases h2 : 0 ≤ ix
      · have HE : Hid (R = 6) := Lib.hid (by
          rw [if_pos h2] at hwe
          rw [HST.out (by omega), hwe])
        clear hwe
        go_wp2_with fail
        go_ret
        exact ⟨by rw [HE.out]; rfl, C5.out⟩
      rw [if_neg h2] at hwe
      cases h3 : memB x.mem
      · rw [h3] at A3 hwe
        have HE : Hid (R = 2) := Lib.hid (by
          have : E = 2 := by simpa using hwe
          rw [HST.out (by omega), this])
        clear hwe
        go_wp2_with fail
        refine (A3.out _).mono ?_; rintro e w6 ⟨rfl, rfl⟩
        go_wp2_with fail
        go_ret
        exact ⟨by rw [HE.out]; rfl, C5.out⟩
      · rw [h3] at A3 hwe
        have HE := Lib.hid (HNext.out (by simpa using hwe))
        clear hwe
        go_wp2_with fail
        refine (A3.out _).mono ?_; rintro e w6 ⟨rfl, rfl⟩
        go_wp2_with fail
        exact ⟨⟨k + 1, by go_num, by omega, HE, C5⟩, by simp [intOf]; omega⟩
    · have hks : k = ws.length := by omega
      subst hks
      have HE : Hid (R = 0) := Lib.hid (by rw [HR.out]; unfold workersE; rw [if_neg h8, HF.out])
      go_wp2_with fail
      go_ret
      exact ⟨by rw [HE.out]; rfl, D.out⟩
end Go.Proofs.Ytjbnfaapkicejaa
