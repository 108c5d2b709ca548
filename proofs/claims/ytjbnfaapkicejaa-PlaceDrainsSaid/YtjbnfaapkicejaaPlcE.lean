/- Chapter 43: Check. No condition. -/
import Derived.Test.YtjbnfaapkicejaaPlcD
namespace Go.Proofs.Ytjbnfaapkicejaa
set_option linter.unusedVariables false
set_option linter.unusedSimpArgs false
open Go.RowKit
theorem SlIs.take {α : Type} {cf : α → List Value} {sz : Nat} {w : World} {a : Option Addr} {n : Nat} {l : List α} (h : SlIs cf sz w a n l) (k : Nat) (hk : k ≤ l.length) : SlIs cf sz w a (l.take k).length (l.take k) := by
  refine ⟨rfl, fun j hj => ?_⟩
  have hj' : j < k := by rw [List.length_take] at hj; omega
  obtain ⟨b, o, h1, h2, h3⟩ := h.2 j (by omega)
  refine ⟨b, o, h1, h2, fun i hi => ?_⟩
  rw [h3 i hi, List.getElem_take]
theorem wE_mem {ws : List Wk} (h : firstE (wE ws) ws.length = 0) : ∀ x ∈ ws, memB x.mem = true := by
  intro x hx
  obtain ⟨i, hi, rfl⟩ := List.mem_iff_getElem.1 hx
  have := first_zero h i hi
  unfold wE at this
  rw [List.getElem?_eq_getElem hi] at this
  simp only at this
  split at this
  · split at this
    · simp at this
    · split at this
      · assumption
      · simp at this
  · simp at this
theorem pE_mem {ws : List Wk} {l : List Pl} (h : firstE (pE ws l) l.length = 0) : ∀ q ∈ l, memB q.mem = true := by
  intro x hx
  obtain ⟨i, hi, rfl⟩ := List.mem_iff_getElem.1 hx
  have := first_zero h i hi
  unfold pE at this
  rw [List.getElem?_eq_getElem hi] at this
  simp only at this
  have hf : freshE (l.take i) l[i] = 0 := by
    split at this
    · assumption
    · exact this
  unfold freshE at hf
  split at hf
  · split at hf
    · simp at hf
    · split at hf
      · split at hf
        · assumption
        · simp at hf
      · simp at hf
  · simp at hf
theorem idx_any {α : Type} (f : α → Bool) (l : List α) : decide (0 ≤ idxOf f l) = l.any f := by
  unfold idxOf
  cases h : l.findIdx? f with
  | none =>
    rw [List.findIdx?_eq_none_iff] at h
    have : l.any f = false := List.any_eq_false.2 (fun x hx => by simpa using h x hx)
    rw [this]; rfl
  | some i =>
    rw [List.findIdx?_eq_some_iff_getElem] at h
    obtain ⟨hi, hf, _⟩ := h
    have : l.any f = true := List.any_eq_true.2 ⟨l[i], List.getElem_mem hi, hf⟩
    rw [this]; simp
set_option maxHeartbeats 16000000 in
set_option maxRecDepth 100000 in
theorem check_any (aw : Option Addr) (cw : Nat) (ws : List Wk) (a : Option Addr) (c : Nat) (l : List Pl) (w : World) (hw : SlIs wkC 3 w aw ws.length ws) (hwl : ws.length ≤ 4096) (hwc : ws.length ≤ cw) (hwg : ∀ x ∈ ws, x.good)
    (h : SlIs plC 4 w a l.length l) (hl : l.length ≤ 4096) (hlc : l.length ≤ c) (hg : ∀ x ∈ l, x.good) :
    Calls Try.prog 20 #[.slice aw ws.length cw, .slice a l.length c] w fun e w' => e = .returned (.int .i64 (checkP ws l)) ∧ Chg [] w w' := by
  have HW := Lib.hid hw
  have H := Lib.hid h
  have HWG := Lib.hid hwg
  have HG := Lib.hid hg
  obtain ⟨W1, hW1⟩ : ∃ W1, W1 = w.alloc (.cells #[.slice a l.length c] 23) := ⟨_, rfl⟩
  have C1 := Lib.hid (show Chg [] w W1 by rw [hW1]; exact (Chg.refl _ _).alloc _)
  have X1 := Lib.hid (show W1.heap[w.heap.size]? = some (.cells #[.slice a l.length c] 23) by rw [hW1]; exact heap_alloc_new _ _)
  have HW1 := Lib.hid hW1
  obtain ⟨R, hR⟩ : ∃ R, R = checkP ws l := ⟨_, rfl⟩
  rw [← hR]
  have HR := Lib.hid hR
  clear hw h hwg hg hW1 hR
  by_cases h8 : 8 < ws.length
  · have HE : Hid (R = 3) := Lib.hid (by rw [HR.out]; unfold checkP; rw [if_pos h8])
    have h8' : (8 : Int) < (ws.length : Int) := by omega
    go_enter Try.func20, Try.ntmps20
    go_wp2_with fail
    go_ret
    exact ⟨by rw [HE.out]; rfl, by rw [← HW1.out]; exact C1.out⟩
  have h8' : (ws.length : Int) ≤ 8 := by omega
  go_enter Try.func20, Try.ntmps20
  go_wp2_with fail
  rw [← HW1.out]
  go_wp2_with fail
  go_loopw [15] (fun i wr => ∃ k : Nat, i = .int .i64 k ∧ k ≤ ws.length ∧ Hid (firstE (wE ws) k = 0) ∧ Hid (Chg [] W1 wr)) (fun i _ => ws.length - (intOf i).toNat)
  case atStart => exact ⟨0, rfl, Nat.zero_le _, Lib.hid rfl, Lib.hid (Chg.refl _ _)⟩
  case round =>
    obtain ⟨k, rfl, hkl, HF, D⟩ := hrel
    by_cases hk : k < ws.length
    · obtain ⟨g1, o1, rfl, -, hbr1, hcc⟩ := HW.out.elem (C1.out.thenSame D.out) k hk
      have d0 := hcc 0 (by omega)
      have d1 := hcc 1 (by omega)
      have d2 := hcc 2 (by omega)
      have hgx := HWG.out ws[k] (List.getElem_mem hk)
      have hwe : wE ws k = if nameB ws[k].name = true then (if 0 ≤ wIdx (ws.take k) ws[k].name then 6 else if memB ws[k].mem = true then 0 else 2) else 4 := by
        unfold wE; rw [List.getElem?_eq_getElem hk]
      generalize ws[k] = x at *
      simp only [wkC, List.getElem?_cons_zero, List.getElem?_cons_succ, Nat.add_zero] at d0 d1 d2
      have hk0 : (0 : Int) ≤ (k : Int) := by omega
      have hk1 : (k : Int) < (ws.length : Int) := by omega
      have hkc : (k : Int) ≤ (cw : Int) := by omega
      have hstop : wE ws k ≠ 0 → R = wE ws k := fun hne => by
        have := first_hit HF.out hne hk
        rw [HR.out]; unfold checkP; rw [if_neg h8, this, if_neg hne]
      have HNext := Lib.hid (fun h0 => first_step HF.out (show wE ws k = 0 from h0))
      generalize wE ws k = E at *
      have A1 := Lib.hid (fun w' => name_any x.name w' hgx.1)
      have A3 := Lib.hid (fun w' => memory_any x.mem w')
      have C3 := Lib.hid (D.out.alloc (wkO x))
      have X3 := Lib.hid (heap_alloc_new wr (wkO x))
      unfold wkO at C3 X3
      have HST := Lib.hid hstop
      clear hcc hgx hstop
      cases h1 : nameB x.name
      case false =>
        rw [h1] at hwe A1
        have HE : Hid (R = 4) := Lib.hid (by have : E = 4 := by simpa using hwe
                                             rw [HST.out (by omega), this])
        clear hwe
        go_wp2_with fail
        refine (A1.out _).mono ?_; rintro e w4 ⟨rfl, hc4⟩
        have C4 := Lib.hid ((C1.out.thenSame C3.out).thenSame hc4)
        clear hc4
        go_wp2_with fail
        go_ret
        exact ⟨by rw [HE.out]; rfl, C4.out⟩
      rw [h1] at hwe A1
      rw [if_pos rfl] at hwe
      go_wp2_with fail
      refine (A1.out _).mono ?_; rintro e w4 ⟨rfl, hc4⟩
      have C4 := Lib.hid (C3.out.thenSame hc4)
      have X4 := Lib.hid (hc4.at (by simp) X3.out)
      have x4 := blk_cell X4.out
      have l4 := lt_of_heap X4.out
      clear hc4
      have B8 : ∀ d os, Calls Try.prog 33 #[.slice (some ⟨g1, o1, none⟩) k cw, .string x.name] (Go.Sort.grow (redrawn w4 d) os) fun e w'' => e = .returned (.int .i64 (wIdx (ws.take k) x.name)) ∧ ∃ p : Regrown, w'' = Go.Sort.grow (redrawn w4 p.d) p.os := fun d os => calls_regrown (by
        have := worker_any (some ⟨g1, o1, none⟩) cw (ws.take k) x.name (Go.Sort.grow (redrawn w4 d) os) ((HW.out.take k hkl).kept ((C1.out.thenSame C4.out).thenSame (chg_regrown w4 d os))) (by rw [List.length_take]; omega)
        rw [show (ws.take k).length = k by rw [List.length_take]; omega] at this
        exact this)
      have HB8 := Lib.hid B8
      have q0 := fun d os => ((below_regrown w4 d os).cell (p := ⟨wr.heap.size, 0, none⟩) l4).trans (x4 0)
      generalize wIdx (ws.take k) x.name = ix at *
      clear B8
      go_wp2_with fail
      refine wp_region_quiet_below (by kernel_rfl) (by kernel_rfl) ?_
      repeat (any_goals (first | go_big_quiet_step (exact HB8.out _ _) | quiet_step (exact HB8.out _ _)))
      refine wpQuiet_nil ?_
      intro _ hw'
      obtain ⟨⟨dq, osq⟩, hw''⟩ := hw'
      subst hw''
      have C5 := Lib.hid (C4.out.thenSame (chg_regrown w4 dq osq))
      have X5 := Lib.hid ((chg_regrown w4 dq osq).at (by simp) X4.out)
      clear q0 HB8 x4 l4
      change Exit.then _ _ Exit.normal _ (Go.Sort.grow (redrawn w4 dq) osq)
      generalize Go.Sort.grow (redrawn w4 dq) osq = w5 at *
      have x5 := blk_cell X5.out
      have l5 := lt_of_heap X5.out
      by_cases h2 : 0 ≤ ix
      · have HE : Hid (R = 6) := Lib.hid (by
          rw [if_pos h2] at hwe
          rw [HST.out (by omega), hwe])
        clear hwe
        go_wp2_with fail
        go_ret
        exact ⟨by rw [HE.out]; rfl, C1.out.thenSame C5.out⟩
      rw [if_neg h2] at hwe
      cases h3 : memB x.mem
      · rw [h3] at A3 hwe
        have HE : Hid (R = 2) := Lib.hid (by
          have : E = 2 := by simpa using hwe
          rw [HST.out (by omega), this])
        clear hwe
        go_wp2_with fail
        refine (A3.out _).mono ?_; rintro e w6 ⟨rfl, rfl⟩
        go_wp2_with fail
        go_ret
        exact ⟨by rw [HE.out]; rfl, C1.out.thenSame C5.out⟩
      · rw [h3] at A3 hwe
        have HE := Lib.hid (HNext.out (by simpa using hwe))
        clear hwe
        go_wp2_with fail
        refine (A3.out _).mono ?_; rintro e w6 ⟨rfl, rfl⟩
        go_wp2_with fail
        exact ⟨⟨k + 1, by go_num, by omega, HE, C5⟩, by simp [intOf]; omega⟩
    · have hks : k = ws.length := by omega
      subst hks
      have HF1 := Lib.hid HF.out
      have D1 := Lib.hid (C1.out.thenSame D.out)
      have Y1 := Lib.hid (D.out.at (by simp) X1.out)
      have y1 := blk_cell Y1.out
      by_cases h256 : 256 < l.length
      · have HE : Hid (R = 3) := Lib.hid (by rw [HR.out]; unfold checkP; rw [if_neg h8, if_pos HF1.out, if_pos h256])
        have h256' : (256 : Int) < (l.length : Int) := by omega
        go_wp2_with fail
        go_ret
        exact ⟨by rw [HE.out]; rfl, D1.out⟩
      have h256' : (l.length : Int) ≤ 256 := by omega
      go_wp2_with fail
      go_loopw [44] (fun i wq => ∃ j : Nat, i = .int .i64 j ∧ j ≤ l.length ∧ Hid (firstE (pE ws l) j = 0) ∧ Hid (Chg [] wr wq)) (fun i _ => l.length - (intOf i).toNat)
      case atStart => exact ⟨0, rfl, Nat.zero_le _, Lib.hid rfl, Lib.hid (Chg.refl _ _)⟩
      case round =>
        obtain ⟨j, rfl, hjl, HP, E⟩ := hrel
        have E1 := Lib.hid (D1.out.thenSame E.out)
        have Z1 := Lib.hid (E.out.at (by simp) Y1.out)
        have z1 := blk_cell Z1.out
        have lz1 := lt_of_heap Z1.out
        by_cases hj : j < l.length
        · obtain ⟨g2, o2, rfl, -, hbr2, hcc⟩ := H.out.elem E1.out j hj
          have d0 := hcc 0 (by omega)
          have d1 := hcc 1 (by omega)
          have d2 := hcc 2 (by omega)
          have d3 := hcc 3 (by omega)
          have hgx := HG.out l[j] (List.getElem_mem hj)
          have hpe : pE ws l j = if freshE (l.take j) l[j] = 0 then (if wIdx ws l[j].wk < 0 then 5 else 0) else freshE (l.take j) l[j] := by
            unfold pE; rw [List.getElem?_eq_getElem hj]
          generalize l[j] = q at *
          simp only [plC, List.getElem?_cons_zero, List.getElem?_cons_succ, Nat.add_zero] at d0 d1 d2 d3
          have hj0 : (0 : Int) ≤ (j : Int) := by omega
          have hj1 : (j : Int) < (l.length : Int) := by omega
          have hjc : (j : Int) ≤ (c : Int) := by omega
          have hstop : pE ws l j ≠ 0 → R = pE ws l j := fun hne => by
            have := first_hit HP.out hne hj
            rw [HR.out]; unfold checkP; rw [if_neg h8, if_pos HF1.out, if_neg h256, this, if_neg hne]
          have HNext := Lib.hid (fun h0 => first_step HP.out (show pE ws l j = 0 from h0))
          generalize pE ws l j = PE at *
          have hcq : Chg [] wr (wr.alloc (plO q)) := (Chg.refl _ _).alloc _
          have E3 := Lib.hid (E1.out.thenSame hcq)
          have E3' := Lib.hid (E.out.thenSame hcq)
          have Z3 := Lib.hid (hcq.at (by simp) Z1.out)
          have X3 := Lib.hid (heap_alloc_new wr (plO q))
          have HST := Lib.hid hstop
          have B8 : ∀ d os, Calls Try.prog 28 #[.slice (some ⟨g2, o2, none⟩) j c, plV q] (Go.Sort.grow (redrawn (wr.alloc (plO q)) d) os) fun e w'' => e = .returned (.int .i64 (freshE (l.take j) q)) ∧ ∃ p : Regrown, w'' = Go.Sort.grow (redrawn (wr.alloc (plO q)) p.d) p.os := fun d os => calls_regrown (by
            have := fresh_any (some ⟨g2, o2, none⟩) c (l.take j) q (Go.Sort.grow (redrawn (wr.alloc (plO q)) d) os) ((H.out.take j hjl).kept (E3.out.thenSame (chg_regrown _ d os))) (by rw [List.length_take]; omega) hgx
            rw [show (l.take j).length = j by rw [List.length_take]; omega] at this
            exact this)
          have q0 := fun d os i => ((below_regrown (wr.alloc (plO q)) d os).cell (p := ⟨wr.heap.size, i, none⟩) (lt_of_heap X3.out)).trans (blk_cell X3.out i)
          have q1 := fun d os => ((below_regrown (wr.alloc (plO q)) d os).cell (p := ⟨w.heap.size, 0, none⟩) (lt_of_heap Z3.out)).trans (blk_cell Z3.out 0)
          generalize freshE (l.take j) q = fe at *
          unfold plV at B8
          unfold plO at B8 q0 q1 E3 E3' Z3 X3
          have HB8 := Lib.hid B8
          clear B8 hcc hstop hcq
          go_wp2_with fail
          refine wp_region_quiet_below (by kernel_rfl) (by kernel_rfl) ?_
          repeat (any_goals (first | go_big_quiet_step (exact HB8.out _ _) | quiet_step (exact HB8.out _ _)))
          refine wpQuiet_nil ?_
          intro _ hw'
          obtain ⟨⟨dq, osq⟩, hw''⟩ := hw'
          subst hw''
          have hcz := chg_regrown (wr.alloc (.cells #[.string q.id, .string q.tn, .int .i64 q.mem, .string q.wk] 25)) dq osq
          have E5 := Lib.hid (E3.out.thenSame hcz)
          have E5' := Lib.hid (E3'.out.thenSame hcz)
          have X5 := Lib.hid (hcz.at (by simp) X3.out)
          have A5 := worker_any aw cw ws q.wk (Go.Sort.grow (redrawn (wr.alloc (.cells #[.string q.id, .string q.tn, .int .i64 q.mem, .string q.wk] 25)) dq) osq) (HW.out.kept E5.out) hwl
          clear q0 q1 HB8 hcz
          change Exit.then _ _ Exit.normal _ (Go.Sort.grow (redrawn (wr.alloc (.cells #[.string q.id, .string q.tn, .int .i64 q.mem, .string q.wk] 25)) dq) osq)
          generalize Go.Sort.grow (redrawn (wr.alloc (.cells #[.string q.id, .string q.tn, .int .i64 q.mem, .string q.wk] 25)) dq) osq = w5 at *
          have x5 := blk_cell X5.out
          have l5 := lt_of_heap X5.out
          have HA5 := Lib.hid A5
          clear A5
          by_cases hfe : fe = 0
          case neg =>
            rw [if_neg hfe] at hpe
            have HE : Hid (R = fe) := Lib.hid (by rw [HST.out (by rw [hpe]; exact hfe), hpe])
            have hfe' : (fe == 0) = false := by simpa using hfe
            clear hpe
            go_wp2_with fail
            go_ret
            exact ⟨by rw [HE.out]; rfl, E5.out⟩
          rw [if_pos hfe] at hpe
          subst hfe
          generalize wIdx ws q.wk = ix at *
          go_wp2_with fail
          refine HA5.out.mono ?_; rintro e w6 ⟨rfl, hc6⟩
          have E6 := Lib.hid (E5.out.thenSame hc6)
          have E6' := Lib.hid (E5'.out.thenSame hc6)
          clear hc6 HA5
          by_cases h5 : ix < 0
          · rw [if_pos h5] at hpe
            have HE : Hid (R = 5) := Lib.hid (by rw [HST.out (by rw [hpe]; decide), hpe])
            clear hpe
            go_wp2_with fail
            go_ret
            exact ⟨by rw [HE.out]; rfl, E6.out⟩
          · rw [if_neg h5] at hpe
            have HE := Lib.hid (HNext.out hpe)
            have h5' : 0 ≤ ix := by omega
            clear hpe
            go_wp2_with fail
            exact ⟨⟨j + 1, by go_num, by omega, HE, E6'⟩, by simp [intOf]; omega⟩
        · have hjs : j = l.length := by omega
          subst hjs
          have A9 := contw_any a c l aw cw ws w.heap.size wr (HW.out.kept E1.out) (H.out.kept E1.out) hl hwl (pE_mem HP.out) (wE_mem HF1.out) Z1.out
          rw [idx_any] at A9
          have hfin : R = if ws.any (fun x => decide (freeS x l < 0)) = true then 16 else 0 := by
            rw [HR.out]; unfold checkP; rw [if_neg h8, if_pos HF1.out, if_neg h256, if_pos HP.out]
          generalize ws.any (fun x => decide (freeS x l < 0)) = bb at *
          have HA9 := Lib.hid A9
          have HFin := Lib.hid hfin
          clear A9 hfin
          cases bb
          all_goals
            go_wp2_with fail
            refine HA9.out.mono ?_; rintro e w6 ⟨rfl, hc6⟩
            have E6 := Lib.hid (E1.out.thenSame hc6)
            clear hc6 HA9
            go_wp2_with fail
            go_ret
            exact ⟨by rw [HFin.out]; rfl, E6.out⟩
end Go.Proofs.Ytjbnfaapkicejaa
