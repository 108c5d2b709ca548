/- Chapter 19: AlarmCountsWindows: an alarm is raised exactly if at least M of the last N windows breach. No condition. -/
import Derived.Test.YtmmhcacpehpjdaaAlaG
import Derived.Test.YtmmhcacpehpjdaaAlaH
namespace Go.Proofs.Ytmmhcacpehpjdaa
set_option linter.unusedVariables false
set_option linter.unusedSimpArgs false
open Go.RowKit

theorem tail_drop (r : Rd) (l : List Sd) {N : Nat} (hN : r.n = (N : Int)) : tailS r (l.drop (l.length - N)) = l.drop (l.length - N) := by
  unfold tailS
  have e1 : r.n.toNat = N := by omega
  rw [e1, List.length_drop]
  have : l.length - (l.length - N) - N = 0 := by omega
  rw [this, List.drop_zero]
theorem state_drop (r : Rd) (l : List Sd) {N : Nat} (hN : r.n = (N : Int)) : stateS r (l.drop (l.length - N)) = stateS r l := by
  have e2 : tailS r l = l.drop (l.length - N) := by unfold tailS; rw [show r.n.toNat = N by omega]
  unfold stateS
  rw [tail_drop r l hN, e2]
theorem ms_known {r : Rd} (hr : ruleB r = true) (hm : r.ms = true) (l : List Sd) : unkS r l = 0 := by
  unfold unkS
  rw [List.countP_eq_zero]
  intro x _
  have : (breachS r x).2 = true := by
    unfold breachS
    rw [if_pos hr]
    split
    · rfl
    · exact hm
  simp [this]
def r1S (r : Rd) : Rd := ⟨r.st, r.ab, r.th, r.wd, 1, r.n, r.ms⟩
theorem rule1 {r : Rd} (hr : ruleB r = true) : ruleB (r1S r) = true := by
  obtain ⟨h1, h2, h3, h4, h5⟩ := rule_in hr
  have e : ruleB (r1S r) = (betweenB r.st 1 5 && nvalidB r.th && betweenB r.wd 1 1073741824 && betweenB r.n 1 32 && betweenB 1 1 r.n) := rfl
  rw [e]
  simp only [betweenB, nvalidB, Bool.and_eq_true, decide_eq_true_eq]
  omega
theorem breach1 {r : Rd} (hr : ruleB r = true) (x : Sd) : breachS (r1S r) x = breachS r x := by
  unfold breachS
  rw [if_pos hr, if_pos (rule1 hr)]
  rfl
theorem state1 {r : Rd} (hr : ruleB r = true) (l : List Sd) (h : (stateS r l).1 = 2) : (stateS (r1S r) l).1 = 2 := by
  obtain ⟨h1, h2, h3, h4, h5⟩ := rule_in hr
  have e : badS (r1S r) (tailS (r1S r) l) = badS r (tailS r l) := by
    unfold badS
    exact List.countP_congr fun x _ => by rw [breach1 hr]
  unfold stateS at h ⊢
  rw [if_pos hr] at h
  rw [if_pos (rule1 hr), e]
  by_cases hm : r.m ≤ (badS r (tailS r l) : Int)
  · rw [if_pos (by show (1 : Int) ≤ _; omega)]
  · rw [if_neg hm] at h
    split at h <;> simp at h
theorem state_e {r : Rd} (hr : ruleB r = true) (l : List Sd) : (stateS r l).2 = 0 := by
  unfold stateS
  rw [if_pos hr]
  split
  · rfl
  · split <;> rfl

set_option maxHeartbeats 40000000 in
set_option maxRecDepth 100000 in
theorem counts_walk (r : Rd) (a : Option Addr) (len cap : Nat) (l : List Sd) (w : World) (_g0 : r.good) (h1 : SlIs sCells 4 w a len l ∧ (∀ x ∈ l, x.good) ∧ len ≤ maxLen ∧ len ≤ cap) : Calls Try.prog 6 #[.agg #[.int .i64 r.st, .bool r.ab, .int .i64 r.th, .int .i64 r.wd, .int .i64 r.m, .int .i64 r.n, .bool r.ms], .slice a len cap] w fun e w' => e = .returned (.bool true) ∧ Below w.heap.size w w' := by
  obtain ⟨s1, _, m1, k1⟩ := h1
  have hlen := s1.1
  have hb1 := heap_alloc_new w (.cells #[.int .i64 r.st, .bool r.ab, .int .i64 r.th, .int .i64 r.wd, .int .i64 r.m, .int .i64 r.n, .bool r.ms] 24)
  obtain ⟨w1, hw1⟩ : ∃ w1, w1 = w.alloc (.cells #[.int .i64 r.st, .bool r.ab, .int .i64 r.th, .int .i64 r.wd, .int .i64 r.m, .int .i64 r.n, .bool r.ms] 24) := ⟨_, rfl⟩
  have Hc0 : Hid (Chg [] w w1) := by rw [hw1]; exact (Chg.refl [] w).alloc _
  rw [← hw1] at hb1
  have Hb := Lib.hid hb1
  have S1 := Lib.hid (s1.kept Hc0.out)
  have hn0 : (0 : Int) ≤ (len : Int) := by omega
  by_cases hbig : (300 : Int) < (len : Int)
  · clear s1 m1 k1 hb1 hlen
    go_enter Try.func6, Try.ntmps6
    go_wp2_with fail
    rw [← hw1]
    clear hw1
    refine (awake_any _).mono ?_; rintro e w3 ⟨rfl, hc3⟩
    have Hc3 := Lib.hid hc3
    clear hc3
    go_wp2_with fail
    go_ret
    exact ⟨rfl, (Hc0.out.thenSame Hc3.out).toBelow (Nat.le_refl _) (by simp)⟩
  have hbig' : (len : Int) ≤ 300 := by omega
  have Hch := Lib.hid (acheck_any r w1)
  by_cases hr : ruleB r = true
  case neg =>
    rw [show checkR r = 2 by unfold checkR; rw [if_neg hr]] at Hch
    clear s1 m1 k1 hb1 hlen hr hbig
    go_enter Try.func6, Try.ntmps6
    go_wp2_with fail
    rw [← hw1]
    clear hw1
    refine Hch.out.mono ?_; rintro e w2 ⟨rfl, hc2⟩
    have Hc2 := Lib.hid hc2
    clear hc2
    go_wp2_with fail
    refine (awake_any _).mono ?_; rintro e w3 ⟨rfl, hc3⟩
    have Hc3 := Lib.hid hc3
    clear hc3
    go_wp2_with fail
    go_ret
    exact ⟨rfl, ((Hc0.out.thenSame Hc2.out).thenSame Hc3.out).toBelow (Nat.le_refl _) (by simp)⟩
  obtain ⟨_, _, _, ⟨n0, n1⟩, m0, m2⟩ := rule_in hr
  rw [show checkR r = 0 by unfold checkR; rw [if_pos hr]] at Hch
  obtain ⟨N, hN⟩ : ∃ N : Nat, r.n = (N : Int) := ⟨r.n.toNat, by omega⟩
  rw [hN] at n0 n1 m2
  obtain ⟨s, hs⟩ : ∃ s, s = (stateS r l).1 := ⟨_, rfl⟩
  have hse : stateS r l = (s, 0) := by rw [hs, ← state_e hr l]
  obtain ⟨m, hm⟩ : ∃ m, m = len - N := ⟨_, rfl⟩
  obtain ⟨L, hL⟩ : ∃ L, L = l.drop m := ⟨_, rfl⟩
  have hLl : L.length = len - m := by rw [hL, List.length_drop, hlen]
  have hsd : stateS r L = (s, 0) := by rw [hL, hm, ← hlen, state_drop r l hN, hse]
  have A1 := Lib.hid (fun w h => hse ▸ state_any r a len cap l w h m1 k1)
  have hsx : s = if r.m ≤ (badS r L : Int) then 2 else if (N : Int) - ((len - m : Nat) : Int) + (unkS r L : Int) = 0 then 1 else 0 := by
    have e := hsd
    unfold stateS at e
    have e1 : tailS r L = L := by rw [hL, hm, ← hlen]; exact tail_drop r l hN
    rw [if_pos hr, e1, hLl, hN] at e
    rw [← show _ = s from congrArg Prod.fst e]
    split
    · rfl
    · split <;> rfl
  have Hsx := Lib.hid hsx
  have Hms := Lib.hid (fun h => ms_known hr h L)
  have Hs1 := Lib.hid (fun h : s = 2 => state1 hr l (hs ▸ h))
  have hse1 := state_e (rule1 hr) l
  obtain ⟨t, ht⟩ : ∃ t, t = (stateS (r1S r) l).1 := ⟨_, rfl⟩
  have hst : stateS (r1S r) l = (t, 0) := by rw [ht, ← hse1]
  rw [← ht] at Hs1
  have A9 : Hid (∀ w, SlIs sCells 4 w a len l → Calls Try.prog 19 #[.agg #[.int .i64 r.st, .bool r.ab, .int .i64 r.th, .int .i64 r.wd, .int .i64 1, .int .i64 r.n, .bool r.ms], .slice a len cap] w (StPost w (t, 0))) := fun w h => hst ▸ state_any (r1S r) a len cap l w h m1 k1
  have hslm : SlIs sCells 4 w1 (if cap = m then a else a.map (fun x : Addr => x.add (m * 4))) (len - m) L := by rw [hL]; exact S1.out.drop (by omega) k1
  have SL := Lib.hid hslm
  have A5 := Lib.hid (fun w h => hsd ▸ state_any r (if cap = m then a else a.map (fun x : Addr => x.add (m * 4))) (len - m) (cap - m) L w h (by omega) (by omega))
  have hbr := fun x w => breach_any r x w
  have Hbr := Lib.hid hbr
  have Hkn := Lib.hid (breach_known r)
  have Hl := Lib.hid (show L.length ≤ 32 ∧ m ≤ len ∧ L.length = len - m ∧ m = len - N by omega)
  have HL := Lib.hid hL
  have hm3 : (max 0 ((len : Int) - (N : Int))) = (m : Int) := by omega
  have Hlen := Lib.hid hlen
  have HN := Lib.hid hN
  have Hm := Lib.hid hm
  have hml : m ≤ len := by omega
  have S0 := Lib.hid s1
  clear s1 m1 hb1 hlen hr hbig hbr hslm hst ht hse1 hsx hsd hLl hL hm hse hs hN m2 k1
  go_enter Try.func6, Try.ntmps6
  go_wp2_with fail
  rw [← hw1]
  clear hw1
  refine Hch.out.mono ?_; rintro e w2 ⟨rfl, hc2⟩
  have C2 := Lib.hid hc2
  have p2 := blk_cell (C2.out.at (by simp) Hb.out)
  clear hc2
  go_wp2_with fail
  clear p2
  refine (A1.out _ (S1.out.kept C2.out)).mono ?_; rintro e w3 ⟨rfl, hc3⟩
  have C3 := Lib.hid (C2.out.thenSame hc3)
  have p3 := blk_cell (C3.out.at (by simp) Hb.out)
  rw [HN.out] at p3
  clear hc3
  simp only []
  go_wp2_with fail
  clear p3 hm3
  go_loopw [8, 9, 10] (fun b u i wr => ∃ K : Nat, i = .int .i64 K ∧ m ≤ K ∧ K ≤ len ∧ b = .int .i64 (badS r (L.take (K - m)) : Nat) ∧ u = .int .i64 (unkS r (L.take (K - m)) : Nat) ∧ Chg [] w1 wr) (fun _ _ i _ => len - (intOf i).toNat)
  case atStart => exact ⟨m, rfl, Nat.le_refl _, hml, by simp [badS], by simp [unkS], C3.out⟩
  case round =>
    obtain ⟨K, rfl, hmK, hKl, rfl, rfl, hC⟩ := hrel
    have HC := Lib.hid hC
    have hb2 := hC.at (by simp) Hb.out
    have r0 := blk_cell hb2
    have hw1 := lt_of_heap hb2
    have Hb2 := Lib.hid hb2
    clear hC hb2
    have Hbk := Lib.hid (bad_le r (L.take (K - m)))
    have Huk := Lib.hid (unk_le r (L.take (K - m)))
    by_cases hk : K < len
    · have hk2 : K - m < L.length := by rw [Hl.out.2.2.1]; omega
      have hk3 : K < l.length := by rw [Hlen.out]; exact hk
      have hs1 := bad_step r L (K - m) hk2
      have hs2 := unk_step r L (K - m) hk2
      have e1 : L[K - m] = l[K] := by
        have := HL.out
        subst this
        rw [List.getElem_drop]
        congr 1
        omega
      rw [e1] at hs1 hs2
      obtain ⟨y, hy⟩ : ∃ y, y = l[K] := ⟨_, rfl⟩
      obtain ⟨b, off, rfl, -, hbr, hcc⟩ := S1.out.elem HC.out K hk3
      rw [← hy] at hs1 hs2 hcc
      have g0 := fun d os => ((below_regrown wr d os).cell (p := ⟨b, off + K * 4 + 0, none⟩) hbr).trans (hcc 0 (by omega))
      have g1 := fun d os => ((below_regrown wr d os).cell (p := ⟨b, off + K * 4 + 1, none⟩) hbr).trans (hcc 1 (by omega))
      have g2 := fun d os => ((below_regrown wr d os).cell (p := ⟨b, off + K * 4 + 2, none⟩) hbr).trans (hcc 2 (by omega))
      have g3 := fun d os => ((below_regrown wr d os).cell (p := ⟨b, off + K * 4 + 3, none⟩) hbr).trans (hcc 3 (by omega))
      have r1 := fun i d os => ((below_regrown wr d os).cell (p := ⟨w.heap.size, i, none⟩) hw1).trans (r0 i)
      simp only [sCells, List.getElem?_cons_zero, List.getElem?_cons_succ, Nat.add_zero] at g0 g1 g2 g3
      obtain ⟨⟨ba, bb⟩, hp⟩ : ∃ p, p = breachS r y := ⟨_, rfl⟩
      have Hb' : Hid (∀ d os, Calls Try.prog 14 #[.agg #[.int .i64 r.st, .bool r.ab, .int .i64 r.th, .int .i64 r.wd, .int .i64 r.m, .int .i64 r.n, .bool r.ms], .agg #[.int .i64 y.c, .int .i64 y.s, .int .i64 y.mn, .int .i64 y.mx]] (Go.Sort.grow (redrawn wr d) os) fun e w'' => e = .returned (.tuple #[.bool ba, .bool bb]) ∧ ∃ p : Regrown, w'' = Go.Sort.grow (redrawn wr p.d) p.os) := by
        intro d os
        have := Hbr.out y (Go.Sort.grow (redrawn wr d) os)
        rw [← hp] at this
        exact calls_regrown this
      have hkn := Hkn.out y
      rw [← hp] at hs1 hs2 hkn
      have hk0 : (0 : Int) ≤ (K : Int) := by omega
      have hk1 : (K : Int) < (len : Int) := by omega
      have B1 : ((badS r (L.take (K - m)) : Nat) : Int) ≤ 32 := by have := Hbk.out; have := List.length_take_le (K - m) L; have := Hl.out.1; omega
      have B2 : ((unkS r (L.take (K - m)) : Nat) : Int) ≤ 32 := by have := Huk.out; have := List.length_take_le (K - m) L; have := Hl.out.1; omega
      have B3 : (0 : Int) ≤ ((badS r (L.take (K - m)) : Nat) : Int) := by omega
      have B4 : (0 : Int) ≤ ((unkS r (L.take (K - m)) : Nat) : Int) := by omega
      have e2 : K + 1 - m = K - m + 1 := by omega
      have hs1' : badS r (L.take (K + 1 - m)) = badS r (L.take (K - m)) + if ba = true then 1 else 0 := by rw [e2, hs1]
      have hs2' : unkS r (L.take (K + 1 - m)) = unkS r (L.take (K - m)) + if bb = true then 0 else 1 := by
        rw [e2, hs2]
        revert hkn
        cases ba <;> cases bb <;> simp
      generalize badS r (L.take (K - m)) = p at *
      generalize unkS r (L.take (K - m)) = q at *
      have T1 := Lib.hid hs1'
      have T2 := Lib.hid hs2'
      clear hy hcc hp hs1 hs2 hs1' hs2' hkn e1 e2 r0
      cases ba <;> cases bb
      all_goals
        go_wp2_with fail
        refine wp_region_quiet_below (by kernel_rfl) (by kernel_rfl) ?_
        repeat (any_goals (first | go_big_quiet_step (exact Hb'.out _ _) | quiet_step (exact Hb'.out _ _)))
        refine wpQuiet_nil ?_
        intro _ hw'
        obtain ⟨⟨dq, osq⟩, hw''⟩ := hw'
        subst hw''
        go_wp2_with fail
        refine ⟨⟨K + 1, by go_num, by omega, by omega, by rw [T1.out]; simp, by rw [T2.out]; simp, HC.out.thenSame (chg_regrown _ dq osq)⟩, by simp [intOf]; omega⟩
    · have ht : L.take (K - m) = L := List.take_of_length_le (by have := Hl.out; omega)
      have hlL := Hl.out
      rw [ht] at Hbk Huk
      simp only [ht]
      have B1 : ((badS r L : Nat) : Int) ≤ 32 := by have := Hbk.out; omega
      have B2 : ((unkS r L : Nat) : Int) ≤ 32 := by have := Huk.out; omega
      have B3 : (0 : Int) ≤ ((badS r L : Nat) : Int) := by omega
      have B4 : (0 : Int) ≤ ((unkS r L : Nat) : Int) := by omega
      generalize badS r L = p at *
      generalize unkS r L = q at *
      have hcs : (s = 2 ∧ r.m ≤ (p : Int) ∧ t = 2) ∨ (s = 1 ∧ (p : Int) < r.m ∧ q = 0 ∧ (N : Int) ≤ (len : Int)) ∨ (s = 0 ∧ (p : Int) < r.m ∧ 0 < (q : Int)) ∨ (s = 0 ∧ (p : Int) < r.m ∧ q = 0 ∧ (len : Int) < (N : Int)) := by
        have h1 := Hsx.out
        have h2 := Hs1.out
        split at h1
        · exact .inl ⟨h1, by assumption, h2 h1⟩
        · split at h1
          · exact .inr (.inl ⟨h1, by omega, by omega, by omega⟩)
          · by_cases hq : 0 < q
            · exact .inr (.inr (.inl ⟨h1, by omega, by omega⟩))
            · exact .inr (.inr (.inr ⟨h1, by omega, by omega, by omega⟩))
      have r1 := fun i d os => ((below_regrown wr d os).cell (p := ⟨w.heap.size, i, none⟩) hw1).trans (r0 i)
      have hn4 := HN.out
      have hcl : Hid (∀ d os, Calls Try.prog 19 #[.agg #[.int .i64 r.st, .bool r.ab, .int .i64 r.th, .int .i64 r.wd, .int .i64 r.m, .int .i64 r.n, .bool r.ms], .slice (if cap = m then a else a.map (fun x : Addr => x.add (m * 4))) (len - m) (cap - m)] (Go.Sort.grow (redrawn wr d) os) fun e w'' => e = .returned (.tuple #[.int .i64 s, .int .i64 0]) ∧ ∃ p : Regrown, w'' = Go.Sort.grow (redrawn wr p.d) p.os) := fun d os => calls_regrown (A5.out _ (SL.out.kept (HC.out.thenSame (chg_regrown _ d os))))
      have hms : r.ms = false ∨ (r.ms = true ∧ q = 0) := by
        have := Hms.out
        cases h : r.ms
        · exact .inl rfl
        · exact .inr ⟨rfl, this h⟩
      rw [hn4] at r0 r1 hcl A9
      have hm0 : (0 : Int) ≤ (m : Int) := by omega
      have hm4 : (m : Int) ≤ (len : Int) := by omega
      clear ht hlL
      rcases hcs with ⟨rfl, h2, rfl⟩ | ⟨rfl, h2, rfl, h4⟩ | ⟨rfl, h2, h3⟩ | ⟨rfl, h2, rfl, h4⟩
      all_goals
        go_wp2_with fail
        refine wp_region_quiet_below (by kernel_rfl) (by kernel_rfl) ?_
        repeat (any_goals (first | go_big_quiet_step (exact hcl.out _ _) | quiet_step (exact hcl.out _ _)))
        refine wpQuiet_nil ?_
        intro _ hw'
        obtain ⟨⟨dq, osq⟩, hw''⟩ := hw'
        subst hw''
        have hb9 := (chg_regrown wr dq osq).at (by simp) Hb2.out
        have h9 : Chg [] w (Go.Sort.grow (redrawn wr dq) osq) := (Hc0.out.thenSame HC.out).thenSame (chg_regrown _ dq osq)
        generalize Go.Sort.grow (redrawn wr dq) osq = w9 at *
        generalize (@ite (Option Addr) (cap = m) _ _ _) = av
        have p9 := blk_cell hb9
        have f9 := blk_free hb9
        have h9s : Chg [] w (w9.setCell ⟨w.heap.size, 4, none⟩ (.int .i64 1)) := Chg.setCell h9 ⟨w.heap.size, 4, none⟩ (.int .i64 1) (fun h => absurd h (Nat.lt_irrefl _))
        have H9s := Lib.hid h9s
        have A9s := A9.out _ (S0.out.kept h9s)
        rw [hn4] at p9
        clear hb9 h9 h9s r0 r1 hcl hn4
        rcases hms with hms | ⟨hms, hq⟩
        all_goals try (exfalso; omega)
        all_goals
          rw [hms] at p9 A9s
          try subst hq
          have A9t := Lib.hid A9s
          clear hms A9s
          go_wp2_with fail
          refine A9t.out.mono ?_; rintro e w10 ⟨rfl, hc10⟩
          have H10 := Lib.hid hc10
          clear hc10
          simp only []
          go_wp2_with fail
          refine (awake_any _).mono ?_; rintro e w11 ⟨rfl, hc11⟩
          have H11 := Lib.hid hc11
          clear hc11
          go_wp2_with fail
          go_ret
          exact ⟨rfl, ((H9s.out.thenSame H10.out).thenSame H11.out).toBelow (Nat.le_refl _) (by simp)⟩
end Go.Proofs.Ytmmhcacpehpjdaa
