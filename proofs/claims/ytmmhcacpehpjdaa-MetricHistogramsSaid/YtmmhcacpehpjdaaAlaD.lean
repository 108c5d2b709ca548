/- Chapter 19: contracts: State of the reference. No condition. -/
import Derived.Test.YtmmhcacpehpjdaaAlaC
namespace Go.Proofs.Ytmmhcacpehpjdaa
set_option linter.unusedVariables false
set_option linter.unusedSimpArgs false
open Go.RowKit

theorem breach_known (r : Rd) (x : Sd) : (breachS r x).1 = true → (breachS r x).2 = true := by
  unfold breachS
  split
  · split <;> simp
  · simp

def allB (r : Rd) (N len : Nat) (l : List Sd) : Bool := decide (N ≤ len) && decide (unkS r l = 0)

set_option maxHeartbeats 2000000 in
set_option maxRecDepth 100000 in
theorem rstate_any (r : Rd) (a : Option Addr) (len cap : Nat) (l : List Sd) (w : World) (h : SlIs sCells 4 w a len l) (hm : len ≤ maxLen) : Calls Try.prog 20 #[.agg #[.int .i64 r.st, .bool r.ab, .int .i64 r.th, .int .i64 r.wd, .int .i64 r.m, .int .i64 r.n, .bool r.ms], .slice a len cap] w (StPost w (stateS r l)) := by
  have hlen := h.1
  have Hch := Lib.hid (racheck_any r (w.alloc (.cells #[.int .i64 r.st, .bool r.ab, .int .i64 r.th, .int .i64 r.wd, .int .i64 r.m, .int .i64 r.n, .bool r.ms] 24)))
  have hblk := heap_alloc_new w (.cells #[.int .i64 r.st, .bool r.ab, .int .i64 r.th, .int .i64 r.wd, .int .i64 r.m, .int .i64 r.n, .bool r.ms] 24)
  have H := Lib.hid (h.kept (((Chg.refl [] w).alloc (.cells #[.int .i64 r.st, .bool r.ab, .int .i64 r.th, .int .i64 r.wd, .int .i64 r.m, .int .i64 r.n, .bool r.ms] 24))))
  have Hblk := Lib.hid hblk
  unfold maxLen at hm
  clear h hblk
  by_cases hr : ruleB r = true
  · obtain ⟨_, _, _, ⟨n0, n1⟩, m0, m1⟩ := rule_in hr
    rw [show checkR r = 0 by unfold checkR; rw [if_pos hr]] at Hch
    obtain ⟨N, hN⟩ : ∃ N : Nat, r.n = (N : Int) := ⟨r.n.toNat, by omega⟩
    have Hs : Hid (stateS r l = if r.m ≤ (badS r (l.drop (len - N)) : Int) then (2, 0) else if (N : Int) - ((len - (len - N) : Nat) : Int) + (unkS r (l.drop (len - N)) : Int) = 0 then (1, 0) else (0, 0)) := by
      have e1 : r.n.toNat = N := by omega
      have e2 : tailS r l = l.drop (len - N) := by unfold tailS; rw [e1, hlen]
      show stateS r l = _
      unfold stateS
      rw [if_pos hr, e2, List.length_drop, hlen, hN]
    have hbr := fun x w => rbreach_any r x w
    have Hbr := Lib.hid hbr
    rw [hN] at n0 n1 m1
    have HN := Lib.hid hN
    have Hkn := Lib.hid (breach_known r)
    clear hbr hr hN
    have Hlen := Lib.hid hlen
    have hn0 : (0 : Int) ≤ (len : Int) := by omega
    obtain ⟨m, hm2⟩ : ∃ m, m = len - N := ⟨_, rfl⟩
    obtain ⟨L, hL⟩ : ∃ L, L = l.drop m := ⟨_, rfl⟩
    have hLl : L.length = len - m := by rw [hL, List.length_drop, hlen]
    rw [← hm2, ← hL] at Hs
    have hbl := bad_le r L
    have hul := unk_le r L
    have Hl := Lib.hid (show L.length ≤ 32 ∧ m ≤ len ∧ L.length = len - m ∧ badS r L ≤ 32 ∧ unkS r L ≤ 32 ∧ m = len - N by omega)
    have HL := Lib.hid hL
    have hm3 : (max 0 ((len : Int) - (N : Int))) = (m : Int) := by omega
    clear hlen hm2 hL hLl hbl hul
    go_enter Try.func20, Try.ntmps20
    go_wp2_with fail
    refine Hch.out.mono ?_; rintro e w1 ⟨rfl, hc1⟩
    have hb1 := hc1.at (by simp) Hblk.out
    have p := blk_cell hb1
    have p5 := p 5
    simp only [List.getElem?_toArray, List.getElem?_cons_zero, List.getElem?_cons_succ] at p5
    have H1 := Lib.hid (H.out.kept hc1)
    have Hc1 := Lib.hid (((Chg.refl [] w).alloc _).thenSame hc1)
    have Hb1 := Lib.hid hb1
    rw [HN.out] at p5
    clear p hc1 hb1
    go_wp2_with fail
    go_quiet (fail)
    go_wp2_with fail
    clear hm3
    go_loopw [7, 8, 9] (fun b al i wr => ∃ K : Nat, i = .int .i64 K ∧ m ≤ K ∧ K ≤ len ∧ b = .int .i64 (badS r (L.take (K - m)) : Nat) ∧ al = .bool (allB r N len (L.take (K - m))) ∧ Chg [] w1 wr) (fun _ _ i _ => len - (intOf i).toNat)
    case atStart =>
      refine ⟨m, rfl, Nat.le_refl _, Hl.out.2.1, by simp [badS], ?_, (Chg.refl _ _).drewN _⟩
      simp [allB, unkS]
    case round =>
      obtain ⟨K, rfl, hmK, hKl, rfl, rfl, hC⟩ := hrel
      have HC := Lib.hid hC
      have hb2 := hC.at (by simp) Hb1.out
      have r0 := blk_cell hb2
      have hw1 := lt_of_heap hb2
      clear hC hb2
      have Hbk := Lib.hid (bad_le r (L.take (K - m)))
      by_cases hk : K < len
      · have hk2 : K - m < L.length := by rw [Hl.out.2.2.1]; omega
        have hk3 : K < l.length := by rw [Hlen.out]; exact hk
        have hs1 := bad_step r L (K - m) hk2
        have hs2 := unk_step r L (K - m) hk2
        have e1 : L[K - m] = l[K] := by
          have := HL.out
          subst this
          rw [List.getElem_drop]
          congr 1
          omega
        rw [e1] at hs1 hs2
        obtain ⟨y, hy⟩ : ∃ y, y = l[K] := ⟨_, rfl⟩
        obtain ⟨b, off, rfl, -, hbr, hcc⟩ := H1.out.elem HC.out K hk3
        rw [← hy] at hs1 hs2 hcc
        have g0 := fun d os => ((below_regrown wr d os).cell (p := ⟨b, off + K * 4 + 0, none⟩) hbr).trans (hcc 0 (by omega))
        have g1 := fun d os => ((below_regrown wr d os).cell (p := ⟨b, off + K * 4 + 1, none⟩) hbr).trans (hcc 1 (by omega))
        have g2 := fun d os => ((below_regrown wr d os).cell (p := ⟨b, off + K * 4 + 2, none⟩) hbr).trans (hcc 2 (by omega))
        have g3 := fun d os => ((below_regrown wr d os).cell (p := ⟨b, off + K * 4 + 3, none⟩) hbr).trans (hcc 3 (by omega))
        have r1 := fun i d os => ((below_regrown wr d os).cell (p := ⟨w.heap.size, i, none⟩) hw1).trans (r0 i)
        simp only [sCells, List.getElem?_cons_zero, List.getElem?_cons_succ, Nat.add_zero] at g0 g1 g2 g3
        obtain ⟨⟨ba, bb⟩, hp⟩ : ∃ p, p = breachS r y := ⟨_, rfl⟩
        have Hb : Hid (∀ d os, Calls Try.prog 15 #[.agg #[.int .i64 r.st, .bool r.ab, .int .i64 r.th, .int .i64 r.wd, .int .i64 r.m, .int .i64 r.n, .bool r.ms], .agg #[.int .i64 y.c, .int .i64 y.s, .int .i64 y.mn, .int .i64 y.mx]] (Go.Sort.grow (redrawn wr d) os) fun e w'' => e = .returned (.tuple #[.bool ba, .bool bb]) ∧ ∃ p : Regrown, w'' = Go.Sort.grow (redrawn wr p.d) p.os) := by
          intro d os
          have := Hbr.out y (Go.Sort.grow (redrawn wr d) os)
          rw [← hp] at this
          exact calls_regrown this
        have hkn := Hkn.out y
        rw [← hp] at hs1 hs2 hkn
        have hk0 : (0 : Int) ≤ (K : Int) := by omega
        have hk1 : (K : Int) < (len : Int) := by omega
        have B1 : ((badS r (L.take (K - m)) : Nat) : Int) ≤ 32 := by have := Hbk.out; have := List.length_take_le (K - m) L; have := Hl.out.1; omega
        have B3 : (0 : Int) ≤ ((badS r (L.take (K - m)) : Nat) : Int) := by omega
        have e2 : K + 1 - m = K - m + 1 := by omega
        have hal : allB r N len (L.take (K + 1 - m)) = (allB r N len (L.take (K - m)) && bb) := by
          unfold allB
          rw [e2, hs2]
          rw [Bool.eq_iff_iff]
          simp only [Bool.and_eq_true, decide_eq_true_eq]
          revert hkn
          cases ba <;> cases bb <;> simp
        have hs1' : badS r (L.take (K + 1 - m)) = badS r (L.take (K - m)) + if ba = true then 1 else 0 := by rw [e2, hs1]
        generalize badS r (L.take (K - m)) = p at *
        generalize allB r N len (L.take (K - m)) = q at *
        have S1 := Lib.hid hs1'
        have S2 := Lib.hid hal
        clear hy hcc hp hs1 hs2 hs1' hal hkn e1 e2 r0
        cases q <;> cases ba <;> cases bb
        all_goals
          go_wp2_with fail
          refine wp_region_quiet_below (by kernel_rfl) (by kernel_rfl) ?_
          repeat (any_goals (first | go_big_quiet_step (exact Hb.out _ _) | quiet_step (exact Hb.out _ _)))
          refine wpQuiet_nil ?_
          intro _ hw'
          obtain ⟨⟨dq, osq⟩, hw''⟩ := hw'
          subst hw''
          go_wp2_with fail
          refine ⟨⟨K + 1, by go_num, by omega, by omega, by rw [S1.out]; simp, by rw [S2.out]; simp, HC.out.thenSame (chg_regrown _ dq osq)⟩, by simp [intOf]; omega⟩
      · have ht : L.take (K - m) = L := List.take_of_length_le (by have := Hl.out; omega)
        rw [ht] at Hbk
        simp only [ht, allB]
        have B1 : ((badS r L : Nat) : Int) ≤ 32 := by have := Hl.out; omega
        have B2 : ((unkS r L : Nat) : Int) ≤ 32 := by have := Hl.out; omega
        have B3 : (0 : Int) ≤ ((badS r L : Nat) : Int) := by omega
        have B4 : (0 : Int) ≤ ((unkS r L : Nat) : Int) := by omega
        obtain ⟨A, hA⟩ : ∃ A, A = (decide (N ≤ len) && decide (unkS r L = 0)) := ⟨_, rfl⟩
        have hA2 : (A = true) ↔ N ≤ len ∧ unkS r L = 0 := by rw [hA]; simp
        rw [← hA]
        have HA2 := Lib.hid hA2
        clear ht hA hA2
        generalize badS r L = p at *
        generalize unkS r L = q at *
        cases A
        all_goals
          have hA := HA2.out
          simp only [Bool.false_eq_true, false_iff, true_iff, not_and] at hA
          have HA := Lib.hid hA
          clear hA
          go_wp2_with fail
          all_goals go_ret2
          all_goals
            refine ⟨?_, Hc1.out.thenSame HC.out⟩
            rw [Hs.out]
            have hA := HA.out
            have hl := Hl.out
            (repeat' split) <;> first | rfl | (exfalso; omega)
  · have hs : stateS r l = (0, 2) := by unfold stateS; rw [if_neg hr]
    rw [hs]
    rw [show checkR r = 2 by unfold checkR; rw [if_neg hr]] at Hch
    clear hr hs hlen
    go_enter Try.func20, Try.ntmps20
    go_wp2_with fail
    refine Hch.out.mono ?_; rintro e w1 ⟨rfl, hc1⟩
    have Hc1 := Lib.hid (((Chg.refl [] w).alloc _).thenSame hc1)
    clear hc1
    go_wp2_with fail
    go_ret2
    exact ⟨rfl, Hc1.out⟩
end Go.Proofs.Ytmmhcacpehpjdaa
