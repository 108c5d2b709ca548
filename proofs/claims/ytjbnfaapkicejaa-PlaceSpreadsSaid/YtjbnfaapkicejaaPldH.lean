/- Chapter 43: PlaceSpreads: no other possible worker is better than the chosen one. No condition. -/
import Derived.Test.YtjbnfaapkicejaaPldF
import Derived.Test.YtjbnfaapkicejaaPldG
namespace Go.Proofs.Ytjbnfaapkicejaa
set_option linter.unusedVariables false
set_option linter.unusedSimpArgs false
open Go.RowKit
set_option maxHeartbeats 16000000 in
set_option maxRecDepth 100000 in
theorem spreads_walk (a0 : Option Addr) (len0 cap0 : Nat) (l0 : List Wk) (a1 : Option Addr) (len1 cap1 : Nat) (l1 : List Pl) (q : Pl) (w : World)
    (h0 : SlIs wkC 3 w a0 len0 l0 ∧ (∀ x ∈ l0, x.good) ∧ len0 ≤ maxLen ∧ len0 ≤ cap0 ∧ (a0 = none → cap0 = 0) ∧ cap0 ≤ maxLen)
    (h1 : SlIs plC 4 w a1 len1 l1 ∧ (∀ x ∈ l1, x.good) ∧ len1 ≤ maxLen ∧ len1 ≤ cap1 ∧ (a1 = none → cap1 = 0) ∧ cap1 ≤ maxLen) (h2 : q.good) :
    Calls Try.prog 4 #[.slice a0 len0 cap0, .slice a1 len1 cap1, .agg (plC q).toArray] w fun e w' => e = .returned (.bool true) ∧ Below w.heap.size w w' := by
  rw [plV_eq]
  obtain ⟨s0, g0, m0, c0, n0, k0⟩ := h0
  obtain ⟨s1, g1, m1, c1, n1, k1⟩ := h1
  obtain rfl := s0.1
  obtain rfl := s1.1
  obtain ⟨W1, hW1⟩ : ∃ W1, W1 = w.alloc (plO q) := ⟨_, rfl⟩
  have C1 := Lib.hid (show Chg [] w W1 by rw [hW1]; exact (Chg.refl _ _).alloc _)
  have X1 := Lib.hid (show W1.heap[w.heap.size]? = some (plO q) by rw [hW1]; exact heap_alloc_new _ _)
  have I1 := Lib.hid (show InIs plC 4 w a1 cap1 l1 from ⟨s1, c1, k1, n1⟩)
  have A0 := Lib.hid (smallF_any a0 cap0 l0 a1 cap1 l1 W1 (s0.kept C1.out) m0 g0 (s1.kept C1.out) m1 g1)
  have K2 := Lib.hid (C1.out.alloc (plO q))
  have X2 := Lib.hid (blk_alloc (o' := plO q) X1.out)
  have N2 := Lib.hid (heap_alloc_new W1 (plO q))
  have B0 := Lib.hid (smallF_any none 0 [] (some ⟨W1.heap.size, 0, none⟩) 1 [q] (W1.alloc (plO q)) ⟨rfl, fun k hk => absurd hk (Nat.not_lt_zero k)⟩ (by unfold maxLen; simp) (by simp) (SlIs.ofBlock [q] N2.out plC_len rfl) (by unfold maxLen; simp) (by intro x hx; simp at hx; subst hx; exact h2))
  have hbad : (smallB2 l0 l1 = false ∨ (smallB2 l0 l1 = true ∧ smallB2 [] [q] = false)) ∨ (smallB2 l0 l1 = true ∧ smallB2 [] [q] = true) := by
    cases smallB2 l0 l1 <;> cases smallB2 [] [q] <;> simp
  have x1 := blk_cell X1.out
  have l1' := lt_of_heap X1.out
  unfold plV
  unfold plO at hW1 X1 X2 N2 K2 B0
  have HW1 := Lib.hid hW1
  clear hW1
  rcases hbad with hbad | ⟨b0, b2⟩
  · clear s0 g0 m0 c0 n0 k0 s1 g1 m1 c1 n1 k1 h2
    rcases hbad with b0 | ⟨b0, b2⟩
    · go_enter Try.func4, Try.ntmps4
      go_wp2_with fail
      rw [← HW1.out]
      go_wp2_with (first
        | (go_at_call 8; (with_reducible refine A0.out.mono ?_); rw [b0]; rintro e w1 ⟨rfl, rfl⟩)
        | (go_at_call 9; (with_reducible refine (awake_any _).mono ?_); rintro e w3 ⟨rfl, hc3⟩; have C3 := Lib.hid (C1.out.thenSame hc3); clear hc3))
      go_ret
      exact ⟨rfl, C3.out.toBelow (Nat.le_refl _) (by simp)⟩
    · go_enter Try.func4, Try.ntmps4
      go_wp2_with fail
      rw [← HW1.out]
      refine A0.out.mono ?_; rw [b0]; rintro e w1 ⟨rfl, rfl⟩
      go_wp2_with (first
        | (go_at_call 8; (refine B0.out.mono ?_); rw [b2]; rintro e w1 ⟨rfl, rfl⟩)
        | (go_at_call 9; (with_reducible refine (awake_any _).mono ?_); rintro e w3 ⟨rfl, hc3⟩; have C3 := Lib.hid (K2.out.thenSame hc3); clear hc3))
      go_ret
      exact ⟨rfl, C3.out.toBelow (Nat.le_refl _) (by simp)⟩
  have hs := b0
  unfold smallB2 at hs
  simp only [Bool.and_eq_true, decide_eq_true_eq] at hs
  obtain ⟨⟨⟨z0, z1⟩, -⟩, -⟩ := hs
  have A1 := Lib.hid (fun w' (hc : Chg [] w w') => choosex_any a0 cap0 l0 a1 cap1 l1 q w' (s0.kept hc) (by omega) c0 g0 (s1.kept hc) (by omega) c1 g1 h2)
  have HO := Lib.hid (show ∀ w', Chg [] W1 w' → (w'.cell? ⟨w.heap.size, 0, none⟩ = some (.string q.id) ∧ w'.cell? ⟨w.heap.size, 1, none⟩ = some (.string q.tn) ∧ w'.cell? ⟨w.heap.size, 2, none⟩ = some (.int .i64 q.mem) ∧ w'.cell? ⟨w.heap.size, 3, none⟩ = some (.string q.wk)) ∧ w.heap.size < w'.heap.size from fun w' hc => by
    have x1 := blk_cell (hc.at (by simp) X1.out)
    exact ⟨⟨x1 0, x1 1, x1 2, x1 3⟩, lt_of_heap (hc.at (by simp) X1.out)⟩)
  have D2 := Lib.hid (show Chg [] W1 (W1.alloc (.cells #[.string q.id, .string q.tn, .int .i64 q.mem, .string q.wk] 25)) from (Chg.refl _ _).alloc _)
  by_cases hok : (choosePX l0 l1 q).2 = 0
  case neg =>
    have hnm := choosex_no hok
    have hnb : ((choosePX l0 l1 q).2 == 0) = false := by simpa using hok
    rw [hnm] at A1
    generalize (choosePX l0 l1 q).2 = E at *
    unfold plV at A1
    clear s0 g0 m0 c0 n0 k0 s1 g1 m1 c1 n1 k1 h2 hnm
    go_enter Try.func4, Try.ntmps4
    go_wp2_with fail
    rw [← HW1.out]
    refine A0.out.mono ?_; rw [b0]; rintro e w1 ⟨rfl, rfl⟩
    go_wp2_with (go_at_call 8; (refine B0.out.mono ?_); rw [b2]; rintro e w1 ⟨rfl, rfl⟩; (obtain ⟨⟨y0, y1, y2, y3⟩, yl⟩ := HO.out _ D2.out))
    refine (A1.out _ K2.out).mono ?_; rintro e w3 ⟨rfl, hc3⟩
    have D3 := Lib.hid (D2.out.thenSame hc3)
    clear hc3
    go_wp2_with (go_at_call 9; (with_reducible refine (awake_any _).mono ?_); rintro e w11 ⟨rfl, hc11⟩; have D11 := Lib.hid (D3.out.thenSame hc11); clear hc11)
    go_ret
    exact ⟨rfl, (C1.out.thenSame D11.out).toBelow (Nat.le_refl _) (by simp)⟩
  obtain ⟨V, -, v3, v4⟩ := choosex_ok hok
  obtain ⟨m, hm, v5, v6, v7⟩ := choose_ok v3
  rw [hok, v4, v5] at A1
  have HV := Lib.hid V
  have SW := Lib.hid s0
  have SP := Lib.hid s1
  have A2 := Lib.hid (fun i (hi : i < l0.length) w' (hc : Chg [] w w') => by
    have := freex_any a0 cap0 l0 a1 cap1 l1 l0[i].name w' (s0.kept hc) (by omega) c0 g0 (s1.kept hc) (by omega) c1 g1
    rw [V.free hi] at this
    exact this)
  have A3 := Lib.hid (fun w' s (hc : Chg [] w w') => tenants_any a1 cap1 l1 q.tn s w' (s1.kept hc) (by omega))
  have HB := Lib.hid v7
  have v8 : q.mem ≤ freeS l0[m] l1 := by
    unfold possB at v6
    simp only [Bool.and_eq_true, decide_eq_true_eq] at v6
    exact v6.2
  have HIJ := Lib.hid (fun i (hi : i < l0.length) (h : l0[i].name = l0[m].name) => V.name_inj hi hm h)
  unfold plV at A1
  have hz0 : (l0.length : Int) ≤ 20 := by omega
  obtain ⟨nm, hnm⟩ : ∃ nm, nm = l0[m].name := ⟨_, rfl⟩
  have A2m := Lib.hid (fun w' hc => by have := A2.out m hm w' hc; rw [← hnm] at this; exact this)
  rw [← hnm] at A1
  have HNM := Lib.hid hnm
  obtain ⟨cm, hcm⟩ : ∃ cm, cm = countS l1 q.tn nm := ⟨_, rfl⟩
  obtain ⟨fm, hfm⟩ : ∃ fm, fm = freeS l0[m] l1 := ⟨_, rfl⟩
  rw [← hfm] at A2m v8
  have HCM := Lib.hid hcm
  have HFM := Lib.hid hfm
  clear s0 g0 m0 c0 n0 k0 s1 g1 m1 c1 n1 k1 h2 hok V v3 v4 v5 v6 v7 hnm hcm hfm
  go_enter Try.func4, Try.ntmps4
  go_wp2_with fail
  rw [← HW1.out]
  refine A0.out.mono ?_; rw [b0]; rintro e w1 ⟨rfl, rfl⟩
  go_wp2_with (go_at_call 8; (refine B0.out.mono ?_); rw [b2]; rintro e w1 ⟨rfl, rfl⟩; (obtain ⟨⟨y0, y1, y2, y3⟩, yl⟩ := HO.out _ D2.out))
  refine (A1.out _ K2.out).mono ?_; rintro e w3 ⟨rfl, hc3⟩
  have D3 := Lib.hid (D2.out.thenSame hc3)
  clear hc3 y0 y1 y2 y3 yl
  go_wp2_with fail
  go_loopw [9, 10, 43] (fun mi fr i wr => ∃ (k : Nat) (n1 n2 : Int), i = .int .i64 k ∧ k ≤ l0.length ∧ mi = .int .i64 n1 ∧ fr = .int .i64 n2 ∧ Hid (m < k → n1 = (cm : Int) ∧ n2 = fm) ∧ Hid (Chg [] W1 wr)) (fun _ _ i _ => l0.length - (intOf i).toNat)
  case atStart => exact ⟨0, 0, 0, rfl, Nat.zero_le _, rfl, rfl, Lib.hid (fun h => absurd h (Nat.not_lt_zero _)), D3⟩
  case round =>
    obtain ⟨k, n1, n2, rfl, hkl, rfl, rfl, HN, D⟩ := hrel
    by_cases hk : k < l0.length
    · obtain ⟨g1, o1, rfl, -, hbr1, hcc⟩ := SW.out.elem (C1.out.thenSame D.out) k hk
      have d0 := hcc 0 (by omega)
      have hij := HIJ.out k hk
      have hmk : m = k → l0[k].name = nm := fun e => by subst e; exact HNM.out.symm
      rw [← HNM.out] at hij
      generalize l0[k] = x at *
      simp only [wkC, List.getElem?_cons_zero, List.getElem?_cons_succ, Nat.add_zero] at d0
      have hk0 : (0 : Int) ≤ (k : Int) := by omega
      have hk1 : (k : Int) < (l0.length : Int) := by omega
      obtain ⟨⟨y0, y1, y2, y3⟩, yl⟩ := HO.out _ D.out
      clear hcc
      cases q1 : x.name.toList == nm.toList
      · have hne : k ≠ m := fun e => by
          have := hmk e.symm
          rw [this] at q1
          simp at q1
        have HN2 := Lib.hid (show m < k + 1 → n1 = (cm : Int) ∧ n2 = fm from fun h => HN.out (by omega))
        clear hij hmk
        go_wp2_with fail
        exact ⟨⟨k + 1, n1, n2, by go_num, by omega, rfl, rfl, HN2, D⟩, by simp [intOf]; omega⟩
      · clear hij hmk
        have B1 := Lib.hid (A3.out wr nm (C1.out.thenSame D.out))
        have B2 := Lib.hid (A2m.out wr (C1.out.thenSame D.out))
        rw [← HCM.out] at B1
        go_wp2_with fail
        refine B1.out.mono ?_; rintro e w5 ⟨rfl, rfl⟩
        go_wp2_with fail
        refine B2.out.mono ?_; rintro e w6 ⟨rfl, hc6⟩
        have D6 := Lib.hid (D.out.thenSame hc6)
        clear hc6
        go_wp2_with fail
        exact ⟨⟨k + 1, (cm : Int), fm, by go_num, by omega, rfl, rfl, Lib.hid (fun _ => ⟨rfl, rfl⟩), D6⟩, by simp [intOf]; omega⟩
    · have hks : k = l0.length := by omega
      subst hks
      obtain ⟨rfl, e2⟩ := HN.out hm
      have e3 := e2.symm
      clear e2
      subst e3
      clear HN
      go_wp2_with fail
      go_loopw [68] (fun i wr => ∃ k : Nat, i = .int .i64 k ∧ k ≤ l0.length ∧ Hid (Chg [] W1 wr)) (fun i _ => l0.length - (intOf i).toNat)
      case atStart => exact ⟨0, rfl, Nat.zero_le _, D⟩
      case round =>
        obtain ⟨k, rfl, hkl, D⟩ := hrel
        obtain ⟨⟨y0, y1, y2, y3⟩, yl⟩ := HO.out _ D.out
        by_cases hk : k < l0.length
        · have hel := fun w' (hc : Chg [] W1 w') => SW.out.elem (C1.out.thenSame hc) k hk
          have hbe := HB.out k hk
          rw [bet_cases, ← HFM.out] at hbe
          have hcmm : countS l1 q.tn l0[m].name = cm := by rw [HCM.out, HNM.out]
          rw [hcmm] at hbe
          have hps : possB l0[k] l1 q = (!l0[k].dr && decide (q.mem ≤ freeS l0[k] l1)) := rfl
          have B2 := Lib.hid (A2.out k hk wr (C1.out.thenSame D.out))
          obtain ⟨g1, o1, rfl, -, hbr1, hcc⟩ := hel wr D.out
          have d0 := hcc 0 (by omega)
          generalize l0[k] = x at *
          simp only [wkC, List.getElem?_cons_zero, List.getElem?_cons_succ, Nat.add_zero] at d0
          have hk0 : (0 : Int) ≤ (k : Int) := by omega
          have hk1 : (k : Int) < (l0.length : Int) := by omega
          generalize freeS x l1 = fx at *
          have B3 := A3.out
          have HCX := Lib.hid (fun w' hc => A3.out w' x.name hc)
          generalize countS l1 q.tn x.name = cx at *
          clear hcc
          go_wp2_with fail
          refine B2.out.mono ?_; rintro e w6 ⟨rfl, hc6⟩
          have D6 := Lib.hid (D.out.thenSame hc6)
          obtain ⟨g2, o2, e2, -, hbr2, hcc⟩ := hel w6 D6.out
          cases e2
          have d0' := hcc 0 (by omega)
          have d2' := hcc 2 (by omega)
          simp only [wkC, List.getElem?_cons_zero, List.getElem?_cons_succ, Nat.add_zero] at d0' d2'
          clear hc6 y0 y1 y2 y3 yl
          obtain ⟨⟨y0, y1, y2, y3⟩, yl⟩ := HO.out _ D6.out
          have B8 : ∀ d os, Calls Try.prog 15 #[.slice a1 l1.length cap1, .string q.tn, .string x.name] (Go.Sort.grow (redrawn w6 d) os) fun e w'' => e = .returned (.int .i64 (cx : Nat)) ∧ ∃ p : Regrown, w'' = Go.Sort.grow (redrawn w6 p.d) p.os := fun d os => calls_regrown ((HCX.out _ (C1.out.thenSame (D6.out.thenSame (chg_regrown w6 d os)))).mono (fun e w' ⟨h1, h2⟩ => ⟨h1, h2 ▸ Chg.refl _ _⟩))
          have q0 := fun d os => ((below_regrown w6 d os).cell (p := ⟨g1, o1 + k * 3, none⟩) hbr2).trans d0'
          have q1 := fun d os => ((below_regrown w6 d os).cell (p := ⟨w.heap.size, 1, none⟩) yl).trans y1
          have HB8 := Lib.hid B8
          clear B8 hcc d0 hel
          go_wp2_with fail
          refine wp_region_quiet_below (by kernel_rfl) (by kernel_rfl) ?_
          repeat (any_goals (first | go_big_quiet_step (exact HB8.out _ _) | quiet_step (exact HB8.out _ _)))
          refine wpQuiet_nil ?_
          intro _ hw'
          obtain ⟨⟨dq, osq⟩, hw''⟩ := hw'
          subst hw''
          have D7 := Lib.hid (D6.out.thenSame (chg_regrown w6 dq osq))
          have e2' := (((below_regrown w6 dq osq).cell (p := ⟨g1, o1 + k * 3 + 2, none⟩) hbr2).trans d2')
          have lr' := Nat.lt_of_lt_of_le hbr2 (below_regrown w6 dq osq).size
          clear q0 q1 HB8 d0' d2' y0 y1 y2 y3 yl
          obtain ⟨⟨y0, y1, y2, y3⟩, yl⟩ := HO.out _ D7.out
          change Exit.then _ _ Exit.normal _ (Go.Sort.grow (redrawn w6 dq) osq)
          generalize Go.Sort.grow (redrawn w6 dq) osq = w7 at *
          have hc0 : (0 : Int) ≤ (cx : Int) := by omega
          cases hdr : x.dr
          case true =>
            clear hbe hps
            go_wp2_with fail
            exact ⟨⟨k + 1, by go_num, by omega, D7⟩, by simp [intOf]; omega⟩
          by_cases hf : q.mem ≤ fx
          case neg =>
            have hf' : fx < q.mem := by omega
            clear hbe hps
            go_wp2_with fail
            exact ⟨⟨k + 1, by go_num, by omega, D7⟩, by simp [intOf]; omega⟩
          have hb := hbe (by rw [hps, hdr, decide_eq_true hf]; rfl)
          simp only [Bool.or_eq_false_iff, Bool.and_eq_false_iff, decide_eq_false_iff_not] at hb
          obtain ⟨hb1, hb2⟩ := hb
          have hb1' : (cm : Int) ≤ (cx : Int) := by omega
          clear hbe hps hb1
          by_cases hcc : cx = cm
          · subst hcc
            have hb2' : fx ≤ fm := by omega
            clear hb2
            go_wp2_with fail
            exact ⟨⟨k + 1, by go_num, by omega, D7⟩, by simp [intOf]; omega⟩
          · have hne : ((cx : Int) == (cm : Int)) = false := beq_eq_false_iff_ne.2 (by omega)
            clear hb2
            go_wp2_with fail
            exact ⟨⟨k + 1, by go_num, by omega, D7⟩, by simp [intOf]; omega⟩
        · have hks : k = l0.length := by omega
          subst hks
          go_wp2_with (go_at_call 9; (with_reducible refine (awake_any _).mono ?_); rintro e w11 ⟨rfl, hc11⟩; have D11 := Lib.hid (D.out.thenSame hc11); clear hc11)
          go_ret
          exact ⟨rfl, (C1.out.thenSame D11.out).toBelow (Nat.le_refl _) (by simp)⟩
end Go.Proofs.Ytjbnfaapkicejaa
