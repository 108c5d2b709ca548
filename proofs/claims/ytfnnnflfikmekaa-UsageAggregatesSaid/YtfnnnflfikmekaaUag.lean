/- Chapter 52: UsageAggregates: Total is the sum of what ByFunction returns without faults for all Functions. No condition. -/
import Derived.Test.YtfnnnflfikmekaaUpD
import Derived.Test.YtfnnnflfikmekaaUseX
namespace Go.Proofs.Ytfnnnflfikmekaa
set_option linter.unusedVariables false
set_option linter.unusedSimpArgs false
open Go.RowKit
set_option maxHeartbeats 8000000 in
set_option maxRecDepth 100000 in
theorem aggs_walk (a0 : Option Addr) (len0 cap0 : Nat) (l0 : List OpU) (tn : ByteArray) (p : Int) (w : World) (h0 : SlIs opC 11 w a0 len0 l0 ∧ (∀ x ∈ l0, x.good) ∧ len0 ≤ maxLen ∧ len0 ≤ cap0) (h1 : tn.size ≤ maxLen) (_h2 : (Lit.int .i64 p).wf = true) :
    Calls Try.prog 7 #[.slice a0 len0 cap0, .string tn, .int .i64 p] w fun e w' => e = .returned (.bool true) ∧ Below w.heap.size w w' := by
  obtain ⟨s0, g0, m0, c0⟩ := h0
  obtain rfl := s0.1
  have S0 := Lib.hid s0
  have G0 := Lib.hid g0
  have N2 := Lib.hid h1
  have A0 := Lib.hid (fun w' (hc : Chg [] w w') => smallF_any a0 l0.length cap0 l0 w' (S0.out.kept hc) G0.out m0)
  have hbad : (smallU l0 = false ∨ (smallU l0 = true ∧ (100 : Int) < (tn.size : Int))) ∨ (smallU l0 = true ∧ (tn.size : Int) ≤ 100) := by
    by_cases e0 : smallU l0 = true
    · by_cases hq : (tn.size : Int) ≤ 100
      · exact .inr ⟨e0, hq⟩
      · exact .inl (.inr ⟨e0, by omega⟩)
    · exact .inl (.inl (by simpa using e0))
  unfold maxLen at h1
  clear s0 g0 c0 m0
  rcases hbad with hbad | ⟨b0, b2⟩
  · rcases hbad with b0 | ⟨b0, b2⟩
    all_goals
      go_enter Try.func7, Try.ntmps7
      go_wp2_with (first
        | (go_at_call 9; (with_reducible refine (A0.out _ (Chg.refl _ _)).mono ?_); rw [b0]; rintro e w1 ⟨rfl, hc1⟩; have C1 := Lib.hid hc1; clear hc1)
        | (go_at_call 10; (with_reducible refine (awake_any _).mono ?_); rintro e w3 ⟨rfl, hc3⟩; have C3 := Lib.hid hc3; clear hc3))
      go_ret
      exact ⟨rfl, (C1.out.thenSame C3.out).toBelow (Nat.le_refl _) (by simp)⟩
  have n0 : l0.length ≤ 60 := by
    unfold smallU at b0
    simp only [Bool.and_eq_true, decide_eq_true_eq] at b0
    exact b0.1
  have N0 := Lib.hid n0
  obtain ⟨f1, f2, f3⟩ := play0_facts l0 n0
  have F1 := Lib.hid f1
  have FO := Lib.hid (play_ok l0 ⟨[], 0⟩ (fun c hc => by simp at hc))
  clear n0 f1 f2 f3
  go_enter Try.func7, Try.ntmps7
  go_wp2_with (first
    | (go_at_call 9; (with_reducible refine (A0.out _ (Chg.refl _ _)).mono ?_); rw [b0]; rintro e w1 ⟨rfl, hc1⟩; have C1 := Lib.hid hc1; clear hc1)
    | (go_at_call 11; (with_reducible refine (new_first C1.out).mono ?_); rintro e w3 ⟨b, rfl, hp3⟩; have HP := Lib.hid hp3; clear hp3)
    | (go_at_call 12; (with_reducible refine (p_play noSide HP.out a0 cap0 l0 S0.out G0.out (by have := N0.out; simp; omega)).mono ?_); rintro e w4 ⟨rfl, hp4⟩; have HP := Lib.hid hp4; clear hp4))
  generalize l0.foldl stepU ⟨[], 0⟩ = s at *
  obtain ⟨T, hT⟩ : ∃ T, T = totU s tn p := ⟨_, rfl⟩
  have HOK := Lib.hid (fun h => total_ok s tn p h)
  have U1 := p_total noSide HP.out tn p N2.out (by have := F1.out; omega)
  rw [← hT] at U1 HOK
  obtain ⟨T1, T2⟩ := T
  unfold usV at U1
  simp only at U1 HOK
  clear hT
  refine U1.mono ?_; rintro e w5 ⟨rfl, hc5, hp5⟩
  have D5 := Lib.hid ((hc5.alloc (usO T1)).alloc (usO zU))
  have X5 := Lib.hid (blk_alloc (o' := usO zU) (heap_alloc_new w5 (usO T1)))
  have Z5 := Lib.hid (show ((w5.alloc (usO T1)).alloc (usO zU)).heap[w5.heap.size + 1]? = some (usO zU) by
    have := heap_alloc_new (w5.alloc (usO T1)) (usO zU)
    rw [World.size_alloc] at this
    exact this)
  have L5 := Lib.hid (show w4.heap.size ≤ w5.heap.size from hc5.size)
  have S5 := Lib.hid (show ((w5.alloc (usO T1)).alloc (usO zU)).heap.size = w5.heap.size + 1 + 1 by simp)
  clear U1 hc5 hp5
  go_wp2_with fail
  unfold usO zU at D5 X5 Z5 S5
  simp only at D5 X5 Z5 S5
  generalize (w5.alloc (.cells #[.int .i64 T1.inv, .int .i64 T1.steps, .int .i64 T1.ticks, .int .i64 T1.units] 28)).alloc (.cells #[.int .i64 0, .int .i64 0, .int .i64 0, .int .i64 0] 28) = W6 at *
  generalize w5.heap.size = u5 at *
  obtain ⟨mb, v, hL⟩ := HP.out.led
  refine (funcs_any tn p (hL.keptN D5.out) (by have := F1.out; omega)).mono ?_
  rintro e w7 ⟨v', rfl, hr7, hc7⟩
  obtain ⟨a, cap, rfl⟩ := RowOf.shape hr7
  have hagg := agg_total s tn p
  have hsz := fns_size s FO.out tn p
  have hfl := fns_len s tn p
  have hstep := agg_step s tn p (fnsU s tn p)
  have HG : Hid (T2 = 0 → T1 = aggT s tn p (fnsU s tn p)) := Lib.hid (fun h => by rw [hagg]; exact HOK.out h)
  generalize fnsU s tn p = F at *
  have HSZ := Lib.hid hsz
  have HST := Lib.hid hstep
  have HFL := Lib.hid (show F.length ≤ 60 from Nat.le_trans hfl F1.out)
  have R7 := Lib.hid hr7
  have D7 := Lib.hid (D5.out.thenSame hc7)
  have X7 := Lib.hid (hc7.at (by simp) X5.out)
  have Z7 := Lib.hid (hc7.at (by simp) Z5.out)
  have L7 := Lib.hid (show u5 + 2 ≤ W6.heap.size by rw [S5.out]; omega)
  clear hr7 hc7 hagg hsz hfl hstep HOK X5 Z5 D5 hL
  go_wp2_with fail
  go_loopw [42] (fun i wr => ∃ (k : Nat) (u : Us), i = .int .i64 k ∧ k ≤ F.length ∧ Hid (u = aggT s tn p (F.take k)) ∧ Hid (wr.heap[u5]? = some (.cells #[.int .i64 T1.inv, .int .i64 T1.steps, .int .i64 T1.ticks, .int .i64 T1.units] 28)) ∧ Hid (wr.heap[u5 + 1]? = some (.cells #[.int .i64 u.inv, .int .i64 u.steps, .int .i64 u.ticks, .int .i64 u.units] 28)) ∧ Hid (RowOf kc 1 wr W6.heap.size 9 (.slice a F.length cap) F) ∧ Hid (Chg [] w4 wr)) (fun i _ => F.length - (intOf i).toNat)
  case atStart => exact ⟨0, zU, rfl, Nat.zero_le _, Lib.hid rfl, X7, Z7, R7, D7⟩
  case round =>
    obtain ⟨k, u, rfl, hkl, HU, X, Z, R, D⟩ := hrel
    by_cases hk : k < F.length
    · rcases RowOf.at R.out kLen with ⟨_, hl⟩ | ⟨g, cap', hv, _, _, hcell, _, hgb, hgl⟩
      · rw [hl] at hk; simp at hk
      cases hv
      have c0 := hcell k hk 0 (by omega)
      have hst := HST.out k hk
      have hsz := HSZ.out F[k] (List.getElem_mem hk)
      rw [← HU.out] at hst
      simp only [kc, encStr, List.getElem?_cons_zero, Nat.add_zero, Nat.mul_one] at c0
      generalize F[k] = x at *
      have hk0 : (0 : Int) ≤ (k : Int) := by omega
      have hk1 : (k : Int) < (F.length : Int) := by omega
      have hf64 : F.length ≤ 60 := HFL.out
      have A1 := p_byf noSide (HP.out.keptN (sideL _ _) noSide D.out) tn ⟨x.toArray⟩ p N2.out (by show (x.toArray).size ≤ maxLen; rw [List.size_toArray]; unfold maxLen; omega) (by have := F1.out; omega)
      have hbo := by_ok s tn ⟨x.toArray⟩ p
      generalize byU s tn ⟨x.toArray⟩ p = B at *
      obtain ⟨B1, B2, B3⟩ := B
      unfold usV at A1
      simp only at A1 hbo
      have HA1 := Lib.hid A1
      have HBO := Lib.hid hbo
      have HST' := Lib.hid hst
      clear hcell A1 hbo hst hsz
      go_wp2_with fail
      refine HA1.out.mono ?_; rintro e w8 ⟨rfl, hc8, -⟩
      have hc10 : Chg [] w8 ((w8.alloc (usO B1)).alloc (usO B2)) := ((Chg.refl _ _).alloc _).alloc _
      have hcc := hc8.thenSame hc10
      have D8 := Lib.hid (D.out.thenSame hcc)
      have X8 := Lib.hid (hcc.at (by simp) X.out)
      have Z8 := Lib.hid (hcc.at (by simp) Z.out)
      have R8 := Lib.hid (R.out.kept hcc (by simp))
      have B8 := Lib.hid (blk_alloc (o' := usO B2) (heap_alloc_new w8 (usO B1)))
      unfold usO at D8 X8 Z8 R8 B8
      have z8 := blk_cell Z8.out
      have b8 := blk_cell B8.out
      have lz8 := lt_of_heap Z8.out
      have lb8 := lt_of_heap B8.out
      clear hc8 hc10 hcc HA1 c0
      by_cases hB : B3 = 0
      case neg =>
        have hB' : (B3 == 0) = false := by simpa using hB
        go_wp2_with (first
          | (go_at_call 10; (with_reducible refine (awake_any _).mono ?_); rintro e w11 ⟨rfl, hc11⟩; have C11 := Lib.hid ((HP.out.chg.thenSame D8.out).thenSame hc11); clear hc11))
        go_ret
        exact ⟨rfl, C11.out.toBelow (Nat.le_refl _) (by simp)⟩
      subst hB
      have hBO := HBO.out rfl
      subst hBO
      have A2 := radd_any u (tot (ofB tn ⟨x.toArray⟩ p false) s.l)
      have hok := @add_ok u (tot (ofB tn ⟨x.toArray⟩ p false) s.l)
      have HST2 := HST'.out
      generalize tot (ofB tn ⟨x.toArray⟩ p false) s.l = B at *
      generalize addU u B = q at *
      obtain ⟨q1, q2⟩ := q
      unfold usV at A2
      simp only at A2 hok
      have HA2 := Lib.hid A2
      have HOK2 := Lib.hid hok
      have HST3 := Lib.hid HST2
      clear A2 hok HST2 HBO HST'
      go_wp2_with fail
      refine (HA2.out _).mono ?_; rintro e w11 ⟨rfl, hc11⟩
      have D11 := Lib.hid (D8.out.thenSame hc11)
      have X11 := Lib.hid (hc11.at (by simp) X8.out)
      have Z11 := Lib.hid (hc11.at (by simp) Z8.out)
      have R11 := Lib.hid (R8.out.kept hc11 (by simp))
      have f11 := blk_free Z11.out
      have z11 := blk_cell Z11.out
      have l11 := lt_of_heap Z11.out
      have l5 := L5.out
      have l7 := L7.out
      clear hc11 z8 b8 lz8 lb8 D8 X8 Z8 R8 B8
      have hDs : Chg [] w4 (set4 w11 (u5 + 1) q1) := D11.out.then (four_chg w11 (u5 + 1) _ _ _ _) (by intro y hy hl; simp at hy; omega)
      have HDs := Lib.hid hDs
      clear hDs
      by_cases hq : q2 = 0
      · subst hq
        have hq1 := HOK2.out rfl
        have HK : Hid (q1 = aggT s tn p (F.take (k + 1))) := Lib.hid (by rw [HST3.out, hq1])
        have hXs := (four_chg w11 (u5 + 1) (.int .i64 q1.inv) (.int .i64 q1.steps) (.int .i64 q1.ticks) (.int .i64 q1.units)).at (b := u5) (by simp) X11.out
        have hZs := four_at (.int .i64 q1.inv) (.int .i64 q1.steps) (.int .i64 q1.ticks) (.int .i64 q1.units) Z11.out
        have hRs := R11.out.kept (four_chg w11 (u5 + 1) (.int .i64 q1.inv) (.int .i64 q1.steps) (.int .i64 q1.ticks) (.int .i64 q1.units)) (fun g' hg' => by have := (R11.out.block g' hg').1; simp; omega)
        have HXs := Lib.hid hXs
        have HZs := Lib.hid hZs
        have HRs := Lib.hid hRs
        clear hXs hZs hRs hq1
        go_wp2_with fail
        exact ⟨⟨k + 1, q1, by go_num, by omega, HK, HXs, HZs, HRs, HDs⟩, by simp [intOf]; omega⟩
      · have hq' : (q2 == 0) = false := by simpa using hq
        go_wp2_with (first
          | (go_at_call 10; (with_reducible refine (awake_any _).mono ?_); rintro e w12 ⟨rfl, hc12⟩; have C12 := Lib.hid ((HP.out.chg.thenSame HDs.out).thenSame hc12); clear hc12))
        go_ret
        exact ⟨rfl, C12.out.toBelow (Nat.le_refl _) (by simp)⟩
    · have hkE : k = F.length := by omega
      subst hkE
      have x8 := blk_cell X.out
      have z8 := blk_cell Z.out
      have lx8 := lt_of_heap X.out
      have lz8 := lt_of_heap Z.out
      by_cases hT : T2 = 0
      · have hu : u = T1 := by rw [HU.out, HG.out hT, List.take_length]
        subst hu
        subst hT
        have QE := Lib.hid (fun w => eqlU u u w)
        rw [eqU_self] at QE
        unfold usV at QE
        have Q := QE.out
        go_wp2_with (first
          | (go_at_call 10; (with_reducible refine (awake_any _).mono ?_); rintro e w12 ⟨rfl, hc12⟩; have C12 := Lib.hid ((HP.out.chg.thenSame D.out).thenSame hc12); clear hc12))
        go_ret
        exact ⟨rfl, C12.out.toBelow (Nat.le_refl _) (by simp)⟩
      · have hT' : (T2 == 0) = false := by simpa using hT
        go_wp2_with (first
          | (go_at_call 10; (with_reducible refine (awake_any _).mono ?_); rintro e w12 ⟨rfl, hc12⟩; have C12 := Lib.hid ((HP.out.chg.thenSame D.out).thenSame hc12); clear hc12))
        go_ret
        exact ⟨rfl, C12.out.toBelow (Nat.le_refl _) (by simp)⟩
end Go.Proofs.Ytfnnnflfikmekaa
