/- Chapter 22: SecretWorks: a vault answers as defined after any operations. No condition. -/
import Derived.Test.YtldilefhmpipkaaSedK
import Derived.Deep.RegionHeld3
namespace Go.Proofs.Ytldilefhmpipkaa
set_option linter.unusedVariables false
set_option linter.unusedSimpArgs false
open Go.RowKit



set_option maxHeartbeats 32000000 in
set_option maxRecDepth 100000 in
theorem works_walk (a0 : Option Addr) (len0 cap0 : Nat) (l : List OpD) (w : World) (h0 : SlIs oCells 6 w a0 len0 l ∧ (∀ x ∈ l, x.good) ∧ len0 ≤ maxLen ∧ len0 ≤ cap0) :
    Calls Try.prog 6 #[.slice a0 len0 cap0] w fun e w' => e = .returned (.bool true) ∧ Below w.heap.size w w' := by
  obtain ⟨s0, g0, m0, _⟩ := h0
  have hA1 := smallF_any a0 len0 cap0 l w s0 g0 m0
  have S0' := Lib.hid s0
  cases b1 : smallL l
  · rw [b1] at hA1
    have A1 := Lib.hid hA1
    clear b1 hA1 g0 m0 s0
    go_enter Try.func6, Try.ntmps6
    go_wp2_with fail
    refine A1.out.mono ?_; rintro e w1 ⟨rfl, rfl⟩
    go_wp2_with fail
    refine (awake_any _).mono ?_; rintro e w9 ⟨rfl, hc9⟩
    have C9 := Lib.hid hc9
    clear hc9
    go_wp2_with fail
    go_ret
    exact ⟨rfl, C9.out.toBelow (Nat.le_refl _) (by simp)⟩
  rw [b1] at hA1
  have A1 := Lib.hid hA1
  have hlen : (len0 : Int) ≤ 9223372036854775807 := by unfold maxLen at m0; omega
  have Hl := Lib.hid s0.1
  have Hg := Lib.hid g0
  have Hsim := Lib.hid (fun k => sim_play (l.take k))
  have Hnok := Lib.hid (fun k => play_nok (l.take k))
  clear b1 hA1 g0 m0 s0
  go_enter Try.func6, Try.ntmps6
  go_wp2_with fail
  refine A1.out.mono ?_; rintro e w1 ⟨rfl, rfl⟩
  go_wp2_with fail
  refine (new_any w).mono ?_; rintro e w1 ⟨vb, mb, rfl, hv, hvb, hmb, hc1⟩
  have O1 : Hid (OwnC w w1 vb []) := Lib.hid ⟨⟨mb, [], rfl, hv, by simp [fp, blks]; omega⟩, hc1⟩
  clear hc1 hv hmb hvb
  go_wp2_with fail
  refine (two_start O1.out).mono ?_; rintro e w3 ⟨rb, rfl, ht3⟩
  have T3 := Lib.hid ht3
  clear ht3
  go_wp2_with fail
  go_loopw [26] (fun i wr => ∃ k : Nat, i = .int .i64 k ∧ k ≤ len0 ∧ Two w wr vb (playS (l.take k)) rb (rplayS (l.take k))) (fun i _ => len0 - (intOf i).toNat)
  case atStart => exact ⟨0, rfl, Nat.zero_le _, T3.out⟩
  case round =>
    obtain ⟨k, rfl, hkl, htw⟩ := hrel
    have HT := Lib.hid htw
    clear htw
    by_cases hlt : k < len0
    · have hk2 : k < l.length := by rw [Hl.out]; exact hlt
      obtain ⟨b, off, rfl, hbl, hbr, -⟩ := S0'.out.elem HT.out.chg k hk2
      have hst1 := play_step l k hk2
      have hst2 := rplay_step l k hk2
      obtain ⟨x, hx⟩ : ∃ x, x = l[k] := ⟨_, rfl⟩
      have hxg := Hg.out x (hx ▸ List.getElem_mem hk2)
      rw [← hx] at hst1 hst2
      have hsm := Hsim.out k
      have hsm2 := Hsim.out (k + 1)
      have hnk2 := Hnok.out (k + 1)
      have hrr := (hsm.step x).1
      have A := two_done HT.out hsm.ok x hxg
      rw [← hst1] at A
      have HA := Lib.hid A
      have HB := Lib.hid (fun w' (h : Two w w' vb (playS (l.take (k + 1))) rb (rplayS (l.take k))) => two_spec h ⟨_, hsm⟩ x hxg)
      rw [← hst2, hrr] at HB
      generalize stepR (playS (l.take k)) x = R at *
      generalize hL2 : playS (l.take (k + 1)) = L2 at *
      generalize hM2 : rplayS (l.take (k + 1)) = M2 at *
      have HL2 := Lib.hid hL2
      have HM2 := Lib.hid hM2
      clear hL2 hM2
      have Sm2 := Lib.hid hsm2
      have Nk2 := Lib.hid hnk2
      have HE := Lib.hid (show ∀ w', Chg [] w w' → ∀ j, j < 6 → w'.cell? ⟨b, off + k * 6 + j, none⟩ = (oCells x)[j]? from fun w' hc => by
        obtain ⟨b', off', he, -, -, h⟩ := S0'.out.elem hc k hk2
        cases he
        rw [← hx] at h
        exact h)
      have hk0 : (0 : Int) ≤ (k : Int) := by omega
      have hk1 : (k : Int) < (len0 : Int) := by omega
      obtain ⟨r1, r2⟩ := R
      obtain ⟨kd, nm, tx, fn, gr, nw⟩ := x
      simp only at *
      have hcc := HE.out _ HT.out.chg
      have d0 := hcc 0 (by omega)
      have d1 := hcc 1 (by omega)
      have d2 := hcc 2 (by omega)
      have d3 := hcc 3 (by omega)
      have d4 := hcc 4 (by omega)
      have d5 := hcc 5 (by omega)
      simp only [oCells, List.getElem?_cons_zero, List.getElem?_cons_succ, Nat.add_zero] at d0 d1 d2 d3 d4 d5
      clear hcc
      clear hx hst1 hst2 hxg A hsm hsm2 hnk2 hrr
      go_wp2_with fail
      refine HA.out.mono ?_; rintro e w4 ⟨rfl, ht4⟩
      have B4 := Lib.hid (HB.out _ ht4)
      clear d0 d1 d2 d3 d4 d5
      have hcc := HE.out _ ht4.chg
      have d0 := hcc 0 (by omega)
      have d1 := hcc 1 (by omega)
      have d2 := hcc 2 (by omega)
      have d3 := hcc 3 (by omega)
      have d4 := hcc 4 (by omega)
      have d5 := hcc 5 (by omega)
      simp only [oCells, List.getElem?_cons_zero, List.getElem?_cons_succ, Nat.add_zero] at d0 d1 d2 d3 d4 d5
      clear hcc
      clear ht4
      go_wp2_with fail
      refine B4.out.mono ?_; rintro e w5 ⟨rfl, ht5⟩
      have T5 := Lib.hid ht5
      have Q1 := Lib.hid (q_read ht5 nm fn)
      have Q2 := Lib.hid (q_rread ht5 Sm2.out nm fn)
      have Q3 := Lib.hid (q_acc ht5 nm tx nw)
      have Q4 := Lib.hid (q_racc ht5 Sm2.out nm tx nw)
      have Q5 := Lib.hid (q_names ht5 Sm2.out.ok Nk2.out fn)
      have Q6 := Lib.hid (q_rnames ht5 Sm2.out fn)
      have Hnl := Lib.hid (namesS_len Sm2.out.ok fn)
      clear d0 d1 d2 d3 d4 d5
      have HE5 := Lib.hid (fun w' (hc : Chg [] w5 w') => HE.out w' (ht5.chg.thenSame hc))
      have hcc := HE.out _ ht5.chg
      have d0 := hcc 0 (by omega)
      have d1 := hcc 1 (by omega)
      have d2 := hcc 2 (by omega)
      have d3 := hcc 3 (by omega)
      have d4 := hcc 4 (by omega)
      have d5 := hcc 5 (by omega)
      simp only [oCells, List.getElem?_cons_zero, List.getElem?_cons_succ, Nat.add_zero] at d0 d1 d2 d3 d4 d5
      clear hcc
      generalize readS L2 nm fn = RS at *
      generalize accB L2 nm tx nw = AC at *
      generalize namesS L2 fn = NS at *
      obtain ⟨t1, t2, t3⟩ := RS
      simp only at Q1 Q2
      have hb5 : b < w5.heap.size := ht5.chg.lt hbl
      clear ht5
      have B5 := Lib.hid (fun d os => calls_regrown (Q1.out _ (chg_regrown w5 d os)))
      have q1 := fun d os => ((below_regrown w5 d os).cell (p := ⟨b, off + k * 6 + 1, none⟩) hb5).trans d1
      have q3 := fun d os => ((below_regrown w5 d os).cell (p := ⟨b, off + k * 6 + 3, none⟩) hb5).trans d3
      clear d0 d1 d2 d3 d4 d5
      go_wp2_with fail
      refine wp_region_quiet_below (by kernel_rfl) (by kernel_rfl) ?_
      repeat (any_goals (first | go_big_quiet_step (exact B5.out _ _) | quiet_step (exact B5.out _ _)))
      refine wpQuiet_nil ?_
      intro _ hw'
      obtain ⟨⟨dq, osq⟩, hw''⟩ := hw'
      subst hw''
      obtain ⟨w6, hw6⟩ : ∃ w6, w6 = Go.Sort.grow (redrawn w5 dq) osq := ⟨_, rfl⟩
      have hc6 := chg_regrown w5 dq osq
      rw [← hw6] at hc6 ⊢
      have HC6 := Lib.hid hc6
      have hcc := HE.out _ (T5.out.chg.thenSame hc6)
      have d0 := hcc 0 (by omega)
      have d1 := hcc 1 (by omega)
      have d2 := hcc 2 (by omega)
      have d3 := hcc 3 (by omega)
      have d4 := hcc 4 (by omega)
      have d5 := hcc 5 (by omega)
      simp only [oCells, List.getElem?_cons_zero, List.getElem?_cons_succ, Nat.add_zero] at d0 d1 d2 d3 d4 d5
      clear hcc
      have HS := Lib.hid (show ∀ w', Chg [] w6 w' → w'.cell? ⟨b, off + k * 6 + 1, none⟩ = some (.string nm) ∧ w'.cell? ⟨b, off + k * 6 + 2, none⟩ = some (.string tx) ∧ w'.cell? ⟨b, off + k * 6 + 3, none⟩ = some (.string fn) ∧ w'.cell? ⟨b, off + k * 6 + 5, none⟩ = some (.int .i64 nw) from fun w' hc => by
        have hcc := HE.out _ (T5.out.chg.thenSame (HC6.out.thenSame hc))
        have d0 := hcc 0 (by omega)
        have d1 := hcc 1 (by omega)
        have d2 := hcc 2 (by omega)
        have d3 := hcc 3 (by omega)
        have d4 := hcc 4 (by omega)
        have d5 := hcc 5 (by omega)
        simp only [oCells, List.getElem?_cons_zero, List.getElem?_cons_succ, Nat.add_zero] at d0 d1 d2 d3 d4 d5
        clear hcc
        exact ⟨d1, d2, d3, d5⟩)
      have P2 := Lib.hid (fun w' hc => Q2.out w' (HC6.out.thenSame hc))
      have P3 := Lib.hid (fun w' hc => Q3.out w' (HC6.out.thenSame hc))
      have P4 := Lib.hid (fun w' hc => Q4.out w' (HC6.out.thenSame hc))
      have P5 := Lib.hid (fun w' hc => Q5.out w' (HC6.out.thenSame hc))
      have P6 := Lib.hid (fun w' hc => Q6.out w' (HC6.out.thenSame hc))
      clear d0 d4 q1 q3 hc6 hw6 B4 B5 Q1 Q2 Q3 Q4 Q5 Q6 HA HB
      go_wp2_with fail
      go_region_held3 (fun w' => w'.cell? ⟨b, off + k * 6 + 1, none⟩ = some (.string nm) ∧ w'.cell? ⟨b, off + k * 6 + 2, none⟩ = some (.string tx) ∧ w'.cell? ⟨b, off + k * 6 + 3, none⟩ = some (.string fn) ∧ w'.cell? ⟨b, off + k * 6 + 5, none⟩ = some (.int .i64 nw))
        (first | go_keep | exact HS.out _ hc7)
        (first
          | (go_at_call 23; refine Calls.mono (P2.out _ ?_) ?_; exact (Chg.refl [] w6).drew; rintro e w7 ⟨rfl, hd7⟩; have hc7 : Chg [] w6 w7 := ((Chg.refl [] w6).drew).thenSame hd7))
      obtain ⟨f1, f2, f3, f5⟩ := HS.out _ hc7
      clear d1 d2 d3 d5 hd7
      go_wp2_with fail
      simp only [List.append_eq, List.cons_append, List.nil_append]
      go_region_held3 (fun w' => w'.cell? ⟨b, off + k * 6 + 1, none⟩ = some (.string nm) ∧ w'.cell? ⟨b, off + k * 6 + 2, none⟩ = some (.string tx) ∧ w'.cell? ⟨b, off + k * 6 + 3, none⟩ = some (.string fn) ∧ w'.cell? ⟨b, off + k * 6 + 5, none⟩ = some (.int .i64 nw))
        (first | go_keep | exact HS.out _ hc12 | exact HS.out _ hc11 | exact HS.out _ hc10 | exact HS.out _ hc9 | exact HS.out _ hc8)
        (first
          | (go_at_call 16; refine Calls.mono (P3.out _ ?_) ?_; exact hc7.drew; rintro e w8 ⟨rfl, hd8⟩; have hc8 : Chg [] w6 w8 := hc7.drew.thenSame hd8)
          | (go_at_call 24; refine Calls.mono (P4.out _ ?_) ?_; exact hc8; rintro e w9 ⟨rfl, hd9⟩; have hc9 : Chg [] w6 w9 := hc8.thenSame hd9)
          | (go_at_call 26; refine Calls.mono (P5.out _ ?_) ?_; exact hc9; rintro e w10 ⟨sa1, sc1, rfl, hs1, hd10⟩; have hc10 : Chg [] w6 w10 := hc9.thenSame hd10)
          | (go_at_call 27; refine Calls.mono (P6.out _ ?_) ?_; exact hc10; rintro e w11 ⟨sa2, sc2, rfl, hs2, hd11⟩; have hc11 : Chg [] w6 w11 := hc10.thenSame hd11)
          | (go_at_call 25; refine Calls.mono (same_any sa1 sa2 sc1 sc2 NS _ ?_ hs2 ?_) ?_; exact hs1.kept hd11; exact Nat.le_trans Hnl.out (by decide); rintro e w12 ⟨rfl, hd12⟩; have hc12 : Chg [] w6 w12 := hc11.thenSame hd12))
      have T12 := T5.out.keptN (HC6.out.thenSame hc12)
      rw [← HL2.out, ← HM2.out] at T12
      have HT12 := Lib.hid T12
      clear T12 hd8 hd9 hd10 hd11 hd12 hs1 hs2 f1 f2 f3 f5 hc7 hc8 hc9 hc10 hc11 hc12
      go_wp2_with fail
      exact ⟨⟨k + 1, by go_num, by omega, HT12.out⟩, by simp [intOf]; omega⟩
    · have HT2 := Lib.hid HT.out.below
      go_wp2_with fail
      refine (awake_any _).mono ?_; rintro e w9 ⟨rfl, hc9⟩
      have C9 := Lib.hid hc9
      clear hc9
      go_wp2_with fail
      go_ret
      exact ⟨rfl, (HT.out.keptN C9.out).below⟩
end Go.Proofs.Ytldilefhmpipkaa
