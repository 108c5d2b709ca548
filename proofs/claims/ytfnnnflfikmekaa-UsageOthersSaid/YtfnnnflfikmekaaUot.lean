/- Chapter 52: UsageOthers: records of other tenants do not affect a sum. No condition. -/
import Derived.Test.YtfnnnflfikmekaaUpE
import Derived.Test.YtfnnnflfikmekaaUsf
namespace Go.Proofs.Ytfnnnflfikmekaa
set_option linter.unusedVariables false
set_option linter.unusedSimpArgs false
open Go.RowKit
theorem opsElem : Try.prog.underlying 22 = some (.slice (Try.prog.elem 22)) := by kernel_rfl
theorem opsSize (w : World) : (sizeOf (Try.prog.elem 22)).run Try.prog w = .ok 11 w := by kernel_rfl
set_option maxHeartbeats 8000000 in
set_option maxRecDepth 100000 in
theorem others_walk (a0 : Option Addr) (len0 cap0 : Nat) (l0 : List OpU) (tn : ByteArray) (p : Int) (w : World) (h0 : SlIs opC 11 w a0 len0 l0 ∧ (∀ x ∈ l0, x.good) ∧ len0 ≤ maxLen ∧ len0 ≤ cap0) (h1 : tn.size ≤ maxLen) (_h2 : (Lit.int .i64 p).wf = true) :
    Calls Try.prog 4 #[.slice a0 len0 cap0, .string tn, .int .i64 p] w fun e w' => e = .returned (.bool true) ∧ Below w.heap.size w w' := by
  obtain ⟨s0, g0, m0, c0⟩ := h0
  obtain rfl := s0.1
  have S0 := Lib.hid s0
  have G0 := Lib.hid g0
  have N2 := Lib.hid h1
  have A0 := Lib.hid (fun w' (hc : Chg [] w w') => smallF_any a0 l0.length cap0 l0 w' (S0.out.kept hc) G0.out m0)
  have hbad : (smallU l0 = false ∨ (smallU l0 = true ∧ (100 : Int) < (tn.size : Int))) ∨ (smallU l0 = true ∧ (tn.size : Int) ≤ 100) := by
    by_cases e0 : smallU l0 = true
    · by_cases hq : (tn.size : Int) ≤ 100
      · exact .inr ⟨e0, hq⟩
      · exact .inl (.inr ⟨e0, by omega⟩)
    · exact .inl (.inl (by simpa using e0))
  unfold maxLen at h1
  clear s0 g0 m0
  rcases hbad with hbad | ⟨b0, b2⟩
  · rcases hbad with b0 | ⟨b0, b2⟩
    all_goals
      go_enter Try.func4, Try.ntmps4
      go_wp2_with (first
        | (go_at_call 9; (with_reducible refine (A0.out _ (Chg.refl _ _)).mono ?_); rw [b0]; rintro e w1 ⟨rfl, hc1⟩; have C1 := Lib.hid hc1; clear hc1)
        | (go_at_call 10; (with_reducible refine (awake_any _).mono ?_); rintro e w3 ⟨rfl, hc3⟩; have C3 := Lib.hid hc3; clear hc3))
      go_ret
      exact ⟨rfl, (C1.out.thenSame C3.out).toBelow (Nat.le_refl _) (by simp)⟩
  have n0 : l0.length ≤ 60 := by
    unfold smallU at b0
    simp only [Bool.and_eq_true, decide_eq_true_eq] at b0
    exact b0.1
  have N0 := Lib.hid n0
  have HCap := Lib.hid c0
  clear n0 c0
  go_enter Try.func4, Try.ntmps4
  go_wp2_with (first
    | (go_at_call 9; (with_reducible refine (A0.out _ (Chg.refl _ _)).mono ?_); rw [b0]; rintro e w1 ⟨rfl, hc1⟩; have C1 := Lib.hid hc1; clear hc1)
    | (go_at_call 11; (with_reducible refine (new_first C1.out).mono ?_); rintro e w3 ⟨b, rfl, hp3⟩; have HP := Lib.hid hp3; clear hp3))
  refine (new_second (sideL _ _) HP.out).mono ?_; rintro e w4 ⟨b', rfl, hp4⟩
  have HP := Lib.hid (hp4.symm.addRow (sideL _ _) (sideL _ _))
  clear hp4
  go_wp2_with fail
  go_loopw [9, 29] (fun v i wr => ∃ (k : Nat) (s t : Led) (ids : List (List UInt8)), i = .int .i64 k ∧ k ≤ l0.length ∧ Hid (OthI tn s t ids k) ∧ Hid (ids.length ≤ k) ∧ Hid (Pair w wr (JL b s) (AndSide (JL b' t) (RowS v ids)))) (fun _ i _ => l0.length - (intOf i).toNat)
  case atStart => exact ⟨0, ⟨[], 0⟩, ⟨[], 0⟩, [], rfl, Nat.zero_le _, Lib.hid (oth_start tn), Lib.hid (Nat.le_refl _), HP⟩
  case round =>
    obtain ⟨k, s, t, ids, rfl, hkl, HI, HN, HQ⟩ := hrel
    by_cases hk : k < l0.length
    · obtain ⟨g, o, rfl, -, hbr, hcc⟩ := S0.out.elem HQ.out.chg k hk
      have S1 := Lib.hid (S0.out.one k hk)
      have hgx := G0.out l0[k] (List.getElem_mem hk)
      generalize l0[k] = x at *
      obtain ⟨kd, r, xp⟩ := x
      have d0 := hcc 0 (by omega)
      have d1 := hcc 1 (by omega)
      have d2 := hcc 2 (by omega)
      have d3 := hcc 3 (by omega)
      have d4 := hcc 4 (by omega)
      have d5 := hcc 5 (by omega)
      have d6 := hcc 6 (by omega)
      have d7 := hcc 7 (by omega)
      have d8 := hcc 8 (by omega)
      have d9 := hcc 9 (by omega)
      have d10 := hcc 10 (by omega)
      simp only [opC, List.getElem?_cons_zero, List.getElem?_cons_succ, Nat.add_zero] at d0 d1 d2 d3 d4 d5 d6 d7 d8 d9 d10
      have hk0 : (0 : Int) ≤ (k : Int) := by omega
      have hk1 : (k : Int) < (l0.length : Int) := by omega
      have hk60 : k < 60 := by have := N0.out; omega
      have sB := Lib.hid (fun (s : Led) (c u : Nat) (o : Obj) (v : Value) (l : List (List UInt8)) => andSide (andSide (sideL c s) (boxSide u o)) (rowSide v l))
      have HP1 := Lib.hid ((HQ.out.box (sideL _ _) (andSide (sideL _ _) (rowSide _ _)) (.cells #[.int .i64 kd, .string r.id, .string r.tn, .string r.fn, .int .i64 r.per, .int .i64 r.us.inv, .int .i64 r.us.steps, .int .i64 r.us.ticks, .int .i64 r.us.units, .bool r.fl, .int .i64 xp] 32)).mid)
      have hs1 := HI.out.len
      have hs2 := HI.out.len2
      have LS := Lib.hid (show s.l.length + 1 ≤ 4000 by omega)
      have LT := Lib.hid (show t.l.length + 1 ≤ 4000 by omega)
      obtain ⟨a, c, rfl⟩ := RowOf.shape HQ.out.row
      have HH := Lib.hid (fun w' (hc : Chg [] wr w') => has_any a c ids r.id w' ((RowOf.sl HQ.out.row kLen).1.kept hc) (by have := HN.out; omega))
      clear hcc hs1 hs2
      have HS1 := HI.out
      have hcap : k + 1 ≤ cap0 := by have := HCap.out; omega
      have HCk := Lib.hid hcap
      have HGx := Lib.hid hgx
      have Q0 := Lib.hid (fun (h0 : kd = 0) (hn : bs r.id ∉ ids) => HS1.recd ⟨kd, r, xp⟩ h0 hn hk60)
      have Q1 := Lib.hid (fun (h0 : kd ≠ 0) => HS1.other ⟨kd, r, xp⟩ h0)
      have hcb : cB tn ⟨kd, r, xp⟩ = (kd == 1 || r.tn.toList == tn.toList) := by unfold cB; rw [beq_toListBytes]
      rw [hcb] at Q0 Q1
      clear HS1 hcap hgx hcb
      by_cases q0 : kd = 0
      · subst q0
        cases hin : ids.contains (bs r.id)
        case true =>
          rw [hin] at HH
          have HSk := Lib.hid HI.out.skip
          clear hin
          go_wp2_with (first
            | (go_at_call 16; (with_reducible refine (HH.out _ ((Chg.refl _ _).alloc _)).mono ?_); rintro e w5 ⟨rfl, hc5⟩; have HP5 := Lib.hid (HP1.out.keptN (sideL _ _) (sB.out _ _ _ _ _ _) hc5); clear hc5))
          exact ⟨⟨k + 1, s, t, ids, by go_num, by omega, HSk, Lib.hid (by have := HN.out; omega), Lib.hid HP5.out.dropMid⟩, by simp [intOf]; omega⟩
        case false =>
          rw [hin] at HH
          have hni : bs r.id ∉ ids := fun h => by
            rw [← List.contains_iff_mem, hin] at h; cases h
          have Q2 := Lib.hid (Q0.out rfl hni)
          clear hin hni Q0 Q1
          cases hq : r.tn.toList == tn.toList
          all_goals
            rw [hq] at Q2
            go_wp2_with (first
              | (go_at_call 16; (with_reducible refine (HH.out _ ((Chg.refl _ _).alloc _)).mono ?_); rintro e w5 ⟨rfl, hc5⟩; have HP5 := Lib.hid (HP1.out.keptN (sideL _ _) (sB.out _ _ _ _ _ _) hc5); have b5 := blk_cell HP5.out.boxMid; clear hc5)
              | (at_builtin; refine wpl_appendL rfl _ _ 40 rfl 0 9 _ 16 Try.underlying40 stInfo rfl (by decide) kLen kOne (.slice a ids.length c) ids rfl (RowOf.kept (S := []) HP5.out.row ((Chg.refl _ _).alloc _) (by simp)) w5.heap.size 1 (bs r.id) _ _ _ rfl (heap_alloc_new w5 _) (by simp [kc, enc_bs]) (by have := HN.out; unfold maxLen; omega) (by have := HN.out; omega) (Nat.zero_le _) ?_; intro g6 cap6 w6 hr6 hg6 ho6 hlt6; have HP6 := Lib.hid ((HP5.out.keptN (sideL _ _) (sB.out _ _ _ _ _ _) ((Chg.refl _ _).alloc _)).turnRow (sideL _ _) (andSide (sideL _ _) (boxSide _ _)) hr6 (Chg.ofRow hg6) (fun x hx => by cases hx; exact ho6.imp id (fun h => Nat.le_of_eq h.symm))); clear hr6 hg6 ho6 hlt6 b5)
              | (go_at_call 12; (with_reducible refine (p_play1 (sB.out _ _ _ _ _ _) HP6.out (some ⟨g, o + k * 11, none⟩) (cap0 - k) ⟨0, r, xp⟩ S1.out HGx.out LS.out).mono ?_); rintro e w7 ⟨rfl, hp7⟩; have HP7 := Lib.hid hp7; have b7 := blk_cell HP7.out.boxMid; clear hp7)
              | (go_at_call 12; (with_reducible refine (p_play1 (sB.out _ _ _ _ _ _) HP7.out.swap3 (some ⟨g, o + k * 11, none⟩) (cap0 - k) ⟨0, r, xp⟩ S1.out HGx.out LT.out).mono ?_); rintro e w8 ⟨rfl, hp8⟩; have HP8 := Lib.hid hp8.swap3; clear hp8)
              | (refine wpl_slice_one rfl _ _ _ 22 rfl opsElem (opsSize _) g o l0.length cap0 k rfl rfl rfl HCk.out ?_))
            first
              | exact ⟨⟨k + 1, _, _, _, by go_num, by omega, Lib.hid Q2.out, Lib.hid (by have := HN.out; simp; omega), Lib.hid HP8.out.dropMid⟩, by simp [intOf]; omega⟩
              | exact ⟨⟨k + 1, _, _, _, by go_num, by omega, Lib.hid Q2.out, Lib.hid (by have := HN.out; simp; omega), Lib.hid HP7.out.dropMid⟩, by simp [intOf]; omega⟩
      · have b0' : (kd == 0) = false := by simpa using q0
        have Q2 := Lib.hid (Q1.out q0)
        clear Q0 Q1 HH
        by_cases q1 : kd = 1
        · subst q1
          have Q2 : Hid (OthI tn (stepU s ⟨1, r, xp⟩) (stepU t ⟨1, r, xp⟩) ids (k + 1)) := Lib.hid Q2.out
          go_wp2_with (first
              | (go_at_call 12; (with_reducible refine (p_play1 (sB.out _ _ _ _ _ _) HP1.out (some ⟨g, o + k * 11, none⟩) (cap0 - k) ⟨1, r, xp⟩ S1.out HGx.out LS.out).mono ?_); rintro e w7 ⟨rfl, hp7⟩; have HP7 := Lib.hid hp7; have b7 := blk_cell HP7.out.boxMid; clear hp7)
              | (go_at_call 12; (with_reducible refine (p_play1 (sB.out _ _ _ _ _ _) HP7.out.swap3 (some ⟨g, o + k * 11, none⟩) (cap0 - k) ⟨1, r, xp⟩ S1.out HGx.out LT.out).mono ?_); rintro e w8 ⟨rfl, hp8⟩; have HP8 := Lib.hid hp8.swap3; clear hp8)
              | (refine wpl_slice_one rfl _ _ _ 22 rfl opsElem (opsSize _) g o l0.length cap0 k rfl rfl rfl HCk.out ?_))
          first
              | exact ⟨⟨k + 1, _, _, _, by go_num, by omega, Lib.hid Q2.out, Lib.hid (by have := HN.out; omega), Lib.hid HP8.out.dropMid⟩, by simp [intOf]; omega⟩
              | exact ⟨⟨k + 1, _, _, _, by go_num, by omega, Lib.hid Q2.out, Lib.hid (by have := HN.out; omega), Lib.hid HP7.out.dropMid⟩, by simp [intOf]; omega⟩
        · have b1' : (kd == 1) = false := by simpa using q1
          cases hq : r.tn.toList == tn.toList
          all_goals
            rw [hq, b1'] at Q2
            go_wp2_with (first
              | (go_at_call 12; (with_reducible refine (p_play1 (sB.out _ _ _ _ _ _) HP1.out (some ⟨g, o + k * 11, none⟩) (cap0 - k) ⟨kd, r, xp⟩ S1.out HGx.out LS.out).mono ?_); rintro e w7 ⟨rfl, hp7⟩; have HP7 := Lib.hid hp7; have b7 := blk_cell HP7.out.boxMid; clear hp7)
              | (go_at_call 12; (with_reducible refine (p_play1 (sB.out _ _ _ _ _ _) HP7.out.swap3 (some ⟨g, o + k * 11, none⟩) (cap0 - k) ⟨kd, r, xp⟩ S1.out HGx.out LT.out).mono ?_); rintro e w8 ⟨rfl, hp8⟩; have HP8 := Lib.hid hp8.swap3; clear hp8)
              | (refine wpl_slice_one rfl _ _ _ 22 rfl opsElem (opsSize _) g o l0.length cap0 k rfl rfl rfl HCk.out ?_))
            first
              | exact ⟨⟨k + 1, _, _, _, by go_num, by omega, Lib.hid Q2.out, Lib.hid (by have := HN.out; omega), Lib.hid HP8.out.dropMid⟩, by simp [intOf]; omega⟩
              | exact ⟨⟨k + 1, _, _, _, by go_num, by omega, Lib.hid Q2.out, Lib.hid (by have := HN.out; omega), Lib.hid HP7.out.dropMid⟩, by simp [intOf]; omega⟩
    · have hkE : k = l0.length := by omega
      subst hkE
      have HP := Lib.hid HQ.out.drop
      have hT := HI.out.total p
      have hF := HI.out.fns p
      have hl1 := HI.out.len
      have hl2 := HI.out.len2
      have hl0 := N0.out
      have LS := Lib.hid (show s.l.length ≤ 60 by omega)
      have LT := Lib.hid (show t.l.length ≤ 60 by omega)
      have HFL := Lib.hid (show (fnsU s tn p).length ≤ 4096 from Nat.le_trans (fns_len s tn p) (by omega))
      have U1 := p_total (sideL b' t) HP.out tn p N2.out (by omega)
      have UT := fun K (sK : Side K) w' (h : Pair w w' (JL b' t) K) => p_total sK h tn p N2.out (by omega)
      have FA := fun K (sK : Side K) w' (h : Pair w w' (JL b s) K) => p_funcs sK h tn p (by omega)
      have FB := fun K (sK : Side K) w' (h : Pair w w' (JL b' t) K) => p_funcs sK h tn p (by omega)
      rw [hT] at UT
      rw [hF] at FB
      generalize totU s tn p = T at *
      generalize fnsU s tn p = F at *
      obtain ⟨T1, T2⟩ := T
      have QE := Lib.hid (fun w => eqlU T1 T1 w)
      rw [eqU_self] at QE
      unfold usV at U1 UT QE
      simp only at U1 UT
      have U1 := Lib.hid U1
      rename_i U10
      have UT := Lib.hid UT
      rename_i UT0
      have FA := Lib.hid FA
      rename_i FA0
      have FB := Lib.hid FB
      rename_i FB0
      clear U10 UT0 FA0 FB0 hT hF hl1 hl2 hl0
      go_wp2_with fail
      refine U1.out.mono ?_; rintro e w12 ⟨rfl, hc12, hp12⟩
      have HP := Lib.hid ((hp12.box (sideL _ _) (sideL _ _) (usO T1)).swap)
      unfold usO at HP
      clear U1 hc12 hp12
      go_wp2_with fail
      generalize w12.alloc (.cells #[.int .i64 T1.inv, .int .i64 T1.steps, .int .i64 T1.ticks, .int .i64 T1.units] 28) = W13 at *
      generalize w12.heap.size = u13 at *
      have sC := Lib.hid (andSide (sideL b s) (boxSide u13 (.cells #[.int .i64 T1.inv, .int .i64 T1.steps, .int .i64 T1.ticks, .int .i64 T1.units] 28)))
      refine (UT.out _ sC.out _ HP.out).mono ?_; rintro e w14 ⟨rfl, hc14, hp14⟩
      have HP := Lib.hid (hp14.keptN (sideL _ _) sC.out ((Chg.refl [] w14).alloc (usO T1)))
      have B14 := Lib.hid hp14.boxAt
      have x14 := blk_cell B14.out
      have l14 := lt_of_heap B14.out
      have sD := Lib.hid (andSide (sideL b' t) (boxSide u13 (.cells #[.int .i64 T1.inv, .int .i64 T1.steps, .int .i64 T1.ticks, .int .i64 T1.units] 28)))
      unfold usO at HP
      clear UT hc14 hp14
      have Q := QE.out
      go_wp2_with (first
        | (go_at_call 18; (with_reducible refine (FA.out _ sD.out _ HP.out.swap).mono ?_); rintro e w16 ⟨a1, c1, rfl, hs16, hc16, hp16⟩; have S16 := Lib.hid hs16; have HP16 := Lib.hid hp16.swap; clear hs16 hc16 hp16)
        | (go_at_call 18; (with_reducible refine (FB.out _ sC.out _ HP16.out).mono ?_); rintro e w17 ⟨a2, c2, rfl, hs17, hc17, hp17⟩; have S17 := Lib.hid hs17; have S16 := Lib.hid (S16.out.kept hc17); have HP17 := Lib.hid hp17; clear hs17 hc17 hp17)
        | (go_at_call 17; (with_reducible refine (texts_any a1 a2 c1 c2 F _ S16.out S17.out HFL.out).mono ?_); rintro e w18 ⟨rfl, hc18⟩; have C18 := Lib.hid (HP17.out.chg.thenSame hc18); clear hc18)
        | (go_at_call 10; (with_reducible refine (awake_any _).mono ?_); rintro e w19 ⟨rfl, hc19⟩; have C19 := Lib.hid (C18.out.thenSame hc19); clear hc19))
      go_ret
      exact ⟨rfl, C19.out.toBelow (Nat.le_refl _) (by simp)⟩
end Go.Proofs.Ytfnnnflfikmekaa
