/- Chapter 52: UsageRepeats: a record that is repeated later changes nothing. No condition. -/
import Derived.Test.YtfnnnflfikmekaaUpB
import Derived.Test.YtfnnnflfikmekaaUseX
namespace Go.Proofs.Ytfnnnflfikmekaa
set_option linter.unusedVariables false
set_option linter.unusedSimpArgs false
open Go.RowKit
set_option maxHeartbeats 8000000 in
set_option maxRecDepth 100000 in
theorem repeats_walk (a0 : Option Addr) (len0 cap0 : Nat) (l0 : List OpU) (a1 : Option Addr) (len1 cap1 : Nat) (l1 : List OpU) (a : Int) (tn : ByteArray) (p : Int) (w : World) (h0 : SlIs opC 11 w a0 len0 l0 ∧ (∀ x ∈ l0, x.good) ∧ len0 ≤ maxLen ∧ len0 ≤ cap0) (h1 : SlIs opC 11 w a1 len1 l1 ∧ (∀ x ∈ l1, x.good) ∧ len1 ≤ maxLen ∧ len1 ≤ cap1) (ha : (Lit.int .u8 a).wf = true) (h2 : tn.size ≤ maxLen) (hpw : (Lit.int .i64 p).wf = true) :
    Calls Try.prog 3 #[.slice a0 len0 cap0, .slice a1 len1 cap1, .int .u8 a, .string tn, .int .i64 p] w fun e w' => e = .returned (.bool true) ∧ Below w.heap.size w w' := by
  obtain ⟨s0, g0, m0, c0⟩ := h0
  obtain ⟨s1, g1, m1, c1⟩ := h1
  obtain rfl := s0.1
  obtain rfl := s1.1
  have S0 := Lib.hid s0
  have S1 := Lib.hid s1
  have G0 := Lib.hid g0
  have G1 := Lib.hid g1
  have N2 := Lib.hid h2
  have A0 := Lib.hid (fun w' (hc : Chg [] w w') => smallF_any a0 l0.length cap0 l0 w' (S0.out.kept hc) G0.out m0)
  have A1 := Lib.hid (fun w' (hc : Chg [] w w') => smallF_any a1 l1.length cap1 l1 w' (S1.out.kept hc) G1.out m1)
  have hbad : (smallU l0 = false ∨ (smallU l0 = true ∧ smallU l1 = false) ∨ (smallU l0 = true ∧ smallU l1 = true ∧ (100 : Int) < (tn.size : Int)) ∨ (smallU l0 = true ∧ smallU l1 = true ∧ (tn.size : Int) ≤ 100 ∧ l0.length = 0)) ∨ (smallU l0 = true ∧ smallU l1 = true ∧ (tn.size : Int) ≤ 100 ∧ 0 < l0.length) := by
    by_cases e0 : smallU l0 = true
    · by_cases e1 : smallU l1 = true
      · by_cases hq : (tn.size : Int) ≤ 100
        · by_cases hz : l0.length = 0
          · exact .inl (.inr (.inr (.inr ⟨e0, e1, hq, hz⟩)))
          · exact .inr ⟨e0, e1, hq, by omega⟩
        · exact .inl (.inr (.inr (.inl ⟨e0, e1, by omega⟩)))
      · exact .inl (.inr (.inl ⟨e0, by simpa using e1⟩))
    · exact .inl (.inl (by simpa using e0))
  have hl63 : l0.length ≤ 9223372036854775807 := m0
  unfold maxLen at h2
  clear s0 s1 g0 g1 c0 c1 m0 m1
  rcases hbad with hbad | ⟨b0, b1, b2, b3⟩
  · rcases Nat.eq_zero_or_pos l0.length with z1 | z1
    · obtain rfl := List.eq_nil_of_length_eq_zero z1
      have b0 : smallU [] = true := rfl
      have hbad' : smallU l1 = false ∨ (smallU l1 = true ∧ (100 : Int) < (tn.size : Int)) ∨ (smallU l1 = true ∧ (tn.size : Int) ≤ 100) := by
        by_cases e1 : smallU l1 = true
        · by_cases hq : (tn.size : Int) ≤ 100
          · exact .inr (.inr ⟨e1, hq⟩)
          · exact .inr (.inl ⟨e1, by omega⟩)
        · exact .inl (by simpa using e1)
      simp only [List.length_nil] at A0 hl63 S0 ⊢
      clear hbad z1
      rcases hbad' with b1 | ⟨b1, b2⟩ | ⟨b1, b2⟩
      all_goals
        go_enter Try.func3, Try.ntmps3
        go_wp2_with (first
          | (go_at_call 9; (with_reducible refine (A0.out _ (Chg.refl _ _)).mono ?_); rw [b0]; rintro e w1 ⟨rfl, hc1⟩; have C1 := Lib.hid hc1; clear hc1)
          | (go_at_call 9; (with_reducible refine (A1.out _ C1.out).mono ?_); rw [b1]; rintro e w2 ⟨rfl, hc2⟩; have C2 := Lib.hid (C1.out.thenSame hc2); clear hc2)
          | (go_at_call 10; (with_reducible refine (awake_any _).mono ?_); rintro e w3 ⟨rfl, hc3⟩; have C3 := Lib.hid hc3; clear hc3))
        go_ret
        exact ⟨rfl, (C2.out.thenSame C3.out).toBelow (Nat.le_refl _) (by simp)⟩
    have z2 : ((l0.length : Int) == 0) = false := beq_eq_false_iff_ne.2 (by omega)
    rcases hbad with b0 | ⟨b0, b1⟩ | ⟨b0, b1, b2⟩ | ⟨b0, b1, b2, b3⟩
    case inr.inr.inr => omega
    all_goals
      go_enter Try.func3, Try.ntmps3
      go_wp2_with (first
        | (go_at_call 9; (with_reducible refine (A0.out _ (Chg.refl _ _)).mono ?_); rw [b0]; rintro e w1 ⟨rfl, hc1⟩; have C1 := Lib.hid hc1; clear hc1)
        | (go_at_call 9; (with_reducible refine (A1.out _ C1.out).mono ?_); rw [b1]; rintro e w2 ⟨rfl, hc2⟩; have C2 := Lib.hid (C1.out.thenSame hc2); clear hc2)
        | (go_at_call 10; (with_reducible refine (awake_any _).mono ?_); rintro e w3 ⟨rfl, hc3⟩; have C3 := Lib.hid hc3; clear hc3))
      go_ret
      exact ⟨rfl, by first | exact (C2.out.thenSame C3.out).toBelow (Nat.le_refl _) (by simp) | exact (C1.out.thenSame C3.out).toBelow (Nat.le_refl _) (by simp)⟩
  have b3' : ((l0.length : Int) == 0) = false := beq_eq_false_iff_ne.2 (by omega)
  have hau : 0 ≤ a ∧ a ≤ 255 := by
    have h := ha
    simp only [Lit.wf, Bool.and_eq_true, decide_eq_true_eq] at h
    rw [show IntKind.u8.min = 0 from rfl, show IntKind.u8.max = 255 from rfl] at h
    exact h
  obtain ⟨ha0, ha1⟩ := hau
  obtain ⟨k, hk, hkl⟩ : ∃ k : Nat, Int.tmod a (l0.length : Int) = (k : Int) ∧ k < l0.length := by
    refine ⟨(Int.tmod a (l0.length : Int)).toNat, ?_, ?_⟩
    · have := Int.tmod_nonneg (l0.length : Int) ha0; omega
    · have h1 := Int.tmod_lt_of_pos a (show (0 : Int) < (l0.length : Int) by omega)
      have h2 := Int.tmod_nonneg (l0.length : Int) ha0
      omega
  have n0 : l0.length ≤ 60 := by
    unfold smallU at b0
    simp only [Bool.and_eq_true, decide_eq_true_eq] at b0
    exact b0.1
  have n1 : l1.length ≤ 60 := by
    unfold smallU at b1
    simp only [Bool.and_eq_true, decide_eq_true_eq] at b1
    exact b1.1
  have N0 := Lib.hid n0
  have N1 := Lib.hid n1
  have Hk := Lib.hid hkl
  clear n0 n1
  go_enter Try.func3, Try.ntmps3
  go_wp2_with (first
    | (go_at_call 9; (with_reducible refine (A0.out _ (Chg.refl _ _)).mono ?_); rw [b0]; rintro e w1 ⟨rfl, hc1⟩; have C1 := Lib.hid hc1; clear hc1)
    | (go_at_call 9; (with_reducible refine (A1.out _ C1.out).mono ?_); rw [b1]; rintro e w2 ⟨rfl, hc2⟩; have C2 := Lib.hid (C1.out.thenSame hc2); clear hc2)
    | (go_at_call 11; (with_reducible refine (new_first C2.out).mono ?_); rintro e w3 ⟨b, rfl, hp3⟩; have HP := Lib.hid hp3; clear hp3))
  refine (new_second (sideL _ _) HP.out).mono ?_; rintro e w4 ⟨b', rfl, hp4⟩
  have HP := Lib.hid hp4.symm
  clear hp4
  obtain ⟨g, o, rfl, -, hbr, hcc⟩ := S0.out.elem HP.out.chg k Hk.out
  have hgx := G0.out l0[k] (List.getElem_mem hkl)
  generalize l0[k] = x at *
  obtain ⟨kd, r, xp⟩ := x
  have d1 := hcc 1 (by omega)
  have d2 := hcc 2 (by omega)
  have d3 := hcc 3 (by omega)
  have d4 := hcc 4 (by omega)
  have d5 := hcc 5 (by omega)
  have d6 := hcc 6 (by omega)
  have d7 := hcc 7 (by omega)
  have d8 := hcc 8 (by omega)
  have d9 := hcc 9 (by omega)
  simp only [opC, List.getElem?_cons_zero, List.getElem?_cons_succ, Nat.add_zero] at d1 d2 d3 d4 d5 d6 d7 d8 d9
  have hk0 : (0 : Int) ≤ (k : Int) := by omega
  have hk1 : (k : Int) < (l0.length : Int) := by omega
  have HG := Lib.hid hgx.2.1
  clear hcc hgx hkl
  have sB := Lib.hid (fun (s : Led) (c : Nat) (u : Nat) (o : Obj) => andSide (sideL c s) (boxSide u o))
  have HP5 := Lib.hid (HP.out.box (sideL _ _) (sideL _ _) (.cells #[.string r.id, .string r.tn, .string r.fn, .int .i64 r.per, .int .i64 r.us.inv, .int .i64 r.us.steps, .int .i64 r.us.ticks, .int .i64 r.us.units, .bool r.fl] 30))
  have hn0 := N0.out
  have hn1 := N1.out
  obtain ⟨f1, f2, f3⟩ := play0_facts l0 hn0
  have hl1 := play_len l1 (l0.foldl stepU ⟨[], 0⟩) 60 f1
  have F1 := Lib.hid f1
  have HL1 := Lib.hid (show ((l1.foldl stepU (l0.foldl stepU ⟨[], 0⟩)).l.length ≤ 120) by omega)
  clear hn0 hn1 f1 f2 f3 hl1
  go_wp2_with fail
  clear HP
  generalize w4.alloc _ = W5 at *
  generalize w4.heap.size = u5 at *
  refine (p_play (sB.out _ _ _ _) HP5.out (some ⟨g, o, none⟩) cap0 l0 S0.out G0.out (by have := N0.out; simp; omega)).mono ?_; rintro e w6 ⟨rfl, hp6⟩
  have HP := Lib.hid hp6.swap
  clear hp6 HP5
  go_wp2_with fail
  refine (p_play (sB.out _ _ _ _) HP.out (some ⟨g, o, none⟩) cap0 l0 S0.out G0.out (by have := N0.out; simp; omega)).mono ?_; rintro e w7 ⟨rfl, hp7⟩
  have HP := Lib.hid hp7.swap
  clear hp7
  go_wp2_with fail
  refine (p_play (sB.out _ _ _ _) HP.out a1 cap1 l1 S1.out G1.out (by have := N1.out; have := F1.out; omega)).mono ?_; rintro e w8 ⟨rfl, hp8⟩
  have HP := Lib.hid hp8.swap
  clear hp8
  go_wp2_with fail
  refine (p_play (sB.out _ _ _ _) HP.out a1 cap1 l1 S1.out G1.out (by have := N1.out; have := F1.out; omega)).mono ?_; rintro e w9 ⟨rfl, hp9⟩
  have HP := Lib.hid hp9.swap
  clear hp9
  generalize l1.foldl stepU (l0.foldl stepU ⟨[], 0⟩) = s at *
  go_wp2_with fail
  refine (p_len HP.out).mono ?_; rintro e w10 ⟨rfl, rfl⟩
  have x9 := blk_cell HP.out.boxAt
  have l9 := lt_of_heap HP.out.boxAt
  have R1 := p_rec (sB.out _ _ _ _) HP.out r HG.out (by have := HL1.out; omega)
  unfold urV at R1
  have R1 := Lib.hid R1
  rename_i R10
  clear R10
  have hsame := rec_same s r
  generalize recE s r = E at *
  generalize recS s r = t at *
  go_wp2_with fail
  clear x9 l9
  refine R1.out.mono ?_; rintro e w10 ⟨rfl, hp10⟩
  have HP := Lib.hid hp10
  clear hp10
  by_cases hE : E = 0
  case neg =>
    have hE' : (E == 0) = false := by simpa using hE
    clear hsame
    go_wp2_with (first
      | (go_at_call 10; (with_reducible refine (awake_any _).mono ?_); rintro e w11 ⟨rfl, hc11⟩; have C11 := Lib.hid (HP.out.chg.thenSame hc11); clear hc11))
    go_ret
    exact ⟨rfl, C11.out.toBelow (Nat.le_refl _) (by simp)⟩
  subst hE
  by_cases hL : t.l.length = s.l.length
  case neg =>
    have hL' : ((t.l.length : Int) == (s.l.length : Int)) = false := beq_eq_false_iff_ne.2 (by omega)
    clear hsame
    go_wp2_with (first
      | (go_at_call 13; (with_reducible refine (p_len HP.out).mono ?_); rintro e w10 ⟨rfl, rfl⟩)
      | (go_at_call 10; (with_reducible refine (awake_any _).mono ?_); rintro e w11 ⟨rfl, hc11⟩; have C11 := Lib.hid (HP.out.chg.thenSame hc11); clear hc11))
    go_ret
    exact ⟨rfl, C11.out.toBelow (Nat.le_refl _) (by simp)⟩
  obtain rfl := hsame rfl hL
  clear hsame hL R1
  obtain ⟨T, hT⟩ : ∃ T, T = totU t tn p := ⟨_, rfl⟩
  have QE := Lib.hid (fun w => eqlU T.1 T.1 w)
  rw [eqU_self] at QE
  have HT := Lib.hid hT.symm
  clear hT
  obtain ⟨T1, T2⟩ := T
  unfold usV at QE
  simp only at QE
  have U1 := p_total (sB.out _ _ _ _) HP.out tn p N2.out (by have := HL1.out; omega)
  rw [HT.out] at U1
  unfold usV at U1
  have U1 := Lib.hid U1
  rename_i U10
  clear U10
  go_wp2_with (first
    | (go_at_call 13; (with_reducible refine (p_len HP.out).mono ?_); rintro e w10 ⟨rfl, rfl⟩))
  refine U1.out.mono ?_; rintro e w12 ⟨rfl, hc12, hp12⟩
  have HP := Lib.hid ((hp12.box (sideL _ _) (sB.out _ _ _ _) (usO T1)).swap3)
  unfold usO at HP
  clear U1 hc12 hp12
  go_wp2_with fail
  generalize w12.alloc (.cells #[.int .i64 T1.inv, .int .i64 T1.steps, .int .i64 T1.ticks, .int .i64 T1.units] 28) = W13 at *
  generalize w12.heap.size = u13 at *
  have sC := Lib.hid (andSide (sB.out t b u5 (.cells #[.string r.id, .string r.tn, .string r.fn, .int .i64 r.per, .int .i64 r.us.inv, .int .i64 r.us.steps, .int .i64 r.us.ticks, .int .i64 r.us.units, .bool r.fl] 30)) (boxSide u13 (.cells #[.int .i64 T1.inv, .int .i64 T1.steps, .int .i64 T1.ticks, .int .i64 T1.units] 28)))
  have U2 := p_total sC.out HP.out tn p N2.out (by have := HL1.out; omega)
  rw [HT.out] at U2
  unfold usV at U2
  have U2 := Lib.hid U2
  rename_i U20
  clear U20
  refine U2.out.mono ?_; rintro e w14 ⟨rfl, hc14, hp14⟩
  have HP := Lib.hid (hp14.keptN (sideL _ _) sC.out ((Chg.refl [] w14).alloc (usO T1)))
  have B14 := Lib.hid hp14.boxAt
  have x14 := blk_cell B14.out
  have l14 := lt_of_heap B14.out
  unfold usO at HP
  clear U2 hc14 hp14
  have Q := QE.out
  go_wp2_with (first
    | (go_at_call 13; (with_reducible refine (p_len HP.out.swap3).mono ?_); rintro e w15 ⟨rfl, rfl⟩)
    | (go_at_call 13; (with_reducible refine (p_len HP.out).mono ?_); rintro e w15 ⟨rfl, rfl⟩)
    | (go_at_call 10; (with_reducible refine (awake_any _).mono ?_); rintro e w16 ⟨rfl, hc16⟩; have C16 := Lib.hid (HP.out.chg.thenSame hc16); clear hc16))
  go_ret
  exact ⟨rfl, C16.out.toBelow (Nat.le_refl _) (by simp)⟩
end Go.Proofs.Ytfnnnflfikmekaa
