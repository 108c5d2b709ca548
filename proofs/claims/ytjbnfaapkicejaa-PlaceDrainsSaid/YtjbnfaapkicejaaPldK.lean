/- Chapter 43: PlaceDrains: a worker is drained as the reference says, and has no placements then. No condition. -/
import Derived.Test.YtjbnfaapkicejaaPldE
import Derived.Test.YtjbnfaapkicejaaPldJ
import Derived.Test.YtjbnfaapkicejaaPlcZ
namespace Go.Proofs.Ytjbnfaapkicejaa
set_option linter.unusedVariables false
set_option linter.unusedSimpArgs false
open Go.RowKit
theorem drain_len (ws : List Wk) (l : List Pl) (s : ByteArray) (h : (drainP ws l s).2.2 ≠ 0) : (drainP ws l s).1 = [] ∧ (drainP ws l s).2.1 = [] := by
  unfold drainP at h ⊢
  split
  · rename_i h1
    rw [if_pos h1] at h
    split
    · exact ⟨rfl, rfl⟩
    · rename_i h2
      rw [if_neg h2] at h
      split
      · rename_i h3; rw [if_pos h3] at h; exact absurd rfl h
      · exact ⟨rfl, rfl⟩
  · exact ⟨rfl, rfl⟩
set_option maxHeartbeats 16000000 in
set_option maxRecDepth 100000 in
theorem drains_walk (a0 : Option Addr) (len0 cap0 : Nat) (l0 : List Wk) (a1 : Option Addr) (len1 cap1 : Nat) (l1 : List Pl) (s : ByteArray) (w : World)
    (h0 : SlIs wkC 3 w a0 len0 l0 ∧ (∀ x ∈ l0, x.good) ∧ len0 ≤ maxLen ∧ len0 ≤ cap0 ∧ (a0 = none → cap0 = 0) ∧ cap0 ≤ maxLen)
    (h1 : SlIs plC 4 w a1 len1 l1 ∧ (∀ x ∈ l1, x.good) ∧ len1 ≤ maxLen ∧ len1 ≤ cap1 ∧ (a1 = none → cap1 = 0) ∧ cap1 ≤ maxLen) (h2 : s.size ≤ maxLen) :
    Calls Try.prog 5 #[.slice a0 len0 cap0, .slice a1 len1 cap1, .string s] w fun e w' => e = .returned (.bool true) ∧ Below w.heap.size w w' := by
  obtain ⟨s0, g0, m0, c0, n0, k0⟩ := h0
  obtain ⟨s1, g1, m1, c1, n1, k1⟩ := h1
  obtain rfl := s0.1
  obtain rfl := s1.1
  have I0 := Lib.hid (show InIs wkC 3 w a0 cap0 l0 from ⟨s0, c0, k0, n0⟩)
  have I1 := Lib.hid (show InIs plC 4 w a1 cap1 l1 from ⟨s1, c1, k1, n1⟩)
  have A0 := Lib.hid (smallF_any a0 cap0 l0 a1 cap1 l1 w s0 m0 g0 s1 m1 g1)
  have hbad : (smallB2 l0 l1 = false ∨ (smallB2 l0 l1 = true ∧ (300 : Int) < (s.size : Int))) ∨ (smallB2 l0 l1 = true ∧ (s.size : Int) ≤ 300) := by
    by_cases e0 : smallB2 l0 l1 = true
    · by_cases hq : (s.size : Int) ≤ 300
      · exact .inr ⟨e0, hq⟩
      · exact .inl (.inr ⟨e0, by omega⟩)
    · exact .inl (.inl (by simpa using e0))
  unfold maxLen at h2
  rcases hbad with hbad | ⟨b0, b2⟩
  · clear s0 g0 m0 c0 n0 k0 s1 g1 m1 c1 n1 k1
    rcases hbad with b0 | ⟨b0, b2⟩
    all_goals
      go_enter Try.func5, Try.ntmps5
      go_wp2_with (first
        | (go_at_call 8; (with_reducible refine A0.out.mono ?_); rw [b0]; rintro e w1 ⟨rfl, rfl⟩)
        | (go_at_call 9; (with_reducible refine (awake_any _).mono ?_); rintro e w3 ⟨rfl, hc3⟩; have C3 := Lib.hid hc3; clear hc3))
      go_ret
      exact ⟨rfl, C3.out.toBelow (Nat.le_refl _) (by simp)⟩
  have hs := b0
  unfold smallB2 at hs
  simp only [Bool.and_eq_true, decide_eq_true_eq] at hs
  obtain ⟨⟨⟨z0, z1⟩, -⟩, -⟩ := hs
  have A1 := Lib.hid (fun w' (hc : Chg [] w w') => drain_any a0 cap0 l0 a1 cap1 l1 s w' (I0.out.kept hc) (by omega) g0 (I1.out.kept hc) (by omega) g1)
  have A2 := Lib.hid (fun w' (hc : Chg [] w w') => rdrain_any a0 cap0 l0 a1 cap1 l1 s w' (I0.out.kept hc) (by omega) g0 (I1.out.kept hc) (by omega) g1)
  have SW := Lib.hid s0
  have hz0 : (l0.length : Int) ≤ 20 := by omega
  by_cases hok : (drainP l0 l1 s).2.2 = 0
  case neg =>
    obtain ⟨e1, e2⟩ := drain_len l0 l1 s hok
    have hnb : ((drainP l0 l1 s).2.2 == 0) = false := by simpa using hok
    rw [e1, e2] at A1 A2
    generalize (drainP l0 l1 s).2.2 = E at *
    have hw0 : ([] : List Wk).length ≤ 4096 := by simp
    have hp0 : ([] : List Pl).length ≤ 4096 := by simp
    clear s0 g0 m0 c0 n0 k0 s1 g1 m1 c1 n1 k1 e1 e2
    go_enter Try.func5, Try.ntmps5
    go_wp2_with (first
      | (go_at_call 8; (with_reducible refine A0.out.mono ?_); rw [b0]; rintro e w1 ⟨rfl, rfl⟩)
      | (go_at_call 17; (with_reducible refine (A1.out _ (Chg.refl _ _)).mono ?_); rintro e w2 ⟨v1, v2, rfl, hr1, hr2, hc2⟩; obtain ⟨a3, c3, hv3⟩ := RowOf.shape hr1; subst hv3; obtain ⟨a4, c4, hv4⟩ := RowOf.shape hr2; subst hv4; have C2 := Lib.hid hc2; have S3 := Lib.hid (RowOf.sl hr1 wkC_len).1; have S4 := Lib.hid (RowOf.sl hr2 plC_len).1; clear hc2 hr1 hr2)
      | (go_at_call 18; (with_reducible refine (A2.out _ C2.out).mono ?_); rintro e w3 ⟨v3, v4, rfl, hr1, hr2, hc3⟩; obtain ⟨a5, c5, hv5⟩ := RowOf.shape hr1; subst hv5; obtain ⟨a6, c6, hv6⟩ := RowOf.shape hr2; subst hv6; have C3 := Lib.hid (C2.out.thenSame hc3); have S5 := Lib.hid (RowOf.sl hr1 wkC_len).1; have S6 := Lib.hid (RowOf.sl hr2 plC_len).1; have T3 := Lib.hid (S3.out.kept hc3); have T4 := Lib.hid (S4.out.kept hc3); clear hc3 hr1 hr2)
      | (go_at_call 19; (refine (samew_any _ _ _ _ _ _ _ T3.out S5.out hw0 hw0).mono ?_); rw [same_refl (fun x => eqK_iff.2 rfl)]; rintro e w8 ⟨rfl, hc8⟩; have C8 := Lib.hid (C3.out.thenSame hc8); have U4 := Lib.hid (T4.out.kept hc8); have U6 := Lib.hid (S6.out.kept hc8); clear hc8)
      | (go_at_call 14; (refine (same_any _ _ _ _ _ _ _ U4.out U6.out hp0 hp0).mono ?_); rw [same_refl (fun x => eqP_iff.2 rfl)]; rintro e w9 ⟨rfl, hc9⟩; have C9 := Lib.hid (C8.out.thenSame hc9); clear hc9)
      | (go_at_call 9; (with_reducible refine (awake_any _).mono ?_); rintro e w11 ⟨rfl, hc11⟩; have C11 := Lib.hid (C9.out.thenSame hc11); clear hc11))
    go_ret
    exact ⟨rfl, C11.out.toBelow (Nat.le_refl _) (by simp)⟩
  obtain ⟨V, hA, hB, hne, m, hm, huniq, hfr⟩ := drain_ok hok
  rw [hok] at A1 A2
  obtain ⟨gA, gB⟩ := V.goods
  have hck := check_iff.2 V
  generalize (drainP l0 l1 s).1 = A at *
  generalize (drainP l0 l1 s).2.1 = B at *
  have hal : A.length ≤ 4096 := by omega
  have hbl : B.length ≤ 4096 := by omega
  have A3 := Lib.hid (fun a3 c3 a4 c4 w' (h3 : InIs wkC 3 w' a3 c3 A) (h4 : InIs plC 4 w' a4 c4 B) => by
    have := check_any a3 c3 A a4 c4 B w' h3.1 hal h3.2.1 gA h4.1 hbl h4.2.1 gB
    rw [hck, hA, hB] at this
    exact this)
  have A4 := Lib.hid (fun a3 c3 a4 c4 w' (h3 : InIs wkC 3 w' a3 c3 A) (h4 : InIs plC 4 w' a4 c4 B) => by
    have := freex_any a3 c3 A a4 c4 B s w' h3.1 hal h3.2.1 gA h4.1 hbl h4.2.1 gB
    rw [hfr, hA, hB] at this
    exact this)
  have HA := Lib.hid hA
  have HB := Lib.hid hB
  have HNE := Lib.hid hne
  have HU := Lib.hid huniq
  obtain ⟨mm, hmm⟩ : ∃ mm, mm = l0[m].mem := ⟨_, rfl⟩
  rw [← hmm] at A4
  have HMM := Lib.hid hmm
  have hpl : (l1.length : Int) ≤ 300 := by omega
  clear s0 g0 m0 c0 n0 k0 s1 g1 m1 c1 n1 k1 hok V hA hB hne huniq hfr hck gA gB hmm
  go_enter Try.func5, Try.ntmps5
  go_wp2_with (go_at_call 8; (with_reducible refine A0.out.mono ?_); rw [b0]; rintro e w1 ⟨rfl, rfl⟩)
  refine (A1.out _ (Chg.refl _ _)).mono ?_; rintro e w2 ⟨v1, v2, rfl, hr1, hr2, hc2⟩
  obtain ⟨a3, c3, hv3⟩ := RowOf.shape hr1
  subst hv3
  obtain ⟨a4, c4, hv4⟩ := RowOf.shape hr2
  subst hv4
  have C2 := Lib.hid hc2
  have S3 := Lib.hid (InIs.ofRow hr1 wkC_len).2
  have S4 := Lib.hid (InIs.ofRow hr2 plC_len).2
  clear hc2 hr1 hr2
  rw [HA.out, HB.out]
  go_wp2_with fail
  refine (A2.out _ C2.out).mono ?_; rintro e w3 ⟨v3, v4, rfl, hr1, hr2, hc3⟩
  obtain ⟨a5, c5, hv5⟩ := RowOf.shape hr1
  subst hv5
  obtain ⟨a6, c6, hv6⟩ := RowOf.shape hr2
  subst hv6
  have C3 := Lib.hid (C2.out.thenSame hc3)
  have S5 := Lib.hid (RowOf.sl hr1 wkC_len).1
  have S6 := Lib.hid (RowOf.sl hr2 plC_len).1
  have T3 := Lib.hid (S3.out.kept hc3)
  have T4 := Lib.hid (S4.out.kept hc3)
  have Z3 := Lib.hid (fun w' (hc : Chg [] w3 w') => by have := samew_any a3 c3 A a5 c5 A w' (T3.out.1.kept hc) (S5.out.kept hc) hal hal; rw [same_refl (fun x => eqK_iff.2 rfl), HA.out] at this; exact this)
  have Z4 := Lib.hid (fun w' (hc : Chg [] w3 w') => by have := same_any a4 c4 B a6 c6 B w' (T4.out.1.kept hc) (S6.out.kept hc) hbl hbl; rw [same_refl (fun x => eqP_iff.2 rfl), HB.out] at this; exact this)
  have Z5 := Lib.hid (fun w' (hc : Chg [] w3 w') => A3.out a3 c3 a4 c4 w' (T3.out.kept hc) (T4.out.kept hc))
  have Z6 := Lib.hid (fun w' (hc : Chg [] w3 w') => A4.out a3 c3 a4 c4 w' (T3.out.kept hc) (T4.out.kept hc))
  clear hc3 hr1 hr2
  rw [HA.out, HB.out]
  go_wp2_with (first
    | (go_at_call 19; (refine (Z3.out _ (Chg.refl _ _)).mono ?_); rintro e w8 ⟨rfl, hc8⟩; have D8 := Lib.hid hc8; clear hc8)
    | (go_at_call 14; (refine (Z4.out _ D8.out).mono ?_); rintro e w9 ⟨rfl, hc9⟩; have D9 := Lib.hid (D8.out.thenSame hc9); clear hc9)
    | (go_at_call 20; (refine (Z5.out _ D9.out).mono ?_); rintro e w10 ⟨rfl, hc10⟩; have D10 := Lib.hid (D9.out.thenSame hc10); clear hc10))
  have U4 := Lib.hid (T4.out.1.kept D10.out)
  have D11 := Lib.hid D10.out
  go_loop [81] (fun i => ∃ k : Nat, i = .int .i64 k ∧ k ≤ l1.length) (fun i => l1.length - (intOf i).toNat)
  case atStart => exact ⟨0, rfl, Nat.zero_le _⟩
  case round =>
    obtain ⟨k, rfl, hkl⟩ := hrel
    by_cases hk : k < l1.length
    · have hkB : k < B.length := by have := HB.out; omega
      obtain ⟨g1, o1, rfl, -, hbr1, hcc⟩ := U4.out.elem (Chg.refl [] w10) k hkB
      have d3 := hcc 3 (by omega)
      have hne := HNE.out B[k] (List.getElem_mem hkB)
      generalize B[k] = y at *
      simp only [plC, List.getElem?_cons_zero, List.getElem?_cons_succ, Nat.add_zero] at d3
      have hk0 : (0 : Int) ≤ (k : Int) := by omega
      have hk1 : (k : Int) < (l1.length : Int) := by omega
      have hnb : (y.wk.toList == s.toList) = false := by
        rw [← beq_toListBytes]
        exact beq_eq_false_iff_ne.2 hne
      clear hcc hne
      go_wp2_with fail
      exact ⟨⟨k + 1, by go_num, by omega⟩, by simp [intOf]; omega⟩
    · have hks : k = l1.length := by omega
      subst hks
      have Z7 := Lib.hid (Z6.out w10 D11.out)
      have hmm0 := Lib.hid HMM.out
      go_wp2_with fail
      refine Z7.out.mono ?_; rintro e w12 ⟨rfl, hc12⟩
      have C12 := Lib.hid ((C3.out.thenSame D11.out).thenSame hc12)
      clear hc12
      go_wp2_with fail
      go_loop [101] (fun i => ∃ k : Nat, i = .int .i64 k ∧ k ≤ l0.length) (fun i => l0.length - (intOf i).toNat)
      case atStart => exact ⟨0, rfl, Nat.zero_le _⟩
      case round =>
        obtain ⟨k, rfl, hkl⟩ := hrel
        by_cases hk : k < l0.length
        · obtain ⟨g1, o1, rfl, -, hbr1, hcc⟩ := SW.out.elem C12.out k hk
          have d0 := hcc 0 (by omega)
          have d1 := hcc 1 (by omega)
          have hu := HU.out k hk
          have hum : k = m → l0[k].mem = mm := fun e => by subst e; exact HMM.out.symm
          generalize l0[k] = x at *
          simp only [wkC, List.getElem?_cons_zero, List.getElem?_cons_succ, Nat.add_zero] at d0 d1
          have hk0 : (0 : Int) ≤ (k : Int) := by omega
          have hk1 : (k : Int) < (l0.length : Int) := by omega
          clear hcc
          by_cases hx : x.name = s
          · have hm2 := hum (hu hx)
            rw [hm2] at d1
            rw [hx] at d0
            clear hu hum hx hm2
            go_wp2_with fail
            exact ⟨⟨k + 1, by go_num, by omega⟩, by simp [intOf]; omega⟩
          · have hnb : (x.name.toList == s.toList) = false := by
              rw [← beq_toListBytes]
              exact beq_eq_false_iff_ne.2 hx
            clear hu hum hx
            go_wp2_with fail
            exact ⟨⟨k + 1, by go_num, by omega⟩, by simp [intOf]; omega⟩
        · have hks : k = l0.length := by omega
          subst hks
          go_wp2_with (go_at_call 9; (with_reducible refine (awake_any _).mono ?_); rintro e w13 ⟨rfl, hc13⟩; have C13 := Lib.hid (C12.out.thenSame hc13); clear hc13)
          go_ret
          exact ⟨rfl, C13.out.toBelow (Nat.le_refl _) (by simp)⟩
end Go.Proofs.Ytjbnfaapkicejaa
