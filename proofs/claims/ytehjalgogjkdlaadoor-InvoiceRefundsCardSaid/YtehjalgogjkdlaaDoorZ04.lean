/- Over any program with slices.SortStableFunc on ints: contract: the merge, the second run is one element. Condition: up to a million elements. -/
import Derived.Test.YtehjalgogjkdlaaDoorZ03
namespace Go.Proofs.YtehjalgogjkdlaaDoor
set_option linter.unusedVariables false
set_option linter.unusedSimpArgs false
open Go.RowKit
variable {w w' : World} {b : Nat} {l : List Int} {K : Int → Int} {x y : Int}
set_option maxHeartbeats 4000000 in
set_option maxRecDepth 100000 in
/-- The second run is one element. -/
theorem symm_right (A L B : List Int) (x : Int) (cap a m N M rb : Nat) (h : IB w b (A ++ L ++ [x] ++ B)) (ha : A.length = a) (hm : a + L.length = m) (hN : m + 1 + B.length = N) (hM : N ≤ 1000000) (hL : 2 ≤ L.length) (hI : MrgIn K L [x]) (hR : InR M (L ++ [x])) (hc : CmpOk w b M K rb) :
    Calls Tryd.prog 49 #[.slice (some ⟨b, 0, none⟩) N cap, .int .i64 a, .int .i64 m, .int .i64 (m + 1 : Nat), .func (.func 14) #[] #[.pointer (some ⟨rb, 0, none⟩)]] w fun r w' => r = .returned (.tuple #[]) ∧ MrgTo K w' b A L [x] B ∧ Chg [b] w w' := by
  have HI := Lib.hid h
  have HA := Lib.hid ha
  have HE := Lib.hid hm
  have HN := Lib.hid hN
  have HM := Lib.hid hI
  have HR := Lib.hid hR
  have HC := Lib.hid hc
  have hm1 : a + 2 ≤ m := by omega
  have hN1 : m + 1 ≤ N := by omega
  have hz0 : ((m : Int) - a == 1) = false := by rw [beq_eq_false_iff_ne]; omega
  have hz : ((m + 1 : Nat) : Int) - m = 1 := by omega
  obtain ⟨e, he⟩ : ∃ e, e = m + 1 := ⟨_, rfl⟩
  rw [← he] at hz ⊢
  have EM := Lib.hid he
  have he2 : e ≤ N := by omega
  have hme : m ≤ e := by omega
  clear h ha hm hN hI hR hc he hL
  go_enter Tryd.func49, Tryd.ntmps49
  go_wp2_with fail
  go_loopw [14, 15] (fun iv jv wr => ∃ I J : Nat, iv = .int .i64 I ∧ jv = .int .i64 J ∧ a ≤ I ∧ I ≤ J ∧ J ≤ m ∧ Hid ((I = a ∨ Prec K (L.getD (I - 1 - a) 0) x) ∧ (J = m ∨ Prec K x (L.getD (J - a) 0))) ∧ Hid (Chg [] w wr)) (fun iv jv _ => (intOf jv).toNat - (intOf iv).toNat)
  case atStart => exact ⟨a, m, rfl, rfl, by omega, by omega, by omega, Lib.hid ⟨Or.inl rfl, Or.inl rfl⟩, Lib.hid (Chg.refl _ _)⟩
  case round =>
    obtain ⟨I, J, rfl, rfl, hI1, hI2, hI3, HB, HC1⟩ := hrel
    by_cases hlt : I < J
    · obtain ⟨h, eh⟩ : ∃ h, h = (I + J) / 2 := ⟨_, rfl⟩
      have hh1 : I ≤ h := by omega
      have hh2 : h < J := by omega
      obtain ⟨y, hy⟩ : ∃ y, L[h - a]? = some y := ⟨L[h - a]'(by have := HE.out; omega), List.getElem?_eq_getElem _⟩
      have EH := Lib.hid (show ((I : Int) + J) / 2 = (h : Int) by omega)
      have HY := Lib.hid hy
      have hxy := HM.out.low y (List.mem_of_getElem? hy) x (by simp)
      have hx0 := HR.out x (by simp)
      have hy0 := HR.out y (by simp [List.mem_of_getElem? hy])
      have I1 := HI.out.keep HC1.out (by simp)
      have zy := at_l (A := A) (R := [x]) (B := B) (c := h) HA.out (by omega) hy
      have zx := at_r (A := A) (L := L) (R := [x]) (B := B) (m := m) (c := m) (by have := HE.out; have := HA.out; omega) (Nat.le_refl _) (x := x) (by simp)
      have lb := I1.lt
      have q1 := fun d os => ((below_regrown wr d os).cell (p := ⟨b, h, none⟩) lb).trans (I1.cell zy)
      have q2 := fun d os => ((below_regrown wr d os).cell (p := ⟨b, m, none⟩) lb).trans (I1.cell zx)
      have B8 := Lib.hid (show ∀ d os, Calls Tryd.prog 14 #[.int .i64 x, .int .i64 y, .pointer (some ⟨rb, 0, none⟩)] (Go.Sort.grow (redrawn wr d) os) fun e w'' => e = .returned (.int .i64 (cmpZ (K y) (K x))) ∧ ∃ p : Regrown, w'' = Go.Sort.grow (redrawn wr p.d) p.os from
        fun d os => calls_regrown (HC.out x y _ hx0.1 hx0.2 hy0.1 hy0.2 ((HC1.out.thenSame (chg_regrown wr d os)).mono (by simp))))
      have hcz := cmpZ_neg (u := K y) (v := K x)
      have hpr := prec_lt (K := K) hxy
      have hpn := prec_nlt (K := K) hxy
      have g1 : (h : Int) < (N : Int) := by omega
      have g2 : (m : Int) < (N : Int) := by omega
      have g3 : (0 : Int) ≤ (h : Int) := by omega
      have hlt2 : (I : Int) < (J : Int) := by omega
      generalize cmpZ (K y) (K x) = r at *
      clear hy zy zx I1 eh hx0 hy0 hxy
      have HD := Lib.hid (show L.getD (h - a) 0 = y by rw [List.getD_eq_getElem?_getD, HY.out]; rfl)
      by_cases ht : K y < K x
      · have hr : r < 0 := hcz.2 ht
        have HP := Lib.hid (hpr.2 ht)
        clear hcz hpr hpn ht
        go_wp2_with fail
        rw [EH.out]
        refine wp_region_quiet_below (by kernel_rfl) (by kernel_rfl) ?_
        repeat (any_goals (first | go_big_quiet_step (exact B8.out _ _) | quiet_step (exact B8.out _ _)))
        refine wpQuiet_nil ?_
        intro _ hw'
        obtain ⟨⟨dq, osq⟩, hw''⟩ := hw'
        subst hw''
        change Exit.then _ _ Exit.normal _ (Go.Sort.grow (redrawn wr dq) osq)
        have K2 := Lib.hid (HC1.out.thenSame (chg_regrown wr dq osq))
        generalize Go.Sort.grow (redrawn wr dq) osq = W2 at *
        clear q1 q2 B8
        go_wp2_with fail
        exact ⟨⟨I, h, rfl, rfl, by omega, by omega, by omega, Lib.hid ⟨HB.out.1, Or.inr (by rw [HD.out]; exact HP.out)⟩, K2⟩, by simp [intOf]; omega⟩
      · have hr : decide (r < 0) = false := decide_eq_false fun h => ht (hcz.1 h)
        have HP := Lib.hid (hpn.1 ht)
        clear hcz hpr hpn ht
        go_wp2_with fail
        rw [EH.out]
        refine wp_region_quiet_below (by kernel_rfl) (by kernel_rfl) ?_
        repeat (any_goals (first | go_big_quiet_step (exact B8.out _ _) | quiet_step (exact B8.out _ _)))
        refine wpQuiet_nil ?_
        intro _ hw'
        obtain ⟨⟨dq, osq⟩, hw''⟩ := hw'
        subst hw''
        change Exit.then _ _ Exit.normal _ (Go.Sort.grow (redrawn wr dq) osq)
        have K2 := Lib.hid (HC1.out.thenSame (chg_regrown wr dq osq))
        generalize Go.Sort.grow (redrawn wr dq) osq = W2 at *
        clear q1 q2 B8
        go_wp2_with fail
        exact ⟨⟨h + 1, J, by go_num, rfl, by omega, by omega, by omega, Lib.hid ⟨Or.inr (by rw [show h + 1 - 1 - a = h - a by omega, HD.out]; exact HP.out), HB.out.2⟩, K2⟩, by simp [intOf]; omega⟩
    · have hIJ : I = J := by omega
      subst hIJ
      obtain ⟨p, hp⟩ : ∃ p, I = a + p := ⟨I - a, by omega⟩
      have HB2 := Lib.hid (show Srt K (L.take p ++ x :: L.drop p) from by
        obtain ⟨b1, b2⟩ := HB.out
        refine one_into HM.out.l (by have := HE.out; omega) ?_ ?_
        · rcases b1 with b1 | b1
          · exact Or.inl (by omega)
          · rw [show I - 1 - a = p - 1 by omega] at b1; exact Or.inr b1
        · rcases b2 with b2 | b2
          · exact Or.inl (by have := HE.out; omega)
          · rw [show I - a = p by omega] at b2; exact Or.inr b2)
      have HT := Lib.hid hp
      have H0 := Lib.hid (show IB wr b (A ++ L.take (m - a) ++ x :: (L.drop (m - a) ++ B)) from by
        have := HI.out.keep HC1.out (by simp)
        have hl : L.length = m - a := by have := HE.out; omega
        rw [List.take_of_length_le (by omega), List.drop_of_length_le (by omega)]; simpa using this)
      have HC2 := Lib.hid (show Chg [b] w wr from HC1.out.mono (by simp))
      have hI4 : I ≤ m := by omega
      clear HC1 HB hz hp hI2 hI3 hlt
      go_wp2_with fail
      go_loopw [17] (fun kv wr => ∃ q : Nat, kv = .int .i64 q ∧ I ≤ q ∧ q ≤ m ∧ Hid (IB wr b (A ++ L.take (q - a) ++ x :: (L.drop (q - a) ++ B))) ∧ Hid (Chg [b] w wr)) (fun kv _ => (intOf kv).toNat)
      case atStart => exact ⟨m, rfl, hI4, Nat.le_refl _, H0, HC2⟩
      case round =>
        obtain ⟨q, rfl, hq1, hq2, H1, HC3⟩ := hrel
        by_cases hkp : I < q
        · obtain ⟨s, es⟩ : ∃ s, q = s + 1 := ⟨q - 1, by omega⟩
          obtain ⟨y, hy⟩ : ∃ y, L[s - a]? = some y := ⟨L[s - a]'(by have := HE.out; omega), List.getElem?_eq_getElem _⟩
          have i1 := H1.out
          have hq3 : (A ++ L.take (s - a)).length = s := by have := HA.out; have := len_at hy; simp; omega
          rw [es, show s + 1 - a = s - a + 1 by omega, take_at hy] at i1
          have e0 : A ++ (L.take (s - a) ++ [y]) ++ x :: (L.drop (s - a + 1) ++ B) = (A ++ L.take (s - a)) ++ y :: x :: (L.drop (s - a + 1) ++ B) := by simp
          rw [e0] at i1
          have zy : (A ++ L.take (s - a) ++ y :: x :: (L.drop (s - a + 1) ++ B))[s]? = some y := by rw [List.getElem?_append_right (by omega), hq3]; simp
          have zx : (A ++ L.take (s - a) ++ y :: x :: (L.drop (s - a + 1) ++ B))[q]? = some x := by rw [List.getElem?_append_right (by omega), hq3, es]; simp
          have c1 := i1.cell zx
          have c2 := i1.cell zy
          have c3 := i1.set_cell (i := q) zy
          have lb := i1.lt
          have fz := blk_free i1
          have HZ := Lib.hid (show IB ((wr.setCell ⟨b, q, none⟩ (.int .i64 y)).setCell ⟨b, s, none⟩ (.int .i64 x)).drew b (A ++ L.take (s - a) ++ x :: (L.drop (s - a) ++ B)) from by
            have h1 := (i1.swp zx zy).keep (Chg.refl [] _).drew (by simp)
            rw [es, swp_prev _ _ _ _ hq3] at h1
            rw [es, drop_at hy]
            simpa using h1)
          have HC4 := Lib.hid (show Chg [b] w ((wr.setCell ⟨b, q, none⟩ (.int .i64 y)).setCell ⟨b, s, none⟩ (.int .i64 x)).drew from ((HC3.out.setCell _ _ (by simp)).setCell _ _ (by simp)).drew)
          have z1 : IntKind.i64.wrap ((q : Int) - 1) = (s : Int) := by rw [wrapI (by omega) (by omega)]; omega
          have g1 : (q : Int) < (N : Int) := by omega
          have g2 : (s : Int) < (N : Int) := by omega
          have g3 : (0 : Int) ≤ (q : Int) := by omega
          have g4 : (0 : Int) ≤ (s : Int) := by omega
          have g5 : (I : Int) < (q : Int) := by omega
          have ES := Lib.hid es
          clear i1 hq3 zx zy hy es e0
          go_wp2_with fail
          go_region_law (fail)
          all_goals
            go_wp2_with fail
            exact ⟨⟨s, rfl, by have := ES.out; omega, by have := ES.out; omega, HZ, HC4⟩, by have := ES.out; simp [intOf]; omega⟩
        · have hke : q = I := by omega
          have g5 : ¬ (I : Int) < (q : Int) := by omega
          have HF := Lib.hid (show MrgTo K wr b A L [x] B from ⟨_, by have := H1.out; rw [hke, HT.out, Nat.add_sub_cancel_left] at this; rw [← List.append_assoc]; simpa using this, (perm_into p).trans (List.perm_append_comm (l₁ := [x])), HB2.out⟩)
          clear hke hq1 hq2 hkp
          go_wp2_with fail
          refine bodyPost_ret (v := .tuple #[]) (results_none rfl _ _ _) rfl ?_
          exact ⟨rfl, HF.out, HC3.out⟩
end Go.Proofs.YtehjalgogjkdlaaDoor
