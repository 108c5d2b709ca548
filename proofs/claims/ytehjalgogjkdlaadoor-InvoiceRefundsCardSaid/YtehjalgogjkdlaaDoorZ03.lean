/- Over any program with slices.SortStableFunc on ints: contract: the rotation. Condition: up to a million elements. Over any program with slices.SortStableFunc on ints: contract: the merge of two sorted runs. Condition: up to a million elements. -/
import Derived.Test.YtehjalgogjkdlaaDoorZ02
namespace Go.Proofs.YtehjalgogjkdlaaDoor
set_option linter.unusedVariables false
set_option linter.unusedSimpArgs false
open Go.RowKit
variable {w w' : World} {b : Nat} {l : List Int}
/-- What the rotation has yet to turn. -/
def RotI (w : World) (b : Nat) (T : List Int) (m N I J : Nat) : Prop := ∃ A U V B : List Int, IB w b (A ++ U ++ V ++ B) ∧ A.length + I = m ∧ U.length = I ∧ V.length = J ∧ m + J + B.length = N ∧ A ++ V ++ U ++ B = T
set_option maxHeartbeats 4000000 in
set_option maxRecDepth 100000 in
theorem rot_any (A U V B : List Int) (cap a m e N : Nat) (f : Value) (h : IB w b (A ++ U ++ V ++ B)) (ha : A.length = a) (hm : a + U.length = m) (he : m + V.length = e) (hN : e + B.length = N) (hM : N ≤ 1000000) (hU : 0 < U.length) (hV : 0 < V.length) :
    Calls Tryd.prog 64 #[.slice (some ⟨b, 0, none⟩) N cap, .int .i64 a, .int .i64 m, .int .i64 e, f] w fun r w' => r = .returned (.tuple #[]) ∧ IB w' b (A ++ V ++ U ++ B) ∧ Chg [b] w w' := by
  obtain ⟨T, hT⟩ : ∃ T, T = A ++ V ++ U ++ B := ⟨_, rfl⟩
  rw [← hT]
  have h1 : a < m := by omega
  have h2 : m < e := by omega
  have h3 : e ≤ N := by omega
  have z1 : ((m : Int) - a) = ((m - a : Nat) : Int) := by omega
  have z2 : ((e : Int) - m) = ((e - m : Nat) : Int) := by omega
  have H0 := Lib.hid (show RotI w b T m N (m - a) (e - m) from ⟨A, U, V, B, h, by omega, by omega, by omega, by omega, hT.symm⟩)
  have Z1 := Lib.hid z1
  have Z2 := Lib.hid z2
  clear h hT ha hm he hN hU hV z1 z2
  go_enter Tryd.func64, Tryd.ntmps64
  go_wp2_with fail
  rw [Z1.out]
  go_wp2_with fail
  rw [Z2.out]
  go_loopw [10, 11] (fun i j wr => ∃ I J : Nat, i = .int .i64 I ∧ j = .int .i64 J ∧ 0 < I ∧ 0 < J ∧ I ≤ m ∧ m + J ≤ N ∧ Hid (RotI wr b T m N I J) ∧ Hid (Chg [b] w wr)) (fun i j _ => (intOf i).toNat + (intOf j).toNat)
  case atStart => exact ⟨m - a, e - m, rfl, rfl, by omega, by omega, by omega, by omega, H0, Lib.hid (Chg.refl _ _)⟩
  case round =>
    obtain ⟨I, J, rfl, rfl, hI, hJ, hIm, hJN, HR, HC⟩ := hrel
    have hcall : ∀ (A X B Y C : List Int) (p q n : Nat) (w1 : World), IB w1 b (A ++ X ++ B ++ Y ++ C) → X.length = Y.length → A.length = p → X.length = n → p + n + B.length = q → q + n + C.length = N →
        Calls Tryd.prog 70 #[.slice (some ⟨b, 0, none⟩) N cap, .int .i64 p, .int .i64 q, .int .i64 n, f] w1 fun e w' => e = .returned (.tuple #[]) ∧ IB w' b (A ++ Y ++ B ++ X ++ C) ∧ Chg [b] w1 w' :=
      fun A X B Y C p q n w1 g1 g2 g3 g4 g5 g6 => swpr_any A X B Y C cap p q n N f g1 g2 g3 g4 g5 g6 hM
    obtain ⟨A, U, V, B, r1, r2, r3, r4, r5, r6⟩ := HR.out
    have y1 : ((m : Int) - I) = ((m - I : Nat) : Int) := by omega
    have Y1 := Lib.hid y1
    clear y1
    by_cases hne : I = J
    · subst hne
      have A1 := Lib.hid (hcall A U [] V B (m - I) m I wr (by simpa using r1) (by omega) (by omega) (by omega) (by simp; omega) (by omega))
      clear hcall r1 r2 r3 r4 r5
      go_wp2_with fail
      rw [Y1.out]
      go_wp2_with fail
      refine A1.out.mono ?_; rintro r w1 ⟨rfl, h8, h9⟩
      have Q8 := Lib.hid h8
      have Q9 := Lib.hid h9
      clear h8 h9
      go_wp2_with fail
      go_end0
      exact ⟨rfl, by have := Q8.out; rw [← r6]; simpa using this, HC.out.thenSame Q9.out⟩
    · have hb : ((I : Int) != (J : Int)) = true := by rw [bne_iff_ne]; omega
      by_cases hgt : J < I
      · have A1 := Lib.hid (hcall A (U.take J) (U.drop J) V B (m - I) m J wr (by rw [List.append_assoc A, List.take_append_drop]; exact r1) (by simp; omega) (by omega) (by simp; omega) (by simp; omega) (by omega))
        have y2 : ((I : Int) - J) = ((I - J : Nat) : Int) := by omega
        have Y2 := Lib.hid y2
        have N1 := Lib.hid (show ∀ w1, IB w1 b (A ++ V ++ U.drop J ++ U.take J ++ B) → RotI w1 b T m N (I - J) J from fun w1 g => ⟨A ++ V, U.drop J, U.take J, B, g, by simp; omega, by simp; omega, by simp; omega, r5, by rw [← r6]; simp [List.append_assoc]⟩)
        clear hcall r1 r2 r3 r4 r5 r6 y2
        go_wp2_with fail
        rw [Y1.out]
        go_wp2_with fail
        refine A1.out.mono ?_; rintro r w1 ⟨rfl, h8, h9⟩
        have Q8 := Lib.hid (N1.out w1 h8)
        have Q9 := Lib.hid (HC.out.thenSame h9)
        clear h8 h9
        go_wp2_with fail
        exact ⟨⟨I - J, J, by rw [Y2.out], rfl, by omega, by omega, by omega, by omega, Q8, Q9⟩, by rw [Y2.out]; simp [intOf]; omega⟩
      · have A1 := Lib.hid (hcall A U (V.take (J - I)) (V.drop (J - I)) B (m - I) (m + J - I) I wr (by rw [List.append_assoc (A ++ U), List.take_append_drop]; exact r1) (by simp; omega) (by omega) (by omega) (by simp; omega) (by omega))
        have y2 : ((J : Int) - I) = ((J - I : Nat) : Int) := by omega
        have Y2 := Lib.hid y2
        have y3 : ((m : Int) + J - I) = ((m + J - I : Nat) : Int) := by omega
        have Y3 := Lib.hid y3
        have N1 := Lib.hid (show ∀ w1, IB w1 b (A ++ V.drop (J - I) ++ V.take (J - I) ++ U ++ B) → RotI w1 b T m N I (J - I) from fun w1 g => ⟨A, V.drop (J - I), V.take (J - I), U ++ B, by rw [← List.append_assoc]; exact g, by omega, by simp; omega, by simp; omega, by simp; omega, by rw [← r6]; simp [List.append_assoc]⟩)
        clear hcall r1 r2 r3 r4 r5 r6 y2 y3
        go_wp2_with fail
        rw [Y1.out]
        go_wp2_with fail
        rw [Y3.out]
        go_wp2_with fail
        refine A1.out.mono ?_; rintro r w1 ⟨rfl, h8, h9⟩
        have Q8 := Lib.hid (N1.out w1 h8)
        have Q9 := Lib.hid (HC.out.thenSame h9)
        clear h8 h9
        go_wp2_with fail
        exact ⟨⟨I, J - I, rfl, by rw [Y2.out], by omega, by omega, by omega, by omega, Q8, Q9⟩, by rw [Y2.out]; simp [intOf]; omega⟩
end Go.Proofs.YtehjalgogjkdlaaDoor

namespace Go.Proofs.YtehjalgogjkdlaaDoor
set_option linter.unusedVariables false
set_option linter.unusedSimpArgs false
open Go.RowKit
variable {w w' : World} {b : Nat} {l : List Int} {K : Int → Int} {x y : Int}
/-- What a merge is asked: two sorted runs, the indices of the first below those of the second. -/
structure MrgIn (K : Int → Int) (L R : List Int) : Prop where
  l : Srt K L
  r : Srt K R
  low : Low L R
/-- What a merge leaves. -/
def MrgTo (K : Int → Int) (w : World) (b : Nat) (A L R B : List Int) : Prop := ∃ Y : List Int, IB w b (A ++ Y ++ B) ∧ Y.Perm (L ++ R) ∧ Srt K Y
theorem at_l {A L R B : List Int} {a c : Nat} {x : Int} (ha : A.length = a) (h1 : a ≤ c) (hx : L[c - a]? = some x) : (A ++ L ++ R ++ B)[c]? = some x := by
  have h2 := len_at hx
  rw [List.append_assoc, List.append_assoc, List.getElem?_append_right (by omega), ha, List.getElem?_append_left h2]
  exact hx
theorem at_r {A L R B : List Int} {m c : Nat} {x : Int} (hm : A.length + L.length = m) (h1 : m ≤ c) (hx : R[c - m]? = some x) : (A ++ L ++ R ++ B)[c]? = some x := by
  have h2 := len_at hx
  rw [List.append_assoc, List.getElem?_append_right (by simp; omega), List.length_append, hm, List.getElem?_append_left h2]
  exact hx
/-- The middle of two numbers. -/
theorem mid_at {i j : Nat} (h : i + j < 4294967296) : IntKind.u64.wrap ((i : Int) + j) / 2 = (((i + j) / 2 : Nat) : Int) := by
  rw [IntKind.wrap_u64]; omega
set_option maxHeartbeats 4000000 in
set_option maxRecDepth 100000 in
/-- The first run is one element. -/
theorem symm_left (A R B : List Int) (x : Int) (cap a e N M rb : Nat) (h : IB w b (A ++ [x] ++ R ++ B)) (ha : A.length = a) (he : a + 1 + R.length = e) (hN : e + B.length = N) (hM : N ≤ 1000000) (hI : MrgIn K [x] R) (hR : InR M ([x] ++ R)) (hc : CmpOk w b M K rb) :
    Calls Tryd.prog 49 #[.slice (some ⟨b, 0, none⟩) N cap, .int .i64 a, .int .i64 (a + 1 : Nat), .int .i64 e, .func (.func 14) #[] #[.pointer (some ⟨rb, 0, none⟩)]] w fun r w' => r = .returned (.tuple #[]) ∧ MrgTo K w' b A [x] R B ∧ Chg [b] w w' := by
  have HI := Lib.hid h
  have HA := Lib.hid ha
  have HE := Lib.hid he
  have HN := Lib.hid hN
  have HM := Lib.hid hI
  have HR := Lib.hid hR
  have HC := Lib.hid hc
  have he1 : a + 1 ≤ e := by omega
  have hN1 : e ≤ N := by omega
  have hz : ((a + 1 : Nat) : Int) - a = 1 := by omega
  obtain ⟨m, hm⟩ : ∃ m, m = a + 1 := ⟨_, rfl⟩
  rw [← hm] at hz he1 ⊢
  have EM := Lib.hid hm
  clear h ha he hN hI hR hc hm
  go_enter Tryd.func49, Tryd.ntmps49
  go_wp2_with fail
  go_loopw [10, 11] (fun iv jv wr => ∃ I J : Nat, iv = .int .i64 I ∧ jv = .int .i64 J ∧ m ≤ I ∧ I ≤ J ∧ J ≤ e ∧ Hid ((I = m ∨ Prec K (R.getD (I - 1 - m) 0) x) ∧ (J = e ∨ Prec K x (R.getD (J - m) 0))) ∧ Hid (Chg [] w wr)) (fun iv jv _ => (intOf jv).toNat - (intOf iv).toNat)
  case atStart => exact ⟨m, e, rfl, rfl, by omega, by omega, by omega, Lib.hid ⟨Or.inl rfl, Or.inl rfl⟩, Lib.hid (Chg.refl _ _)⟩
  case round =>
    obtain ⟨I, J, rfl, rfl, hI1, hI2, hI3, HB, HC1⟩ := hrel
    by_cases hlt : I < J
    · obtain ⟨h, eh⟩ : ∃ h, h = (I + J) / 2 := ⟨_, rfl⟩
      have hh1 : I ≤ h := by omega
      have hh2 : h < J := by omega
      obtain ⟨y, hy⟩ : ∃ y, R[h - m]? = some y := ⟨R[h - m]'(by have := HE.out; have := EM.out; omega), List.getElem?_eq_getElem _⟩
      have EH := Lib.hid (show ((I : Int) + J) / 2 = (h : Int) by omega)
      have HY := Lib.hid hy
      have hxy := HM.out.low x (by simp) y (List.mem_of_getElem? hy)
      have hx0 := HR.out x (by simp)
      have hy0 := HR.out y (by simp [List.mem_of_getElem? hy])
      have I1 := HI.out.keep HC1.out (by simp)
      have zy := at_r (A := A) (L := [x]) (B := B) (m := m) (c := h) (by have := EM.out; have := HA.out; simp; omega) (by omega) hy
      have zx := at_l (A := A) (L := [x]) (R := R) (B := B) (c := a) HA.out (Nat.le_refl _) (x := x) (by simp)
      have lb := I1.lt
      have q1 := fun d os => ((below_regrown wr d os).cell (p := ⟨b, h, none⟩) lb).trans (I1.cell zy)
      have q2 := fun d os => ((below_regrown wr d os).cell (p := ⟨b, a, none⟩) lb).trans (I1.cell zx)
      have B8 := Lib.hid (show ∀ d os, Calls Tryd.prog 14 #[.int .i64 y, .int .i64 x, .pointer (some ⟨rb, 0, none⟩)] (Go.Sort.grow (redrawn wr d) os) fun e w'' => e = .returned (.int .i64 (cmpZ (K x) (K y))) ∧ ∃ p : Regrown, w'' = Go.Sort.grow (redrawn wr p.d) p.os from
        fun d os => calls_regrown (HC.out y x _ hy0.1 hy0.2 hx0.1 hx0.2 ((HC1.out.thenSame (chg_regrown wr d os)).mono (by simp))))
      have hcz := cmpZ_neg (u := K x) (v := K y)
      have hpr := prec_lt (K := K) hxy
      have hpn := prec_nlt (K := K) hxy
      have g1 : (h : Int) < (N : Int) := by omega
      have g2 : (a : Int) < (N : Int) := by have := EM.out; omega
      have g3 : (0 : Int) ≤ (h : Int) := by omega
      have hlt2 : (I : Int) < (J : Int) := by omega
      generalize cmpZ (K x) (K y) = r at *
      clear hy zy zx I1 eh hx0 hy0 hxy
      have HD := Lib.hid (show R.getD (h - m) 0 = y by rw [List.getD_eq_getElem?_getD, HY.out]; rfl)
      by_cases ht : K x < K y
      · have hr : r < 0 := hcz.2 ht
        have HP := Lib.hid (hpr.2 ht)
        clear hcz hpr hpn ht
        go_wp2_with fail
        rw [EH.out]
        refine wp_region_quiet_below (by kernel_rfl) (by kernel_rfl) ?_
        repeat (any_goals (first | go_big_quiet_step (exact B8.out _ _) | quiet_step (exact B8.out _ _)))
        refine wpQuiet_nil ?_
        intro _ hw'
        obtain ⟨⟨dq, osq⟩, hw''⟩ := hw'
        subst hw''
        change Exit.then _ _ Exit.normal _ (Go.Sort.grow (redrawn wr dq) osq)
        have K2 := Lib.hid (HC1.out.thenSame (chg_regrown wr dq osq))
        generalize Go.Sort.grow (redrawn wr dq) osq = W2 at *
        clear q1 q2 B8
        go_wp2_with fail
        exact ⟨⟨h + 1, J, by go_num, rfl, by omega, by omega, by omega, Lib.hid ⟨Or.inr (by rw [show h + 1 - 1 - m = h - m by omega, HD.out]; exact HP.out), HB.out.2⟩, K2⟩, by simp [intOf]; omega⟩
      · have hr : ¬ r < 0 := fun h => ht (hcz.1 h)
        have HP := Lib.hid (hpn.1 ht)
        clear hcz hpr hpn ht
        go_wp2_with fail
        rw [EH.out]
        refine wp_region_quiet_below (by kernel_rfl) (by kernel_rfl) ?_
        repeat (any_goals (first | go_big_quiet_step (exact B8.out _ _) | quiet_step (exact B8.out _ _)))
        refine wpQuiet_nil ?_
        intro _ hw'
        obtain ⟨⟨dq, osq⟩, hw''⟩ := hw'
        subst hw''
        change Exit.then _ _ Exit.normal _ (Go.Sort.grow (redrawn wr dq) osq)
        have K2 := Lib.hid (HC1.out.thenSame (chg_regrown wr dq osq))
        generalize Go.Sort.grow (redrawn wr dq) osq = W2 at *
        clear q1 q2 B8
        go_wp2_with fail
        exact ⟨⟨I, h, rfl, rfl, by omega, by omega, by omega, Lib.hid ⟨HB.out.1, Or.inr (by rw [HD.out]; exact HP.out)⟩, K2⟩, by simp [intOf]; omega⟩
    · have hIJ : I = J := by omega
      subst hIJ
      obtain ⟨p, hp⟩ : ∃ p, I = m + p := ⟨I - m, by omega⟩
      have HB2 := Lib.hid (show Srt K (R.take p ++ x :: R.drop p) from by
        obtain ⟨b1, b2⟩ := HB.out
        refine one_into HM.out.r (by have := HE.out; have := EM.out; omega) ?_ ?_
        · rcases b1 with b1 | b1
          · exact Or.inl (by omega)
          · rw [show I - 1 - m = p - 1 by omega] at b1; exact Or.inr b1
        · rcases b2 with b2 | b2
          · exact Or.inl (by have := HE.out; have := EM.out; omega)
          · rw [show I - m = p by omega] at b2; exact Or.inr b2)
      have HPL := Lib.hid (show p ≤ R.length by have := HE.out; have := EM.out; omega)
      have H0 := Lib.hid (show IB wr b (A ++ R.take (a - a) ++ x :: (R.drop (a - a) ++ B)) from by have := HI.out.keep HC1.out (by simp); rw [Nat.sub_self]; simpa using this)
      obtain ⟨t, ht⟩ : ∃ t, t = a + p := ⟨_, rfl⟩
      have hz2 : (t : Int) = (I : Int) - 1 := by have := EM.out; omega
      have hz3 : t + 1 ≤ N := by have := EM.out; omega
      have hz4 : a ≤ t := by omega
      have HT := Lib.hid ht
      have HC2 := Lib.hid (show Chg [b] w wr from HC1.out.mono (by simp))
      have hI4 : I ≤ N := by omega
      have hI5 : 1 ≤ I := by omega
      clear HC1 HB hz hp ht hI1 hI2 hI3 hlt
      go_wp2_with fail
      go_loopw [13] (fun kv wr => ∃ q : Nat, kv = .int .i64 q ∧ a ≤ q ∧ q ≤ t ∧ Hid (IB wr b (A ++ R.take (q - a) ++ x :: (R.drop (q - a) ++ B))) ∧ Hid (Chg [b] w wr)) (fun kv _ => t - (intOf kv).toNat)
      case atStart => exact ⟨a, rfl, by omega, hz4, H0, HC2⟩
      case round =>
        obtain ⟨q, rfl, hq1, hq2, H1, HC3⟩ := hrel
        by_cases hkp : q < t
        · obtain ⟨y, hy⟩ : ∃ y, R[q - a]? = some y := ⟨R[q - a]'(by have := HT.out; have := HPL.out; omega), List.getElem?_eq_getElem _⟩
          obtain ⟨s, es⟩ : ∃ s, s = q + 1 := ⟨_, rfl⟩
          have i1 := H1.out
          have hq3 : (A ++ R.take (q - a)).length = q := by have := HA.out; have := len_at hy; simp; omega
          rw [drop_at hy, List.cons_append] at i1
          have zx : (A ++ R.take (q - a) ++ x :: y :: (R.drop (q - a + 1) ++ B))[q]? = some x := by rw [List.getElem?_append_right (by omega), hq3]; simp
          have zy : (A ++ R.take (q - a) ++ x :: y :: (R.drop (q - a + 1) ++ B))[s]? = some y := by rw [List.getElem?_append_right (by omega), hq3, es]; simp
          have c1 := i1.cell zx
          have c2 := i1.cell zy
          have c3 := i1.set_cell (i := q) zy
          have lb := i1.lt
          have fz := blk_free i1
          have HZ := Lib.hid (show IB ((wr.setCell ⟨b, q, none⟩ (.int .i64 y)).setCell ⟨b, s, none⟩ (.int .i64 x)).drew b (A ++ R.take (s - a) ++ x :: (R.drop (s - a) ++ B)) from by
            have h1 := (i1.swp zx zy).keep (Chg.refl [] _).drew (by simp)
            rw [es, swp_next _ _ _ _ hq3] at h1
            rw [es, show q + 1 - a = q - a + 1 by omega, take_at hy]
            simpa using h1)
          have HC4 := Lib.hid (show Chg [b] w ((wr.setCell ⟨b, q, none⟩ (.int .i64 y)).setCell ⟨b, s, none⟩ (.int .i64 x)).drew from ((HC3.out.setCell _ _ (by simp)).setCell _ _ (by simp)).drew)
          have z1 : IntKind.i64.wrap ((q : Int) + 1) = (s : Int) := by rw [wrapI (by omega) (by omega)]; omega
          have g1 : (q : Int) < (N : Int) := by omega
          have g2 : (s : Int) < (N : Int) := by omega
          have g3 : (0 : Int) ≤ (q : Int) := by omega
          have g4 : (0 : Int) ≤ (s : Int) := by omega
          have g5 : (q : Int) < (I : Int) - 1 := by omega
          have ES := Lib.hid es
          clear i1 hq3 zx zy hy es hz2
          go_wp2_with fail
          go_region_law (fail)
          all_goals
            go_wp2_with fail
            exact ⟨⟨s, by rw [ES.out], by have := ES.out; omega, by have := ES.out; omega, HZ, HC4⟩, by have := ES.out; simp [intOf]; omega⟩
        · have hke : q = t := by omega
          have g5 : ¬ (q : Int) < (I : Int) - 1 := by omega
          clear hq1 hq2 hkp
          have HF := Lib.hid (show MrgTo K wr b A [x] R B from ⟨_, by have := H1.out; rw [hke, HT.out, Nat.add_sub_cancel_left] at this; rw [← List.append_assoc]; simpa using this, perm_into p, HB2.out⟩)
          clear hke hz2
          go_wp2_with fail
          refine bodyPost_ret (v := .tuple #[]) (results_none rfl _ _ _) rfl ?_
          exact ⟨rfl, HF.out, HC3.out⟩
end Go.Proofs.YtehjalgogjkdlaaDoor
