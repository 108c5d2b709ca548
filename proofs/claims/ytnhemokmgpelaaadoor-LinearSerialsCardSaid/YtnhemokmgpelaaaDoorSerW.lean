/- Chapter 50: the walk of LinearSerials. Condition: the table of Itoa lies as the program lays it. -/
import Derived.Test.YtnhemokmgpelaaaDoorSerB
import Derived.Test.YtnhemokmgpelaaaDoorLawC
namespace Go.Proofs.YtnhemokmgpelaaaDoor
set_option linter.unusedVariables false
set_option linter.unusedSimpArgs false
open Go.RowKit
set_option maxHeartbeats 16000000 in
set_option maxRecDepth 100000 in
theorem serials_walk (a0 : Option Addr) (len0 cap0 : Nat) (l0 : List Ce) (a1 : Option Addr) (len1 cap1 : Nat) (l1 : List Cl) (w : World)
    (h0 : l0.length = len0 ∧ InIs ceC 4 w a0 cap0 l0 ∧ goodL l0) (h1 : l1.length = len1 ∧ LIn w a1 cap1 l1 ∧ (∀ x ∈ l1, goodCl x) ∧ ∀ x ∈ l1, goodL x.ans) (ht : TabW w) :
    Calls Tryd.prog 6 #[.slice a0 len0 cap0, .slice a1 len1 cap1] w fun e w' => e = .returned (.bool true) ∧ Below w.heap.size w w' := by
  obtain ⟨rfl, hs, hsg⟩ := h0
  obtain ⟨rfl, hl, hg, hga⟩ := h1
  refine Calls.mono (R := fun e w' => e = .returned (.bool true) ∧ Chg [] w w') ?_ (fun e w' h => ⟨h.1, h.2.toBelow (Nat.le_refl _) (by simp)⟩)
  have AW := Lib.hid (fun w' (hc : Chg [] w w') => awake_any w' (ht.kept hc))
  by_cases h6 : 6 < l1.length
  · have h6' : (6 : Int) < (l1.length : Int) := by omega
    go_enter Tryd.func6, Tryd.ntmps6
    go_wp2_with fail
    refine (AW.out _ (Chg.refl _ _)).mono ?_; rintro e w2 ⟨rfl, hc⟩
    have C2 := Lib.hid hc
    clear hc
    go_wp2_with fail
    go_ret
    exact ⟨rfl, C2.out⟩
  have h6' : (l1.length : Int) ≤ 6 := by omega
  have A := Lib.hid (serial_any hl hg hga hs hsg ht)
  by_cases hz : (findZ l0 (l1.map Cl.p)).2 = 0
  case neg =>
    have HE : serZ l0 (l1.map Cl.p) = ([], (findZ l0 (l1.map Cl.p)).2) := by unfold serZ; rw [if_pos hz]
    rw [HE] at A
    have hzb : ((findZ l0 (l1.map Cl.p)).2 != 0) = true := by simpa using hz
    clear hl hg hga hs hsg ht hz HE
    generalize findZ l0 (l1.map Cl.p) = z at *
    obtain ⟨z1, z2⟩ := z
    simp only at hzb A
    go_enter Tryd.func6, Tryd.ntmps6
    go_wp2_with fail
    refine A.out.mono ?_; rintro e w2 ⟨oa, oc, D, rfl, hD, -, hc⟩
    have C2 := Lib.hid hc
    clear hc hD
    go_wp2_with fail
    refine (AW.out _ C2.out).mono ?_; rintro e w3 ⟨rfl, hc⟩
    have C3 := Lib.hid (C2.out.thenSame hc)
    clear hc
    go_wp2_with fail
    go_ret
    exact ⟨rfl, C3.out⟩
  obtain ⟨f1, f2, q, f3, f4⟩ := find_facts hz
  have HE : serZ l0 (l1.map Cl.p) = (serGo (l1.map Cl.p) (findZ l0 (l1.map Cl.p)).1 l0, 0) := by unfold serZ; rw [if_neg (by simp [hz])]
  rw [HE] at A
  have hh : hcheckZ (l1.map Cl.p) = 0 := by
    unfold hchkZ at f1
    split at f1
    · rename_i h1; exact absurd f1 h1
    · rename_i h1; simpa using h1
  have hcl := compl_len (l := l1.map Cl.p) (order := (findZ l0 (l1.map Cl.p)).1) (by unfold completeB; rw [f3]; exact f4)
  rw [List.length_map] at hcl
  have RL := serGo_len f2
  have RM := Lib.hid (serGo_mem f2)
  have RO := Lib.hid (serOk_of f2)
  have RC := Lib.hid (fun i (hi : i < (l1.map Cl.p).length) => ser_count hh f3 f4 f2 hi)
  generalize serGo (l1.map Cl.p) (findZ l0 (l1.map Cl.p)).1 l0 = R at *
  have hR6 : R.length ≤ 6 := by omega
  have HS := Lib.hid hs
  have HSG := Lib.hid hsg
  have HL := Lib.hid hl
  have HG := Lib.hid hg
  have HT := Lib.hid ht
  have hl0 : (0 : Int) ≤ (l1.length : Int) := by omega
  clear hl hg hga hs hsg ht hz f1 f2 f3 f4 HE hh hcl RL

  go_enter Tryd.func6, Tryd.ntmps6
  go_wp2_with fail
  refine A.out.mono ?_; rintro e w2 ⟨oa, oc, D, rfl, hD, hin, hc⟩
  have C2 := Lib.hid hc
  have DI := Lib.hid hin
  simp only at hD
  have hDl : D.length = R.length := by rw [← hD, List.length_map]
  have HD := Lib.hid hD
  have HDL := Lib.hid hDl
  have hD6 : (D.length : Int) ≤ 6 := by omega
  have hD0 : (0 : Int) ≤ (D.length : Int) := by omega
  clear hc hin hD hDl A
  go_wp2_with fail
  go_loopw [7, 8] (fun s i wr => ∃ (k : Nat) (na : Option Addr) (nc : Nat) (s1 : List Ce), s = .slice na s1.length nc ∧ i = .int .i64 k ∧ k ≤ D.length ∧ Hid (Chg [] w2 wr) ∧ Hid (InIs ceC 4 wr na nc s1) ∧ Hid (goodL s1) ∧ Hid (SerOk (R.drop k) s1)) (fun _ i _ => D.length - (intOf i).toNat)
  case atStart => exact ⟨0, a0, cap0, l0, rfl, rfl, Nat.zero_le _, Lib.hid (Chg.refl _ _), Lib.hid (HS.out.kept C2.out), HSG, RO⟩
  case round =>
    obtain ⟨k, na, nc, s1, rfl, rfl, hk, SI, IS, SG, LO⟩ := hrel
    have hk0 : (0 : Int) ≤ (k : Int) := by omega
    have CW := Lib.hid (C2.out.thenSame SI.out)
    by_cases hko : k < D.length
    · have hko' : (k : Int) < (D.length : Int) := by omega
      have hkR : k < R.length := by have := HDL.out; omega
      obtain ⟨b2, o2, e3, -, hc2⟩ := DI.out.at8 (w' := wr) k hko
      subst e3
      have hix := (DI.out.2 _ (List.getElem_mem hko)).kept SI.out
      have hgx : D[k].o.good := by
        have hm : (D[k]).p ∈ R := by rw [← HD.out]; exact List.mem_map_of_mem (List.getElem_mem hko)
        obtain ⟨x, hx, e1, -, -⟩ := RM.out _ hm
        obtain ⟨y, hy, rfl⟩ := List.mem_map.1 hx
        exact good_p (HG.out y hy).1 e1
      obtain ⟨g1, g2, g3, g4⟩ := serOk_drop hkR LO.out
      have hRk : R[k] = (D[k]).p := by
        have : (D.map Cl.p)[k]? = R[k]? := by rw [HD.out]
        rw [List.getElem?_eq_getElem hkR, List.getElem?_eq_getElem (by rw [List.length_map]; exact hko), List.getElem_map] at this
        exact (Option.some.inj this).symm
      rw [hRk] at g1 g2 g3 g4
      have X := Lib.hid (fun w' (hc : Chg [] wr w') => hc2 w' (SI.out.thenSame hc))
      obtain ⟨x0, x1, x2, x3, x4, x5, x6, x7⟩ := hc2 _ SI.out
      clear hc2 hRk
      generalize D[k] = xc at *
      have DO := do_any na nc s1 xc.o wr IS.out SG.out hix.1 hgx (HT.out.kept CW.out)
      have GZ := doZ_good (o := xc.o) (st := s1) g1 SG.out hgx
      have GA := doZ_ans (st := s1) (o := xc.o.p) g1
      have e1 : (Cl.p xc).o = xc.o.p := rfl
      rw [e1] at g1 g2 g3 g4
      generalize doZ s1 xc.o.p = Z at *
      obtain ⟨ze, zs, zr, za⟩ := Z
      simp only [Cl.p] at g1 g2 g3 g4 DO GZ GA
      subst g1
      subst g2
      unfold eoC at DO
      replace DO := Lib.hid DO
      have G3 := Lib.hid g3
      have G4 := Lib.hid g4
      have GAL := Lib.hid GA
      have GZ := Lib.hid GZ
      have IX := Lib.hid hix
      clear g3 g4 GA hgx hix e1
      go_upto_region 11 with (go_at_call 11; go_loud (refine Calls.mono DO.out ?_); rintro e w4 ⟨na2, nc2, va2, vc2, rfl, hn4, hv4, hf4, hc4⟩; have N4 := Lib.hid hn4; have V4 := Lib.hid hv4; have C4 := Lib.hid hc4; clear hn4 hv4 hf4 hc4 DO)
      obtain ⟨W4, hW4⟩ : ∃ W4, W4 = w4.alloc (.cells #[.int .i64 xc.err, .slice va2 za.length vc2] 37) := ⟨_, rfl⟩
      have D4 := Lib.hid (show Chg [] w4 W4 by rw [hW4]; exact (Chg.refl _ _).alloc _)
      have T4 := Lib.hid (show W4.heap[w4.heap.size]? = some (.cells #[.int .i64 xc.err, .slice va2 za.length vc2] 37) by rw [hW4]; exact heap_alloc_new _ _)
      have R4 := Lib.hid (C4.out.thenSame D4.out)
      rw [← hW4]
      have HSM := Lib.hid (show sameB ceE za xc.ans = true by rw [G3.out]; exact same_refl (fun x => ceE_iff.2 rfl) _)
      have CE := Lib.hid (fun w' (hc : Chg [] W4 w') => lcells_any va2 vc2 za xc.va xc.vc xc.ans w' ((V4.out.kept D4.out).kept hc).1 ((IX.out.2.kept R4.out).kept hc).1 (by have := GAL.out; omega) (by rw [← G3.out]; have := GAL.out; omega))
      have CE : Hid (∀ w', Chg [] W4 w' → Calls Tryd.prog 19 #[.slice va2 za.length vc2, .slice xc.va xc.ans.length xc.vc] w' fun e w'' => e = .returned (.bool true) ∧ Chg [] w' w'') := Lib.hid (by have := CE.out; rwa [HSM.out] at this)
      have KP := Lib.hid (fun w' (hc : Chg [] W4 w') => show w'.cell? ⟨w4.heap.size, 0, none⟩ = some (.int .i64 xc.err) ∧ w'.cell? ⟨w4.heap.size, 1, none⟩ = some (.slice va2 za.length vc2) ∧ w'.cell? ⟨b2, o2 + k * 8 + 4, none⟩ = some (.int .i64 xc.err) ∧ w'.cell? ⟨b2, o2 + k * 8 + 5, none⟩ = some (.slice xc.va xc.ans.length xc.vc) from
        have t := blk_cell (show w'.heap[w4.heap.size]? = some (.cells _ _ (0, 0)) from hc.at (by simp) T4.out)
        have x := X.out w' (R4.out.thenSame hc)
        ⟨t 0, t 1, x.2.2.2.2.1, x.2.2.2.2.2.1⟩)
      have hE : (xc.err != xc.err) = false := by simp
      clear hW4 x0 x1 x2 x3 x4 x5 x6 x7
      go_upto_region 11 with fail
      go_region_held3 (fun w' => w'.cell? ⟨w4.heap.size, 0, none⟩ = some (.int .i64 xc.err) ∧ w'.cell? ⟨w4.heap.size, 1, none⟩ = some (.slice va2 za.length vc2) ∧ w'.cell? ⟨b2, o2 + k * 8 + 4, none⟩ = some (.int .i64 xc.err) ∧ w'.cell? ⟨b2, o2 + k * 8 + 5, none⟩ = some (.slice xc.va xc.ans.length xc.vc)) (with_reducible first | exact KP.out _ CC.out | exact KP.out _ (Chg.refl _ _).drew | exact KP.out _ (Chg.refl _ _))
        (first | (go_at_call 19; (with_reducible refine Calls.mono (CE.out _ (Chg.refl _ _).drew) ?_); rintro e w9 ⟨rfl, hc⟩; have CC := Lib.hid (((Chg.refl [] W4).drew).thenSame hc); clear hc))
      have N9 := Lib.hid ((N4.out.kept D4.out).kept CC.out)
      have SI9 := Lib.hid ((SI.out.thenSame R4.out).thenSame CC.out)
      go_wp2_with fail
      exact ⟨⟨k + 1, na2, nc2, zs, rfl, by go_num, by omega, SI9, N9, GZ, G4⟩, by simp [intOf]; omega⟩
    · have hks : k = D.length := by omega
      subst hks
      clear hk hk0 hko LO SG IS
      obtain ⟨wa, rfl⟩ : ∃ wa, wa = wr := ⟨wr, rfl⟩
      go_wp2_with fail
      go_loopw [12] (fun i wr => ∃ j : Nat, i = .int .i64 j ∧ j ≤ l1.length ∧ Hid (Chg [] wa wr)) (fun i _ => l1.length - (intOf i).toNat)
      case atStart => exact ⟨0, rfl, Nat.zero_le _, Lib.hid (Chg.refl _ _)⟩
      case round =>
        obtain ⟨j, rfl, hj, E⟩ := hrel
        have hj0 : (0 : Int) ≤ (j : Int) := by omega
        by_cases hjl : j < l1.length
        · have hj1 : (j : Int) < (l1.length : Int) := by omega
          obtain ⟨b1, o1, e1, -, hc1⟩ := HL.out.at8 (w' := wa) j hjl
          subst e1
          obtain ⟨c1, c2, c3⟩ := RC.out j (by rw [List.length_map]; exact hjl)
          simp only [List.getElem_map] at c1 c2 c3
          generalize l1[j] = xj at *
          have X1 := Lib.hid (fun w' (hc : Chg [] wa w') => hc1 w' (CW.out.thenSame hc))
          have RC1 := Lib.hid (show ∀ z ∈ R, z.o.id = xj.o.id → z.from_ = xj.from_ ∧ z.to_ = xj.to_ from c1)
          have RC2 := Lib.hid (show cntTo R xj.o.id R.length ≤ 1 from c2)
          have RC3 := Lib.hid (show cntTo R xj.o.id R.length = 0 → xj.to_ = -1 from c3)
          clear c1 c2 c3 hc1
          obtain ⟨wb, rfl⟩ : ∃ wb, wb = wr := ⟨wr, rfl⟩
          go_wp2_with fail
          go_loopw [13, 14] (fun n i wr => ∃ m k : Nat, n = .int .i64 m ∧ i = .int .i64 k ∧ k ≤ D.length ∧ Hid (m = cntTo R xj.o.id k) ∧ Hid (Chg [] wa wr)) (fun _ i _ => D.length - (intOf i).toNat)
          case atStart => exact ⟨0, 0, rfl, rfl, Nat.zero_le _, Lib.hid rfl, E⟩
          case round =>
            obtain ⟨m, k, rfl, rfl, hk, HM, F⟩ := hrel
            have hk0 : (0 : Int) ≤ (k : Int) := by omega
            by_cases hkl : k < D.length
            · have hk1 : (k : Int) < (D.length : Int) := by omega
              have hkR : k < R.length := by have := HDL.out; omega
              obtain ⟨b2, o2, e2, -, hc2⟩ := DI.out.at8 (w' := wa) k hkl
              subst e2
              have hRk : R[k] = (D[k]).p := by
                have : (D.map Cl.p)[k]? = R[k]? := by rw [HD.out]
                rw [List.getElem?_eq_getElem hkR, List.getElem?_eq_getElem (by rw [List.length_map]; exact hkl), List.getElem_map] at this
                exact (Option.some.inj this).symm
              have hst := cntTo_step (R := R) (s := xj.o.id) hkR
              have hmm : (D[k]).p ∈ R := by rw [← hRk]; exact List.getElem_mem hkR
              have hrc := RC1.out _ hmm
              have hm6 : (m : Int) ≤ 6 := by have := HM.out; have := cntTo_le (R := R) (s := xj.o.id) (k := k); omega
              have hm0 : (0 : Int) ≤ (m : Int) := by omega
              rw [hRk, ← HM.out] at hst
              obtain ⟨x0, x1, x2, x3, x4, x5, x6, x7⟩ := hc2 wr (SI.out.thenSame F.out)
              obtain ⟨y0, y1, y2, y3, y4, y5, y6, y7⟩ := X1.out wr F.out
              have XY := Lib.hid (fun w' (hc : Chg [] wr w') => And.intro (hc2 w' (SI.out.thenSame (F.out.thenSame hc))) (X1.out w' (F.out.thenSame hc)))
              generalize D[k] = xk at *
              have e3 : (Cl.p xk).o.id = xk.o.id := rfl
              rw [e3] at hst hrc
              have hs := (beq_toListBytes xk.o.id xj.o.id).symm
              clear hc2 hRk hmm e3 x0 x2 x3 x4 x5 y0 y2 y3 y4 y5
              cases hq : (xk.o.id == xj.o.id)
              · rw [hq] at hst hs
                have HM2 := Lib.hid (show m = cntTo R xj.o.id (k + 1) by rw [hst]; simp)
                clear hst hrc hq
                go_wp2_with fail
                go_quiet (fail)
                go_wp2_with fail
                exact ⟨⟨m, k + 1, rfl, by go_num, by omega, HM2, Lib.hid (F.out.drewN _)⟩, by simp [intOf]; omega⟩
              · obtain ⟨r1, r2⟩ := hrc (by simpa using hq)
                rw [hq] at hst hs
                have HM2 := Lib.hid (show m + 1 = cntTo R xj.o.id (k + 1) by rw [hst]; simp)
                have r1 : xk.from_ = xj.from_ := r1
                have r2 : xk.to_ = xj.to_ := r2
                have q1 : (xk.from_ != xj.from_) = false := by simp [r1]
                have q2 : (xk.to_ != xj.to_) = false := by simp [r2]
                clear hst hrc hq r1 r2
                go_wp2_with fail
                go_quiet (fail)
                go_wp2_with fail
                go_quiet (fail)
                go_wp2_with fail
                exact ⟨⟨m + 1, k + 1, by go_num, by go_num, by omega, HM2, Lib.hid (by first | exact F.out.drewN _ | exact (F.out.drewN _).drewN _ | exact (F.out.drewN _).drew)⟩, by simp [intOf]; omega⟩
            · have hks : k = D.length := by omega
              have c2 : m ≤ 1 := by rw [HM.out, hks, HDL.out]; exact RC2.out
              have c3 : m = 0 → xj.to_ = -1 := by rw [HM.out, hks, HDL.out]; exact RC3.out
              obtain ⟨y0, y1, y2, y3, y4, y5, y6, y7⟩ := X1.out wr F.out
              clear hks y0 y2 y3 y4 y5
              by_cases hm : m = 0
              · subst hm
                have q2 : (xj.to_ != -1) = false := by rw [c3 rfl]; rfl
                clear c2 c3
                go_wp2_with fail
                exact ⟨⟨j + 1, by go_num, by omega, F⟩, by simp [intOf]; omega⟩
              · have hm1 : m = 1 := by omega
                subst hm1
                clear c2 c3 hm
                go_wp2_with fail
                exact ⟨⟨j + 1, by go_num, by omega, F⟩, by simp [intOf]; omega⟩
        · have hjs : j = l1.length := by omega
          have AWD := Lib.hid (AW.out _ (CW.out.thenSame E.out))
          clear hjs
          go_wp2_with (go_at_call 8; (with_reducible refine Calls.mono AWD.out ?_); rintro e w9 ⟨rfl, hc⟩; have CC := Lib.hid ((CW.out.thenSame E.out).thenSame hc); clear hc)
          go_ret
          exact ⟨rfl, CC.out⟩
end Go.Proofs.YtnhemokmgpelaaaDoor
