/- Chapter 54: contract of the reference: Check of an invoice. No condition. -/
import Derived.Test.YtehjalgogjkdlaaGreatDoorZ08
namespace Go.Proofs.YtehjalgogjkdlaaGreatDoor
set_option linter.unusedVariables false
set_option linter.unusedSimpArgs false
open Go.RowKit
set_option maxHeartbeats 8000000 in
set_option maxRecDepth 100000 in
theorem rchk54_any (i : Inv) (a : Option Addr) (cap : Nat) (w : World) (h : SlIs lnC 6 w a i.ls.length i.ls) (hg : i.good) : Calls Tryz.prog 15 #[ivV i a cap] w fun e w' => e = .returned (.int .i64 (invZ i)) ∧ Chg [] w w' := by
  obtain ⟨Z, hZ⟩ : ∃ Z, Z = invZ i := ⟨_, rfl⟩
  rw [← hZ]
  unfold invZ at hZ
  obtain ⟨hg1, hg2, hm⟩ := hg
  have HZ := Lib.hid hZ
  have H := Lib.hid h
  have HG2 := Lib.hid hg2
  have A0 := Lib.hid (fun w' => rname_any i.tn w' hg1)
  have M1 := Lib.hid (fun w' => ramt54_any i.gr w')
  have M2 := Lib.hid (fun w' => ramt54_any i.re w')
  have M3 := Lib.hid (fun w' => ramt54_any i.nt w')
  have HLM := Lib.hid (fun (q : errs (linesE i.ls) = 0) => lines_mi q)
  obtain ⟨W1, hW1⟩ : ∃ W1, W1 = w.alloc (ivO i a cap) := ⟨_, rfl⟩
  have I1 := Lib.hid (show CkI w W1 i a cap from hW1 ▸ ⟨heap_alloc_new _ _, (Chg.refl _ _).alloc _⟩)
  have HW1 := Lib.hid hW1
  clear hW1 h hZ hg1 hg2
  have k1 := blk_cell I1.out.iv
  have lt1 := lt_of_heap I1.out.iv
  unfold ivO at HW1 k1
  unfold ivV
  have hper : i.per < 0 ∨ (0 ≤ i.per ∧ 1073741824 < i.per) ∨ (0 ≤ i.per ∧ i.per ≤ 1073741824) := by omega
  obtain ⟨E, hE⟩ : ∃ E, E = errs (linesE i.ls) := ⟨_, rfl⟩
  rw [← hE] at HZ HLM
  have HE := Lib.hid hE
  clear hE
  obtain ⟨nb, hnb⟩ : ∃ nb, nb = nameB i.tn := ⟨_, rfl⟩
  rw [← hnb] at A0 HZ
  obtain ⟨g1, hg1⟩ : ∃ b, b = amtB i.gr := ⟨_, rfl⟩
  obtain ⟨g2, hg2⟩ : ∃ b, b = amtB i.re := ⟨_, rfl⟩
  obtain ⟨g3, hg3⟩ : ∃ b, b = amtB i.nt := ⟨_, rfl⟩
  rw [← hg1] at M1 HZ
  rw [← hg2] at M2 HZ
  rw [← hg3] at M3 HZ
  have G1 := Lib.hid hg1
  have G2 := Lib.hid hg2
  have G3 := Lib.hid hg3
  have hln : (i.ls.length : Int) ≤ 9223372036854775807 := by unfold maxLen at hm; omega
  clear hg1 hg2 hg3 hnb hm
  cases nb
  · have HR := Lib.hid (HZ.out.trans (if_pos rfl))
    go_enter Tryz.func15, Tryz.ntmps15
    go_wp2_with fail
    rw [← HW1.out]
    go_wp2_with fail
    refine (A0.out _).mono ?_; rintro e w2 ⟨rfl, rfl⟩
    go_wp2_with fail
    go_ret
    exact ⟨by rw [HR.out]; rfl, I1.out.chg⟩
  have HZ1 := Lib.hid (HZ.out.trans (if_neg (by simp)))
  rcases hper with hp1 | ⟨hp1, hp2⟩ | ⟨hp1, hp2⟩
  · have HR := Lib.hid (HZ1.out.trans (if_pos (.inl hp1)))
    go_enter Tryz.func15, Tryz.ntmps15
    go_wp2_with fail
    rw [← HW1.out]
    go_wp2_with fail
    refine (A0.out _).mono ?_; rintro e w2 ⟨rfl, rfl⟩
    go_wp2_with fail
    go_ret
    exact ⟨by rw [HR.out]; rfl, I1.out.chg⟩
  · have HR := Lib.hid (HZ1.out.trans (if_pos (.inr hp2)))
    go_enter Tryz.func15, Tryz.ntmps15
    go_wp2_with fail
    rw [← HW1.out]
    go_wp2_with fail
    refine (A0.out _).mono ?_; rintro e w2 ⟨rfl, rfl⟩
    go_wp2_with fail
    go_ret
    exact ⟨by rw [HR.out]; rfl, I1.out.chg⟩
  have HZ2 := Lib.hid (HZ1.out.trans (if_neg (by omega)))
  go_enter Tryz.func15, Tryz.ntmps15
  go_wp2_with fail
  rw [← HW1.out]
  go_wp2_with fail
  refine (A0.out _).mono ?_; rintro e w2 ⟨rfl, rfl⟩
  go_wp2_with fail
  clear k1
  go_loopw [3, 4, 5] (fun sv fv j wr => ∃ (k : Nat) (s : Int) (f : Bool), sv = .int .i64 s ∧ fv = .bool f ∧ j = .int .i64 k ∧ k ≤ i.ls.length ∧ Hid ((s, f) = sumR (i.ls.take k) (0, true)) ∧ Hid (0 ≤ s ∧ s ≤ 1000000000000) ∧ Hid (errs ((linesE i.ls).take k) = 0) ∧ Hid (CkI w wr i a cap)) (fun _ _ j _ => i.ls.length - (intOf j).toNat)
  case atStart => exact ⟨0, 0, true, rfl, rfl, rfl, Nat.zero_le _, Lib.hid rfl, Lib.hid (by omega), Lib.hid rfl, I1⟩
  case round =>
    obtain ⟨k, s, f, rfl, rfl, rfl, hk, HSF, HSB, HER, HI⟩ := hrel
    obtain ⟨hs0, hs1⟩ := HSB.out
    have k3 := blk_cell HI.out.iv
    have lt3 := lt_of_heap HI.out.iv
    unfold ivO at k3
    by_cases hkn : k < i.ls.length
    · obtain ⟨g, o, rfl, -, hbr, hcc⟩ := H.out.elem HI.out.chg k hkn
      have d0 := hcc 0 (by omega)
      have d1 := hcc 1 (by omega)
      have d2 := hcc 2 (by omega)
      have d3 := hcc 3 (by omega)
      have d4 := hcc 4 (by omega)
      have d5 := hcc 5 (by omega)
      obtain ⟨x, hx1⟩ : ∃ x, i.ls[k]? = some x := ⟨i.ls[k], List.getElem?_eq_getElem hkn⟩
      have hxe := (List.getElem?_eq_some_iff.1 hx1).2
      rw [hxe] at d0 d1 d2 d3 d4 d5
      have hcs := line_cases hx1
      have hat := linesE_at hkn
      have HST := Lib.hid (sumR_take hx1 (0, true))
      rw [← HSF.out] at HST
      have HP := Lib.hid (fun m (hkm : k = m + 1) => show wr.cell? ⟨g, o + m * 6, none⟩ = some (.string (fnAt i.ls (k - 1))) by
        have hm2 : m < i.ls.length := by omega
        obtain ⟨g2, o2, e2, -, -, hcc2⟩ := H.out.elem HI.out.chg m hm2
        cases e2
        have := hcc2 0 (by omega)
        rw [Nat.add_zero] at this
        rw [this]
        unfold fnAt
        rw [hkm, Nat.add_sub_cancel, List.getElem?_eq_getElem hm2]
        rfl)
      have A1 := Lib.hid (fun w' => rname_any x.fn w' (HG2.out x (List.mem_of_getElem? hx1)))
      have A2 := Lib.hid (fun w' => rvalid_any x.us w')
      have A3 := Lib.hid (fun w' => ramt54_any x.mi w')
      have HAB := Lib.hid (fun (q : amtB x.mi = true) => amtB_in q)
      obtain ⟨fn, ⟨u1, u2, u3, u4⟩, mi⟩ := x
      simp only [lnC, List.getElem?_cons_zero, List.getElem?_cons_succ, Nat.add_zero] at d0 d1 d2 d3 d4 d5
      unfold usV at A2
      simp only at A1 A2 A3 hcs HST HAB
      have hk0 : (0 : Int) ≤ (k : Int) := by omega
      have hk1 : (k : Int) < (i.ls.length : Int) := by omega
      have I4 := Lib.hid (HI.out.next ((Chg.refl [] wr).alloc (.cells #[.string fn, .int .i64 u1, .int .i64 u2, .int .i64 u3, .int .i64 u4, .int .i64 mi] 74)))
      have X4 := Lib.hid (heap_alloc_new wr (.cells #[.string fn, .int .i64 u1, .int .i64 u2, .int .i64 u3, .int .i64 u4, .int .i64 mi] 74))
      obtain ⟨R, hR⟩ : ∃ R, R = lineE i.ls k := ⟨_, rfl⟩
      rw [← hR] at hcs hat
      generalize fnAt i.ls (k - 1) = pf at *
      generalize nameB fn = nb at *
      generalize usB ⟨u1, u2, u3, u4⟩ = ub at *
      generalize amtB mi = ab at *
      have HAT := Lib.hid hat
      clear hcc hx1 hxe hR hat
      have k4 := blk_cell X4.out
      rcases hcs with ⟨h1, rfl⟩ | ⟨h1, ⟨m, hkm⟩, h2, rfl⟩ | ⟨h1, h2, h3⟩
      · have HEE := Lib.hid (HE.out.trans (errs_at HER.out HAT.out (by decide)))
        have HR := Lib.hid (HZ2.out.trans (if_pos (by rw [HEE.out]; decide)))
        go_wp2_with fail
        refine (A1.out _).mono ?_; rintro e w4 ⟨rfl, rfl⟩
        go_wp2_with fail
        go_ret
        exact ⟨by rw [HR.out, HEE.out]; rfl, I4.out.chg⟩
      · have HEE := Lib.hid (HE.out.trans (errs_at HER.out HAT.out (by decide)))
        have HR := Lib.hid (HZ2.out.trans (if_pos (by rw [HEE.out]; decide)))
        have dp := HP.out m hkm
        have e1 : IntKind.i64.wrap ((k : Int) - 1) = (m : Int) := by rw [IntKind.wrap_i64]; omega
        have e2 : (0 : Int) < (k : Int) := by omega
        have e3 : 0 < k := by omega
        have e4 : (m : Int) < (i.ls.length : Int) := by omega
        clear hkm
        rcases h2 with h2 | ⟨h2, h4⟩
        all_goals
          go_wp2_with fail
          refine (A1.out _).mono ?_; rintro e w4 ⟨rfl, rfl⟩
          go_wp2_with fail
          go_quiet (fail)
          go_wp2_with fail
          go_ret
          exact ⟨by rw [HR.out, HEE.out]; rfl, I4.out.chg.drewN _⟩
      · have main : (0 < k ∧ ∃ m : Nat, k = m + 1 ∧ Op.bytesLess fn.toList pf.toList = false ∧ (fn.toList == pf.toList) = false) ∨ k = 0 := by
          rcases h2 with h2 | ⟨⟨m, hkm⟩, h2, h4⟩
          · exact .inr h2
          · exact .inl ⟨by omega, m, hkm, h2, h4⟩
        clear h2
        rcases h3 with ⟨h5, rfl⟩ | ⟨h5, h6, rfl⟩ | ⟨h5, h6, rfl⟩
        · have HEE := Lib.hid (HE.out.trans (errs_at HER.out HAT.out (by decide)))
          have HR := Lib.hid (HZ2.out.trans (if_pos (by rw [HEE.out]; decide)))
          rcases main with ⟨e3, m, hkm, h2, h4⟩ | hk00
          · have dp := HP.out m hkm
            have e1 : IntKind.i64.wrap ((k : Int) - 1) = (m : Int) := by rw [IntKind.wrap_i64]; omega
            have e2 : (0 : Int) < (k : Int) := by omega
            have e4 : (m : Int) < (i.ls.length : Int) := by omega
            clear hkm
            go_wp2_with fail
            refine (A1.out _).mono ?_; rintro e w4 ⟨rfl, rfl⟩
            go_wp2_with fail
            go_quiet (fail)
            go_wp2_with fail
            refine (A2.out _).mono ?_; rintro e w5 ⟨rfl, hc5⟩
            have J5 := Lib.hid (I4.out.next (((Chg.refl [] _).drewN _).thenSame hc5))
            have k5 := blk_cell (hc5.at (by simp) X4.out)
            clear hc5 k4 k3
            go_wp2_with (go_at_call 30; (with_reducible refine (A3.out _).mono ?_); rintro e w6 ⟨rfl, rfl⟩)
            go_ret
            exact ⟨by rw [HR.out, HEE.out]; rfl, J5.out.chg⟩
          · have e2 : ¬ (0 : Int) < (k : Int) := by omega
            have e3 : ¬ 0 < k := by omega
            clear hk00
            go_wp2_with fail
            refine (A1.out _).mono ?_; rintro e w4 ⟨rfl, rfl⟩
            go_wp2_with fail
            go_quiet (fail)
            go_wp2_with fail
            refine (A2.out _).mono ?_; rintro e w5 ⟨rfl, hc5⟩
            have J5 := Lib.hid (I4.out.next (((Chg.refl [] _).drewN _).thenSame hc5))
            have k5 := blk_cell (hc5.at (by simp) X4.out)
            clear hc5 k4 k3
            go_wp2_with (go_at_call 30; (with_reducible refine (A3.out _).mono ?_); rintro e w6 ⟨rfl, rfl⟩)
            go_ret
            exact ⟨by rw [HR.out, HEE.out]; rfl, J5.out.chg⟩
        · have HEE := Lib.hid (HE.out.trans (errs_at HER.out HAT.out (by decide)))
          have HR := Lib.hid (HZ2.out.trans (if_pos (by rw [HEE.out]; decide)))
          rcases main with ⟨e3, m, hkm, h2, h4⟩ | hk00
          · have dp := HP.out m hkm
            have e1 : IntKind.i64.wrap ((k : Int) - 1) = (m : Int) := by rw [IntKind.wrap_i64]; omega
            have e2 : (0 : Int) < (k : Int) := by omega
            have e4 : (m : Int) < (i.ls.length : Int) := by omega
            clear hkm
            go_wp2_with fail
            refine (A1.out _).mono ?_; rintro e w4 ⟨rfl, rfl⟩
            go_wp2_with fail
            go_quiet (fail)
            go_wp2_with fail
            refine (A2.out _).mono ?_; rintro e w5 ⟨rfl, hc5⟩
            have J5 := Lib.hid (I4.out.next (((Chg.refl [] _).drewN _).thenSame hc5))
            have k5 := blk_cell (hc5.at (by simp) X4.out)
            clear hc5 k4 k3
            go_wp2_with (go_at_call 30; (with_reducible refine (A3.out _).mono ?_); rintro e w6 ⟨rfl, rfl⟩)
            go_ret
            exact ⟨by rw [HR.out, HEE.out]; rfl, J5.out.chg⟩
          · have e2 : ¬ (0 : Int) < (k : Int) := by omega
            have e3 : ¬ 0 < k := by omega
            clear hk00
            go_wp2_with fail
            refine (A1.out _).mono ?_; rintro e w4 ⟨rfl, rfl⟩
            go_wp2_with fail
            go_quiet (fail)
            go_wp2_with fail
            refine (A2.out _).mono ?_; rintro e w5 ⟨rfl, hc5⟩
            have J5 := Lib.hid (I4.out.next (((Chg.refl [] _).drewN _).thenSame hc5))
            have k5 := blk_cell (hc5.at (by simp) X4.out)
            clear hc5 k4 k3
            go_wp2_with (go_at_call 30; (with_reducible refine (A3.out _).mono ?_); rintro e w6 ⟨rfl, rfl⟩)
            go_ret
            exact ⟨by rw [HR.out, HEE.out]; rfl, J5.out.chg⟩
        · have HNE := Lib.hid (errs_next HER.out HAT.out)
          obtain ⟨hm0, hm1⟩ := HAB.out h6
          have hsm : (1000000000000 < s + mi) ∨ ¬ (1000000000000 < s + mi) := Classical.em _
          rcases main with ⟨e3, m, hkm, h2, h4⟩ | hk00
          · have dp := HP.out m hkm
            have e1 : IntKind.i64.wrap ((k : Int) - 1) = (m : Int) := by rw [IntKind.wrap_i64]; omega
            have e2 : (0 : Int) < (k : Int) := by omega
            have e4 : (m : Int) < (i.ls.length : Int) := by omega
            clear hkm
            rcases hsm with hsm | hsm
            · have HV := Lib.hid (HST.out.trans (if_pos hsm))
              go_wp2_with fail
              refine (A1.out _).mono ?_; rintro e w4 ⟨rfl, rfl⟩
              go_wp2_with fail
              go_quiet (fail)
              go_wp2_with fail
              refine (A2.out _).mono ?_; rintro e w5 ⟨rfl, hc5⟩
              have J5 := Lib.hid (I4.out.next (((Chg.refl [] _).drewN _).thenSame hc5))
              have k5 := blk_cell (hc5.at (by simp) X4.out)
              clear hc5 k4 k3
              go_wp2_with (go_at_call 30; (with_reducible refine (A3.out _).mono ?_); rintro e w6 ⟨rfl, rfl⟩)
              exact ⟨⟨k + 1, 0, false, rfl, rfl, by go_num, by omega, Lib.hid HV.out.symm, Lib.hid (by omega), HNE, J5⟩, by simp [intOf]; omega⟩
            · have HV := Lib.hid (HST.out.trans (if_neg hsm))
              go_wp2_with fail
              refine (A1.out _).mono ?_; rintro e w4 ⟨rfl, rfl⟩
              go_wp2_with fail
              go_quiet (fail)
              go_wp2_with fail
              refine (A2.out _).mono ?_; rintro e w5 ⟨rfl, hc5⟩
              have J5 := Lib.hid (I4.out.next (((Chg.refl [] _).drewN _).thenSame hc5))
              have k5 := blk_cell (hc5.at (by simp) X4.out)
              clear hc5 k4 k3
              go_wp2_with (go_at_call 30; (with_reducible refine (A3.out _).mono ?_); rintro e w6 ⟨rfl, rfl⟩)
              exact ⟨⟨k + 1, s + mi, f, rfl, rfl, by go_num, by omega, Lib.hid HV.out.symm, Lib.hid (by omega), HNE, J5⟩, by simp [intOf]; omega⟩
          · have e2 : ¬ (0 : Int) < (k : Int) := by omega
            have e3 : ¬ 0 < k := by omega
            clear hk00
            rcases hsm with hsm | hsm
            · have HV := Lib.hid (HST.out.trans (if_pos hsm))
              go_wp2_with fail
              refine (A1.out _).mono ?_; rintro e w4 ⟨rfl, rfl⟩
              go_wp2_with fail
              go_quiet (fail)
              go_wp2_with fail
              refine (A2.out _).mono ?_; rintro e w5 ⟨rfl, hc5⟩
              have J5 := Lib.hid (I4.out.next (((Chg.refl [] _).drewN _).thenSame hc5))
              have k5 := blk_cell (hc5.at (by simp) X4.out)
              clear hc5 k4 k3
              go_wp2_with (go_at_call 30; (with_reducible refine (A3.out _).mono ?_); rintro e w6 ⟨rfl, rfl⟩)
              exact ⟨⟨k + 1, 0, false, rfl, rfl, by go_num, by omega, Lib.hid HV.out.symm, Lib.hid (by omega), HNE, J5⟩, by simp [intOf]; omega⟩
            · have HV := Lib.hid (HST.out.trans (if_neg hsm))
              go_wp2_with fail
              refine (A1.out _).mono ?_; rintro e w4 ⟨rfl, rfl⟩
              go_wp2_with fail
              go_quiet (fail)
              go_wp2_with fail
              refine (A2.out _).mono ?_; rintro e w5 ⟨rfl, hc5⟩
              have J5 := Lib.hid (I4.out.next (((Chg.refl [] _).drewN _).thenSame hc5))
              have k5 := blk_cell (hc5.at (by simp) X4.out)
              clear hc5 k4 k3
              go_wp2_with (go_at_call 30; (with_reducible refine (A3.out _).mono ?_); rintro e w6 ⟨rfl, rfl⟩)
              exact ⟨⟨k + 1, s + mi, f, rfl, rfl, by go_num, by omega, Lib.hid HV.out.symm, Lib.hid (by omega), HNE, J5⟩, by simp [intOf]; omega⟩
    · have hke : k = i.ls.length := by omega
      have hkn2 : ¬ (k : Int) < (i.ls.length : Int) := by omega
      have he0 : E = 0 := by
        have h1 := HER.out
        rw [hke, List.take_of_length_le (by simp [linesE])] at h1
        rw [HE.out]; exact h1
      have HZ3 := Lib.hid (HZ2.out.trans (if_neg (by rw [he0]; simp)))
      have HMI := Lib.hid (HLM.out he0)
      have hsf := sumR_ok (l := i.ls) (fun x hx => (HMI.out x hx).2.2.1)
      have hq := HSF.out
      rw [hke, List.take_length] at hq
      rw [← hq] at hsf
      simp only at hsf
      replace hsf := hsf.2
      clear he0 hke hq
      cases g1
      · have HR := Lib.hid (HZ3.out.trans (if_pos (.inl rfl)))
        go_wp2_with fail
        refine (M1.out _).mono ?_; rintro e w4 ⟨rfl, rfl⟩
        go_wp2_with fail
        go_ret
        exact ⟨by rw [HR.out]; rfl, HI.out.chg⟩
      cases g2
      · have HR := Lib.hid (HZ3.out.trans (if_pos (.inr (.inl rfl))))
        go_wp2_with (first | (go_at_call 30; (with_reducible refine (M1.out _).mono ?_); rintro e w4 ⟨rfl, rfl⟩) | (go_at_call 30; (with_reducible refine (M2.out _).mono ?_); rintro e w4 ⟨rfl, rfl⟩))
        go_ret
        exact ⟨by rw [HR.out]; rfl, HI.out.chg⟩
      cases g3
      · have HR := Lib.hid (HZ3.out.trans (if_pos (.inr (.inr rfl))))
        go_wp2_with (first | (go_at_call 30; (with_reducible refine (M1.out _).mono ?_); rintro e w4 ⟨rfl, rfl⟩) | (go_at_call 30; (with_reducible refine (M2.out _).mono ?_); rintro e w4 ⟨rfl, rfl⟩) | (go_at_call 30; (with_reducible refine (M3.out _).mono ?_); rintro e w4 ⟨rfl, rfl⟩))
        go_ret
        exact ⟨by rw [HR.out]; rfl, HI.out.chg⟩
      have HZ4 := Lib.hid (HZ3.out.trans (if_neg (by simp)))
      obtain ⟨r1, r2⟩ := amtB_in G1.out.symm
      obtain ⟨r3, r4⟩ := amtB_in G2.out.symm
      obtain ⟨r5, r6⟩ := amtB_in G3.out.symm
      generalize sumMi i.ls = sm at *
      have hcs : (f = false ∧ Z = 10) ∨ (f = true ∧ (s != i.gr) = true ∧ Z = 10) ∨ (f = true ∧ (s != i.gr) = false ∧ i.gr < i.re ∧ Z = 10) ∨ (f = true ∧ (s != i.gr) = false ∧ ¬ i.gr < i.re ∧ (i.nt != i.gr - i.re) = true ∧ Z = 10) ∨ (f = true ∧ (s != i.gr) = false ∧ ¬ i.gr < i.re ∧ (i.nt != i.gr - i.re) = false ∧ Z = 0) := by
        have hz := HZ4.out
        rcases hsf with ⟨f1, f2⟩ | ⟨f1, f2⟩
        · rw [← f2] at hz
          by_cases q1 : s = i.gr
          · by_cases q2 : i.re ≤ i.gr
            · by_cases q3 : i.nt = i.gr - i.re
              · rw [if_pos ⟨q1, q2, q3⟩] at hz
                exact .inr (.inr (.inr (.inr ⟨f1, by rw [bne_eq_false_iff_eq]; exact q1, by omega, by rw [bne_eq_false_iff_eq]; exact q3, hz⟩)))
              · rw [if_neg (fun q => q3 q.2.2)] at hz
                exact .inr (.inr (.inr (.inl ⟨f1, by rw [bne_eq_false_iff_eq]; exact q1, by omega, by rw [bne_iff_ne]; exact q3, hz⟩)))
            · rw [if_neg (fun q => q2 q.2.1)] at hz
              exact .inr (.inr (.inl ⟨f1, by rw [bne_eq_false_iff_eq]; exact q1, by omega, hz⟩))
          · rw [if_neg (fun q => q1 q.1)] at hz
            exact .inr (.inl ⟨f1, by rw [bne_iff_ne]; exact q1, hz⟩)
        · rw [if_neg (fun q => by have := q.1; omega)] at hz
          exact .inl ⟨f1, hz⟩
      clear hsf HSB HSF
      rcases hcs with ⟨rfl, HR⟩ | ⟨rfl, c1, HR⟩ | ⟨rfl, c1, c2, HR⟩ | ⟨rfl, c1, c2, c3, HR⟩ | ⟨rfl, c1, c2, c3, HR⟩
      all_goals
        have HR := Lib.hid HR
        rename_i HR0
        clear HR0
        go_wp2_with (first | (go_at_call 30; (with_reducible refine (M1.out _).mono ?_); rintro e w4 ⟨rfl, rfl⟩) | (go_at_call 30; (with_reducible refine (M2.out _).mono ?_); rintro e w4 ⟨rfl, rfl⟩) | (go_at_call 30; (with_reducible refine (M3.out _).mono ?_); rintro e w4 ⟨rfl, rfl⟩))
        go_ret
        exact ⟨by rw [HR.out]; rfl, HI.out.chg⟩
end Go.Proofs.YtehjalgogjkdlaaGreatDoor
