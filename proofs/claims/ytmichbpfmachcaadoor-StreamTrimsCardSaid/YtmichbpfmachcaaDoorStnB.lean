/- Chapter 30: the walk of StreamTrims. Condition: the table of Itoa lies as the program lays it. -/
import Derived.StillTailTactics
import Derived.Test.YtmichbpfmachcaaDoorStnA
namespace Go.Proofs.YtmichbpfmachcaaDoor
set_option linter.unusedVariables false
set_option linter.unusedSimpArgs false
open Go.RowKit
theorem opCells8 {w : World} {g o : Nat} (x : OpS) (h : ∀ w', Chg [] w w' → ∀ j, j < 12 → w'.cell? ⟨g, o + j, none⟩ = (opC x)[j]?) : ∀ w', Chg [] w w' → w'.cell? ⟨g, o + 1, none⟩ = some (.string x.e.p.id) ∧ w'.cell? ⟨g, o + 2, none⟩ = some (.string x.e.p.tn) ∧ w'.cell? ⟨g, o + 3, none⟩ = some (.string x.e.p.src) ∧ w'.cell? ⟨g, o + 4, none⟩ = some (.string x.e.p.key) ∧ w'.cell? ⟨g, o + 5, none⟩ = some (.int .i64 x.e.p.at_) ∧ w'.cell? ⟨g, o + 6, none⟩ = some (.string x.e.p.cause) ∧ w'.cell? ⟨g, o + 7, none⟩ = some (.slice x.e.ba x.e.p.body.length x.e.bc) ∧ w'.cell? ⟨g, o + 8, none⟩ = some (.int .i64 x.now) :=
  fun w' hc => ⟨h w' hc 1 (by omega), h w' hc 2 (by omega), h w' hc 3 (by omega), h w' hc 4 (by omega), h w' hc 5 (by omega), h w' hc 6 (by omega), h w' hc 7 (by omega), h w' hc 8 (by omega)⟩
set_option maxHeartbeats 16000000 in
set_option maxRecDepth 100000 in
theorem trims_walk (a0 : Int) (a1 : Option Addr) (len1 cap1 : Nat) (l1 : List OpS) (a2 : Int) (w : World) (w0 : (Lit.int .u8 a0).wf = true) (w1 : SlIs opC 12 w a1 len1 l1 ∧ (∀ x ∈ l1, x.good w) ∧ len1 ≤ maxLen ∧ len1 ≤ cap1) (w2 : (Lit.int .i64 a2).wf = true) (ht : TabW w) :
    Calls Tryd.prog 6 #[.int .u8 a0, .slice a1 len1 cap1, .int .i64 a2] w fun e w' => e = .returned (.bool true) ∧ Below w.heap.size w w' := by
  obtain ⟨hs1, hg1, -, -⟩ := w1
  have hl1 : l1.length = len1 := hs1.1
  subst hl1
  obtain ⟨b0, b1⟩ : IntKind.u8.min ≤ a0 ∧ a0 ≤ IntKind.u8.max := by simpa [Lit.wf] using w0
  have b0 : 0 ≤ a0 := b0
  have b1 : a0 ≤ 255 := b1
  have O := Lib.hid (newS_ok 1 (1 + a0) (by decide) (by decide) (by omega) (by omega))
  have AW := Lib.hid (fun w' (hc : Chg [] w w') => awake_any w' (ht.kept hc))
  have SM := Lib.hid (fun w' (hc : Chg [] w w') => smallOps_any a1 cap1 l1 w' ⟨hs1.kept hc, fun x hx => (hg1 x hx).2.kept hc⟩)
  clear w0 w2
  go_enter Tryd.func6, Tryd.ntmps6
  go_wp2_with fail
  refine (stm_new_ok 1 (1 + a0) w (by decide) (by decide) (by omega) (by omega)).mono ?_; rintro x w1 ⟨b, f, rfl, hS, hc, hf⟩
  have P0 := Lib.hid (Pair.first (W := w) (w := w) (w' := w1) (J' := JS b (newS 1 (1 + a0))) (Chg.refl _ _) ⟨f, hS, hc, hf⟩)
  have C1 := Lib.hid P0.out.chg
  clear hS hc hf
  go_wp2_with fail
  refine (SM.out w1 C1.out).mono ?_; rintro x w3 ⟨rfl, hc⟩
  have P2 := Lib.hid (Pair.keptN (stmSide b _) noSide P0.out hc)
  have C3 := Lib.hid P2.out.chg
  clear hc
  cases hsm : smallOps l1
  · go_wp2_with (go_at_call 10; refine (AW.out w3 C3.out).mono ?_; rintro x w4 ⟨rfl, hc4⟩; have C4 := Lib.hid (C3.out.thenSame hc4); clear hc4)
    go_ret
    exact ⟨rfl, C4.out.toBelow (Nat.le_refl _) (by simp)⟩
  have hll : l1.length ≤ 60 ∧ ∀ x ∈ l1, smallE x.e.p = true := by
    unfold smallOps at hsm
    simpa using hsm
  have HG := Lib.hid (fun (x : OpS) (hx : x ∈ l1) => good_of (hg1 x hx) (hll.2 x hx))
  have HI := Lib.hid (fun (x : OpS) (hx : x ∈ l1) => (hg1 x hx).2)
  have HSL := Lib.hid hs1
  have hl60 := hll.1
  clear hll hg1 hs1 hsm
  go_wp2_with fail
  go_loopw [9, 43] (fun v t wr => ∃ (k : Nat) (S : Stm) (L : List PRec), v = .int .i64 S.now ∧ t = .int .i64 k ∧ k ≤ l1.length ∧ Hid (S.ok k ∧ S.one L ∧ S.fine ∧ S.keep = 1 + a0) ∧ Hid (Pair w wr (JS b S) NoSide)) (fun _ t _ => l1.length - (intOf t).toNat)
  case atStart => exact ⟨0, newS 1 (1 + a0), [], rfl, rfl, Nat.zero_le _, Lib.hid ⟨O.out, rfl, newS_fine _ _, rfl⟩, P2⟩
  case round =>
    obtain ⟨k, S, L, rfl, rfl, hk, HO, P⟩ := hrel
    have k0 : (0 : Int) ≤ (k : Int) := by omega
    by_cases hlt : k < l1.length
    · have D := Lib.hid P.out.chg
      have k1 : (k : Int) < (l1.length : Int) := by omega
      have HE2 := Lib.hid (fun w' (hc : Chg [] w w') => HSL.out.elem hc k hlt)
      obtain ⟨g1, o1, rfl, -, hbr, hcc0⟩ := HSL.out.elem D.out k hlt
      have hgx := HG.out _ (List.getElem_mem hlt)
      have hix := HI.out _ (List.getElem_mem hlt)
      generalize l1[k] = x at *
      clear hcc0
      have HSS := Lib.hid (opCells8 x (fun w' (hc : Chg [] w w') => by
        obtain ⟨g2, o2, e2, -, -, hcc⟩ := HE2.out w' hc
        cases e2
        exact hcc))
      obtain ⟨d1, d2, d3, d4, d5, d6, d7, d8⟩ := HSS.out wr D.out
      have HLW := Lib.hid (show ∀ y, x.e.ba = some y → 0 < x.e.p.body.length → y.block < w.heap.size from fun y hy h => by
        obtain ⟨q, o, e1, e2, _⟩ := hix.1.2 0 h
        rw [hy] at e1
        cases e1
        exact e2)
      have P4 := Lib.hid (Pair.keptN (stmSide b S) noSide P.out ((Chg.refl [] wr).drew))
      have A := Lib.hid (p_append (n := k) noSide P4.out (Chg.refl _ _) HO.out.1 (by omega) ht x.e (hix.kept P4.out.chg) hgx (fun y hy hl => .inl (HLW.out y hy hl)) x.now)
      have O7 := Lib.hid (appR_ok HO.out.1 x.e.p hgx.2.2.2.2.2.1 x.now)
      have HB : Hid (∀ key, 0 ≤ bucketZ key (S.sh.length : Int) ∧ bucketZ key (S.sh.length : Int) < (S.sh.length : Int)) := Lib.hid (fun key => bucketZ_bounds key (by rw [show S.sh.length = 1 by rw [HO.out.2.1]; rfl]; decide))
      have HN := Lib.hid (appR_now HO.out.1 HB.out x.e.p x.now)
      obtain ⟨L', HL'⟩ := appR_one HO.out.2.1 x.e.p x.now
      have HR := Lib.hid (show _ ∧ _ ∧ _ ∧ _ from ⟨O7.out, HL', appR_fine HO.out.2.2.1 (fun key => (HB.out key).1) x.e.p x.now, (appR_keep S x.e.p x.now).trans HO.out.2.2.2⟩)
      clear HL' O7 HB
      simp only [evC] at A
      go_wp2_with fail
      go_region_held3 (fun w' => w'.cell? ⟨g1, o1 + k * 12 + 1, none⟩ = some (.string x.e.p.id) ∧ w'.cell? ⟨g1, o1 + k * 12 + 2, none⟩ = some (.string x.e.p.tn) ∧ w'.cell? ⟨g1, o1 + k * 12 + 3, none⟩ = some (.string x.e.p.src) ∧ w'.cell? ⟨g1, o1 + k * 12 + 4, none⟩ = some (.string x.e.p.key) ∧ w'.cell? ⟨g1, o1 + k * 12 + 5, none⟩ = some (.int .i64 x.e.p.at_) ∧ w'.cell? ⟨g1, o1 + k * 12 + 6, none⟩ = some (.string x.e.p.cause) ∧ w'.cell? ⟨g1, o1 + k * 12 + 7, none⟩ = some (.slice x.e.ba x.e.p.body.length x.e.bc) ∧ w'.cell? ⟨g1, o1 + k * 12 + 8, none⟩ = some (.int .i64 x.now))
        (first | exact HSS.out _ D6.out | exact HSS.out _ (D.out.thenSame ((Chg.refl [] wr).drew)))
        (first | (go_at_call 11; refine A.out.mono ?_; rintro y w6 ⟨rfl, hP⟩; have P5 := Lib.hid hP; have D6 := Lib.hid P5.out.chg; clear hP A))
      by_cases hz : (appR S x.e.p x.now).1.2.2 = 0
      · have HN2 := Lib.hid (HN.out.trans (if_pos hz))
        obtain ⟨d1, d2, d3, d4, d5, d6, d7, d8⟩ := HSS.out w6 D6.out
        generalize (appR S x.e.p x.now).1.2.2 = z at *
        go_wp2_with fail
        exact ⟨⟨k + 1, _, L', by rw [HN2.out], by go_num, by omega, HR, P5⟩, by simp [intOf]; omega⟩
      · have HN2 := Lib.hid (HN.out.trans (if_neg hz))
        generalize (appR S x.e.p x.now).1.2.2 = z at *
        go_wp2_with fail
        exact ⟨⟨k + 1, _, L', by rw [HN2.out], by go_num, by omega, HR, P5⟩, by simp [intOf]; omega⟩
    · have hkn : ¬ ((k : Int) < (l1.length : Int)) := by omega
      obtain ⟨HO1, HO2, HO3, HO4⟩ := HO.out
      have hls : L.length ≤ 60 := by
        have := (HO1.2.2.2.2.2.2 ⟨0, L⟩ (by rw [HO2]; simp)).2.1
        simp only at this
        omega
      obtain ⟨t1, t2, t3, t4, t5⟩ := trims_law HO2 HO3 (by omega) a0 a2 HO4
      have T1 := Lib.hid t1
      have T4 := Lib.hid t4
      have T5 := Lib.hid t5
      have T3 := Lib.hid ((t2 0).trans t3)
      have O1 := Lib.hid (HO1.mono (show k ≤ 1000 by omega))
      have HAT := Lib.hid (show ∀ r ∈ L, 0 ≤ r.at_ ∧ r.at_ ≤ 1073741824 from fun r hr => by
        have h := (HO1.2.2.2.2.2.2 ⟨0, L⟩ (by rw [HO2]; simp)).2.2.2 r hr
        exact ⟨h.1, h.2.1⟩)
      have HBB := Lib.hid (show ∀ r ∈ L, r.e.body.length ≤ 1048576 from fun r hr => ((HO1.2.2.2.2.2.2 ⟨0, L⟩ (by rw [HO2]; simp)).2.2.2 r hr).2.2)
      have O2 := Lib.hid (trimR_ok O1.out a2)
      clear t1 t2 t3 t4 t5 HO1 HO2 HO3 HO4 HO
      go_wp2_with fail
      refine (p_readC (n := 1000) noSide P.out O1.out (by omega) 0 0 256).mono ?_; rintro y w4 ⟨ra, rc, M, rfl, hM, hP, hcap⟩
      rw [T1.out] at hM ⊢
      have hML : M.length = L.length := by have := congrArg List.length hM; simpa using this
      have P4 := Lib.hid hP
      have HM := Lib.hid hM
      clear hP hM
      go_wp2_with fail
      have sR := Lib.hid (andSide noSide (recSide ra M))
      refine (p_trim (n := 1000) sR.out P4.out O1.out (by omega) a2).mono ?_; rintro y w5 ⟨rfl, hP⟩
      have P5 := Lib.hid hP
      clear hP
      rw [T4.out]
      obtain ⟨g, hg⟩ : ∃ g, g = L.countP (goneP a0 a2 S.now) := ⟨_, rfl⟩
      rw [← hg] at T5 ⊢
      have HG2 := Lib.hid hg
      have hgl : g ≤ L.length := by rw [hg]; exact List.countP_le_length
      clear hg T4 hkn
      go_wp2_with fail
      obtain ⟨f, hS⟩ := p_is P5.out
      refine (stm_next (n := 1000) 0 hS O2.out (by omega)).mono ?_; rintro y w6 ⟨rfl, hc⟩
      have P6 := Lib.hid (Pair.keptN (stmSide b _) sR.out P5.out hc)
      clear hc hS
      rw [T3.out]
      have hlt : ¬ ((L.length : Int) != (L.length : Int)) = true := by simp
      go_wp2_with fail
      go_loopw [18, 97] (fun v t wr => ∃ j : Nat, v = .int .i64 ((L.take j).countP (goneP a0 a2 S.now) : Nat) ∧ t = .int .i64 j ∧ j ≤ L.length ∧ wr = w6) (fun _ t _ => L.length - (intOf t).toNat)
      case atStart => exact ⟨0, rfl, rfl, Nat.zero_le _, rfl⟩
      case round =>
        obtain ⟨j, rfl, rfl, hj, rfl⟩ := hrel
        have RI := Lib.hid (pair_recs P6.out)
        have j0 : (0 : Int) ≤ (j : Int) := by omega
        by_cases hjl : j < L.length
        · have hjM : j < M.length := by omega
          obtain ⟨g3, o3, e3, -, -, hcc⟩ := RI.out.1.elem (Chg.refl [] wr) j hjM
          subst e3
          have c2 := hcc 2 (by omega)
          have hat : (M[j]).at_ = (L[j]).at_ := by
            have h1 : (M.map Rc.p)[j]? = L[j]? := by rw [HM.out]
            rw [List.getElem?_map, List.getElem?_eq_getElem hjM, List.getElem?_eq_getElem hjl] at h1
            exact congrArg PRec.at_ (Option.some.inj h1)
          simp only [rcC, List.getElem?_cons_succ, List.getElem?_cons_zero] at c2
          rw [hat] at c2
          obtain ⟨u1, u2⟩ := HAT.out _ (List.getElem_mem hjl)
          have HST := Lib.hid (show (L.take (j + 1)).countP (goneP a0 a2 S.now) = (L.take j).countP (goneP a0 a2 S.now) + if goneP a0 a2 S.now L[j] then 1 else 0 by
            rw [List.take_succ_eq_append_getElem hjl, List.countP_append]
            simp [List.countP_cons])
          have hle : (L.take j).countP (goneP a0 a2 S.now) ≤ j := Nat.le_trans List.countP_le_length (by simp; omega)
          have j1 : (j : Int) < (L.length : Int) := by omega
          have HGP : Hid (goneP a0 a2 S.now L[j] = ((decide (S.now ≤ a2) && decide (a2 ≤ 1073741824)) && decide ((L[j]).at_ + 1 + a0 < a2))) := Lib.hid rfl
          rw [HGP.out] at HST
          generalize (L[j]).at_ = at_ at *
          generalize List.countP (goneP a0 a2 S.now) (L.take j) = z at *
          clear HGP hcc hat
          by_cases q1 : S.now ≤ a2
          · by_cases q2 : a2 ≤ 1073741824
            · by_cases q3 : at_ + 1 + a0 < a2
              · rw [decide_eq_true q1, decide_eq_true q2, decide_eq_true q3] at HST
                go_wp2_with fail
                exact ⟨⟨j + 1, by rw [HST.out]; go_num, by go_num, by omega, trivial⟩, by simp [intOf]; omega⟩
              · rw [decide_eq_true q1, decide_eq_true q2, decide_eq_false q3] at HST
                go_wp2_with fail
                exact ⟨⟨j + 1, by rw [HST.out]; rfl, by go_num, by omega, trivial⟩, by simp [intOf]; omega⟩
            · rw [decide_eq_false q2] at HST
              simp only [Bool.and_false, Bool.false_and] at HST
              go_wp2_with fail
              exact ⟨⟨j + 1, by rw [HST.out]; rfl, by go_num, by omega, trivial⟩, by simp [intOf]; omega⟩
          · rw [decide_eq_false q1] at HST
            simp only [Bool.and_false, Bool.false_and] at HST
            go_wp2_with fail
            exact ⟨⟨j + 1, by rw [HST.out]; rfl, by go_num, by omega, trivial⟩, by simp [intOf]; omega⟩
        · have hjs : j = L.length := by omega
          have HJ : List.countP (goneP a0 a2 S.now) (L.take j) = g := by rw [hjs, List.take_of_length_le (Nat.le_refl _), HG2.out]
          rw [HJ]
          have hjn : ¬ ((j : Int) < (L.length : Int)) := by omega
          clear hjl hjs HJ
          go_wp2_with fail
          refine (p_read (n := 1000) sR.out P6.out O2.out (by omega) 0 g 256).mono ?_; rintro y w7 ⟨rb, rd, M2, rfl, hM2, hP⟩
          rw [T5.out] at hM2 ⊢
          have P7 := Lib.hid hP
          have HM2 := Lib.hid hM2
          have hml2 : M2.length = L.length - g := by have := congrArg List.length hM2; simpa using this
          clear hP hM2
          have C7 := Lib.hid P7.out.chg
          obtain ⟨sl1, hb1⟩ := pair_recs2 P7.out
          have sl2 := SlIs.drop (m := g) (c := rc) sl1 (by omega) hcap
          have RI2 := pair_recs P7.out
          have hbb : ∀ r ∈ L, r.e.body.length ≤ 1048576 := HBB.out
          have RS := Lib.hid (rsame_any rb rd M2 (if rc = g then ra else ra.map (·.add (g * 10))) (rc - g) (M.drop g) w7 RI2 ⟨by rw [List.length_drop]; exact sl2, fun r hr => hb1 r (List.mem_of_mem_drop hr)⟩ (fun r hr => hbb r.p (by have : r.p ∈ M2.map Rc.p := List.mem_map_of_mem hr; rw [HM2.out] at this; exact List.mem_of_mem_drop this)) (fun r hr => hbb r.p (by have : r.p ∈ M.map Rc.p := List.mem_map_of_mem (List.mem_of_mem_drop hr); rw [HM.out] at this; exact this)) (by omega) (by rw [List.length_drop]; omega))
          rw [same_of_map (by rw [HM2.out, List.map_drop, HM.out]), List.length_drop, hML, hml2] at RS
          clear sl1 hb1 sl2 RI2 hbb
          by_cases hcg : rc = g
          · subst hcg
            rw [if_pos rfl, Nat.sub_self] at RS
            go_wp2_with fail
            (with_reducible refine RS.out.mono ?_); rintro y w8 ⟨rfl, hc⟩
            have C8 := Lib.hid (C7.out.thenSame hc)
            clear hc RS
            go_wp2_with (go_at_call 10; refine (AW.out w8 C8.out).mono ?_; rintro x w9 ⟨rfl, hc4⟩; have C9 := Lib.hid (C8.out.thenSame hc4); clear hc4)
            go_ret
            exact ⟨rfl, C9.out.toBelow (Nat.le_refl _) (by simp)⟩
          · rw [if_neg hcg] at RS
            have hcg2 : (rc == g) = false := by simpa using hcg
            go_wp2_with fail
            (with_reducible refine RS.out.mono ?_); rintro y w8 ⟨rfl, hc⟩
            have C8 := Lib.hid (C7.out.thenSame hc)
            clear hc RS
            go_wp2_with (go_at_call 10; refine (AW.out w8 C8.out).mono ?_; rintro x w9 ⟨rfl, hc4⟩; have C9 := Lib.hid (C8.out.thenSame hc4); clear hc4)
            go_ret
            exact ⟨rfl, C9.out.toBelow (Nat.le_refl _) (by simp)⟩
end Go.Proofs.YtmichbpfmachcaaDoor
