/- Chapter 18: contract: Histogram of the reference. No condition. -/
import Derived.Test.YtmmhcacpehpjdaaMetO
namespace Go.Proofs.Ytmmhcacpehpjdaa
set_option linter.unusedVariables false
set_option linter.unusedSimpArgs false
open Go.RowKit

theorem cnt_iff {bs : List Int} (hp : bs.Pairwise (· < ·)) {c : Nat} (hc : c < bs.length) {v : Int} : bs[c] < v ↔ c < cntB bs v := by
  have hlt : ∀ i j (h : i < j) (hj : j < bs.length), bs[i]'(by omega) < bs[j] := fun i j h hj => (List.pairwise_iff_getElem.1 hp) i j (by omega) hj h
  unfold cntB
  constructor
  · intro h
    have e : bs.countP (fun y => decide (y < v)) = (bs.take (c + 1)).countP (fun y => decide (y < v)) + (bs.drop (c + 1)).countP (fun y => decide (y < v)) := by
      rw [← List.countP_append, List.take_append_drop]
    have e1 : (bs.take (c + 1)).countP (fun y => decide (y < v)) = (bs.take (c + 1)).length := by
      rw [List.countP_eq_length]
      intro y hy
      obtain ⟨i, hi, rfl⟩ := List.mem_iff_getElem.1 hy
      rw [List.getElem_take]
      by_cases hic : i = c
      · subst hic; simpa using h
      · have := hlt i c (by simp at hi; omega) hc
        simp; omega
    rw [e, e1, List.length_take]; omega
  · intro h
    refine Int.not_le.1 (fun hle => ?_)
    have e : bs.countP (fun y => decide (y < v)) = (bs.take c).countP (fun y => decide (y < v)) + (bs.drop c).countP (fun y => decide (y < v)) := by
      rw [← List.countP_append, List.take_append_drop]
    have e1 : (bs.drop c).countP (fun y => decide (y < v)) = 0 := by
      rw [List.countP_eq_zero]
      intro y hy
      obtain ⟨i, hi, rfl⟩ := List.mem_iff_getElem.1 hy
      rw [List.getElem_drop]
      rcases i with _ | i
      · simp; omega
      · have := hlt c (c + (i + 1)) (by omega) (by simp at hi; omega)
        simp; omega
    have e2 : (bs.take c).countP (fun y => decide (y < v)) ≤ c := Nat.le_trans List.countP_le_length (by simp; omega)
    omega

set_option maxHeartbeats 16000000 in
set_option maxRecDepth 100000 in
theorem rhist_any (a : Option Addr) (len cap : Nat) (l : List Pt) (b : Option Addr) (bn bc : Nat) (bs : List Int) (w : World) (h : SlIs pCells 2 w a len l) (hm : len ≤ maxLen) (h2 : SlIs ic 1 w b bn bs) (hm2 : bn ≤ maxLen) : Calls Try.prog 34 #[.slice a len cap, .slice b bn bc] w (HiPost w (histS l bs)) := by
  have A1 := rmcheck_any a len cap l w h hm
  have S1 := Lib.hid h
  have S2 := Lib.hid h2
  have hbl := Lib.hid h2.1
  have hll := Lib.hid h.1
  obtain ⟨R, hR⟩ : ∃ R, R = histS l bs := ⟨_, rfl⟩
  rw [← hR]
  unfold histS histE at hR
  unfold maxLen at hm2
  by_cases hE : checkP l = 0
  case neg =>
    rw [if_neg hE, if_neg hE] at hR
    have hb : (checkP l == 0) = false := by simpa using hE
    generalize checkP l = E at *
    have A1 := Lib.hid A1
    have HR := Lib.hid hR
    rename_i A10
    clear A10 hE hR h hm h2 hm2
    go_enter Try.func34, Try.ntmps34
    go_wp2_with fail
    refine A1.out.mono ?_; rintro e w1 ⟨rfl, hc1⟩
    have C1 := Lib.hid hc1
    clear hc1
    go_wp2_with fail
    go_ret2
    exact ⟨_, by rw [HR.out]; rfl, by rw [HR.out]; exact RowOf.nil _ _ _, C1.out⟩
  rw [if_pos hE] at hR
  rw [hE] at A1
  have A1 := Lib.hid A1
  rename_i A10
  have hok := Lib.hid (check_ok hE)
  by_cases hbig : 256 < bs.length
  · rw [if_pos hbig] at hR
    have HR := Lib.hid hR
    have hb : (256 : Int) < (bn : Int) := by have := hbl.out; omega
    clear A10 hE hR h hm h2 hbig
    go_enter Try.func34, Try.ntmps34
    go_wp2_with fail
    refine A1.out.mono ?_; rintro e w1 ⟨rfl, hc1⟩
    have C1 := Lib.hid hc1
    clear hc1
    go_wp2_with fail
    go_ret2
    exact ⟨_, by rw [HR.out]; rfl, by rw [HR.out]; exact RowOf.nil _ _ _, C1.out⟩
  rw [if_neg hbig] at hR
  have HR := Lib.hid hR
  have hb : (bn : Int) ≤ 256 := by have := hbl.out; omega
  have hb0 : (0 : Int) ≤ (bn : Int) := by omega
  have hlen : (len : Int) ≤ 256 := by have := hok.out.1; have := hll.out; omega
  clear A10 hE hR h hm h2 hbig hm2
  go_enter Try.func34, Try.ntmps34
  go_wp2_with fail
  refine A1.out.mono ?_; rintro e w1 ⟨rfl, hc1⟩
  have C1 := Lib.hid hc1
  clear hc1 A1
  go_wp2_with fail
  go_loopw [7] (fun i wr => ∃ k : Nat, i = .int .i64 k ∧ k ≤ bn ∧ Hid (bchkL none bs = bchkL (prevI bs k) (bs.drop k)) ∧ Chg [] w wr) (fun i _ => bn - (intOf i).toNat)
  case atStart => exact ⟨0, rfl, Nat.zero_le _, Lib.hid rfl, C1.out⟩
  case round =>
    obtain ⟨k, rfl, hkl, hB, hch⟩ := hrel
    have HC := Lib.hid hch
    clear hch
    by_cases hlt : k < bn
    · have hk2 : k < bs.length := by rw [hbl.out]; exact hlt
      obtain ⟨g, off, rfl, -, hbr, hcc⟩ := S2.out.elem HC.out k hk2
      have hst := bchk_step bs k hk2
      obtain ⟨x, hx⟩ : ∃ x, x = bs[k] := ⟨_, rfl⟩
      rw [← hx] at hcc hst
      have d0 := hcc 0 (by omega)
      simp only [ic, List.getElem?_cons_zero, Nat.add_zero, Nat.mul_one] at d0
      have hk0 : (0 : Int) ≤ (k : Int) := by omega
      have hk1 : (k : Int) < (bn : Int) := by omega
      have HB := Lib.hid (hB.out.trans hst)
      clear hcc hx hst hB
      by_cases ha : amountB x = true
      · have HB2 := Lib.hid (show bchkL none bs = if (match prevI bs k with | some q => decide (x ≤ q) | none => false) = true then 11 else bchkL (prevI bs (k + 1)) (bs.drop (k + 1)) by rw [HB.out, if_pos ha]; rfl)
        have ha' : -1000000000 ≤ x ∧ x ≤ 1000000000 := by simpa [amountB] using ha
        obtain ⟨a0, a1⟩ := ha'
        clear ha HB
        rcases k with _ | j
        · have HB3 := Lib.hid (show bchkL none bs = bchkL (prevI bs (0 + 1)) (bs.drop (0 + 1)) from HB2.out)
          clear HB2
          simp only [Nat.add_zero] at d0
          go_wp2_with fail
          go_quiet (fail)
          go_wp2_with fail
          exact ⟨⟨0 + 1, by go_num, by omega, Lib.hid HB3.out, HC.out.drewN _⟩, by simp [intOf]; omega⟩
        · have hj : j < bs.length := by omega
          obtain ⟨y, hy⟩ : ∃ y, y = bs[j] := ⟨_, rfl⟩
          have hpv : prevI bs (j + 1) = some y := by rw [hy]; exact List.getElem?_eq_getElem hj
          rw [hpv] at HB2
          obtain ⟨g', off', he, -, _, hcc'⟩ := S2.out.elem HC.out j hj
          cases he
          rw [← hy] at hcc'
          have f0 := hcc' 0 (by omega)
          simp only [ic, List.getElem?_cons_zero, Nat.add_zero, Nat.mul_one] at f0
          have hj0 : (0 : Int) ≤ (j : Int) := by omega
          have hj1 : (j : Int) < (bn : Int) := by omega
          have hkk : ((j + 1 : Nat) : Int) = (j : Int) + 1 := by omega
          have hk2' : (0 : Int) < (j : Int) + 1 := by omega
          rw [hkk] at hk0 hk1
          rw [hkk]
          clear hy hcc' hpv hkk
          by_cases hxy : x ≤ y
          · have HB3 := Lib.hid (show bchkL none bs = 11 by rw [HB2.out, if_pos (by simpa using hxy)])
            clear HB2
            go_wp2_with fail
            go_quiet (fail)
            go_wp2_with fail
            go_ret2
            have e := HR.out
            rw [HB3.out] at e
            exact ⟨_, by rw [e]; rfl, by rw [e]; exact RowOf.nil _ _ _, HC.out.drewN _⟩
          · have HB3 := Lib.hid (show bchkL none bs = bchkL (prevI bs (j + 1 + 1)) (bs.drop (j + 1 + 1)) by rw [HB2.out, if_neg (by simpa using hxy)])
            have hyx : y < x := by omega
            clear HB2 hxy
            go_wp2_with fail
            go_quiet (fail)
            go_wp2_with fail
            exact ⟨⟨j + 1 + 1, by go_num, by omega, Lib.hid HB3.out, HC.out.drewN _⟩, by simp [intOf]; omega⟩
      · have HB2 := Lib.hid (show bchkL none bs = 2 by rw [HB.out, if_neg ha])
        have ha' : x < -1000000000 ∨ (-1000000000 ≤ x ∧ 1000000000 < x) := by simp [amountB] at ha; omega
        clear ha HB
        rcases ha' with a0 | ⟨a0, a1⟩
        all_goals
          go_wp2_with fail
          go_ret2
          have e := HR.out
          rw [HB2.out] at e
          exact ⟨_, by rw [e]; rfl, by rw [e]; exact RowOf.nil _ _ _, HC.out⟩
    · have hB0 : bchkL none bs = 0 := by
        rw [hB.out, List.drop_of_length_le (by rw [hbl.out]; omega)]
        cases k <;> rfl
      have hpw := (bchk_ok bs none hB0).1
      have HP := Lib.hid hpw
      have HR2 := Lib.hid (show R = (histL bs l, 0) by rw [HR.out, if_pos hB0])
      obtain ⟨wo, rfl⟩ : ∃ wo : World, wo = wr := ⟨_, rfl⟩
      have hwr := HC.out.size
      clear hB hB0 hpw HR
      go_wp2_with (at_make; go_loud (refine wpl_make (cf := ic) rfl _ _ 54 rfl w.heap.size 3 _ 8 Try.underlying54 iInfo (0 : Int) rfl rfl (bn + 1) rfl rfl (by omega) (by unfold maxLen; omega) hwr ?_); intro w2 hr2 hc2 hsz2; have Hr2 := Lib.hid hr2; have C2 := Lib.hid (HC.out.thenSame hc2); have Hs2 := Lib.hid hsz2; clear hr2 hc2 hsz2)
      go_loopw [9] (fun i wr => ∃ k : Nat, i = .int .i64 k ∧ k ≤ len ∧ RowOf ic 1 wr w.heap.size 3 (.slice (some ⟨wo.heap.size, 0, none⟩) (bn + 1) (bn + 1)) (histL bs (l.take k)) ∧ Chg [] w wr) (fun i _ => len - (intOf i).toNat)
      case atStart =>
        refine ⟨0, rfl, Nat.zero_le _, ?_, C2.out⟩
        have := Hr2.out
        rw [← hbl.out] at this ⊢
        exact this
      case round =>
        obtain ⟨k, rfl, hkl2, hrow, hch⟩ := hrel
        have Hrow := Lib.hid hrow
        have HC3 := Lib.hid hch
        clear hrow hch
        by_cases hk : k < len
        · have hk2 : k < l.length := by rw [hll.out]; exact hk
          have hst := hist_step bs l k hk2
          obtain ⟨x, hx⟩ : ∃ x, x = l[k] := ⟨_, rfl⟩
          rw [← hx] at hst
          have Hx := Lib.hid hx
          have hk0 : (0 : Int) ≤ (k : Int) := by omega
          have hk1 : (k : Int) < (len : Int) := by omega
          have Hst := Lib.hid hst
          have HL := Lib.hid (hist_len bs (l.take k))
          have HBd := Lib.hid (hist_bd bs (l.take k))
          have Hcn := Lib.hid (cnt_le bs x.v)
          have Hkm : Hid ((l.take k).length ≤ 256) := Lib.hid (by have := hok.out.1; rw [List.length_take]; omega)
          obtain ⟨o, ho⟩ : ∃ o, o = histL bs (l.take k) := ⟨_, rfl⟩
          rw [← ho] at Hst HL HBd Hrow
          obtain ⟨wi, rfl⟩ : ∃ wi : World, wi = wr := ⟨_, rfl⟩
          clear hx hst ho
          go_wp2_with fail
          go_loopw [10] (fun i wr => ∃ c : Nat, i = .int .i64 c ∧ c ≤ cntB bs x.v ∧ Chg [] wi wr) (fun i _ => bn - (intOf i).toNat)
          case atStart => exact ⟨0, rfl, Nat.zero_le _, Chg.refl _ _⟩
          case round =>
            obtain ⟨c, rfl, hcl, hch⟩ := hrel
            have HC4 := Lib.hid hch
            have HC5 := Lib.hid (HC3.out.thenSame hch)
            clear hch
            obtain ⟨g, off, rfl, -, hbr, hcc⟩ := S1.out.elem HC5.out k hk2
            rw [← Hx.out] at hcc
            have d1 := hcc 1 (by omega)
            simp only [pCells, List.getElem?_cons_zero, List.getElem?_cons_succ] at d1
            have hcb : c ≤ bn := by have := Hcn.out; have := hbl.out; omega
            have hcc0 : (0 : Int) ≤ (c : Int) := by omega
            have hgo : (∃ y, c < bn ∧ y < x.v ∧ Hid (c + 1 ≤ cntB bs x.v) ∧ ∃ g' off', b = some ⟨g', off', none⟩ ∧ wr.cell? ⟨g', off' + c, none⟩ = some (.int .i64 y)) ∨ (Hid (cntB bs x.v = c) ∧ ((c = bn) ∨ ∃ y, c < bn ∧ x.v ≤ y ∧ ∃ g' off', b = some ⟨g', off', none⟩ ∧ wr.cell? ⟨g', off' + c, none⟩ = some (.int .i64 y))) := by
              by_cases hcn : c < bn
              · have hcs : c < bs.length := by rw [hbl.out]; exact hcn
                obtain ⟨g', off', e1, -, -, hc2⟩ := S2.out.elem HC5.out c hcs
                have e0 := hc2 0 (by omega)
                simp only [ic, List.getElem?_cons_zero, Nat.add_zero, Nat.mul_one] at e0
                by_cases hv : bs[c] < x.v
                · exact .inl ⟨bs[c], hcn, hv, Lib.hid ((cnt_iff HP.out hcs).1 hv), g', off', e1, e0⟩
                · refine .inr ⟨Lib.hid ?_, .inr ⟨bs[c], hcn, by omega, g', off', e1, e0⟩⟩
                  have : ¬ c < cntB bs x.v := fun h => hv ((cnt_iff HP.out hcs).2 h)
                  omega
              · exact .inr ⟨Lib.hid (by have := Hcn.out; have := hbl.out; omega), .inl (by omega)⟩
            clear hcc
            rcases hgo with ⟨y, hcn, hyv, Hc1, g', off', rfl, e0⟩ | ⟨HE, hex⟩
            · have hcn' : (c : Int) < (bn : Int) := by omega
              go_wp2_with fail
              go_quiet (fail)
              go_wp2_with fail
              exact ⟨⟨c + 1, by go_num, Hc1.out, HC4.out.drewN _⟩, by simp [intOf]; omega⟩
            · have hr3 := RowOf.kept Hrow.out HC4.out (by simp)
              have Hr3 := Lib.hid hr3
              obtain ⟨-, -, -, hcell, hfr, -, -⟩ := RowOf.atS hr3 iLen
              have hcl2 : c < o.length := by have := HL.out; have := hbl.out; omega
              have q0 := hcell c hcl2 0 (by omega)
              have hbd := HBd.out _ (List.getElem_mem hcl2)
              have Hgd := Lib.hid (show o.getD c 0 = o[c] by rw [List.getD_eq_getElem?_getD, List.getElem?_eq_getElem hcl2]; rfl)
              obtain ⟨y, hy⟩ : ∃ y, y = o[c] := ⟨_, rfl⟩
              rw [← hy] at q0 hbd Hgd
              have Hy := Lib.hid hy
              have hy1 : y ≤ 256 := by have := Hkm.out; omega
              have hy0 := hbd.1
              have hcb2 : (c : Int) < ((bn : Int) + 1) := by omega
              simp only [ic, List.getElem?_cons_zero, Nat.add_zero, Nat.mul_one] at q0
              clear hr3 hcell hy hbd
              have hst2 := fun n => RowOf.stored (Hr3.out.kept ((Chg.refl [] wr).drewN n) (by simp)) (by have := HL.out; have := hbl.out; omega) iLen c hcl2 0 (by omega) (.int .i64 (y + 1)) (y + 1) (by rw [← Hy.out]; rfl)
              have Hst2 := Lib.hid hst2
              have Hwo := Lib.hid (Hrow.out.block _ rfl).1
              clear hst2
              rcases hex with rfl | ⟨z, hcn, hzv, g', off', rfl, e0⟩
              · go_wp2_with fail
                go_quiet (fail)
                go_wp2_with fail
                refine ⟨⟨k + 1, by go_num, by omega, ?_, (HC5.out.drewN _).setCell _ _ (fun h => absurd h (Nat.not_lt.2 Hwo.out))⟩, by simp [intOf]; omega⟩
                rw [Hst.out]
                unfold bump
                rw [HE.out, Hgd.out]
                simpa using Hst2.out _
              · have hcn' : (c : Int) < (bn : Int) := by omega
                go_wp2_with fail
                go_quiet (fail)
                go_wp2_with fail
                refine ⟨⟨k + 1, by go_num, by omega, ?_, (HC5.out.drewN _).setCell _ _ (fun h => absurd h (Nat.not_lt.2 Hwo.out))⟩, by simp [intOf]; omega⟩
                rw [Hst.out]
                unfold bump
                rw [HE.out, Hgd.out]
                simpa using Hst2.out _
        · have ht : l.take k = l := List.take_of_length_le (by rw [hll.out]; omega)
          rw [ht] at Hrow
          clear ht
          go_wp2_with fail
          go_ret2
          exact ⟨_, by rw [HR2.out]; rfl, by rw [HR2.out]; exact Hrow.out, HC3.out⟩
end Go.Proofs.Ytmmhcacpehpjdaa
