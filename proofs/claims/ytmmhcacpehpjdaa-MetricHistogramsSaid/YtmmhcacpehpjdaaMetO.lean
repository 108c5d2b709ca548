/- Chapter 18: contract: Histogram of the program. No condition. -/
import Derived.Test.YtmmhcacpehpjdaaMetN
namespace Go.Proofs.Ytmmhcacpehpjdaa
set_option linter.unusedVariables false
set_option linter.unusedSimpArgs false
open Go.RowKit

set_option maxHeartbeats 8000000 in
set_option maxRecDepth 100000 in
theorem hist_bad (a : Option Addr) (len cap : Nat) (l : List Pt) (b : Option Addr) (bn bc : Nat) (bs : List Int) (w : World) (h : SlIs pCells 2 w a len l) (hm : len ≤ maxLen) (h2 : SlIs ic 1 w b bn bs) (hm2 : bn ≤ maxLen) (hne : histE l bs ≠ 0) : Calls Try.prog 33 #[.slice a len cap, .slice b bn bc] w (HiPost w (histS l bs)) := by
  have A1 := mcheck_any a len cap l w h hm
  have S1 := Lib.hid h
  have S2 := Lib.hid h2
  have hbl := Lib.hid h2.1
  have hll := Lib.hid h.1
  obtain ⟨R, hR⟩ : ∃ R, R = histS l bs := ⟨_, rfl⟩
  rw [← hR]
  unfold histS histE at hR
  unfold maxLen at hm2
  by_cases hE : checkP l = 0
  case neg =>
    rw [if_neg hE, if_neg hE] at hR
    have hb : (checkP l == 0) = false := by simpa using hE
    clear hne
    generalize checkP l = E at *
    have A1 := Lib.hid A1
    have HR := Lib.hid hR
    rename_i A10
    clear A10 hE hR h hm h2 hm2
    go_enter Try.func33, Try.ntmps33
    go_wp2_with fail
    refine A1.out.mono ?_; rintro e w1 ⟨rfl, hc1⟩
    have C1 := Lib.hid hc1
    clear hc1
    go_wp2_with fail
    go_ret2
    exact ⟨_, by rw [HR.out]; rfl, by rw [HR.out]; exact RowOf.nil _ _ _, C1.out⟩
  rw [if_pos hE] at hR
  rw [hE] at A1
  have A1 := Lib.hid A1
  rename_i A10
  have hok := Lib.hid (check_ok hE)
  by_cases hbig : 256 < bs.length
  · rw [if_pos hbig] at hR
    have HR := Lib.hid hR
    have hb : (256 : Int) < (bn : Int) := by have := hbl.out; omega
    clear A10 hE hne hR h hm h2 hbig
    go_enter Try.func33, Try.ntmps33
    go_wp2_with fail
    refine A1.out.mono ?_; rintro e w1 ⟨rfl, hc1⟩
    have C1 := Lib.hid hc1
    clear hc1
    go_wp2_with fail
    go_ret2
    exact ⟨_, by rw [HR.out]; rfl, by rw [HR.out]; exact RowOf.nil _ _ _, C1.out⟩
  rw [if_neg hbig] at hR
  have HR := Lib.hid hR
  have Hne := Lib.hid (show bchkL none bs ≠ 0 by unfold histE at hne; rw [if_pos hE, if_neg hbig] at hne; exact hne)
  have hb : (bn : Int) ≤ 256 := by have := hbl.out; omega
  have hb0 : (0 : Int) ≤ (bn : Int) := by omega
  clear A10 hE hne hR h hm h2 hbig hm2
  go_enter Try.func33, Try.ntmps33
  go_wp2_with fail
  refine A1.out.mono ?_; rintro e w1 ⟨rfl, hc1⟩
  have C1 := Lib.hid hc1
  clear hc1 A1
  go_wp2_with fail
  go_loopw [24] (fun i wr => ∃ k : Nat, i = .int .i64 k ∧ k ≤ bn ∧ Hid (bchkL none bs = bchkL (prevI bs k) (bs.drop k)) ∧ Chg [] w wr) (fun i _ => bn - (intOf i).toNat)
  case atStart => exact ⟨0, rfl, Nat.zero_le _, Lib.hid rfl, C1.out⟩
  case round =>
    obtain ⟨k, rfl, hkl, hB, hch⟩ := hrel
    have HC := Lib.hid hch
    clear hch
    by_cases hlt : k < bn
    · have hk2 : k < bs.length := by rw [hbl.out]; exact hlt
      obtain ⟨g, off, rfl, -, hbr, hcc⟩ := S2.out.elem HC.out k hk2
      have hst := bchk_step bs k hk2
      obtain ⟨x, hx⟩ : ∃ x, x = bs[k] := ⟨_, rfl⟩
      rw [← hx] at hcc hst
      have d0 := hcc 0 (by omega)
      simp only [ic, List.getElem?_cons_zero, Nat.add_zero, Nat.mul_one] at d0
      have hk0 : (0 : Int) ≤ (k : Int) := by omega
      have hk1 : (k : Int) < (bn : Int) := by omega
      have HB := Lib.hid (hB.out.trans hst)
      have HA := Lib.hid (fun w => amount_any x w)
      clear hcc hx hst hB
      by_cases ha : amountB x = true
      · have HB2 := Lib.hid (show bchkL none bs = if (match prevI bs k with | some q => decide (x ≤ q) | none => false) = true then 11 else bchkL (prevI bs (k + 1)) (bs.drop (k + 1)) by rw [HB.out, if_pos ha]; rfl)
        rw [ha] at HA
        clear ha HB
        rcases k with _ | j
        · have HB3 := Lib.hid (show bchkL none bs = bchkL (prevI bs (0 + 1)) (bs.drop (0 + 1)) from HB2.out)
          clear HB2
          simp only [Nat.add_zero] at d0
          go_wp2_with fail
          refine (HA.out _).mono ?_; rintro e w2 ⟨rfl, rfl⟩
          go_wp2_with fail
          exact ⟨⟨0 + 1, by go_num, by omega, Lib.hid HB3.out, HC.out⟩, by simp [intOf]; omega⟩
        · have hj : j < bs.length := by omega
          obtain ⟨y, hy⟩ : ∃ y, y = bs[j] := ⟨_, rfl⟩
          have hpv : prevI bs (j + 1) = some y := by rw [hy]; exact List.getElem?_eq_getElem hj
          rw [hpv] at HB2
          obtain ⟨g', off', he, -, _, hcc'⟩ := S2.out.elem HC.out j hj
          cases he
          rw [← hy] at hcc'
          have f0 := hcc' 0 (by omega)
          simp only [ic, List.getElem?_cons_zero, Nat.add_zero, Nat.mul_one] at f0
          have hj0 : (0 : Int) ≤ (j : Int) := by omega
          have hj1 : (j : Int) < (bn : Int) := by omega
          have hkk : ((j + 1 : Nat) : Int) = (j : Int) + 1 := by omega
          have hk2' : (0 : Int) < (j : Int) + 1 := by omega
          rw [hkk] at hk0 hk1
          rw [hkk]
          clear hy hcc' hpv hkk
          by_cases hxy : x ≤ y
          · have HB3 := Lib.hid (show bchkL none bs = 11 by rw [HB2.out, if_pos (by simpa using hxy)])
            clear HB2
            go_wp2_with fail
            refine (HA.out _).mono ?_; rintro e w2 ⟨rfl, rfl⟩
            go_wp2_with fail
            go_ret2
            have e := HR.out
            rw [HB3.out] at e
            exact ⟨_, by rw [e]; rfl, by rw [e]; exact RowOf.nil _ _ _, HC.out⟩
          · have HB3 := Lib.hid (show bchkL none bs = bchkL (prevI bs (j + 1 + 1)) (bs.drop (j + 1 + 1)) by rw [HB2.out, if_neg (by simpa using hxy)])
            clear HB2
            go_wp2_with fail
            refine (HA.out _).mono ?_; rintro e w2 ⟨rfl, rfl⟩
            go_wp2_with fail
            exact ⟨⟨j + 1 + 1, by go_num, by omega, Lib.hid HB3.out, HC.out⟩, by simp [intOf]; omega⟩
      · have HB2 := Lib.hid (show bchkL none bs = 2 by rw [HB.out, if_neg ha])
        have ha' : amountB x = false := by simpa using ha
        rw [ha'] at HA
        clear ha ha' HB
        go_wp2_with fail
        refine (HA.out _).mono ?_; rintro e w2 ⟨rfl, rfl⟩
        go_wp2_with fail
        go_ret2
        have e := HR.out
        rw [HB2.out] at e
        exact ⟨_, by rw [e]; rfl, by rw [e]; exact RowOf.nil _ _ _, HC.out⟩
    · exfalso
      have hB0 : bchkL none bs = 0 := by
        rw [hB.out, List.drop_of_length_le (by rw [hbl.out]; omega)]
        cases k <;> rfl
      exact Hne.out hB0

set_option maxHeartbeats 8000000 in
set_option maxRecDepth 100000 in
theorem hist_ok (a : Option Addr) (len cap : Nat) (l : List Pt) (b : Option Addr) (bn bc : Nat) (bs : List Int) (w : World) (h : SlIs pCells 2 w a len l) (hm : len ≤ maxLen) (h2 : SlIs ic 1 w b bn bs) (hm2 : bn ≤ maxLen) (hE : checkP l = 0) (hbig : ¬ 256 < bs.length) (hB0 : bchkL none bs = 0) : Calls Try.prog 33 #[.slice a len cap, .slice b bn bc] w (HiPost w (histS l bs)) := by
  have A1 := mcheck_any a len cap l w h hm
  have S1 := Lib.hid h
  have S2 := Lib.hid h2
  have hbl := Lib.hid h2.1
  have hll := Lib.hid h.1
  obtain ⟨R, hR⟩ : ∃ R, R = histS l bs := ⟨_, rfl⟩
  rw [← hR]
  unfold histS histE at hR
  unfold maxLen at hm2
  rw [if_pos hE] at hR
  rw [hE] at A1
  have A1 := Lib.hid A1
  rename_i A10
  have hok := Lib.hid (check_ok hE)
  rw [if_neg hbig] at hR
  have HR := Lib.hid hR
  have HB0 := Lib.hid hB0
  have hb : (bn : Int) ≤ 256 := by have := hbl.out; omega
  have hb0 : (0 : Int) ≤ (bn : Int) := by omega
  have hlen : (len : Int) ≤ 256 := by have := hok.out.1; have := hll.out; omega
  clear A10 hE hR h hm h2 hbig hm2 hB0
  go_enter Try.func33, Try.ntmps33
  go_wp2_with fail
  refine A1.out.mono ?_; rintro e w1 ⟨rfl, hc1⟩
  have C1 := Lib.hid hc1
  clear hc1 A1
  go_wp2_with fail
  go_loopw [24] (fun i wr => ∃ k : Nat, i = .int .i64 k ∧ k ≤ bn ∧ Hid (bchkL none bs = bchkL (prevI bs k) (bs.drop k)) ∧ Chg [] w wr) (fun i _ => bn - (intOf i).toNat)
  case atStart => exact ⟨0, rfl, Nat.zero_le _, Lib.hid rfl, C1.out⟩
  case round =>
    obtain ⟨k, rfl, hkl, hB, hch⟩ := hrel
    have HC := Lib.hid hch
    clear hch
    by_cases hlt : k < bn
    · have hk2 : k < bs.length := by rw [hbl.out]; exact hlt
      obtain ⟨g, off, rfl, -, hbr, hcc⟩ := S2.out.elem HC.out k hk2
      have hst := bchk_step bs k hk2
      obtain ⟨x, hx⟩ : ∃ x, x = bs[k] := ⟨_, rfl⟩
      rw [← hx] at hcc hst
      have d0 := hcc 0 (by omega)
      simp only [ic, List.getElem?_cons_zero, Nat.add_zero, Nat.mul_one] at d0
      have hk0 : (0 : Int) ≤ (k : Int) := by omega
      have hk1 : (k : Int) < (bn : Int) := by omega
      have HB := Lib.hid (hB.out.trans hst)
      have HA := Lib.hid (fun w => amount_any x w)
      clear hcc hx hst hB
      by_cases ha : amountB x = true
      · have HB2 := Lib.hid (show bchkL none bs = if (match prevI bs k with | some q => decide (x ≤ q) | none => false) = true then 11 else bchkL (prevI bs (k + 1)) (bs.drop (k + 1)) by rw [HB.out, if_pos ha]; rfl)
        rw [ha] at HA
        clear ha HB
        rcases k with _ | j
        · have HB3 := Lib.hid (show bchkL none bs = bchkL (prevI bs (0 + 1)) (bs.drop (0 + 1)) from HB2.out)
          clear HB2
          simp only [Nat.add_zero] at d0
          go_wp2_with fail
          refine (HA.out _).mono ?_; rintro e w2 ⟨rfl, rfl⟩
          go_wp2_with fail
          exact ⟨⟨0 + 1, by go_num, by omega, Lib.hid HB3.out, HC.out⟩, by simp [intOf]; omega⟩
        · have hj : j < bs.length := by omega
          obtain ⟨y, hy⟩ : ∃ y, y = bs[j] := ⟨_, rfl⟩
          have hpv : prevI bs (j + 1) = some y := by rw [hy]; exact List.getElem?_eq_getElem hj
          rw [hpv] at HB2
          obtain ⟨g', off', he, -, _, hcc'⟩ := S2.out.elem HC.out j hj
          cases he
          rw [← hy] at hcc'
          have f0 := hcc' 0 (by omega)
          simp only [ic, List.getElem?_cons_zero, Nat.add_zero, Nat.mul_one] at f0
          have hj0 : (0 : Int) ≤ (j : Int) := by omega
          have hj1 : (j : Int) < (bn : Int) := by omega
          have hkk : ((j + 1 : Nat) : Int) = (j : Int) + 1 := by omega
          have hk2' : (0 : Int) < (j : Int) + 1 := by omega
          rw [hkk] at hk0 hk1
          rw [hkk]
          clear hy hcc' hpv hkk
          by_cases hxy : x ≤ y
          · have HB3 := Lib.hid (show bchkL none bs = 11 by rw [HB2.out, if_pos (by simpa using hxy)])
            exfalso; have e1 := HB0.out; have e2 := HB3.out; omega
          · have HB3 := Lib.hid (show bchkL none bs = bchkL (prevI bs (j + 1 + 1)) (bs.drop (j + 1 + 1)) by rw [HB2.out, if_neg (by simpa using hxy)])
            clear HB2
            go_wp2_with fail
            refine (HA.out _).mono ?_; rintro e w2 ⟨rfl, rfl⟩
            go_wp2_with fail
            exact ⟨⟨j + 1 + 1, by go_num, by omega, Lib.hid HB3.out, HC.out⟩, by simp [intOf]; omega⟩
      · have HB2 := Lib.hid (show bchkL none bs = 2 by rw [HB.out, if_neg ha])
        exfalso; have e1 := HB0.out; have e2 := HB2.out; omega
    · have hB0 := HB0.out
      have hpw := (bchk_ok bs none hB0).1
      have HP := Lib.hid hpw
      have HR2 := Lib.hid (show R = (histL bs l, 0) by rw [HR.out, if_pos hB0])
      obtain ⟨wo, rfl⟩ : ∃ wo : World, wo = wr := ⟨_, rfl⟩
      have hwr := HC.out.size
      clear hB hB0 hpw HR
      go_wp2_with (at_make; go_loud (refine wpl_make (cf := ic) rfl _ _ 54 rfl w.heap.size 3 _ 8 Try.underlying54 iInfo (0 : Int) rfl rfl (bn + 1) rfl rfl (by omega) (by unfold maxLen; omega) hwr ?_); intro w2 hr2 hc2 hsz2; have Hr2 := Lib.hid hr2; have C2 := Lib.hid (HC.out.thenSame hc2); have Hs2 := Lib.hid hsz2; clear hr2 hc2 hsz2)
      go_loopw [50] (fun i wr => ∃ k : Nat, i = .int .i64 k ∧ k ≤ len ∧ RowOf ic 1 wr w.heap.size 3 (.slice (some ⟨wo.heap.size, 0, none⟩) (bn + 1) (bn + 1)) (histL bs (l.take k)) ∧ Chg [] w wr) (fun i _ => len - (intOf i).toNat)
      case atStart =>
        refine ⟨0, rfl, Nat.zero_le _, ?_, C2.out⟩
        have := Hr2.out
        rw [← hbl.out] at this ⊢
        exact this
      case round =>
        obtain ⟨k, rfl, hkl2, hrow, hch⟩ := hrel
        have Hrow := Lib.hid hrow
        have HC3 := Lib.hid hch
        clear hrow hch
        by_cases hk : k < len
        · have hk2 : k < l.length := by rw [hll.out]; exact hk
          obtain ⟨g, off, rfl, -, hbr, hcc⟩ := S1.out.elem HC3.out k hk2
          have hst := hist_step bs l k hk2
          obtain ⟨x, hx⟩ : ∃ x, x = l[k] := ⟨_, rfl⟩
          rw [← hx] at hcc hst
          have d0 := hcc 0 (by omega)
          have d1 := hcc 1 (by omega)
          simp only [pCells, List.getElem?_cons_zero, List.getElem?_cons_succ, Nat.add_zero] at d0 d1
          have hk0 : (0 : Int) ≤ (k : Int) := by omega
          have hk1 : (k : Int) < (len : Int) := by omega
          have Hst := Lib.hid hst
          have HL := Lib.hid (hist_len bs (l.take k))
          have HBd := Lib.hid (hist_bd bs (l.take k))
          have Hcn := Lib.hid (cnt_le bs x.v)
          have HS := Lib.hid (search_any b bn bc bs x.v _ (S2.out.kept (HC3.out.alloc (.cells #[.int .i64 x.t, .int .i64 x.v] 47))) (by omega) HP.out)
          have Hkm : Hid ((l.take k).length ≤ 256) := Lib.hid (by have := hok.out.1; rw [List.length_take]; omega)
          obtain ⟨o, ho⟩ : ∃ o, o = histL bs (l.take k) := ⟨_, rfl⟩
          rw [← ho] at Hst HL HBd Hrow
          obtain ⟨c, hc⟩ : ∃ c, c = cntB bs x.v := ⟨_, rfl⟩
          rw [← hc] at Hst Hcn HS
          clear hcc hx hst ho hc
          go_wp2_with fail
          refine HS.out.mono ?_; rintro e w3 ⟨rfl, hc3⟩
          have hr3 := RowOf.kept Hrow.out (((Chg.refl [] wr).alloc (.cells #[.int .i64 x.t, .int .i64 x.v] 47)).thenSame hc3) (by simp)
          have Hr3 := Lib.hid hr3
          have HC4 := Lib.hid ((HC3.out.alloc (.cells #[.int .i64 x.t, .int .i64 x.v] 47)).thenSame hc3)
          obtain ⟨-, -, -, hcell, hfr, -, -⟩ := RowOf.atS hr3 iLen
          have hcl : c < o.length := by have := Hcn.out; have := HL.out; omega
          have q0 := hcell c hcl 0 (by omega)
          have hbd := HBd.out _ (List.getElem_mem hcl)
          have Hgd := Lib.hid (show o.getD c 0 = o[c] by rw [List.getD_eq_getElem?_getD, List.getElem?_eq_getElem hcl]; rfl)
          obtain ⟨y, hy⟩ : ∃ y, y = o[c] := ⟨_, rfl⟩
          rw [← hy] at q0 hbd Hgd
          have Hy := Lib.hid hy
          have hy1 : y ≤ 256 := by have := Hkm.out; omega
          have hy0 := hbd.1
          have hc0 : (0 : Int) ≤ (c : Int) := by omega
          have hc1 : (c : Int) < ((bn : Int) + 1) := by have := Hcn.out; have := hbl.out; omega
          simp only [ic, List.getElem?_cons_zero, Nat.add_zero, Nat.mul_one] at q0
          clear hr3 hcell hy hc3 hbd
          go_wp2_with fail
          have hst2 := RowOf.stored Hr3.out (by have := HL.out; have := hbl.out; omega) iLen c hcl 0 (by omega) (.int .i64 (y + 1)) (y + 1) (by rw [← Hy.out]; rfl)
          have hwo := (Hrow.out.block _ rfl).1
          refine ⟨⟨k + 1, by go_num, by omega, ?_, HC4.out.setCell _ _ (fun h => absurd h (Nat.not_lt.2 hwo))⟩, by simp [intOf]; omega⟩
          rw [Hst.out]
          unfold bump
          rw [Hgd.out]
          simpa using hst2
        · have ht : l.take k = l := List.take_of_length_le (by rw [hll.out]; omega)
          rw [ht] at Hrow
          clear ht
          go_wp2_with fail
          go_ret2
          exact ⟨_, by rw [HR2.out]; rfl, by rw [HR2.out]; exact Hrow.out, HC3.out⟩

theorem hist_any (a : Option Addr) (len cap : Nat) (l : List Pt) (b : Option Addr) (bn bc : Nat) (bs : List Int) (w : World) (h : SlIs pCells 2 w a len l) (hm : len ≤ maxLen) (h2 : SlIs ic 1 w b bn bs) (hm2 : bn ≤ maxLen) : Calls Try.prog 33 #[.slice a len cap, .slice b bn bc] w (HiPost w (histS l bs)) := by
  by_cases hne : histE l bs = 0
  · have hE : checkP l = 0 := by
      unfold histE at hne
      by_cases hl : checkP l = 0
      · exact hl
      · rw [if_neg hl] at hne; exact absurd hne hl
    have hbig : ¬ 256 < bs.length := by
      intro hb
      unfold histE at hne
      rw [if_pos hE, if_pos hb] at hne
      simp at hne
    have hB0 : bchkL none bs = 0 := by
      unfold histE at hne
      rw [if_pos hE, if_neg hbig] at hne
      exact hne
    exact hist_ok a len cap l b bn bc bs w h hm h2 hm2 hE hbig hB0
  · exact hist_bad a len cap l b bn bc bs w h hm h2 hm2 hne
end Go.Proofs.Ytmmhcacpehpjdaa
