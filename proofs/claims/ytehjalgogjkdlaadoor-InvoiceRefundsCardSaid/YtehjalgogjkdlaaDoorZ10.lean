/- Chapter 54: contract: line of an invoice. No condition. Chapter 54: contract: Check of an invoice. No condition. Names: contracts of the reference's small, digit. No condition. Names: contract of the reference's Name, at every string. No condition. -/
import Derived.Test.YtehjalgogjkdlaaDoorZ09
import Derived.Test.YtehjalgogjkdlaaDoorZ06
import Derived.Test.YtehjalgogjkdlaaDoorZ01
import Derived.Test.YtehjalgogjkdlaaDoorZ02
namespace Go.Proofs.YtehjalgogjkdlaaDoor
set_option linter.unusedVariables false
set_option linter.unusedSimpArgs false
open Go.RowKit
def lnC (x : Ln) : List Value := [.string x.fn, .int .i64 x.us.inv, .int .i64 x.us.steps, .int .i64 x.us.ticks, .int .i64 x.us.units, .int .i64 x.mi]
theorem lnC_len (x : Ln) : (lnC x).length = 6 := rfl
theorem lnC_one (x : Ln) : ∀ u ∈ lnC x, u.oneCell' = true := by
  intro u hu
  simp [lnC] at hu
  rcases hu with rfl | rfl | rfl | rfl | rfl | rfl <;> rfl
def Ln.good (x : Ln) : Prop := x.fn.size ≤ maxLen
def lnO (x : Ln) : Obj := .cells #[.string x.fn, .int .i64 x.us.inv, .int .i64 x.us.steps, .int .i64 x.us.ticks, .int .i64 x.us.units, .int .i64 x.mi] 63
theorem line_cases {l : List Ln} {k : Nat} {x : Ln} (h : l[k]? = some x) :
    (nameB x.fn = false ∧ lineE l k = 4) ∨ (nameB x.fn = true ∧ (∃ m, k = m + 1) ∧ (Op.bytesLess x.fn.toList (fnAt l (k - 1)).toList = true ∨ (Op.bytesLess x.fn.toList (fnAt l (k - 1)).toList = false ∧ (x.fn.toList == (fnAt l (k - 1)).toList) = true)) ∧ lineE l k = 11) ∨
    (nameB x.fn = true ∧ (k = 0 ∨ ((∃ m, k = m + 1) ∧ Op.bytesLess x.fn.toList (fnAt l (k - 1)).toList = false ∧ (x.fn.toList == (fnAt l (k - 1)).toList) = false)) ∧ ((usB x.us = false ∧ lineE l k = 2) ∨ (usB x.us = true ∧ amtB x.mi = false ∧ lineE l k = 2) ∨ (usB x.us = true ∧ amtB x.mi = true ∧ lineE l k = 0))) := by
  unfold lineE leqB
  rw [h]
  simp only
  cases h1 : nameB x.fn
  · exact .inl ⟨rfl, by simp⟩
  have rest : ((usB x.us = false ∧ (if usB x.us = false ∨ amtB x.mi = false then (2 : Int) else 0) = 2) ∨ (usB x.us = true ∧ amtB x.mi = false ∧ (if usB x.us = false ∨ amtB x.mi = false then (2 : Int) else 0) = 2) ∨ (usB x.us = true ∧ amtB x.mi = true ∧ (if usB x.us = false ∨ amtB x.mi = false then (2 : Int) else 0) = 0)) := by
    cases usB x.us <;> cases amtB x.mi <;> simp
  rcases k with _ | m
  · refine .inr (.inr ⟨rfl, .inl rfl, ?_⟩)
    simpa using rest
  · cases h2 : Op.bytesLess x.fn.toList (fnAt l (m + 1 - 1)).toList
    · cases h3 : x.fn.toList == (fnAt l (m + 1 - 1)).toList
      · refine .inr (.inr ⟨rfl, .inr ⟨⟨m, rfl⟩, rfl, rfl⟩, ?_⟩)
        simpa using rest
      · exact .inr (.inl ⟨rfl, ⟨m, rfl⟩, .inr ⟨rfl, rfl⟩, by simp⟩)
    · exact .inr (.inl ⟨rfl, ⟨m, rfl⟩, .inl rfl, by simp⟩)
set_option maxHeartbeats 4000000 in
set_option maxRecDepth 100000 in
theorem line_any (l : List Ln) (k : Nat) (a : Option Addr) (cap : Nat) (w : World) (h : SlIs lnC 6 w a l.length l) (hk : k < l.length) (hm : l.length ≤ maxLen) (hg : ∀ x ∈ l, x.good) : Calls Tryd.prog 28 #[.slice a l.length cap, .int .i64 k] w fun e w' => e = .returned (.int .i64 (lineE l k)) ∧ Chg [] w w' := by
  obtain ⟨g, o, rfl, -, hbr, hcc⟩ := h.elem (Chg.refl _ _) k hk
  obtain ⟨x, hx1⟩ : ∃ x, l[k]? = some x := ⟨l[k], List.getElem?_eq_getElem hk⟩
  have hxe := (List.getElem?_eq_some_iff.1 hx1).2
  have d0 := hcc 0 (by omega)
  have d1 := hcc 1 (by omega)
  have d2 := hcc 2 (by omega)
  have d3 := hcc 3 (by omega)
  have d4 := hcc 4 (by omega)
  have d5 := hcc 5 (by omega)
  rw [hxe] at d0 d1 d2 d3 d4 d5
  have hcs := line_cases hx1
  have hgx := hg x (List.mem_of_getElem? hx1)
  have HP := Lib.hid (fun m (hkm : k = m + 1) => show w.cell? ⟨g, o + m * 6, none⟩ = some (.string (fnAt l (k - 1))) by
    have hm2 : m < l.length := by omega
    obtain ⟨g2, o2, e2, -, -, hcc2⟩ := h.elem (Chg.refl _ _) m hm2
    cases e2
    have := hcc2 0 (by omega)
    rw [Nat.add_zero] at this
    rw [this]
    unfold fnAt
    rw [hkm, Nat.add_sub_cancel, List.getElem?_eq_getElem hm2]
    rfl)
  have A1 := Lib.hid (fun w' => name_any x.fn w' hgx)
  have A2 := Lib.hid (fun w' => mvalid_any x.us w')
  have A3 := Lib.hid (fun w' => amt_any x.mi w')
  obtain ⟨fn, ⟨u1, u2, u3, u4⟩, mi⟩ := x
  simp only [lnC, List.getElem?_cons_zero, List.getElem?_cons_succ, Nat.add_zero] at d0 d1 d2 d3 d4 d5
  unfold usV at A2
  simp only at A1 A2 A3 hcs
  generalize lineE l k = R at *
  generalize fnAt l (k - 1) = pf at *
  generalize nameB fn = nb at *
  generalize usB ⟨u1, u2, u3, u4⟩ = ub at *
  generalize amtB mi = ab at *
  have hk0 : (0 : Int) ≤ (k : Int) := by omega
  have hk1 : (k : Int) < (l.length : Int) := by omega
  have hlm : (l.length : Int) ≤ 9223372036854775807 := by unfold maxLen at hm; omega
  have C1 := Lib.hid (show Chg [] w (w.alloc (.cells #[.string fn, .int .i64 u1, .int .i64 u2, .int .i64 u3, .int .i64 u4, .int .i64 mi] 63)) from (Chg.refl _ _).alloc _)
  have X1 := Lib.hid (heap_alloc_new w (.cells #[.string fn, .int .i64 u1, .int .i64 u2, .int .i64 u3, .int .i64 u4, .int .i64 mi] 63))
  clear h hm hg hcc hx1 hxe hgx hk
  generalize l.length = n at *
  rcases hcs with ⟨h1, rfl⟩ | ⟨h1, ⟨m, hkm⟩, h2, rfl⟩ | ⟨h1, h2, h3⟩
  · go_enter Tryd.func28, Tryd.ntmps28
    go_wp2_with fail
    refine (A1.out _).mono ?_; rintro e w2 ⟨rfl, hc2⟩
    have C2 := Lib.hid (C1.out.thenSame hc2)
    clear hc2
    go_wp2_with fail
    go_ret
    exact ⟨rfl, C2.out⟩
  · have dp := HP.out m hkm
    have e1 : IntKind.i64.wrap ((k : Int) - 1) = (m : Int) := by rw [IntKind.wrap_i64]; omega
    have e2 : (0 : Int) < (k : Int) := by omega
    have e3 : 0 < k := by omega
    have e4 : (m : Int) < (n : Int) := by omega
    clear hkm
    rcases h2 with h2 | ⟨h2, h4⟩
    all_goals
      go_enter Tryd.func28, Tryd.ntmps28
      go_wp2_with fail
      refine (A1.out _).mono ?_; rintro e w2 ⟨rfl, hc2⟩
      have C2 := Lib.hid (C1.out.thenSame hc2)
      have k2 := blk_cell (hc2.at (by simp) X1.out)
      have dp2 := (World.cell?_of_block (w := w) (w' := w2) (a := ⟨g, o + m * 6, none⟩) (C2.out.block g hbr (by simp))).trans dp
      clear hc2
      go_wp2_with fail
      go_quiet (fail)
      go_wp2_with fail
      go_ret
      exact ⟨rfl, C2.out.drewN _⟩
  · rcases h2 with h2 | ⟨⟨m, hkm⟩, h2, h4⟩
    · have e2 : ¬ (0 : Int) < (k : Int) := by omega
      have e3 : ¬ 0 < k := by omega
      clear h2
      rcases h3 with ⟨h5, rfl⟩ | ⟨h5, h6, rfl⟩ | ⟨h5, h6, rfl⟩
      all_goals
        go_enter Tryd.func28, Tryd.ntmps28
        go_wp2_with fail
        refine (A1.out _).mono ?_; rintro e w2 ⟨rfl, hc2⟩
        have C2 := Lib.hid (C1.out.thenSame hc2)
        have X2 := Lib.hid (hc2.at (by simp) X1.out)
        have k2 := blk_cell X2.out
        (try (have dp3 := (World.cell?_of_block (w := w) (w' := w2) (a := ⟨g, o + m * 6, none⟩) (C2.out.block g hbr (by simp))).trans dp))
        clear hc2
        go_wp2_with fail
        go_quiet (fail)
        go_wp2_with fail
        refine (A2.out _).mono ?_; rintro e w3 ⟨rfl, hc3⟩
        have C3 := Lib.hid ((C2.out.drewN _).thenSame hc3)
        have k3 := blk_cell (hc3.at (by simp) X2.out)
        clear hc3 k2
        go_wp2_with (go_at_call 29; (with_reducible refine (A3.out _).mono ?_); rintro e w4 ⟨rfl, rfl⟩)
        go_ret
        exact ⟨rfl, C3.out⟩
    · have dp := HP.out m hkm
      have e1 : IntKind.i64.wrap ((k : Int) - 1) = (m : Int) := by rw [IntKind.wrap_i64]; omega
      have e2 : (0 : Int) < (k : Int) := by omega
      have e3 : 0 < k := by omega
      have e4 : (m : Int) < (n : Int) := by omega
      clear hkm
      rcases h3 with ⟨h5, rfl⟩ | ⟨h5, h6, rfl⟩ | ⟨h5, h6, rfl⟩
      all_goals
        go_enter Tryd.func28, Tryd.ntmps28
        go_wp2_with fail
        refine (A1.out _).mono ?_; rintro e w2 ⟨rfl, hc2⟩
        have C2 := Lib.hid (C1.out.thenSame hc2)
        have X2 := Lib.hid (hc2.at (by simp) X1.out)
        have k2 := blk_cell X2.out
        (try (have dp3 := (World.cell?_of_block (w := w) (w' := w2) (a := ⟨g, o + m * 6, none⟩) (C2.out.block g hbr (by simp))).trans dp))
        clear hc2
        go_wp2_with fail
        go_quiet (fail)
        go_wp2_with fail
        refine (A2.out _).mono ?_; rintro e w3 ⟨rfl, hc3⟩
        have C3 := Lib.hid ((C2.out.drewN _).thenSame hc3)
        have k3 := blk_cell (hc3.at (by simp) X2.out)
        clear hc3 k2
        go_wp2_with (go_at_call 29; (with_reducible refine (A3.out _).mono ?_); rintro e w4 ⟨rfl, rfl⟩)
        go_ret
        exact ⟨rfl, C3.out⟩
end Go.Proofs.YtehjalgogjkdlaaDoor

namespace Go.Proofs.YtehjalgogjkdlaaDoor
set_option linter.unusedVariables false
set_option linter.unusedSimpArgs false
open Go.RowKit
def Inv.good (i : Inv) : Prop := i.tn.size ≤ maxLen ∧ (∀ x ∈ i.ls, x.good) ∧ i.ls.length ≤ maxLen
def ivV (i : Inv) (a : Option Addr) (cap : Nat) : Value := .agg #[.string i.tn, .int .i64 i.per, .slice a i.ls.length cap, .int .i64 i.gr, .int .i64 i.re, .int .i64 i.nt]
def ivO (i : Inv) (a : Option Addr) (cap : Nat) : Obj := .cells #[.string i.tn, .int .i64 i.per, .slice a i.ls.length cap, .int .i64 i.gr, .int .i64 i.re, .int .i64 i.nt] 33
structure CkI (w wr : World) (i : Inv) (a : Option Addr) (cap : Nat) : Prop where
  iv : wr.heap[w.heap.size]? = some (ivO i a cap)
  chg : Chg [] w wr
theorem CkI.next {w wr w' : World} {i : Inv} {a : Option Addr} {cap : Nat} (h : CkI w wr i a cap) (hc : Chg [] wr w') : CkI w w' i a cap := ⟨hc.at (by simp) h.iv, h.chg.thenSame hc⟩
set_option maxHeartbeats 8000000 in
set_option maxRecDepth 100000 in
theorem check_any (i : Inv) (a : Option Addr) (cap : Nat) (w : World) (h : SlIs lnC 6 w a i.ls.length i.ls) (hg : i.good) : Calls Tryd.prog 9 #[ivV i a cap] w fun e w' => e = .returned (.int .i64 (invZ i)) ∧ Chg [] w w' := by
  obtain ⟨Z, hZ⟩ : ∃ Z, Z = invZ i := ⟨_, rfl⟩
  rw [← hZ]
  unfold invZ at hZ
  obtain ⟨hg1, hg2, hm⟩ := hg
  have HZ := Lib.hid hZ
  have H := Lib.hid h
  have A1 := Lib.hid (fun w' => name_any i.tn w' hg1)
  have L := Lib.hid (fun k (hk : k < i.ls.length) w' (hc : Chg [] w w') => line_any i.ls k a cap w' (h.kept hc) hk hm hg2)
  have M1 := Lib.hid (fun w' => amt_any i.gr w')
  have M2 := Lib.hid (fun w' => amt_any i.re w')
  have M3 := Lib.hid (fun w' => amt_any i.nt w')
  have HLM := Lib.hid (fun (q : errs (linesE i.ls) = 0) => lines_mi q)
  obtain ⟨W1, hW1⟩ : ∃ W1, W1 = w.alloc (ivO i a cap) := ⟨_, rfl⟩
  have I1 := Lib.hid (show CkI w W1 i a cap from hW1 ▸ ⟨heap_alloc_new _ _, (Chg.refl _ _).alloc _⟩)
  have HW1 := Lib.hid hW1
  clear hW1 h hZ hg1 hg2
  have k1 := blk_cell I1.out.iv
  have lt1 := lt_of_heap I1.out.iv
  unfold ivO at HW1 k1
  unfold ivV
  have hper : i.per < 0 ∨ (0 ≤ i.per ∧ 1073741824 < i.per) ∨ (0 ≤ i.per ∧ i.per ≤ 1073741824) := by omega
  obtain ⟨E, hE⟩ : ∃ E, E = errs (linesE i.ls) := ⟨_, rfl⟩
  rw [← hE] at HZ HLM
  have HE := Lib.hid hE
  clear hE
  obtain ⟨nb, hnb⟩ : ∃ nb, nb = nameB i.tn := ⟨_, rfl⟩
  rw [← hnb] at A1 HZ
  obtain ⟨g1, hg1⟩ : ∃ b, b = amtB i.gr := ⟨_, rfl⟩
  obtain ⟨g2, hg2⟩ : ∃ b, b = amtB i.re := ⟨_, rfl⟩
  obtain ⟨g3, hg3⟩ : ∃ b, b = amtB i.nt := ⟨_, rfl⟩
  rw [← hg1] at M1 HZ
  rw [← hg2] at M2 HZ
  rw [← hg3] at M3 HZ
  have G1 := Lib.hid hg1
  have G2 := Lib.hid hg2
  have G3 := Lib.hid hg3
  have hln : (i.ls.length : Int) ≤ 9223372036854775807 := by unfold maxLen at hm; omega
  clear hg1 hg2 hg3 hnb hm
  cases nb
  · have HR := Lib.hid (HZ.out.trans (if_pos rfl))
    go_enter Tryd.func9, Tryd.ntmps9
    go_wp2_with fail
    rw [← HW1.out]
    go_wp2_with fail
    refine (A1.out _).mono ?_; rintro e w2 ⟨rfl, hc2⟩
    have I2 := Lib.hid (I1.out.next hc2)
    clear hc2 k1
    go_wp2_with fail
    go_ret
    exact ⟨by rw [HR.out]; rfl, I2.out.chg⟩
  have HZ1 := Lib.hid (HZ.out.trans (if_neg (by simp)))
  rcases hper with hp1 | ⟨hp1, hp2⟩ | ⟨hp1, hp2⟩
  · have HR := Lib.hid (HZ1.out.trans (if_pos (.inl hp1)))
    go_enter Tryd.func9, Tryd.ntmps9
    go_wp2_with fail
    rw [← HW1.out]
    go_wp2_with fail
    refine (A1.out _).mono ?_; rintro e w2 ⟨rfl, hc2⟩
    have I2 := Lib.hid (I1.out.next hc2)
    have k2 := blk_cell I2.out.iv
    unfold ivO at k2
    clear hc2 k1
    go_wp2_with fail
    go_ret
    exact ⟨by rw [HR.out]; rfl, I2.out.chg⟩
  · have HR := Lib.hid (HZ1.out.trans (if_pos (.inr hp2)))
    go_enter Tryd.func9, Tryd.ntmps9
    go_wp2_with fail
    rw [← HW1.out]
    go_wp2_with fail
    refine (A1.out _).mono ?_; rintro e w2 ⟨rfl, hc2⟩
    have I2 := Lib.hid (I1.out.next hc2)
    have k2 := blk_cell I2.out.iv
    unfold ivO at k2
    clear hc2 k1
    go_wp2_with fail
    go_ret
    exact ⟨by rw [HR.out]; rfl, I2.out.chg⟩
  have HZ2 := Lib.hid (HZ1.out.trans (if_neg (by omega)))
  go_enter Tryd.func9, Tryd.ntmps9
  go_wp2_with fail
  rw [← HW1.out]
  go_wp2_with fail
  refine (A1.out _).mono ?_; rintro e w2 ⟨rfl, hc2⟩
  have I2 := Lib.hid (I1.out.next hc2)
  have k2 := blk_cell I2.out.iv
  unfold ivO at k2
  clear hc2 k1
  go_wp2_with fail
  clear k2
  go_loopw [23] (fun j wr => ∃ k : Nat, j = .int .i64 k ∧ k ≤ i.ls.length ∧ Hid (errs ((linesE i.ls).take k) = 0) ∧ Hid (CkI w wr i a cap)) (fun j _ => i.ls.length - (intOf j).toNat)
  case atStart => exact ⟨0, rfl, Nat.zero_le _, Lib.hid rfl, I2⟩
  case round =>
    obtain ⟨k, rfl, hk, HER, HI⟩ := hrel
    have k3 := blk_cell HI.out.iv
    have lt3 := lt_of_heap HI.out.iv
    unfold ivO at k3
    by_cases hkn : k < i.ls.length
    · have hk0 : (0 : Int) ≤ (k : Int) := by omega
      have hk1 : (k : Int) < (i.ls.length : Int) := by omega
      have LL := Lib.hid (L.out k hkn wr HI.out.chg)
      have hat := linesE_at hkn
      obtain ⟨le, hle⟩ : ∃ le, le = lineE i.ls k := ⟨_, rfl⟩
      rw [← hle] at LL hat
      by_cases he : le = 0
      · subst he
        have HN := Lib.hid (errs_next HER.out hat)
        clear hat hle
        go_wp2_with fail
        refine LL.out.mono ?_; rintro e w4 ⟨rfl, hc4⟩
        have I4 := Lib.hid (HI.out.next hc4)
        clear hc4 k3
        go_wp2_with fail
        exact ⟨⟨k + 1, by go_num, by omega, HN, I4⟩, by simp [intOf]; omega⟩
      · have HEE := Lib.hid (HE.out.trans (errs_at HER.out hat he))
        have heb : (le != 0) = true := by rw [bne_iff_ne]; exact he
        have HR := Lib.hid (HZ2.out.trans (if_pos (by rw [HEE.out]; exact he)))
        clear hat hle
        go_wp2_with fail
        refine LL.out.mono ?_; rintro e w4 ⟨rfl, hc4⟩
        have I4 := Lib.hid (HI.out.next hc4)
        clear hc4 k3
        go_wp2_with fail
        go_ret
        exact ⟨by rw [HR.out, HEE.out]; rfl, I4.out.chg⟩
    · have hke : k = i.ls.length := by omega
      have hkn2 : ¬ (k : Int) < (i.ls.length : Int) := by omega
      have he0 : E = 0 := by
        have h1 := HER.out
        rw [hke, List.take_of_length_le (by simp [linesE])] at h1
        rw [HE.out]; exact h1
      have HZ3 := Lib.hid (HZ2.out.trans (if_neg (by rw [he0]; simp)))
      have HMI := Lib.hid (HLM.out he0)
      clear he0 hke
      cases g1
      · have HR := Lib.hid (HZ3.out.trans (if_pos (.inl rfl)))
        go_wp2_with fail
        refine (M1.out _).mono ?_; rintro e w4 ⟨rfl, rfl⟩
        go_wp2_with fail
        go_ret
        exact ⟨by rw [HR.out]; rfl, HI.out.chg⟩
      cases g2
      · have HR := Lib.hid (HZ3.out.trans (if_pos (.inr (.inl rfl))))
        go_wp2_with (first | (go_at_call 29; (with_reducible refine (M1.out _).mono ?_); rintro e w4 ⟨rfl, rfl⟩) | (go_at_call 29; (with_reducible refine (M2.out _).mono ?_); rintro e w4 ⟨rfl, rfl⟩))
        go_ret
        exact ⟨by rw [HR.out]; rfl, HI.out.chg⟩
      cases g3
      · have HR := Lib.hid (HZ3.out.trans (if_pos (.inr (.inr rfl))))
        go_wp2_with (first | (go_at_call 29; (with_reducible refine (M1.out _).mono ?_); rintro e w4 ⟨rfl, rfl⟩) | (go_at_call 29; (with_reducible refine (M2.out _).mono ?_); rintro e w4 ⟨rfl, rfl⟩) | (go_at_call 29; (with_reducible refine (M3.out _).mono ?_); rintro e w4 ⟨rfl, rfl⟩))
        go_ret
        exact ⟨by rw [HR.out]; rfl, HI.out.chg⟩
      have HZ4 := Lib.hid (HZ3.out.trans (if_neg (by simp)))
      obtain ⟨r1, r2⟩ := amtB_in G1.out.symm
      obtain ⟨r3, r4⟩ := amtB_in G2.out.symm
      obtain ⟨r5, r6⟩ := amtB_in G3.out.symm
      go_wp2_with (first | (go_at_call 29; (with_reducible refine (M1.out _).mono ?_); rintro e w4 ⟨rfl, rfl⟩) | (go_at_call 29; (with_reducible refine (M2.out _).mono ?_); rintro e w4 ⟨rfl, rfl⟩) | (go_at_call 29; (with_reducible refine (M3.out _).mono ?_); rintro e w4 ⟨rfl, rfl⟩))
      clear k3
      go_loopw [5, 55] (fun lf j wr => ∃ k : Nat, j = .int .i64 k ∧ lf = .int .i64 (i.gr - sumMi (i.ls.take k)) ∧ k ≤ i.ls.length ∧ Hid (sumMi (i.ls.take k) ≤ i.gr) ∧ Hid (CkI w wr i a cap)) (fun _ j _ => i.ls.length - (intOf j).toNat)
      case atStart => exact ⟨0, rfl, by simp [sumMi], Nat.zero_le _, Lib.hid (by simp [sumMi]; omega), HI⟩
      case round =>
        clear hkn hkn2 hk HER lt3
        rename_i I0
        obtain ⟨k, rfl, rfl, hk, HS, HI⟩ := hrel
        have hs0 : 0 ≤ sumMi (i.ls.take k) := sumMi_nn fun x hx => (HMI.out x (List.mem_of_mem_take hx)).2.2.1
        have hs1 := HS.out
        have k3 := blk_cell HI.out.iv
        have lt3 := lt_of_heap HI.out.iv
        unfold ivO at k3
        by_cases hkn : k < i.ls.length
        · obtain ⟨g, o, rfl, -, hbr, hcc⟩ := H.out.elem HI.out.chg k hkn
          have d0 := hcc 0 (by omega)
          have d1 := hcc 1 (by omega)
          have d2 := hcc 2 (by omega)
          have d3 := hcc 3 (by omega)
          have d4 := hcc 4 (by omega)
          have d5 := hcc 5 (by omega)
          obtain ⟨x, hx1⟩ : ∃ x, i.ls[k]? = some x := ⟨i.ls[k], List.getElem?_eq_getElem hkn⟩
          have hxe := (List.getElem?_eq_some_iff.1 hx1).2
          rw [hxe] at d0 d1 d2 d3 d4 d5
          have hmi := (HMI.out x (List.mem_of_getElem? hx1)).2.2
          have HST := Lib.hid (sumMi_take hx1)
          have HSL := Lib.hid (sumMi_drop (l := i.ls) (fun x hx => (HMI.out x hx).2.2.1) (k + 1))
          obtain ⟨fn, ⟨u1, u2, u3, u4⟩, mi⟩ := x
          simp only [lnC, List.getElem?_cons_zero, List.getElem?_cons_succ, Nat.add_zero] at d0 d1 d2 d3 d4 d5
          simp only at hmi HST
          have hk0 : (0 : Int) ≤ (k : Int) := by omega
          have hk1 : (k : Int) < (i.ls.length : Int) := by omega
          have I4 := Lib.hid (HI.out.next ((Chg.refl [] wr).alloc (.cells #[.string fn, .int .i64 u1, .int .i64 u2, .int .i64 u3, .int .i64 u4, .int .i64 mi] 63)))
          generalize sumMi (i.ls.take k) = sk at *
          obtain ⟨hmi0, hmi1⟩ := hmi
          clear hcc hx1 hxe
          by_cases hl : i.gr - sk < mi
          · have HR := Lib.hid (HZ4.out.trans (if_neg (fun q => by have := HSL.out; have := HST.out; omega)))
            go_wp2_with fail
            go_ret
            exact ⟨by rw [HR.out]; rfl, I4.out.chg⟩
          · have HS2 := Lib.hid (show sumMi (i.ls.take (k + 1)) ≤ i.gr by rw [HST.out]; omega)
            have HV := Lib.hid (show i.gr - sk - mi = i.gr - sumMi (i.ls.take (k + 1)) by rw [HST.out]; omega)
            go_wp2_with fail
            exact ⟨⟨k + 1, by go_num, by rw [← HV.out], by omega, HS2, I4⟩, by simp [intOf]; omega⟩
        · have hke : k = i.ls.length := by omega
          have hkn2 : ¬ (k : Int) < (i.ls.length : Int) := by omega
          rw [hke, List.take_length] at hs0 hs1 ⊢
          have HKE := Lib.hid hke
          clear hke HS
          generalize sumMi i.ls = sm at *
          by_cases q1 : sm = i.gr
          · have q1b : (i.gr - sm != 0) = false := by rw [bne_eq_false_iff_eq]; omega
            by_cases q2 : i.re ≤ i.gr
            · have q2b : ¬ i.gr < i.re := by omega
              by_cases q3 : i.nt = i.gr - i.re
              · have q3b : (i.nt != i.gr - i.re) = false := by rw [bne_eq_false_iff_eq]; omega
                have HR := Lib.hid (HZ4.out.trans (if_pos ⟨q1, q2, q3⟩))
                clear q1 q3
                go_wp2_with fail
                go_ret
                exact ⟨by rw [HR.out]; rfl, HI.out.chg⟩
              · have q3b : (i.nt != i.gr - i.re) = true := by rw [bne_iff_ne]; omega
                have HR := Lib.hid (HZ4.out.trans (if_neg (fun q => q3 q.2.2)))
                clear q1 q3
                go_wp2_with fail
                go_ret
                exact ⟨by rw [HR.out]; rfl, HI.out.chg⟩
            · have q2b : i.gr < i.re := by omega
              have HR := Lib.hid (HZ4.out.trans (if_neg (fun q => q2 q.2.1)))
              clear q1
              go_wp2_with fail
              go_ret
              exact ⟨by rw [HR.out]; rfl, HI.out.chg⟩
          · have q1b : (i.gr - sm != 0) = true := by rw [bne_iff_ne]; omega
            have HR := Lib.hid (HZ4.out.trans (if_neg (fun q => q1 q.1)))
            clear q1
            go_wp2_with fail
            go_ret
            exact ⟨by rw [HR.out]; rfl, HI.out.chg⟩
end Go.Proofs.YtehjalgogjkdlaaDoor

namespace Go.Proofs.YtehjalgogjkdlaaDoor
set_option linter.unusedVariables false
set_option linter.unusedSimpArgs false
open Go.RowKit

theorem okAt_succ {p : Nat} (hp : 0 < p) (c : Int) : okAt p c = (smallB c || (digitB c || c == 45 || c == 95)) := by
  unfold okAt
  rw [decide_eq_true hp]; simp
end Go.Proofs.YtehjalgogjkdlaaDoor

namespace Go.Proofs.YtehjalgogjkdlaaDoor
set_option linter.unusedVariables false
set_option linter.unusedSimpArgs false
open Go.RowKit

end Go.Proofs.YtehjalgogjkdlaaDoor
