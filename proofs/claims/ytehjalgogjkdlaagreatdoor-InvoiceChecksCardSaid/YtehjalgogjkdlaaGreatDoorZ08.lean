/- Chapter 54: contract: Check of an invoice. No condition. Names: contracts of the reference's small, digit. No condition. Names: contract of the reference's Name, at every string. No condition. -/
import Derived.Test.YtehjalgogjkdlaaGreatDoorZ07
import Derived.Test.YtehjalgogjkdlaaGreatDoorZ03
namespace Go.Proofs.YtehjalgogjkdlaaGreatDoor
set_option linter.unusedVariables false
set_option linter.unusedSimpArgs false
open Go.RowKit
def Inv.good (i : Inv) : Prop := i.tn.size ≤ maxLen ∧ (∀ x ∈ i.ls, x.good) ∧ i.ls.length ≤ maxLen
def ivV (i : Inv) (a : Option Addr) (cap : Nat) : Value := .agg #[.string i.tn, .int .i64 i.per, .slice a i.ls.length cap, .int .i64 i.gr, .int .i64 i.re, .int .i64 i.nt]
def ivO (i : Inv) (a : Option Addr) (cap : Nat) : Obj := .cells #[.string i.tn, .int .i64 i.per, .slice a i.ls.length cap, .int .i64 i.gr, .int .i64 i.re, .int .i64 i.nt] 31
structure CkI (w wr : World) (i : Inv) (a : Option Addr) (cap : Nat) : Prop where
  iv : wr.heap[w.heap.size]? = some (ivO i a cap)
  chg : Chg [] w wr
theorem CkI.next {w wr w' : World} {i : Inv} {a : Option Addr} {cap : Nat} (h : CkI w wr i a cap) (hc : Chg [] wr w') : CkI w w' i a cap := ⟨hc.at (by simp) h.iv, h.chg.thenSame hc⟩
set_option maxHeartbeats 8000000 in
set_option maxRecDepth 100000 in
theorem check_any (i : Inv) (a : Option Addr) (cap : Nat) (w : World) (h : SlIs lnC 6 w a i.ls.length i.ls) (hg : i.good) : Calls Tryz.prog 14 #[ivV i a cap] w fun e w' => e = .returned (.int .i64 (invZ i)) ∧ Chg [] w w' := by
  obtain ⟨Z, hZ⟩ : ∃ Z, Z = invZ i := ⟨_, rfl⟩
  rw [← hZ]
  unfold invZ at hZ
  obtain ⟨hg1, hg2, hm⟩ := hg
  have HZ := Lib.hid hZ
  have H := Lib.hid h
  have A1 := Lib.hid (fun w' => name_any i.tn w' hg1)
  have L := Lib.hid (fun k (hk : k < i.ls.length) w' (hc : Chg [] w w') => line_any i.ls k a cap w' (h.kept hc) hk hm hg2)
  have M1 := Lib.hid (fun w' => amt_any i.gr w')
  have M2 := Lib.hid (fun w' => amt_any i.re w')
  have M3 := Lib.hid (fun w' => amt_any i.nt w')
  have HLM := Lib.hid (fun (q : errs (linesE i.ls) = 0) => lines_mi q)
  obtain ⟨W1, hW1⟩ : ∃ W1, W1 = w.alloc (ivO i a cap) := ⟨_, rfl⟩
  have I1 := Lib.hid (show CkI w W1 i a cap from hW1 ▸ ⟨heap_alloc_new _ _, (Chg.refl _ _).alloc _⟩)
  have HW1 := Lib.hid hW1
  clear hW1 h hZ hg1 hg2
  have k1 := blk_cell I1.out.iv
  have lt1 := lt_of_heap I1.out.iv
  unfold ivO at HW1 k1
  unfold ivV
  have hper : i.per < 0 ∨ (0 ≤ i.per ∧ 1073741824 < i.per) ∨ (0 ≤ i.per ∧ i.per ≤ 1073741824) := by omega
  obtain ⟨E, hE⟩ : ∃ E, E = errs (linesE i.ls) := ⟨_, rfl⟩
  rw [← hE] at HZ HLM
  have HE := Lib.hid hE
  clear hE
  obtain ⟨nb, hnb⟩ : ∃ nb, nb = nameB i.tn := ⟨_, rfl⟩
  rw [← hnb] at A1 HZ
  obtain ⟨g1, hg1⟩ : ∃ b, b = amtB i.gr := ⟨_, rfl⟩
  obtain ⟨g2, hg2⟩ : ∃ b, b = amtB i.re := ⟨_, rfl⟩
  obtain ⟨g3, hg3⟩ : ∃ b, b = amtB i.nt := ⟨_, rfl⟩
  rw [← hg1] at M1 HZ
  rw [← hg2] at M2 HZ
  rw [← hg3] at M3 HZ
  have G1 := Lib.hid hg1
  have G2 := Lib.hid hg2
  have G3 := Lib.hid hg3
  have hln : (i.ls.length : Int) ≤ 9223372036854775807 := by unfold maxLen at hm; omega
  clear hg1 hg2 hg3 hnb hm
  cases nb
  · have HR := Lib.hid (HZ.out.trans (if_pos rfl))
    go_enter Tryz.func14, Tryz.ntmps14
    go_wp2_with fail
    rw [← HW1.out]
    go_wp2_with fail
    refine (A1.out _).mono ?_; rintro e w2 ⟨rfl, hc2⟩
    have I2 := Lib.hid (I1.out.next hc2)
    clear hc2 k1
    go_wp2_with fail
    go_ret
    exact ⟨by rw [HR.out]; rfl, I2.out.chg⟩
  have HZ1 := Lib.hid (HZ.out.trans (if_neg (by simp)))
  rcases hper with hp1 | ⟨hp1, hp2⟩ | ⟨hp1, hp2⟩
  · have HR := Lib.hid (HZ1.out.trans (if_pos (.inl hp1)))
    go_enter Tryz.func14, Tryz.ntmps14
    go_wp2_with fail
    rw [← HW1.out]
    go_wp2_with fail
    refine (A1.out _).mono ?_; rintro e w2 ⟨rfl, hc2⟩
    have I2 := Lib.hid (I1.out.next hc2)
    have k2 := blk_cell I2.out.iv
    unfold ivO at k2
    clear hc2 k1
    go_wp2_with fail
    go_ret
    exact ⟨by rw [HR.out]; rfl, I2.out.chg⟩
  · have HR := Lib.hid (HZ1.out.trans (if_pos (.inr hp2)))
    go_enter Tryz.func14, Tryz.ntmps14
    go_wp2_with fail
    rw [← HW1.out]
    go_wp2_with fail
    refine (A1.out _).mono ?_; rintro e w2 ⟨rfl, hc2⟩
    have I2 := Lib.hid (I1.out.next hc2)
    have k2 := blk_cell I2.out.iv
    unfold ivO at k2
    clear hc2 k1
    go_wp2_with fail
    go_ret
    exact ⟨by rw [HR.out]; rfl, I2.out.chg⟩
  have HZ2 := Lib.hid (HZ1.out.trans (if_neg (by omega)))
  go_enter Tryz.func14, Tryz.ntmps14
  go_wp2_with fail
  rw [← HW1.out]
  go_wp2_with fail
  refine (A1.out _).mono ?_; rintro e w2 ⟨rfl, hc2⟩
  have I2 := Lib.hid (I1.out.next hc2)
  have k2 := blk_cell I2.out.iv
  unfold ivO at k2
  clear hc2 k1
  go_wp2_with fail
  clear k2
  go_loopw [23] (fun j wr => ∃ k : Nat, j = .int .i64 k ∧ k ≤ i.ls.length ∧ Hid (errs ((linesE i.ls).take k) = 0) ∧ Hid (CkI w wr i a cap)) (fun j _ => i.ls.length - (intOf j).toNat)
  case atStart => exact ⟨0, rfl, Nat.zero_le _, Lib.hid rfl, I2⟩
  case round =>
    obtain ⟨k, rfl, hk, HER, HI⟩ := hrel
    have k3 := blk_cell HI.out.iv
    have lt3 := lt_of_heap HI.out.iv
    unfold ivO at k3
    by_cases hkn : k < i.ls.length
    · have hk0 : (0 : Int) ≤ (k : Int) := by omega
      have hk1 : (k : Int) < (i.ls.length : Int) := by omega
      have LL := Lib.hid (L.out k hkn wr HI.out.chg)
      have hat := linesE_at hkn
      obtain ⟨le, hle⟩ : ∃ le, le = lineE i.ls k := ⟨_, rfl⟩
      rw [← hle] at LL hat
      by_cases he : le = 0
      · subst he
        have HN := Lib.hid (errs_next HER.out hat)
        clear hat hle
        go_wp2_with fail
        refine LL.out.mono ?_; rintro e w4 ⟨rfl, hc4⟩
        have I4 := Lib.hid (HI.out.next hc4)
        clear hc4 k3
        go_wp2_with fail
        exact ⟨⟨k + 1, by go_num, by omega, HN, I4⟩, by simp [intOf]; omega⟩
      · have HEE := Lib.hid (HE.out.trans (errs_at HER.out hat he))
        have heb : (le != 0) = true := by rw [bne_iff_ne]; exact he
        have HR := Lib.hid (HZ2.out.trans (if_pos (by rw [HEE.out]; exact he)))
        clear hat hle
        go_wp2_with fail
        refine LL.out.mono ?_; rintro e w4 ⟨rfl, hc4⟩
        have I4 := Lib.hid (HI.out.next hc4)
        clear hc4 k3
        go_wp2_with fail
        go_ret
        exact ⟨by rw [HR.out, HEE.out]; rfl, I4.out.chg⟩
    · have hke : k = i.ls.length := by omega
      have hkn2 : ¬ (k : Int) < (i.ls.length : Int) := by omega
      have he0 : E = 0 := by
        have h1 := HER.out
        rw [hke, List.take_of_length_le (by simp [linesE])] at h1
        rw [HE.out]; exact h1
      have HZ3 := Lib.hid (HZ2.out.trans (if_neg (by rw [he0]; simp)))
      have HMI := Lib.hid (HLM.out he0)
      clear he0 hke
      cases g1
      · have HR := Lib.hid (HZ3.out.trans (if_pos (.inl rfl)))
        go_wp2_with fail
        refine (M1.out _).mono ?_; rintro e w4 ⟨rfl, rfl⟩
        go_wp2_with fail
        go_ret
        exact ⟨by rw [HR.out]; rfl, HI.out.chg⟩
      cases g2
      · have HR := Lib.hid (HZ3.out.trans (if_pos (.inr (.inl rfl))))
        go_wp2_with (first | (go_at_call 37; (with_reducible refine (M1.out _).mono ?_); rintro e w4 ⟨rfl, rfl⟩) | (go_at_call 37; (with_reducible refine (M2.out _).mono ?_); rintro e w4 ⟨rfl, rfl⟩))
        go_ret
        exact ⟨by rw [HR.out]; rfl, HI.out.chg⟩
      cases g3
      · have HR := Lib.hid (HZ3.out.trans (if_pos (.inr (.inr rfl))))
        go_wp2_with (first | (go_at_call 37; (with_reducible refine (M1.out _).mono ?_); rintro e w4 ⟨rfl, rfl⟩) | (go_at_call 37; (with_reducible refine (M2.out _).mono ?_); rintro e w4 ⟨rfl, rfl⟩) | (go_at_call 37; (with_reducible refine (M3.out _).mono ?_); rintro e w4 ⟨rfl, rfl⟩))
        go_ret
        exact ⟨by rw [HR.out]; rfl, HI.out.chg⟩
      have HZ4 := Lib.hid (HZ3.out.trans (if_neg (by simp)))
      obtain ⟨r1, r2⟩ := amtB_in G1.out.symm
      obtain ⟨r3, r4⟩ := amtB_in G2.out.symm
      obtain ⟨r5, r6⟩ := amtB_in G3.out.symm
      go_wp2_with (first | (go_at_call 37; (with_reducible refine (M1.out _).mono ?_); rintro e w4 ⟨rfl, rfl⟩) | (go_at_call 37; (with_reducible refine (M2.out _).mono ?_); rintro e w4 ⟨rfl, rfl⟩) | (go_at_call 37; (with_reducible refine (M3.out _).mono ?_); rintro e w4 ⟨rfl, rfl⟩))
      clear k3
      go_loopw [5, 55] (fun lf j wr => ∃ k : Nat, j = .int .i64 k ∧ lf = .int .i64 (i.gr - sumMi (i.ls.take k)) ∧ k ≤ i.ls.length ∧ Hid (sumMi (i.ls.take k) ≤ i.gr) ∧ Hid (CkI w wr i a cap)) (fun _ j _ => i.ls.length - (intOf j).toNat)
      case atStart => exact ⟨0, rfl, by simp [sumMi], Nat.zero_le _, Lib.hid (by simp [sumMi]; omega), HI⟩
      case round =>
        clear hkn hkn2 hk HER lt3
        rename_i I0
        obtain ⟨k, rfl, rfl, hk, HS, HI⟩ := hrel
        have hs0 : 0 ≤ sumMi (i.ls.take k) := sumMi_nn fun x hx => (HMI.out x (List.mem_of_mem_take hx)).2.2.1
        have hs1 := HS.out
        have k3 := blk_cell HI.out.iv
        have lt3 := lt_of_heap HI.out.iv
        unfold ivO at k3
        by_cases hkn : k < i.ls.length
        · obtain ⟨g, o, rfl, -, hbr, hcc⟩ := H.out.elem HI.out.chg k hkn
          have d0 := hcc 0 (by omega)
          have d1 := hcc 1 (by omega)
          have d2 := hcc 2 (by omega)
          have d3 := hcc 3 (by omega)
          have d4 := hcc 4 (by omega)
          have d5 := hcc 5 (by omega)
          obtain ⟨x, hx1⟩ : ∃ x, i.ls[k]? = some x := ⟨i.ls[k], List.getElem?_eq_getElem hkn⟩
          have hxe := (List.getElem?_eq_some_iff.1 hx1).2
          rw [hxe] at d0 d1 d2 d3 d4 d5
          have hmi := (HMI.out x (List.mem_of_getElem? hx1)).2.2
          have HST := Lib.hid (sumMi_take hx1)
          have HSL := Lib.hid (sumMi_drop (l := i.ls) (fun x hx => (HMI.out x hx).2.2.1) (k + 1))
          obtain ⟨fn, ⟨u1, u2, u3, u4⟩, mi⟩ := x
          simp only [lnC, List.getElem?_cons_zero, List.getElem?_cons_succ, Nat.add_zero] at d0 d1 d2 d3 d4 d5
          simp only at hmi HST
          have hk0 : (0 : Int) ≤ (k : Int) := by omega
          have hk1 : (k : Int) < (i.ls.length : Int) := by omega
          have I4 := Lib.hid (HI.out.next ((Chg.refl [] wr).alloc (.cells #[.string fn, .int .i64 u1, .int .i64 u2, .int .i64 u3, .int .i64 u4, .int .i64 mi] 74)))
          generalize sumMi (i.ls.take k) = sk at *
          obtain ⟨hmi0, hmi1⟩ := hmi
          clear hcc hx1 hxe
          by_cases hl : i.gr - sk < mi
          · have HR := Lib.hid (HZ4.out.trans (if_neg (fun q => by have := HSL.out; have := HST.out; omega)))
            go_wp2_with fail
            go_ret
            exact ⟨by rw [HR.out]; rfl, I4.out.chg⟩
          · have HS2 := Lib.hid (show sumMi (i.ls.take (k + 1)) ≤ i.gr by rw [HST.out]; omega)
            have HV := Lib.hid (show i.gr - sk - mi = i.gr - sumMi (i.ls.take (k + 1)) by rw [HST.out]; omega)
            go_wp2_with fail
            exact ⟨⟨k + 1, by go_num, by rw [← HV.out], by omega, HS2, I4⟩, by simp [intOf]; omega⟩
        · have hke : k = i.ls.length := by omega
          have hkn2 : ¬ (k : Int) < (i.ls.length : Int) := by omega
          rw [hke, List.take_length] at hs0 hs1 ⊢
          have HKE := Lib.hid hke
          clear hke HS
          generalize sumMi i.ls = sm at *
          by_cases q1 : sm = i.gr
          · have q1b : (i.gr - sm != 0) = false := by rw [bne_eq_false_iff_eq]; omega
            by_cases q2 : i.re ≤ i.gr
            · have q2b : ¬ i.gr < i.re := by omega
              by_cases q3 : i.nt = i.gr - i.re
              · have q3b : (i.nt != i.gr - i.re) = false := by rw [bne_eq_false_iff_eq]; omega
                have HR := Lib.hid (HZ4.out.trans (if_pos ⟨q1, q2, q3⟩))
                clear q1 q3
                go_wp2_with fail
                go_ret
                exact ⟨by rw [HR.out]; rfl, HI.out.chg⟩
              · have q3b : (i.nt != i.gr - i.re) = true := by rw [bne_iff_ne]; omega
                have HR := Lib.hid (HZ4.out.trans (if_neg (fun q => q3 q.2.2)))
                clear q1 q3
                go_wp2_with fail
                go_ret
                exact ⟨by rw [HR.out]; rfl, HI.out.chg⟩
            · have q2b : i.gr < i.re := by omega
              have HR := Lib.hid (HZ4.out.trans (if_neg (fun q => q2 q.2.1)))
              clear q1
              go_wp2_with fail
              go_ret
              exact ⟨by rw [HR.out]; rfl, HI.out.chg⟩
          · have q1b : (i.gr - sm != 0) = true := by rw [bne_iff_ne]; omega
            have HR := Lib.hid (HZ4.out.trans (if_neg (fun q => q1 q.1)))
            clear q1
            go_wp2_with fail
            go_ret
            exact ⟨by rw [HR.out]; rfl, HI.out.chg⟩
end Go.Proofs.YtehjalgogjkdlaaGreatDoor

namespace Go.Proofs.YtehjalgogjkdlaaGreatDoor
set_option linter.unusedVariables false
set_option linter.unusedSimpArgs false
open Go.RowKit

theorem rsmall_any (c : Int) (w : World) : Calls Tryz.prog 69 #[.int .u8 c] w fun e w' => e = .returned (.bool (smallB c)) ∧ w = w' := by
  by_cases h1 : 97 ≤ c
  · go_enter Tryz.func69, Tryz.ntmps69
    go_wp2
    go_ret
    exact ⟨by simp [smallB, h1], rfl⟩
  · go_enter Tryz.func69, Tryz.ntmps69
    go_wp2
    go_ret
    exact ⟨by simp [smallB]; omega, rfl⟩
theorem rdigit_any (c : Int) (w : World) : Calls Tryz.prog 70 #[.int .u8 c] w fun e w' => e = .returned (.bool (digitB c)) ∧ w = w' := by
  by_cases h1 : 48 ≤ c
  · go_enter Tryz.func70, Tryz.ntmps70
    go_wp2
    go_ret
    exact ⟨by simp [digitB, h1], rfl⟩
  · go_enter Tryz.func70, Tryz.ntmps70
    go_wp2
    go_ret
    exact ⟨by simp [digitB]; omega, rfl⟩
theorem okAt_succ {p : Nat} (hp : 0 < p) (c : Int) : okAt p c = (smallB c || (digitB c || c == 45 || c == 95)) := by
  unfold okAt
  rw [decide_eq_true hp]; simp
end Go.Proofs.YtehjalgogjkdlaaGreatDoor

namespace Go.Proofs.YtehjalgogjkdlaaGreatDoor
set_option linter.unusedVariables false
set_option linter.unusedSimpArgs false
open Go.RowKit

set_option maxHeartbeats 4000000 in
theorem rname_any (s : ByteArray) (w : World) (hs : s.size ≤ maxLen) : Calls Tryz.prog 38 #[.string s] w fun e w' => e = .returned (.bool (nameB s)) ∧ w = w' := by
  unfold maxLen at hs
  obtain ⟨R, hR⟩ : ∃ R, R = nameB s := ⟨_, rfl⟩
  rw [← hR]
  have HR := Lib.hid hR
  have hcs : (s.size < 1 ∧ Hid (R = false)) ∨ (1 ≤ s.size ∧ 24 < s.size ∧ Hid (R = false)) ∨ (0 < s.size ∧ 1 ≤ s.size ∧ s.size ≤ 24) := by
    by_cases h1 : 1 ≤ s.size
    · by_cases h2 : s.size ≤ 24
      · exact .inr (.inr ⟨by omega, h1, h2⟩)
      · exact .inr (.inl ⟨h1, by omega, Lib.hid (by rw [hR]; simp [nameB, h2])⟩)
    · exact .inl ⟨by omega, Lib.hid (by rw [hR]; simp [nameB, h1])⟩
  clear hR
  rcases hcs with ⟨h1, E⟩ | ⟨h1, h2, E⟩ | ⟨h0, h1, h2⟩
  · go_enter Tryz.func38, Tryz.ntmps38
    go_wp2
    go_ret
    exact ⟨by rw [E.out]; rfl, rfl⟩
  · go_enter Tryz.func38, Tryz.ntmps38
    go_wp2
    go_ret
    exact ⟨by rw [E.out]; rfl, rfl⟩
  have hb0 := byteAt_eq s 0 h0
  have A0 := fun w => rsmall_any (byteAt s 0) w
  cases hc0 : smallB (byteAt s 0)
  · have E := Lib.hid (HR.out.trans (nameB_no h0 (show okAt 0 (byteAt s 0) = false by unfold okAt; rw [hc0]; rfl)))
    rw [hc0, hb0] at A0
    have A0 := Lib.hid A0
    rename_i A00
    clear A00 hc0 hb0
    go_enter Tryz.func38, Tryz.ntmps38
    go_wp2_with fail
    refine (A0.out _).mono ?_; rintro e w1 ⟨rfl, rfl⟩
    go_wp2_with fail
    go_ret
    exact ⟨by rw [E.out]; rfl, rfl⟩
  · have H1 := Lib.hid (show (List.range 1).all (fun i => okAt i (byteAt s i)) = true by
      rw [show 1 = 0 + 1 from rfl, range_step]
      unfold okAt; rw [hc0]; rfl)
    rw [hc0, hb0] at A0
    have A0 := Lib.hid A0
    rename_i A00
    clear A00 hc0 hb0
    go_enter Tryz.func38, Tryz.ntmps38
    go_wp2_with fail
    refine (A0.out _).mono ?_; rintro e w1 ⟨rfl, rfl⟩
    go_wp2_with fail
    go_loop [3] (fun i => ∃ p : Nat, i = .int .i64 p ∧ 1 ≤ p ∧ p ≤ s.size ∧ Hid ((List.range p).all (fun i => okAt i (byteAt s i)) = true)) (fun i => s.size - (intOf i).toNat)
    case atStart => exact ⟨1, rfl, Nat.le_refl _, h1, H1⟩
    case round =>
      obtain ⟨p, rfl, hp1, hp, Hall⟩ := hrel
      by_cases hlt : p < s.size
      · have hbt := byteAt_eq s p hlt
        have hst := range_step p (fun i => okAt i (byteAt s i))
        simp only [okAt_succ (show 0 < p by omega)] at hst
        have hno := fun (h : okAt p (byteAt s p) = false) => HR.out.trans (nameB_no hlt h)
        rw [okAt_succ (show 0 < p by omega)] at hno
        have A1 := fun w => rsmall_any (byteAt s p) w
        have A2 := fun w => rdigit_any (byteAt s p) w
        have hpp : (0 : Int) ≤ (p : Int) := by omega
        have hpq : (p : Int) < (s.size : Int) := by omega
        rw [hbt] at A1 A2 hst hno
        obtain ⟨c, hc⟩ : ∃ c : Int, c = ((s[p]'hlt).toNat : Int) := ⟨_, rfl⟩
        have hcs : (smallB c = true ∧ Hid ((List.range (p + 1)).all (fun i => okAt i (byteAt s i)) = true)) ∨ (smallB c = false ∧ digitB c = true ∧ Hid ((List.range (p + 1)).all (fun i => okAt i (byteAt s i)) = true)) ∨ (smallB c = false ∧ digitB c = false ∧ (c != 45) = false ∧ Hid ((List.range (p + 1)).all (fun i => okAt i (byteAt s i)) = true)) ∨ (smallB c = false ∧ digitB c = false ∧ (c != 45) = true ∧ (c != 95) = false ∧ Hid ((List.range (p + 1)).all (fun i => okAt i (byteAt s i)) = true)) ∨ (smallB c = false ∧ digitB c = false ∧ (c != 45) = true ∧ (c != 95) = true ∧ Hid (R = false)) := by
          rw [← hc] at hst hno
          have hyes : (smallB c || (digitB c || c == 45 || c == 95)) = true → (List.range (p + 1)).all (fun i => okAt i (byteAt s i)) = true := fun h => by
            rw [range_step, Hall.out, hbt, ← hc, okAt_succ (show 0 < p by omega), h]; rfl
          cases h1 : smallB c
          · cases h2 : digitB c
            · cases h3 : (c == 45)
              · cases h4 : (c == 95)
                · exact .inr (.inr (.inr (.inr ⟨rfl, rfl, by simp [bne, h3], by simp [bne, h4], Lib.hid (hno (by simp [h1, h2, h3, h4]))⟩)))
                · exact .inr (.inr (.inr (.inl ⟨rfl, rfl, by simp [bne, h3], by simp [bne, h4], Lib.hid (hyes (by simp [h4]))⟩)))
              · exact .inr (.inr (.inl ⟨rfl, rfl, by simp [bne, h3], Lib.hid (hyes (by simp [h3]))⟩))
            · exact .inr (.inl ⟨rfl, rfl, Lib.hid (hyes (by simp [h2]))⟩)
          · exact .inl ⟨rfl, Lib.hid (hyes (by simp [h1]))⟩
        rw [hc] at hcs
        clear hst hno hbt hc
        rcases hcs with ⟨q1, E⟩ | ⟨q1, q2, E⟩ | ⟨q1, q2, q3, E⟩ | ⟨q1, q2, q3, q4, E⟩ | ⟨q1, q2, q3, q4, E⟩
        · rw [q1] at A1
          have A1 := Lib.hid A1
          rename_i A10
          clear A10 A2 q1
          go_wp2_with fail
          refine (A1.out _).mono ?_; rintro e w2 ⟨rfl, rfl⟩
          go_wp2_with fail
          exact ⟨⟨p + 1, by go_num, by omega, by omega, E⟩, by simp [intOf]; omega⟩
        iterate 3
          · rw [q1] at A1
            rw [q2] at A2
            have A1 := Lib.hid A1
            have A2 := Lib.hid A2
            rename_i A10 A20
            clear A10 A20 q1 q2
            go_wp2_with fail
            refine (A1.out _).mono ?_; rintro e w2 ⟨rfl, rfl⟩
            go_wp2_with fail
            refine (A2.out _).mono ?_; rintro e w2 ⟨rfl, rfl⟩
            go_wp2_with fail
            exact ⟨⟨p + 1, by go_num, by omega, by omega, E⟩, by simp [intOf]; omega⟩
        · rw [q1] at A1
          rw [q2] at A2
          have A1 := Lib.hid A1
          have A2 := Lib.hid A2
          rename_i A10 A20
          clear A10 A20 q1 q2
          go_wp2_with fail
          refine (A1.out _).mono ?_; rintro e w2 ⟨rfl, rfl⟩
          go_wp2_with fail
          refine (A2.out _).mono ?_; rintro e w2 ⟨rfl, rfl⟩
          go_wp2_with fail
          go_ret
          exact ⟨by rw [E.out]; rfl, rfl⟩
      · have hpe : p = s.size := by omega
        subst hpe
        have E := Lib.hid (show R = true by rw [HR.out]; unfold nameB; rw [Hall.out]; simp [h1, h2])
        go_wp2_with fail
        go_ret
        exact ⟨by rw [E.out]; rfl, rfl⟩
end Go.Proofs.YtehjalgogjkdlaaGreatDoor
