/- Chapter 54: contract: Format of an invoice. Condition: the table of Itoa lies as the program lays it. Chapter 54: contract of the reference: Format of an invoice. No condition. Chapter 54: the example of the law: plain values. No condition. -/
import Derived.Deep.RegionHeld3
import Derived.Test.YtehjalgogjkdlaaDoorZ29
import Derived.Test.YtehjalgogjkdlaaDoorZ10
import Derived.Test.YtehjalgogjkdlaaDoorZ11
import Derived.Test.YtehjalgogjkdlaaDoorZ18
import Derived.Test.YtehjalgogjkdlaaDoorZ15
import Derived.Test.YtehjalgogjkdlaaDoorZ12
namespace Go.Proofs.YtehjalgogjkdlaaDoor
set_option linter.unusedVariables false
set_option linter.unusedSimpArgs false
open Go.RowKit
def wInvoice : List UInt8 := [105, 110, 118, 111, 105, 99, 101]
def wPeriod : List UInt8 := [112, 101, 114, 105, 111, 100]
def wInvocations : List UInt8 := [105, 110, 118, 111, 99, 97, 116, 105, 111, 110, 115]
def wUnits : List UInt8 := [117, 110, 105, 116, 115]
def wMicros : List UInt8 := [109, 105, 99, 114, 111, 115]
def wGross : List UInt8 := [103, 114, 111, 115, 115]
def wRefund : List UInt8 := [114, 101, 102, 117, 110, 100]
def wNet : List UInt8 := [110, 101, 116]
def headW (i : Inv) : List (List UInt8) := [wInvoice, bs i.tn, wPeriod, Lib.itoa i.per]
def lineW (x : Ln) : List (List UInt8) := [bs x.fn, wInvocations, Lib.itoa x.us.inv, wUnits, Lib.itoa x.us.units, wMicros, Lib.itoa x.mi]
def fmtL (i : Inv) : List (List UInt8) := joinW (headW i) :: (i.ls.map fun x => joinW (lineW x)) ++ [joinW [wGross, Lib.itoa i.gr], joinW [wRefund, Lib.itoa i.re], joinW [wNet, Lib.itoa i.nt]]
/-- The texts of an invoice, or the error. -/
def fmtZ (i : Inv) : List (List UInt8) × Int := if invZ i ≠ 0 then ([], invZ i) else (fmtL i, 0)
theorem thenH {S : List Nat} {a b c : World} (h : Hid (Chg S b c)) (k : Chg S a b) : Chg S a c := k.thenSame h.out
theorem name_size {s : ByteArray} (h : nameB s = true) : (bs s).length ≤ 24 := by
  simp only [nameB, Bool.and_eq_true, decide_eq_true_eq] at h
  exact h.2
theorem itoa_len {n : Int} (h0 : 0 ≤ n) (h1 : n ≤ 1000000000000) : (Lib.itoa n).length ≤ 21 := Lib.itoa_length_le n (by omega) (by omega)
theorem addw_blk {cur : Array Value} {t : TypeId} {fr : Nat × Nat} (nb c ob base n : Nat) (v : Value) (ws L : List (List UInt8)) (w : World) (hn : ws.length = n) (hb : w.heap[nb]? = some (.cells cur t fr)) (hcur : cur.toList = ws.flatMap kc) (ho : OutIs w ob base v L) (hj : (joinW ws).length ≤ 1000) (hl : ws.length ≤ 100) (hL : (L.length + 1) * 16 ≤ 140737488355328) (hbs : base ≤ w.heap.size) :
    Calls Tryd.prog 41 #[.slice (some ⟨nb, 0, none⟩) n c, .pointer (some ⟨ob, 0, none⟩)] w fun e w' => e = .returned (.tuple #[]) ∧ (∃ v', OutIs w' ob base v' (L ++ [joinW ws])) ∧ Chg (ob :: v.ownBlock.toList) w w' := by
  subst hn
  exact addw_any _ _ _ _ _ ws L w (SlIs.ofBlock ws hb kLen hcur) ho hj hl hL hbs
theorem usB_all2 {u : Us} (h : usB u = true) : (0 ≤ u.inv ∧ u.inv ≤ 1000000000000) ∧ (0 ≤ u.steps ∧ u.steps ≤ 1000000000000) ∧ (0 ≤ u.ticks ∧ u.ticks ≤ 1000000000000) ∧ (0 ≤ u.units ∧ u.units ≤ 1000000000000) := by
  simp only [usB, Bool.and_eq_true] at h
  exact ⟨amtB_in h.1.1.1, amtB_in h.1.1.2, amtB_in h.1.2, amtB_in h.2⟩
theorem fl1 {l : List Ln} (h : l.length ≤ 2600000000000) (x : List UInt8) : ((x :: l.map (fun x => joinW (lineW x))).length + 1) * 16 ≤ 140737488355328 := by simp only [List.length_cons, List.length_map]; omega
theorem fl2 {l : List Ln} (h : l.length ≤ 2600000000000) (x y : List UInt8) : (((x :: l.map (fun x => joinW (lineW x))) ++ [y]).length + 1) * 16 ≤ 140737488355328 := by simp only [List.length_append, List.length_cons, List.length_map, List.length_nil]; omega
theorem fl3 {l : List Ln} (h : l.length ≤ 2600000000000) (x y z : List UInt8) : (((x :: l.map (fun x => joinW (lineW x))) ++ [y] ++ [z]).length + 1) * 16 ≤ 140737488355328 := by simp only [List.length_append, List.length_cons, List.length_map, List.length_nil]; omega
theorem flk {l : List Ln} (h : l.length ≤ 2600000000000) (x : List UInt8) (k : Nat) : ((x :: (l.take k).map (fun x => joinW (lineW x))).length + 1) * 16 ≤ 140737488355328 := fl1 (by rw [List.length_take]; omega) x
def FmtPost (w : World) (R : List (List UInt8) × Int) (e : Ending) (w' : World) : Prop := ∃ v, e = .returned (.tuple #[v, .int .i64 R.2]) ∧ RowOf kc 1 w' w.heap.size 9 v R.1 ∧ Chg [] w w'
/-- What Format keeps. -/
structure FtI (w w2 wr : World) (i : Inv) (a : Option Addr) (cap : Nat) (v : Value) (L : List (List UInt8)) : Prop where
  iv : wr.heap[w.heap.size]? = some (ivO i a cap)
  out : OutIs wr w2.heap.size w2.heap.size v L
  chg : Chg [] w wr
theorem FtI.next {w w2 wr w' : World} {i : Inv} {a : Option Addr} {cap : Nat} {v : Value} {L : List (List UInt8)} (h : FtI w w2 wr i a cap v L) (hc : Chg [] wr w') : FtI w w2 w' i a cap v L := ⟨hc.at (by simp) h.iv, h.out.kept hc, h.chg.thenSame hc⟩
theorem FtI.low {w w2 wr : World} {i : Inv} {a : Option Addr} {cap : Nat} {v : Value} {L : List (List UInt8)} (h : FtI w w2 wr i a cap v L) : w2.heap.size ≤ wr.heap.size := Nat.le_of_lt (lt_of_heap h.out.2.1)
theorem FtI.add {w w2 wr w' : World} {i : Inv} {a : Option Addr} {cap : Nat} {v v' : Value} {L L' : List (List UInt8)} (h : FtI w w2 wr i a cap v L) (hw : w.heap.size < w2.heap.size) (ho : OutIs w' w2.heap.size w2.heap.size v' L') (hc : Chg (w2.heap.size :: v.ownBlock.toList) wr w') : FtI w w2 w' i a cap v' L' :=
  ⟨hc.at (h.out.low hw) h.iv, ho, h.chg.trans hc (by simp) (fun x hx hlt => by have := (h.out.base x hx).1; omega)⟩
set_option maxHeartbeats 8000000 in
set_option maxRecDepth 100000 in
theorem format54_any (i : Inv) (a : Option Addr) (cap : Nat) (w : World) (h : SlIs lnC 6 w a i.ls.length i.ls) (hg : i.good) (hz : i.ls.length ≤ 2600000000000) (ht : TabW w) : Calls Tryd.prog 20 #[ivV i a cap] w (FmtPost w (fmtZ i)) := by
  obtain ⟨Z, hZ⟩ : ∃ Z, Z = fmtZ i := ⟨_, rfl⟩
  rw [← hZ]
  unfold fmtZ at hZ
  have HZ := Lib.hid hZ
  have H := Lib.hid h
  have HT := Lib.hid ht
  have A := Lib.hid (fun w' (hc : Chg [] w w') => check_any i a cap w' (h.kept hc) hg)
  have HOK := Lib.hid (fun (q : invZ i = 0) => inv_ok q)
  obtain ⟨W1, hW1⟩ : ∃ W1, W1 = w.alloc (ivO i a cap) := ⟨_, rfl⟩
  have I1 := Lib.hid (show CkI w W1 i a cap from hW1 ▸ ⟨heap_alloc_new _ _, (Chg.refl _ _).alloc _⟩)
  have HW1 := Lib.hid hW1
  clear hW1 h hZ ht
  have k1 := blk_cell I1.out.iv
  have lt1 := lt_of_heap I1.out.iv
  unfold ivO at HW1 k1
  unfold ivV at A ⊢
  obtain ⟨E, hE⟩ : ∃ E, E = invZ i := ⟨_, rfl⟩
  rw [← hE] at HZ A HOK
  clear hE
  by_cases he : E = 0
  · subst he
    obtain ⟨h1, ⟨h2, h3⟩, h4, ⟨h5, h6⟩, ⟨h7, h8⟩, ⟨h9, h10⟩, -, -, -⟩ := HOK.out rfl
    have HR := Lib.hid (HZ.out.trans (if_neg (by simp)))
    have HLM := Lib.hid (lines_mi h4)
    have FM := Lib.hid (fun (n : Int) (q0 : 0 ≤ n) (q1 : n ≤ 1000000000000) w' (hc : Chg [] w w') => format_any n (by omega) (by omega) w' (HT.out.kept hc))
    have hnl := name_size h1
    have e1 := itoa_len (n := i.per) h2 (by omega)
    have e2 := itoa_len h5 h6
    have e3 := itoa_len h7 h8
    have e4 := itoa_len h9 h10
    have J1 := Lib.hid (show (joinW (headW i)).length ≤ 1000 by simp [joinW, headW, wInvoice, wPeriod]; omega)
    have J2 := Lib.hid (show (joinW [wGross, Lib.itoa i.gr]).length ≤ 1000 by simp [joinW, wGross]; omega)
    have J3 := Lib.hid (show (joinW [wRefund, Lib.itoa i.re]).length ≤ 1000 by simp [joinW, wRefund]; omega)
    have J4 := Lib.hid (show (joinW [wNet, Lib.itoa i.nt]).length ≤ 1000 by simp [joinW, wNet]; omega)
    have F0 := Lib.hid (show [Value.string ⟨#[105, 110, 118, 111, 105, 99, 101]⟩, .string i.tn, .string ⟨#[112, 101, 114, 105, 111, 100]⟩, .string ⟨(Lib.itoa i.per).toArray⟩] = (headW i).flatMap kc by rw [flat_kc]; simp [headW, enc_bs]; exact ⟨rfl, rfl⟩)
    clear hnl e1 e2 e3 e4 h1 h4
    go_enter Tryd.func20, Tryd.ntmps20
    go_wp2_with fail
    rw [← HW1.out]
    go_wp2_with fail
    refine (A.out _ I1.out.chg).mono ?_; rintro e w2 ⟨rfl, hc2⟩
    have I2 := Lib.hid (I1.out.next hc2)
    have k2 := blk_cell I2.out.iv
    have lt2 := lt_of_heap I2.out.iv
    unfold ivO at k2
    have T2 := Lib.hid (show FtI w w2 (w2.alloc (.cells #[.slice none 0 0] 57)) i a cap (.slice none 0 0) [] from ⟨blk_alloc I2.out.iv, ⟨Nat.le_refl _, heap_alloc_new _ _, RowOf.nil _ _ _⟩, I2.out.chg.alloc _⟩)
    clear hc2 k1
    go_upto_region 6 with fail
    have V0 := Lib.hid (fun w' (hc : Chg [] (w2.alloc (.cells #[.slice none 0 0] 57)) w') => show w'.cell? ⟨w.heap.size, 0, none⟩ = some (.string i.tn) ∧ w'.cell? ⟨w.heap.size, 1, none⟩ = some (.int .i64 i.per) from by have := blk_cell (T2.out.next hc).iv; unfold ivO at this; exact ⟨this 0, this 1⟩)
    clear k2
    go_region_held3 (fun w' => w'.cell? ⟨w.heap.size, 0, none⟩ = some (.string i.tn) ∧ w'.cell? ⟨w.heap.size, 1, none⟩ = some (.int .i64 i.per))
      (first | exact hkp5 | exact V0.out _ (by (repeat (first | exact Chg.refl _ _ | (refine Chg.alloc ?_ _) | (refine Chg.drewN ?_ _) | (refine Chg.drew ?_) | (refine thenH (by assumption) ?_)))))
      (first
        | (go_at_call 42; (with_reducible refine (FM.out i.per h2 (by omega) _ (T2.out.chg.thenSame (by (repeat (first | exact Chg.refl _ _ | (refine Chg.alloc ?_ _) | (refine Chg.drewN ?_ _) | (refine Chg.drew ?_) | (refine thenH (by assumption) ?_)))))).mono ?_); rintro e w3 ⟨rfl, hc⟩; have C3 := Lib.hid hc; clear hc)
        | (go_at_call 41; refine (addw_blk _ _ _ w2.heap.size _ (.slice none 0 0) (headW i) [] _ rfl (heap_alloc_new _ _) F0.out (T2.out.out.kept (by (repeat (first | exact Chg.refl _ _ | (refine Chg.alloc ?_ _) | (refine Chg.drewN ?_ _) | (refine Chg.drew ?_) | (refine thenH (by assumption) ?_))))) J1.out (Nat.le_of_ble_eq_true rfl) (by decide) (T2.out.next (by (repeat (first | exact Chg.refl _ _ | (refine Chg.alloc ?_ _) | (refine Chg.drewN ?_ _) | (refine Chg.drew ?_) | (refine thenH (by assumption) ?_))))).low).mono ?_; rintro e w5 ⟨rfl, ⟨v5, ho5⟩, hc5⟩; have T5 := Lib.hid ((T2.out.next (by (repeat (first | exact Chg.refl _ _ | (refine Chg.alloc ?_ _) | (refine Chg.drewN ?_ _) | (refine Chg.drew ?_) | (refine thenH (by assumption) ?_))))).add lt2 ho5 hc5); have hkp5 : w5.cell? ⟨w.heap.size, 0, none⟩ = some (.string i.tn) ∧ w5.cell? ⟨w.heap.size, 1, none⟩ = some (.int .i64 i.per) := (by have := blk_cell T5.out.iv; unfold ivO at this; exact ⟨this 0, this 1⟩); clear ho5 hc5)
        | fail)
    rw [List.nil_append] at T5
    clear V0 hkp5
    have k5 := blk_cell T5.out.iv
    unfold ivO at k5
    go_wp2_with fail
    clear k5
    go_loopw [26] (fun j wr => ∃ (k : Nat) (v : Value), j = .int .i64 k ∧ k ≤ i.ls.length ∧ Hid (FtI w w2 wr i a cap v (joinW (headW i) :: (i.ls.take k).map (fun x => joinW (lineW x))))) (fun j _ => i.ls.length - (intOf j).toNat)
    case atStart => exact ⟨0, v5, rfl, Nat.zero_le _, T5⟩
    case round =>
      obtain ⟨k, v, rfl, hk, HI⟩ := hrel
      clear T5 T2 C3
      have k3 := blk_cell HI.out.iv
      unfold ivO at k3
      have lt3 := lt_of_heap HI.out.iv
      by_cases hkn : k < i.ls.length
      · obtain ⟨g, o, rfl, -, hbr, hcc⟩ := H.out.elem HI.out.chg k hkn
        have d0 := hcc 0 (by omega)
        have d1 := hcc 1 (by omega)
        have d2 := hcc 2 (by omega)
        have d3 := hcc 3 (by omega)
        have d4 := hcc 4 (by omega)
        have d5 := hcc 5 (by omega)
        obtain ⟨x, hx1⟩ : ∃ x, i.ls[k]? = some x := ⟨i.ls[k], List.getElem?_eq_getElem hkn⟩
        have hxe := (List.getElem?_eq_some_iff.1 hx1).2
        rw [hxe] at d0 d1 d2 d3 d4 d5
        obtain ⟨hx2, hx3, hx4, hx5⟩ := HLM.out x (List.mem_of_getElem? hx1)
        have hu := usB_all2 hx3
        have hnl := name_size hx2
        have e1 := itoa_len (n := x.us.inv) (by omega) (by omega)
        have e2 := itoa_len (n := x.us.units) (by omega) (by omega)
        have e3 := itoa_len hx4 hx5
        have JL := Lib.hid (show (joinW (lineW x)).length ≤ 1000 by simp [joinW, lineW, wInvocations, wUnits, wMicros]; omega)
        have FL := Lib.hid (show [Value.string x.fn, .string ⟨#[105, 110, 118, 111, 99, 97, 116, 105, 111, 110, 115]⟩, .string ⟨(Lib.itoa x.us.inv).toArray⟩, .string ⟨#[117, 110, 105, 116, 115]⟩, .string ⟨(Lib.itoa x.us.units).toArray⟩, .string ⟨#[109, 105, 99, 114, 111, 115]⟩, .string ⟨(Lib.itoa x.mi).toArray⟩] = (lineW x).flatMap kc by rw [flat_kc]; simp [lineW, enc_bs]; exact ⟨rfl, rfl, rfl⟩)
        have HTK := Lib.hid (show (i.ls.take k).map (fun x => joinW (lineW x)) ++ [joinW (lineW x)] = (i.ls.take (k + 1)).map (fun x => joinW (lineW x)) by obtain ⟨hk9, e9⟩ := List.getElem?_eq_some_iff.1 hx1; rw [List.take_succ_eq_append_getElem hk9, e9, List.map_append]; rfl)
        obtain ⟨⟨hu1, hu2⟩, -, -, hu3, hu4⟩ := hu
        obtain ⟨fn, ⟨u1, u2, u3, u4⟩, mi⟩ := x
        simp only [lnC, List.getElem?_cons_zero, List.getElem?_cons_succ, Nat.add_zero] at d0 d1 d2 d3 d4 d5
        simp only at hu1 hu2 hu3 hu4 hx4 hx5 FL
        have hk0 : (0 : Int) ≤ (k : Int) := by omega
        have hk1 : (k : Int) < (i.ls.length : Int) := by omega
        have TX := Lib.hid (HI.out.next ((Chg.refl [] wr).alloc (.cells #[.string fn, .int .i64 u1, .int .i64 u2, .int .i64 u3, .int .i64 u4, .int .i64 mi] 63)))
        have XX := Lib.hid (heap_alloc_new wr (.cells #[.string fn, .int .i64 u1, .int .i64 u2, .int .i64 u3, .int .i64 u4, .int .i64 mi] 63))
        have NX := Lib.hid (HI.out.out.high (x := wr.heap.size) (Nat.le_refl _))
        have VX := Lib.hid (fun w' (hc : Chg [] (wr.alloc (.cells #[.string fn, .int .i64 u1, .int .i64 u2, .int .i64 u3, .int .i64 u4, .int .i64 mi] 63)) w') => show w'.cell? ⟨wr.heap.size, 0, none⟩ = some (.string fn) ∧ w'.cell? ⟨wr.heap.size, 1, none⟩ = some (.int .i64 u1) ∧ w'.cell? ⟨wr.heap.size, 4, none⟩ = some (.int .i64 u4) ∧ w'.cell? ⟨wr.heap.size, 5, none⟩ = some (.int .i64 mi) from by have := blk_cell (hc.at (by simp) XX.out); exact ⟨this 0, this 1, this 4, this 5⟩)
        have HLL := Lib.hid (flk hz (joinW (headW i)) k)
        clear hcc hx1 hxe hx2 hx3 hnl e1 e2 e3
        go_upto_region 10 with fail
        clear k3 d0 d1 d2 d3 d4 d5
        go_region_held3 (fun w' => w'.cell? ⟨wr.heap.size, 0, none⟩ = some (.string fn) ∧ w'.cell? ⟨wr.heap.size, 1, none⟩ = some (.int .i64 u1) ∧ w'.cell? ⟨wr.heap.size, 4, none⟩ = some (.int .i64 u4) ∧ w'.cell? ⟨wr.heap.size, 5, none⟩ = some (.int .i64 mi))
          (first | exact hkpx | exact VX.out _ (by (repeat (first | exact Chg.refl _ _ | (refine Chg.alloc ?_ _) | (refine Chg.drewN ?_ _) | (refine Chg.drew ?_) | (refine thenH (by assumption) ?_)))))
          (first
            | (go_at_call 42; (with_reducible refine (FM.out _ (by assumption) (by assumption) _ (TX.out.chg.thenSame (by (repeat (first | exact Chg.refl _ _ | (refine Chg.alloc ?_ _) | (refine Chg.drewN ?_ _) | (refine Chg.drew ?_) | (refine thenH (by assumption) ?_)))))).mono ?_); rintro e w3 ⟨rfl, hc⟩; have C3 := Lib.hid hc; clear hc)
            | (go_at_call 41; refine (addw_blk _ _ _ w2.heap.size _ v (lineW ⟨fn, ⟨u1, u2, u3, u4⟩, mi⟩) (joinW (headW i) :: (i.ls.take k).map (fun x => joinW (lineW x))) _ rfl (heap_alloc_new _ _) FL.out (TX.out.out.kept (by (repeat (first | exact Chg.refl _ _ | (refine Chg.alloc ?_ _) | (refine Chg.drewN ?_ _) | (refine Chg.drew ?_) | (refine thenH (by assumption) ?_))))) JL.out (Nat.le_of_ble_eq_true rfl) HLL.out (TX.out.next (by (repeat (first | exact Chg.refl _ _ | (refine Chg.alloc ?_ _) | (refine Chg.drewN ?_ _) | (refine Chg.drew ?_) | (refine thenH (by assumption) ?_))))).low).mono ?_; rintro e w7 ⟨rfl, ⟨v7, ho5⟩, hc5⟩; have T7 := Lib.hid ((TX.out.next (by (repeat (first | exact Chg.refl _ _ | (refine Chg.alloc ?_ _) | (refine Chg.drewN ?_ _) | (refine Chg.drew ?_) | (refine thenH (by assumption) ?_))))).add lt2 ho5 hc5); have hkpx : w7.cell? ⟨wr.heap.size, 0, none⟩ = some (.string fn) ∧ w7.cell? ⟨wr.heap.size, 1, none⟩ = some (.int .i64 u1) ∧ w7.cell? ⟨wr.heap.size, 4, none⟩ = some (.int .i64 u4) ∧ w7.cell? ⟨wr.heap.size, 5, none⟩ = some (.int .i64 mi) := (by have := blk_cell (hc5.at NX.out ((show Chg [] (wr.alloc (.cells #[.string fn, .int .i64 u1, .int .i64 u2, .int .i64 u3, .int .i64 u4, .int .i64 mi] 63)) _ from (by (repeat (first | exact Chg.refl _ _ | (refine Chg.alloc ?_ _) | (refine Chg.drewN ?_ _) | (refine Chg.drew ?_) | (refine thenH (by assumption) ?_))))).at (by simp) XX.out)); exact ⟨this 0, this 1, this 4, this 5⟩); clear ho5 hc5)
            | fail)
        rw [List.cons_append, HTK.out] at T7
        clear hkpx VX
        go_wp2_with fail
        exact ⟨⟨k + 1, v7, by go_num, by omega, T7⟩, by simp [intOf]; omega⟩
      · have hke : k = i.ls.length := by omega
        have hkn2 : ¬ (k : Int) < (i.ls.length : Int) := by omega
        rw [hke, List.take_length] at HI
        have HL1 := Lib.hid (fl1 hz (joinW (headW i)))
        have HL2 := Lib.hid (fl2 hz (joinW (headW i)) (joinW [wGross, Lib.itoa i.gr]))
        have HL3 := Lib.hid (fl3 hz (joinW (headW i)) (joinW [wGross, Lib.itoa i.gr]) (joinW [wRefund, Lib.itoa i.re]))
        have F1 := Lib.hid (show [Value.string ⟨#[103, 114, 111, 115, 115]⟩, .string ⟨(Lib.itoa i.gr).toArray⟩] = [wGross, Lib.itoa i.gr].flatMap kc by rw [flat_kc]; rfl)
        have F2 := Lib.hid (show [Value.string ⟨#[114, 101, 102, 117, 110, 100]⟩, .string ⟨(Lib.itoa i.re).toArray⟩] = [wRefund, Lib.itoa i.re].flatMap kc by rw [flat_kc]; rfl)
        have F3 := Lib.hid (show [Value.string ⟨#[110, 101, 116]⟩, .string ⟨(Lib.itoa i.nt).toArray⟩] = [wNet, Lib.itoa i.nt].flatMap kc by rw [flat_kc]; rfl)
        clear hke
        go_wp2_with fail
        clear k3
        refine (FM.out i.gr h5 h6 _ HI.out.chg).mono ?_; rintro e w3 ⟨rfl, hc⟩; have C12 := Lib.hid hc; clear hc
        go_wp2_with fail
        refine (addw_blk _ _ _ w2.heap.size _ v [wGross, Lib.itoa i.gr] (joinW (headW i) :: i.ls.map (fun x => joinW (lineW x))) _ rfl (heap_alloc_new _ _) F1.out (HI.out.out.kept (C12.out.alloc _)) J2.out (Nat.le_of_ble_eq_true rfl) HL1.out (HI.out.next (C12.out.alloc _)).low).mono ?_; rintro e w7 ⟨rfl, ⟨v7, ho5⟩, hc5⟩; have T7 := Lib.hid ((HI.out.next (C12.out.alloc _)).add lt2 ho5 hc5); clear ho5 hc5
        have k7 := blk_cell T7.out.iv
        unfold ivO at k7
        go_wp2_with fail
        clear k7
        refine (FM.out i.re h7 h8 _ T7.out.chg).mono ?_; rintro e w3 ⟨rfl, hc⟩; have C13 := Lib.hid hc; clear hc
        go_wp2_with fail
        refine (addw_blk _ _ _ w2.heap.size _ v7 [wRefund, Lib.itoa i.re] (joinW (headW i) :: i.ls.map (fun x => joinW (lineW x)) ++ [joinW [wGross, Lib.itoa i.gr]]) _ rfl (heap_alloc_new _ _) F2.out (T7.out.out.kept (C13.out.alloc _)) J3.out (Nat.le_of_ble_eq_true rfl) HL2.out (T7.out.next (C13.out.alloc _)).low).mono ?_; rintro e w8 ⟨rfl, ⟨v8, ho5⟩, hc5⟩; have T8 := Lib.hid ((T7.out.next (C13.out.alloc _)).add lt2 ho5 hc5); clear ho5 hc5
        have k8 := blk_cell T8.out.iv
        unfold ivO at k8
        go_wp2_with fail
        clear k8
        refine (FM.out i.nt h9 h10 _ T8.out.chg).mono ?_; rintro e w3 ⟨rfl, hc⟩; have C14 := Lib.hid hc; clear hc
        go_wp2_with fail
        refine (addw_blk _ _ _ w2.heap.size _ v8 [wNet, Lib.itoa i.nt] (joinW (headW i) :: i.ls.map (fun x => joinW (lineW x)) ++ [joinW [wGross, Lib.itoa i.gr]] ++ [joinW [wRefund, Lib.itoa i.re]]) _ rfl (heap_alloc_new _ _) F3.out (T8.out.out.kept (C14.out.alloc _)) J4.out (Nat.le_of_ble_eq_true rfl) HL3.out (T8.out.next (C14.out.alloc _)).low).mono ?_; rintro e w9 ⟨rfl, ⟨v9, ho5⟩, hc5⟩; have T9 := Lib.hid ((T8.out.next (C14.out.alloc _)).add lt2 ho5 hc5); clear ho5 hc5
        have k9 := blk_cell T9.out.out.2.1
        go_wp2_with fail
        go_ret2
        rw [HR.out]
        refine ⟨v9, rfl, ?_, T9.out.chg⟩
        have := T9.out.out.2.2.mono (base' := w.heap.size) (by omega)
        unfold fmtL
        simpa using this
  · have HR := Lib.hid (HZ.out.trans (if_pos he))
    have heb : (E != 0) = true := by rw [bne_iff_ne]; exact he
    go_enter Tryd.func20, Tryd.ntmps20
    go_wp2_with fail
    rw [← HW1.out]
    go_wp2_with fail
    refine (A.out _ I1.out.chg).mono ?_; rintro e w2 ⟨rfl, hc2⟩
    have I2 := Lib.hid (I1.out.next hc2)
    clear hc2 k1
    go_wp2_with fail
    go_ret2
    rw [HR.out]
    exact ⟨_, rfl, RowOf.nil _ _ _, I2.out.chg⟩
end Go.Proofs.YtehjalgogjkdlaaDoor

namespace Go.Proofs.YtehjalgogjkdlaaDoor
set_option linter.unusedVariables false
set_option linter.unusedSimpArgs false
open Go.RowKit
/-- A row in a new block. -/
theorem RowOf.fresh {α : Type} {cf : α → List Value} {sz n : Nat} {w : World} {base g : Nat} {e : TypeId} {cur : Array Value} (l : List α) (hc : ∀ x, (cf x).length = sz) (hn : l.length = n) (hm : n ≤ maxLen) (hb : base ≤ g) (h : w.heap[g]? = some (.cells cur e (0, 0))) (hl : cur.toList = l.flatMap cf) : RowOf cf sz w base e (.slice (some ⟨g, 0, none⟩) n n) l := by
  subst hn
  have hs : cur.size = l.length * sz := by rw [← Array.length_toList, hl, flatMap_len hc]
  exact ⟨by rw [flatMap_len hc], .inr ⟨g, l.length, cur, rfl, hb, h, Nat.le_refl _, hm, hs, by rw [hl]; exact List.take_of_length_le (by rw [flatMap_len hc]; exact Nat.le_refl _)⟩⟩
theorem cat_head (tn : ByteArray) (p : List UInt8) : (⟨#[105, 110, 118, 111, 105, 99, 101, 32]⟩ : ByteArray) ++ tn ++ ⟨#[32, 112, 101, 114, 105, 111, 100, 32]⟩ ++ ⟨p.toArray⟩ = ⟨(joinW [wInvoice, bs tn, wPeriod, p]).toArray⟩ := by
  apply ByteArray.ext
  simp [joinW, wInvoice, wPeriod, bs]
theorem cat_line (fn : ByteArray) (p q r : List UInt8) : fn ++ (⟨#[32, 105, 110, 118, 111, 99, 97, 116, 105, 111, 110, 115, 32]⟩ : ByteArray) ++ ⟨p.toArray⟩ ++ ⟨#[32, 117, 110, 105, 116, 115, 32]⟩ ++ ⟨q.toArray⟩ ++ ⟨#[32, 109, 105, 99, 114, 111, 115, 32]⟩ ++ ⟨r.toArray⟩ = ⟨(joinW [bs fn, wInvocations, p, wUnits, q, wMicros, r]).toArray⟩ := by
  apply ByteArray.ext
  simp [joinW, wInvocations, wUnits, wMicros, bs]
theorem cat_gross (p : List UInt8) : (⟨#[103, 114, 111, 115, 115, 32]⟩ : ByteArray) ++ ⟨p.toArray⟩ = ⟨(joinW [wGross, p]).toArray⟩ := by
  apply ByteArray.ext
  simp [joinW, wGross]
theorem cat_refund (p : List UInt8) : (⟨#[114, 101, 102, 117, 110, 100, 32]⟩ : ByteArray) ++ ⟨p.toArray⟩ = ⟨(joinW [wRefund, p]).toArray⟩ := by
  apply ByteArray.ext
  simp [joinW, wRefund]
theorem cat_net (p : List UInt8) : (⟨#[110, 101, 116, 32]⟩ : ByteArray) ++ ⟨p.toArray⟩ = ⟨(joinW [wNet, p]).toArray⟩ := by
  apply ByteArray.ext
  simp [joinW, wNet]
theorem line_lims {a b c d : Nat} (h1 : a ≤ 24) (h2 : b ≤ 21) (h3 : c ≤ 21) (h4 : d ≤ 21) : ¬ 9223372036854775807 < a + 13 ∧ ¬ 9223372036854775807 < a + 13 + b ∧ ¬ 9223372036854775807 < a + 13 + b + 7 ∧ ¬ 9223372036854775807 < a + 13 + b + 7 + c ∧ ¬ 9223372036854775807 < a + 13 + b + 7 + c + 8 ∧ ¬ 9223372036854775807 < a + 13 + b + 7 + c + 8 + d := by omega
theorem alloc_at5 {w : World} {o : Obj} {b : Nat} (h : b = w.heap.size) : (w.alloc o).heap[b]? = some o := by rw [h]; exact heap_alloc_new _ _
theorem sum_lims {b c d : Nat} (h2 : b ≤ 21) (h3 : c ≤ 21) (h4 : d ≤ 21) : ¬ 9223372036854775807 < 6 + b ∧ ¬ 9223372036854775807 < 7 + c ∧ ¬ 9223372036854775807 < 4 + d := by omega
structure RfI (w w2 wr : World) (i : Inv) (a : Option Addr) (cap : Nat) (v : Value) (L : List (List UInt8)) : Prop where
  iv : wr.heap[w.heap.size]? = some (ivO i a cap)
  row : RowOf kc 1 wr w2.heap.size 9 v L
  chg : Chg [] w wr
  sz : w2.heap.size ≤ wr.heap.size
theorem RfI.next {w w2 wr w' : World} {i : Inv} {a : Option Addr} {cap : Nat} {v : Value} {L : List (List UInt8)} (h : RfI w w2 wr i a cap v L) (hc : Chg [] wr w') : RfI w w2 w' i a cap v L := ⟨hc.at (by simp) h.iv, h.row.kept hc (by simp), h.chg.thenSame hc, Nat.le_trans h.sz hc.size⟩
theorem RfI.add {w w2 wr w' : World} {i : Inv} {a : Option Addr} {cap : Nat} {v v' : Value} {L L' : List (List UInt8)} (h : RfI w w2 wr i a cap v L) (hw : w.heap.size < w2.heap.size) (hr : RowOf kc 1 w' w2.heap.size 9 v' L') (hc : Chg v.ownBlock.toList wr w') : RfI w w2 w' i a cap v' L' := by
  have hb : ∀ x ∈ v.ownBlock.toList, w2.heap.size ≤ x := fun x hx => (RowOf.block h.row x (by simpa using hx)).1
  exact ⟨hc.at (fun q => by have := hb _ q; omega) h.iv, hr, h.chg.trans hc (by simp) (fun x hx hlt => by have := hb _ hx; omega), Nat.le_trans h.sz hc.size⟩
end Go.Proofs.YtehjalgogjkdlaaDoor

namespace Go.Proofs.YtehjalgogjkdlaaDoor
set_option linter.unusedVariables false
set_option linter.unusedSimpArgs false
open Go.RowKit
def bT : ByteArray := ⟨#[116]⟩
def bwR (id fn : UInt8) (n : Int) : UR := ⟨⟨#[id]⟩, ⟨#[116]⟩, ⟨#[fn]⟩, 0, ⟨1, 0, 0, n⟩, false⟩
def bs0 : Led := ⟨[], 0⟩
def bs1 : Led := ⟨[⟨bwR 97 102 3, 0⟩], 0⟩
def bs2 : Led := ⟨[⟨bwR 97 102 3, 0⟩, ⟨bwR 98 103 4, 0⟩], 0⟩
def bp : Prc := ⟨0, 0, 100, [⟨0, 10⟩]⟩
def biv : Inv := ⟨⟨#[116]⟩, 0, [⟨⟨#[102]⟩, ⟨1, 0, 0, 3⟩, 116⟩, ⟨⟨#[103]⟩, ⟨1, 0, 0, 4⟩, 154⟩], 270, 0, 270⟩
def biw : Inv := ⟨⟨#[116]⟩, 0, [⟨⟨#[102]⟩, ⟨1, 0, 0, 3⟩, 116⟩, ⟨⟨#[103]⟩, ⟨1, 0, 0, 4⟩, 154⟩], 270, 135, 135⟩
def bix : Inv := ⟨⟨#[116]⟩, 0, [⟨⟨#[102]⟩, ⟨1, 0, 0, 3⟩, 116⟩, ⟨⟨#[103]⟩, ⟨1, 0, 0, 4⟩, 154⟩], 270, 135, 1⟩
theorem bwE1 : recE bs0 (bwR 97 102 3) = 0 := by kernel_rfl
theorem bwE2 : recE bs1 (bwR 98 103 4) = 0 := by kernel_rfl
theorem bwS1 : recS bs0 (bwR 97 102 3) = bs1 := by kernel_rfl
theorem bwS2 : recS bs1 (bwR 98 103 4) = bs2 := by kernel_rfl
theorem bwG1 : (bwR 97 102 3).good := ⟨by decide, by decide, by decide, by decide, by decide, by decide, by decide, by decide⟩
theorem bwG2 : (bwR 98 103 4).good := ⟨by decide, by decide, by decide, by decide, by decide, by decide, by decide, by decide⟩
theorem bwT : totU bs2 ⟨#[116]⟩ 0 = (⟨2, 0, 0, 7⟩, 0) := by kernel_rfl
theorem bwF0 : fnL ⟨#[116]⟩ 0 bs2.l = [[102], [103]] := by kernel_rfl
theorem bwF : fnsU bs2 ⟨#[116]⟩ 0 = [[102], [103]] := by
  unfold fnsU
  rw [bwF0, List.mergeSort_of_pairwise (by decide)]
  kernel_rfl
theorem bwB1 : byU bs2 ⟨#[116]⟩ (fB [102]) 0 = (⟨1, 0, 0, 3⟩, zU, 0) := by kernel_rfl
theorem bwB2 : byU bs2 ⟨#[116]⟩ (fB [103]) 0 = (⟨1, 0, 0, 4⟩, zU, 0) := by kernel_rfl
theorem bwA : mkG bs2 bp ⟨#[116]⟩ 0 = (270, 0) := by unfold mkG; rw [bwT]; kernel_rfl
theorem bwW : mkW bs2 ⟨#[116]⟩ 0 = [3, 4] := by
  unfold mkW; rw [bwF]; simp only [List.map_cons, List.map_nil]; rw [bwB1, bwB2]
theorem bwL : mkLs bs2 ⟨#[116]⟩ 0 = [⟨⟨#[102]⟩, ⟨1, 0, 0, 3⟩, 0⟩, ⟨⟨#[103]⟩, ⟨1, 0, 0, 4⟩, 0⟩] := by
  unfold mkLs ln0; rw [bwF]; simp only [List.map_cons, List.map_nil]; rw [bwB1, bwB2]; rfl
theorem bwX : errs ((fnsU bs2 ⟨#[116]⟩ 0).map (mkErr bs2 ⟨#[116]⟩ 0)) = 0 := by
  unfold mkErr; rw [bwF]; simp only [List.map_cons, List.map_nil]; rw [bwB1, bwB2]; rfl
theorem bwM : makeZ bs2 bp ⟨#[116]⟩ 0 [0, 1] = (biv, 0) := by
  rw [make_ok (by rw [bwT]) (by rw [bwA]) bwX (by rw [bwA, bwW]; kernel_rfl), bwA, bwW, bwL]
  kernel_rfl
theorem bwRf : refZ biv 500 = (biw, 0) := by kernel_rfl
theorem bwI1 : invZ biv = 0 := by kernel_rfl
theorem bwI2 : invZ biw = 0 := by kernel_rfl
theorem bwI3 : invZ bix = 10 := by kernel_rfl
theorem bwTo : totZ [biv, biw] = (405, 0) := by kernel_rfl
theorem dig2 {n : Nat} (h : ¬ n < 10) : Lib.decDigits n = Lib.decDigits (n / 10) ++ [UInt8.ofNat (48 + n % 10)] := by rw [Lib.decDigits, dif_neg h]
theorem it0 : Lib.itoa 0 = [48] := by rw [show (0 : Int) = ((0 : Nat) : Int) from rfl, Lib.itoa_nonneg, Lib.decDigits_one (by decide)]; rfl
theorem it1 : Lib.itoa 1 = [49] := by rw [show (1 : Int) = ((1 : Nat) : Int) from rfl, Lib.itoa_nonneg, Lib.decDigits_one (by decide)]; rfl
theorem it3 : Lib.itoa 3 = [51] := by rw [show (3 : Int) = ((3 : Nat) : Int) from rfl, Lib.itoa_nonneg, Lib.decDigits_one (by decide)]; rfl
theorem it4 : Lib.itoa 4 = [52] := by rw [show (4 : Int) = ((4 : Nat) : Int) from rfl, Lib.itoa_nonneg, Lib.decDigits_one (by decide)]; rfl
theorem it116 : Lib.itoa 116 = [49, 49, 54] := by rw [show (116 : Int) = ((116 : Nat) : Int) from rfl, Lib.itoa_nonneg, dig2 (by decide), Lib.decDigits_two (by decide) (by decide)]; rfl
theorem it154 : Lib.itoa 154 = [49, 53, 52] := by rw [show (154 : Int) = ((154 : Nat) : Int) from rfl, Lib.itoa_nonneg, dig2 (by decide), Lib.decDigits_two (by decide) (by decide)]; rfl
theorem it270 : Lib.itoa 270 = [50, 55, 48] := by rw [show (270 : Int) = ((270 : Nat) : Int) from rfl, Lib.itoa_nonneg, dig2 (by decide), Lib.decDigits_two (by decide) (by decide)]; rfl
theorem it135 : Lib.itoa 135 = [49, 51, 53] := by rw [show (135 : Int) = ((135 : Nat) : Int) from rfl, Lib.itoa_nonneg, dig2 (by decide), Lib.decDigits_two (by decide) (by decide)]; rfl
def bFm : List (List UInt8) := [[105, 110, 118, 111, 105, 99, 101, 32, 116, 32, 112, 101, 114, 105, 111, 100, 32, 48],
  [102, 32, 105, 110, 118, 111, 99, 97, 116, 105, 111, 110, 115, 32, 49, 32, 117, 110, 105, 116, 115, 32, 51, 32, 109, 105, 99, 114, 111, 115, 32, 49, 49, 54],
  [103, 32, 105, 110, 118, 111, 99, 97, 116, 105, 111, 110, 115, 32, 49, 32, 117, 110, 105, 116, 115, 32, 52, 32, 109, 105, 99, 114, 111, 115, 32, 49, 53, 52],
  [103, 114, 111, 115, 115, 32, 50, 55, 48], [114, 101, 102, 117, 110, 100, 32, 49, 51, 53], [110, 101, 116, 32, 49, 51, 53]]
theorem bwFm : fmtZ biw = (bFm, 0) := by
  unfold fmtZ
  rw [if_neg (by rw [bwI2]; simp)]
  unfold fmtL headW lineW biw
  simp only [List.map_cons, List.map_nil, it0, it1, it3, it4, it116, it154, it270, it135]
  rfl
theorem ord_of {R O O' : List Int} (h : IsOrd R O) (k : IsOrd R O') : O = O' := h.unique k
instance (K : Int → Int) (x y : Int) : Decidable (Prec K x y) := inferInstanceAs (Decidable (K y < K x ∨ (K y = K x ∧ x < y)))
theorem bo1 : IsOrd (shR 10 [1, 1, 1]) [0, 1, 2] := ⟨by unfold Srt; decide, by decide⟩
theorem bo2 : IsOrd (shR 7 [0, 0]) [0, 1] := ⟨by unfold Srt; decide, by decide⟩
theorem bo3 : IsOrd (shR 5 [3, 0, 1]) [0, 2, 1] := ⟨by unfold Srt; decide, by decide⟩
theorem bo4 : IsOrd (shR 270 [3, 4]) [0, 1] := ⟨by unfold Srt; decide, by decide⟩
theorem bh1 : shares 10 [1, 1, 1] [0, 1, 2] = [4, 3, 3] := by kernel_rfl
theorem bh2 : shares 7 [0, 0] [0, 1] = [4, 3] := by kernel_rfl
theorem bh3 : shares 5 [3, 0, 1] [0, 2, 1] = [4, 0, 1] := by kernel_rfl
end Go.Proofs.YtehjalgogjkdlaaDoor
