/- Chapter 48: contract: Do where it has a step (3, 4). Condition: the table of Itoa lies as the program lays it. -/
import Derived.Test.YtnhemokmgpelaaaGreatDoorEntD
namespace Go.Proofs.YtnhemokmgpelaaaGreatDoor
set_option linter.unusedVariables false
set_option linter.unusedSimpArgs false
open Go.RowKit
set_option maxHeartbeats 4000000 in
set_option maxRecDepth 100000 in
theorem do_ok3 (sa : Option Addr) (sc : Nat) (st : List Ce) (o : EOp) (r : List Ce × Int × List Ce) (w : World) (h : InIs ceC 4 w sa sc st) (hg : goodL st) (ha : ArgsIn w o.aa o.ac o.args) (hog : o.good) (ht : TabW w) (h1 : chkZ o.p = 0) (h2 : checkZ st = 0) (hl : st.length ≤ 1048576)
    (hf : lookL Prod.fst stL o.op = some (o.op, 68))
    (F : ∀ w' (_ : Chg [] w w') a c, InIs ceC 4 w' a c st → Calls Tryz.prog 68 #[.slice a st.length c, .slice o.aa o.args.length o.ac] w' (StepP w' a r)) :
    Calls Tryz.prog 25 #[.slice sa st.length sc, .agg (eoC o).toArray] w (DoP w (0, r)) := by
  have A := Lib.hid (fun w' (hc : Chg [] w w') => echk_any o w' (ha.kept hc) hog (ht.kept hc))
  have A2 := Lib.hid (fun w' (hc : Chg [] w w') => vcheck_any sa sc st w' (h.1.kept hc) hg.1 hg.2 (ht.kept hc))
  have H := Lib.hid h
  have HF := Lib.hid hf
  have F := Lib.hid F
  have HL := Lib.hid hl
  rename_i F0
  rw [h1] at A
  rw [h2] at A2
  obtain ⟨ent, id, op, aa, ac, args⟩ := o
  simp only [eoC]
  simp only at F HF
  clear ha hog ht hg h1 h h2 F0 hf hl
  have C1 := Lib.hid (((Chg.refl [] w).alloc (eoO ⟨ent, id, op, aa, ac, args⟩)).alloc (.cells #[.int .i64 0, .slice none 0 0] 38))
  have B1 := Lib.hid (blk_alloc (o' := .cells #[.int .i64 0, .slice none 0 0] 38) (heap_alloc_new w (eoO ⟨ent, id, op, aa, ac, args⟩)))
  have B5 := Lib.hid (heap_alloc_new (w.alloc (eoO ⟨ent, id, op, aa, ac, args⟩)) (.cells #[.int .i64 0, .slice none 0 0] 38))
  rw [World.size_alloc] at B5
  obtain ⟨W1, hW1⟩ : ∃ W1, W1 = (w.alloc (eoO ⟨ent, id, op, aa, ac, args⟩)).alloc (.cells #[.int .i64 0, .slice none 0 0] 38) := ⟨_, rfl⟩
  have hs : W1.heap.size = w.heap.size + 2 := by rw [hW1, World.size_alloc, World.size_alloc]
  rw [← hW1] at C1 B1 B5
  unfold eoO at hW1 B1
  have k := blk_cell B1.out
  have HS := Lib.hid hs
  have HW1 := Lib.hid hW1
  clear hW1 hs
  go_enter Tryz.func25, Tryz.ntmps25
  go_upto_region 1 with fail
  rw [← HW1.out]
  go_wp2_with fail
  refine (A.out _ C1.out).mono ?_; rintro e w2 ⟨rfl, hc⟩
  have C2 := Lib.hid (C1.out.thenSame hc)
  have E1 := Lib.hid (hc.at (by simp) B1.out)
  have E5 := Lib.hid (hc.at (by simp) B5.out)
  clear hc k
  go_wp2_with fail
  refine (A2.out _ C2.out).mono ?_; rintro e w3 ⟨rfl, hc⟩
  have CC0 := Lib.hid (C2.out.thenSame hc)
  have PP0 := Lib.hid (hc.at (by simp) E1.out)
  have QQ0 := Lib.hid (hc.at (by simp) E5.out)
  have C3 := Lib.hid ((C2.out.thenSame hc).drew)
  have F1 := Lib.hid (((Chg.refl [] w3).drew).at (by simp) (hc.at (by simp) E1.out))
  have F5 := Lib.hid (((Chg.refl [] w3).drew).at (by simp) (hc.at (by simp) E5.out))
  clear hc
  have PP := F1
  have QQ := F5
  have CC := C3
  have CL := Lib.hid (fun w' (hc : Chg [] w w') => clonec_in sa sc st w' (H.out.kept hc) (Nat.le_trans HL.out (by decide)))
  go_upto_region 7 with fail
  go_cut [9, 10] (fun x9 x10 wx => Hid (D7 w r (w.heap.size + 1) x9 x10 wx))
  case first =>
    go_region_held3 (fun w' => w'.cell? ⟨w.heap.size, 2, none⟩ = some (.string op) ∧ w'.cell? ⟨w.heap.size, 3, none⟩ = some (.slice aa args.length ac))
      (with_reducible first | exact two_cells PP.out | exact two_cells (blk_alloc PP.out) | exact two_cells (((Chg.refl [] _).drew).at (by simp) (blk_alloc PP0.out)) | exact two_far PP.out TT.out | exact two_far (blk_alloc PP.out) (heap_alloc_new _ _))
      (first
        | (go_at_call 48; (with_reducible refine Calls.mono (steps_any _) ?_); rintro e w4 ⟨rfl, hm, hc⟩; have TT := Lib.hid (hc.at (by simp) TT.out); have CC := Lib.hid (CC.out.thenSame hc); have PP := Lib.hid (hc.at (by simp) PP.out); have QQ := Lib.hid (hc.at (by simp) QQ.out); have k10 := blk_cell TT.out; have f10 := blk_free TT.out; have MM := Lib.hid hm; have l1 := lk_of MM.out HF.out; have l2 := lk_of (MM.out.al (.cells #[.int .i64 0, .slice none 0 0] 38)) HF.out; (try simp only [World.size_alloc, size_drew] at l1 l2); clear hm hc)
        | (go_at_call 48; (with_reducible refine Calls.mono (steps_any _) ?_); rintro e w4 ⟨rfl, hm, hc⟩; have CC := Lib.hid (CC.out.thenSame hc); have PP := Lib.hid (hc.at (by simp) PP.out); have QQ := Lib.hid (hc.at (by simp) QQ.out); have MM := Lib.hid hm; have l1 := lk_of MM.out HF.out; have l2 := lk_of (MM.out.al (.cells #[.int .i64 0, .slice none 0 0] 38)) HF.out; (try simp only [World.size_alloc, size_drew] at l1 l2); clear hm hc)
        | (go_at_call 48; (with_reducible refine Calls.mono (steps_any _) ?_); rintro e w4 ⟨rfl, hm, hc⟩; have LT := Lib.hid (lt_of_heap QQ.out); have TT := Lib.hid (hc.at (by simp) (heap_alloc_new _ (.cells #[.int .i64 0, .slice none 0 0] 38))); have CC := Lib.hid ((CC.out.alloc _).thenSame hc); have PP := Lib.hid (hc.at (by simp) (blk_alloc PP.out)); have QQ := Lib.hid (hc.at (by simp) (blk_alloc QQ.out)); have k10 := blk_cell TT.out; have f10 := blk_free TT.out; have MM := Lib.hid hm; have l1 := lk_of MM.out HF.out; have l2 := lk_of (MM.out.al (.cells #[.int .i64 0, .slice none 0 0] 38)) HF.out; (try simp only [World.size_alloc, size_drew] at l1 l2); clear hm hc)
        | (go_at_call 48; (with_reducible refine Calls.mono (steps_any _) ?_); rintro e w4 ⟨rfl, hm, hc⟩; have LT := Lib.hid (lt_of_heap QQ0.out); have TT := Lib.hid (hc.at (by simp) (((Chg.refl [] _).drew).at (by simp) (heap_alloc_new w3 (.cells #[.int .i64 0, .slice none 0 0] 38)))); have CC := Lib.hid (((CC0.out.alloc _).drew).thenSame hc); have PP := Lib.hid (hc.at (by simp) (((Chg.refl [] _).drew).at (by simp) (blk_alloc PP0.out))); have QQ := Lib.hid (hc.at (by simp) (((Chg.refl [] _).drew).at (by simp) (blk_alloc QQ0.out))); have k10 := blk_cell TT.out; have f10 := blk_free TT.out; have MM := Lib.hid hm; have l1 := lk_of MM.out HF.out; have l2 := lk_of (MM.out.al (.cells #[.int .i64 0, .slice none 0 0] 38)) HF.out; (try simp only [World.size_alloc, size_drew] at l1 l2); clear hm hc)
        | (go_at_call 46; (with_reducible refine Calls.mono (CL.out _ CC.out) ?_); rintro e w5 ⟨ca, cc, rfl, hi, hb, hc⟩; have HCB := Lib.hid (fun x hx => Nat.le_trans CC.out.size (hb x hx)); have TT := Lib.hid (hc.at (by simp) TT.out); have CC := Lib.hid (CC.out.thenSame hc); have PP := Lib.hid (hc.at (by simp) PP.out); have QQ := Lib.hid (hc.at (by simp) QQ.out); have k10 := blk_cell TT.out; have f10 := blk_free TT.out; have MM := Lib.hid (MM.out.kept hc (by simp)); have l1 := lk_of MM.out HF.out; have l2 := lk_of (MM.out.al (.cells #[.int .i64 0, .slice none 0 0] 38)) HF.out; (try simp only [World.size_alloc, size_drew] at l1 l2); have II := Lib.hid hi; clear hi hb hc)
        | (go_at_call 46; (with_reducible refine Calls.mono (CL.out _ CC.out) ?_); rintro e w5 ⟨ca, cc, rfl, hi, hb, hc⟩; have HCB := Lib.hid (fun x hx => Nat.le_trans CC.out.size (hb x hx)); have CC := Lib.hid (CC.out.thenSame hc); have PP := Lib.hid (hc.at (by simp) PP.out); have QQ := Lib.hid (hc.at (by simp) QQ.out); have MM := Lib.hid (MM.out.kept hc (by simp)); have l1 := lk_of MM.out HF.out; have l2 := lk_of (MM.out.al (.cells #[.int .i64 0, .slice none 0 0] 38)) HF.out; (try simp only [World.size_alloc, size_drew] at l1 l2); have II := Lib.hid hi; clear hi hb hc)
        | (go_at_call 46; (with_reducible refine Calls.mono (CL.out _ (CC.out.alloc _)) ?_); rintro e w5 ⟨ca, cc, rfl, hi, hb, hc⟩; have HCB := Lib.hid (fun x hx => Nat.le_trans (CC.out.alloc (.cells #[.int .i64 0, .slice none 0 0] 38)).size (hb x hx)); have LT := Lib.hid (lt_of_heap QQ.out); have TT := Lib.hid (hc.at (by simp) (heap_alloc_new _ (.cells #[.int .i64 0, .slice none 0 0] 38))); have CC := Lib.hid ((CC.out.alloc _).thenSame hc); have PP := Lib.hid (hc.at (by simp) (blk_alloc PP.out)); have QQ := Lib.hid (hc.at (by simp) (blk_alloc QQ.out)); have k10 := blk_cell TT.out; have f10 := blk_free TT.out; have MM := Lib.hid ((MM.out.al _).kept hc (by simp)); have l1 := lk_of MM.out HF.out; have l2 := lk_of (MM.out.al (.cells #[.int .i64 0, .slice none 0 0] 38)) HF.out; (try simp only [World.size_alloc, size_drew] at l1 l2); have II := Lib.hid hi; clear hi hb hc)
        | ((with_reducible refine Calls.mono (F.out _ CC.out _ _ II.out) ?_); rintro e w6 ⟨na, nc, va, vc, rfl, hn, hv, hfr, hc⟩; have HFR := Lib.hid (fun x (hx : na = some x ∨ va = some x) => hx.elim (fun hx => ((hfr x).1 hx).elim (fun e => HCB.out x e) (fun e => Nat.le_trans CC.out.size e)) (fun hx => Nat.le_trans CC.out.size ((hfr x).2 hx))); have TT := Lib.hid (hc.at (by simp) TT.out); have CC := Lib.hid (CC.out.thenSame hc); have PP := Lib.hid (hc.at (by simp) PP.out); have QQ := Lib.hid (hc.at (by simp) QQ.out); have k10 := blk_cell TT.out; have f10 := blk_free TT.out; have HN := Lib.hid hn; have HV := Lib.hid hv; clear hn hv hfr hc)
        | ((with_reducible refine Calls.mono (F.out _ CC.out _ _ II.out) ?_); rintro e w6 ⟨na, nc, va, vc, rfl, hn, hv, hfr, hc⟩; have HFR := Lib.hid (fun x (hx : na = some x ∨ va = some x) => hx.elim (fun hx => ((hfr x).1 hx).elim (fun e => HCB.out x e) (fun e => Nat.le_trans CC.out.size e)) (fun hx => Nat.le_trans CC.out.size ((hfr x).2 hx))); have CC := Lib.hid (CC.out.thenSame hc); have PP := Lib.hid (hc.at (by simp) PP.out); have QQ := Lib.hid (hc.at (by simp) QQ.out); have HN := Lib.hid hn; have HV := Lib.hid hv; clear hn hv hfr hc)
        | ((with_reducible refine Calls.mono (F.out _ (CC.out.alloc _) _ _ (II.out.kept ((Chg.refl [] _).alloc _))) ?_); rintro e w6 ⟨na, nc, va, vc, rfl, hn, hv, hfr, hc⟩; have HFR := Lib.hid (fun x (hx : na = some x ∨ va = some x) => hx.elim (fun hx => ((hfr x).1 hx).elim (fun e => HCB.out x e) (fun e => Nat.le_trans (CC.out.alloc (.cells #[.int .i64 0, .slice none 0 0] 38)).size e)) (fun hx => Nat.le_trans (CC.out.alloc (.cells #[.int .i64 0, .slice none 0 0] 38)).size ((hfr x).2 hx))); have LT := Lib.hid (lt_of_heap QQ.out); have TT := Lib.hid (hc.at (by simp) (heap_alloc_new _ (.cells #[.int .i64 0, .slice none 0 0] 38))); have CC := Lib.hid ((CC.out.alloc _).thenSame hc); have PP := Lib.hid (hc.at (by simp) (blk_alloc PP.out)); have QQ := Lib.hid (hc.at (by simp) (blk_alloc QQ.out)); have k10 := blk_cell TT.out; have f10 := blk_free TT.out; have HN := Lib.hid hn; have HV := Lib.hid hv; clear hn hv hfr hc))
    all_goals go_wp2_with fail
    all_goals go_meet
    all_goals first
      | (with_reducible exact Lib.hid (d7_a QQ.out CC.out HN.out HV.out HFR.out))
      | (with_reducible exact Lib.hid (d7_b QQ.out CC.out HN.out HV.out HFR.out))
      | (have hlb := LT.out; (try simp only [size_drew] at hlb); have hlc := Nat.le_of_succ_le (Nat.le_of_lt hlb); with_reducible exact Lib.hid (d7_c TT.out QQ.out hlb hlc CC.out HN.out HV.out HFR.out))
  case rest =>
    obtain ⟨na, nc, va, vc, b10, rfl, rfl, h10, hne, h5, hn, hv, hfr, hcc⟩ := hcut.out
    have K10 := Lib.hid h10
    have K5 := Lib.hid h5
    have HN := Lib.hid hn
    have HV := Lib.hid hv
    have HC := Lib.hid hcc
    have HFR := Lib.hid hfr
    have k10 := blk_cell h10
    have k5 := blk_cell h5
    have f5 := blk_free h5
    clear hcut h10 h5 hn hv hfr hcc
    go_upto_region 8 with fail
    go_region_law (fail)
    all_goals go_wp2_with fail
    all_goals
      have r1 := blk_cell (ans_two K5.out r.2.1 va r.2.2.length vc).1
      unfold ansW at r1
      refine bodyPost_ret (v := .tuple #[.slice na r.1.length nc, .agg #[.int .i64 r.2.1, .slice va r.2.2.length vc], .int .i64 0]) (by simp [results, Tryz.results25, go_sem, r1]) rfl ?_
      exact (doP_end (r := (0, r)) HFR.out K5.out (by omega) HC.out (fun h2 => HN.out.keptAns K5.out h2) (fun h2 => HV.out.keptAns K5.out h2)).drew
set_option maxHeartbeats 4000000 in
set_option maxRecDepth 100000 in
theorem do_ok4 (sa : Option Addr) (sc : Nat) (st : List Ce) (o : EOp) (r : List Ce × Int × List Ce) (w : World) (h : InIs ceC 4 w sa sc st) (hg : goodL st) (ha : ArgsIn w o.aa o.ac o.args) (hog : o.good) (ht : TabW w) (h1 : chkZ o.p = 0) (h2 : checkZ st = 0) (hl : st.length ≤ 1048576)
    (hf : lookL Prod.fst stL o.op = some (o.op, 69))
    (F : ∀ w' (_ : Chg [] w w') a c, InIs ceC 4 w' a c st → Calls Tryz.prog 69 #[.slice a st.length c, .slice o.aa o.args.length o.ac] w' (StepP w' a r)) :
    Calls Tryz.prog 25 #[.slice sa st.length sc, .agg (eoC o).toArray] w (DoP w (0, r)) := by
  have A := Lib.hid (fun w' (hc : Chg [] w w') => echk_any o w' (ha.kept hc) hog (ht.kept hc))
  have A2 := Lib.hid (fun w' (hc : Chg [] w w') => vcheck_any sa sc st w' (h.1.kept hc) hg.1 hg.2 (ht.kept hc))
  have H := Lib.hid h
  have HF := Lib.hid hf
  have F := Lib.hid F
  have HL := Lib.hid hl
  rename_i F0
  rw [h1] at A
  rw [h2] at A2
  obtain ⟨ent, id, op, aa, ac, args⟩ := o
  simp only [eoC]
  simp only at F HF
  clear ha hog ht hg h1 h h2 F0 hf hl
  have C1 := Lib.hid (((Chg.refl [] w).alloc (eoO ⟨ent, id, op, aa, ac, args⟩)).alloc (.cells #[.int .i64 0, .slice none 0 0] 38))
  have B1 := Lib.hid (blk_alloc (o' := .cells #[.int .i64 0, .slice none 0 0] 38) (heap_alloc_new w (eoO ⟨ent, id, op, aa, ac, args⟩)))
  have B5 := Lib.hid (heap_alloc_new (w.alloc (eoO ⟨ent, id, op, aa, ac, args⟩)) (.cells #[.int .i64 0, .slice none 0 0] 38))
  rw [World.size_alloc] at B5
  obtain ⟨W1, hW1⟩ : ∃ W1, W1 = (w.alloc (eoO ⟨ent, id, op, aa, ac, args⟩)).alloc (.cells #[.int .i64 0, .slice none 0 0] 38) := ⟨_, rfl⟩
  have hs : W1.heap.size = w.heap.size + 2 := by rw [hW1, World.size_alloc, World.size_alloc]
  rw [← hW1] at C1 B1 B5
  unfold eoO at hW1 B1
  have k := blk_cell B1.out
  have HS := Lib.hid hs
  have HW1 := Lib.hid hW1
  clear hW1 hs
  go_enter Tryz.func25, Tryz.ntmps25
  go_upto_region 1 with fail
  rw [← HW1.out]
  go_wp2_with fail
  refine (A.out _ C1.out).mono ?_; rintro e w2 ⟨rfl, hc⟩
  have C2 := Lib.hid (C1.out.thenSame hc)
  have E1 := Lib.hid (hc.at (by simp) B1.out)
  have E5 := Lib.hid (hc.at (by simp) B5.out)
  clear hc k
  go_wp2_with fail
  refine (A2.out _ C2.out).mono ?_; rintro e w3 ⟨rfl, hc⟩
  have CC0 := Lib.hid (C2.out.thenSame hc)
  have PP0 := Lib.hid (hc.at (by simp) E1.out)
  have QQ0 := Lib.hid (hc.at (by simp) E5.out)
  have C3 := Lib.hid ((C2.out.thenSame hc).drew)
  have F1 := Lib.hid (((Chg.refl [] w3).drew).at (by simp) (hc.at (by simp) E1.out))
  have F5 := Lib.hid (((Chg.refl [] w3).drew).at (by simp) (hc.at (by simp) E5.out))
  clear hc
  have PP := F1
  have QQ := F5
  have CC := C3
  have CL := Lib.hid (fun w' (hc : Chg [] w w') => clonec_in sa sc st w' (H.out.kept hc) (Nat.le_trans HL.out (by decide)))
  go_upto_region 7 with fail
  go_cut [9, 10] (fun x9 x10 wx => Hid (D7 w r (w.heap.size + 1) x9 x10 wx))
  case first =>
    go_region_held3 (fun w' => w'.cell? ⟨w.heap.size, 2, none⟩ = some (.string op) ∧ w'.cell? ⟨w.heap.size, 3, none⟩ = some (.slice aa args.length ac))
      (with_reducible first | exact two_cells PP.out | exact two_cells (blk_alloc PP.out) | exact two_cells (((Chg.refl [] _).drew).at (by simp) (blk_alloc PP0.out)) | exact two_far PP.out TT.out | exact two_far (blk_alloc PP.out) (heap_alloc_new _ _))
      (first
        | (go_at_call 48; (with_reducible refine Calls.mono (steps_any _) ?_); rintro e w4 ⟨rfl, hm, hc⟩; have TT := Lib.hid (hc.at (by simp) TT.out); have CC := Lib.hid (CC.out.thenSame hc); have PP := Lib.hid (hc.at (by simp) PP.out); have QQ := Lib.hid (hc.at (by simp) QQ.out); have k10 := blk_cell TT.out; have f10 := blk_free TT.out; have MM := Lib.hid hm; have l1 := lk_of MM.out HF.out; have l2 := lk_of (MM.out.al (.cells #[.int .i64 0, .slice none 0 0] 38)) HF.out; (try simp only [World.size_alloc, size_drew] at l1 l2); clear hm hc)
        | (go_at_call 48; (with_reducible refine Calls.mono (steps_any _) ?_); rintro e w4 ⟨rfl, hm, hc⟩; have CC := Lib.hid (CC.out.thenSame hc); have PP := Lib.hid (hc.at (by simp) PP.out); have QQ := Lib.hid (hc.at (by simp) QQ.out); have MM := Lib.hid hm; have l1 := lk_of MM.out HF.out; have l2 := lk_of (MM.out.al (.cells #[.int .i64 0, .slice none 0 0] 38)) HF.out; (try simp only [World.size_alloc, size_drew] at l1 l2); clear hm hc)
        | (go_at_call 48; (with_reducible refine Calls.mono (steps_any _) ?_); rintro e w4 ⟨rfl, hm, hc⟩; have LT := Lib.hid (lt_of_heap QQ.out); have TT := Lib.hid (hc.at (by simp) (heap_alloc_new _ (.cells #[.int .i64 0, .slice none 0 0] 38))); have CC := Lib.hid ((CC.out.alloc _).thenSame hc); have PP := Lib.hid (hc.at (by simp) (blk_alloc PP.out)); have QQ := Lib.hid (hc.at (by simp) (blk_alloc QQ.out)); have k10 := blk_cell TT.out; have f10 := blk_free TT.out; have MM := Lib.hid hm; have l1 := lk_of MM.out HF.out; have l2 := lk_of (MM.out.al (.cells #[.int .i64 0, .slice none 0 0] 38)) HF.out; (try simp only [World.size_alloc, size_drew] at l1 l2); clear hm hc)
        | (go_at_call 48; (with_reducible refine Calls.mono (steps_any _) ?_); rintro e w4 ⟨rfl, hm, hc⟩; have LT := Lib.hid (lt_of_heap QQ0.out); have TT := Lib.hid (hc.at (by simp) (((Chg.refl [] _).drew).at (by simp) (heap_alloc_new w3 (.cells #[.int .i64 0, .slice none 0 0] 38)))); have CC := Lib.hid (((CC0.out.alloc _).drew).thenSame hc); have PP := Lib.hid (hc.at (by simp) (((Chg.refl [] _).drew).at (by simp) (blk_alloc PP0.out))); have QQ := Lib.hid (hc.at (by simp) (((Chg.refl [] _).drew).at (by simp) (blk_alloc QQ0.out))); have k10 := blk_cell TT.out; have f10 := blk_free TT.out; have MM := Lib.hid hm; have l1 := lk_of MM.out HF.out; have l2 := lk_of (MM.out.al (.cells #[.int .i64 0, .slice none 0 0] 38)) HF.out; (try simp only [World.size_alloc, size_drew] at l1 l2); clear hm hc)
        | (go_at_call 46; (with_reducible refine Calls.mono (CL.out _ CC.out) ?_); rintro e w5 ⟨ca, cc, rfl, hi, hb, hc⟩; have HCB := Lib.hid (fun x hx => Nat.le_trans CC.out.size (hb x hx)); have TT := Lib.hid (hc.at (by simp) TT.out); have CC := Lib.hid (CC.out.thenSame hc); have PP := Lib.hid (hc.at (by simp) PP.out); have QQ := Lib.hid (hc.at (by simp) QQ.out); have k10 := blk_cell TT.out; have f10 := blk_free TT.out; have MM := Lib.hid (MM.out.kept hc (by simp)); have l1 := lk_of MM.out HF.out; have l2 := lk_of (MM.out.al (.cells #[.int .i64 0, .slice none 0 0] 38)) HF.out; (try simp only [World.size_alloc, size_drew] at l1 l2); have II := Lib.hid hi; clear hi hb hc)
        | (go_at_call 46; (with_reducible refine Calls.mono (CL.out _ CC.out) ?_); rintro e w5 ⟨ca, cc, rfl, hi, hb, hc⟩; have HCB := Lib.hid (fun x hx => Nat.le_trans CC.out.size (hb x hx)); have CC := Lib.hid (CC.out.thenSame hc); have PP := Lib.hid (hc.at (by simp) PP.out); have QQ := Lib.hid (hc.at (by simp) QQ.out); have MM := Lib.hid (MM.out.kept hc (by simp)); have l1 := lk_of MM.out HF.out; have l2 := lk_of (MM.out.al (.cells #[.int .i64 0, .slice none 0 0] 38)) HF.out; (try simp only [World.size_alloc, size_drew] at l1 l2); have II := Lib.hid hi; clear hi hb hc)
        | (go_at_call 46; (with_reducible refine Calls.mono (CL.out _ (CC.out.alloc _)) ?_); rintro e w5 ⟨ca, cc, rfl, hi, hb, hc⟩; have HCB := Lib.hid (fun x hx => Nat.le_trans (CC.out.alloc (.cells #[.int .i64 0, .slice none 0 0] 38)).size (hb x hx)); have LT := Lib.hid (lt_of_heap QQ.out); have TT := Lib.hid (hc.at (by simp) (heap_alloc_new _ (.cells #[.int .i64 0, .slice none 0 0] 38))); have CC := Lib.hid ((CC.out.alloc _).thenSame hc); have PP := Lib.hid (hc.at (by simp) (blk_alloc PP.out)); have QQ := Lib.hid (hc.at (by simp) (blk_alloc QQ.out)); have k10 := blk_cell TT.out; have f10 := blk_free TT.out; have MM := Lib.hid ((MM.out.al _).kept hc (by simp)); have l1 := lk_of MM.out HF.out; have l2 := lk_of (MM.out.al (.cells #[.int .i64 0, .slice none 0 0] 38)) HF.out; (try simp only [World.size_alloc, size_drew] at l1 l2); have II := Lib.hid hi; clear hi hb hc)
        | ((with_reducible refine Calls.mono (F.out _ CC.out _ _ II.out) ?_); rintro e w6 ⟨na, nc, va, vc, rfl, hn, hv, hfr, hc⟩; have HFR := Lib.hid (fun x (hx : na = some x ∨ va = some x) => hx.elim (fun hx => ((hfr x).1 hx).elim (fun e => HCB.out x e) (fun e => Nat.le_trans CC.out.size e)) (fun hx => Nat.le_trans CC.out.size ((hfr x).2 hx))); have TT := Lib.hid (hc.at (by simp) TT.out); have CC := Lib.hid (CC.out.thenSame hc); have PP := Lib.hid (hc.at (by simp) PP.out); have QQ := Lib.hid (hc.at (by simp) QQ.out); have k10 := blk_cell TT.out; have f10 := blk_free TT.out; have HN := Lib.hid hn; have HV := Lib.hid hv; clear hn hv hfr hc)
        | ((with_reducible refine Calls.mono (F.out _ CC.out _ _ II.out) ?_); rintro e w6 ⟨na, nc, va, vc, rfl, hn, hv, hfr, hc⟩; have HFR := Lib.hid (fun x (hx : na = some x ∨ va = some x) => hx.elim (fun hx => ((hfr x).1 hx).elim (fun e => HCB.out x e) (fun e => Nat.le_trans CC.out.size e)) (fun hx => Nat.le_trans CC.out.size ((hfr x).2 hx))); have CC := Lib.hid (CC.out.thenSame hc); have PP := Lib.hid (hc.at (by simp) PP.out); have QQ := Lib.hid (hc.at (by simp) QQ.out); have HN := Lib.hid hn; have HV := Lib.hid hv; clear hn hv hfr hc)
        | ((with_reducible refine Calls.mono (F.out _ (CC.out.alloc _) _ _ (II.out.kept ((Chg.refl [] _).alloc _))) ?_); rintro e w6 ⟨na, nc, va, vc, rfl, hn, hv, hfr, hc⟩; have HFR := Lib.hid (fun x (hx : na = some x ∨ va = some x) => hx.elim (fun hx => ((hfr x).1 hx).elim (fun e => HCB.out x e) (fun e => Nat.le_trans (CC.out.alloc (.cells #[.int .i64 0, .slice none 0 0] 38)).size e)) (fun hx => Nat.le_trans (CC.out.alloc (.cells #[.int .i64 0, .slice none 0 0] 38)).size ((hfr x).2 hx))); have LT := Lib.hid (lt_of_heap QQ.out); have TT := Lib.hid (hc.at (by simp) (heap_alloc_new _ (.cells #[.int .i64 0, .slice none 0 0] 38))); have CC := Lib.hid ((CC.out.alloc _).thenSame hc); have PP := Lib.hid (hc.at (by simp) (blk_alloc PP.out)); have QQ := Lib.hid (hc.at (by simp) (blk_alloc QQ.out)); have k10 := blk_cell TT.out; have f10 := blk_free TT.out; have HN := Lib.hid hn; have HV := Lib.hid hv; clear hn hv hfr hc))
    all_goals go_wp2_with fail
    all_goals go_meet
    all_goals first
      | (with_reducible exact Lib.hid (d7_a QQ.out CC.out HN.out HV.out HFR.out))
      | (with_reducible exact Lib.hid (d7_b QQ.out CC.out HN.out HV.out HFR.out))
      | (have hlb := LT.out; (try simp only [size_drew] at hlb); have hlc := Nat.le_of_succ_le (Nat.le_of_lt hlb); with_reducible exact Lib.hid (d7_c TT.out QQ.out hlb hlc CC.out HN.out HV.out HFR.out))
  case rest =>
    obtain ⟨na, nc, va, vc, b10, rfl, rfl, h10, hne, h5, hn, hv, hfr, hcc⟩ := hcut.out
    have K10 := Lib.hid h10
    have K5 := Lib.hid h5
    have HN := Lib.hid hn
    have HV := Lib.hid hv
    have HC := Lib.hid hcc
    have HFR := Lib.hid hfr
    have k10 := blk_cell h10
    have k5 := blk_cell h5
    have f5 := blk_free h5
    clear hcut h10 h5 hn hv hfr hcc
    go_upto_region 8 with fail
    go_region_law (fail)
    all_goals go_wp2_with fail
    all_goals
      have r1 := blk_cell (ans_two K5.out r.2.1 va r.2.2.length vc).1
      unfold ansW at r1
      refine bodyPost_ret (v := .tuple #[.slice na r.1.length nc, .agg #[.int .i64 r.2.1, .slice va r.2.2.length vc], .int .i64 0]) (by simp [results, Tryz.results25, go_sem, r1]) rfl ?_
      exact (doP_end (r := (0, r)) HFR.out K5.out (by omega) HC.out (fun h2 => HN.out.keptAns K5.out h2) (fun h2 => HV.out.keptAns K5.out h2)).drew
end Go.Proofs.YtnhemokmgpelaaaGreatDoor
