/- Chapter 54: the walk of InvoiceMakes, given the run. Condition: the table of Itoa lies as the program lays it. -/
import Derived.Test.YtehjalgogjkdlaaGreatDoorZLawB
import Derived.Test.YtehjalgogjkdlaaGreatDoorZ33
import Derived.Test.YtehjalgogjkdlaaGreatDoorZ28
import Derived.Test.YtehjalgogjkdlaaGreatDoorZ30
import Derived.Test.YtehjalgogjkdlaaGreatDoorZ31
namespace Go.Proofs.YtehjalgogjkdlaaGreatDoor
set_option linter.unusedVariables false
set_option linter.unusedSimpArgs false
open Go.RowKit
structure RunX where
  ul : List UR
  ua : Option Addr
  uc : Nat
  cl : Int
  p : Prc
  pa : Option Addr
  pc : Nat
  tn : ByteArray
  per : Int
def runC (x : RunX) : List Value := [.slice x.ua x.ul.length x.uc, .int .u8 x.cl, .int .i64 x.p.fi, .int .i64 x.p.fu, .int .i64 x.p.iv, .slice x.pa x.p.ts.length x.pc, .string x.tn, .int .i64 x.per]
/-- What is known of a run that came in. -/
structure RunX.ok (w : World) (x : RunX) : Prop where
  su : SlIs urC 9 w x.ua x.ul.length x.ul
  gu : ∀ r ∈ x.ul, r.good
  mu : x.ul.length ≤ maxLen
  c0 : 0 ≤ x.cl
  c1 : x.cl ≤ 255
  st : SlIs trC 2 w x.pa x.p.ts.length x.p.ts
  mt : x.p.ts.length ≤ maxLen
  ms : x.tn.size ≤ maxLen
section
open Go.ChangeShapes Go.WideShapes Go.Deep
variable {H : Type} {enc : TypeId × Value → H} {w : World} {base : Nat} {spare : Nat → Bool} {held : Bool}
theorem cells_tr : Tryz.prog.cellsOf 72 = 2 := by kernel_rfl
theorem cells_trs : Tryz.prog.cellsOf 46 = 1 := by kernel_rfl
theorem cells_pr : Tryz.prog.cellsOf 48 = 4 := by kernel_rfl
theorem cells_urs : Tryz.prog.cellsOf 45 = 1 := by kernel_rfl
theorem cells_u8 : Tryz.prog.cellsOf 5 = 1 := by kernel_rfl
theorem cells_run : Tryz.prog.cellsOf 50 = 8 := by kernel_rfl
theorem trC_len2 (t : Tr) : (trC t).length = 2 := rfl
theorem dec_tr (n : Nat) (cs : List Value) (y : DataW H × List MemPlace) (h : DataW.trod enc Tryz.prog w base spare held n 72 cs = some y) : ∃ x : Tr, True ∧ cs = trC x := by
  obtain ⟨xs, n', _, _, hl, hx, hf⟩ := DataW.trod_struct Tryz.underlying72 h
  rw [cells_tr] at hl
  have h0 := hf 0 _ rfl
  have h1 := hf 1 _ rfl
  simp only [List.getElem_toArray, List.getElem_cons_zero, List.getElem_cons_succ] at h0 h1
  obtain ⟨y0, q0⟩ := xs_at (j := 0) hx (by decide)
  obtain ⟨y1, q1⟩ := xs_at (j := 1) hx (by decide)
  rw [q0] at h0
  rw [q1] at h1
  obtain ⟨a0, e0, _, w0⟩ := DataW.trod_int Tryz.underlying3 h0
  obtain ⟨a1, e1, _, w1⟩ := DataW.trod_int Tryz.underlying3 h1
  simp only [cells_int] at e0 e1
  clear hf h0 h1 h
  match cs, hl with
  | [c0, c1], _ =>
    simp at e0 e1
    subst e0 e1
    exact ⟨⟨a0, a1⟩, trivial, rfl⟩
theorem dec_pr (n : Nat) (cs : List Value) (y : DataW H × List MemPlace) (h : DataW.trod enc Tryz.prog w base spare held n 48 cs = some y) : ∃ (p : Prc) (a : Option Addr) (c : Nat), cs = [.int .i64 p.fi, .int .i64 p.fu, .int .i64 p.iv, .slice a p.ts.length c] ∧ SlIs trC 2 w a p.ts.length p.ts ∧ p.ts.length ≤ maxLen := by
  obtain ⟨xs, n', _, _, hl, hx, hf⟩ := DataW.trod_struct Tryz.underlying48 h
  rw [cells_pr] at hl
  have h0 := hf 0 _ rfl
  have h1 := hf 1 _ rfl
  have h2 := hf 2 _ rfl
  have h3 := hf 3 _ rfl
  simp only [List.getElem_toArray, List.getElem_cons_zero, List.getElem_cons_succ] at h0 h1 h2 h3
  obtain ⟨y0, q0⟩ := xs_at (j := 0) hx (by decide)
  obtain ⟨y1, q1⟩ := xs_at (j := 1) hx (by decide)
  obtain ⟨y2, q2⟩ := xs_at (j := 2) hx (by decide)
  obtain ⟨y3, q3⟩ := xs_at (j := 3) hx (by decide)
  rw [q0] at h0
  rw [q1] at h1
  rw [q2] at h2
  rw [q3] at h3
  obtain ⟨a0, e0, _, w0⟩ := DataW.trod_int Tryz.underlying3 h0
  obtain ⟨a1, e1, _, w1⟩ := DataW.trod_int Tryz.underlying3 h1
  obtain ⟨a2, e2, _, w2⟩ := DataW.trod_int Tryz.underlying3 h2
  obtain ⟨a, len, cap, e3, ht⟩ := cs_slice Tryz.underlying46 h3
  obtain ⟨l, g1, g2, g3⟩ := open_slN trC (fun _ => True) Tryz.underlying46 cells_tr (by decide) trC_len2 dec_tr ht
  simp only [cells_int, cells_trs] at e0 e1 e2 e3
  have hll : l.length = len := g1.1
  subst hll
  clear hf h0 h1 h2 h3 h ht
  match cs, hl with
  | [c0, c1, c2, c3], _ =>
    simp at e0 e1 e2 e3
    subst e0 e1 e2 e3
    exact ⟨⟨a0, a1, a2, l⟩, a, cap, rfl, g1, g3⟩
theorem dec_run (n : Nat) (cs : List Value) (y : DataW H × List MemPlace) (h : DataW.trod enc Tryz.prog w base spare held n 50 cs = some y) : ∃ x : RunX, RunX.ok w x ∧ cs = runC x := by
  obtain ⟨xs, n', _, _, hl, hx, hf⟩ := DataW.trod_struct Tryz.underlying50 h
  rw [cells_run] at hl
  have h0 := hf 0 _ rfl
  have h1 := hf 1 _ rfl
  have h2 := hf 2 _ rfl
  have h3 := hf 3 _ rfl
  have h4 := hf 4 _ rfl
  simp only [List.getElem_toArray, List.getElem_cons_zero, List.getElem_cons_succ] at h0 h1 h2 h3 h4
  obtain ⟨y0, q0⟩ := xs_at (j := 0) hx (by decide)
  obtain ⟨y1, q1⟩ := xs_at (j := 1) hx (by decide)
  obtain ⟨y2, q2⟩ := xs_at (j := 2) hx (by decide)
  obtain ⟨y3, q3⟩ := xs_at (j := 3) hx (by decide)
  obtain ⟨y4, q4⟩ := xs_at (j := 4) hx (by decide)
  rw [q0] at h0
  rw [q1] at h1
  rw [q2] at h2
  rw [q3] at h3
  rw [q4] at h4
  obtain ⟨a, len, cap, e0, ht⟩ := cs_slice Tryz.underlying45 h0
  obtain ⟨l, g1, g2, g3⟩ := open_slN urC UR.good Tryz.underlying45 cells_ur (by decide) urC_len dec_ur ht
  obtain ⟨a1, e1, _, w1⟩ := DataW.trod_int Tryz.underlying5 h1
  obtain ⟨p, pa, pc, e2, k1, k2⟩ := dec_pr _ _ _ h2
  obtain ⟨a3, e3, _, w3⟩ := DataW.trod_string Tryz.underlying9 h3
  obtain ⟨a4, e4, _, w4⟩ := DataW.trod_int Tryz.underlying3 h4
  simp only [cells_int, cells_urs, cells_u8, cells_pr, cells_str] at e0 e1 e2 e3 e4
  have hll : l.length = len := g1.1
  subst hll
  have hu : 0 ≤ a1 ∧ a1 ≤ 255 := by simpa [Lit.wf, IntKind.min, IntKind.max, IntKind.signed, IntKind.bits] using w1
  clear hf h0 h1 h2 h3 h4 h ht
  match cs, hl with
  | [c0, c1, c2, c3, c4, c5, c6, c7], _ =>
    simp at e0 e1 e2 e3 e4
    obtain ⟨rfl, rfl, rfl, rfl⟩ := e2
    subst e0 e1 e3 e4
    exact ⟨⟨l, a, cap, a1, p, pa, pc, a3, a4⟩, ⟨g1, g2, g3, hu.1, hu.2, k1, k2, w3⟩, rfl⟩
set_option maxRecDepth 100000 in
theorem open_Run {r : Reach} {b0 : Nat} {v : Value} {d : DataW H} {ps : List MemPlace} (hv : Value.okWide Tryz.prog w r b0 50 v) (h : DataW.Trod enc Tryz.prog w base spare held 50 v d ps) : ∃ x : RunX, v = .agg (runC x).toArray ∧ RunX.ok w x := by
  obtain ⟨cs, rfl, hsz⟩ := okWide_struct Tryz.underlying50 hv
  obtain ⟨fuel, hf⟩ := h
  obtain ⟨x, hg, hx⟩ := dec_run _ _ _ hf
  have : cs.toList = runC x := hx
  exact ⟨x, by rw [← this], hg⟩
end
theorem make_len {s : Led} {p : Prc} {tn : ByteArray} {per : Int} {O : List Int} : (makeZ s p tn per O).1.ls.length ≤ (fnsU s tn per).length := by
  unfold makeZ
  split
  · simp [inv0]
  · split
    · simp [inv0]
    · split
      · simp [inv0]
      · split
        · simp [inv0]
        · rw [setMi_len]; unfold mkLs; simp
theorem name_small {b : ByteArray} (h : nameB b = true) : b.size ≤ maxLen := by
  unfold nameB at h
  simp only [Bool.and_eq_true, decide_eq_true_eq] at h
  unfold maxLen
  omega
theorem inv_good {i : Inv} (h : invZ i = 0) (hl : i.ls.length ≤ maxLen) : i.good :=
  ⟨name_small (inv_ok h).1, fun x hx => name_small (lines_mi (inv_ok h).2.2.1 x hx).1, hl⟩
set_option maxHeartbeats 40000000 in
set_option maxRecDepth 100000 in
theorem makes_walk (a0 : RunX) (w : World) (w0 : RunX.ok w a0) (ht : TabW w) :
    Calls Tryz.prog 6 #[.agg (runC a0).toArray] w fun e w' => e = .returned (.bool true) ∧ Below w.heap.size w w' := by
  obtain ⟨ul, ua, uc, cl, p, pa, pc, tn, per⟩ := a0
  obtain ⟨su, gu, mu, c0, c1, st, mt, ms⟩ := w0
  simp only at su gu mu c0 c1 st mt ms
  show Calls Tryz.prog 6 #[.agg #[.slice ua ul.length uc, .int .u8 cl, .int .i64 p.fi, .int .i64 p.fu, .int .i64 p.iv, .slice pa p.ts.length pc, .string tn, .int .i64 per]] w _
  have HT := Lib.hid ht
  have ST := Lib.hid st
  obtain ⟨W1, hW1⟩ : ∃ W1, W1 = w.alloc (.cells #[.slice ua ul.length uc, .int .u8 cl, .int .i64 p.fi, .int .i64 p.fu, .int .i64 p.iv, .slice pa p.ts.length pc, .string tn, .int .i64 per] 50) := ⟨_, rfl⟩
  have C1 := Lib.hid (show Chg [] w W1 from hW1 ▸ (Chg.refl _ _).alloc _)
  have B1 := Lib.hid (show W1.heap[w.heap.size]? = some (.cells #[.slice ua ul.length uc, .int .u8 cl, .int .i64 p.fi, .int .i64 p.fu, .int .i64 p.iv, .slice pa p.ts.length pc, .string tn, .int .i64 per] 50 (0, 0)) from hW1 ▸ heap_alloc_new _ _)
  have HW1 := Lib.hid hW1
  have BX := Lib.hid (fun w' (hc : Chg [] W1 w') => (show w'.cell? ⟨w.heap.size, 0, none⟩ = some (.slice ua ul.length uc) ∧ w'.cell? ⟨w.heap.size, 1, none⟩ = some (.int .u8 cl) ∧ w'.cell? ⟨w.heap.size, 2, none⟩ = some (.int .i64 p.fi) ∧ w'.cell? ⟨w.heap.size, 3, none⟩ = some (.int .i64 p.fu) ∧ w'.cell? ⟨w.heap.size, 4, none⟩ = some (.int .i64 p.iv) ∧ w'.cell? ⟨w.heap.size, 5, none⟩ = some (.slice pa p.ts.length pc) ∧ w'.cell? ⟨w.heap.size, 6, none⟩ = some (.string tn) ∧ w'.cell? ⟨w.heap.size, 7, none⟩ = some (.int .i64 per) from
    have b := fun i => blk_cell (hc.at (by simp) B1.out) (i := i)
    ⟨b 0, b 1, b 2, b 3, b 4, b 5, b 6, b 7⟩))
  have lt1 := lt_of_heap B1.out
  have AL := Lib.hid (ledgers_any ua uc ul cl (.int .i64 p.fi) (.int .i64 p.fu) (.int .i64 p.iv) (.slice pa p.ts.length pc) (.string tn) (.int .i64 per) W1 (su.kept C1.out) gu mu c0 c1)
  obtain ⟨x0, x1, x2, x3, x4, x5, x6, x7⟩ := BX.out W1 (Chg.refl _ _)
  have AN := Lib.hid (fun w' => make_no p pa pc tn per w')
  unfold prV ivW at AN
  clear su gu mu c0 c1 st ht hW1
  have MT := Lib.hid mt
  have MS := Lib.hid ms
  clear mt ms
  go_enter Tryz.func6, Tryz.ntmps6
  go_wp2_with fail
  rw [← HW1.out]
  go_wp2_with fail
  refine AL.out.mono ?_; rintro e w2 ⟨b1, b2, s, rfl, hl, hk, f, g, ⟨mb, v, rfl, hL⟩, ⟨v2, rfl, hR⟩, -, -, -, hc2⟩
  have K2 := Lib.hid hc2
  have R2 := Lib.hid hR
  have HF := Lib.hid (fun f hf => (show (fB f).size ≤ maxLen from by have := fns_size s hk tn per f hf; unfold maxLen fB; simp [ByteArray.size]; omega))
  have hfl := fns_len s tn per
  have HFL := Lib.hid (show (fnsU s tn per).length ≤ 60 by omega)
  have A1 := make_any hL (by omega) p pa pc (ST.out.kept (C1.out.thenSame hc2)) MT.out tn MS.out per HF.out (by omega)
  have A2 := Lib.hid (fun O hO w' (hc : Chg [] w2 w') => rmake_any (O := O) (hR.keptN hc) hl p pa pc (ST.out.kept ((C1.out.thenSame hc2).thenSame hc)) MT.out tn MS.out per HF.out (by omega) hO)
  have A1 := Lib.hid A1
  obtain ⟨y0, y1, y2, y3, y4, y5, y6, y7⟩ := BX.out _ hc2
  unfold prV MkePost at A1
  unfold prV RMkPost at A2
  clear hL hR hc2 hk hl hfl AL x0 x1 x2 x3 x4 x5 x6 x7
  go_wp2_with fail
  refine A1.out.mono ?_; rintro e w3 ⟨O, v3, hO, rfl, hr3, hc3⟩
  have A3 := Lib.hid (A2.out O hO)
  have PS := Lib.hid (make_pass hO)
  have ML := Lib.hid (show (makeZ s p tn per O).1.ls.length ≤ maxLen from by have := make_len (s := s) (p := p) (tn := tn) (per := per) (O := O); have := HFL.out; unfold maxLen; omega)
  clear A1 A2 hO
  generalize makeZ s p tn per O = Z at *
  obtain ⟨⟨tn2, per2, ls, gr, re, nt⟩, e2⟩ := Z
  unfold ivW at A3 ⊢
  simp only at A3 PS ML hr3 ⊢
  obtain ⟨va, vc, rfl⟩ := RowOf.shape hr3
  have R3 := Lib.hid hr3
  have K3 := Lib.hid hc3
  have KA := Lib.hid (hc3.alloc (.cells #[.string tn2, .int .i64 per2, .slice va ls.length vc, .int .i64 gr, .int .i64 re, .int .i64 nt] 31))
  obtain ⟨z0, z1, z2, z3, z4, z5, z6, z7⟩ := BX.out _ (K2.out.thenSame KA.out)
  clear hr3 hc3 y0 y1 y2 y3 y4 y5 y6 y7
  go_wp2_with fail
  refine (A3.out _ KA.out).mono ?_; rintro e w4 ⟨v4, rfl, hr4, hc4⟩
  obtain ⟨vb, vd, rfl⟩ := RowOf.shape hr4
  have R4 := Lib.hid hr4
  have K4 := Lib.hid hc4
  have X4 := Lib.hid (hc4.at (by simp) (heap_alloc_new w3 (.cells #[.string tn2, .int .i64 per2, .slice va ls.length vc, .int .i64 gr, .int .i64 re, .int .i64 nt] 31)))
  have KB := Lib.hid (((K2.out.thenSame KA.out).thenSame hc4).alloc (.cells #[.string tn2, .int .i64 per2, .slice vb ls.length vd, .int .i64 gr, .int .i64 re, .int .i64 nt] 31))
  have Y4 := Lib.hid (((Chg.refl [] w4).alloc (.cells #[.string tn2, .int .i64 per2, .slice vb ls.length vd, .int .i64 gr, .int .i64 re, .int .i64 nt] 31)).at (by simp) X4.out)
  have Y5 := Lib.hid (heap_alloc_new w4 (.cells #[.string tn2, .int .i64 per2, .slice vb ls.length vd, .int .i64 gr, .int .i64 re, .int .i64 nt] 31))
  clear hr4 hc4 z0 z1 z2 z3 z4 z5 z6 z7 A3
  have S3 := Lib.hid (RowOf.sl (R3.out.kept (((Chg.refl [] w3).alloc (.cells #[.string tn2, .int .i64 per2, .slice va ls.length vc, .int .i64 gr, .int .i64 re, .int .i64 nt] 31)).thenSame K4.out) (by simp)) lnC_len).1
  have S4 := Lib.hid (RowOf.sl R4.out lnC_len).1
  obtain ⟨W5, hW5⟩ : ∃ W5, W5 = w4.alloc (.cells #[.string tn2, .int .i64 per2, .slice vb ls.length vd, .int .i64 gr, .int .i64 re, .int .i64 nt] 31) := ⟨_, rfl⟩
  have H45 := Lib.hid (show Chg [] w4 W5 from hW5 ▸ (Chg.refl _ _).alloc _)
  have HW5 := Lib.hid hW5
  rw [← hW5] at KB Y4 Y5
  have V := Lib.hid (fun w' (hc : Chg [] W5 w') => show w'.cell? ⟨w3.heap.size, 0, none⟩ = some (.string tn2) ∧ w'.cell? ⟨w3.heap.size, 1, none⟩ = some (.int .i64 per2) ∧ w'.cell? ⟨w3.heap.size, 2, none⟩ = some (.slice va ls.length vc) ∧ w'.cell? ⟨w3.heap.size, 3, none⟩ = some (.int .i64 gr) ∧ w'.cell? ⟨w3.heap.size, 4, none⟩ = some (.int .i64 re) ∧ w'.cell? ⟨w3.heap.size, 5, none⟩ = some (.int .i64 nt) ∧ w'.cell? ⟨w4.heap.size, 0, none⟩ = some (.string tn2) ∧ w'.cell? ⟨w4.heap.size, 1, none⟩ = some (.int .i64 per2) ∧ w'.cell? ⟨w4.heap.size, 2, none⟩ = some (.slice vb ls.length vd) ∧ w'.cell? ⟨w4.heap.size, 3, none⟩ = some (.int .i64 gr) ∧ w'.cell? ⟨w4.heap.size, 4, none⟩ = some (.int .i64 re) ∧ w'.cell? ⟨w4.heap.size, 5, none⟩ = some (.int .i64 nt) from by
    have x := blk_cell (hc.at (by simp) Y4.out)
    have y := blk_cell (hc.at (by simp) Y5.out)
    exact ⟨x 0, x 1, x 2, x 3, x 4, x 5, y 0, y 1, y 2, y 3, y 4, y 5⟩)
  have SM := Lib.hid (fun w' (hc : Chg [] W5 w') => same54_any ⟨tn2, per2, ls, gr, re, nt⟩ va vb vc vd w' (S3.out.kept (H45.out.thenSame hc)) (S4.out.kept (H45.out.thenSame hc)) ML.out)
  unfold ivV at SM
  simp only at SM
  obtain ⟨q0, q1, q2, q3, q4, q5, q6, q7, q8, q9, q10, q11⟩ := V.out _ (Chg.refl _ _)
  obtain ⟨r0, r1, r2, r3, r4, r5, r6, r7⟩ := BX.out _ KB.out
  have lt3 := lt_of_heap Y4.out
  have lt4 := lt_of_heap Y5.out
  have ne0 : (e2 != e2) = false := by simp
  clear hW5
  by_cases q : e2 = 0
  · have hi := PS.out q
    have CK := Lib.hid (fun w' (hc : Chg [] W5 w') => check_any ⟨tn2, per2, ls, gr, re, nt⟩ va vc w' (S3.out.kept (H45.out.thenSame hc)) (inv_good hi ML.out))
    unfold ivV at CK
    rw [hi] at CK
    simp only at CK
    subst q
    clear hi
    go_upto_region 4 with fail
    rw [← HW5.out]
    go_wp2_with (first
      | (go_at_call 13; (with_reducible refine (SM.out _ (by (repeat (first | exact Chg.refl _ _ | (refine Chg.alloc ?_ _) | (refine Chg.drewN ?_ _) | (refine Chg.drew ?_) | (refine thenH (by assumption) ?_))))).mono ?_); rintro e w6 ⟨rfl, hc⟩; have K6 := Lib.hid hc; clear hc; obtain ⟨s0, s1, s2, s3, s4, s5, -, -, -, -, -, -⟩ := V.out _ K6.out)
      | (go_at_call 14; (with_reducible refine (CK.out _ (by (repeat (first | exact Chg.refl _ _ | (refine Chg.alloc ?_ _) | (refine Chg.drewN ?_ _) | (refine Chg.drew ?_) | (refine thenH (by assumption) ?_))))).mono ?_); rintro e w7 ⟨rfl, hc⟩; have K7 := Lib.hid hc; clear hc; have KC := Lib.hid (show Chg [] W1 w7 from KB.out.thenSame (by (repeat (first | exact Chg.refl _ _ | (refine Chg.alloc ?_ _) | (refine Chg.drewN ?_ _) | (refine Chg.drew ?_) | (refine thenH (by assumption) ?_))))); obtain ⟨u0, u1, u2, u3, u4, u5, u6, u7⟩ := BX.out _ KC.out)
      | (go_at_call 22; (with_reducible refine (AN.out _).mono ?_); rintro e w8 ⟨rfl, hc⟩; have K8 := Lib.hid (KC.out.thenSame hc); clear hc)
      | (go_at_call 10; (with_reducible refine (awake54_any _ (HT.out.kept (C1.out.thenSame K8.out))).mono ?_); rintro e w9 ⟨rfl, hc⟩; have K9 := Lib.hid (K8.out.thenSame hc); clear hc))
    go_ret
    exact ⟨rfl, (C1.out.thenSame K9.out).toBelow (Nat.le_refl _) (by simp)⟩
  · have qb : (e2 == 0) = false := by simpa using q
    clear PS
    go_upto_region 4 with fail
    rw [← HW5.out]
    go_wp2_with (first
      | (go_at_call 13; (with_reducible refine (SM.out _ (by (repeat (first | exact Chg.refl _ _ | (refine Chg.alloc ?_ _) | (refine Chg.drewN ?_ _) | (refine Chg.drew ?_) | (refine thenH (by assumption) ?_))))).mono ?_); rintro e w7 ⟨rfl, hc⟩; have K7 := Lib.hid hc; clear hc; have KC := Lib.hid (show Chg [] W1 w7 from KB.out.thenSame K7.out); obtain ⟨u0, u1, u2, u3, u4, u5, u6, u7⟩ := BX.out _ KC.out)
      | (go_at_call 22; (with_reducible refine (AN.out _).mono ?_); rintro e w8 ⟨rfl, hc⟩; have K8 := Lib.hid (KC.out.thenSame hc); clear hc)
      | (go_at_call 10; (with_reducible refine (awake54_any _ (HT.out.kept (C1.out.thenSame K8.out))).mono ?_); rintro e w9 ⟨rfl, hc⟩; have K9 := Lib.hid (K8.out.thenSame hc); clear hc))
    go_ret
    exact ⟨rfl, (C1.out.thenSame K9.out).toBelow (Nat.le_refl _) (by simp)⟩
end Go.Proofs.YtehjalgogjkdlaaGreatDoor
