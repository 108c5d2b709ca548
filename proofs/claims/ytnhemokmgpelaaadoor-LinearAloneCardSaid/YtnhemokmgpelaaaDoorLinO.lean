/- Chapter 50: the openers of the laws' arguments. No condition. -/
import Derived.Test.YtnhemokmgpelaaaDoorMLinA
import Derived.Test.YtnhemokmgpelaaaDoorRowi
import Derived.Test.YtnhemokmgpelaaaDoorMSzd
namespace Go.Proofs.YtnhemokmgpelaaaDoor
set_option linter.unusedVariables false
set_option linter.unusedSimpArgs false
open Go.RowKit Go.ChangeShapes Go.WideShapes Go.Deep
section
variable {H : Type} {enc : TypeId × Value → H} {w : World} {base : Nat} {spare : Nat → Bool} {held : Bool}
theorem cells_errno : Tryd.prog.cellsOf 35 = 1 := by kernel_rfl
theorem cells_int : Tryd.prog.cellsOf 3 = 1 := by kernel_rfl
theorem cells_str : Tryd.prog.cellsOf 9 = 1 := by kernel_rfl
theorem cells_sl : Tryd.prog.cellsOf 28 = 1 := by kernel_rfl
theorem cells_rows : Tryd.prog.cellsOf 31 = 1 := by kernel_rfl
theorem cells_eop : Tryd.prog.cellsOf 33 = 4 := by kernel_rfl
theorem cells_ans : Tryd.prog.cellsOf 37 = 2 := by kernel_rfl
theorem cells_call : Tryd.prog.cellsOf 41 = 8 := by kernel_rfl
theorem bytes_cell : Tryd.prog.bytesOf 50 = 40 := by kernel_rfl
theorem bytes_sl : Tryd.prog.bytesOf 28 = 24 := by kernel_rfl
theorem bytes_call : Tryd.prog.bytesOf 41 = 120 := by kernel_rfl
theorem opens_CellsZ {a : Option Addr} {len cap : Nat} {d : DataW H} {ps : List MemPlace} (h : DataW.Trod enc Tryd.prog w base spare held 28 (.slice a len cap) d ps) (hw : Wt Tryd.prog 28 d) : ∃ l : List Ce, l.length = len ∧ InIs ceC 4 w a cap l ∧ goodL l := by
  obtain ⟨l, h1, h2, h3, h4⟩ := opens_Ce h
  obtain ⟨h5, h6⟩ := trod_cap2 Tryd.underlying28 h
  have h7 := wt_len Tryd.underlying28 h hw
  rw [bytes_cell] at h7
  have hl : l.length = len := h1.1
  subst hl
  exact ⟨l, rfl, ⟨h1, h4, h6, h5⟩, by unfold reachBytes at h7; omega, h2⟩
theorem dec_rr (n : Nat) (cs : List Value) (y : DataW H × List MemPlace) (hw : Wt Tryd.prog 28 y.1) (h : DataW.trod enc Tryd.prog w base spare held n 28 cs = some y) : ∃ d : Rr Ce, (InIs ceC 4 w d.a d.c d.L ∧ goodL d.L) ∧ cs = rrC d := by
  obtain ⟨a, len, cap, rfl, ht⟩ := cs_slice Tryd.underlying28 h
  obtain ⟨l, rfl, h2, h3⟩ := opens_CellsZ ht hw
  exact ⟨⟨a, cap, l⟩, ⟨h2, h3⟩, rfl⟩
theorem dec_rows (n : Nat) (cs : List Value) (y : DataW H × List MemPlace) (hw : Wt Tryd.prog 31 y.1) (h : DataW.trod enc Tryd.prog w base spare held n 31 cs = some y) : ∃ (aa : Option Addr) (ac : Nat) (args : List (Rr Ce)), cs = [.slice aa args.length ac] ∧ ArgsIn w aa ac args ∧ args.length ≤ 9223372036854775806 ∧ ∀ d ∈ args, goodL d.L := by
  obtain ⟨a, len, cap, rfl, ht⟩ := cs_slice Tryd.underlying31 h
  obtain ⟨l, h1, h2, h3⟩ := open_slZ rrC (fun d : Rr Ce => InIs ceC 4 w d.a d.c d.L ∧ goodL d.L) Tryd.underlying31 cells_sl (by decide) rrC_len dec_rr ht hw
  have h4 := trod_cap Tryd.underlying31 ht
  obtain ⟨h5, h6⟩ := trod_cap2 Tryd.underlying31 ht
  have h7 := wt_len Tryd.underlying31 ht hw
  rw [bytes_sl] at h7
  have hl : l.length = len := h1.1
  subst hl
  exact ⟨a, cap, l, rfl, ⟨⟨h1, h4, h6, h5⟩, fun d hd => (h2 d hd).1⟩, by unfold reachBytes at h7; omega, fun d hd => (h2 d hd).2⟩
theorem dec_eop (n : Nat) (cs : List Value) (y : DataW H × List MemPlace) (hw : Wt Tryd.prog 33 y.1) (h : DataW.trod enc Tryd.prog w base spare held n 33 cs = some y) : ∃ x : EOp, (ArgsIn w x.aa x.ac x.args ∧ x.good) ∧ cs = eoC x := by
  obtain ⟨xs, n', _, hy, hl, hx, hf⟩ := DataW.trod_struct Tryd.underlying33 h
  rw [cells_eop] at hl
  have h0 := hf 0 _ rfl
  have h1 := hf 1 _ rfl
  have h2 := hf 2 _ rfl
  have h3 := hf 3 _ rfl
  simp only [List.getElem_toArray, List.getElem_cons_zero, List.getElem_cons_succ] at h0 h1 h2 h3
  obtain ⟨y0, q0⟩ := xs_at (j := 0) hx (by decide)
  rw [q0] at h0
  obtain ⟨y1, q1⟩ := xs_at (j := 1) hx (by decide)
  rw [q1] at h1
  obtain ⟨y2, q2⟩ := xs_at (j := 2) hx (by decide)
  rw [q2] at h2
  obtain ⟨y3, q3⟩ := xs_at (j := 3) hx (by decide)
  rw [q3] at h3
  have hw3 : Wt Tryd.prog 31 y3.1 := by
    rw [hy] at hw
    exact hw.field Tryd.underlying33 (j := 3) rfl (by rw [List.getElem?_map, q3]; rfl)
  obtain ⟨a0, e0, _, w0⟩ := DataW.trod_string Tryd.underlying9 h0
  obtain ⟨a1, e1, _, w1⟩ := DataW.trod_string Tryd.underlying9 h1
  obtain ⟨a2, e2, _, w2⟩ := DataW.trod_string Tryd.underlying9 h2
  obtain ⟨aa, ac, args, e3, g1, g2, g3⟩ := dec_rows _ _ _ hw3 h3
  simp only [cells_str, cells_rows] at e0 e1 e2 e3
  clear hf h0 h1 h2 h3 h
  match cs, hl with
  | [c0, c1, c2, c3], _ =>
    simp at e0 e1 e2 e3
    subst e0 e1 e2 e3
    exact ⟨⟨a0, a1, a2, aa, ac, args⟩, ⟨g1, w0, w1, w2, g2, g3⟩, rfl⟩
theorem dec_ans (n : Nat) (cs : List Value) (y : DataW H × List MemPlace) (hw : Wt Tryd.prog 37 y.1) (h : DataW.trod enc Tryd.prog w base spare held n 37 cs = some y) : ∃ (e : Int) (a : Option Addr) (c : Nat) (l : List Ce), cs = [.int .i64 e, .slice a l.length c] ∧ (InIs ceC 4 w a c l ∧ goodL l) ∧ (Lit.int .i64 e).wf = true := by
  obtain ⟨xs, n', _, hy, hl, hx, hf⟩ := DataW.trod_struct Tryd.underlying37 h
  rw [cells_ans] at hl
  have h0 := hf 0 _ rfl
  have h1 := hf 1 _ rfl
  simp only [List.getElem_toArray, List.getElem_cons_zero, List.getElem_cons_succ] at h0 h1
  obtain ⟨y0, q0⟩ := xs_at (j := 0) hx (by decide)
  rw [q0] at h0
  obtain ⟨y1, q1⟩ := xs_at (j := 1) hx (by decide)
  rw [q1] at h1
  have hw1 : Wt Tryd.prog 28 y1.1 := by
    rw [hy] at hw
    exact hw.field Tryd.underlying37 (j := 1) rfl (by rw [List.getElem?_map, q1]; rfl)
  obtain ⟨a0, e0, _, w0⟩ := DataW.trod_int Tryd.underlying35 h0
  obtain ⟨d, ⟨g1, g2⟩, e1⟩ := dec_rr _ _ _ hw1 h1
  simp only [cells_errno, cells_sl] at e0 e1
  clear hf h0 h1 h
  match cs, hl with
  | [c0, c1], _ =>
    simp [rrC] at e0 e1
    subst e0 e1
    exact ⟨a0, d.a, d.c, d.L, rfl, ⟨g1, g2⟩, w0⟩
theorem dec_call (n : Nat) (cs : List Value) (y : DataW H × List MemPlace) (hw : Wt Tryd.prog 41 y.1) (h : DataW.trod enc Tryd.prog w base spare held n 41 cs = some y) : ∃ x : Cl, (ClIn w x ∧ goodCl x ∧ goodL x.ans) ∧ cs = clC x := by
  obtain ⟨xs, n', _, hy, hl, hx, hf⟩ := DataW.trod_struct Tryd.underlying41 h
  rw [cells_call] at hl
  have h0 := hf 0 _ rfl
  have h1 := hf 1 _ rfl
  have h2 := hf 2 _ rfl
  have h3 := hf 3 _ rfl
  simp only [List.getElem_toArray, List.getElem_cons_zero, List.getElem_cons_succ] at h0 h1 h2 h3
  obtain ⟨y0, q0⟩ := xs_at (j := 0) hx (by decide)
  rw [q0] at h0
  obtain ⟨y1, q1⟩ := xs_at (j := 1) hx (by decide)
  rw [q1] at h1
  obtain ⟨y2, q2⟩ := xs_at (j := 2) hx (by decide)
  rw [q2] at h2
  obtain ⟨y3, q3⟩ := xs_at (j := 3) hx (by decide)
  rw [q3] at h3
  rw [hy] at hw
  obtain ⟨o, ⟨g1, g2⟩, e0⟩ := dec_eop _ _ _ (hw.field Tryd.underlying41 (j := 0) rfl (by rw [List.getElem?_map, q0]; rfl)) h0
  obtain ⟨er, va, vc, vl, e1, ⟨g3, g5⟩, g4⟩ := dec_ans _ _ _ (hw.field Tryd.underlying41 (j := 1) rfl (by rw [List.getElem?_map, q1]; rfl)) h1
  obtain ⟨a2, e2, _, w2⟩ := DataW.trod_int Tryd.underlying3 h2
  obtain ⟨a3, e3, _, w3⟩ := DataW.trod_int Tryd.underlying3 h3
  simp only [cells_int, cells_eop, cells_ans] at e0 e1 e2 e3
  clear hf h0 h1 h2 h3 h
  match cs, hl with
  | [c0, c1, c2, c3, c4, c5, c6, c7], _ =>
    simp at e2 e3
    simp [eoC] at e0
    simp at e1
    obtain ⟨rfl, rfl, rfl, rfl⟩ := e0
    obtain ⟨rfl, rfl⟩ := e1
    subst e2 e3
    exact ⟨⟨o, er, va, vc, vl, a2, a3⟩, ⟨⟨g1, g3⟩, ⟨g2, g4, w2, w3⟩, g5⟩, rfl⟩
theorem opens_Calls {a : Option Addr} {len cap : Nat} {d : DataW H} {ps : List MemPlace} (h : DataW.Trod enc Tryd.prog w base spare held 26 (.slice a len cap) d ps) (hw : Wt Tryd.prog 26 d) : ∃ l : List Cl, l.length = len ∧ LIn w a cap l ∧ (∀ x ∈ l, goodCl x) ∧ ∀ x ∈ l, goodL x.ans := by
  obtain ⟨l, h1, h2, h3⟩ := open_slZ clC (fun x => ClIn w x ∧ goodCl x ∧ goodL x.ans) Tryd.underlying26 cells_call (by decide) clC_len dec_call h hw
  have h4 := trod_cap Tryd.underlying26 h
  obtain ⟨h5, h6⟩ := trod_cap2 Tryd.underlying26 h
  have hl : l.length = len := h1.1
  subst hl
  exact ⟨l, rfl, ⟨⟨h1, h4, h6, h5⟩, fun x hx => (h2 x hx).1⟩, fun x hx => (h2 x hx).2.1, fun x hx => (h2 x hx).2.2⟩
theorem opens_IntsZ {a : Option Addr} {len cap : Nat} {d : DataW H} {ps : List MemPlace} (h : DataW.Trod enc Tryd.prog w base spare held 27 (.slice a len cap) d ps) (hw : Wt Tryd.prog 27 d) : ∃ l : List Int, l.length = len ∧ InIs icI 1 w a cap l ∧ (∀ x ∈ l, (Lit.int .i64 x).wf = true) ∧ len ≤ 1099511627776000 := by
  obtain ⟨l, h1, h2, h3, h4⟩ := open_sl1 icI (fun x => (Lit.int .i64 x).wf = true) Tryd.underlying27 cells_int (fun v n y hy => by
    obtain ⟨m, e, _, hw⟩ := DataW.trod_int Tryd.underlying3 hy
    simp at e
    exact ⟨m, hw, by simp [icI, e]⟩) h
  obtain ⟨h5, h6⟩ := trod_cap2 Tryd.underlying27 h
  have h7 := wt_len Tryd.underlying27 h hw
  rw [show Tryd.prog.bytesOf 3 = 8 by kernel_rfl] at h7
  have hl : l.length = len := h1.1
  subst hl
  exact ⟨l, rfl, ⟨h1, h4, h6, h5⟩, h2, by unfold reachBytes at h7; omega⟩
end
end Go.Proofs.YtnhemokmgpelaaaDoor
