/- Chapter 30: the openers of the law's operations. No condition. -/
import Derived.Test.YtmichbpfmachcaaDoorOps
import Derived.Test.YtmichbpfmachcaaDoorNest
namespace Go.Proofs.YtmichbpfmachcaaDoor
set_option linter.unusedVariables false
set_option linter.unusedSimpArgs false
open Go.RowKit Go.ChangeShapes Go.WideShapes Go.Deep
section
variable {H : Type} {enc : TypeId × Value → H} {w : World} {base : Nat} {spare : Nat → Bool} {held : Bool}
theorem xs_at {γ : Type} {xs : List γ} {n j : Nat} (h : xs.length = n) (hj : j < n) : ∃ y, xs[j]? = some y := ⟨xs[j]'(by omega), List.getElem?_eq_getElem _⟩
theorem cells_int : Tryd.prog.cellsOf 3 = 1 := by kernel_rfl
theorem cells_str : Tryd.prog.cellsOf 9 = 1 := by kernel_rfl
theorem cells_sl : Tryd.prog.cellsOf 23 = 1 := by kernel_rfl
theorem cells_ev : Tryd.prog.cellsOf 25 = 7 := by kernel_rfl
theorem cells_op : Tryd.prog.cellsOf 27 = 12 := by kernel_rfl
def Ev.goodS (e : Ev) : Prop := e.p.id.size ≤ maxLen ∧ e.p.tn.size ≤ maxLen ∧ e.p.src.size ≤ maxLen ∧ e.p.key.size ≤ maxLen ∧ e.p.cause.size ≤ maxLen ∧ ∀ x ∈ e.p.body, x.good
def OpS.good (w : World) (x : OpS) : Prop := x.e.goodS ∧ InIs ceC 4 w x.e.ba x.e.bc x.e.p.body
theorem trod_cap2 {P : Program} {t e : TypeId} {a : Option Addr} {len cap : Nat} {d : DataW H} {ps : List MemPlace} (ht : P.underlying t = some (.slice e))
    (h : DataW.Trod enc P w base spare held t (.slice a len cap) d ps) : (a = none → cap = 0) ∧ cap ≤ maxLen := by
  obtain ⟨fuel, hf⟩ := h
  rcases Go.Deep.open_slice ht hf with ⟨h0, _⟩ | ⟨_, _, _, _, _, _, _, h0, _, _, h2, _⟩
  · simp [Value.cells] at h0; unfold maxLen; omega
  · simp [Value.cells] at h0
    exact ⟨fun e => by rw [e] at h0; simp at h0, by omega⟩
theorem dec_body (n : Nat) (cs : List Value) (y : DataW H × List MemPlace) (h : DataW.trod enc Tryd.prog w base spare held n 23 cs = some y) : ∃ (a : Option Addr) (c : Nat) (l : List Ce), InIs ceC 4 w a c l ∧ (∀ x ∈ l, x.good) ∧ cs = [.slice a l.length c] := by
  have key : ∀ (a : Option Addr) (len cap : Nat), cs = [.slice a len cap] → ∃ (a : Option Addr) (c : Nat) (l : List Ce), InIs ceC 4 w a c l ∧ (∀ x ∈ l, x.good) ∧ cs = [.slice a l.length c] := by
    rintro a len cap rfl
    have h' : DataW.Trod enc Tryd.prog w base spare held 23 (.slice a len cap) y.1 y.2 := ⟨n, h⟩
    obtain ⟨l, h1, h2, h3, h4⟩ := opens_Ce h'
    obtain ⟨h5, h6⟩ := trod_cap2 Tryd.underlying23 h'
    have hl : l.length = len := h1.1
    subst hl
    exact ⟨a, cap, l, ⟨h1, h4, h6, h5⟩, h2, rfl⟩
  rcases open_slice Tryd.underlying23 h with ⟨h0, _⟩ | ⟨x, l, c, m, n, D, Pl, hcs, _⟩
  · exact key none 0 0 (h0)
  · exact key (some x) l c (hcs)
theorem dec_ev (n : Nat) (cs : List Value) (y : DataW H × List MemPlace) (h : DataW.trod enc Tryd.prog w base spare held n 25 cs = some y) : ∃ x : Ev, x.goodS ∧ InIs ceC 4 w x.ba x.bc x.p.body ∧ cs = evC x := by
  obtain ⟨xs, n', _, _, hl, hx, hf⟩ := DataW.trod_struct Tryd.underlying25 h
  rw [cells_ev] at hl
  have h0 := hf 0 _ rfl
  have h1 := hf 1 _ rfl
  have h2 := hf 2 _ rfl
  have h3 := hf 3 _ rfl
  have h4 := hf 4 _ rfl
  have h5 := hf 5 _ rfl
  have h6 := hf 6 _ rfl
  simp only [List.getElem_toArray, List.getElem_cons_zero, List.getElem_cons_succ] at h0 h1 h2 h3 h4 h5 h6
  obtain ⟨y0, q0⟩ := xs_at (j := 0) hx (by decide)
  rw [q0] at h0
  obtain ⟨y1, q1⟩ := xs_at (j := 1) hx (by decide)
  rw [q1] at h1
  obtain ⟨y2, q2⟩ := xs_at (j := 2) hx (by decide)
  rw [q2] at h2
  obtain ⟨y3, q3⟩ := xs_at (j := 3) hx (by decide)
  rw [q3] at h3
  obtain ⟨y4, q4⟩ := xs_at (j := 4) hx (by decide)
  rw [q4] at h4
  obtain ⟨y5, q5⟩ := xs_at (j := 5) hx (by decide)
  rw [q5] at h5
  obtain ⟨y6, q6⟩ := xs_at (j := 6) hx (by decide)
  rw [q6] at h6
  obtain ⟨a0, e0, _, w0⟩ := DataW.trod_string Tryd.underlying9 h0
  obtain ⟨a1, e1, _, w1⟩ := DataW.trod_string Tryd.underlying9 h1
  obtain ⟨a2, e2, _, w2⟩ := DataW.trod_string Tryd.underlying9 h2
  obtain ⟨a3, e3, _, w3⟩ := DataW.trod_string Tryd.underlying9 h3
  obtain ⟨a4, e4, _, w4⟩ := DataW.trod_int Tryd.underlying3 h4
  obtain ⟨a5, e5, _, w5⟩ := DataW.trod_string Tryd.underlying9 h5
  obtain ⟨ba6, bc6, l6, i6, g6, e6⟩ := dec_body _ _ _ h6
  simp only [cells_int, cells_str, cells_sl, cells_ev] at e0 e1 e2 e3 e4 e5 e6
  clear hf h0 h1 h2 h3 h4 h5 h6 h
  match cs, hl with
  | [c0, c1, c2, c3, c4, c5, c6], _ =>
    simp at e0 e1 e2 e3 e4 e5 e6
    subst e0 e1 e2 e3 e4 e5 e6
    exact ⟨⟨⟨a0, a1, a2, a3, a4, a5, l6⟩, ba6, bc6⟩, ⟨w0, w1, w2, w3, w5, g6⟩, i6, rfl⟩
theorem dec_op (n : Nat) (cs : List Value) (y : DataW H × List MemPlace) (h : DataW.trod enc Tryd.prog w base spare held n 27 cs = some y) : ∃ x : OpS, x.good w ∧ cs = opC x := by
  obtain ⟨xs, n', _, _, hl, hx, hf⟩ := DataW.trod_struct Tryd.underlying27 h
  rw [cells_op] at hl
  have h0 := hf 0 _ rfl
  have h1 := hf 1 _ rfl
  have h2 := hf 2 _ rfl
  have h3 := hf 3 _ rfl
  have h4 := hf 4 _ rfl
  have h5 := hf 5 _ rfl
  simp only [List.getElem_toArray, List.getElem_cons_zero, List.getElem_cons_succ] at h0 h1 h2 h3 h4 h5
  obtain ⟨y0, q0⟩ := xs_at (j := 0) hx (by decide)
  rw [q0] at h0
  obtain ⟨y1, q1⟩ := xs_at (j := 1) hx (by decide)
  rw [q1] at h1
  obtain ⟨y2, q2⟩ := xs_at (j := 2) hx (by decide)
  rw [q2] at h2
  obtain ⟨y3, q3⟩ := xs_at (j := 3) hx (by decide)
  rw [q3] at h3
  obtain ⟨y4, q4⟩ := xs_at (j := 4) hx (by decide)
  rw [q4] at h4
  obtain ⟨y5, q5⟩ := xs_at (j := 5) hx (by decide)
  rw [q5] at h5
  obtain ⟨a0, e0, _, w0⟩ := DataW.trod_int Tryd.underlying3 h0
  obtain ⟨ev1, g1, i1, e1⟩ := dec_ev _ _ _ h1
  obtain ⟨a2, e2, _, w2⟩ := DataW.trod_int Tryd.underlying3 h2
  obtain ⟨a3, e3, _, w3⟩ := DataW.trod_int Tryd.underlying3 h3
  obtain ⟨a4, e4, _, w4⟩ := DataW.trod_int Tryd.underlying3 h4
  obtain ⟨a5, e5, _, w5⟩ := DataW.trod_int Tryd.underlying3 h5
  simp only [cells_int, cells_str, cells_sl, cells_ev] at e0 e1 e2 e3 e4 e5
  clear hf h0 h1 h2 h3 h4 h5 h
  match cs, hl with
  | [c0, c1, c2, c3, c4, c5, c6, c7, c8, c9, c10, c11], _ =>
    simp at e0 e2 e3 e4 e5
    simp [evC] at e1
    obtain ⟨rfl, rfl, rfl, rfl, rfl, rfl, rfl⟩ := e1
    subst e0 e2 e3 e4 e5
    exact ⟨⟨a0, ev1, a2, a3, a4, a5⟩, ⟨g1, i1⟩, rfl⟩
theorem opens_OpS {a : Option Addr} {len cap : Nat} {d : DataW H} {ps : List MemPlace} (h : DataW.Trod enc Tryd.prog w base spare held 22 (.slice a len cap) d ps) : ∃ l : List OpS, SlIs opC 12 w a len l ∧ (∀ x ∈ l, x.good w) ∧ len ≤ maxLen ∧ len ≤ cap := by
  obtain ⟨l, h1, h2, h3⟩ := open_slN opC (OpS.good w) Tryd.underlying22 cells_op (by decide) opC_len dec_op h
  exact ⟨l, h1, h2, h3, trod_cap Tryd.underlying22 h⟩
set_option maxRecDepth 100000 in
theorem open_OpS1 {r : Reach} {b0 : Nat} {v : Value} {d : DataW H} {ps : List MemPlace} (hv : Value.okWide Tryd.prog w r b0 27 v) (h : DataW.Trod enc Tryd.prog w base spare held 27 v d ps) : ∃ x : OpS, v = .agg (opC x).toArray ∧ x.good w :=
  open_stN opC (OpS.good w) Tryd.underlying27 dec_op hv h
end
end Go.Proofs.YtmichbpfmachcaaDoor
