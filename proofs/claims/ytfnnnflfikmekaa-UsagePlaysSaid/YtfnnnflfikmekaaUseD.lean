/- Chapter 52: the arguments: records and calls. No condition. -/
import Derived.Test.YtfnnnflfikmekaaNest
import Derived.Test.YtfnnnflfikmekaaRown
import Derived.Test.YtfnnnflfikmekaaUseC
namespace Go.Proofs.Ytfnnnflfikmekaa
set_option linter.unusedVariables false
set_option linter.unusedSimpArgs false
open Go.RowKit Go.ChangeShapes Go.WideShapes Go.Deep

structure UR where
  id : ByteArray
  tn : ByteArray
  fn : ByteArray
  per : Int
  us : Us
  fl : Bool
structure OpU where
  k : Int
  r : UR
  p : Int
def usC (u : Us) : List Value := [.int .i64 u.inv, .int .i64 u.steps, .int .i64 u.ticks, .int .i64 u.units]
def urC (r : UR) : List Value := [.string r.id, .string r.tn, .string r.fn, .int .i64 r.per, .int .i64 r.us.inv, .int .i64 r.us.steps, .int .i64 r.us.ticks, .int .i64 r.us.units, .bool r.fl]
def opC (o : OpU) : List Value := [.int .i64 o.k, .string o.r.id, .string o.r.tn, .string o.r.fn, .int .i64 o.r.per, .int .i64 o.r.us.inv, .int .i64 o.r.us.steps, .int .i64 o.r.us.ticks, .int .i64 o.r.us.units, .bool o.r.fl, .int .i64 o.p]
def Us.good (u : Us) : Prop := (Lit.int .i64 u.inv).wf = true ∧ (Lit.int .i64 u.steps).wf = true ∧ (Lit.int .i64 u.ticks).wf = true ∧ (Lit.int .i64 u.units).wf = true
def UR.good (r : UR) : Prop := r.id.size ≤ maxLen ∧ r.tn.size ≤ maxLen ∧ r.fn.size ≤ maxLen ∧ (Lit.int .i64 r.per).wf = true ∧ r.us.good
def OpU.good (o : OpU) : Prop := (Lit.int .i64 o.k).wf = true ∧ o.r.good ∧ (Lit.int .i64 o.p).wf = true
theorem urC_len (r : UR) : (urC r).length = 9 := rfl
theorem opC_len (r : OpU) : (opC r).length = 11 := rfl

section
variable {H : Type} {enc : TypeId × Value → H} {w : World} {base : Nat} {spare : Nat → Bool} {held : Bool}
theorem xs_at {γ : Type} {xs : List γ} {n j : Nat} (h : xs.length = n) (hj : j < n) : ∃ y, xs[j]? = some y := ⟨xs[j]'(by omega), List.getElem?_eq_getElem _⟩
theorem cells_int : Try.prog.cellsOf 3 = 1 := by kernel_rfl
theorem cells_str : Try.prog.cellsOf 9 = 1 := by kernel_rfl
theorem cells_bool : Try.prog.cellsOf 4 = 1 := by kernel_rfl
theorem cells_us : Try.prog.cellsOf 28 = 4 := by kernel_rfl
theorem cells_ur : Try.prog.cellsOf 30 = 9 := by kernel_rfl
theorem cells_op : Try.prog.cellsOf 32 = 11 := by kernel_rfl
theorem dec_us (n : Nat) (cs : List Value) (y : DataW H × List MemPlace) (h : DataW.trod enc Try.prog w base spare held n 28 cs = some y) : ∃ u : Us, u.good ∧ cs = usC u := by
  obtain ⟨xs, n', _, _, hl, hx, hf⟩ := DataW.trod_struct Try.underlying28 h
  rw [cells_us] at hl
  have h0 := hf 0 _ rfl
  have h1 := hf 1 _ rfl
  have h2 := hf 2 _ rfl
  have h3 := hf 3 _ rfl
  simp only [List.getElem_toArray, List.getElem_cons_zero, List.getElem_cons_succ] at h0 h1 h2 h3
  obtain ⟨y0, q0⟩ := xs_at (j := 0) hx (by decide)
  obtain ⟨y1, q1⟩ := xs_at (j := 1) hx (by decide)
  obtain ⟨y2, q2⟩ := xs_at (j := 2) hx (by decide)
  obtain ⟨y3, q3⟩ := xs_at (j := 3) hx (by decide)
  rw [q0] at h0
  rw [q1] at h1
  rw [q2] at h2
  rw [q3] at h3
  obtain ⟨a0, e0, _, w0⟩ := DataW.trod_int Try.underlying3 h0
  obtain ⟨a1, e1, _, w1⟩ := DataW.trod_int Try.underlying3 h1
  obtain ⟨a2, e2, _, w2⟩ := DataW.trod_int Try.underlying3 h2
  obtain ⟨a3, e3, _, w3⟩ := DataW.trod_int Try.underlying3 h3
  simp only [cells_int] at e0 e1 e2 e3
  clear hf h0 h1 h2 h3 h
  match cs, hl with
  | [c0, c1, c2, c3], _ =>
    simp at e0 e1 e2 e3
    subst e0 e1 e2 e3
    exact ⟨⟨a0, a1, a2, a3⟩, ⟨w0, w1, w2, w3⟩, rfl⟩
theorem dec_ur (n : Nat) (cs : List Value) (y : DataW H × List MemPlace) (h : DataW.trod enc Try.prog w base spare held n 30 cs = some y) : ∃ u : UR, u.good ∧ cs = urC u := by
  obtain ⟨xs, n', _, _, hl, hx, hf⟩ := DataW.trod_struct Try.underlying30 h
  rw [cells_ur] at hl
  have h0 := hf 0 _ rfl
  have h1 := hf 1 _ rfl
  have h2 := hf 2 _ rfl
  have h3 := hf 3 _ rfl
  have h4 := hf 4 _ rfl
  have h5 := hf 5 _ rfl
  simp only [List.getElem_toArray, List.getElem_cons_zero, List.getElem_cons_succ] at h0 h1 h2 h3 h4 h5
  obtain ⟨y0, q0⟩ := xs_at (j := 0) hx (by decide)
  obtain ⟨y1, q1⟩ := xs_at (j := 1) hx (by decide)
  obtain ⟨y2, q2⟩ := xs_at (j := 2) hx (by decide)
  obtain ⟨y3, q3⟩ := xs_at (j := 3) hx (by decide)
  obtain ⟨y4, q4⟩ := xs_at (j := 4) hx (by decide)
  obtain ⟨y5, q5⟩ := xs_at (j := 5) hx (by decide)
  rw [q0] at h0
  rw [q1] at h1
  rw [q2] at h2
  rw [q3] at h3
  rw [q4] at h4
  rw [q5] at h5
  obtain ⟨a0, e0, _, w0⟩ := DataW.trod_string Try.underlying9 h0
  obtain ⟨a1, e1, _, w1⟩ := DataW.trod_string Try.underlying9 h1
  obtain ⟨a2, e2, _, w2⟩ := DataW.trod_string Try.underlying9 h2
  obtain ⟨a3, e3, _, w3⟩ := DataW.trod_int Try.underlying3 h3
  obtain ⟨a4, w4, e4⟩ := dec_us _ _ _ h4
  obtain ⟨a5, e5, _⟩ := DataW.trod_bool Try.underlying4 h5
  simp only [cells_int, cells_str, cells_bool, cells_us, usC] at e0 e1 e2 e3 e4 e5
  clear hf h0 h1 h2 h3 h4 h5 h
  match cs, hl with
  | [c0, c1, c2, c3, c4, c5, c6, c7, c8], _ =>
    simp at e0 e1 e2 e3 e4 e5
    obtain ⟨rfl, rfl, rfl, rfl⟩ := e4
    subst e0 e1 e2 e3 e5
    exact ⟨⟨a0, a1, a2, a3, a4, a5⟩, ⟨w0, w1, w2, w3, w4⟩, rfl⟩
theorem dec_op (n : Nat) (cs : List Value) (y : DataW H × List MemPlace) (h : DataW.trod enc Try.prog w base spare held n 32 cs = some y) : ∃ u : OpU, u.good ∧ cs = opC u := by
  obtain ⟨xs, n', _, _, hl, hx, hf⟩ := DataW.trod_struct Try.underlying32 h
  rw [cells_op] at hl
  have h0 := hf 0 _ rfl
  have h1 := hf 1 _ rfl
  have h2 := hf 2 _ rfl
  simp only [List.getElem_toArray, List.getElem_cons_zero, List.getElem_cons_succ] at h0 h1 h2
  obtain ⟨y0, q0⟩ := xs_at (j := 0) hx (by decide)
  obtain ⟨y1, q1⟩ := xs_at (j := 1) hx (by decide)
  obtain ⟨y2, q2⟩ := xs_at (j := 2) hx (by decide)
  rw [q0] at h0
  rw [q1] at h1
  rw [q2] at h2
  obtain ⟨a0, e0, _, w0⟩ := DataW.trod_int Try.underlying3 h0
  obtain ⟨a1, w1, e1⟩ := dec_ur _ _ _ h1
  obtain ⟨a2, e2, _, w2⟩ := DataW.trod_int Try.underlying3 h2
  simp only [cells_int, cells_ur, urC] at e0 e1 e2
  clear hf h0 h1 h2 h
  match cs, hl with
  | [c0, c1, c2, c3, c4, c5, c6, c7, c8, c9, c10], _ =>
    simp at e0 e1 e2
    obtain ⟨rfl, rfl, rfl, rfl, rfl, rfl, rfl, rfl, rfl⟩ := e1
    subst e0 e2
    exact ⟨⟨a0, a1, a2⟩, ⟨w0, w1, w2⟩, rfl⟩
set_option maxRecDepth 100000 in
theorem open_UR {r : Reach} {b0 : Nat} {v : Value} {d : DataW H} {ps : List MemPlace} (hv : Value.okWide Try.prog w r b0 30 v) (h : DataW.Trod enc Try.prog w base spare held 30 v d ps) : ∃ x : UR, v = .agg (urC x).toArray ∧ x.good :=
  open_stN urC UR.good Try.underlying30 dec_ur hv h
set_option maxRecDepth 100000 in
theorem opens_Op {a : Option Addr} {len cap : Nat} {d : DataW H} {ps : List MemPlace} (h : DataW.Trod enc Try.prog w base spare held 22 (.slice a len cap) d ps) : ∃ l : List OpU, SlIs opC 11 w a len l ∧ (∀ x ∈ l, x.good) ∧ len ≤ maxLen ∧ len ≤ cap := by
  obtain ⟨l, h1, h2, h3⟩ := open_slN opC OpU.good Try.underlying22 cells_op (by decide) opC_len dec_op h
  exact ⟨l, h1, h2, h3, trod_cap Try.underlying22 h⟩
end
end Go.Proofs.Ytfnnnflfikmekaa
