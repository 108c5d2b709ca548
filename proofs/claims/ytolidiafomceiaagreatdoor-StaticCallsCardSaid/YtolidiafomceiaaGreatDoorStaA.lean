/- Chapter 9: programs of the function language as they came in; the openers of the laws' arguments. No condition. -/
import Derived.Test.YtolidiafomceiaaGreatDoorProg
import Derived.Test.YtolidiafomceiaaGreatDoorMSzd
import Derived.Test.YtolidiafomceiaaGreatDoorRowi
import Derived.Test.YtolidiafomceiaaGreatDoorInl
namespace Go.Proofs.YtolidiafomceiaaGreatDoor
set_option linter.unusedVariables false
set_option linter.unusedSimpArgs false
open Go.RowKit Go.ChangeShapes Go.WideShapes Go.Deep
def skC (s : ByteArray) : List Value := [.string s]
theorem skC_len (x : ByteArray) : (skC x).length = 1 := rfl
theorem skC_one (x : ByteArray) : ∀ u ∈ skC x, u.oneCell' = true := by intro u hu; simp [skC] at hu; subst hu; rfl
/-- A node, plain. -/
structure PNd where
  kind : Int
  text : ByteArray
  n : Int
  keys : List ByteArray
  kids : List Int
/-- A node, with where its slices lie. -/
structure Nd where
  kind : Int
  text : ByteArray
  n : Int
  ka : Option Addr
  kc : Nat
  keys : List ByteArray
  da : Option Addr
  dc : Nat
  kids : List Int
def Nd.p (x : Nd) : PNd := ⟨x.kind, x.text, x.n, x.keys, x.kids⟩
def ndC (x : Nd) : List Value := [.int .i64 x.kind, .string x.text, .int .i64 x.n, .slice x.ka x.keys.length x.kc, .slice x.da x.kids.length x.dc]
theorem ndC_len (x : Nd) : (ndC x).length = 5 := rfl
theorem ndC_one (x : Nd) : ∀ u ∈ ndC x, u.oneCell' = true := by intro u hu; simp [ndC] at hu; rcases hu with rfl | rfl | rfl | rfl | rfl <;> rfl
def ndO (x : Nd) : Obj := .cells #[.int .i64 x.kind, .string x.text, .int .i64 x.n, .slice x.ka x.keys.length x.kc, .slice x.da x.kids.length x.dc] 49
def NdIn (w : World) (x : Nd) : Prop := InIs skC 1 w x.ka x.kc x.keys ∧ InIs icI 1 w x.da x.dc x.kids
theorem NdIn.kept {w w' : World} {x : Nd} (h : NdIn w x) (hc : Chg [] w w') : NdIn w' x := ⟨h.1.kept hc, h.2.kept hc⟩
def goodNd (x : Nd) : Prop := (Lit.int .i64 x.kind).wf = true ∧ x.text.size ≤ maxLen ∧ (Lit.int .i64 x.n).wf = true ∧ (∀ s ∈ x.keys, s.size ≤ maxLen) ∧ ∀ k ∈ x.kids, (Lit.int .i64 k).wf = true
/-- A function, plain. -/
structure PFn where
  name : ByteArray
  params : List ByteArray
  body : Int
structure Fn' where
  name : ByteArray
  pa : Option Addr
  pc : Nat
  params : List ByteArray
  body : Int
def Fn'.p (x : Fn') : PFn := ⟨x.name, x.params, x.body⟩
def fnC (x : Fn') : List Value := [.string x.name, .slice x.pa x.params.length x.pc, .int .i64 x.body]
theorem fnC_len (x : Fn') : (fnC x).length = 3 := rfl
theorem fnC_one (x : Fn') : ∀ u ∈ fnC x, u.oneCell' = true := by intro u hu; simp [fnC] at hu; rcases hu with rfl | rfl | rfl <;> rfl
def FnIn (w : World) (x : Fn') : Prop := InIs skC 1 w x.pa x.pc x.params
theorem FnIn.kept {w w' : World} {x : Fn'} (h : FnIn w x) (hc : Chg [] w w') : FnIn w' x := InIs.kept h hc
def goodFn (x : Fn') : Prop := x.name.size ≤ maxLen ∧ (∀ s ∈ x.params, s.size ≤ maxLen) ∧ (Lit.int .i64 x.body).wf = true
/-- A program. -/
structure PPr where
  nodes : List PNd
  funcs : List PFn
structure Pr where
  na : Option Addr
  nc : Nat
  nodes : List Nd
  fa : Option Addr
  fc : Nat
  funcs : List Fn'
def Pr.p (x : Pr) : PPr := ⟨x.nodes.map Nd.p, x.funcs.map Fn'.p⟩
def prC (x : Pr) : List Value := [.slice x.na x.nodes.length x.nc, .slice x.fa x.funcs.length x.fc]
def PrIn (w : World) (x : Pr) : Prop := (InIs ndC 5 w x.na x.nc x.nodes ∧ ∀ d ∈ x.nodes, NdIn w d) ∧ (InIs fnC 3 w x.fa x.fc x.funcs ∧ ∀ d ∈ x.funcs, FnIn w d)
theorem PrIn.kept {w w' : World} {x : Pr} (h : PrIn w x) (hc : Chg [] w w') : PrIn w' x := ⟨⟨h.1.1.kept hc, fun d hd => (h.1.2 d hd).kept hc⟩, ⟨h.2.1.kept hc, fun d hd => (h.2.2 d hd).kept hc⟩⟩
def goodPr (x : Pr) : Prop := (∀ d ∈ x.nodes, goodNd d) ∧ ∀ d ∈ x.funcs, goodFn d
section
variable {H : Type} {enc : TypeId × Value → H} {w : World} {base : Nat} {spare : Nat → Bool} {held : Bool}
theorem xs_atS {γ : Type} {xs : List γ} {n j : Nat} (h : xs.length = n) (hj : j < n) : ∃ y, xs[j]? = some y := ⟨xs[j]'(by omega), List.getElem?_eq_getElem _⟩
theorem cells_kind : Tryz.prog.cellsOf 47 = 1 := by kernel_rfl
theorem cells_intS : Tryz.prog.cellsOf 3 = 1 := by kernel_rfl
theorem cells_strS : Tryz.prog.cellsOf 9 = 1 := by kernel_rfl
theorem cells_strs : Tryz.prog.cellsOf 36 = 1 := by kernel_rfl
theorem cells_ints : Tryz.prog.cellsOf 32 = 1 := by kernel_rfl
theorem cells_nodes : Tryz.prog.cellsOf 22 = 1 := by kernel_rfl
theorem cells_funcs : Tryz.prog.cellsOf 23 = 1 := by kernel_rfl
theorem cells_node : Tryz.prog.cellsOf 49 = 5 := by kernel_rfl
theorem cells_func : Tryz.prog.cellsOf 38 = 3 := by kernel_rfl
theorem cells_progr : Tryz.prog.cellsOf 25 = 2 := by kernel_rfl
theorem in_of {α : Type} {cf : α → List Value} {sz : Nat} {a : Option Addr} {len cap : Nat} {l : List α} (h1 : SlIs cf sz w a len l) (h4 : len ≤ cap) (h5 : a = none → cap = 0) (h6 : cap ≤ maxLen) : l.length = len ∧ InIs cf sz w a cap l := by
  have hl : l.length = len := h1.1
  subst hl
  exact ⟨rfl, h1, h4, h6, h5⟩
theorem opens_Strs {a : Option Addr} {len cap : Nat} {d : DataW H} {ps : List MemPlace} (h : DataW.Trod enc Tryz.prog w base spare held 36 (.slice a len cap) d ps) : ∃ l : List ByteArray, l.length = len ∧ InIs skC 1 w a cap l ∧ ∀ s ∈ l, s.size ≤ maxLen := by
  obtain ⟨l, h1, h2, h3, h4⟩ := open_sl1 skC (fun x => x.size ≤ maxLen) Tryz.underlying36 cells_strS (fun v n y hy => by
    obtain ⟨m, e, _, hw⟩ := DataW.trod_string Tryz.underlying9 hy
    simp at e
    exact ⟨m, hw, by simp [skC, e]⟩) h
  obtain ⟨h5, h6⟩ := trod_cap2 Tryz.underlying36 h
  obtain ⟨e1, e2⟩ := in_of h1 h4 h5 h6
  exact ⟨l, e1, e2, h2⟩
theorem opens_Kids {a : Option Addr} {len cap : Nat} {d : DataW H} {ps : List MemPlace} (h : DataW.Trod enc Tryz.prog w base spare held 32 (.slice a len cap) d ps) : ∃ l : List Int, l.length = len ∧ InIs icI 1 w a cap l ∧ ∀ s ∈ l, (Lit.int .i64 s).wf = true := by
  obtain ⟨l, h1, h2, h3, h4⟩ := open_sl1 icI (fun x => (Lit.int .i64 x).wf = true) Tryz.underlying32 cells_intS (fun v n y hy => by
    obtain ⟨m, e, _, hw⟩ := DataW.trod_int Tryz.underlying3 hy
    simp at e
    exact ⟨m, hw, by simp [icI, e]⟩) h
  obtain ⟨h5, h6⟩ := trod_cap2 Tryz.underlying32 h
  obtain ⟨e1, e2⟩ := in_of h1 h4 h5 h6
  exact ⟨l, e1, e2, h2⟩
theorem dec_node (n : Nat) (cs : List Value) (y : DataW H × List MemPlace) (h : DataW.trod enc Tryz.prog w base spare held n 49 cs = some y) : ∃ x : Nd, (NdIn w x ∧ goodNd x) ∧ cs = ndC x := by
  obtain ⟨xs, n', _, hy, hl, hx, hf⟩ := DataW.trod_struct Tryz.underlying49 h
  rw [cells_node] at hl
  have h0 := hf 0 _ rfl
  have h1 := hf 1 _ rfl
  have h2 := hf 2 _ rfl
  have h3 := hf 3 _ rfl
  have h4 := hf 4 _ rfl
  simp only [List.getElem_toArray, List.getElem_cons_zero, List.getElem_cons_succ] at h0 h1 h2 h3 h4
  obtain ⟨y0, q0⟩ := xs_atS (j := 0) hx (by decide)
  rw [q0] at h0
  obtain ⟨y1, q1⟩ := xs_atS (j := 1) hx (by decide)
  rw [q1] at h1
  obtain ⟨y2, q2⟩ := xs_atS (j := 2) hx (by decide)
  rw [q2] at h2
  obtain ⟨y3, q3⟩ := xs_atS (j := 3) hx (by decide)
  rw [q3] at h3
  obtain ⟨y4, q4⟩ := xs_atS (j := 4) hx (by decide)
  rw [q4] at h4
  obtain ⟨a0, e0, _, w0⟩ := DataW.trod_int Tryz.underlying47 h0
  obtain ⟨a1, e1, _, w1⟩ := DataW.trod_string Tryz.underlying9 h1
  obtain ⟨a2, e2, _, w2⟩ := DataW.trod_int Tryz.underlying3 h2
  obtain ⟨ka, klen, kcap, e3, t3⟩ := cs_slice Tryz.underlying36 h3
  obtain ⟨keys, rfl, i3, g3⟩ := opens_Strs t3
  obtain ⟨da, dlen, dcap, e4, t4⟩ := cs_slice Tryz.underlying32 h4
  obtain ⟨kids, rfl, i4, g4⟩ := opens_Kids t4
  simp only [cells_kind, cells_strS, cells_intS, cells_strs, cells_ints] at e0 e1 e2 e3 e4
  clear hf h0 h1 h2 h3 h4 h
  match cs, hl with
  | [c0, c1, c2, c3, c4], _ =>
    simp at e0 e1 e2 e3 e4
    subst e0 e1 e2 e3 e4
    exact ⟨⟨a0, a1, a2, ka, kcap, keys, da, dcap, kids⟩, ⟨⟨i3, i4⟩, w0, w1, w2, g3, g4⟩, rfl⟩
theorem dec_func (n : Nat) (cs : List Value) (y : DataW H × List MemPlace) (h : DataW.trod enc Tryz.prog w base spare held n 38 cs = some y) : ∃ x : Fn', (FnIn w x ∧ goodFn x) ∧ cs = fnC x := by
  obtain ⟨xs, n', _, hy, hl, hx, hf⟩ := DataW.trod_struct Tryz.underlying38 h
  rw [cells_func] at hl
  have h0 := hf 0 _ rfl
  have h1 := hf 1 _ rfl
  have h2 := hf 2 _ rfl
  simp only [List.getElem_toArray, List.getElem_cons_zero, List.getElem_cons_succ] at h0 h1 h2
  obtain ⟨y0, q0⟩ := xs_atS (j := 0) hx (by decide)
  rw [q0] at h0
  obtain ⟨y1, q1⟩ := xs_atS (j := 1) hx (by decide)
  rw [q1] at h1
  obtain ⟨y2, q2⟩ := xs_atS (j := 2) hx (by decide)
  rw [q2] at h2
  obtain ⟨a0, e0, _, w0⟩ := DataW.trod_string Tryz.underlying9 h0
  obtain ⟨pa, plen, pcap, e1, t1⟩ := cs_slice Tryz.underlying36 h1
  obtain ⟨ps, rfl, i1, g1⟩ := opens_Strs t1
  obtain ⟨a2, e2, _, w2⟩ := DataW.trod_int Tryz.underlying3 h2
  simp only [cells_strS, cells_intS, cells_strs] at e0 e1 e2
  clear hf h0 h1 h2 h
  match cs, hl with
  | [c0, c1, c2], _ =>
    simp at e0 e1 e2
    subst e0 e1 e2
    exact ⟨⟨a0, pa, pcap, ps, a2⟩, ⟨i1, w0, g1, w2⟩, rfl⟩
theorem opens_Nodes {a : Option Addr} {len cap : Nat} {d : DataW H} {ps : List MemPlace} (h : DataW.Trod enc Tryz.prog w base spare held 22 (.slice a len cap) d ps) : ∃ l : List Nd, l.length = len ∧ (InIs ndC 5 w a cap l ∧ ∀ x ∈ l, NdIn w x) ∧ ∀ x ∈ l, goodNd x := by
  obtain ⟨l, h1, h2, h3⟩ := open_slN ndC (fun x => NdIn w x ∧ goodNd x) Tryz.underlying22 cells_node (by decide) ndC_len dec_node h
  have h4 := trod_cap Tryz.underlying22 h
  obtain ⟨h5, h6⟩ := trod_cap2 Tryz.underlying22 h
  obtain ⟨e1, e2⟩ := in_of h1 h4 h5 h6
  exact ⟨l, e1, ⟨e2, fun x hx => (h2 x hx).1⟩, fun x hx => (h2 x hx).2⟩
theorem opens_Funcs {a : Option Addr} {len cap : Nat} {d : DataW H} {ps : List MemPlace} (h : DataW.Trod enc Tryz.prog w base spare held 23 (.slice a len cap) d ps) : ∃ l : List Fn', l.length = len ∧ (InIs fnC 3 w a cap l ∧ ∀ x ∈ l, FnIn w x) ∧ ∀ x ∈ l, goodFn x := by
  obtain ⟨l, h1, h2, h3⟩ := open_slN fnC (fun x => FnIn w x ∧ goodFn x) Tryz.underlying23 cells_func (by decide) fnC_len dec_func h
  have h4 := trod_cap Tryz.underlying23 h
  obtain ⟨h5, h6⟩ := trod_cap2 Tryz.underlying23 h
  obtain ⟨e1, e2⟩ := in_of h1 h4 h5 h6
  exact ⟨l, e1, ⟨e2, fun x hx => (h2 x hx).1⟩, fun x hx => (h2 x hx).2⟩
theorem dec_progr (n : Nat) (cs : List Value) (y : DataW H × List MemPlace) (h : DataW.trod enc Tryz.prog w base spare held n 25 cs = some y) : ∃ x : Pr, (PrIn w x ∧ goodPr x) ∧ cs = prC x := by
  obtain ⟨xs, n', _, hy, hl, hx, hf⟩ := DataW.trod_struct Tryz.underlying25 h
  rw [cells_progr] at hl
  have h0 := hf 0 _ rfl
  have h1 := hf 1 _ rfl
  simp only [List.getElem_toArray, List.getElem_cons_zero, List.getElem_cons_succ] at h0 h1
  obtain ⟨y0, q0⟩ := xs_atS (j := 0) hx (by decide)
  rw [q0] at h0
  obtain ⟨y1, q1⟩ := xs_atS (j := 1) hx (by decide)
  rw [q1] at h1
  obtain ⟨na, nlen, ncap, e0, t0⟩ := cs_slice Tryz.underlying22 h0
  obtain ⟨ns, rfl, i0, g0⟩ := opens_Nodes t0
  obtain ⟨fa, flen, fcap, e1, t1⟩ := cs_slice Tryz.underlying23 h1
  obtain ⟨fs, rfl, i1, g1⟩ := opens_Funcs t1
  simp only [cells_nodes, cells_funcs] at e0 e1
  clear hf h0 h1 h
  match cs, hl with
  | [c0, c1], _ =>
    simp at e0 e1
    subst e0 e1
    exact ⟨⟨na, ncap, ns, fa, fcap, fs⟩, ⟨⟨i0, i1⟩, g0, g1⟩, rfl⟩
set_option maxRecDepth 100000 in
theorem open_Progr {r : Reach} {b0 : Nat} {v : Value} {d : DataW H} {ps : List MemPlace} (hv : Value.okWide Tryz.prog w r b0 25 v) (h : DataW.Trod enc Tryz.prog w base spare held 25 v d ps) : ∃ x : Pr, v = .agg (prC x).toArray ∧ (PrIn w x ∧ goodPr x) :=
  open_stN prC (fun x => PrIn w x ∧ goodPr x) Tryz.underlying25 dec_progr hv h
end
end Go.Proofs.YtolidiafomceiaaGreatDoor
