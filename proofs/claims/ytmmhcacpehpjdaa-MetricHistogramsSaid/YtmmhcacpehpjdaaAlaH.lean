/- Chapters 18, 19: the data of the statements, opened. No condition. -/
import Derived.Test.YtmmhcacpehpjdaaAlaA
import Derived.Test.YtmmhcacpehpjdaaMetC
import Derived.Test.YtmmhcacpehpjdaaRown
namespace Go.Proofs.Ytmmhcacpehpjdaa
set_option linter.unusedVariables false
set_option linter.unusedSimpArgs false
open Go.RowKit Go.ChangeShapes Go.WideShapes

theorem dec_Sd {H : Type} {enc : TypeId × Value → H} {w : World} {base : Nat} {spare : Nat → Bool} {held : Bool} {fs : Array Field} (hfs : Try.prog.underlying 26 = some (.struct fs)) (f : Nat → Value)
    (h : ∀ (j : Nat) (fd : Field), fs[j]? = some fd → ∃ (y : DataW H × List MemPlace) (n : Nat), DataW.trod enc Try.prog w base spare held n fd.type [f j] = some y) : ∃ x : Sd, x.good ∧ ∀ j, j < fs.size → (sCells x)[j]? = some (f j) := by
  rw [Try.underlying26] at hfs
  cases hfs
  obtain ⟨y0, n0, h0⟩ := h 0 _ rfl
  obtain ⟨a0, e0, _, w0⟩ := DataW.trod_int Try.underlying3 h0
  obtain ⟨y1, n1, h1⟩ := h 1 _ rfl
  obtain ⟨a1, e1, _, w1⟩ := DataW.trod_int Try.underlying3 h1
  obtain ⟨y2, n2, h2⟩ := h 2 _ rfl
  obtain ⟨a2, e2, _, w2⟩ := DataW.trod_int Try.underlying3 h2
  obtain ⟨y3, n3, h3⟩ := h 3 _ rfl
  obtain ⟨a3, e3, _, w3⟩ := DataW.trod_int Try.underlying3 h3
  simp only [List.cons.injEq, and_true] at e0 e1 e2 e3
  refine ⟨⟨a0, a1, a2, a3⟩, ⟨w0, w1, w2, w3⟩, fun j hj => ?_⟩
  match j, hj with
  | 0, _ => simp [sCells, e0]
  | 1, _ => simp [sCells, e1]
  | 2, _ => simp [sCells, e2]
  | 3, _ => simp [sCells, e3]
theorem open_Sd {H : Type} {enc : TypeId × Value → H} {w : World} {base : Nat} {spare : Nat → Bool} {held : Bool} {r : Reach} {b0 : Nat} {v : Value} {d : DataW H} {ps : List MemPlace}
    (hv : Value.okWide Try.prog w r b0 26 v) (h : DataW.Trod enc Try.prog w base spare held 26 v d ps) : ∃ x : Sd, v = .agg (sCells x).toArray ∧ x.good :=
  open_st sCells Sd.good Try.underlying26 (by kernel_rfl) (by kernel_rfl) (fun _ => rfl) (dec_Sd Try.underlying26) hv h
theorem opens_Sd {H : Type} {enc : TypeId × Value → H} {w : World} {base : Nat} {spare : Nat → Bool} {held : Bool} {a : Option Addr} {len cap : Nat} {d : DataW H} {ps : List MemPlace}
    (h : DataW.Trod enc Try.prog w base spare held 33 (.slice a len cap) d ps) : ∃ l : List Sd, SlIs sCells 4 w a len l ∧ (∀ x ∈ l, x.good) ∧ len ≤ maxLen ∧ len ≤ cap := by
  obtain ⟨l, h1, h2, h3⟩ := open_sl sCells Sd.good Try.underlying33 Try.underlying26 (by kernel_rfl) (by kernel_rfl) (by decide) (fun _ => rfl) (dec_Sd Try.underlying26) h
  exact ⟨l, h1, h2, h3, trod_cap Try.underlying33 h⟩
theorem dec_Pt {H : Type} {enc : TypeId × Value → H} {w : World} {base : Nat} {spare : Nat → Bool} {held : Bool} {fs : Array Field} (hfs : Try.prog.underlying 47 = some (.struct fs)) (f : Nat → Value)
    (h : ∀ (j : Nat) (fd : Field), fs[j]? = some fd → ∃ (y : DataW H × List MemPlace) (n : Nat), DataW.trod enc Try.prog w base spare held n fd.type [f j] = some y) : ∃ x : Pt, x.good ∧ ∀ j, j < fs.size → (pCells x)[j]? = some (f j) := by
  rw [Try.underlying47] at hfs
  cases hfs
  obtain ⟨y0, n0, h0⟩ := h 0 _ rfl
  obtain ⟨a0, e0, _, w0⟩ := DataW.trod_int Try.underlying3 h0
  obtain ⟨y1, n1, h1⟩ := h 1 _ rfl
  obtain ⟨a1, e1, _, w1⟩ := DataW.trod_int Try.underlying3 h1
  simp only [List.cons.injEq, and_true] at e0 e1
  refine ⟨⟨a0, a1⟩, ⟨w0, w1⟩, fun j hj => ?_⟩
  match j, hj with
  | 0, _ => simp [pCells, e0]
  | 1, _ => simp [pCells, e1]
theorem open_Pt {H : Type} {enc : TypeId × Value → H} {w : World} {base : Nat} {spare : Nat → Bool} {held : Bool} {r : Reach} {b0 : Nat} {v : Value} {d : DataW H} {ps : List MemPlace}
    (hv : Value.okWide Try.prog w r b0 47 v) (h : DataW.Trod enc Try.prog w base spare held 47 v d ps) : ∃ x : Pt, v = .agg (pCells x).toArray ∧ x.good :=
  open_st pCells Pt.good Try.underlying47 (by kernel_rfl) (by kernel_rfl) (fun _ => rfl) (dec_Pt Try.underlying47) hv h
theorem opens_Pt {H : Type} {enc : TypeId × Value → H} {w : World} {base : Nat} {spare : Nat → Bool} {held : Bool} {a : Option Addr} {len cap : Nat} {d : DataW H} {ps : List MemPlace}
    (h : DataW.Trod enc Try.prog w base spare held 34 (.slice a len cap) d ps) : ∃ l : List Pt, SlIs pCells 2 w a len l ∧ (∀ x ∈ l, x.good) ∧ len ≤ maxLen ∧ len ≤ cap := by
  obtain ⟨l, h1, h2, h3⟩ := open_sl pCells Pt.good Try.underlying34 Try.underlying47 (by kernel_rfl) (by kernel_rfl) (by decide) (fun _ => rfl) (dec_Pt Try.underlying47) h
  exact ⟨l, h1, h2, h3, trod_cap Try.underlying34 h⟩
theorem dec_Rd {H : Type} {enc : TypeId × Value → H} {w : World} {base : Nat} {spare : Nat → Bool} {held : Bool} {fs : Array Field} (hfs : Try.prog.underlying 24 = some (.struct fs)) (f : Nat → Value)
    (h : ∀ (j : Nat) (fd : Field), fs[j]? = some fd → ∃ (y : DataW H × List MemPlace) (n : Nat), DataW.trod enc Try.prog w base spare held n fd.type [f j] = some y) : ∃ x : Rd, x.good ∧ ∀ j, j < fs.size → (rdCells x)[j]? = some (f j) := by
  rw [Try.underlying24] at hfs
  cases hfs
  obtain ⟨y0, n0, h0⟩ := h 0 _ rfl
  obtain ⟨a0, e0, _, w0⟩ := DataW.trod_int Try.underlying22 h0
  obtain ⟨y1, n1, h1⟩ := h 1 _ rfl
  obtain ⟨a1, e1, _⟩ := DataW.trod_bool Try.underlying4 h1
  obtain ⟨y2, n2, h2⟩ := h 2 _ rfl
  obtain ⟨a2, e2, _, w2⟩ := DataW.trod_int Try.underlying3 h2
  obtain ⟨y3, n3, h3⟩ := h 3 _ rfl
  obtain ⟨a3, e3, _, w3⟩ := DataW.trod_int Try.underlying3 h3
  obtain ⟨y4, n4, h4⟩ := h 4 _ rfl
  obtain ⟨a4, e4, _, w4⟩ := DataW.trod_int Try.underlying3 h4
  obtain ⟨y5, n5, h5⟩ := h 5 _ rfl
  obtain ⟨a5, e5, _, w5⟩ := DataW.trod_int Try.underlying3 h5
  obtain ⟨y6, n6, h6⟩ := h 6 _ rfl
  obtain ⟨a6, e6, _⟩ := DataW.trod_bool Try.underlying4 h6
  simp only [List.cons.injEq, and_true] at e0 e1 e2 e3 e4 e5 e6
  refine ⟨⟨a0, a1, a2, a3, a4, a5, a6⟩, ⟨w0, w2, w3, w4, w5⟩, fun j hj => ?_⟩
  match j, hj with
  | 0, _ => simp [rdCells, e0]
  | 1, _ => simp [rdCells, e1]
  | 2, _ => simp [rdCells, e2]
  | 3, _ => simp [rdCells, e3]
  | 4, _ => simp [rdCells, e4]
  | 5, _ => simp [rdCells, e5]
  | 6, _ => simp [rdCells, e6]
theorem open_Rd {H : Type} {enc : TypeId × Value → H} {w : World} {base : Nat} {spare : Nat → Bool} {held : Bool} {r : Reach} {b0 : Nat} {v : Value} {d : DataW H} {ps : List MemPlace}
    (hv : Value.okWide Try.prog w r b0 24 v) (h : DataW.Trod enc Try.prog w base spare held 24 v d ps) : ∃ x : Rd, v = .agg (rdCells x).toArray ∧ x.good :=
  open_st rdCells Rd.good Try.underlying24 (by kernel_rfl) (by kernel_rfl) (fun _ => rfl) (dec_Rd Try.underlying24) hv h
end Go.Proofs.Ytmmhcacpehpjdaa
