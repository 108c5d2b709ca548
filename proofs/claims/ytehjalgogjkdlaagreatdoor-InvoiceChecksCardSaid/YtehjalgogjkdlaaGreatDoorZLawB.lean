/- Chapter 54: openers of invoices; the walk of InvoiceTotals. Condition: the table of Itoa lies as the program lays it. -/
import Derived.Test.YtehjalgogjkdlaaGreatDoorZ30
import Derived.Test.YtehjalgogjkdlaaGreatDoorZ16
namespace Go.Proofs.YtehjalgogjkdlaaGreatDoor
set_option linter.unusedVariables false
set_option linter.unusedSimpArgs false
open Go.RowKit Go.ChangeShapes Go.WideShapes Go.Deep
section
variable {H : Type} {enc : TypeId × Value → H} {w : World} {base : Nat} {spare : Nat → Bool} {held : Bool}
theorem cells_ln : Tryz.prog.cellsOf 74 = 6 := by kernel_rfl
theorem cells_lns : Tryz.prog.cellsOf 29 = 1 := by kernel_rfl
theorem cells_inv : Tryz.prog.cellsOf 31 = 6 := by kernel_rfl
theorem bytes_ln : Tryz.prog.bytesOf 74 = 56 := by kernel_rfl
/-- What is known of an invoice that came in. -/
def IvX.ok (w : World) (x : IvX) : Prop := (InIs lnC 6 w x.a x.cap x.i.ls ∧ x.i.good) ∧ x.i.ls.length * 56 ≤ 140737488355328
theorem dec_ln (n : Nat) (cs : List Value) (y : DataW H × List MemPlace) (h : DataW.trod enc Tryz.prog w base spare held n 74 cs = some y) : ∃ x : Ln, x.good ∧ cs = lnC x := by
  obtain ⟨xs, n', _, _, hl, hx, hf⟩ := DataW.trod_struct Tryz.underlying74 h
  rw [cells_ln] at hl
  have h0 := hf 0 _ rfl
  have h1 := hf 1 _ rfl
  have h2 := hf 2 _ rfl
  simp only [List.getElem_toArray, List.getElem_cons_zero, List.getElem_cons_succ] at h0 h1 h2
  obtain ⟨y0, q0⟩ := xs_at (j := 0) hx (by decide)
  obtain ⟨y1, q1⟩ := xs_at (j := 1) hx (by decide)
  obtain ⟨y2, q2⟩ := xs_at (j := 2) hx (by decide)
  rw [q0] at h0
  rw [q1] at h1
  rw [q2] at h2
  obtain ⟨a0, e0, _, w0⟩ := DataW.trod_string Tryz.underlying9 h0
  obtain ⟨a1, w1, e1⟩ := dec_us _ _ _ h1
  obtain ⟨a2, e2, _, w2⟩ := DataW.trod_int Tryz.underlying3 h2
  simp only [cells_int, cells_str, cells_us, usC] at e0 e1 e2
  clear hf h0 h1 h2 h
  match cs, hl with
  | [c0, c1, c2, c3, c4, c5], _ =>
    simp at e0 e1 e2
    obtain ⟨rfl, rfl, rfl, rfl⟩ := e1
    subst e0 e2
    exact ⟨⟨a0, a1, a2⟩, w0, rfl⟩
theorem dec_lns (n : Nat) (cs : List Value) (y : DataW H × List MemPlace) (hw : Wt Tryz.prog 29 y.1) (h : DataW.trod enc Tryz.prog w base spare held n 29 cs = some y) : ∃ (a : Option Addr) (c : Nat) (l : List Ln), cs = [.slice a l.length c] ∧ InIs lnC 6 w a c l ∧ (∀ x ∈ l, x.good) ∧ l.length ≤ maxLen ∧ l.length * 56 ≤ 140737488355328 := by
  obtain ⟨a, len, cap, rfl, ht⟩ := cs_slice Tryz.underlying29 h
  obtain ⟨l, h1, h2, h3⟩ := open_slN lnC Ln.good Tryz.underlying29 cells_ln (by decide) lnC_len dec_ln ht
  have h4 := trod_cap Tryz.underlying29 ht
  obtain ⟨h5, h6⟩ := trod_cap2 Tryz.underlying29 ht
  have h7 := wt_len Tryz.underlying29 ht hw
  rw [bytes_ln] at h7
  have hl : l.length = len := h1.1
  subst hl
  exact ⟨a, cap, l, rfl, ⟨h1, h4, h6, h5⟩, h2, h3, by unfold reachBytes at h7; omega⟩
theorem dec_inv (n : Nat) (cs : List Value) (y : DataW H × List MemPlace) (hw : Wt Tryz.prog 31 y.1) (h : DataW.trod enc Tryz.prog w base spare held n 31 cs = some y) : ∃ x : IvX, IvX.ok w x ∧ cs = ivC x := by
  obtain ⟨xs, n', _, hy, hl, hx, hf⟩ := DataW.trod_struct Tryz.underlying31 h
  rw [cells_inv] at hl
  have h0 := hf 0 _ rfl
  have h1 := hf 1 _ rfl
  have h2 := hf 2 _ rfl
  have h3 := hf 3 _ rfl
  have h4 := hf 4 _ rfl
  have h5 := hf 5 _ rfl
  simp only [List.getElem_toArray, List.getElem_cons_zero, List.getElem_cons_succ] at h0 h1 h2 h3 h4 h5
  obtain ⟨y0, q0⟩ := xs_at (j := 0) hx (by decide)
  obtain ⟨y1, q1⟩ := xs_at (j := 1) hx (by decide)
  obtain ⟨y2, q2⟩ := xs_at (j := 2) hx (by decide)
  obtain ⟨y3, q3⟩ := xs_at (j := 3) hx (by decide)
  obtain ⟨y4, q4⟩ := xs_at (j := 4) hx (by decide)
  obtain ⟨y5, q5⟩ := xs_at (j := 5) hx (by decide)
  rw [q0] at h0
  rw [q1] at h1
  rw [q2] at h2
  rw [q3] at h3
  rw [q4] at h4
  rw [q5] at h5
  have hw2 : Wt Tryz.prog 29 y2.1 := by
    rw [hy] at hw
    exact hw.field Tryz.underlying31 (j := 2) rfl (by rw [List.getElem?_map, q2]; rfl)
  obtain ⟨a0, e0, _, w0⟩ := DataW.trod_string Tryz.underlying9 h0
  obtain ⟨a1, e1, _, w1⟩ := DataW.trod_int Tryz.underlying3 h1
  obtain ⟨la, lc, ls, e2, g1, g2, g3, g4⟩ := dec_lns _ _ _ hw2 h2
  obtain ⟨a3, e3, _, w3⟩ := DataW.trod_int Tryz.underlying3 h3
  obtain ⟨a4, e4, _, w4⟩ := DataW.trod_int Tryz.underlying3 h4
  obtain ⟨a5, e5, _, w5⟩ := DataW.trod_int Tryz.underlying3 h5
  simp only [cells_int, cells_str, cells_lns] at e0 e1 e2 e3 e4 e5
  clear hf h0 h1 h2 h3 h4 h5 h
  match cs, hl with
  | [c0, c1, c2, c3, c4, c5], _ =>
    simp at e0 e1 e2 e3 e4 e5
    subst e0 e1 e2 e3 e4 e5
    exact ⟨⟨⟨a0, a1, ls, a3, a4, a5⟩, la, lc⟩, ⟨⟨g1, w0, g2, g3⟩, g4⟩, rfl⟩
theorem opens_Invs {a : Option Addr} {len cap : Nat} {d : DataW H} {ps : List MemPlace} (h : DataW.Trod enc Tryz.prog w base spare held 41 (.slice a len cap) d ps) (hw : Wt Tryz.prog 41 d) : ∃ l : List IvX, l.length = len ∧ SlIs ivC 6 w a len l ∧ (∀ x ∈ l, IvX.ok w x) ∧ len ≤ maxLen := by
  obtain ⟨l, h1, h2, h3⟩ := open_slZ ivC (IvX.ok w) Tryz.underlying41 cells_inv (by decide) ivC_len dec_inv h hw
  exact ⟨l, h1.1, h1, h2, h3⟩
set_option maxRecDepth 100000 in
theorem open_Inv {r : Reach} {b0 : Nat} {v : Value} {d : DataW H} {ps : List MemPlace} (hv : Value.okWide Tryz.prog w r b0 31 v) (h : DataW.Trod enc Tryz.prog w base spare held 31 v d ps) (hw : Wt Tryz.prog 31 d) : ∃ x : IvX, v = .agg (ivC x).toArray ∧ IvX.ok w x := by
  obtain ⟨cs, rfl, hsz⟩ := okWide_struct Tryz.underlying31 hv
  obtain ⟨fuel, hf⟩ := h
  obtain ⟨x, hg, hx⟩ := dec_inv _ _ _ hw hf
  have : cs.toList = ivC x := hx
  exact ⟨x, by rw [← this], hg⟩
end
set_option maxHeartbeats 4000000 in
set_option maxRecDepth 100000 in
theorem totals_walk (a0 : Option Addr) (len0 cap0 : Nat) (l0 : List IvX) (w : World) (w0 : l0.length = len0 ∧ SlIs ivC 6 w a0 len0 l0 ∧ (∀ x ∈ l0, IvX.ok w x) ∧ len0 ≤ maxLen) (ht : TabW w) :
    Calls Tryz.prog 5 #[.slice a0 len0 cap0] w fun e w' => e = .returned (.bool true) ∧ Below w.heap.size w w' := by
  obtain ⟨rfl, hs, ho, hm⟩ := w0
  have HI := Lib.hid (show ILs w a0 l0 from ⟨hs, fun x hx => (ho x hx).1⟩)
  have HT := Lib.hid ht
  have A1 := Lib.hid (fun w' (hc : Chg [] w w') => total54_any l0 a0 cap0 w' (HI.out.kept hc) hm)
  have A2 := Lib.hid (fun w' (hc : Chg [] w w') => rtotal54_any l0 a0 cap0 w' (HI.out.kept hc) hm)
  generalize totZ (l0.map IvX.i) = Z at *
  obtain ⟨z1, z2⟩ := Z
  simp only at A1 A2
  clear hs ho ht
  go_enter Tryz.func5, Tryz.ntmps5
  go_wp2_with fail
  refine (A1.out _ (Chg.refl _ _)).mono ?_; rintro e w1 ⟨rfl, hc1⟩
  have C1 := Lib.hid hc1
  clear hc1
  go_wp2_with fail
  refine (A2.out _ C1.out).mono ?_; rintro e w2 ⟨rfl, hc2⟩
  have C2 := Lib.hid (C1.out.thenSame hc2)
  clear hc2
  go_wp2_with fail
  refine (awake54_any _ (HT.out.kept C2.out)).mono ?_; rintro e w7 ⟨rfl, hc7⟩
  have C7 := Lib.hid (C2.out.thenSame hc7)
  clear hc7
  go_wp2_with fail
  go_ret
  exact ⟨rfl, C7.out.toBelow (Nat.le_refl _) (by simp)⟩
end Go.Proofs.YtehjalgogjkdlaaGreatDoor
