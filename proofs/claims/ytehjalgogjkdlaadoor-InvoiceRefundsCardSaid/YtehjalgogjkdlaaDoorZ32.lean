/- Chapter 54: openers of invoices; the walk of InvoiceTotals. Condition: the table of Itoa lies as the program lays it. Chapter 54: contract: the reference's Same, of invoices that are the same. No condition. -/
import Derived.Test.YtehjalgogjkdlaaDoorZ31
import Derived.Test.YtehjalgogjkdlaaDoorZ17
namespace Go.Proofs.YtehjalgogjkdlaaDoor
set_option linter.unusedVariables false
set_option linter.unusedSimpArgs false
open Go.RowKit Go.ChangeShapes Go.WideShapes Go.Deep
section
variable {H : Type} {enc : TypeId × Value → H} {w : World} {base : Nat} {spare : Nat → Bool} {held : Bool}
theorem cells_ln : Tryd.prog.cellsOf 63 = 6 := by kernel_rfl
theorem cells_lns : Tryd.prog.cellsOf 31 = 1 := by kernel_rfl
theorem cells_inv : Tryd.prog.cellsOf 33 = 6 := by kernel_rfl
theorem bytes_ln : Tryd.prog.bytesOf 63 = 56 := by kernel_rfl
/-- What is known of an invoice that came in. -/
def IvX.ok (w : World) (x : IvX) : Prop := (InIs lnC 6 w x.a x.cap x.i.ls ∧ x.i.good) ∧ x.i.ls.length * 56 ≤ 140737488355328
theorem dec_ln (n : Nat) (cs : List Value) (y : DataW H × List MemPlace) (h : DataW.trod enc Tryd.prog w base spare held n 63 cs = some y) : ∃ x : Ln, x.good ∧ cs = lnC x := by
  obtain ⟨xs, n', _, _, hl, hx, hf⟩ := DataW.trod_struct Tryd.underlying63 h
  rw [cells_ln] at hl
  have h0 := hf 0 _ rfl
  have h1 := hf 1 _ rfl
  have h2 := hf 2 _ rfl
  simp only [List.getElem_toArray, List.getElem_cons_zero, List.getElem_cons_succ] at h0 h1 h2
  obtain ⟨y0, q0⟩ := xs_at (j := 0) hx (by decide)
  obtain ⟨y1, q1⟩ := xs_at (j := 1) hx (by decide)
  obtain ⟨y2, q2⟩ := xs_at (j := 2) hx (by decide)
  rw [q0] at h0
  rw [q1] at h1
  rw [q2] at h2
  obtain ⟨a0, e0, _, w0⟩ := DataW.trod_string Tryd.underlying9 h0
  obtain ⟨a1, w1, e1⟩ := dec_us _ _ _ h1
  obtain ⟨a2, e2, _, w2⟩ := DataW.trod_int Tryd.underlying3 h2
  simp only [cells_int, cells_str, cells_us, usC] at e0 e1 e2
  clear hf h0 h1 h2 h
  match cs, hl with
  | [c0, c1, c2, c3, c4, c5], _ =>
    simp at e0 e1 e2
    obtain ⟨rfl, rfl, rfl, rfl⟩ := e1
    subst e0 e2
    exact ⟨⟨a0, a1, a2⟩, w0, rfl⟩
theorem dec_lns (n : Nat) (cs : List Value) (y : DataW H × List MemPlace) (hw : Wt Tryd.prog 31 y.1) (h : DataW.trod enc Tryd.prog w base spare held n 31 cs = some y) : ∃ (a : Option Addr) (c : Nat) (l : List Ln), cs = [.slice a l.length c] ∧ InIs lnC 6 w a c l ∧ (∀ x ∈ l, x.good) ∧ l.length ≤ maxLen ∧ l.length * 56 ≤ 140737488355328 := by
  obtain ⟨a, len, cap, rfl, ht⟩ := cs_slice Tryd.underlying31 h
  obtain ⟨l, h1, h2, h3⟩ := open_slN lnC Ln.good Tryd.underlying31 cells_ln (by decide) lnC_len dec_ln ht
  have h4 := trod_cap Tryd.underlying31 ht
  obtain ⟨h5, h6⟩ := trod_cap2 Tryd.underlying31 ht
  have h7 := wt_len Tryd.underlying31 ht hw
  rw [bytes_ln] at h7
  have hl : l.length = len := h1.1
  subst hl
  exact ⟨a, cap, l, rfl, ⟨h1, h4, h6, h5⟩, h2, h3, by unfold reachBytes at h7; omega⟩
theorem dec_inv (n : Nat) (cs : List Value) (y : DataW H × List MemPlace) (hw : Wt Tryd.prog 33 y.1) (h : DataW.trod enc Tryd.prog w base spare held n 33 cs = some y) : ∃ x : IvX, IvX.ok w x ∧ cs = ivC x := by
  obtain ⟨xs, n', _, hy, hl, hx, hf⟩ := DataW.trod_struct Tryd.underlying33 h
  rw [cells_inv] at hl
  have h0 := hf 0 _ rfl
  have h1 := hf 1 _ rfl
  have h2 := hf 2 _ rfl
  have h3 := hf 3 _ rfl
  have h4 := hf 4 _ rfl
  have h5 := hf 5 _ rfl
  simp only [List.getElem_toArray, List.getElem_cons_zero, List.getElem_cons_succ] at h0 h1 h2 h3 h4 h5
  obtain ⟨y0, q0⟩ := xs_at (j := 0) hx (by decide)
  obtain ⟨y1, q1⟩ := xs_at (j := 1) hx (by decide)
  obtain ⟨y2, q2⟩ := xs_at (j := 2) hx (by decide)
  obtain ⟨y3, q3⟩ := xs_at (j := 3) hx (by decide)
  obtain ⟨y4, q4⟩ := xs_at (j := 4) hx (by decide)
  obtain ⟨y5, q5⟩ := xs_at (j := 5) hx (by decide)
  rw [q0] at h0
  rw [q1] at h1
  rw [q2] at h2
  rw [q3] at h3
  rw [q4] at h4
  rw [q5] at h5
  have hw2 : Wt Tryd.prog 31 y2.1 := by
    rw [hy] at hw
    exact hw.field Tryd.underlying33 (j := 2) rfl (by rw [List.getElem?_map, q2]; rfl)
  obtain ⟨a0, e0, _, w0⟩ := DataW.trod_string Tryd.underlying9 h0
  obtain ⟨a1, e1, _, w1⟩ := DataW.trod_int Tryd.underlying3 h1
  obtain ⟨la, lc, ls, e2, g1, g2, g3, g4⟩ := dec_lns _ _ _ hw2 h2
  obtain ⟨a3, e3, _, w3⟩ := DataW.trod_int Tryd.underlying3 h3
  obtain ⟨a4, e4, _, w4⟩ := DataW.trod_int Tryd.underlying3 h4
  obtain ⟨a5, e5, _, w5⟩ := DataW.trod_int Tryd.underlying3 h5
  simp only [cells_int, cells_str, cells_lns] at e0 e1 e2 e3 e4 e5
  clear hf h0 h1 h2 h3 h4 h5 h
  match cs, hl with
  | [c0, c1, c2, c3, c4, c5], _ =>
    simp at e0 e1 e2 e3 e4 e5
    subst e0 e1 e2 e3 e4 e5
    exact ⟨⟨⟨a0, a1, ls, a3, a4, a5⟩, la, lc⟩, ⟨⟨g1, w0, g2, g3⟩, g4⟩, rfl⟩
theorem opens_Invs {a : Option Addr} {len cap : Nat} {d : DataW H} {ps : List MemPlace} (h : DataW.Trod enc Tryd.prog w base spare held 61 (.slice a len cap) d ps) (hw : Wt Tryd.prog 61 d) : ∃ l : List IvX, l.length = len ∧ SlIs ivC 6 w a len l ∧ (∀ x ∈ l, IvX.ok w x) ∧ len ≤ maxLen := by
  obtain ⟨l, h1, h2, h3⟩ := open_slZ ivC (IvX.ok w) Tryd.underlying61 cells_inv (by decide) ivC_len dec_inv h hw
  exact ⟨l, h1.1, h1, h2, h3⟩
set_option maxRecDepth 100000 in
theorem open_Inv {r : Reach} {b0 : Nat} {v : Value} {d : DataW H} {ps : List MemPlace} (hv : Value.okWide Tryd.prog w r b0 33 v) (h : DataW.Trod enc Tryd.prog w base spare held 33 v d ps) (hw : Wt Tryd.prog 33 d) : ∃ x : IvX, v = .agg (ivC x).toArray ∧ IvX.ok w x := by
  obtain ⟨cs, rfl, hsz⟩ := okWide_struct Tryd.underlying33 hv
  obtain ⟨fuel, hf⟩ := h
  obtain ⟨x, hg, hx⟩ := dec_inv _ _ _ hw hf
  have : cs.toList = ivC x := hx
  exact ⟨x, by rw [← this], hg⟩
end
end Go.Proofs.YtehjalgogjkdlaaDoor

namespace Go.Proofs.YtehjalgogjkdlaaDoor
set_option linter.unusedVariables false
set_option linter.unusedSimpArgs false
open Go.RowKit
def lnV (x : Ln) : Value := .agg #[.string x.fn, .int .i64 x.us.inv, .int .i64 x.us.steps, .int .i64 x.us.ticks, .int .i64 x.us.units, .int .i64 x.mi]
theorem structLn : Tryd.prog.underlying 63 = some (.struct (Tryd.prog.fieldsOf 63)) := by kernel_rfl
theorem heldLn : Tryd.prog.stoodInHeld 63 = false := by kernel_rfl
set_option maxRecDepth 100000 in
set_option maxHeartbeats 4000000 in
theorem eqlL_in (d : Nat) (a : Ln) (w : World) : (Op.equalIn (d + 3) 63 (lnV a) (lnV a)).run Tryd.prog w = .ok true w := by
  obtain ⟨a1, a5, a6⟩ := a
  have hU := fun w => eqlU_in d a5 a5 w
  rw [eqU_iff.2 rfl] at hU
  simp only [lnV]
  obtain ⟨a51, a52, a53, a54⟩ := a5
  simp only [usV] at hU ⊢
  rw [show d + 3 = (d + 2) + 1 from rfl, run_equalIn_struct w (d + 2) 63 _ _ structLn heldLn]
  simp only [Program.fieldsOf, Tryd.underlying63]
  go_simp
  (try simp [hU, listS])
theorem neqL (a : Ln) (w : World) : (binOp .neq 63 (lnV a) (lnV a)).run Tryd.prog w = .ok (.bool false) w := by
  unfold lnV
  rw [run_neq_struct]
  have := eqlL_in 9997 a w
  unfold lnV at this
  rw [this]
  rfl
structure SmI (w wr : World) (i : Inv) (a : Option Addr) (cap : Nat) (b : Option Addr) (cap2 : Nat) : Prop where
  x : wr.heap[w.heap.size]? = some (ivO i a cap)
  y : wr.heap[w.heap.size + 1]? = some (ivO i b cap2)
  chg : Chg [] w wr
set_option maxHeartbeats 4000000 in
set_option maxRecDepth 100000 in
theorem same54_any (i : Inv) (a b : Option Addr) (cap cap2 : Nat) (w : World) (h : SlIs lnC 6 w a i.ls.length i.ls) (h2 : SlIs lnC 6 w b i.ls.length i.ls) (hm : i.ls.length ≤ maxLen) : Calls Tryd.prog 10 #[ivV i a cap, ivV i b cap2] w fun e w' => e = .returned (.bool true) ∧ Chg [] w w' := by
  have H := Lib.hid h
  have H2 := Lib.hid h2
  obtain ⟨W1, hW1⟩ : ∃ W1, W1 = (w.alloc (ivO i a cap)).alloc (ivO i b cap2) := ⟨_, rfl⟩
  have I1 := Lib.hid (show SmI w W1 i a cap b cap2 from hW1 ▸ ⟨blk_alloc (heap_alloc_new _ _), by
    have := heap_alloc_new (w.alloc (ivO i a cap)) (ivO i b cap2)
    rwa [World.size_alloc] at this, ((Chg.refl _ _).alloc _).alloc _⟩)
  have HW1 := Lib.hid hW1
  have k1 := blk_cell I1.out.x
  have k2 := blk_cell I1.out.y
  have lt2 := lt_of_heap I1.out.y
  have hln : (i.ls.length : Int) ≤ 9223372036854775807 := by unfold maxLen at hm; omega
  unfold ivO at HW1 k1 k2
  unfold ivV
  clear h h2 hW1 hm
  go_enter Tryd.func10, Tryd.ntmps10
  go_wp2_with fail
  rw [← HW1.out]
  go_wp2_with fail
  clear k1 k2
  go_loopw [5] (fun j wr => ∃ k : Nat, j = .int .i64 k ∧ k ≤ i.ls.length ∧ Hid (SmI w wr i a cap b cap2)) (fun j _ => i.ls.length - (intOf j).toNat)
  case atStart => exact ⟨0, rfl, Nat.zero_le _, I1⟩
  case round =>
    obtain ⟨k, rfl, hk, HI⟩ := hrel
    have k1 := blk_cell HI.out.x
    have k2 := blk_cell HI.out.y
    have lt2 := lt_of_heap HI.out.y
    unfold ivO at k1 k2
    by_cases hkn : k < i.ls.length
    · obtain ⟨g1, o1, rfl, -, hbr1, hcc1⟩ := H.out.elem HI.out.chg k hkn
      obtain ⟨g2, o2, rfl, -, hbr2, hcc2⟩ := H2.out.elem HI.out.chg k hkn
      have d0 := hcc1 0 (by omega)
      have d1 := hcc1 1 (by omega)
      have d2 := hcc1 2 (by omega)
      have d3 := hcc1 3 (by omega)
      have d4 := hcc1 4 (by omega)
      have d5 := hcc1 5 (by omega)
      have e0 := hcc2 0 (by omega)
      have e1 := hcc2 1 (by omega)
      have e2 := hcc2 2 (by omega)
      have e3 := hcc2 3 (by omega)
      have e4 := hcc2 4 (by omega)
      have e5 := hcc2 5 (by omega)
      generalize i.ls[k] = x at *
      have qn := fun w => neqL x w
      unfold lnV at qn
      obtain ⟨fn, ⟨u1, u2, u3, u4⟩, mi⟩ := x
      simp only [lnC, List.getElem?_cons_zero, List.getElem?_cons_succ, Nat.add_zero] at d0 d1 d2 d3 d4 d5 e0 e1 e2 e3 e4 e5
      simp only at qn
      have hk0 : (0 : Int) ≤ (k : Int) := by omega
      have hk1 : (k : Int) < (i.ls.length : Int) := by omega
      have I4 := Lib.hid (fun n => show SmI w (wr.drewN n) i (some ⟨g1, o1, none⟩) cap (some ⟨g2, o2, none⟩) cap2 from ⟨HI.out.x, HI.out.y, HI.out.chg.drewN n⟩)
      clear hcc1 hcc2
      go_wp2_with fail
      go_quiet (fail)
      go_wp2_with fail
      exact ⟨⟨k + 1, by go_num, by omega, Lib.hid (I4.out _)⟩, by simp [intOf]; omega⟩
    · have hkn2 : ¬ (k : Int) < (i.ls.length : Int) := by omega
      go_wp2_with fail
      go_ret
      exact ⟨rfl, HI.out.chg⟩
end Go.Proofs.YtehjalgogjkdlaaDoor
