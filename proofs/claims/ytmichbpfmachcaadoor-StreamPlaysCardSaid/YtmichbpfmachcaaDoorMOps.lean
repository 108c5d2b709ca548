/- Chapter 30: the law's operations. No condition. Chapter 30: the law's operations; contract: small. No condition. Chapter 30: the openers of the law's operations. No condition. -/
import Derived.Test.YtmichbpfmachcaaDoorStmB
import Derived.Test.YtmichbpfmachcaaDoorStmV
import Derived.Test.YtmichbpfmachcaaDoorNest
namespace Go.Proofs.YtmichbpfmachcaaDoor
set_option linter.unusedVariables false
set_option linter.unusedSimpArgs false
open Go.RowKit
structure OpS where
  kind : Int
  e : Ev
  now : Int
  shard : Int
  from_ : Int
  most : Int
def opC (x : OpS) : List Value := .int .i64 x.kind :: (evC x.e ++ [.int .i64 x.now, .int .i64 x.shard, .int .i64 x.from_, .int .i64 x.most])
theorem opC_len (x : OpS) : (opC x).length = 12 := rfl
end Go.Proofs.YtmichbpfmachcaaDoor
namespace Go.Proofs.YtmichbpfmachcaaDoor
set_option linter.unusedVariables false
set_option linter.unusedSimpArgs false
open Go.RowKit
def smallC (c : Ce) : Bool := decide (c.str.size ≤ 250)
def smallE (e : PEv) : Bool := decide (e.id.size ≤ 100) && decide (e.tn.size ≤ 100) && decide (e.src.size ≤ 100) && decide (e.key.size ≤ 100) && decide (e.cause.size ≤ 100) && decide (e.body.length ≤ 60) && e.body.all smallC
def smallOps (l : List OpS) : Bool := decide (l.length ≤ 60) && l.all (fun x => smallE x.e.p)
def OpsIn (w : World) (a : Option Addr) (l : List OpS) : Prop := SlIs opC 12 w a l.length l ∧ ∀ x ∈ l, InIs ceC 4 w x.e.ba x.e.bc x.e.p.body
theorem all_take_no {α : Type} {p : α → Bool} {l : List α} {k : Nat} (h : k < l.length) (hp : p l[k] = false) : l.all p = false := by
  rw [List.all_eq_false]
  exact ⟨l[k], List.getElem_mem h, by rw [hp]; simp⟩
theorem all_take_yes {α : Type} {p : α → Bool} {l : List α} {k : Nat} (h : k < l.length) (ha : (l.take k).all p = true) (hp : p l[k] = true) : (l.take (k + 1)).all p = true := by
  rw [List.take_succ_eq_append_getElem h, List.all_append, ha]
  simp [hp]
theorem smallE_no {x1 x2 x3 x4 x6 : ByteArray} {x5 : Int} {x7 : List Ce} (h : 100 < x1.size ∨ 100 < x2.size ∨ 100 < x3.size ∨ 100 < x4.size ∨ 100 < x6.size ∨ 60 < x7.length) : smallE ⟨x1, x2, x3, x4, x5, x6, x7⟩ = false := by
  unfold smallE
  rcases h with h | h | h | h | h | h
  all_goals simp [Nat.not_le.2 h]
theorem smallE_no2 {x1 x2 x3 x4 x6 : ByteArray} {x5 : Int} {x7 : List Ce} (h : x7.all smallC = false) : smallE ⟨x1, x2, x3, x4, x5, x6, x7⟩ = false := by
  unfold smallE
  simp only [h, Bool.and_false]
theorem smallE_yes {x1 x2 x3 x4 x6 : ByteArray} {x5 : Int} {x7 : List Ce} (h1 : x1.size ≤ 100) (h2 : x2.size ≤ 100) (h3 : x3.size ≤ 100) (h4 : x4.size ≤ 100) (h6 : x6.size ≤ 100) (h7 : x7.length ≤ 60) (h : x7.all smallC = true) : smallE ⟨x1, x2, x3, x4, x5, x6, x7⟩ = true := by
  unfold smallE
  simp only [h, decide_eq_true h1, decide_eq_true h2, decide_eq_true h3, decide_eq_true h4, decide_eq_true h6, decide_eq_true h7, Bool.and_true]
theorem opsNo {l : List OpS} {k : Nat} (hk : k < l.length) {e : PEv} (hx : smallE (l[k]'hk).e.p = smallE e) (h : smallE e = false) : smallOps l = false := by
  unfold smallOps
  have h2 : l.all (fun x => smallE x.e.p) = false := all_take_no hk (hx.trans h)
  rw [h2]
  exact Bool.and_false _
theorem opsYes {l : List OpS} {k : Nat} (hk : k < l.length) {e : PEv} (hx : smallE (l[k]'hk).e.p = smallE e) (h : smallE e = true) (ha : (l.take k).all (fun x => smallE x.e.p) = true) : (l.take (k + 1)).all (fun x => smallE x.e.p) = true := by
  rw [List.take_succ_eq_append_getElem hk, List.all_append, ha, Bool.true_and]
  simp only [List.all_cons, List.all_nil, Bool.and_true]
  exact hx.trans h
theorem smallC_no {y : Ce} (h : 250 < y.str.size) : smallC y = false := decide_eq_false (by omega)
theorem smallC_yes {y : Ce} (h : y.str.size ≤ 250) : smallC y = true := decide_eq_true h
set_option maxHeartbeats 4000000 in
set_option maxRecDepth 100000 in
theorem smallOps_any (a : Option Addr) (c : Nat) (l : List OpS) (w : World) (h : OpsIn w a l) :
    Calls Tryd.prog 9 #[.slice a l.length c] w fun e w' => e = .returned (.bool (smallOps l)) ∧ Chg [] w w' := by
  obtain ⟨R, hR⟩ : ∃ R, R = smallOps l := ⟨_, rfl⟩
  rw [← hR]
  have HR := Lib.hid hR
  have H := Lib.hid h
  clear h hR
  by_cases h60 : 60 < l.length
  · have HE : Hid (R = false) := Lib.hid (by rw [HR.out]; unfold smallOps; rw [decide_eq_false (by omega)]; rfl)
    have h60' : (60 : Int) < (l.length : Int) := by omega
    go_enter Tryd.func9, Tryd.ntmps9
    go_wp2_with fail
    go_ret
    exact ⟨by rw [HE.out]; rfl, Chg.refl _ _⟩
  have h60' : (l.length : Int) ≤ 60 := by omega
  go_enter Tryd.func9, Tryd.ntmps9
  go_wp2_with fail
  go_loopw [11] (fun i wr => ∃ k : Nat, i = .int .i64 k ∧ k ≤ l.length ∧ Hid ((l.take k).all (fun x => smallE x.e.p) = true) ∧ Hid (Chg [] w wr)) (fun i _ => l.length - (intOf i).toNat)
  case atStart => exact ⟨0, rfl, Nat.zero_le _, Lib.hid (by simp), Lib.hid (Chg.refl _ _)⟩
  case round =>
    obtain ⟨k, rfl, hkl, HS, D⟩ := hrel
    by_cases hk : k < l.length
    · have HK := Lib.hid hk
      obtain ⟨g1, o1, rfl, -, hbr1, hcc1⟩ := H.out.1.elem D.out k hk
      have i1 := (H.out.2 _ (List.getElem_mem hk)).kept D.out
      have hk0 : (0 : Int) ≤ (k : Int) := by omega
      have hk1 : (k : Int) < (l.length : Int) := by omega
      generalize hx : l[k] = x at *
      have HX0 := Lib.hid (congrArg (fun z : OpS => smallE z.e.p) hx)
      have d1 := hcc1 1 (by omega)
      have d2 := hcc1 2 (by omega)
      have d3 := hcc1 3 (by omega)
      have d4 := hcc1 4 (by omega)
      have d5 := hcc1 5 (by omega)
      have d6 := hcc1 6 (by omega)
      have d7 := hcc1 7 (by omega)
      simp only [opC, evC, List.cons_append, List.getElem?_cons_zero, List.getElem?_cons_succ, Nat.add_zero] at d1 d2 d3 d4 d5 d6 d7
      obtain ⟨kd, ⟨⟨x1, x2, x3, x4, x5, x6, x7⟩, xa, xc⟩, nw, sh, fr, ms⟩ := x
      simp only at d1 d2 d3 d4 d5 d6 d7 i1
      have HX : Hid (smallE (l[k]'HK.out).e.p = smallE ⟨x1, x2, x3, x4, x5, x6, x7⟩) := Lib.hid HX0.out
      clear HX0
      have I1 := Lib.hid i1
      obtain ⟨W1, hW1⟩ : ∃ W1, W1 = wr.alloc (.cells #[.string x1, .string x2, .string x3, .string x4, .int .i64 x5, .string x6, .slice xa x7.length xc] 25) := ⟨_, rfl⟩
      have K1 := Lib.hid (show Chg [] wr W1 by rw [hW1]; exact (Chg.refl _ _).alloc _)
      have B := Lib.hid (show W1.heap[wr.heap.size]? = some (.cells #[.string x1, .string x2, .string x3, .string x4, .int .i64 x5, .string x6, .slice xa x7.length xc] 25 (0, 0)) by rw [hW1]; exact heap_alloc_new _ _)
      have b := blk_cell B.out
      have D2 := Lib.hid (D.out.thenSame K1.out)
      have HW1 := Lib.hid hW1
      clear hW1
      clear hcc1 i1 hx
      go_upto_region 7 with fail
      rw [← HW1.out]
      clear d1 d2 d3 d4 d5 d6 d7
      by_cases q1 : 100 < (x1.size : Int)
      · have HE : Hid (R = false) := Lib.hid (HR.out.trans (opsNo HK.out HX.out (smallE_no (by omega))))
        go_wp2_with fail
        go_ret
        exact ⟨by rw [HE.out]; rfl, D2.out⟩
      by_cases q2 : 100 < (x2.size : Int)
      · have HE : Hid (R = false) := Lib.hid (HR.out.trans (opsNo HK.out HX.out (smallE_no (by omega))))
        go_wp2_with fail
        go_ret
        exact ⟨by rw [HE.out]; rfl, D2.out⟩
      by_cases q3 : 100 < (x3.size : Int)
      · have HE : Hid (R = false) := Lib.hid (HR.out.trans (opsNo HK.out HX.out (smallE_no (by omega))))
        go_wp2_with fail
        go_ret
        exact ⟨by rw [HE.out]; rfl, D2.out⟩
      by_cases q4 : 100 < (x4.size : Int)
      · have HE : Hid (R = false) := Lib.hid (HR.out.trans (opsNo HK.out HX.out (smallE_no (by omega))))
        go_wp2_with fail
        go_ret
        exact ⟨by rw [HE.out]; rfl, D2.out⟩
      by_cases q5 : 100 < (x6.size : Int)
      · have HE : Hid (R = false) := Lib.hid (HR.out.trans (opsNo HK.out HX.out (smallE_no (by omega))))
        go_wp2_with fail
        go_ret
        exact ⟨by rw [HE.out]; rfl, D2.out⟩
      by_cases q6 : 60 < (x7.length : Int)
      · have HE : Hid (R = false) := Lib.hid (HR.out.trans (opsNo HK.out HX.out (smallE_no (by omega))))
        go_wp2_with fail
        go_ret
        exact ⟨by rw [HE.out]; rfl, D2.out⟩
      have HI2 := Lib.hid (fun (w' : World) (hc : Chg [] wr w') => I1.out.kept hc)
      go_wp2_with fail
      go_loop [56] (fun j => ∃ p : Nat, j = .int .i64 p ∧ p ≤ x7.length ∧ Hid ((x7.take p).all smallC = true)) (fun j => x7.length - (intOf j).toNat)
      case atStart => exact ⟨0, rfl, Nat.zero_le _, Lib.hid (by simp)⟩
      case round =>
        obtain ⟨p, rfl, hp, HA⟩ := hrel
        have p0 : (0 : Int) ≤ (p : Int) := by omega
        by_cases hpl : p < x7.length
        · obtain ⟨g2, o2, rfl, -, hbr2, hcc2⟩ := I1.out.1.elem K1.out p hpl
          have c2 := hcc2 2 (by omega)
          have HP := Lib.hid hpl
          have p1 : (p : Int) < (x7.length : Int) := by omega
          generalize hy : x7[p] = y at *
          have HY : Hid (smallC (x7[p]'HP.out) = smallC y) := Lib.hid (congrArg smallC hy)
          simp only [ceC, List.getElem?_cons_zero, List.getElem?_cons_succ] at c2
          clear hcc2 hy
          by_cases q7 : 250 < (y.str.size : Int)
          · have HE : Hid (R = false) := Lib.hid (by
              have h1 : x7.all smallC = false := all_take_no HP.out (HY.out.trans (smallC_no (by omega)))
              exact HR.out.trans (opsNo HK.out HX.out (smallE_no2 h1)))
            go_wp2_with fail
            go_ret
            exact ⟨by rw [HE.out]; rfl, D2.out⟩
          · have HB := Lib.hid (all_take_yes HP.out HA.out (HY.out.trans (smallC_yes (by omega))))
            go_wp2_with fail
            exact ⟨⟨p + 1, by go_num, by omega, HB⟩, by simp [intOf]; omega⟩
        · have hps : p = x7.length := by omega
          have h1 : x7.all smallC = true := by have := HA.out; rwa [hps, List.take_of_length_le (Nat.le_refl _)] at this
          have HB := Lib.hid (opsYes HK.out HX.out (smallE_yes (by omega) (by omega) (by omega) (by omega) (by omega) (by omega) h1) HS.out)
          clear h1
          have HPS := Lib.hid hps
          have hpn : ¬ ((p : Int) < (x7.length : Int)) := by omega
          clear hps hpl
          go_wp2_with fail
          exact ⟨⟨k + 1, by go_num, by omega, HB, D2⟩, by simp [intOf]; omega⟩
    · have hks : k = l.length := by omega
      subst hks
      have HE : Hid (R = true) := Lib.hid (by
        rw [HR.out]
        unfold smallOps
        rw [decide_eq_true (by omega)]
        have := HS.out
        rw [List.take_of_length_le (Nat.le_refl _)] at this
        rw [this]; rfl)
      go_wp2_with fail
      go_ret
      exact ⟨by rw [HE.out]; rfl, D.out⟩
end Go.Proofs.YtmichbpfmachcaaDoor
namespace Go.Proofs.YtmichbpfmachcaaDoor
set_option linter.unusedVariables false
set_option linter.unusedSimpArgs false
open Go.RowKit Go.ChangeShapes Go.WideShapes Go.Deep
section
variable {H : Type} {enc : TypeId × Value → H} {w : World} {base : Nat} {spare : Nat → Bool} {held : Bool}
theorem xs_at {γ : Type} {xs : List γ} {n j : Nat} (h : xs.length = n) (hj : j < n) : ∃ y, xs[j]? = some y := ⟨xs[j]'(by omega), List.getElem?_eq_getElem _⟩
theorem cells_int : Tryd.prog.cellsOf 3 = 1 := by kernel_rfl
theorem cells_str : Tryd.prog.cellsOf 9 = 1 := by kernel_rfl
theorem cells_sl : Tryd.prog.cellsOf 23 = 1 := by kernel_rfl
theorem cells_ev : Tryd.prog.cellsOf 25 = 7 := by kernel_rfl
theorem cells_op : Tryd.prog.cellsOf 27 = 12 := by kernel_rfl
def Ev.goodS (e : Ev) : Prop := e.p.id.size ≤ maxLen ∧ e.p.tn.size ≤ maxLen ∧ e.p.src.size ≤ maxLen ∧ e.p.key.size ≤ maxLen ∧ e.p.cause.size ≤ maxLen ∧ ∀ x ∈ e.p.body, x.good
def OpS.good (w : World) (x : OpS) : Prop := x.e.goodS ∧ InIs ceC 4 w x.e.ba x.e.bc x.e.p.body
theorem trod_cap2 {P : Program} {t e : TypeId} {a : Option Addr} {len cap : Nat} {d : DataW H} {ps : List MemPlace} (ht : P.underlying t = some (.slice e))
    (h : DataW.Trod enc P w base spare held t (.slice a len cap) d ps) : (a = none → cap = 0) ∧ cap ≤ maxLen := by
  obtain ⟨fuel, hf⟩ := h
  rcases Go.Deep.open_slice ht hf with ⟨h0, _⟩ | ⟨_, _, _, _, _, _, _, h0, _, _, h2, _⟩
  · simp [Value.cells] at h0; unfold maxLen; omega
  · simp [Value.cells] at h0
    exact ⟨fun e => by rw [e] at h0; simp at h0, by omega⟩
theorem dec_body (n : Nat) (cs : List Value) (y : DataW H × List MemPlace) (h : DataW.trod enc Tryd.prog w base spare held n 23 cs = some y) : ∃ (a : Option Addr) (c : Nat) (l : List Ce), InIs ceC 4 w a c l ∧ (∀ x ∈ l, x.good) ∧ cs = [.slice a l.length c] := by
  have key : ∀ (a : Option Addr) (len cap : Nat), cs = [.slice a len cap] → ∃ (a : Option Addr) (c : Nat) (l : List Ce), InIs ceC 4 w a c l ∧ (∀ x ∈ l, x.good) ∧ cs = [.slice a l.length c] := by
    rintro a len cap rfl
    have h' : DataW.Trod enc Tryd.prog w base spare held 23 (.slice a len cap) y.1 y.2 := ⟨n, h⟩
    obtain ⟨l, h1, h2, h3, h4⟩ := opens_Ce h'
    obtain ⟨h5, h6⟩ := trod_cap2 Tryd.underlying23 h'
    have hl : l.length = len := h1.1
    subst hl
    exact ⟨a, cap, l, ⟨h1, h4, h6, h5⟩, h2, rfl⟩
  rcases open_slice Tryd.underlying23 h with ⟨h0, _⟩ | ⟨x, l, c, m, n, D, Pl, hcs, _⟩
  · exact key none 0 0 (h0)
  · exact key (some x) l c (hcs)
theorem dec_ev (n : Nat) (cs : List Value) (y : DataW H × List MemPlace) (h : DataW.trod enc Tryd.prog w base spare held n 25 cs = some y) : ∃ x : Ev, x.goodS ∧ InIs ceC 4 w x.ba x.bc x.p.body ∧ cs = evC x := by
  obtain ⟨xs, n', _, _, hl, hx, hf⟩ := DataW.trod_struct Tryd.underlying25 h
  rw [cells_ev] at hl
  have h0 := hf 0 _ rfl
  have h1 := hf 1 _ rfl
  have h2 := hf 2 _ rfl
  have h3 := hf 3 _ rfl
  have h4 := hf 4 _ rfl
  have h5 := hf 5 _ rfl
  have h6 := hf 6 _ rfl
  simp only [List.getElem_toArray, List.getElem_cons_zero, List.getElem_cons_succ] at h0 h1 h2 h3 h4 h5 h6
  obtain ⟨y0, q0⟩ := xs_at (j := 0) hx (by decide)
  rw [q0] at h0
  obtain ⟨y1, q1⟩ := xs_at (j := 1) hx (by decide)
  rw [q1] at h1
  obtain ⟨y2, q2⟩ := xs_at (j := 2) hx (by decide)
  rw [q2] at h2
  obtain ⟨y3, q3⟩ := xs_at (j := 3) hx (by decide)
  rw [q3] at h3
  obtain ⟨y4, q4⟩ := xs_at (j := 4) hx (by decide)
  rw [q4] at h4
  obtain ⟨y5, q5⟩ := xs_at (j := 5) hx (by decide)
  rw [q5] at h5
  obtain ⟨y6, q6⟩ := xs_at (j := 6) hx (by decide)
  rw [q6] at h6
  obtain ⟨a0, e0, _, w0⟩ := DataW.trod_string Tryd.underlying9 h0
  obtain ⟨a1, e1, _, w1⟩ := DataW.trod_string Tryd.underlying9 h1
  obtain ⟨a2, e2, _, w2⟩ := DataW.trod_string Tryd.underlying9 h2
  obtain ⟨a3, e3, _, w3⟩ := DataW.trod_string Tryd.underlying9 h3
  obtain ⟨a4, e4, _, w4⟩ := DataW.trod_int Tryd.underlying3 h4
  obtain ⟨a5, e5, _, w5⟩ := DataW.trod_string Tryd.underlying9 h5
  obtain ⟨ba6, bc6, l6, i6, g6, e6⟩ := dec_body _ _ _ h6
  simp only [cells_int, cells_str, cells_sl, cells_ev] at e0 e1 e2 e3 e4 e5 e6
  clear hf h0 h1 h2 h3 h4 h5 h6 h
  match cs, hl with
  | [c0, c1, c2, c3, c4, c5, c6], _ =>
    simp at e0 e1 e2 e3 e4 e5 e6
    subst e0 e1 e2 e3 e4 e5 e6
    exact ⟨⟨⟨a0, a1, a2, a3, a4, a5, l6⟩, ba6, bc6⟩, ⟨w0, w1, w2, w3, w5, g6⟩, i6, rfl⟩
theorem dec_op (n : Nat) (cs : List Value) (y : DataW H × List MemPlace) (h : DataW.trod enc Tryd.prog w base spare held n 27 cs = some y) : ∃ x : OpS, x.good w ∧ cs = opC x := by
  obtain ⟨xs, n', _, _, hl, hx, hf⟩ := DataW.trod_struct Tryd.underlying27 h
  rw [cells_op] at hl
  have h0 := hf 0 _ rfl
  have h1 := hf 1 _ rfl
  have h2 := hf 2 _ rfl
  have h3 := hf 3 _ rfl
  have h4 := hf 4 _ rfl
  have h5 := hf 5 _ rfl
  simp only [List.getElem_toArray, List.getElem_cons_zero, List.getElem_cons_succ] at h0 h1 h2 h3 h4 h5
  obtain ⟨y0, q0⟩ := xs_at (j := 0) hx (by decide)
  rw [q0] at h0
  obtain ⟨y1, q1⟩ := xs_at (j := 1) hx (by decide)
  rw [q1] at h1
  obtain ⟨y2, q2⟩ := xs_at (j := 2) hx (by decide)
  rw [q2] at h2
  obtain ⟨y3, q3⟩ := xs_at (j := 3) hx (by decide)
  rw [q3] at h3
  obtain ⟨y4, q4⟩ := xs_at (j := 4) hx (by decide)
  rw [q4] at h4
  obtain ⟨y5, q5⟩ := xs_at (j := 5) hx (by decide)
  rw [q5] at h5
  obtain ⟨a0, e0, _, w0⟩ := DataW.trod_int Tryd.underlying3 h0
  obtain ⟨ev1, g1, i1, e1⟩ := dec_ev _ _ _ h1
  obtain ⟨a2, e2, _, w2⟩ := DataW.trod_int Tryd.underlying3 h2
  obtain ⟨a3, e3, _, w3⟩ := DataW.trod_int Tryd.underlying3 h3
  obtain ⟨a4, e4, _, w4⟩ := DataW.trod_int Tryd.underlying3 h4
  obtain ⟨a5, e5, _, w5⟩ := DataW.trod_int Tryd.underlying3 h5
  simp only [cells_int, cells_str, cells_sl, cells_ev] at e0 e1 e2 e3 e4 e5
  clear hf h0 h1 h2 h3 h4 h5 h
  match cs, hl with
  | [c0, c1, c2, c3, c4, c5, c6, c7, c8, c9, c10, c11], _ =>
    simp at e0 e2 e3 e4 e5
    simp [evC] at e1
    obtain ⟨rfl, rfl, rfl, rfl, rfl, rfl, rfl⟩ := e1
    subst e0 e2 e3 e4 e5
    exact ⟨⟨a0, ev1, a2, a3, a4, a5⟩, ⟨g1, i1⟩, rfl⟩
theorem opens_OpS {a : Option Addr} {len cap : Nat} {d : DataW H} {ps : List MemPlace} (h : DataW.Trod enc Tryd.prog w base spare held 22 (.slice a len cap) d ps) : ∃ l : List OpS, SlIs opC 12 w a len l ∧ (∀ x ∈ l, x.good w) ∧ len ≤ maxLen ∧ len ≤ cap := by
  obtain ⟨l, h1, h2, h3⟩ := open_slN opC (OpS.good w) Tryd.underlying22 cells_op (by decide) opC_len dec_op h
  exact ⟨l, h1, h2, h3, trod_cap Tryd.underlying22 h⟩
set_option maxRecDepth 100000 in
theorem open_OpS1 {r : Reach} {b0 : Nat} {v : Value} {d : DataW H} {ps : List MemPlace} (hv : Value.okWide Tryd.prog w r b0 27 v) (h : DataW.Trod enc Tryd.prog w base spare held 27 v d ps) : ∃ x : OpS, v = .agg (opC x).toArray ∧ x.good w :=
  open_stN opC (OpS.good w) Tryd.underlying27 dec_op hv h
end
end Go.Proofs.YtmichbpfmachcaaDoor
