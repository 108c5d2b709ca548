/- Chapter 48: contract: Do. Condition: the table of Itoa lies as the program lays it. -/
import Derived.Deep.DeepCutAuto
import Derived.Test.YtnhemokmgpelaaaGreatDoorEntC
namespace Go.Proofs.YtnhemokmgpelaaaGreatDoor
set_option linter.unusedVariables false
set_option linter.unusedSimpArgs false
open Go.RowKit
def doF (k : Nat) (st : List Ce) (args : List (List Ce)) : List Ce × Int × List Ce :=
  if k = 1 then (st, 0, st) else if k = 2 then (args.headD [], 0, [nullC]) else if k = 3 then addF st (args.headD []) else if sameB ceE st (args.headD []) then ((args.drop 1).headD [], 0, [boolC true]) else (st, 0, [boolC false])
def doZ (st : List Ce) (o : POp) : Int × List Ce × Int × List Ce :=
  if chkZ o ≠ 0 then (chkZ o, [], 0, []) else if checkZ st ≠ 0 then (checkZ st, [], 0, []) else (0, doF (opN o.op) st o.args)
def DoP (w : World) (r : Int × List Ce × Int × List Ce) (e : Ending) (w' : World) : Prop :=
  ∃ na nc va vc, e = .returned (.tuple #[.slice na r.2.1.length nc, .agg #[.int .i64 r.2.2.1, .slice va r.2.2.2.length vc], .int .i64 r.1]) ∧ InIs ceC 4 w' na nc r.2.1 ∧ InIs ceC 4 w' va vc r.2.2.2 ∧ (∀ x, na = some x ∨ va = some x → w.heap.size ≤ x.block) ∧ Chg [] w w'
theorem doP_end {w w1 : World} {b : Nat} {x y : Value} {r : Int × List Ce × Int × List Ce} {na va : Option Addr} {nc vc : Nat} (hfr : ∀ x, na = some x ∨ va = some x → w.heap.size ≤ x.block) (hb : w1.heap[b]? = some (.cells #[x, y] 38 (0, 0))) (hlt : w.heap.size ≤ b) (hc : Chg [] w w1)
    (hn : Chg [b] w1 (ansW w1 b r.2.2.1 va r.2.2.2.length vc) → InIs ceC 4 (ansW w1 b r.2.2.1 va r.2.2.2.length vc) na nc r.2.1)
    (hv : Chg [b] w1 (ansW w1 b r.2.2.1 va r.2.2.2.length vc) → InIs ceC 4 (ansW w1 b r.2.2.1 va r.2.2.2.length vc) va vc r.2.2.2) :
    DoP w r (.returned (.tuple #[.slice na r.2.1.length nc, .agg #[.int .i64 r.2.2.1, .slice va r.2.2.2.length vc], .int .i64 r.1])) (ansW w1 b r.2.2.1 va r.2.2.2.length vc) := by
  have hz := (ans_two hb r.2.2.1 va r.2.2.2.length vc).2
  have hall : Chg [] w (ansW w1 b r.2.2.1 va r.2.2.2.length vc) := hc.then hz (by intro x hx hlt; simp at hx; omega)
  exact ⟨na, nc, va, vc, rfl, hn hz, hv hz, hfr, hall⟩
set_option maxHeartbeats 4000000 in
set_option maxRecDepth 100000 in
theorem do_err (sa : Option Addr) (sc : Nat) (st : List Ce) (o : EOp) (w : World) (h : InIs ceC 4 w sa sc st) (hg : goodL st) (ha : ArgsIn w o.aa o.ac o.args) (hog : o.good) (ht : TabW w) (hz : chkZ o.p ≠ 0 ∨ checkZ st ≠ 0) :
    Calls Tryz.prog 25 #[.slice sa st.length sc, .agg (eoC o).toArray] w (DoP w (doZ st o.p)) := by
  have A := Lib.hid (fun w' (hc : Chg [] w w') => echk_any o w' (ha.kept hc) hog (ht.kept hc))
  have A2 := Lib.hid (fun w' (hc : Chg [] w w') => vcheck_any sa sc st w' (h.1.kept hc) hg.1 hg.2 (ht.kept hc))
  by_cases h1 : chkZ o.p = 0
  · have h2 : checkZ st ≠ 0 := hz.resolve_left (by simp [h1])
    have HZ : Hid (doZ st o.p = (checkZ st, [], 0, [])) := Lib.hid (by unfold doZ; rw [if_neg (by simp [h1]), if_pos h2])
    rw [HZ.out]
    rw [h1] at A
    have h2b : (checkZ st != 0) = true := by simpa using h2
    obtain ⟨ent, id, op, aa, ac, args⟩ := o
    simp only [eoC]
    clear hz ha hog ht hg h1 h2 h HZ
    generalize checkZ st = z at *
    have C1 := Lib.hid (((Chg.refl [] w).alloc (eoO ⟨ent, id, op, aa, ac, args⟩)).alloc (.cells #[.int .i64 0, .slice none 0 0] 38))
    have B1 := Lib.hid (blk_alloc (o' := .cells #[.int .i64 0, .slice none 0 0] 38) (heap_alloc_new w (eoO ⟨ent, id, op, aa, ac, args⟩)))
    have B5 := Lib.hid (heap_alloc_new (w.alloc (eoO ⟨ent, id, op, aa, ac, args⟩)) (.cells #[.int .i64 0, .slice none 0 0] 38))
    rw [World.size_alloc] at B5
    obtain ⟨W1, hW1⟩ : ∃ W1, W1 = (w.alloc (eoO ⟨ent, id, op, aa, ac, args⟩)).alloc (.cells #[.int .i64 0, .slice none 0 0] 38) := ⟨_, rfl⟩
    have hs : W1.heap.size = w.heap.size + 2 := by rw [hW1, World.size_alloc, World.size_alloc]
    rw [← hW1] at C1 B1 B5
    unfold eoO at hW1 B1
    have k := blk_cell B1.out
    have HS := Lib.hid hs
    have HW1 := Lib.hid hW1
    clear hW1 hs
    go_enter Tryz.func25, Tryz.ntmps25
    go_upto_region 1 with fail
    rw [← HW1.out]
    go_wp2_with fail
    refine (A.out _ C1.out).mono ?_; rintro e w2 ⟨rfl, hc⟩
    have C2 := Lib.hid (C1.out.thenSame hc)
    have E5 := Lib.hid (hc.at (by simp) B5.out)
    clear hc k
    go_wp2_with fail
    refine (A2.out _ C2.out).mono ?_; rintro e w3 ⟨rfl, hc⟩
    have C3 := Lib.hid (C2.out.thenSame hc)
    have F5 := Lib.hid (hc.at (by simp) E5.out)
    have k5 := blk_cell F5.out
    have f5 := blk_free F5.out
    clear hc
    go_wp2_with fail
    have r1 := blk_cell (ans_two F5.out 0 none 0 0).1
    unfold ansW at r1
    refine bodyPost_ret (v := .tuple #[.slice none 0 0, .agg #[.int .i64 0, .slice none 0 0], .int .i64 z]) (by simp [results, Tryz.results25, go_sem, r1]) rfl ?_
    exact doP_end (r := (z, [], 0, [])) (fun x hx => by rcases hx with hx | hx <;> cases hx) F5.out (by omega) C3.out (fun _ => InIs.nil) (fun _ => InIs.nil)
  · have HZ : Hid (doZ st o.p = (chkZ o.p, [], 0, [])) := Lib.hid (by unfold doZ; rw [if_pos h1])
    rw [HZ.out]
    have h2b : (chkZ o.p != 0) = true := by simpa using h1
    obtain ⟨ent, id, op, aa, ac, args⟩ := o
    simp only [eoC]
    clear hz ha hog ht hg h1 h HZ A2
    generalize chkZ (EOp.p ⟨ent, id, op, aa, ac, args⟩) = z at *
    have C1 := Lib.hid (((Chg.refl [] w).alloc (eoO ⟨ent, id, op, aa, ac, args⟩)).alloc (.cells #[.int .i64 0, .slice none 0 0] 38))
    have B1 := Lib.hid (blk_alloc (o' := .cells #[.int .i64 0, .slice none 0 0] 38) (heap_alloc_new w (eoO ⟨ent, id, op, aa, ac, args⟩)))
    have B5 := Lib.hid (heap_alloc_new (w.alloc (eoO ⟨ent, id, op, aa, ac, args⟩)) (.cells #[.int .i64 0, .slice none 0 0] 38))
    rw [World.size_alloc] at B5
    obtain ⟨W1, hW1⟩ : ∃ W1, W1 = (w.alloc (eoO ⟨ent, id, op, aa, ac, args⟩)).alloc (.cells #[.int .i64 0, .slice none 0 0] 38) := ⟨_, rfl⟩
    have hs : W1.heap.size = w.heap.size + 2 := by rw [hW1, World.size_alloc, World.size_alloc]
    rw [← hW1] at C1 B1 B5
    unfold eoO at hW1 B1
    have k := blk_cell B1.out
    have HS := Lib.hid hs
    have HW1 := Lib.hid hW1
    clear hW1 hs
    go_enter Tryz.func25, Tryz.ntmps25
    go_upto_region 1 with fail
    rw [← HW1.out]
    go_wp2_with fail
    refine (A.out _ C1.out).mono ?_; rintro e w2 ⟨rfl, hc⟩
    have C2 := Lib.hid (C1.out.thenSame hc)
    have E5 := Lib.hid (hc.at (by simp) B5.out)
    have k5 := blk_cell E5.out
    have f5 := blk_free E5.out
    clear hc k
    go_wp2_with fail
    have r1 := blk_cell (ans_two E5.out 0 none 0 0).1
    unfold ansW at r1
    refine bodyPost_ret (v := .tuple #[.slice none 0 0, .agg #[.int .i64 0, .slice none 0 0], .int .i64 z]) (by simp [results, Tryz.results25, go_sem, r1]) rfl ?_
    exact doP_end (r := (z, [], 0, [])) (fun x hx => by rcases hx with hx | hx <;> cases hx) E5.out (by omega) C2.out (fun _ => InIs.nil) (fun _ => InIs.nil)
theorem two_cells {w : World} {b : Nat} {x0 x1 x2 x3 : Value} {t : TypeId} (h : w.heap[b]? = some (.cells #[x0, x1, x2, x3] t (0, 0))) : w.cell? ⟨b, 2, none⟩ = some x2 ∧ w.cell? ⟨b, 3, none⟩ = some x3 := ⟨blk_cell h 2, blk_cell h 3⟩
/-- A slice of cells lies in no block of two cells. -/
theorem InIs.keptAns {w w' : World} {a : Option Addr} {c b : Nat} {l : List Ce} {x y : Value} {t : TypeId} {f : Nat × Nat} (h : InIs ceC 4 w a c l) (hb : w.heap[b]? = some (.cells #[x, y] t f)) (hc : Chg [b] w w') : InIs ceC 4 w' a c l := by
  refine ⟨⟨rfl, fun k hk => ?_⟩, h.2⟩
  obtain ⟨b1, off, h1, h2, h3⟩ := h.1.2 k hk
  have hne : b1 ≠ b := by
    rintro rfl
    have h4 := h3 3 (by omega)
    rw [blk_cell hb] at h4
    have h5 : (#[x, y] : Array Value)[off + k * 4 + 3]? = none := Array.getElem?_eq_none (by simp)
    rw [h5] at h4
    simp [ceC] at h4
  refine ⟨b1, off, h1, hc.lt h2, fun j hj => ?_⟩
  rw [← h3 j hj]
  exact World.cell?_of_block (w := w) (hc.block b1 h2 (by simpa using hne))
theorem size_drew (w : World) : w.drew.heap.size = w.heap.size := rfl
theorem two_far {w : World} {b b2 : Nat} {x0 x1 x2 x3 y0 y1 u v : Value} {t t2 : TypeId} (h : w.heap[b]? = some (.cells #[x0, x1, x2, x3] t (0, 0))) (h2 : w.heap[b2]? = some (.cells #[y0, y1] t2 (0, 0))) :
    ((w.setCell ⟨b2, 0, none⟩ u).setCell ⟨b2, 1, none⟩ v).cell? ⟨b, 2, none⟩ = some x2 ∧ ((w.setCell ⟨b2, 0, none⟩ u).setCell ⟨b2, 1, none⟩ v).cell? ⟨b, 3, none⟩ = some x3 := by
  have hne : b ≠ b2 := by
    rintro rfl
    rw [h] at h2
    simp at h2
  exact two_cells ((blk_set_ne 1 _ hne).trans ((blk_set_ne 0 _ hne).trans h))
theorem lk_of {w : World} {b fn : Nat} {op : ByteArray} (hm : MapIs Prod.fst stV w b stL) (hf : lookL Prod.fst stL op = some (op, fn)) : (Instr.lookup 82 (.map (some b)) (.string op) false).run Tryz.prog w = .ok (.func (.func fn) #[] #[]) w := by
  have := hm.lookup Tryz.underlying82 Tryz.underlying9 (zeroSt w) op false
  rw [hf] at this
  exact this
theorem MapIs.al {w : World} {b : Nat} {α : Type} {kf : α → ByteArray} {vf : α → Value} {l : List α} (h : MapIs kf vf w b l) (o : Obj) : MapIs kf vf (w.alloc o) b l := h.kept ((Chg.refl [] w).alloc o) (by simp)
def D7 (w : World) (r : List Ce × Int × List Ce) (b5 : Nat) (x9 x10 : Value) (wx : World) : Prop :=
  ∃ na nc va vc b10, x9 = .slice na r.1.length nc ∧ x10 = .pointer (some ⟨b10, 0, none⟩) ∧ wx.heap[b10]? = some (.cells #[.int .i64 r.2.1, .slice va r.2.2.length vc] 38 (0, 0)) ∧ b10 ≠ b5 ∧ wx.heap[b5]? = some (.cells #[.int .i64 0, .slice none 0 0] 38 (0, 0)) ∧ InIs ceC 4 wx na nc r.1 ∧ InIs ceC 4 wx va vc r.2.2 ∧ (∀ x, na = some x ∨ va = some x → w.heap.size ≤ x.block) ∧ Chg [] w wx
theorem DoP.drew {w w' : World} {r : Int × List Ce × Int × List Ce} {e : Ending} (h : DoP w r e w') : DoP w r e w'.drew := by
  obtain ⟨na, nc, va, vc, h1, h2, h3, hf, h4⟩ := h
  exact ⟨na, nc, va, vc, h1, h2.kept ((Chg.refl [] _).drew), h3.kept ((Chg.refl [] _).drew), hf, h4.drew⟩
theorem d7_c {w w6 : World} {r : List Ce × Int × List Ce} {na va : Option Addr} {nc vc b5 b10 : Nat} {x y : Value} (TT : w6.heap[b10]? = some (.cells #[x, y] 38 (0, 0))) (QQ : w6.heap[b5]? = some (.cells #[.int .i64 0, .slice none 0 0] 38 (0, 0)))
    (LT : b5 < b10) (hb : w.heap.size ≤ b10) (CC : Chg [] w w6) (HN : InIs ceC 4 w6 na nc r.1) (HV : InIs ceC 4 w6 va vc r.2.2) (hfr : ∀ x, na = some x ∨ va = some x → w.heap.size ≤ x.block) :
    D7 w r b5 (.slice na r.1.length nc) (.pointer (some ⟨b10, 0, none⟩)) ((w6.setCell ⟨b10, 0, none⟩ (.int .i64 r.2.1)).setCell ⟨b10, 1, none⟩ (.slice va r.2.2.length vc)) := by
  obtain ⟨h1, h2⟩ := ans_two TT r.2.1 va r.2.2.length vc
  exact ⟨na, nc, va, vc, b10, rfl, rfl, h1, by omega, h2.at (by simp; omega) QQ, HN.keptAns TT h2, HV.keptAns TT h2, hfr, CC.then h2 (by intro x hx hlt; simp at hx; omega)⟩
theorem d7_b {w w6 : World} {r : List Ce × Int × List Ce} {na va : Option Addr} {nc vc b5 : Nat} {x y : Value} (QQ : w6.heap[b5]? = some (.cells #[.int .i64 0, .slice none 0 0] 38 (0, 0)))
    (CC : Chg [] w w6) (HN : InIs ceC 4 w6 na nc r.1) (HV : InIs ceC 4 w6 va vc r.2.2) (hfr : ∀ x, na = some x ∨ va = some x → w.heap.size ≤ x.block) :
    D7 w r b5 (.slice na r.1.length nc) (.pointer (some ⟨w6.heap.size, 0, none⟩)) (((w6.alloc (.cells #[x, y] 38)).setCell ⟨w6.heap.size, 0, none⟩ (.int .i64 r.2.1)).setCell ⟨w6.heap.size, 1, none⟩ (.slice va r.2.2.length vc)) :=
  d7_c (heap_alloc_new w6 _) (blk_alloc QQ) (lt_of_heap QQ) CC.size (CC.alloc _) (HN.kept ((Chg.refl [] _).alloc _)) (HV.kept ((Chg.refl [] _).alloc _)) hfr
theorem d7_a {w w6 : World} {r : List Ce × Int × List Ce} {na va : Option Addr} {nc vc b5 : Nat} (QQ : w6.heap[b5]? = some (.cells #[.int .i64 0, .slice none 0 0] 38 (0, 0)))
    (CC : Chg [] w w6) (HN : InIs ceC 4 w6 na nc r.1) (HV : InIs ceC 4 w6 va vc r.2.2) (hfr : ∀ x, na = some x ∨ va = some x → w.heap.size ≤ x.block) :
    D7 w r b5 (.slice na r.1.length nc) (.pointer (some ⟨w6.heap.size, 0, none⟩)) (w6.alloc (.cells #[.int .i64 r.2.1, .slice va r.2.2.length vc] 38)) :=
  ⟨na, nc, va, vc, w6.heap.size, rfl, rfl, heap_alloc_new w6 _, by have := lt_of_heap QQ; omega, blk_alloc QQ, HN.kept ((Chg.refl [] _).alloc _), HV.kept ((Chg.refl [] _).alloc _), hfr, CC.alloc _⟩
end Go.Proofs.YtnhemokmgpelaaaGreatDoor
