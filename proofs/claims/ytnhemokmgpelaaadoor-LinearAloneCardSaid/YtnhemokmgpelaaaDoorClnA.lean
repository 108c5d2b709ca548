/- Chapter 50: contract: clone. No condition. -/
import Derived.Test.YtnhemokmgpelaaaDoorMLinA
import Derived.Test.YtnhemokmgpelaaaDoorLinG
import Derived.Test.YtnhemokmgpelaaaDoorAppL
namespace Go.Proofs.YtnhemokmgpelaaaDoor
set_option linter.unusedVariables false
set_option linter.unusedSimpArgs false
open Go.RowKit
theorem cellsInfo : (Tryd.prog.info? 28).map (fun i => (i.zero, i.size, i.bytes)) = some (some (.slice none 0 0), 1, 24) := by kernel_rfl
theorem rrCe_one (d : Rr Ce) : ∀ u ∈ rrC d, u.oneCell' = true := by intro u hu; simp [rrC] at hu; subst hu; rfl
/-- A block that a call's slices lie in. -/
def Cl.on (x : Cl) (b : Nat) : Prop := (∃ y, x.o.aa = some y ∧ 0 < x.o.args.length ∧ y.block = b) ∨ (∃ y, x.va = some y ∧ 0 < x.ans.length ∧ y.block = b) ∨ ∃ d ∈ x.o.args, ∃ y, d.a = some y ∧ 0 < d.L.length ∧ y.block = b
theorem InIs.keptP {α : Type} {cf : α → List Value} {sz : Nat} {w w' : World} {a : Option Addr} {c : Nat} {l : List α} {S : List Nat} (h : InIs cf sz w a c l) (hc : Chg S w w') (hn : ∀ y, a = some y → 0 < l.length → y.block ∉ S) : InIs cf sz w' a c l := by
  by_cases hl : 0 < l.length
  · exact h.keptN hc (fun y hy => hn y hy hl)
  · have : l = [] := by simpa using hl
    subst this
    exact ⟨⟨rfl, fun k hk => by simp at hk⟩, h.2⟩
theorem InIs.lt {α : Type} {cf : α → List Value} {sz : Nat} {w : World} {a : Option Addr} {c : Nat} {l : List α} (h : InIs cf sz w a c l) {y : Addr} (hy : a = some y) (hl : 0 < l.length) : y.block < w.heap.size := by
  obtain ⟨b, o, e, h1, -⟩ := h.1.2 0 hl
  rw [hy] at e
  cases e
  exact h1
theorem ClIn.keptOn {w w' : World} {x : Cl} {S : List Nat} (h : ClIn w x) (hc : Chg S w w') (hn : ∀ b, x.on b → b ∉ S) : ClIn w' x :=
  ⟨⟨h.1.1.keptP hc (fun y hy hl => hn _ (.inl ⟨y, hy, hl, rfl⟩)), fun d hd => (h.1.2 d hd).keptP hc (fun y hy hl => hn _ (.inr (.inr ⟨d, hd, y, hy, hl, rfl⟩)))⟩, h.2.keptP hc (fun y hy hl => hn _ (.inr (.inl ⟨y, hy, hl, rfl⟩)))⟩
theorem ClIn.on_lt {w : World} {x : Cl} (h : ClIn w x) {b : Nat} (hb : x.on b) : b < w.heap.size := by
  rcases hb with ⟨y, h1, h2, rfl⟩ | ⟨y, h1, h2, rfl⟩ | ⟨d, hd, y, h1, h2, rfl⟩
  · exact h.1.1.lt h1 h2
  · exact h.2.lt h1 h2
  · exact (h.1.2 d hd).lt h1 h2
def ccO (x : Cl) (a : Option Addr) (n c : Nat) (va : Option Addr) (vc : Nat) : Obj := .cells #[.string x.o.ent, .string x.o.id, .string x.o.op, .slice a n c, .int .i64 x.err, .slice va x.ans.length vc, .int .i64 x.from_, .int .i64 x.to_] 41
/-- The copy, while its arguments are copied: k of them, D. -/
structure CloI (w wr : World) (x : Cl) (k : Nat) (a : Option Addr) (c : Nat) (D : List (Rr Ce)) : Prop where
  chg : Chg [] w wr
  blk : wr.heap[w.heap.size]? = some (ccO x a D.length c x.va x.vc)
  res : ∃ o, wr.heap[w.heap.size + 1]? = some (.cells o 41 (0, 0)) ∧ o.size = 8
  row : RowOf rrC 1 wr (w.heap.size + 2) 28 (.slice a D.length c) D
  vals : D.map Rr.L = (x.o.args.take k).map Rr.L
  ins : ∀ d ∈ D, InIs ceC 4 wr d.a d.c d.L ∧ ∀ y, d.a = some y → (w.heap.size + 2 ≤ y.block ∧ y.block < wr.heap.size) ∧ ob a ≠ some y.block
theorem CloI.len {w wr : World} {x : Cl} {k : Nat} {a : Option Addr} {c : Nat} {D : List (Rr Ce)} (h : CloI w wr x k a c D) (hk : k ≤ x.o.args.length) : D.length = k := by
  have := congrArg List.length h.vals
  simp at this
  omega
theorem CloI.keptN {w wr wx : World} {x : Cl} {k : Nat} {a : Option Addr} {c : Nat} {D : List (Rr Ce)} (h : CloI w wr x k a c D) (hc : Chg [] wr wx) : CloI w wx x k a c D where
  chg := h.chg.thenSame hc
  blk := hc.at (by simp) h.blk
  res := by obtain ⟨o, h1, h2⟩ := h.res; exact ⟨o, hc.at (by simp) h1, h2⟩
  row := h.row.kept hc (by simp)
  vals := h.vals
  ins := fun d hd => ⟨(h.ins d hd).1.kept hc, fun y hy => ⟨⟨((h.ins d hd).2 y hy).1.1, hc.lt ((h.ins d hd).2 y hy).1.2⟩, ((h.ins d hd).2 y hy).2⟩⟩
theorem CloI.sep {w wr : World} {x : Cl} {k : Nat} {a : Option Addr} {c : Nat} {D : List (Rr Ce)} (h : CloI w wr x k a c D) : ob a ≠ some w.heap.size ∧ ob a ≠ some (w.heap.size + 1) := by
  have hb := h.row.block
  rw [ob_eq] at hb
  exact ⟨fun e => by have := hb _ e; omega, fun e => by have := hb _ e; omega⟩
/-- One more argument. -/
theorem CloI.step {w wr w1 w3 : World} {x : Cl} {k : Nat} {a : Option Addr} {c : Nat} {D : List (Rr Ce)} (h : CloI w wr x k a c D) (hk : k < x.o.args.length) (h1 : Chg [] wr w1) {a' : Option Addr} {c' : Nat} {L : List Ce} (hL : (x.o.args[k]).L = L)
    (hr : RowOf ceC 4 w1 wr.heap.size 50 (.slice a' L.length c') L) (o : Obj) {g cap : Nat} (hg : Chg (ob a).toList (w1.alloc o) w3) (hrow : RowOf rrC 1 w3 (w.heap.size + 2) 28 (.slice (some ⟨g, 0, none⟩) (D.length + 1) cap) (D ++ [⟨a', c', L⟩])) (hat : ob a = some g ∨ g = (w1.alloc o).heap.size) :
    CloI w (w3.setCell ⟨w.heap.size, 3, none⟩ (.slice (some ⟨g, 0, none⟩) (D.length + 1) cap)) x (k + 1) (some ⟨g, 0, none⟩) cap (D ++ [⟨a', c', L⟩]) := by
  obtain ⟨s1, s2⟩ := h.sep
  have h2 : Chg [] wr (w1.alloc o) := h1.alloc o
  have hsz := h.chg.size
  have hsz1 := h1.size
  have hb2 := lt_of_heap h.res.choose_spec.1
  have hbr := h.row.block
  rw [ob_eq] at hbr
  have hgw : g ≠ w.heap.size := by
    rcases hat with e | e
    · exact fun e2 => s1 (by rw [e, e2])
    · rw [e, World.size_alloc]; omega
  have hgw1 : g ≠ w.heap.size + 1 := by
    rcases hat with e | e
    · exact fun e2 => s2 (by rw [e, e2])
    · rw [e, World.size_alloc]; omega
  have hset : Chg [w.heap.size] w3 (w3.setCell ⟨w.heap.size, 3, none⟩ (.slice (some ⟨g, 0, none⟩) (D.length + 1) cap)) := (Chg.refl _ _).setCell _ _ (by simp)
  have hblk3 : w3.heap[w.heap.size]? = some (ccO x a D.length c x.va x.vc) := hg.at (by simp; exact fun e => s1 e) (h2.at (by simp) h.blk)
  have hrb := hr.block
  rw [ob_eq] at hrb
  have hlen : (D ++ [(⟨a', c', L⟩ : Rr Ce)]).length = D.length + 1 := by simp
  have hgs : ∀ y ∈ (ob a).toList, y < w.heap.size → False := fun y hy hl => by
    simp only [Option.mem_toList] at hy
    have := hbr y hy
    omega
  have hall : Chg ((ob a).toList ++ [w.heap.size]) (w1.alloc o) (w3.setCell ⟨w.heap.size, 3, none⟩ (.slice (some ⟨g, 0, none⟩) (D.length + 1) cap)) := (hg.mono (fun y hy _ => List.mem_append_left _ hy)).then (hset.mono (fun y hy _ => List.mem_append_right _ hy)) (fun y hy _ => hy)
  refine ⟨?_, ?_, ?_, ?_, ?_, ?_⟩
  · refine (h.chg.thenSame h2).then hall (fun y hy hl => ?_)
    rcases List.mem_append.1 hy with hy | hy
    · exact (hgs y hy hl).elim
    · simp at hy; omega
  · rw [hlen]
    have := blk_set hblk3 3 (.slice (some ⟨g, 0, none⟩) (D.length + 1) cap)
    simpa [ccO] using this
  · obtain ⟨o', e1, e2⟩ := h.res
    exact ⟨o', hset.at (by simp) (hg.at (by simp; exact fun e => s2 e) (h2.at (by simp) e1)), e2⟩
  · rw [hlen]
    refine hrow.kept hset (fun y hy => ?_)
    simp [Value.ownBlock] at hy
    simp
    omega
  · rw [List.map_append, h.vals, List.take_succ_eq_append_getElem hk, List.map_append]
    simp [hL]
  · have hlt : ∀ b, b < w1.heap.size → b < (w3.setCell ⟨w.heap.size, 3, none⟩ (.slice (some ⟨g, 0, none⟩) (D.length + 1) cap)).heap.size := fun b hb => hall.lt (by rw [World.size_alloc]; omega)
    have hgo : ∀ b, b < w1.heap.size → ob a ≠ some b → ob (some ⟨g, 0, none⟩) ≠ some b := fun b hb hn e => by
      have e : g = b := by simpa [ob] using e
      rcases hat with e2 | e2
      · exact hn (by rw [e2, e])
      · rw [e2, World.size_alloc] at e; omega
    intro d hd
    rcases List.mem_append.1 hd with hd | hd
    · obtain ⟨q1, q2⟩ := h.ins d hd
      refine ⟨(q1.kept h2).keptN hall (fun y hy hm => ?_), fun y hy => ?_⟩
      · obtain ⟨⟨r1, r2⟩, r3⟩ := q2 y hy
        rcases List.mem_append.1 hm with hm | hm
        · exact r3 (by simpa using hm)
        · simp at hm; omega
      · obtain ⟨⟨r1, r2⟩, r3⟩ := q2 y hy
        exact ⟨⟨r1, hlt _ (by omega)⟩, hgo _ (by omega) r3⟩
    · simp at hd
      subst hd
      have hbb : ∀ y, a' = some y → wr.heap.size ≤ y.block ∧ y.block < w1.heap.size := fun y hy => hrb _ (by rw [hy]; rfl)
      refine ⟨((InIs.ofRow hr ceC_len).2.kept ((Chg.refl [] w1).alloc o)).keptN hall (fun y hy hm => ?_), fun y hy => ?_⟩
      · obtain ⟨r1, r2⟩ := hbb y hy
        rcases List.mem_append.1 hm with hm | hm
        · have := hbr y.block (by simpa using hm)
          omega
        · simp at hm; omega
      · obtain ⟨r1, r2⟩ := hbb y hy
        exact ⟨⟨by omega, hlt _ r2⟩, hgo _ r2 (fun e => by have := hbr _ e; omega)⟩
theorem CloI.start {w W1 : World} {x : Cl} {o : Array Value} (hc : Chg [] w W1) (hb : W1.heap[w.heap.size]? = some (clO x)) (hr : W1.heap[w.heap.size + 1]? = some (.cells o 41 (0, 0))) (ho : o.size = 8) : CloI w (W1.setCell ⟨w.heap.size, 3, none⟩ (.slice none 0 0)) x 0 none 0 [] where
  chg := hc.setCell _ _ (fun hl => by simp at hl)
  blk := by have := blk_set (show W1.heap[w.heap.size]? = some (.cells _ _ (0, 0)) from hb) 3 (.slice none 0 0); simpa [ccO] using this
  res := ⟨o, (blk_set_ne 3 _ (by simp)).trans hr, ho⟩
  row := RowOf.nil _ _ _
  vals := by simp
  ins := fun d hd => by simp at hd
def clY (x : Cl) (a : Option Addr) (c : Nat) (D : List (Rr Ce)) (va : Option Addr) (vc : Nat) : Cl := ⟨⟨x.o.ent, x.o.id, x.o.op, a, c, D⟩, x.err, va, vc, x.ans, x.from_, x.to_⟩
theorem CloI.fin {w wr w1 w' : World} {x : Cl} {a : Option Addr} {c : Nat} {D : List (Rr Ce)} (h : CloI w wr x x.o.args.length a c D) (h1 : Chg [] wr w1) {va : Option Addr} {vc : Nat} (hr : RowOf ceC 4 w1 wr.heap.size 50 (.slice va x.ans.length vc) x.ans) (h2 : Chg [w.heap.size, w.heap.size + 1] w1 w') :
    (clY x a c D va vc).p = x.p ∧ ClIn w' (clY x a c D va vc) ∧ Chg [] w w' ∧ ∀ b, (clY x a c D va vc).on b → w.heap.size ≤ b := by
  have hb2 := lt_of_heap h.res.choose_spec.1
  have hrow := h.row.block
  rw [ob_eq] at hrow
  have hrb := hr.block
  rw [ob_eq] at hrb
  have hv := h.vals
  rw [List.take_length] at hv
  refine ⟨?_, ⟨⟨?_, fun d hd => ?_⟩, ?_⟩, ?_, ?_⟩
  · simp [clY, Cl.p, EOp.p, hv]
  · refine ((InIs.ofRow h.row rrC_len).2.kept h1).keptN h2 (fun y hy hm => ?_)
    have := hrow y.block (by rw [hy]; rfl)
    simp at hm
    omega
  · obtain ⟨q1, q2⟩ := h.ins d hd
    refine (q1.kept h1).keptN h2 (fun y hy hm => ?_)
    obtain ⟨⟨r1, r2⟩, r3⟩ := q2 y hy
    simp at hm
    omega
  · refine (InIs.ofRow hr ceC_len).2.keptN h2 (fun y hy hm => ?_)
    have := hrb y.block (by rw [hy]; rfl)
    simp at hm
    omega
  · exact (h.chg.thenSame h1).then h2 (fun y hy hl => by simp at hy; omega)
  · intro b hb
    have hsz := h.chg.size
    rcases hb with ⟨y, e1, -, rfl⟩ | ⟨y, e1, -, rfl⟩ | ⟨d, hd, y, e1, -, rfl⟩
    · have := hrow y.block (by rw [show a = some y from e1]; rfl)
      omega
    · have := hrb y.block (by rw [show va = some y from e1]; rfl)
      omega
    · have := ((h.ins d hd).2 y e1).1
      omega
set_option maxHeartbeats 4000000 in
set_option maxRecDepth 100000 in
theorem lclone_any (x : Cl) (w : World) (h : ClIn w x) (hl : ∀ d ∈ x.o.args, d.L.length ≤ 3518437208780) (hlv : x.ans.length ≤ 3518437208780) (ha : x.o.args.length ≤ 1048576) :
    Calls Tryd.prog 37 #[.agg (clC x).toArray] w fun e w' => ∃ y : Cl, e = .returned (.agg (clC y).toArray) ∧ y.p = x.p ∧ ClIn w' y ∧ Chg [] w w' ∧ ∀ b, y.on b → w.heap.size ≤ b := by
  have H := Lib.hid h
  have HL := Lib.hid hl
  have HV := Lib.hid hlv
  have Z0 := Lib.hid (heap_alloc_new (w.alloc (clO x)) (.cells #[.string ⟨#[]⟩, .string ⟨#[]⟩, .string ⟨#[]⟩, .slice none 0 0, .int .i64 0, .slice none 0 0, .int .i64 0, .int .i64 0] 41))
  rw [World.size_alloc] at Z0
  obtain ⟨W1, hW1⟩ : ∃ W1, W1 = (w.alloc (clO x)).alloc (.cells #[.string ⟨#[]⟩, .string ⟨#[]⟩, .string ⟨#[]⟩, .slice none 0 0, .int .i64 0, .slice none 0 0, .int .i64 0, .int .i64 0] 41) := ⟨_, rfl⟩
  rw [← hW1] at Z0
  have C1 := Lib.hid (show Chg [] w W1 by rw [hW1]; exact ((Chg.refl [] w).alloc _).alloc _)
  have B1 := Lib.hid (show W1.heap[w.heap.size]? = some (clO x) by rw [hW1]; exact blk_alloc (heap_alloc_new w _))
  have I0 := Lib.hid (CloI.start C1.out B1.out Z0.out rfl)
  have k := blk_cell (show W1.heap[w.heap.size]? = some (.cells _ _ (0, 0)) from B1.out)
  have f := blk_free (show W1.heap[w.heap.size]? = some (.cells _ _ (0, 0)) from B1.out)
  unfold clO at hW1
  have HW1 := Lib.hid hW1
  clear h hl hlv hW1
  simp only [clC]
  go_enter Tryd.func37, Tryd.ntmps37
  go_upto_region 1 with fail
  rw [← HW1.out]
  go_upto_region 3 with fail
  obtain ⟨W2, hW2⟩ : ∃ W2, W2 = W1.setCell ⟨w.heap.size, 3, none⟩ (.slice none 0 0) := ⟨_, rfl⟩
  rw [← hW2] at I0
  rw [← hW2]
  clear hW2 k f HW1 C1 B1 Z0
  go_wp2_with fail
  go_loopw [13] (fun i wr => ∃ (k : Nat) (a : Option Addr) (c : Nat) (D : List (Rr Ce)), i = .int .i64 k ∧ k ≤ x.o.args.length ∧ Hid (CloI w wr x k a c D)) (fun i _ => x.o.args.length - (intOf i).toNat)
  case atStart => exact ⟨0, none, 0, [], rfl, Nat.zero_le _, I0⟩
  case round =>
    obtain ⟨k, a, c, D, rfl, hk, I⟩ := hrel
    by_cases hkl : k < x.o.args.length
    · have hkl1 : (k : Int) < (x.o.args.length : Int) := by omega
      obtain ⟨b1, o1, e1, -, hbr1, hcc1⟩ := H.out.1.1.1.elem I.out.chg k hkl
      have c0 := hcc1 0 (by omega)
      simp only [rrC, List.getElem?_cons_zero, Nat.add_zero, Nat.mul_one] at c0
      have HI := Lib.hid (show InIs ceC 4 wr (x.o.args[k]).a (x.o.args[k]).c (x.o.args[k]).L from (H.out.1.2 _ (List.getElem_mem hkl)).kept I.out.chg)
      have HLk := Lib.hid (show (x.o.args[k]).L.length ≤ 3518437208780 from HL.out _ (List.getElem_mem hkl))
      have HK := Lib.hid hkl
      have HD := Lib.hid (I.out.len hk)
      clear hcc1
      generalize hd : x.o.args[k] = d at c0 HI HLk
      have HE := Lib.hid (show (x.o.args[k]).L = d.L from congrArg Rr.L hd)
      obtain ⟨da, dc, dL⟩ := d
      simp only at c0 HI HLk HE
      have hk0 : (0 : Int) ≤ (k : Int) := by omega
      rw [e1]
      clear hd
      go_upto_region 6 with fail
      obtain ⟨wd, hwd⟩ : ∃ wd, wd = wr.drew := ⟨_, rfl⟩
      have D0 := Lib.hid (show Chg [] wr wd by rw [hwd]; exact (Chg.refl _ _).drew)
      have J := Lib.hid (I.out.keptN D0.out)
      have A := Lib.hid (clonec_any da dc dL wd (HI.out.kept D0.out) HLk.out)
      have kd := blk_cell (show wd.heap[w.heap.size]? = some (.cells _ _ (0, 0)) from J.out.blk)
      refine wp_region_noPanic ?_
      refine wp_region_held_drew (S := (fun w' => w'.cell? ⟨w.heap.size, 0, none⟩ = some (.string x.o.ent))) (by kernel_rfl) (by rw [← hwd]; exact kd 0) (fun hHeld => ?_)
      rw [← hwd] at hHeld ⊢
      clear hwd
      have hDl : D.length ≤ 1048576 := by have := HD.out; omega
      refine wpAnyH_take (i := 0) (oi := _) (v := ?vA_0) rfl (by kernel_rfl) (by kernel_rfl) (by kernel_rfl) (fun _ _ _ h => h) (Or.inl ⟨by rfl, ?yA_0⟩) hHeld ?rA_0
      case yA_0 => (intro w hSw; (try dsimp only at hSw); (try simp only [List.getElem_toArray, List.getElem_cons_zero, List.getElem_cons_succ]); go_simp <;> with_reducible rfl)
      (try simp only [List.getElem_toArray, List.getElem_cons_zero, List.getElem_cons_succ, Act.put, List.setIfInBounds_toArray, List.set_cons_zero, List.set_cons_succ])
      refine wpAnyH_take (i := 1) (oi := _) (v := ?vA_1) rfl (by kernel_rfl) (by kernel_rfl) (by kernel_rfl) (fun _ _ _ h => h) (Or.inl ⟨by rfl, ?yA_1⟩) hHeld ?rA_1
      case yA_1 => (intro w hSw; (try dsimp only at hSw); (try simp only [List.getElem_toArray, List.getElem_cons_zero, List.getElem_cons_succ]); go_simp <;> with_reducible rfl)
      (try simp only [List.getElem_toArray, List.getElem_cons_zero, List.getElem_cons_succ, Act.put, List.setIfInBounds_toArray, List.set_cons_zero, List.set_cons_succ])
      refine wpAnyH_take (i := 3) (oi := _) (v := ?vA_3) rfl (by kernel_rfl) (by kernel_rfl) (by kernel_rfl) (fun _ _ _ h => h) (Or.inl ⟨by rfl, ?yA_3⟩) hHeld ?rA_3
      case yA_3 => (intro w hSw; (try dsimp only at hSw); (try simp only [List.getElem_toArray, List.getElem_cons_zero, List.getElem_cons_succ]); go_simp <;> with_reducible rfl)
      (try simp only [List.getElem_toArray, List.getElem_cons_zero, List.getElem_cons_succ, Act.put, List.setIfInBounds_toArray, List.set_cons_zero, List.set_cons_succ])
      refine wpAnyH_ready (rs := [2, 4]) (by kernel_rfl) (by simp) ?_
      refine AllReadyH.cons (o := _) rfl (fun K hK => ?_) (AllReadyH.cons (o := _) rfl (fun K hK => ?_) AllReadyH.nil)
      ·
        (try simp only [List.getElem_toArray, List.getElem_cons_zero, List.getElem_cons_succ])
        go_simp
        skip
        refine hK.out _ _ ?_ (fun hHeld => ?_)
        exact kd 0
        clear hK K
        (try simp only [List.getElem_toArray, List.getElem_cons_zero, List.getElem_cons_succ, Act.put, List.setIfInBounds_toArray, List.set_cons_zero, List.set_cons_succ])
        refine wpAnyH_ready (rs := [4]) (by kernel_rfl) (by simp) ?_
        refine AllReadyH.cons (o := _) rfl (fun K hK => ?_) AllReadyH.nil
        (try simp only [List.getElem_toArray, List.getElem_cons_zero, List.getElem_cons_succ])
        go_simp
        (refine Calls.mono A.out ?_; rintro e w1 ⟨a', c', rfl, hr, hc⟩; have HR := Lib.hid (RowOf.mono hr D0.out.size); have C1 := Lib.hid (D0.out.thenSame hc); have J1 := Lib.hid (J.out.keptN hc); have k1 := blk_cell (show w1.heap[w.heap.size]? = some (.cells _ _ (0, 0)) from J1.out.blk); clear hr hc)
        refine hK.out _ _ ?_ (fun hHeld => ?_)
        exact k1 0
        clear hK K
        (try simp only [List.getElem_toArray, List.getElem_cons_zero, List.getElem_cons_succ, Act.put, List.setIfInBounds_toArray, List.set_cons_zero, List.set_cons_succ])
        refine wpAnyH_ready (rs := [5]) (by kernel_rfl) (by simp) ?_
        refine AllReadyH.cons (o := _) rfl (fun K hK => ?_) AllReadyH.nil
        (try simp only [List.getElem_toArray, List.getElem_cons_zero, List.getElem_cons_succ])
        go_simp
        skip
        refine hK.out _ _ ?_ (fun hHeld => ?_)
        exact blk_cell (show (w1.alloc _).heap[w.heap.size]? = some (.cells _ _ (0, 0)) from blk_alloc J1.out.blk) 0
        clear hK K
        (try simp only [List.getElem_toArray, List.getElem_cons_zero, List.getElem_cons_succ, Act.put, List.setIfInBounds_toArray, List.set_cons_zero, List.set_cons_succ])
        have N6 := Lib.hid (heap_alloc_new w1 (.cells #[.slice a' dL.length c'] 28))
        have J6 := Lib.hid (J1.out.keptN ((Chg.refl [] w1).alloc (.cells #[.slice a' dL.length c'] 28)))
        have hb6 := Nat.le_of_lt (lt_of_heap J6.out.res.choose_spec.1)
        refine wpAnyH_ready (rs := [6]) (by kernel_rfl) (by simp) ?_
        refine AllReadyH.cons (o := _) rfl (fun K hK => ?_) AllReadyH.nil
        (try simp only [List.getElem_toArray, List.getElem_cons_zero, List.getElem_cons_succ])
        refine step_list rfl ?_
        (refine wpl_appendL rfl _ _ 31 rfl (w.heap.size + 2) 28 _ 24 Tryd.underlying31 cellsInfo rfl (by decide) rrC_len rrCe_one (.slice a D.length c) D rfl J6.out.row w1.heap.size 1 (⟨a', c', dL⟩ : Rr Ce) _ _ _ rfl N6.out rfl (by unfold maxLen; omega) (by omega) (by have := lt_of_heap J6.out.res.choose_spec.1; omega) ?_; intro g8 c8 w8 hr8 hg8 ho8 hl8; have K8 := Lib.hid (Chg.ofRow (v := .slice a D.length c) hg8); have R8 := Lib.hid hr8; have O8 := Lib.hid ho8; have X8 := Lib.hid (K8.out.at (by rw [ob_eq]; simp; exact fun e => J6.out.sep.1 e) J6.out.blk); clear hr8 hg8 ho8)
        refine ⟨rfl, hK.out _ _ ?_ (fun hHeld => ?_)⟩
        exact blk_cell (show w8.heap[w.heap.size]? = some (.cells _ _ (0, 0)) from X8.out) 0
        clear hK K
        (try simp only [List.getElem_toArray, List.getElem_cons_zero, List.getElem_cons_succ, Act.put, List.setIfInBounds_toArray, List.set_cons_zero, List.set_cons_succ])
        have v8 := blk_cell (show w8.heap[w.heap.size]? = some (.cells _ _ (0, 0)) from X8.out)
        have f8 := blk_free (show w8.heap[w.heap.size]? = some (.cells _ _ (0, 0)) from X8.out)
        refine wpAnyH_take (i := 7) (oi := _) (v := ?vA_7) rfl (by kernel_rfl) (by kernel_rfl) (by kernel_rfl) (fun _ _ _ h => h) (Or.inl ⟨by rfl, ?yA_7⟩) hHeld ?rA_7
        case yA_7 => (intro w hSw; (try dsimp only at hSw); (try simp only [List.getElem_toArray, List.getElem_cons_zero, List.getElem_cons_succ]); go_simp <;> with_reducible rfl)
        (try simp only [List.getElem_toArray, List.getElem_cons_zero, List.getElem_cons_succ, Act.put, List.setIfInBounds_toArray, List.set_cons_zero, List.set_cons_succ])
        refine wpAnyH_take (i := 8) (oi := _) (v := ?vA_8) rfl (by kernel_rfl) (by kernel_rfl) (by kernel_rfl) (fun _ _ _ h => h) (Or.inl ⟨by rfl, ?yA_8⟩) hHeld ?rA_8
        case yA_8 => (intro w hSw; (try dsimp only at hSw); (try simp only [List.getElem_toArray, List.getElem_cons_zero, List.getElem_cons_succ]); go_simp <;> with_reducible rfl)
        (try simp only [List.getElem_toArray, List.getElem_cons_zero, List.getElem_cons_succ, Act.put, List.setIfInBounds_toArray, List.set_cons_zero, List.set_cons_succ])
        refine wpAnyH_ready (rs := [9]) (by kernel_rfl) (by simp) ?_
        refine AllReadyH.cons (o := _) rfl (fun K hK => ?_) AllReadyH.nil
        (try simp only [List.getElem_toArray, List.getElem_cons_zero, List.getElem_cons_succ])
        go_simp
        skip
        refine hK.out _ _ ?_ (fun hHeld => ?_)
        exact blk_cell (show (w8.setCell ⟨w.heap.size, 3, none⟩ _).heap[w.heap.size]? = some (.cells _ _ (0, 0)) from blk_set (show w8.heap[w.heap.size]? = some (.cells _ _ (0, 0)) from X8.out) 3 _) 0
        clear hK K
        (try simp only [List.getElem_toArray, List.getElem_cons_zero, List.getElem_cons_succ, Act.put, List.setIfInBounds_toArray, List.set_cons_zero, List.set_cons_succ])
        refine wpAnyH_done (by kernel_rfl) ?_ _
        refine NoPanic.normal ?_
        go_wp2_with fail
        exact ⟨⟨k + 1, some ⟨g8, 0, none⟩, c8, D ++ [⟨a', c', dL⟩], by go_num, by omega, Lib.hid (I.out.step HK.out C1.out HE.out HR.out _ (by have := K8.out; rwa [ob_eq] at this) R8.out (by have := O8.out; rwa [ob_eq] at this))⟩, by simp [intOf]; omega⟩
      ·
        (try simp only [List.getElem_toArray, List.getElem_cons_zero, List.getElem_cons_succ])
        go_simp
        (refine Calls.mono A.out ?_; rintro e w1 ⟨a', c', rfl, hr, hc⟩; have HR := Lib.hid (RowOf.mono hr D0.out.size); have C1 := Lib.hid (D0.out.thenSame hc); have J1 := Lib.hid (J.out.keptN hc); have k1 := blk_cell (show w1.heap[w.heap.size]? = some (.cells _ _ (0, 0)) from J1.out.blk); have k2 := blk_cell (show (w1.alloc (.cells #[.slice a' dL.length c'] 28)).heap[w.heap.size]? = some (.cells _ _ (0, 0)) from blk_alloc J1.out.blk); clear hr hc)
        refine hK.out _ _ ?_ (fun hHeld => ?_)
        exact k1 0
        clear hK K
        (try simp only [List.getElem_toArray, List.getElem_cons_zero, List.getElem_cons_succ, Act.put, List.setIfInBounds_toArray, List.set_cons_zero, List.set_cons_succ])
        refine wpAnyH_ready (rs := [2, 5]) (by kernel_rfl) (by simp) ?_
        refine AllReadyH.cons (o := _) rfl (fun K hK => ?_) (AllReadyH.cons (o := _) rfl (fun K hK => ?_) AllReadyH.nil)
        ·
          (try simp only [List.getElem_toArray, List.getElem_cons_zero, List.getElem_cons_succ])
          go_simp
          skip
          refine hK.out _ _ ?_ (fun hHeld => ?_)
          exact k1 0
          clear hK K
          (try simp only [List.getElem_toArray, List.getElem_cons_zero, List.getElem_cons_succ, Act.put, List.setIfInBounds_toArray, List.set_cons_zero, List.set_cons_succ])
          refine wpAnyH_ready (rs := [5]) (by kernel_rfl) (by simp) ?_
          refine AllReadyH.cons (o := _) rfl (fun K hK => ?_) AllReadyH.nil
          (try simp only [List.getElem_toArray, List.getElem_cons_zero, List.getElem_cons_succ])
          go_simp
          skip
          refine hK.out _ _ ?_ (fun hHeld => ?_)
          exact k2 0
          clear hK K
          (try simp only [List.getElem_toArray, List.getElem_cons_zero, List.getElem_cons_succ, Act.put, List.setIfInBounds_toArray, List.set_cons_zero, List.set_cons_succ])
          have N6 := Lib.hid (heap_alloc_new w1 (.cells #[.slice a' dL.length c'] 28))
          have J6 := Lib.hid (J1.out.keptN ((Chg.refl [] w1).alloc (.cells #[.slice a' dL.length c'] 28)))
          have hb6 := Nat.le_of_lt (lt_of_heap J6.out.res.choose_spec.1)
          refine wpAnyH_ready (rs := [6]) (by kernel_rfl) (by simp) ?_
          refine AllReadyH.cons (o := _) rfl (fun K hK => ?_) AllReadyH.nil
          (try simp only [List.getElem_toArray, List.getElem_cons_zero, List.getElem_cons_succ])
          refine step_list rfl ?_
          (refine wpl_appendL rfl _ _ 31 rfl (w.heap.size + 2) 28 _ 24 Tryd.underlying31 cellsInfo rfl (by decide) rrC_len rrCe_one (.slice a D.length c) D rfl J6.out.row w1.heap.size 1 (⟨a', c', dL⟩ : Rr Ce) _ _ _ rfl N6.out rfl (by unfold maxLen; omega) (by omega) (by have := lt_of_heap J6.out.res.choose_spec.1; omega) ?_; intro g8 c8 w8 hr8 hg8 ho8 hl8; have K8 := Lib.hid (Chg.ofRow (v := .slice a D.length c) hg8); have R8 := Lib.hid hr8; have O8 := Lib.hid ho8; have X8 := Lib.hid (K8.out.at (by rw [ob_eq]; simp; exact fun e => J6.out.sep.1 e) J6.out.blk); clear hr8 hg8 ho8)
          refine ⟨rfl, hK.out _ _ ?_ (fun hHeld => ?_)⟩
          exact blk_cell (show w8.heap[w.heap.size]? = some (.cells _ _ (0, 0)) from X8.out) 0
          clear hK K
          (try simp only [List.getElem_toArray, List.getElem_cons_zero, List.getElem_cons_succ, Act.put, List.setIfInBounds_toArray, List.set_cons_zero, List.set_cons_succ])
          have v8 := blk_cell (show w8.heap[w.heap.size]? = some (.cells _ _ (0, 0)) from X8.out)
          have f8 := blk_free (show w8.heap[w.heap.size]? = some (.cells _ _ (0, 0)) from X8.out)
          refine wpAnyH_take (i := 7) (oi := _) (v := ?vB_7) rfl (by kernel_rfl) (by kernel_rfl) (by kernel_rfl) (fun _ _ _ h => h) (Or.inl ⟨by rfl, ?yB_7⟩) hHeld ?rB_7
          case yB_7 => (intro w hSw; (try dsimp only at hSw); (try simp only [List.getElem_toArray, List.getElem_cons_zero, List.getElem_cons_succ]); go_simp <;> with_reducible rfl)
          (try simp only [List.getElem_toArray, List.getElem_cons_zero, List.getElem_cons_succ, Act.put, List.setIfInBounds_toArray, List.set_cons_zero, List.set_cons_succ])
          refine wpAnyH_take (i := 8) (oi := _) (v := ?vB_8) rfl (by kernel_rfl) (by kernel_rfl) (by kernel_rfl) (fun _ _ _ h => h) (Or.inl ⟨by rfl, ?yB_8⟩) hHeld ?rB_8
          case yB_8 => (intro w hSw; (try dsimp only at hSw); (try simp only [List.getElem_toArray, List.getElem_cons_zero, List.getElem_cons_succ]); go_simp <;> with_reducible rfl)
          (try simp only [List.getElem_toArray, List.getElem_cons_zero, List.getElem_cons_succ, Act.put, List.setIfInBounds_toArray, List.set_cons_zero, List.set_cons_succ])
          refine wpAnyH_ready (rs := [9]) (by kernel_rfl) (by simp) ?_
          refine AllReadyH.cons (o := _) rfl (fun K hK => ?_) AllReadyH.nil
          (try simp only [List.getElem_toArray, List.getElem_cons_zero, List.getElem_cons_succ])
          go_simp
          skip
          refine hK.out _ _ ?_ (fun hHeld => ?_)
          exact blk_cell (show (w8.setCell ⟨w.heap.size, 3, none⟩ _).heap[w.heap.size]? = some (.cells _ _ (0, 0)) from blk_set (show w8.heap[w.heap.size]? = some (.cells _ _ (0, 0)) from X8.out) 3 _) 0
          clear hK K
          (try simp only [List.getElem_toArray, List.getElem_cons_zero, List.getElem_cons_succ, Act.put, List.setIfInBounds_toArray, List.set_cons_zero, List.set_cons_succ])
          refine wpAnyH_done (by kernel_rfl) ?_ _
          refine NoPanic.normal ?_
          go_wp2_with fail
          exact ⟨⟨k + 1, some ⟨g8, 0, none⟩, c8, D ++ [⟨a', c', dL⟩], by go_num, by omega, Lib.hid (I.out.step HK.out C1.out HE.out HR.out _ (by have := K8.out; rwa [ob_eq] at this) R8.out (by have := O8.out; rwa [ob_eq] at this))⟩, by simp [intOf]; omega⟩
        ·
          (try simp only [List.getElem_toArray, List.getElem_cons_zero, List.getElem_cons_succ])
          go_simp
          skip
          refine hK.out _ _ ?_ (fun hHeld => ?_)
          exact k2 0
          clear hK K
          (try simp only [List.getElem_toArray, List.getElem_cons_zero, List.getElem_cons_succ, Act.put, List.setIfInBounds_toArray, List.set_cons_zero, List.set_cons_succ])
          refine wpAnyH_ready (rs := [2]) (by kernel_rfl) (by simp) ?_
          refine AllReadyH.cons (o := _) rfl (fun K hK => ?_) AllReadyH.nil
          (try simp only [List.getElem_toArray, List.getElem_cons_zero, List.getElem_cons_succ])
          go_simp
          skip
          refine hK.out _ _ ?_ (fun hHeld => ?_)
          exact k2 0
          clear hK K
          (try simp only [List.getElem_toArray, List.getElem_cons_zero, List.getElem_cons_succ, Act.put, List.setIfInBounds_toArray, List.set_cons_zero, List.set_cons_succ])
          have N6 := Lib.hid (heap_alloc_new w1 (.cells #[.slice a' dL.length c'] 28))
          have J6 := Lib.hid (J1.out.keptN ((Chg.refl [] w1).alloc (.cells #[.slice a' dL.length c'] 28)))
          have hb6 := Nat.le_of_lt (lt_of_heap J6.out.res.choose_spec.1)
          refine wpAnyH_ready (rs := [6]) (by kernel_rfl) (by simp) ?_
          refine AllReadyH.cons (o := _) rfl (fun K hK => ?_) AllReadyH.nil
          (try simp only [List.getElem_toArray, List.getElem_cons_zero, List.getElem_cons_succ])
          refine step_list rfl ?_
          (refine wpl_appendL rfl _ _ 31 rfl (w.heap.size + 2) 28 _ 24 Tryd.underlying31 cellsInfo rfl (by decide) rrC_len rrCe_one (.slice a D.length c) D rfl J6.out.row w1.heap.size 1 (⟨a', c', dL⟩ : Rr Ce) _ _ _ rfl N6.out rfl (by unfold maxLen; omega) (by omega) (by have := lt_of_heap J6.out.res.choose_spec.1; omega) ?_; intro g8 c8 w8 hr8 hg8 ho8 hl8; have K8 := Lib.hid (Chg.ofRow (v := .slice a D.length c) hg8); have R8 := Lib.hid hr8; have O8 := Lib.hid ho8; have X8 := Lib.hid (K8.out.at (by rw [ob_eq]; simp; exact fun e => J6.out.sep.1 e) J6.out.blk); clear hr8 hg8 ho8)
          refine ⟨rfl, hK.out _ _ ?_ (fun hHeld => ?_)⟩
          exact blk_cell (show w8.heap[w.heap.size]? = some (.cells _ _ (0, 0)) from X8.out) 0
          clear hK K
          (try simp only [List.getElem_toArray, List.getElem_cons_zero, List.getElem_cons_succ, Act.put, List.setIfInBounds_toArray, List.set_cons_zero, List.set_cons_succ])
          have v8 := blk_cell (show w8.heap[w.heap.size]? = some (.cells _ _ (0, 0)) from X8.out)
          have f8 := blk_free (show w8.heap[w.heap.size]? = some (.cells _ _ (0, 0)) from X8.out)
          refine wpAnyH_take (i := 7) (oi := _) (v := ?vC_7) rfl (by kernel_rfl) (by kernel_rfl) (by kernel_rfl) (fun _ _ _ h => h) (Or.inl ⟨by rfl, ?yC_7⟩) hHeld ?rC_7
          case yC_7 => (intro w hSw; (try dsimp only at hSw); (try simp only [List.getElem_toArray, List.getElem_cons_zero, List.getElem_cons_succ]); go_simp <;> with_reducible rfl)
          (try simp only [List.getElem_toArray, List.getElem_cons_zero, List.getElem_cons_succ, Act.put, List.setIfInBounds_toArray, List.set_cons_zero, List.set_cons_succ])
          refine wpAnyH_take (i := 8) (oi := _) (v := ?vC_8) rfl (by kernel_rfl) (by kernel_rfl) (by kernel_rfl) (fun _ _ _ h => h) (Or.inl ⟨by rfl, ?yC_8⟩) hHeld ?rC_8
          case yC_8 => (intro w hSw; (try dsimp only at hSw); (try simp only [List.getElem_toArray, List.getElem_cons_zero, List.getElem_cons_succ]); go_simp <;> with_reducible rfl)
          (try simp only [List.getElem_toArray, List.getElem_cons_zero, List.getElem_cons_succ, Act.put, List.setIfInBounds_toArray, List.set_cons_zero, List.set_cons_succ])
          refine wpAnyH_ready (rs := [9]) (by kernel_rfl) (by simp) ?_
          refine AllReadyH.cons (o := _) rfl (fun K hK => ?_) AllReadyH.nil
          (try simp only [List.getElem_toArray, List.getElem_cons_zero, List.getElem_cons_succ])
          go_simp
          skip
          refine hK.out _ _ ?_ (fun hHeld => ?_)
          exact blk_cell (show (w8.setCell ⟨w.heap.size, 3, none⟩ _).heap[w.heap.size]? = some (.cells _ _ (0, 0)) from blk_set (show w8.heap[w.heap.size]? = some (.cells _ _ (0, 0)) from X8.out) 3 _) 0
          clear hK K
          (try simp only [List.getElem_toArray, List.getElem_cons_zero, List.getElem_cons_succ, Act.put, List.setIfInBounds_toArray, List.set_cons_zero, List.set_cons_succ])
          refine wpAnyH_done (by kernel_rfl) ?_ _
          refine NoPanic.normal ?_
          go_wp2_with fail
          exact ⟨⟨k + 1, some ⟨g8, 0, none⟩, c8, D ++ [⟨a', c', dL⟩], by go_num, by omega, Lib.hid (I.out.step HK.out C1.out HE.out HR.out _ (by have := K8.out; rwa [ob_eq] at this) R8.out (by have := O8.out; rwa [ob_eq] at this))⟩, by simp [intOf]; omega⟩
    · have hkk : k = x.o.args.length := by omega
      subst hkk
      have kb := blk_cell (show wr.heap[w.heap.size]? = some (.cells _ _ (0, 0)) from I.out.blk)
      have A2 := Lib.hid (clonec_any x.va x.vc x.ans wr (H.out.2.kept I.out.chg) HV.out)
      go_wp2_with fail
      refine A2.out.mono ?_; rintro e w1 ⟨va', vc', rfl, hr, hc⟩
      have HR := Lib.hid hr
      have C1 := Lib.hid hc
      have J1 := Lib.hid (I.out.keptN hc)
      have B2 := Lib.hid (blk_set (show w1.heap[w.heap.size]? = some (.cells _ _ (0, 0)) from J1.out.blk) 5 (.slice va' x.ans.length vc'))
      obtain ⟨o, ho, hos⟩ := J1.out.res
      have kb1 := blk_cell (show w1.heap[w.heap.size]? = some (.cells _ _ (0, 0)) from J1.out.blk)
      have fb1 := blk_free (show w1.heap[w.heap.size]? = some (.cells _ _ (0, 0)) from J1.out.blk)
      have kb2 := blk_cell B2.out
      have ko := blk_cell ho
      have fo := blk_free ho
      clear hr hc kb
      go_wp2_with fail
      obtain ⟨zl, hzl⟩ : ∃ zl : List Value, o = zl.toArray := ⟨o.toList, by simp⟩
      subst hzl
      match zl, hos with
      | [z0, z1, z2, z3, z4, z5, z6, z7], _ =>
        have q0 := (blk_set_ne (w := w1) 5 (.slice va' x.ans.length vc') (show w.heap.size + 1 ≠ w.heap.size by omega)).trans ho
        have q8 := blk_set (blk_set (blk_set (blk_set (blk_set (blk_set (blk_set (blk_set q0 0 (.string x.o.ent)) 1 (.string x.o.id)) 2 (.string x.o.op)) 3 (.slice a D.length c)) 4 (.int .i64 x.err)) 5 (.slice va' x.ans.length vc')) 6 (.int .i64 x.from_)) 7 (.int .i64 x.to_)
        have r1 := blk_cell q8
        have F := Lib.hid (I.out.fin C1.out HR.out (w' := ((((((((w1.setCell ⟨w.heap.size, 5, none⟩ (.slice va' x.ans.length vc')).setCell ⟨w.heap.size + 1, 0, none⟩ (.string x.o.ent)).setCell ⟨w.heap.size + 1, 1, none⟩ (.string x.o.id)).setCell ⟨w.heap.size + 1, 2, none⟩ (.string x.o.op)).setCell ⟨w.heap.size + 1, 3, none⟩ (.slice a D.length c)).setCell ⟨w.heap.size + 1, 4, none⟩ (.int .i64 x.err)).setCell ⟨w.heap.size + 1, 5, none⟩ (.slice va' x.ans.length vc')).setCell ⟨w.heap.size + 1, 6, none⟩ (.int .i64 x.from_)).setCell ⟨w.heap.size + 1, 7, none⟩ (.int .i64 x.to_)) (by
          repeat (refine Chg.setCell ?_ _ _ (by simp))
          exact Chg.refl _ _))
        refine bodyPost_ret (v := .agg (clC (clY x a c D va' vc')).toArray) (by simp [results, Tryd.results37, go_sem, r1, clC, clY]) rfl ?_
        exact ⟨clY x a c D va' vc', rfl, F.out.1, F.out.2.1, F.out.2.2.1, F.out.2.2.2⟩
end Go.Proofs.YtnhemokmgpelaaaDoor
