/- Chapter 50: the example of the law: contract: awake. Condition: the table of Itoa lies as the program lays it. -/
import Derived.Test.YtnhemokmgpelaaaDoorLinJ
namespace Go.Proofs.YtnhemokmgpelaaaDoor
set_option linter.unusedVariables false
set_option linter.unusedSimpArgs false
open Go.RowKit
def idX : ByteArray := ⟨#[120]⟩
def idA : ByteArray := ⟨#[97]⟩
def idB' : ByteArray := ⟨#[98]⟩
theorem szX : idX.size ≤ maxLen := of_decide_eq_true (by kernel_rfl)
theorem szA : idA.size ≤ maxLen := of_decide_eq_true (by kernel_rfl)
theorem szB : idB'.size ≤ maxLen := of_decide_eq_true (by kernel_rfl)
theorem szAdd : opAdd.size ≤ maxLen := of_decide_eq_true (by kernel_rfl)
theorem szRead : opRead.size ≤ maxLen := of_decide_eq_true (by kernel_rfl)
theorem szWrite : opWrite.size ≤ maxLen := of_decide_eq_true (by kernel_rfl)
theorem szCas : opCas.size ≤ maxLen := of_decide_eq_true (by kernel_rfl)
theorem wfC (n : Int) (h : (Lit.int .i64 n).wf = true) : (Lit.int .i64 n).wf = true := h
def awP (f : Int) : List PCl := [⟨⟨idX, idA, opAdd, [[intC 1]]⟩, 0, [intC 1], 1, 3⟩, ⟨⟨idX, idB', opRead, []⟩, 0, [intC 0], f, 4⟩]
theorem awake1 : findZ [intC 0] (awP 2) = ([1, 0], 0) := by kernel_rfl
theorem awake2 : findZ [intC 0] (awP 4) = ([], 19) := by kernel_rfl
theorem lawint_any (n : Int) (w : World) : Calls Tryd.prog 9 #[.int .i64 n] w fun e w' => ∃ a c, e = .returned (.slice a 1 c) ∧ InIs ceC 4 w' a c [intC n] ∧ Chg [] w w' := by
  go_enter Tryd.func9, Tryd.ntmps9
  go_wp2_with fail
  go_ret
  exact ⟨_, _, rfl, one_in (x := intC n) (heap_alloc_new _ _), (Chg.refl _ _).alloc _⟩
theorem lawop_any (id op : ByteArray) (a : Option Addr) (n c : Nat) (w : World) : Calls Tryd.prog 10 #[.string id, .string op, .slice a n c] w fun e w' => e = .returned (.agg #[.string idX, .string id, .string op, .slice a n c]) ∧ Chg [] w w' := by
  go_enter Tryd.func10, Tryd.ntmps10
  go_wp2_with fail
  have r1 := blk_cell (heap_alloc_new w (.cells #[.string idX, .string id, .string op, .slice a n c] 33))
  unfold idX at r1
  exact bodyPost_ret (v := .agg #[.string ⟨#[120]⟩, .string id, .string op, .slice a n c]) (by simp [results, Tryd.results10, go_sem, r1]) rfl ⟨rfl, (Chg.refl _ _).alloc _⟩
/-- The example's history at block B. -/
def awC (aa : Option Addr) (ac : Nat) (ra : Option Addr) (rc : Nat) (va : Option Addr) (vc : Nat) (ua : Option Addr) (uc : Nat) (f : Int) : List Cl :=
  [⟨⟨idX, idA, opAdd, aa, ac, [⟨ra, rc, [intC 1]⟩]⟩, 0, va, vc, [intC 1], 1, 3⟩, ⟨⟨idX, idB', opRead, none, 0, []⟩, 0, ua, uc, [intC 0], f, 4⟩]
theorem awC_p (aa ac ra rc va vc ua uc f) : (awC aa ac ra rc va vc ua uc f).map Cl.p = awP f := rfl
set_option maxHeartbeats 4000000 in
set_option maxRecDepth 100000 in
theorem awake_any (w : World) (ht : TabW w) : Calls Tryd.prog 8 #[] w fun e w' => e = .returned (.bool true) ∧ Chg [] w w' := by
  have HT := Lib.hid ht
  clear ht
  go_enter Tryd.func8, Tryd.ntmps8
  go_wp2_with fail
  refine (lawint_any 1 _).mono ?_; rintro e w1 ⟨a1, c1, rfl, i1, h1⟩
  go_wp2_with fail
  refine (lawop_any _ _ _ _ _ _).mono ?_; rintro e w2 ⟨rfl, h2⟩
  go_wp2_with fail
  refine (lawint_any 1 _).mono ?_; rintro e w3 ⟨a3, c3, rfl, i3, h3⟩
  go_wp2_with fail
  refine (lawop_any _ _ _ _ _ _).mono ?_; rintro e w4 ⟨rfl, h4⟩
  go_wp2_with fail
  refine (lawint_any 0 _).mono ?_; rintro e w5 ⟨a5, c5, rfl, i5, h5⟩
  have K1 := Lib.hid ((Chg.refl [] w1).alloc (.cells #[.slice a1 1 c1] 28))
  have B1 := heap_alloc_new w1 (.cells #[.slice a1 1 c1] 28)
  have K15 := Lib.hid (((h2.thenSame h3).thenSame h4).thenSame h5)
  have R1 := Lib.hid (show InIs rrC 1 w5 (some ⟨w1.heap.size, 0, none⟩) 1 [(⟨a1, c1, [intC 1]⟩ : Rr Ce)] from ⟨SlIs.ofBlock (cf := rrC) [(⟨a1, c1, [intC 1]⟩ : Rr Ce)] (K15.out.at (by simp) B1) rrC_len rfl, Nat.le_refl _, by unfold maxLen; omega, fun h => by cases h⟩)
  have I1 := Lib.hid ((i1.kept K1.out).kept K15.out)
  have I3 := Lib.hid ((i3.kept h4).kept h5)
  have I5 := Lib.hid i5
  have C5 := Lib.hid (((h1.thenSame K1.out)).thenSame K15.out)
  have CI : ∀ f, Hid (∀ x ∈ awC (some ⟨w1.heap.size, 0, none⟩) 1 a1 c1 a3 c3 a5 c5 f, ClIn w5 x) := fun f => Lib.hid (by
    intro x hx
    simp only [awC, List.mem_cons, List.not_mem_nil, or_false] at hx
    rcases hx with rfl | rfl
    · exact ⟨⟨R1.out, fun d hd => by simp at hd; subst hd; exact I1.out⟩, I3.out⟩
    · exact ⟨⟨⟨⟨rfl, fun k hk => by simp at hk⟩, Nat.le_refl _, Nat.zero_le _, fun _ => rfl⟩, fun d hd => by simp at hd⟩, I5.out⟩)
  have GI : ∀ f, (Lit.int .i64 f).wf = true → Hid (∀ x ∈ awC (some ⟨w1.heap.size, 0, none⟩) 1 a1 c1 a3 c3 a5 c5 f, goodCl x) := fun f hf => Lib.hid (by
    intro x hx
    simp only [awC, List.mem_cons, List.not_mem_nil, or_false] at hx
    rcases hx with rfl | rfl
    · exact ⟨⟨szX, szA, szAdd, by simp, fun d hd => by simp at hd; subst hd; exact intC_goodL (by decide)⟩, wfC 0 (by decide), wfC 1 (by decide), wfC 3 (by decide)⟩
    · exact ⟨⟨szX, szB, szRead, by simp, fun d hd => by simp at hd⟩, wfC 0 (by decide), hf, wfC 4 (by decide)⟩)
  clear i1 h1 h2 i3 h3 h4 i5 h5 B1
  have B6 := Lib.hid (heap_alloc_new w5 (.cells #[.string idX, .string idA, .string opAdd, .slice (some ⟨w1.heap.size, 0, none⟩) 1 1, .int .i64 0, .slice a3 1 c3, .int .i64 1, .int .i64 3, .string idX, .string idB', .string opRead, .slice none 0 0, .int .i64 0, .slice a5 1 c5, .int .i64 2, .int .i64 4] 41))
  have K6 := Lib.hid ((Chg.refl [] w5).alloc (.cells #[.string idX, .string idA, .string opAdd, .slice (some ⟨w1.heap.size, 0, none⟩) 1 1, .int .i64 0, .slice a3 1 c3, .int .i64 1, .int .i64 3, .string idX, .string idB', .string opRead, .slice none 0 0, .int .i64 0, .slice a5 1 c5, .int .i64 2, .int .i64 4] 41))
  have LI : ∀ w' f, w'.heap[w5.heap.size]? = some (.cells #[.string idX, .string idA, .string opAdd, .slice (some ⟨w1.heap.size, 0, none⟩) 1 1, .int .i64 0, .slice a3 1 c3, .int .i64 1, .int .i64 3, .string idX, .string idB', .string opRead, .slice none 0 0, .int .i64 0, .slice a5 1 c5, .int .i64 f, .int .i64 4] 41 (0, 0)) → Chg [] w5 w' → LIn w' (some ⟨w5.heap.size, 0, none⟩) 2 (awC (some ⟨w1.heap.size, 0, none⟩) 1 a1 c1 a3 c3 a5 c5 f) := fun w' f hb hc =>
    ⟨⟨SlIs.ofBlock (cf := clC) (awC (some ⟨w1.heap.size, 0, none⟩) 1 a1 c1 a3 c3 a5 c5 f) hb clC_len rfl, Nat.le_refl _, by unfold maxLen; omega, fun h => by cases h⟩, fun x hx => ((CI f).out x hx).kept hc⟩
  have LI := Lib.hid LI
  rename_i LI0
  clear LI0
  go_wp2_with fail
  refine (lawint_any 0 _).mono ?_; rintro e w7 ⟨a7, c7, rfl, i7, h7⟩
  have I7 := Lib.hid i7
  have K7 := Lib.hid (K6.out.thenSame h7)
  have B7 := Lib.hid (h7.at (by simp) B6.out)
  have F1 := lfind_any (LI.out w7 2 B7.out K7.out) (GI 2 (by decide)).out I7.out (intC_goodL (n := 0) (by decide)) (HT.out.kept (C5.out.thenSame K7.out))
  rw [awC_p, awake1] at F1
  have F1 := Lib.hid F1
  rename_i F10
  clear F10 i7 h7
  go_wp2_with fail
  refine F1.out.mono ?_; rintro e w8 ⟨oa, oc, rfl, i8, n8, h8⟩
  have N8 := Lib.hid n8
  clear n8
  have I8 := Lib.hid i8
  have K8 := Lib.hid (K7.out.thenSame h8)
  have B8 := Lib.hid (h8.at (by simp) B7.out)
  have k8 := blk_cell B8.out
  have f8 := blk_free B8.out
  clear i8 h8
  go_upto_region 4 with fail
  have K9 := Lib.hid (K8.out.setCell ⟨w5.heap.size, 14, none⟩ (.int .i64 4) (fun h => absurd h (Nat.lt_irrefl _)))
  have B9 := Lib.hid (blk_set B8.out 14 (.int .i64 4))
  go_wp2_with fail
  refine (lawint_any 0 _).mono ?_; rintro e w10 ⟨a10, c10, rfl, i10, h10⟩
  have I10 := Lib.hid i10
  have K10 := Lib.hid (K9.out.thenSame h10)
  have B10 := Lib.hid (h10.at (by simp) B9.out)
  have F2 := lfind_any (LI.out w10 4 B10.out K10.out) (GI 4 (by decide)).out I10.out (intC_goodL (n := 0) (by decide)) (HT.out.kept (C5.out.thenSame K10.out))
  rw [awC_p, awake2] at F2
  have F2 := Lib.hid F2
  rename_i F20
  have I8' := Lib.hid ((I8.out.keptN ((Chg.refl [w5.heap.size] w8).setCell ⟨w5.heap.size, 14, none⟩ (.int .i64 4) (by simp)) (fun x hx hm => by
    have := N8.out x hx
    have := lt_of_heap B7.out
    simp at hm
    omega)).kept h10)
  obtain ⟨ob1, oo1, eo1, -, hoc1⟩ := I8'.out.1.2 0 (by simp)
  obtain ⟨ob2, oo2, eo2, -, hoc2⟩ := I8'.out.1.2 1 (by simp)
  subst eo1
  cases eo2
  have u0 := hoc1 0 (by omega)
  have u1 := hoc2 0 (by omega)
  simp only [icI, List.getElem_cons_zero, List.getElem_cons_succ, List.getElem?_cons_zero, Nat.zero_mul, Nat.one_mul, Nat.add_zero] at u0 u1
  clear F20 i10 h10 hoc1 hoc2
  have U := Lib.hid (fun w' (hc : Chg [] w10 w') => And.intro ((World.cell?_of_block (w := w10) (hc.block ob1 (World.block_lt_of_cell? w10 _ u0) (by simp))).trans u0) ((World.cell?_of_block (w := w10) (hc.block ob1 (World.block_lt_of_cell? w10 _ u0) (by simp))).trans u1))
  go_wp2_with fail
  refine F2.out.mono ?_; rintro e w11 ⟨oa2, oc2, rfl, -, -, h11⟩
  obtain ⟨v0, v1⟩ := U.out _ h11
  have K11 := Lib.hid (K10.out.thenSame h11)
  clear h11
  go_wp2_with fail
  go_ret
  exact ⟨rfl, C5.out.thenSame K11.out⟩
end Go.Proofs.YtnhemokmgpelaaaDoor
