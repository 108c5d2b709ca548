/- Chapter 50: the example of the law: contract: awake. Condition: the table of Itoa lies as the program lays it. Chapter 50: the walk of LinearFindsOrder. Condition: the table of Itoa lies as the program lays it. Over any program: slices of structs that hold structs, read as lists; such structs by value. No condition. Over any program: slices of one-cell elements (numbers, strings) that came in, read as lists. No condition. Over any program: what came in, read as lists, with the form's own bound on sizes. No condition. Chapter 50: the openers of the laws' arguments. No condition. Chapter 50: contract: clone. No condition. Chapter 50: contract: Serial; plain: what Serial returns. Condition (Serial): the table of Itoa lies as the program lays it. -/
import Derived.Test.YtnhemokmgpelaaaGreatDoorLinJ
import Derived.Test.YtnhemokmgpelaaaGreatDoorMLinL
import Derived.Test.YtnhemokmgpelaaaGreatDoorSlice
import Derived.SizedLaws
import Derived.Test.YtnhemokmgpelaaaGreatDoorInl
import Derived.Test.YtnhemokmgpelaaaGreatDoorMLinA
import Derived.Test.YtnhemokmgpelaaaGreatDoorRowi
import Derived.Test.YtnhemokmgpelaaaGreatDoorLinG
import Derived.Test.YtnhemokmgpelaaaGreatDoorAppL
namespace Go.Proofs.YtnhemokmgpelaaaGreatDoor
set_option linter.unusedVariables false
set_option linter.unusedSimpArgs false
open Go.RowKit
def idX : ByteArray := ⟨#[120]⟩
def idA : ByteArray := ⟨#[97]⟩
def idB' : ByteArray := ⟨#[98]⟩
theorem szX : idX.size ≤ maxLen := of_decide_eq_true (by kernel_rfl)
theorem szA : idA.size ≤ maxLen := of_decide_eq_true (by kernel_rfl)
theorem szB : idB'.size ≤ maxLen := of_decide_eq_true (by kernel_rfl)
theorem szAdd : opAdd.size ≤ maxLen := of_decide_eq_true (by kernel_rfl)
theorem szRead : opRead.size ≤ maxLen := of_decide_eq_true (by kernel_rfl)
theorem szWrite : opWrite.size ≤ maxLen := of_decide_eq_true (by kernel_rfl)
theorem szCas : opCas.size ≤ maxLen := of_decide_eq_true (by kernel_rfl)
theorem wfC (n : Int) (h : (Lit.int .i64 n).wf = true) : (Lit.int .i64 n).wf = true := h
def awP (f : Int) : List PCl := [⟨⟨idX, idA, opAdd, [[intC 1]]⟩, 0, [intC 1], 1, 3⟩, ⟨⟨idX, idB', opRead, []⟩, 0, [intC 0], f, 4⟩]
theorem awake1 : findZ [intC 0] (awP 2) = ([1, 0], 0) := by kernel_rfl
theorem awake2 : findZ [intC 0] (awP 4) = ([], 19) := by kernel_rfl
theorem lawint_any (n : Int) (w : World) : Calls Tryz.prog 19 #[.int .i64 n] w fun e w' => ∃ a c, e = .returned (.slice a 1 c) ∧ InIs ceC 4 w' a c [intC n] ∧ Chg [] w w' := by
  go_enter Tryz.func19, Tryz.ntmps19
  go_wp2_with fail
  go_ret
  exact ⟨_, _, rfl, one_in (x := intC n) (heap_alloc_new _ _), (Chg.refl _ _).alloc _⟩
theorem lawop_any (id op : ByteArray) (a : Option Addr) (n c : Nat) (w : World) : Calls Tryz.prog 18 #[.string id, .string op, .slice a n c] w fun e w' => e = .returned (.agg #[.string idX, .string id, .string op, .slice a n c]) ∧ Chg [] w w' := by
  go_enter Tryz.func18, Tryz.ntmps18
  go_wp2_with fail
  have r1 := blk_cell (heap_alloc_new w (.cells #[.string idX, .string id, .string op, .slice a n c] 36))
  unfold idX at r1
  exact bodyPost_ret (v := .agg #[.string ⟨#[120]⟩, .string id, .string op, .slice a n c]) (by simp [results, Tryz.results18, go_sem, r1]) rfl ⟨rfl, (Chg.refl _ _).alloc _⟩
/-- The example's history at block B. -/
def awC (aa : Option Addr) (ac : Nat) (ra : Option Addr) (rc : Nat) (va : Option Addr) (vc : Nat) (ua : Option Addr) (uc : Nat) (f : Int) : List Cl :=
  [⟨⟨idX, idA, opAdd, aa, ac, [⟨ra, rc, [intC 1]⟩]⟩, 0, va, vc, [intC 1], 1, 3⟩, ⟨⟨idX, idB', opRead, none, 0, []⟩, 0, ua, uc, [intC 0], f, 4⟩]
theorem awC_p (aa ac ra rc va vc ua uc f) : (awC aa ac ra rc va vc ua uc f).map Cl.p = awP f := rfl
set_option maxHeartbeats 4000000 in
set_option maxRecDepth 100000 in
theorem awake_any (w : World) (ht : TabW w) : Calls Tryz.prog 6 #[] w fun e w' => e = .returned (.bool true) ∧ Chg [] w w' := by
  have HT := Lib.hid ht
  clear ht
  go_enter Tryz.func6, Tryz.ntmps6
  go_wp2_with fail
  refine (lawint_any 1 _).mono ?_; rintro e w1 ⟨a1, c1, rfl, i1, h1⟩
  go_wp2_with fail
  refine (lawop_any _ _ _ _ _ _).mono ?_; rintro e w2 ⟨rfl, h2⟩
  go_wp2_with fail
  refine (lawint_any 1 _).mono ?_; rintro e w3 ⟨a3, c3, rfl, i3, h3⟩
  go_wp2_with fail
  refine (lawop_any _ _ _ _ _ _).mono ?_; rintro e w4 ⟨rfl, h4⟩
  go_wp2_with fail
  refine (lawint_any 0 _).mono ?_; rintro e w5 ⟨a5, c5, rfl, i5, h5⟩
  have K1 := Lib.hid ((Chg.refl [] w1).alloc (.cells #[.slice a1 1 c1] 22))
  have B1 := heap_alloc_new w1 (.cells #[.slice a1 1 c1] 22)
  have K15 := Lib.hid (((h2.thenSame h3).thenSame h4).thenSame h5)
  have R1 := Lib.hid (show InIs rrC 1 w5 (some ⟨w1.heap.size, 0, none⟩) 1 [(⟨a1, c1, [intC 1]⟩ : Rr Ce)] from ⟨SlIs.ofBlock (cf := rrC) [(⟨a1, c1, [intC 1]⟩ : Rr Ce)] (K15.out.at (by simp) B1) rrC_len rfl, Nat.le_refl _, by unfold maxLen; omega, fun h => by cases h⟩)
  have I1 := Lib.hid ((i1.kept K1.out).kept K15.out)
  have I3 := Lib.hid ((i3.kept h4).kept h5)
  have I5 := Lib.hid i5
  have C5 := Lib.hid (((h1.thenSame K1.out)).thenSame K15.out)
  have CI : ∀ f, Hid (∀ x ∈ awC (some ⟨w1.heap.size, 0, none⟩) 1 a1 c1 a3 c3 a5 c5 f, ClIn w5 x) := fun f => Lib.hid (by
    intro x hx
    simp only [awC, List.mem_cons, List.not_mem_nil, or_false] at hx
    rcases hx with rfl | rfl
    · exact ⟨⟨R1.out, fun d hd => by simp at hd; subst hd; exact I1.out⟩, I3.out⟩
    · exact ⟨⟨⟨⟨rfl, fun k hk => by simp at hk⟩, Nat.le_refl _, Nat.zero_le _, fun _ => rfl⟩, fun d hd => by simp at hd⟩, I5.out⟩)
  have GI : ∀ f, (Lit.int .i64 f).wf = true → Hid (∀ x ∈ awC (some ⟨w1.heap.size, 0, none⟩) 1 a1 c1 a3 c3 a5 c5 f, goodCl x) := fun f hf => Lib.hid (by
    intro x hx
    simp only [awC, List.mem_cons, List.not_mem_nil, or_false] at hx
    rcases hx with rfl | rfl
    · exact ⟨⟨szX, szA, szAdd, by simp, fun d hd => by simp at hd; subst hd; exact intC_goodL (by decide)⟩, wfC 0 (by decide), wfC 1 (by decide), wfC 3 (by decide)⟩
    · exact ⟨⟨szX, szB, szRead, by simp, fun d hd => by simp at hd⟩, wfC 0 (by decide), hf, wfC 4 (by decide)⟩)
  clear i1 h1 h2 i3 h3 h4 i5 h5 B1
  have B6 := Lib.hid (heap_alloc_new w5 (.cells #[.string idX, .string idA, .string opAdd, .slice (some ⟨w1.heap.size, 0, none⟩) 1 1, .int .i64 0, .slice a3 1 c3, .int .i64 1, .int .i64 3, .string idX, .string idB', .string opRead, .slice none 0 0, .int .i64 0, .slice a5 1 c5, .int .i64 2, .int .i64 4] 40))
  have K6 := Lib.hid ((Chg.refl [] w5).alloc (.cells #[.string idX, .string idA, .string opAdd, .slice (some ⟨w1.heap.size, 0, none⟩) 1 1, .int .i64 0, .slice a3 1 c3, .int .i64 1, .int .i64 3, .string idX, .string idB', .string opRead, .slice none 0 0, .int .i64 0, .slice a5 1 c5, .int .i64 2, .int .i64 4] 40))
  have LI : ∀ w' f, w'.heap[w5.heap.size]? = some (.cells #[.string idX, .string idA, .string opAdd, .slice (some ⟨w1.heap.size, 0, none⟩) 1 1, .int .i64 0, .slice a3 1 c3, .int .i64 1, .int .i64 3, .string idX, .string idB', .string opRead, .slice none 0 0, .int .i64 0, .slice a5 1 c5, .int .i64 f, .int .i64 4] 40 (0, 0)) → Chg [] w5 w' → LIn w' (some ⟨w5.heap.size, 0, none⟩) 2 (awC (some ⟨w1.heap.size, 0, none⟩) 1 a1 c1 a3 c3 a5 c5 f) := fun w' f hb hc =>
    ⟨⟨SlIs.ofBlock (cf := clC) (awC (some ⟨w1.heap.size, 0, none⟩) 1 a1 c1 a3 c3 a5 c5 f) hb clC_len rfl, Nat.le_refl _, by unfold maxLen; omega, fun h => by cases h⟩, fun x hx => ((CI f).out x hx).kept hc⟩
  have LI := Lib.hid LI
  rename_i LI0
  clear LI0
  go_wp2_with fail
  refine (lawint_any 0 _).mono ?_; rintro e w7 ⟨a7, c7, rfl, i7, h7⟩
  have I7 := Lib.hid i7
  have K7 := Lib.hid (K6.out.thenSame h7)
  have B7 := Lib.hid (h7.at (by simp) B6.out)
  have F1 := lfind_any (LI.out w7 2 B7.out K7.out) (GI 2 (by decide)).out I7.out (intC_goodL (n := 0) (by decide)) (HT.out.kept (C5.out.thenSame K7.out))
  rw [awC_p, awake1] at F1
  have F1 := Lib.hid F1
  rename_i F10
  clear F10 i7 h7
  go_wp2_with fail
  refine F1.out.mono ?_; rintro e w8 ⟨oa, oc, rfl, i8, n8, h8⟩
  have N8 := Lib.hid n8
  clear n8
  have I8 := Lib.hid i8
  have K8 := Lib.hid (K7.out.thenSame h8)
  have B8 := Lib.hid (h8.at (by simp) B7.out)
  have k8 := blk_cell B8.out
  have f8 := blk_free B8.out
  clear i8 h8
  go_upto_region 4 with fail
  have K9 := Lib.hid (K8.out.setCell ⟨w5.heap.size, 14, none⟩ (.int .i64 4) (fun h => absurd h (Nat.lt_irrefl _)))
  have B9 := Lib.hid (blk_set B8.out 14 (.int .i64 4))
  go_wp2_with fail
  refine (lawint_any 0 _).mono ?_; rintro e w10 ⟨a10, c10, rfl, i10, h10⟩
  have I10 := Lib.hid i10
  have K10 := Lib.hid (K9.out.thenSame h10)
  have B10 := Lib.hid (h10.at (by simp) B9.out)
  have F2 := lfind_any (LI.out w10 4 B10.out K10.out) (GI 4 (by decide)).out I10.out (intC_goodL (n := 0) (by decide)) (HT.out.kept (C5.out.thenSame K10.out))
  rw [awC_p, awake2] at F2
  have F2 := Lib.hid F2
  rename_i F20
  have I8' := Lib.hid ((I8.out.keptN ((Chg.refl [w5.heap.size] w8).setCell ⟨w5.heap.size, 14, none⟩ (.int .i64 4) (by simp)) (fun x hx hm => by
    have := N8.out x hx
    have := lt_of_heap B7.out
    simp at hm
    omega)).kept h10)
  obtain ⟨ob1, oo1, eo1, -, hoc1⟩ := I8'.out.1.2 0 (by simp)
  obtain ⟨ob2, oo2, eo2, -, hoc2⟩ := I8'.out.1.2 1 (by simp)
  subst eo1
  cases eo2
  have u0 := hoc1 0 (by omega)
  have u1 := hoc2 0 (by omega)
  simp only [icI, List.getElem_cons_zero, List.getElem_cons_succ, List.getElem?_cons_zero, Nat.zero_mul, Nat.one_mul, Nat.add_zero] at u0 u1
  clear F20 i10 h10 hoc1 hoc2
  have U := Lib.hid (fun w' (hc : Chg [] w10 w') => And.intro ((World.cell?_of_block (w := w10) (hc.block ob1 (World.block_lt_of_cell? w10 _ u0) (by simp))).trans u0) ((World.cell?_of_block (w := w10) (hc.block ob1 (World.block_lt_of_cell? w10 _ u0) (by simp))).trans u1))
  go_wp2_with fail
  refine F2.out.mono ?_; rintro e w11 ⟨oa2, oc2, rfl, -, -, h11⟩
  obtain ⟨v0, v1⟩ := U.out _ h11
  have K11 := Lib.hid (K10.out.thenSame h11)
  clear h11
  go_wp2_with fail
  go_ret
  exact ⟨rfl, C5.out.thenSame K11.out⟩
end Go.Proofs.YtnhemokmgpelaaaGreatDoor
namespace Go.Proofs.YtnhemokmgpelaaaGreatDoor
set_option linter.unusedVariables false
set_option linter.unusedSimpArgs false
open Go.RowKit
theorem placeAll_count {r : List Int} : ∀ {pl q : List Bool}, placeAll pl r = some q → q.count false + r.length = pl.count false := by
  induction r with
  | nil => intro pl q h; simp [placeAll] at h; rw [h]; simp
  | cons m r ih =>
    intro pl q h
    have hf := (placeAll_fresh h m (by simp)).2
    unfold placeAll at h
    split at h
    · simp at h
    · have := ih h
      have := count_set hf
      simp
      omega
theorem compl_len {l : List PCl} {order : List Int} (h : completeB l order = true) : order.length ≤ l.length := by
  unfold completeB at h
  cases hp : placeAll (List.replicate l.length false) order with
  | none => rw [hp] at h; simp at h
  | some q =>
    have := placeAll_count hp
    simp at this
    omega
end Go.Proofs.YtnhemokmgpelaaaGreatDoor
namespace Go.Proofs.YtnhemokmgpelaaaGreatDoor
set_option linter.unusedVariables false
set_option linter.unusedSimpArgs false
open Go.RowKit Go.ChangeShapes Go.WideShapes Go.Deep

section
variable {H : Type} {enc : TypeId × Value → H} {P : Program} {w : World} {base : Nat} {spare : Nat → Bool} {held : Bool}
theorem cells_at {w : World} {base : Nat} {a : Addr} {n : Nat} {cs : List Value} (h : w.cells? base a n = some cs) : cs.length = n ∧ ∀ j, j < n → w.cell? (a.add j) = cs[j]? := by
  obtain ⟨_, hcl, hat⟩ := World.cells?_some h
  refine ⟨hcl, fun j hj => ?_⟩
  rw [hat j hj]

/-- A slice of structs, as a list: dec says what an element's cells are. -/
theorem open_slN {α : Type} (cf : α → List Value) (good : α → Prop) {t e : TypeId} {C : Nat} {a : Option Addr} {len cap : Nat} {d : DataW H} {ps : List MemPlace} (ht : P.underlying t = some (.slice e))
    (hC : P.cellsOf e = C) (hpos : 0 < C) (hcf : ∀ x, (cf x).length = C)
    (dec : ∀ (n : Nat) (cs : List Value) (y : DataW H × List MemPlace), DataW.trod enc P w base spare held n e cs = some y → ∃ x : α, good x ∧ cs = cf x)
    (h : DataW.Trod enc P w base spare held t (.slice a len cap) d ps) : ∃ l : List α, SlIs cf C w a len l ∧ (∀ x ∈ l, good x) ∧ len ≤ maxLen := by
  obtain ⟨fuel, hf⟩ := h
  rcases open_slice ht hf with ⟨h0, _⟩ | ⟨x, l, c, m, n, D, Pl, hcs, hb, hl, hm, hmm, hx, hi⟩
  · simp [Value.cells] at h0
    obtain ⟨rfl, rfl, rfl⟩ := h0
    exact ⟨[], ⟨rfl, fun k hk => by simp at hk⟩, by simp, Nat.zero_le _⟩
  · simp [Value.cells] at hcs
    obtain ⟨rfl, rfl, rfl⟩ := hcs
    have hlm : len ≤ m := by rw [hmm]; split <;> omega
    have hstep : ∀ i, i < len → ∃ y : α, good y ∧ ∀ j, j < C → w.cell? ((x.add (i * C)).add j) = (cf y)[j]? := by
      intro i hin
      obtain ⟨cs', hc, ht'⟩ := hi i (by omega)
      rw [hC] at hc
      obtain ⟨y, hg, rfl⟩ := dec _ _ _ ht'
      exact ⟨y, hg, (cells_at hc).2⟩
    obtain ⟨l, hll, hp⟩ := choose_list len _ hstep
    refine ⟨l, ⟨hll, fun k hk => ?_⟩, fun y hy => ?_, Nat.le_trans hl hm⟩
    · obtain ⟨b, off, spot⟩ := x
      have h0 := (hp 0 (by omega)).2 0 hpos
      have hsp : spot = none := by
        cases spot with
        | none => rfl
        | some s =>
          exfalso
          have e0 : ((⟨b, off, some s⟩ : Addr).add (0 * C)).add 0 = ⟨b, off, some s⟩ := by simp [Addr.add]
          rw [e0] at h0
          have : w.cell? ⟨b, off, some s⟩ = none := by unfold World.cell?; split <;> simp
          rw [this] at h0
          have hlt : (cf l[0])[0]? = some ((cf l[0])[0]'(by rw [hcf]; exact hpos)) := List.getElem?_eq_getElem _
          rw [hlt] at h0; cases h0
      subst hsp
      have hadd : ∀ off m, (⟨b, off, none⟩ : Addr).add m = ⟨b, off + m, none⟩ := by
        intro off m; unfold Addr.add; split
        · rename_i e; rw [e]; rfl
        · rfl
      refine ⟨b, off, rfl, ?_, fun j hj => ?_⟩
      · have h1 := (hp k hk).2 0 hpos
        have hlt : (cf l[k])[0]? = some ((cf l[k])[0]'(by rw [hcf]; exact hpos)) := List.getElem?_eq_getElem _
        rw [hlt] at h1
        exact World.block_lt_of_cell? w _ (by rw [hadd, hadd] at h1; exact h1)
      · rw [← (hp k hk).2 j hj, hadd, hadd]
    · obtain ⟨k, hk, rfl⟩ := List.mem_iff_getElem.1 hy
      exact (hp k hk).1

/-- A struct by value. -/
theorem open_stN {α : Type} (cf : α → List Value) (good : α → Prop) {r : Reach} {b0 : Nat} {t : TypeId} {fs : Array Field} {v : Value} {d : DataW H} {ps : List MemPlace} (ht : P.underlying t = some (.struct fs))
    (dec : ∀ (n : Nat) (cs : List Value) (y : DataW H × List MemPlace), DataW.trod enc P w base spare held n t cs = some y → ∃ x : α, good x ∧ cs = cf x)
    (hv : Value.okWide P w r b0 t v) (h : DataW.Trod enc P w base spare held t v d ps) : ∃ x : α, v = .agg (cf x).toArray ∧ good x := by
  obtain ⟨cs, rfl, hsz⟩ := okWide_struct ht hv
  obtain ⟨fuel, hf⟩ := h
  obtain ⟨x, hg, hx⟩ := dec _ _ _ hf
  have : cs.toList = cf x := hx
  exact ⟨x, by rw [← this], hg⟩
/-- A list by its one-cell parts. -/
theorem part_one {cs : List Value} {o : Nat} {v : Value} (h : (cs.drop o).take 1 = [v]) : cs[o]? = some v := by
  have := congrArg List.head? h
  simpa [List.head?_take, List.head?_drop] using this
theorem part_many {cs us : List Value} {o n : Nat} (h : (cs.drop o).take n = us) {j : Nat} (hj : j < n) : cs[o + j]? = us[j]? := by
  rw [← h, List.getElem?_take, if_pos hj, List.getElem?_drop]
end
end Go.Proofs.YtnhemokmgpelaaaGreatDoor
namespace Go.Proofs.YtnhemokmgpelaaaGreatDoor
set_option linter.unusedVariables false
set_option linter.unusedSimpArgs false
open Go.RowKit Go.ChangeShapes Go.WideShapes Go.Deep
section
variable {H : Type} {enc : TypeId × Value → H} {P : Program} {w : World} {base : Nat} {spare : Nat → Bool} {held : Bool}

theorem open_sl1 {α : Type} (cf : α → List Value) (good : α → Prop) {t e : TypeId} {a : Option Addr} {len cap : Nat} {d : DataW H} {ps : List MemPlace} (ht : P.underlying t = some (.slice e)) (hC : P.cellsOf e = 1)
    (dec : ∀ (v : Value) (n : Nat) (y : DataW H × List MemPlace), DataW.trod enc P w base spare held n e [v] = some y → ∃ x : α, good x ∧ cf x = [v])
    (h : DataW.Trod enc P w base spare held t (.slice a len cap) d ps) : ∃ l : List α, SlIs cf 1 w a len l ∧ (∀ x ∈ l, good x) ∧ len ≤ maxLen ∧ len ≤ cap := by
  obtain ⟨fuel, hf⟩ := h
  rcases open_slice ht hf with hcs | ⟨x, l, c, m, n, D, Pl, hcs, hb, hl, hm, hmm, hx, hi⟩
  · have hcs := hcs.1
    simp [Value.cells] at hcs
    obtain ⟨rfl, rfl, rfl⟩ := hcs
    exact ⟨[], ⟨rfl, fun k hk => by simp at hk⟩, by simp, Nat.zero_le _, Nat.le_refl _⟩
  · simp [Value.cells] at hcs
    obtain ⟨rfl, rfl, rfl⟩ := hcs
    have hlm : len ≤ m := by rw [hmm]; split <;> omega
    have hstep : ∀ i, i < len → ∃ y : α, good y ∧ w.cell? (x.add i) = (cf y)[0]? ∧ ∃ v, cf y = [v] := by
      intro i hin
      obtain ⟨cs', hc, ht'⟩ := hi i (by omega)
      rw [hC, Nat.mul_one] at hc
      obtain ⟨_, hcl, hat⟩ := World.cells?_some hc
      have h0 := hat 0 (by omega)
      rcases cs' with _ | ⟨v, _ | ⟨u, cs'⟩⟩
      · simp at hcl
      · obtain ⟨y, hg, hy⟩ := dec v n _ ht'
        refine ⟨y, hg, ?_, v, hy⟩
        rw [hy]
        rw [Go.Deep.add_add, Nat.add_zero] at h0
        exact h0
      · simp at hcl
    obtain ⟨L, hL, hp⟩ := choose_list len (fun i y => good y ∧ w.cell? (x.add i) = (cf y)[0]? ∧ ∃ v, cf y = [v]) hstep
    refine ⟨L, ⟨hL, fun k hk => ?_⟩, fun y hy => ?_, Nat.le_trans hl hm, hl⟩
    · obtain ⟨b, off, spot⟩ := x
      obtain ⟨_, h0, v0, hv0⟩ := hp 0 (by omega)
      have hsp : spot = none := by
        cases spot with
        | none => rfl
        | some s =>
          exfalso
          have e0 : (⟨b, off, some s⟩ : Addr).add 0 = ⟨b, off, some s⟩ := by simp [Addr.add]
          rw [e0] at h0
          have : w.cell? ⟨b, off, some s⟩ = none := by unfold World.cell?; split <;> simp
          rw [this, hv0] at h0
          simp at h0
      subst hsp
      have hadd : ∀ m, (⟨b, off, none⟩ : Addr).add m = ⟨b, off + m, none⟩ := by
        intro m; unfold Addr.add; split
        · rename_i e; rw [e]; rfl
        · rfl
      obtain ⟨_, hk0, v, hv⟩ := hp k hk
      refine ⟨b, off, rfl, ?_, fun j hj => ?_⟩
      · rw [hadd, hv] at hk0
        exact World.block_lt_of_cell? w _ hk0
      · have : j = 0 := by omega
        subst this
        rw [← hk0, hadd]; simp
    · obtain ⟨k, hk, rfl⟩ := List.mem_iff_getElem.1 hy
      exact (hp k hk).1
end
end Go.Proofs.YtnhemokmgpelaaaGreatDoor
namespace Go.Proofs.YtnhemokmgpelaaaGreatDoor
set_option linter.unusedVariables false
set_option linter.unusedSimpArgs false
open Go.RowKit Go.ChangeShapes Go.WideShapes Go.Deep
section
variable {H : Type} {enc : TypeId × Value → H} {P : Program} {w : World} {base : Nat} {spare : Nat → Bool} {held : Bool}
def Wt (P : Program) (t : TypeId) (d : DataW H) : Prop := ∀ n ∈ d.weights P t, n ≤ reachBytes
theorem wtAll_mem {e : TypeId} : ∀ {l : List (DataW H)} {d : DataW H}, d ∈ l → ∀ n ∈ d.weights P e, n ∈ DataW.weightsAll P e l
  | [], _, h, _, _ => by cases h
  | x :: r, d, h, n, hn => by
    rw [DataW.weightsAll, List.mem_append]
    rcases List.mem_cons.1 h with rfl | h
    · exact .inl hn
    · exact .inr (wtAll_mem h n hn)
theorem Wt.elem {t e : TypeId} {elems rest : List (DataW H)} (ht : P.underlying t = some (.slice e)) (h : Wt P t (.slice elems rest)) : (elems.length + rest.length) * P.bytesOf e ≤ reachBytes ∧ ∀ d ∈ elems, Wt P e d := by
  unfold Wt at h
  rw [DataW.weights, ht] at h
  exact ⟨h _ (by simp), fun d hd n hn => h n (by simp; exact .inr (.inl (wtAll_mem hd n hn)))⟩
theorem Wt.field {t : TypeId} {fs : Array Field} {parts : List (DataW H)} (ht : P.underlying t = some (.struct fs)) (h : Wt P t (.agg parts)) {j : Nat} {f : Field} {d : DataW H} (hf : fs[j]? = some f) (hd : parts[j]? = some d) : Wt P f.type d := by
  unfold Wt at h
  rw [DataW.weights, ht] at h
  exact fun n hn => h n (DataW.weights_mem_each (ts := fs.toList.map (·.type)) (by rw [List.getElem?_map, Array.getElem?_toList, hf]; rfl) hd n hn)
theorem wt_each {ts : List TypeId} {ds : List (DataW H)} (h : (DataW.weightsEach P ts ds).all (· ≤ reachBytes) = true) {j : Nat} {t : TypeId} {d : DataW H} (ht : ts[j]? = some t) (hd : ds[j]? = some d) : Wt P t d := by
  intro n hn
  have := List.all_eq_true.1 h n (DataW.weights_mem_each ht hd n hn)
  simpa using this
/-- The length of a slice that came in. -/
theorem wt_len {t e : TypeId} {a : Option Addr} {len cap : Nat} {d : DataW H} {ps : List MemPlace} (ht : P.underlying t = some (.slice e)) (h : DataW.Trod enc P w base spare held t (.slice a len cap) d ps) (hw : Wt P t d) : len * P.bytesOf e ≤ reachBytes := by
  obtain ⟨fuel, hf⟩ := h
  rcases open_slice ht hf with ⟨h0, _⟩ | ⟨x, l, c, m, n, D, Pl, hcs, hb, hl, hm, hmm, hx, hi⟩
  · simp [Value.cells] at h0
    rw [h0.2.1]; simp
  · simp [Value.cells] at hcs
    obtain ⟨rfl, rfl, rfl⟩ := hcs
    have hd : d = .slice ((List.range len).map D) ((List.range (m - len)).map fun j => D (len + j)) := congrArg Prod.fst hx
    subst hd
    have := (hw.elem ht).1
    simp only [List.length_map, List.length_range] at this
    exact Nat.le_trans (Nat.mul_le_mul_right _ (Nat.le_add_right _ _)) this
/-- A slice of structs or of slices, as a list: dec says what an element's cells are. -/
theorem open_slZ {α : Type} (cf : α → List Value) (good : α → Prop) {t e : TypeId} {C : Nat} {a : Option Addr} {len cap : Nat} {d : DataW H} {ps : List MemPlace} (ht : P.underlying t = some (.slice e))
    (hC : P.cellsOf e = C) (hpos : 0 < C) (hcf : ∀ x, (cf x).length = C)
    (dec : ∀ (n : Nat) (cs : List Value) (y : DataW H × List MemPlace), Wt P e y.1 → DataW.trod enc P w base spare held n e cs = some y → ∃ x : α, good x ∧ cs = cf x)
    (h : DataW.Trod enc P w base spare held t (.slice a len cap) d ps) (hw : Wt P t d) : ∃ l : List α, SlIs cf C w a len l ∧ (∀ x ∈ l, good x) ∧ len ≤ maxLen := by
  obtain ⟨fuel, hf⟩ := h
  rcases open_slice ht hf with ⟨h0, _⟩ | ⟨x, l, c, m, n, D, Pl, hcs, hb, hl, hm, hmm, hx, hi⟩
  · simp [Value.cells] at h0
    obtain ⟨rfl, rfl, rfl⟩ := h0
    exact ⟨[], ⟨rfl, fun k hk => by simp at hk⟩, by simp, Nat.zero_le _⟩
  · simp [Value.cells] at hcs
    obtain ⟨rfl, rfl, rfl⟩ := hcs
    have hd : d = .slice ((List.range len).map D) ((List.range (m - len)).map fun j => D (len + j)) := congrArg Prod.fst hx
    have hwe : ∀ i, i < len → Wt P e (D i) := fun i hi => by
      rw [hd] at hw
      exact (hw.elem ht).2 _ (List.mem_map.2 ⟨i, List.mem_range.2 hi, rfl⟩)
    have hlm : len ≤ m := by rw [hmm]; split <;> omega
    have hstep : ∀ i, i < len → ∃ y : α, good y ∧ ∀ j, j < C → w.cell? ((x.add (i * C)).add j) = (cf y)[j]? := by
      intro i hin
      obtain ⟨cs', hc, ht'⟩ := hi i (by omega)
      rw [hC] at hc
      obtain ⟨y, hg, rfl⟩ := dec _ _ _ (hwe i hin) ht'
      exact ⟨y, hg, (cells_at hc).2⟩
    obtain ⟨l, hll, hp⟩ := choose_list len _ hstep
    refine ⟨l, ⟨hll, fun k hk => ?_⟩, fun y hy => ?_, Nat.le_trans hl hm⟩
    · obtain ⟨b, off, spot⟩ := x
      have h0 := (hp 0 (by omega)).2 0 hpos
      have hsp : spot = none := by
        cases spot with
        | none => rfl
        | some s =>
          exfalso
          have e0 : ((⟨b, off, some s⟩ : Addr).add (0 * C)).add 0 = ⟨b, off, some s⟩ := by simp [Addr.add]
          rw [e0] at h0
          have : w.cell? ⟨b, off, some s⟩ = none := by unfold World.cell?; split <;> simp
          rw [this] at h0
          have hlt : (cf l[0])[0]? = some ((cf l[0])[0]'(by rw [hcf]; exact hpos)) := List.getElem?_eq_getElem _
          rw [hlt] at h0; cases h0
      subst hsp
      have hadd : ∀ off m, (⟨b, off, none⟩ : Addr).add m = ⟨b, off + m, none⟩ := by
        intro off m; unfold Addr.add; split
        · rename_i e; rw [e]; rfl
        · rfl
      refine ⟨b, off, rfl, ?_, fun j hj => ?_⟩
      · have h1 := (hp k hk).2 0 hpos
        have hlt : (cf l[k])[0]? = some ((cf l[k])[0]'(by rw [hcf]; exact hpos)) := List.getElem?_eq_getElem _
        rw [hlt] at h1
        exact World.block_lt_of_cell? w _ (by rw [hadd, hadd] at h1; exact h1)
      · rw [← (hp k hk).2 j hj, hadd, hadd]
    · obtain ⟨k, hk, rfl⟩ := List.mem_iff_getElem.1 hy
      exact (hp k hk).1
theorem trod_cap2 {t e : TypeId} {a : Option Addr} {len cap : Nat} {d : DataW H} {ps : List MemPlace} (ht : P.underlying t = some (.slice e))
    (h : DataW.Trod enc P w base spare held t (.slice a len cap) d ps) : (a = none → cap = 0) ∧ cap ≤ maxLen := by
  obtain ⟨fuel, hf⟩ := h
  rcases open_slice ht hf with ⟨h0, _⟩ | ⟨_, _, _, _, _, _, _, h0, _, _, h2, _⟩
  · simp [Value.cells] at h0; unfold maxLen; omega
  · simp [Value.cells] at h0
    exact ⟨fun e => by rw [e] at h0; simp at h0, by omega⟩
theorem xs_at {γ : Type} {xs : List γ} {n j : Nat} (h : xs.length = n) (hj : j < n) : ∃ y, xs[j]? = some y := ⟨xs[j]'(by omega), List.getElem?_eq_getElem _⟩
/-- A slice's reading begins with a slice. -/
theorem cs_slice {t e : TypeId} {n : Nat} {cs : List Value} {y : DataW H × List MemPlace} (ht : P.underlying t = some (.slice e)) (h : DataW.trod enc P w base spare held n t cs = some y) : ∃ a len cap, cs = [.slice a len cap] ∧ DataW.Trod enc P w base spare held t (.slice a len cap) y.1 y.2 := by
  rcases open_slice ht h with ⟨h0, _⟩ | ⟨x, l, c, m, n', D, Pl, hcs, _⟩
  · exact ⟨none, 0, 0, h0, n, by rw [h0] at h; exact h⟩
  · exact ⟨some x, l, c, hcs, n, by rw [hcs] at h; exact h⟩
end
end Go.Proofs.YtnhemokmgpelaaaGreatDoor
namespace Go.Proofs.YtnhemokmgpelaaaGreatDoor
set_option linter.unusedVariables false
set_option linter.unusedSimpArgs false
open Go.RowKit Go.ChangeShapes Go.WideShapes Go.Deep
section
variable {H : Type} {enc : TypeId × Value → H} {w : World} {base : Nat} {spare : Nat → Bool} {held : Bool}
theorem cells_errno : Tryz.prog.cellsOf 24 = 1 := by kernel_rfl
theorem cells_int : Tryz.prog.cellsOf 3 = 1 := by kernel_rfl
theorem cells_str : Tryz.prog.cellsOf 9 = 1 := by kernel_rfl
theorem cells_sl : Tryz.prog.cellsOf 22 = 1 := by kernel_rfl
theorem cells_rows : Tryz.prog.cellsOf 34 = 1 := by kernel_rfl
theorem cells_eop : Tryz.prog.cellsOf 36 = 4 := by kernel_rfl
theorem cells_ans : Tryz.prog.cellsOf 38 = 2 := by kernel_rfl
theorem cells_call : Tryz.prog.cellsOf 40 = 8 := by kernel_rfl
theorem bytes_cell : Tryz.prog.bytesOf 74 = 40 := by kernel_rfl
theorem bytes_sl : Tryz.prog.bytesOf 22 = 24 := by kernel_rfl
theorem bytes_call : Tryz.prog.bytesOf 40 = 120 := by kernel_rfl
theorem opens_CellsZ {a : Option Addr} {len cap : Nat} {d : DataW H} {ps : List MemPlace} (h : DataW.Trod enc Tryz.prog w base spare held 22 (.slice a len cap) d ps) (hw : Wt Tryz.prog 22 d) : ∃ l : List Ce, l.length = len ∧ InIs ceC 4 w a cap l ∧ goodL l := by
  obtain ⟨l, h1, h2, h3, h4⟩ := opens_Ce h
  obtain ⟨h5, h6⟩ := trod_cap2 Tryz.underlying22 h
  have h7 := wt_len Tryz.underlying22 h hw
  rw [bytes_cell] at h7
  have hl : l.length = len := h1.1
  subst hl
  exact ⟨l, rfl, ⟨h1, h4, h6, h5⟩, by unfold reachBytes at h7; omega, h2⟩
theorem dec_rr (n : Nat) (cs : List Value) (y : DataW H × List MemPlace) (hw : Wt Tryz.prog 22 y.1) (h : DataW.trod enc Tryz.prog w base spare held n 22 cs = some y) : ∃ d : Rr Ce, (InIs ceC 4 w d.a d.c d.L ∧ goodL d.L) ∧ cs = rrC d := by
  obtain ⟨a, len, cap, rfl, ht⟩ := cs_slice Tryz.underlying22 h
  obtain ⟨l, rfl, h2, h3⟩ := opens_CellsZ ht hw
  exact ⟨⟨a, cap, l⟩, ⟨h2, h3⟩, rfl⟩
theorem dec_rows (n : Nat) (cs : List Value) (y : DataW H × List MemPlace) (hw : Wt Tryz.prog 34 y.1) (h : DataW.trod enc Tryz.prog w base spare held n 34 cs = some y) : ∃ (aa : Option Addr) (ac : Nat) (args : List (Rr Ce)), cs = [.slice aa args.length ac] ∧ ArgsIn w aa ac args ∧ args.length ≤ 9223372036854775806 ∧ ∀ d ∈ args, goodL d.L := by
  obtain ⟨a, len, cap, rfl, ht⟩ := cs_slice Tryz.underlying34 h
  obtain ⟨l, h1, h2, h3⟩ := open_slZ rrC (fun d : Rr Ce => InIs ceC 4 w d.a d.c d.L ∧ goodL d.L) Tryz.underlying34 cells_sl (by decide) rrC_len dec_rr ht hw
  have h4 := trod_cap Tryz.underlying34 ht
  obtain ⟨h5, h6⟩ := trod_cap2 Tryz.underlying34 ht
  have h7 := wt_len Tryz.underlying34 ht hw
  rw [bytes_sl] at h7
  have hl : l.length = len := h1.1
  subst hl
  exact ⟨a, cap, l, rfl, ⟨⟨h1, h4, h6, h5⟩, fun d hd => (h2 d hd).1⟩, by unfold reachBytes at h7; omega, fun d hd => (h2 d hd).2⟩
theorem dec_eop (n : Nat) (cs : List Value) (y : DataW H × List MemPlace) (hw : Wt Tryz.prog 36 y.1) (h : DataW.trod enc Tryz.prog w base spare held n 36 cs = some y) : ∃ x : EOp, (ArgsIn w x.aa x.ac x.args ∧ x.good) ∧ cs = eoC x := by
  obtain ⟨xs, n', _, hy, hl, hx, hf⟩ := DataW.trod_struct Tryz.underlying36 h
  rw [cells_eop] at hl
  have h0 := hf 0 _ rfl
  have h1 := hf 1 _ rfl
  have h2 := hf 2 _ rfl
  have h3 := hf 3 _ rfl
  simp only [List.getElem_toArray, List.getElem_cons_zero, List.getElem_cons_succ] at h0 h1 h2 h3
  obtain ⟨y0, q0⟩ := xs_at (j := 0) hx (by decide)
  rw [q0] at h0
  obtain ⟨y1, q1⟩ := xs_at (j := 1) hx (by decide)
  rw [q1] at h1
  obtain ⟨y2, q2⟩ := xs_at (j := 2) hx (by decide)
  rw [q2] at h2
  obtain ⟨y3, q3⟩ := xs_at (j := 3) hx (by decide)
  rw [q3] at h3
  have hw3 : Wt Tryz.prog 34 y3.1 := by
    rw [hy] at hw
    exact hw.field Tryz.underlying36 (j := 3) rfl (by rw [List.getElem?_map, q3]; rfl)
  obtain ⟨a0, e0, _, w0⟩ := DataW.trod_string Tryz.underlying9 h0
  obtain ⟨a1, e1, _, w1⟩ := DataW.trod_string Tryz.underlying9 h1
  obtain ⟨a2, e2, _, w2⟩ := DataW.trod_string Tryz.underlying9 h2
  obtain ⟨aa, ac, args, e3, g1, g2, g3⟩ := dec_rows _ _ _ hw3 h3
  simp only [cells_str, cells_rows] at e0 e1 e2 e3
  clear hf h0 h1 h2 h3 h
  match cs, hl with
  | [c0, c1, c2, c3], _ =>
    simp at e0 e1 e2 e3
    subst e0 e1 e2 e3
    exact ⟨⟨a0, a1, a2, aa, ac, args⟩, ⟨g1, w0, w1, w2, g2, g3⟩, rfl⟩
theorem dec_ans (n : Nat) (cs : List Value) (y : DataW H × List MemPlace) (hw : Wt Tryz.prog 38 y.1) (h : DataW.trod enc Tryz.prog w base spare held n 38 cs = some y) : ∃ (e : Int) (a : Option Addr) (c : Nat) (l : List Ce), cs = [.int .i64 e, .slice a l.length c] ∧ (InIs ceC 4 w a c l ∧ goodL l) ∧ (Lit.int .i64 e).wf = true := by
  obtain ⟨xs, n', _, hy, hl, hx, hf⟩ := DataW.trod_struct Tryz.underlying38 h
  rw [cells_ans] at hl
  have h0 := hf 0 _ rfl
  have h1 := hf 1 _ rfl
  simp only [List.getElem_toArray, List.getElem_cons_zero, List.getElem_cons_succ] at h0 h1
  obtain ⟨y0, q0⟩ := xs_at (j := 0) hx (by decide)
  rw [q0] at h0
  obtain ⟨y1, q1⟩ := xs_at (j := 1) hx (by decide)
  rw [q1] at h1
  have hw1 : Wt Tryz.prog 22 y1.1 := by
    rw [hy] at hw
    exact hw.field Tryz.underlying38 (j := 1) rfl (by rw [List.getElem?_map, q1]; rfl)
  obtain ⟨a0, e0, _, w0⟩ := DataW.trod_int Tryz.underlying24 h0
  obtain ⟨d, ⟨g1, g2⟩, e1⟩ := dec_rr _ _ _ hw1 h1
  simp only [cells_errno, cells_sl] at e0 e1
  clear hf h0 h1 h
  match cs, hl with
  | [c0, c1], _ =>
    simp [rrC] at e0 e1
    subst e0 e1
    exact ⟨a0, d.a, d.c, d.L, rfl, ⟨g1, g2⟩, w0⟩
theorem dec_call (n : Nat) (cs : List Value) (y : DataW H × List MemPlace) (hw : Wt Tryz.prog 40 y.1) (h : DataW.trod enc Tryz.prog w base spare held n 40 cs = some y) : ∃ x : Cl, (ClIn w x ∧ goodCl x ∧ goodL x.ans) ∧ cs = clC x := by
  obtain ⟨xs, n', _, hy, hl, hx, hf⟩ := DataW.trod_struct Tryz.underlying40 h
  rw [cells_call] at hl
  have h0 := hf 0 _ rfl
  have h1 := hf 1 _ rfl
  have h2 := hf 2 _ rfl
  have h3 := hf 3 _ rfl
  simp only [List.getElem_toArray, List.getElem_cons_zero, List.getElem_cons_succ] at h0 h1 h2 h3
  obtain ⟨y0, q0⟩ := xs_at (j := 0) hx (by decide)
  rw [q0] at h0
  obtain ⟨y1, q1⟩ := xs_at (j := 1) hx (by decide)
  rw [q1] at h1
  obtain ⟨y2, q2⟩ := xs_at (j := 2) hx (by decide)
  rw [q2] at h2
  obtain ⟨y3, q3⟩ := xs_at (j := 3) hx (by decide)
  rw [q3] at h3
  rw [hy] at hw
  obtain ⟨o, ⟨g1, g2⟩, e0⟩ := dec_eop _ _ _ (hw.field Tryz.underlying40 (j := 0) rfl (by rw [List.getElem?_map, q0]; rfl)) h0
  obtain ⟨er, va, vc, vl, e1, ⟨g3, g5⟩, g4⟩ := dec_ans _ _ _ (hw.field Tryz.underlying40 (j := 1) rfl (by rw [List.getElem?_map, q1]; rfl)) h1
  obtain ⟨a2, e2, _, w2⟩ := DataW.trod_int Tryz.underlying3 h2
  obtain ⟨a3, e3, _, w3⟩ := DataW.trod_int Tryz.underlying3 h3
  simp only [cells_int, cells_eop, cells_ans] at e0 e1 e2 e3
  clear hf h0 h1 h2 h3 h
  match cs, hl with
  | [c0, c1, c2, c3, c4, c5, c6, c7], _ =>
    simp at e2 e3
    simp [eoC] at e0
    simp at e1
    obtain ⟨rfl, rfl, rfl, rfl⟩ := e0
    obtain ⟨rfl, rfl⟩ := e1
    subst e2 e3
    exact ⟨⟨o, er, va, vc, vl, a2, a3⟩, ⟨⟨g1, g3⟩, ⟨g2, g4, w2, w3⟩, g5⟩, rfl⟩
theorem opens_Calls {a : Option Addr} {len cap : Nat} {d : DataW H} {ps : List MemPlace} (h : DataW.Trod enc Tryz.prog w base spare held 23 (.slice a len cap) d ps) (hw : Wt Tryz.prog 23 d) : ∃ l : List Cl, l.length = len ∧ LIn w a cap l ∧ (∀ x ∈ l, goodCl x) ∧ ∀ x ∈ l, goodL x.ans := by
  obtain ⟨l, h1, h2, h3⟩ := open_slZ clC (fun x => ClIn w x ∧ goodCl x ∧ goodL x.ans) Tryz.underlying23 cells_call (by decide) clC_len dec_call h hw
  have h4 := trod_cap Tryz.underlying23 h
  obtain ⟨h5, h6⟩ := trod_cap2 Tryz.underlying23 h
  have hl : l.length = len := h1.1
  subst hl
  exact ⟨l, rfl, ⟨⟨h1, h4, h6, h5⟩, fun x hx => (h2 x hx).1⟩, fun x hx => (h2 x hx).2.1, fun x hx => (h2 x hx).2.2⟩
theorem opens_IntsZ {a : Option Addr} {len cap : Nat} {d : DataW H} {ps : List MemPlace} (h : DataW.Trod enc Tryz.prog w base spare held 27 (.slice a len cap) d ps) (hw : Wt Tryz.prog 27 d) : ∃ l : List Int, l.length = len ∧ InIs icI 1 w a cap l ∧ (∀ x ∈ l, (Lit.int .i64 x).wf = true) ∧ len ≤ 1099511627776000 := by
  obtain ⟨l, h1, h2, h3, h4⟩ := open_sl1 icI (fun x => (Lit.int .i64 x).wf = true) Tryz.underlying27 cells_int (fun v n y hy => by
    obtain ⟨m, e, _, hw⟩ := DataW.trod_int Tryz.underlying3 hy
    simp at e
    exact ⟨m, hw, by simp [icI, e]⟩) h
  obtain ⟨h5, h6⟩ := trod_cap2 Tryz.underlying27 h
  have h7 := wt_len Tryz.underlying27 h hw
  rw [show Tryz.prog.bytesOf 3 = 8 by kernel_rfl] at h7
  have hl : l.length = len := h1.1
  subst hl
  exact ⟨l, rfl, ⟨h1, h4, h6, h5⟩, h2, by unfold reachBytes at h7; omega⟩
end
end Go.Proofs.YtnhemokmgpelaaaGreatDoor
namespace Go.Proofs.YtnhemokmgpelaaaGreatDoor
set_option linter.unusedVariables false
set_option linter.unusedSimpArgs false
open Go.RowKit
theorem cellsInfo : (Tryz.prog.info? 22).map (fun i => (i.zero, i.size, i.bytes)) = some (some (.slice none 0 0), 1, 24) := by kernel_rfl
theorem rrCe_one (d : Rr Ce) : ∀ u ∈ rrC d, u.oneCell' = true := by intro u hu; simp [rrC] at hu; subst hu; rfl
/-- A block that a call's slices lie in. -/
def Cl.on (x : Cl) (b : Nat) : Prop := (∃ y, x.o.aa = some y ∧ 0 < x.o.args.length ∧ y.block = b) ∨ (∃ y, x.va = some y ∧ 0 < x.ans.length ∧ y.block = b) ∨ ∃ d ∈ x.o.args, ∃ y, d.a = some y ∧ 0 < d.L.length ∧ y.block = b
theorem InIs.keptP {α : Type} {cf : α → List Value} {sz : Nat} {w w' : World} {a : Option Addr} {c : Nat} {l : List α} {S : List Nat} (h : InIs cf sz w a c l) (hc : Chg S w w') (hn : ∀ y, a = some y → 0 < l.length → y.block ∉ S) : InIs cf sz w' a c l := by
  by_cases hl : 0 < l.length
  · exact h.keptN hc (fun y hy => hn y hy hl)
  · have : l = [] := by simpa using hl
    subst this
    exact ⟨⟨rfl, fun k hk => by simp at hk⟩, h.2⟩
theorem InIs.lt {α : Type} {cf : α → List Value} {sz : Nat} {w : World} {a : Option Addr} {c : Nat} {l : List α} (h : InIs cf sz w a c l) {y : Addr} (hy : a = some y) (hl : 0 < l.length) : y.block < w.heap.size := by
  obtain ⟨b, o, e, h1, -⟩ := h.1.2 0 hl
  rw [hy] at e
  cases e
  exact h1
theorem ClIn.keptOn {w w' : World} {x : Cl} {S : List Nat} (h : ClIn w x) (hc : Chg S w w') (hn : ∀ b, x.on b → b ∉ S) : ClIn w' x :=
  ⟨⟨h.1.1.keptP hc (fun y hy hl => hn _ (.inl ⟨y, hy, hl, rfl⟩)), fun d hd => (h.1.2 d hd).keptP hc (fun y hy hl => hn _ (.inr (.inr ⟨d, hd, y, hy, hl, rfl⟩)))⟩, h.2.keptP hc (fun y hy hl => hn _ (.inr (.inl ⟨y, hy, hl, rfl⟩)))⟩
theorem ClIn.on_lt {w : World} {x : Cl} (h : ClIn w x) {b : Nat} (hb : x.on b) : b < w.heap.size := by
  rcases hb with ⟨y, h1, h2, rfl⟩ | ⟨y, h1, h2, rfl⟩ | ⟨d, hd, y, h1, h2, rfl⟩
  · exact h.1.1.lt h1 h2
  · exact h.2.lt h1 h2
  · exact (h.1.2 d hd).lt h1 h2
def ccO (x : Cl) (a : Option Addr) (n c : Nat) (va : Option Addr) (vc : Nat) : Obj := .cells #[.string x.o.ent, .string x.o.id, .string x.o.op, .slice a n c, .int .i64 x.err, .slice va x.ans.length vc, .int .i64 x.from_, .int .i64 x.to_] 40
/-- The copy, while its arguments are copied: k of them, D. -/
structure CloI (w wr : World) (x : Cl) (k : Nat) (a : Option Addr) (c : Nat) (D : List (Rr Ce)) : Prop where
  chg : Chg [] w wr
  blk : wr.heap[w.heap.size]? = some (ccO x a D.length c x.va x.vc)
  res : ∃ o, wr.heap[w.heap.size + 1]? = some (.cells o 40 (0, 0)) ∧ o.size = 8
  row : RowOf rrC 1 wr (w.heap.size + 2) 22 (.slice a D.length c) D
  vals : D.map Rr.L = (x.o.args.take k).map Rr.L
  ins : ∀ d ∈ D, InIs ceC 4 wr d.a d.c d.L ∧ ∀ y, d.a = some y → (w.heap.size + 2 ≤ y.block ∧ y.block < wr.heap.size) ∧ ob a ≠ some y.block
theorem CloI.len {w wr : World} {x : Cl} {k : Nat} {a : Option Addr} {c : Nat} {D : List (Rr Ce)} (h : CloI w wr x k a c D) (hk : k ≤ x.o.args.length) : D.length = k := by
  have := congrArg List.length h.vals
  simp at this
  omega
theorem CloI.keptN {w wr wx : World} {x : Cl} {k : Nat} {a : Option Addr} {c : Nat} {D : List (Rr Ce)} (h : CloI w wr x k a c D) (hc : Chg [] wr wx) : CloI w wx x k a c D where
  chg := h.chg.thenSame hc
  blk := hc.at (by simp) h.blk
  res := by obtain ⟨o, h1, h2⟩ := h.res; exact ⟨o, hc.at (by simp) h1, h2⟩
  row := h.row.kept hc (by simp)
  vals := h.vals
  ins := fun d hd => ⟨(h.ins d hd).1.kept hc, fun y hy => ⟨⟨((h.ins d hd).2 y hy).1.1, hc.lt ((h.ins d hd).2 y hy).1.2⟩, ((h.ins d hd).2 y hy).2⟩⟩
theorem CloI.sep {w wr : World} {x : Cl} {k : Nat} {a : Option Addr} {c : Nat} {D : List (Rr Ce)} (h : CloI w wr x k a c D) : ob a ≠ some w.heap.size ∧ ob a ≠ some (w.heap.size + 1) := by
  have hb := h.row.block
  rw [ob_eq] at hb
  exact ⟨fun e => by have := hb _ e; omega, fun e => by have := hb _ e; omega⟩
/-- One more argument. -/
theorem CloI.step {w wr w1 w3 : World} {x : Cl} {k : Nat} {a : Option Addr} {c : Nat} {D : List (Rr Ce)} (h : CloI w wr x k a c D) (hk : k < x.o.args.length) (h1 : Chg [] wr w1) {a' : Option Addr} {c' : Nat} {L : List Ce} (hL : (x.o.args[k]).L = L)
    (hr : RowOf ceC 4 w1 wr.heap.size 74 (.slice a' L.length c') L) (o : Obj) {g cap : Nat} (hg : Chg (ob a).toList (w1.alloc o) w3) (hrow : RowOf rrC 1 w3 (w.heap.size + 2) 22 (.slice (some ⟨g, 0, none⟩) (D.length + 1) cap) (D ++ [⟨a', c', L⟩])) (hat : ob a = some g ∨ g = (w1.alloc o).heap.size) :
    CloI w (w3.setCell ⟨w.heap.size, 3, none⟩ (.slice (some ⟨g, 0, none⟩) (D.length + 1) cap)) x (k + 1) (some ⟨g, 0, none⟩) cap (D ++ [⟨a', c', L⟩]) := by
  obtain ⟨s1, s2⟩ := h.sep
  have h2 : Chg [] wr (w1.alloc o) := h1.alloc o
  have hsz := h.chg.size
  have hsz1 := h1.size
  have hb2 := lt_of_heap h.res.choose_spec.1
  have hbr := h.row.block
  rw [ob_eq] at hbr
  have hgw : g ≠ w.heap.size := by
    rcases hat with e | e
    · exact fun e2 => s1 (by rw [e, e2])
    · rw [e, World.size_alloc]; omega
  have hgw1 : g ≠ w.heap.size + 1 := by
    rcases hat with e | e
    · exact fun e2 => s2 (by rw [e, e2])
    · rw [e, World.size_alloc]; omega
  have hset : Chg [w.heap.size] w3 (w3.setCell ⟨w.heap.size, 3, none⟩ (.slice (some ⟨g, 0, none⟩) (D.length + 1) cap)) := (Chg.refl _ _).setCell _ _ (by simp)
  have hblk3 : w3.heap[w.heap.size]? = some (ccO x a D.length c x.va x.vc) := hg.at (by simp; exact fun e => s1 e) (h2.at (by simp) h.blk)
  have hrb := hr.block
  rw [ob_eq] at hrb
  have hlen : (D ++ [(⟨a', c', L⟩ : Rr Ce)]).length = D.length + 1 := by simp
  have hgs : ∀ y ∈ (ob a).toList, y < w.heap.size → False := fun y hy hl => by
    simp only [Option.mem_toList] at hy
    have := hbr y hy
    omega
  have hall : Chg ((ob a).toList ++ [w.heap.size]) (w1.alloc o) (w3.setCell ⟨w.heap.size, 3, none⟩ (.slice (some ⟨g, 0, none⟩) (D.length + 1) cap)) := (hg.mono (fun y hy _ => List.mem_append_left _ hy)).then (hset.mono (fun y hy _ => List.mem_append_right _ hy)) (fun y hy _ => hy)
  refine ⟨?_, ?_, ?_, ?_, ?_, ?_⟩
  · refine (h.chg.thenSame h2).then hall (fun y hy hl => ?_)
    rcases List.mem_append.1 hy with hy | hy
    · exact (hgs y hy hl).elim
    · simp at hy; omega
  · rw [hlen]
    have := blk_set hblk3 3 (.slice (some ⟨g, 0, none⟩) (D.length + 1) cap)
    simpa [ccO] using this
  · obtain ⟨o', e1, e2⟩ := h.res
    exact ⟨o', hset.at (by simp) (hg.at (by simp; exact fun e => s2 e) (h2.at (by simp) e1)), e2⟩
  · rw [hlen]
    refine hrow.kept hset (fun y hy => ?_)
    simp [Value.ownBlock] at hy
    simp
    omega
  · rw [List.map_append, h.vals, List.take_succ_eq_append_getElem hk, List.map_append]
    simp [hL]
  · have hlt : ∀ b, b < w1.heap.size → b < (w3.setCell ⟨w.heap.size, 3, none⟩ (.slice (some ⟨g, 0, none⟩) (D.length + 1) cap)).heap.size := fun b hb => hall.lt (by rw [World.size_alloc]; omega)
    have hgo : ∀ b, b < w1.heap.size → ob a ≠ some b → ob (some ⟨g, 0, none⟩) ≠ some b := fun b hb hn e => by
      have e : g = b := by simpa [ob] using e
      rcases hat with e2 | e2
      · exact hn (by rw [e2, e])
      · rw [e2, World.size_alloc] at e; omega
    intro d hd
    rcases List.mem_append.1 hd with hd | hd
    · obtain ⟨q1, q2⟩ := h.ins d hd
      refine ⟨(q1.kept h2).keptN hall (fun y hy hm => ?_), fun y hy => ?_⟩
      · obtain ⟨⟨r1, r2⟩, r3⟩ := q2 y hy
        rcases List.mem_append.1 hm with hm | hm
        · exact r3 (by simpa using hm)
        · simp at hm; omega
      · obtain ⟨⟨r1, r2⟩, r3⟩ := q2 y hy
        exact ⟨⟨r1, hlt _ (by omega)⟩, hgo _ (by omega) r3⟩
    · simp at hd
      subst hd
      have hbb : ∀ y, a' = some y → wr.heap.size ≤ y.block ∧ y.block < w1.heap.size := fun y hy => hrb _ (by rw [hy]; rfl)
      refine ⟨((InIs.ofRow hr ceC_len).2.kept ((Chg.refl [] w1).alloc o)).keptN hall (fun y hy hm => ?_), fun y hy => ?_⟩
      · obtain ⟨r1, r2⟩ := hbb y hy
        rcases List.mem_append.1 hm with hm | hm
        · have := hbr y.block (by simpa using hm)
          omega
        · simp at hm; omega
      · obtain ⟨r1, r2⟩ := hbb y hy
        exact ⟨⟨by omega, hlt _ r2⟩, hgo _ r2 (fun e => by have := hbr _ e; omega)⟩
theorem CloI.start {w W1 : World} {x : Cl} {o : Array Value} (hc : Chg [] w W1) (hb : W1.heap[w.heap.size]? = some (clO x)) (hr : W1.heap[w.heap.size + 1]? = some (.cells o 40 (0, 0))) (ho : o.size = 8) : CloI w (W1.setCell ⟨w.heap.size, 3, none⟩ (.slice none 0 0)) x 0 none 0 [] where
  chg := hc.setCell _ _ (fun hl => by simp at hl)
  blk := by have := blk_set (show W1.heap[w.heap.size]? = some (.cells _ _ (0, 0)) from hb) 3 (.slice none 0 0); simpa [ccO] using this
  res := ⟨o, (blk_set_ne 3 _ (by simp)).trans hr, ho⟩
  row := RowOf.nil _ _ _
  vals := by simp
  ins := fun d hd => by simp at hd
def clY (x : Cl) (a : Option Addr) (c : Nat) (D : List (Rr Ce)) (va : Option Addr) (vc : Nat) : Cl := ⟨⟨x.o.ent, x.o.id, x.o.op, a, c, D⟩, x.err, va, vc, x.ans, x.from_, x.to_⟩
theorem CloI.fin {w wr w1 w' : World} {x : Cl} {a : Option Addr} {c : Nat} {D : List (Rr Ce)} (h : CloI w wr x x.o.args.length a c D) (h1 : Chg [] wr w1) {va : Option Addr} {vc : Nat} (hr : RowOf ceC 4 w1 wr.heap.size 74 (.slice va x.ans.length vc) x.ans) (h2 : Chg [w.heap.size, w.heap.size + 1] w1 w') :
    (clY x a c D va vc).p = x.p ∧ ClIn w' (clY x a c D va vc) ∧ Chg [] w w' ∧ ∀ b, (clY x a c D va vc).on b → w.heap.size ≤ b := by
  have hb2 := lt_of_heap h.res.choose_spec.1
  have hrow := h.row.block
  rw [ob_eq] at hrow
  have hrb := hr.block
  rw [ob_eq] at hrb
  have hv := h.vals
  rw [List.take_length] at hv
  refine ⟨?_, ⟨⟨?_, fun d hd => ?_⟩, ?_⟩, ?_, ?_⟩
  · simp [clY, Cl.p, EOp.p, hv]
  · refine ((InIs.ofRow h.row rrC_len).2.kept h1).keptN h2 (fun y hy hm => ?_)
    have := hrow y.block (by rw [hy]; rfl)
    simp at hm
    omega
  · obtain ⟨q1, q2⟩ := h.ins d hd
    refine (q1.kept h1).keptN h2 (fun y hy hm => ?_)
    obtain ⟨⟨r1, r2⟩, r3⟩ := q2 y hy
    simp at hm
    omega
  · refine (InIs.ofRow hr ceC_len).2.keptN h2 (fun y hy hm => ?_)
    have := hrb y.block (by rw [hy]; rfl)
    simp at hm
    omega
  · exact (h.chg.thenSame h1).then h2 (fun y hy hl => by simp at hy; omega)
  · intro b hb
    have hsz := h.chg.size
    rcases hb with ⟨y, e1, -, rfl⟩ | ⟨y, e1, -, rfl⟩ | ⟨d, hd, y, e1, -, rfl⟩
    · have := hrow y.block (by rw [show a = some y from e1]; rfl)
      omega
    · have := hrb y.block (by rw [show va = some y from e1]; rfl)
      omega
    · have := ((h.ins d hd).2 y e1).1
      omega
set_option maxHeartbeats 4000000 in
set_option maxRecDepth 100000 in
theorem lclone_any (x : Cl) (w : World) (h : ClIn w x) (hl : ∀ d ∈ x.o.args, d.L.length ≤ 3518437208780) (hlv : x.ans.length ≤ 3518437208780) (ha : x.o.args.length ≤ 1048576) :
    Calls Tryz.prog 24 #[.agg (clC x).toArray] w fun e w' => ∃ y : Cl, e = .returned (.agg (clC y).toArray) ∧ y.p = x.p ∧ ClIn w' y ∧ Chg [] w w' ∧ ∀ b, y.on b → w.heap.size ≤ b := by
  have H := Lib.hid h
  have HL := Lib.hid hl
  have HV := Lib.hid hlv
  have Z0 := Lib.hid (heap_alloc_new (w.alloc (clO x)) (.cells #[.string ⟨#[]⟩, .string ⟨#[]⟩, .string ⟨#[]⟩, .slice none 0 0, .int .i64 0, .slice none 0 0, .int .i64 0, .int .i64 0] 40))
  rw [World.size_alloc] at Z0
  obtain ⟨W1, hW1⟩ : ∃ W1, W1 = (w.alloc (clO x)).alloc (.cells #[.string ⟨#[]⟩, .string ⟨#[]⟩, .string ⟨#[]⟩, .slice none 0 0, .int .i64 0, .slice none 0 0, .int .i64 0, .int .i64 0] 40) := ⟨_, rfl⟩
  rw [← hW1] at Z0
  have C1 := Lib.hid (show Chg [] w W1 by rw [hW1]; exact ((Chg.refl [] w).alloc _).alloc _)
  have B1 := Lib.hid (show W1.heap[w.heap.size]? = some (clO x) by rw [hW1]; exact blk_alloc (heap_alloc_new w _))
  have I0 := Lib.hid (CloI.start C1.out B1.out Z0.out rfl)
  have k := blk_cell (show W1.heap[w.heap.size]? = some (.cells _ _ (0, 0)) from B1.out)
  have f := blk_free (show W1.heap[w.heap.size]? = some (.cells _ _ (0, 0)) from B1.out)
  unfold clO at hW1
  have HW1 := Lib.hid hW1
  clear h hl hlv hW1
  simp only [clC]
  go_enter Tryz.func24, Tryz.ntmps24
  go_upto_region 1 with fail
  rw [← HW1.out]
  go_upto_region 3 with fail
  obtain ⟨W2, hW2⟩ : ∃ W2, W2 = W1.setCell ⟨w.heap.size, 3, none⟩ (.slice none 0 0) := ⟨_, rfl⟩
  rw [← hW2] at I0
  rw [← hW2]
  clear hW2 k f HW1 C1 B1 Z0
  go_wp2_with fail
  go_loopw [13] (fun i wr => ∃ (k : Nat) (a : Option Addr) (c : Nat) (D : List (Rr Ce)), i = .int .i64 k ∧ k ≤ x.o.args.length ∧ Hid (CloI w wr x k a c D)) (fun i _ => x.o.args.length - (intOf i).toNat)
  case atStart => exact ⟨0, none, 0, [], rfl, Nat.zero_le _, I0⟩
  case round =>
    obtain ⟨k, a, c, D, rfl, hk, I⟩ := hrel
    by_cases hkl : k < x.o.args.length
    · have hkl1 : (k : Int) < (x.o.args.length : Int) := by omega
      obtain ⟨b1, o1, e1, -, hbr1, hcc1⟩ := H.out.1.1.1.elem I.out.chg k hkl
      have c0 := hcc1 0 (by omega)
      simp only [rrC, List.getElem?_cons_zero, Nat.add_zero, Nat.mul_one] at c0
      have HI := Lib.hid (show InIs ceC 4 wr (x.o.args[k]).a (x.o.args[k]).c (x.o.args[k]).L from (H.out.1.2 _ (List.getElem_mem hkl)).kept I.out.chg)
      have HLk := Lib.hid (show (x.o.args[k]).L.length ≤ 3518437208780 from HL.out _ (List.getElem_mem hkl))
      have HK := Lib.hid hkl
      have HD := Lib.hid (I.out.len hk)
      clear hcc1
      generalize hd : x.o.args[k] = d at c0 HI HLk
      have HE := Lib.hid (show (x.o.args[k]).L = d.L from congrArg Rr.L hd)
      obtain ⟨da, dc, dL⟩ := d
      simp only at c0 HI HLk HE
      have hk0 : (0 : Int) ≤ (k : Int) := by omega
      rw [e1]
      clear hd
      go_upto_region 6 with fail
      obtain ⟨wd, hwd⟩ : ∃ wd, wd = wr.drew := ⟨_, rfl⟩
      have D0 := Lib.hid (show Chg [] wr wd by rw [hwd]; exact (Chg.refl _ _).drew)
      have J := Lib.hid (I.out.keptN D0.out)
      have A := Lib.hid (clonec_any da dc dL wd (HI.out.kept D0.out) HLk.out)
      have kd := blk_cell (show wd.heap[w.heap.size]? = some (.cells _ _ (0, 0)) from J.out.blk)
      refine wp_region_noPanic ?_
      refine wp_region_held_drew (S := (fun w' => w'.cell? ⟨w.heap.size, 0, none⟩ = some (.string x.o.ent))) (by kernel_rfl) (by rw [← hwd]; exact kd 0) (fun hHeld => ?_)
      rw [← hwd] at hHeld ⊢
      clear hwd
      have hDl : D.length ≤ 1048576 := by have := HD.out; omega
      refine wpAnyH_take (i := 0) (oi := _) (v := ?vA_0) rfl (by kernel_rfl) (by kernel_rfl) (by kernel_rfl) (fun _ _ _ h => h) (Or.inl ⟨by rfl, ?yA_0⟩) hHeld ?rA_0
      case yA_0 => (intro w hSw; (try dsimp only at hSw); (try simp only [List.getElem_toArray, List.getElem_cons_zero, List.getElem_cons_succ]); go_simp <;> with_reducible rfl)
      (try simp only [List.getElem_toArray, List.getElem_cons_zero, List.getElem_cons_succ, Act.put, List.setIfInBounds_toArray, List.set_cons_zero, List.set_cons_succ])
      refine wpAnyH_take (i := 1) (oi := _) (v := ?vA_1) rfl (by kernel_rfl) (by kernel_rfl) (by kernel_rfl) (fun _ _ _ h => h) (Or.inl ⟨by rfl, ?yA_1⟩) hHeld ?rA_1
      case yA_1 => (intro w hSw; (try dsimp only at hSw); (try simp only [List.getElem_toArray, List.getElem_cons_zero, List.getElem_cons_succ]); go_simp <;> with_reducible rfl)
      (try simp only [List.getElem_toArray, List.getElem_cons_zero, List.getElem_cons_succ, Act.put, List.setIfInBounds_toArray, List.set_cons_zero, List.set_cons_succ])
      refine wpAnyH_take (i := 3) (oi := _) (v := ?vA_3) rfl (by kernel_rfl) (by kernel_rfl) (by kernel_rfl) (fun _ _ _ h => h) (Or.inl ⟨by rfl, ?yA_3⟩) hHeld ?rA_3
      case yA_3 => (intro w hSw; (try dsimp only at hSw); (try simp only [List.getElem_toArray, List.getElem_cons_zero, List.getElem_cons_succ]); go_simp <;> with_reducible rfl)
      (try simp only [List.getElem_toArray, List.getElem_cons_zero, List.getElem_cons_succ, Act.put, List.setIfInBounds_toArray, List.set_cons_zero, List.set_cons_succ])
      refine wpAnyH_ready (rs := [2, 4]) (by kernel_rfl) (by simp) ?_
      refine AllReadyH.cons (o := _) rfl (fun K hK => ?_) (AllReadyH.cons (o := _) rfl (fun K hK => ?_) AllReadyH.nil)
      ·
        (try simp only [List.getElem_toArray, List.getElem_cons_zero, List.getElem_cons_succ])
        go_simp
        skip
        refine hK.out _ _ ?_ (fun hHeld => ?_)
        exact kd 0
        clear hK K
        (try simp only [List.getElem_toArray, List.getElem_cons_zero, List.getElem_cons_succ, Act.put, List.setIfInBounds_toArray, List.set_cons_zero, List.set_cons_succ])
        refine wpAnyH_ready (rs := [4]) (by kernel_rfl) (by simp) ?_
        refine AllReadyH.cons (o := _) rfl (fun K hK => ?_) AllReadyH.nil
        (try simp only [List.getElem_toArray, List.getElem_cons_zero, List.getElem_cons_succ])
        go_simp
        (refine Calls.mono A.out ?_; rintro e w1 ⟨a', c', rfl, hr, hc⟩; have HR := Lib.hid (RowOf.mono hr D0.out.size); have C1 := Lib.hid (D0.out.thenSame hc); have J1 := Lib.hid (J.out.keptN hc); have k1 := blk_cell (show w1.heap[w.heap.size]? = some (.cells _ _ (0, 0)) from J1.out.blk); clear hr hc)
        refine hK.out _ _ ?_ (fun hHeld => ?_)
        exact k1 0
        clear hK K
        (try simp only [List.getElem_toArray, List.getElem_cons_zero, List.getElem_cons_succ, Act.put, List.setIfInBounds_toArray, List.set_cons_zero, List.set_cons_succ])
        refine wpAnyH_ready (rs := [5]) (by kernel_rfl) (by simp) ?_
        refine AllReadyH.cons (o := _) rfl (fun K hK => ?_) AllReadyH.nil
        (try simp only [List.getElem_toArray, List.getElem_cons_zero, List.getElem_cons_succ])
        go_simp
        skip
        refine hK.out _ _ ?_ (fun hHeld => ?_)
        exact blk_cell (show (w1.alloc _).heap[w.heap.size]? = some (.cells _ _ (0, 0)) from blk_alloc J1.out.blk) 0
        clear hK K
        (try simp only [List.getElem_toArray, List.getElem_cons_zero, List.getElem_cons_succ, Act.put, List.setIfInBounds_toArray, List.set_cons_zero, List.set_cons_succ])
        have N6 := Lib.hid (heap_alloc_new w1 (.cells #[.slice a' dL.length c'] 22))
        have J6 := Lib.hid (J1.out.keptN ((Chg.refl [] w1).alloc (.cells #[.slice a' dL.length c'] 22)))
        have hb6 := Nat.le_of_lt (lt_of_heap J6.out.res.choose_spec.1)
        refine wpAnyH_ready (rs := [6]) (by kernel_rfl) (by simp) ?_
        refine AllReadyH.cons (o := _) rfl (fun K hK => ?_) AllReadyH.nil
        (try simp only [List.getElem_toArray, List.getElem_cons_zero, List.getElem_cons_succ])
        refine step_list rfl ?_
        (refine wpl_appendL rfl _ _ 34 rfl (w.heap.size + 2) 22 _ 24 Tryz.underlying34 cellsInfo rfl (by decide) rrC_len rrCe_one (.slice a D.length c) D rfl J6.out.row w1.heap.size 1 (⟨a', c', dL⟩ : Rr Ce) _ _ _ rfl N6.out rfl (by unfold maxLen; omega) (by omega) (by have := lt_of_heap J6.out.res.choose_spec.1; omega) ?_; intro g8 c8 w8 hr8 hg8 ho8 hl8; have K8 := Lib.hid (Chg.ofRow (v := .slice a D.length c) hg8); have R8 := Lib.hid hr8; have O8 := Lib.hid ho8; have X8 := Lib.hid (K8.out.at (by rw [ob_eq]; simp; exact fun e => J6.out.sep.1 e) J6.out.blk); clear hr8 hg8 ho8)
        refine ⟨rfl, hK.out _ _ ?_ (fun hHeld => ?_)⟩
        exact blk_cell (show w8.heap[w.heap.size]? = some (.cells _ _ (0, 0)) from X8.out) 0
        clear hK K
        (try simp only [List.getElem_toArray, List.getElem_cons_zero, List.getElem_cons_succ, Act.put, List.setIfInBounds_toArray, List.set_cons_zero, List.set_cons_succ])
        have v8 := blk_cell (show w8.heap[w.heap.size]? = some (.cells _ _ (0, 0)) from X8.out)
        have f8 := blk_free (show w8.heap[w.heap.size]? = some (.cells _ _ (0, 0)) from X8.out)
        refine wpAnyH_take (i := 7) (oi := _) (v := ?vA_7) rfl (by kernel_rfl) (by kernel_rfl) (by kernel_rfl) (fun _ _ _ h => h) (Or.inl ⟨by rfl, ?yA_7⟩) hHeld ?rA_7
        case yA_7 => (intro w hSw; (try dsimp only at hSw); (try simp only [List.getElem_toArray, List.getElem_cons_zero, List.getElem_cons_succ]); go_simp <;> with_reducible rfl)
        (try simp only [List.getElem_toArray, List.getElem_cons_zero, List.getElem_cons_succ, Act.put, List.setIfInBounds_toArray, List.set_cons_zero, List.set_cons_succ])
        refine wpAnyH_take (i := 8) (oi := _) (v := ?vA_8) rfl (by kernel_rfl) (by kernel_rfl) (by kernel_rfl) (fun _ _ _ h => h) (Or.inl ⟨by rfl, ?yA_8⟩) hHeld ?rA_8
        case yA_8 => (intro w hSw; (try dsimp only at hSw); (try simp only [List.getElem_toArray, List.getElem_cons_zero, List.getElem_cons_succ]); go_simp <;> with_reducible rfl)
        (try simp only [List.getElem_toArray, List.getElem_cons_zero, List.getElem_cons_succ, Act.put, List.setIfInBounds_toArray, List.set_cons_zero, List.set_cons_succ])
        refine wpAnyH_ready (rs := [9]) (by kernel_rfl) (by simp) ?_
        refine AllReadyH.cons (o := _) rfl (fun K hK => ?_) AllReadyH.nil
        (try simp only [List.getElem_toArray, List.getElem_cons_zero, List.getElem_cons_succ])
        go_simp
        skip
        refine hK.out _ _ ?_ (fun hHeld => ?_)
        exact blk_cell (show (w8.setCell ⟨w.heap.size, 3, none⟩ _).heap[w.heap.size]? = some (.cells _ _ (0, 0)) from blk_set (show w8.heap[w.heap.size]? = some (.cells _ _ (0, 0)) from X8.out) 3 _) 0
        clear hK K
        (try simp only [List.getElem_toArray, List.getElem_cons_zero, List.getElem_cons_succ, Act.put, List.setIfInBounds_toArray, List.set_cons_zero, List.set_cons_succ])
        refine wpAnyH_done (by kernel_rfl) ?_ _
        refine NoPanic.normal ?_
        go_wp2_with fail
        exact ⟨⟨k + 1, some ⟨g8, 0, none⟩, c8, D ++ [⟨a', c', dL⟩], by go_num, by omega, Lib.hid (I.out.step HK.out C1.out HE.out HR.out _ (by have := K8.out; rwa [ob_eq] at this) R8.out (by have := O8.out; rwa [ob_eq] at this))⟩, by simp [intOf]; omega⟩
      ·
        (try simp only [List.getElem_toArray, List.getElem_cons_zero, List.getElem_cons_succ])
        go_simp
        (refine Calls.mono A.out ?_; rintro e w1 ⟨a', c', rfl, hr, hc⟩; have HR := Lib.hid (RowOf.mono hr D0.out.size); have C1 := Lib.hid (D0.out.thenSame hc); have J1 := Lib.hid (J.out.keptN hc); have k1 := blk_cell (show w1.heap[w.heap.size]? = some (.cells _ _ (0, 0)) from J1.out.blk); have k2 := blk_cell (show (w1.alloc (.cells #[.slice a' dL.length c'] 22)).heap[w.heap.size]? = some (.cells _ _ (0, 0)) from blk_alloc J1.out.blk); clear hr hc)
        refine hK.out _ _ ?_ (fun hHeld => ?_)
        exact k1 0
        clear hK K
        (try simp only [List.getElem_toArray, List.getElem_cons_zero, List.getElem_cons_succ, Act.put, List.setIfInBounds_toArray, List.set_cons_zero, List.set_cons_succ])
        refine wpAnyH_ready (rs := [2, 5]) (by kernel_rfl) (by simp) ?_
        refine AllReadyH.cons (o := _) rfl (fun K hK => ?_) (AllReadyH.cons (o := _) rfl (fun K hK => ?_) AllReadyH.nil)
        ·
          (try simp only [List.getElem_toArray, List.getElem_cons_zero, List.getElem_cons_succ])
          go_simp
          skip
          refine hK.out _ _ ?_ (fun hHeld => ?_)
          exact k1 0
          clear hK K
          (try simp only [List.getElem_toArray, List.getElem_cons_zero, List.getElem_cons_succ, Act.put, List.setIfInBounds_toArray, List.set_cons_zero, List.set_cons_succ])
          refine wpAnyH_ready (rs := [5]) (by kernel_rfl) (by simp) ?_
          refine AllReadyH.cons (o := _) rfl (fun K hK => ?_) AllReadyH.nil
          (try simp only [List.getElem_toArray, List.getElem_cons_zero, List.getElem_cons_succ])
          go_simp
          skip
          refine hK.out _ _ ?_ (fun hHeld => ?_)
          exact k2 0
          clear hK K
          (try simp only [List.getElem_toArray, List.getElem_cons_zero, List.getElem_cons_succ, Act.put, List.setIfInBounds_toArray, List.set_cons_zero, List.set_cons_succ])
          have N6 := Lib.hid (heap_alloc_new w1 (.cells #[.slice a' dL.length c'] 22))
          have J6 := Lib.hid (J1.out.keptN ((Chg.refl [] w1).alloc (.cells #[.slice a' dL.length c'] 22)))
          have hb6 := Nat.le_of_lt (lt_of_heap J6.out.res.choose_spec.1)
          refine wpAnyH_ready (rs := [6]) (by kernel_rfl) (by simp) ?_
          refine AllReadyH.cons (o := _) rfl (fun K hK => ?_) AllReadyH.nil
          (try simp only [List.getElem_toArray, List.getElem_cons_zero, List.getElem_cons_succ])
          refine step_list rfl ?_
          (refine wpl_appendL rfl _ _ 34 rfl (w.heap.size + 2) 22 _ 24 Tryz.underlying34 cellsInfo rfl (by decide) rrC_len rrCe_one (.slice a D.length c) D rfl J6.out.row w1.heap.size 1 (⟨a', c', dL⟩ : Rr Ce) _ _ _ rfl N6.out rfl (by unfold maxLen; omega) (by omega) (by have := lt_of_heap J6.out.res.choose_spec.1; omega) ?_; intro g8 c8 w8 hr8 hg8 ho8 hl8; have K8 := Lib.hid (Chg.ofRow (v := .slice a D.length c) hg8); have R8 := Lib.hid hr8; have O8 := Lib.hid ho8; have X8 := Lib.hid (K8.out.at (by rw [ob_eq]; simp; exact fun e => J6.out.sep.1 e) J6.out.blk); clear hr8 hg8 ho8)
          refine ⟨rfl, hK.out _ _ ?_ (fun hHeld => ?_)⟩
          exact blk_cell (show w8.heap[w.heap.size]? = some (.cells _ _ (0, 0)) from X8.out) 0
          clear hK K
          (try simp only [List.getElem_toArray, List.getElem_cons_zero, List.getElem_cons_succ, Act.put, List.setIfInBounds_toArray, List.set_cons_zero, List.set_cons_succ])
          have v8 := blk_cell (show w8.heap[w.heap.size]? = some (.cells _ _ (0, 0)) from X8.out)
          have f8 := blk_free (show w8.heap[w.heap.size]? = some (.cells _ _ (0, 0)) from X8.out)
          refine wpAnyH_take (i := 7) (oi := _) (v := ?vB_7) rfl (by kernel_rfl) (by kernel_rfl) (by kernel_rfl) (fun _ _ _ h => h) (Or.inl ⟨by rfl, ?yB_7⟩) hHeld ?rB_7
          case yB_7 => (intro w hSw; (try dsimp only at hSw); (try simp only [List.getElem_toArray, List.getElem_cons_zero, List.getElem_cons_succ]); go_simp <;> with_reducible rfl)
          (try simp only [List.getElem_toArray, List.getElem_cons_zero, List.getElem_cons_succ, Act.put, List.setIfInBounds_toArray, List.set_cons_zero, List.set_cons_succ])
          refine wpAnyH_take (i := 8) (oi := _) (v := ?vB_8) rfl (by kernel_rfl) (by kernel_rfl) (by kernel_rfl) (fun _ _ _ h => h) (Or.inl ⟨by rfl, ?yB_8⟩) hHeld ?rB_8
          case yB_8 => (intro w hSw; (try dsimp only at hSw); (try simp only [List.getElem_toArray, List.getElem_cons_zero, List.getElem_cons_succ]); go_simp <;> with_reducible rfl)
          (try simp only [List.getElem_toArray, List.getElem_cons_zero, List.getElem_cons_succ, Act.put, List.setIfInBounds_toArray, List.set_cons_zero, List.set_cons_succ])
          refine wpAnyH_ready (rs := [9]) (by kernel_rfl) (by simp) ?_
          refine AllReadyH.cons (o := _) rfl (fun K hK => ?_) AllReadyH.nil
          (try simp only [List.getElem_toArray, List.getElem_cons_zero, List.getElem_cons_succ])
          go_simp
          skip
          refine hK.out _ _ ?_ (fun hHeld => ?_)
          exact blk_cell (show (w8.setCell ⟨w.heap.size, 3, none⟩ _).heap[w.heap.size]? = some (.cells _ _ (0, 0)) from blk_set (show w8.heap[w.heap.size]? = some (.cells _ _ (0, 0)) from X8.out) 3 _) 0
          clear hK K
          (try simp only [List.getElem_toArray, List.getElem_cons_zero, List.getElem_cons_succ, Act.put, List.setIfInBounds_toArray, List.set_cons_zero, List.set_cons_succ])
          refine wpAnyH_done (by kernel_rfl) ?_ _
          refine NoPanic.normal ?_
          go_wp2_with fail
          exact ⟨⟨k + 1, some ⟨g8, 0, none⟩, c8, D ++ [⟨a', c', dL⟩], by go_num, by omega, Lib.hid (I.out.step HK.out C1.out HE.out HR.out _ (by have := K8.out; rwa [ob_eq] at this) R8.out (by have := O8.out; rwa [ob_eq] at this))⟩, by simp [intOf]; omega⟩
        ·
          (try simp only [List.getElem_toArray, List.getElem_cons_zero, List.getElem_cons_succ])
          go_simp
          skip
          refine hK.out _ _ ?_ (fun hHeld => ?_)
          exact k2 0
          clear hK K
          (try simp only [List.getElem_toArray, List.getElem_cons_zero, List.getElem_cons_succ, Act.put, List.setIfInBounds_toArray, List.set_cons_zero, List.set_cons_succ])
          refine wpAnyH_ready (rs := [2]) (by kernel_rfl) (by simp) ?_
          refine AllReadyH.cons (o := _) rfl (fun K hK => ?_) AllReadyH.nil
          (try simp only [List.getElem_toArray, List.getElem_cons_zero, List.getElem_cons_succ])
          go_simp
          skip
          refine hK.out _ _ ?_ (fun hHeld => ?_)
          exact k2 0
          clear hK K
          (try simp only [List.getElem_toArray, List.getElem_cons_zero, List.getElem_cons_succ, Act.put, List.setIfInBounds_toArray, List.set_cons_zero, List.set_cons_succ])
          have N6 := Lib.hid (heap_alloc_new w1 (.cells #[.slice a' dL.length c'] 22))
          have J6 := Lib.hid (J1.out.keptN ((Chg.refl [] w1).alloc (.cells #[.slice a' dL.length c'] 22)))
          have hb6 := Nat.le_of_lt (lt_of_heap J6.out.res.choose_spec.1)
          refine wpAnyH_ready (rs := [6]) (by kernel_rfl) (by simp) ?_
          refine AllReadyH.cons (o := _) rfl (fun K hK => ?_) AllReadyH.nil
          (try simp only [List.getElem_toArray, List.getElem_cons_zero, List.getElem_cons_succ])
          refine step_list rfl ?_
          (refine wpl_appendL rfl _ _ 34 rfl (w.heap.size + 2) 22 _ 24 Tryz.underlying34 cellsInfo rfl (by decide) rrC_len rrCe_one (.slice a D.length c) D rfl J6.out.row w1.heap.size 1 (⟨a', c', dL⟩ : Rr Ce) _ _ _ rfl N6.out rfl (by unfold maxLen; omega) (by omega) (by have := lt_of_heap J6.out.res.choose_spec.1; omega) ?_; intro g8 c8 w8 hr8 hg8 ho8 hl8; have K8 := Lib.hid (Chg.ofRow (v := .slice a D.length c) hg8); have R8 := Lib.hid hr8; have O8 := Lib.hid ho8; have X8 := Lib.hid (K8.out.at (by rw [ob_eq]; simp; exact fun e => J6.out.sep.1 e) J6.out.blk); clear hr8 hg8 ho8)
          refine ⟨rfl, hK.out _ _ ?_ (fun hHeld => ?_)⟩
          exact blk_cell (show w8.heap[w.heap.size]? = some (.cells _ _ (0, 0)) from X8.out) 0
          clear hK K
          (try simp only [List.getElem_toArray, List.getElem_cons_zero, List.getElem_cons_succ, Act.put, List.setIfInBounds_toArray, List.set_cons_zero, List.set_cons_succ])
          have v8 := blk_cell (show w8.heap[w.heap.size]? = some (.cells _ _ (0, 0)) from X8.out)
          have f8 := blk_free (show w8.heap[w.heap.size]? = some (.cells _ _ (0, 0)) from X8.out)
          refine wpAnyH_take (i := 7) (oi := _) (v := ?vC_7) rfl (by kernel_rfl) (by kernel_rfl) (by kernel_rfl) (fun _ _ _ h => h) (Or.inl ⟨by rfl, ?yC_7⟩) hHeld ?rC_7
          case yC_7 => (intro w hSw; (try dsimp only at hSw); (try simp only [List.getElem_toArray, List.getElem_cons_zero, List.getElem_cons_succ]); go_simp <;> with_reducible rfl)
          (try simp only [List.getElem_toArray, List.getElem_cons_zero, List.getElem_cons_succ, Act.put, List.setIfInBounds_toArray, List.set_cons_zero, List.set_cons_succ])
          refine wpAnyH_take (i := 8) (oi := _) (v := ?vC_8) rfl (by kernel_rfl) (by kernel_rfl) (by kernel_rfl) (fun _ _ _ h => h) (Or.inl ⟨by rfl, ?yC_8⟩) hHeld ?rC_8
          case yC_8 => (intro w hSw; (try dsimp only at hSw); (try simp only [List.getElem_toArray, List.getElem_cons_zero, List.getElem_cons_succ]); go_simp <;> with_reducible rfl)
          (try simp only [List.getElem_toArray, List.getElem_cons_zero, List.getElem_cons_succ, Act.put, List.setIfInBounds_toArray, List.set_cons_zero, List.set_cons_succ])
          refine wpAnyH_ready (rs := [9]) (by kernel_rfl) (by simp) ?_
          refine AllReadyH.cons (o := _) rfl (fun K hK => ?_) AllReadyH.nil
          (try simp only [List.getElem_toArray, List.getElem_cons_zero, List.getElem_cons_succ])
          go_simp
          skip
          refine hK.out _ _ ?_ (fun hHeld => ?_)
          exact blk_cell (show (w8.setCell ⟨w.heap.size, 3, none⟩ _).heap[w.heap.size]? = some (.cells _ _ (0, 0)) from blk_set (show w8.heap[w.heap.size]? = some (.cells _ _ (0, 0)) from X8.out) 3 _) 0
          clear hK K
          (try simp only [List.getElem_toArray, List.getElem_cons_zero, List.getElem_cons_succ, Act.put, List.setIfInBounds_toArray, List.set_cons_zero, List.set_cons_succ])
          refine wpAnyH_done (by kernel_rfl) ?_ _
          refine NoPanic.normal ?_
          go_wp2_with fail
          exact ⟨⟨k + 1, some ⟨g8, 0, none⟩, c8, D ++ [⟨a', c', dL⟩], by go_num, by omega, Lib.hid (I.out.step HK.out C1.out HE.out HR.out _ (by have := K8.out; rwa [ob_eq] at this) R8.out (by have := O8.out; rwa [ob_eq] at this))⟩, by simp [intOf]; omega⟩
    · have hkk : k = x.o.args.length := by omega
      subst hkk
      have kb := blk_cell (show wr.heap[w.heap.size]? = some (.cells _ _ (0, 0)) from I.out.blk)
      have A2 := Lib.hid (clonec_any x.va x.vc x.ans wr (H.out.2.kept I.out.chg) HV.out)
      go_wp2_with fail
      refine A2.out.mono ?_; rintro e w1 ⟨va', vc', rfl, hr, hc⟩
      have HR := Lib.hid hr
      have C1 := Lib.hid hc
      have J1 := Lib.hid (I.out.keptN hc)
      have B2 := Lib.hid (blk_set (show w1.heap[w.heap.size]? = some (.cells _ _ (0, 0)) from J1.out.blk) 5 (.slice va' x.ans.length vc'))
      obtain ⟨o, ho, hos⟩ := J1.out.res
      have kb1 := blk_cell (show w1.heap[w.heap.size]? = some (.cells _ _ (0, 0)) from J1.out.blk)
      have fb1 := blk_free (show w1.heap[w.heap.size]? = some (.cells _ _ (0, 0)) from J1.out.blk)
      have kb2 := blk_cell B2.out
      have ko := blk_cell ho
      have fo := blk_free ho
      clear hr hc kb
      go_wp2_with fail
      obtain ⟨zl, hzl⟩ : ∃ zl : List Value, o = zl.toArray := ⟨o.toList, by simp⟩
      subst hzl
      match zl, hos with
      | [z0, z1, z2, z3, z4, z5, z6, z7], _ =>
        have q0 := (blk_set_ne (w := w1) 5 (.slice va' x.ans.length vc') (show w.heap.size + 1 ≠ w.heap.size by omega)).trans ho
        have q8 := blk_set (blk_set (blk_set (blk_set (blk_set (blk_set (blk_set (blk_set q0 0 (.string x.o.ent)) 1 (.string x.o.id)) 2 (.string x.o.op)) 3 (.slice a D.length c)) 4 (.int .i64 x.err)) 5 (.slice va' x.ans.length vc')) 6 (.int .i64 x.from_)) 7 (.int .i64 x.to_)
        have r1 := blk_cell q8
        have F := Lib.hid (I.out.fin C1.out HR.out (w' := ((((((((w1.setCell ⟨w.heap.size, 5, none⟩ (.slice va' x.ans.length vc')).setCell ⟨w.heap.size + 1, 0, none⟩ (.string x.o.ent)).setCell ⟨w.heap.size + 1, 1, none⟩ (.string x.o.id)).setCell ⟨w.heap.size + 1, 2, none⟩ (.string x.o.op)).setCell ⟨w.heap.size + 1, 3, none⟩ (.slice a D.length c)).setCell ⟨w.heap.size + 1, 4, none⟩ (.int .i64 x.err)).setCell ⟨w.heap.size + 1, 5, none⟩ (.slice va' x.ans.length vc')).setCell ⟨w.heap.size + 1, 6, none⟩ (.int .i64 x.from_)).setCell ⟨w.heap.size + 1, 7, none⟩ (.int .i64 x.to_)) (by
          repeat (refine Chg.setCell ?_ _ _ (by simp))
          exact Chg.refl _ _))
        refine bodyPost_ret (v := .agg (clC (clY x a c D va' vc')).toArray) (by simp [results, Tryz.results24, go_sem, r1, clC, clY]) rfl ?_
        exact ⟨clY x a c D va' vc', rfl, F.out.1, F.out.2.1, F.out.2.2.1, F.out.2.2.2⟩
end Go.Proofs.YtnhemokmgpelaaaGreatDoor
namespace Go.Proofs.YtnhemokmgpelaaaGreatDoor
set_option linter.unusedVariables false
set_option linter.unusedSimpArgs false
open Go.RowKit
/-- A call as Serial returns it. -/
def ansP (st : List Ce) (x : PCl) : PCl := if openB x = true then ⟨x.o, (doZ st x.o).2.2.1, (doZ st x.o).2.2.2, x.from_, x.to_⟩ else x
def serGo (l : List PCl) : List Int → List Ce → List PCl
  | [], _ => []
  | k :: r, st => match l[k.toNat]? with
    | none => []
    | some x => ansP st x :: serGo l r (doZ st x.o).2.1
def serZ (st : List Ce) (l : List PCl) : List PCl × Int := if (findZ st l).2 ≠ 0 then ([], (findZ st l).2) else (serGo l (findZ st l).1 st, 0)
/-- Each call of the order is performed, and has its answer. -/
def LegOk (l : List PCl) : List Int → List Ce → Prop
  | [], _ => True
  | k :: r, st => ∃ (n : Nat) (x : PCl), k = n ∧ l[n]? = some x ∧ (doZ st x.o).1 = 0 ∧ (openB x = false → (doZ st x.o).2.2.1 = x.err ∧ (doZ st x.o).2.2.2 = x.ans) ∧ LegOk l r (doZ st x.o).2.1
theorem legOk_go {l : List PCl} : ∀ {o : List Int} {st : List Ce} {i : Nat}, (∀ k ∈ o, 0 ≤ k) → (legalGo l o st i).2 = 0 → LegOk l o st := by
  intro o
  induction o with
  | nil => intros; trivial
  | cons k r ih =>
    intro st i hk h
    rw [legalGo] at h
    split at h
    · simp at h
    · have h0 := hk k (by simp)
      cases hf : fitsI l st k with
      | none => rw [hf] at h; simp at h
      | some s =>
        rw [hf] at h
        unfold fitsI at hf
        cases hx : l[k.toNat]? with
        | none => rw [hx] at hf; simp at hf
        | some x =>
          rw [hx] at hf
          obtain ⟨f1, f2, f3⟩ := fits_some hf
          exact ⟨k.toNat, x, by omega, hx, f1, f3, ih (fun j hj => hk j (by simp [hj])) (by rw [← f2]; exact h)⟩
/-- What Find returns. -/
theorem find_facts {st : List Ce} {l : List PCl} (h : (findZ st l).2 = 0) : hchkZ st l = 0 ∧ LegOk l (findZ st l).1 st ∧ ∃ q, placeAll (List.replicate l.length false) (findZ st l).1 = some q ∧ doneB l q = true := by
  unfold findZ at h ⊢
  split at h
  · rename_i h1; exact absurd h h1
  · rename_i h1
    have hz : hchkZ st l = 0 := by simpa using h1
    rw [if_neg h1]
    cases hf : findF l l.length st (List.replicate l.length false) [] with
    | none => rw [hf] at h; simp at h
    | some o =>
      obtain ⟨r, e1, e2, q, e3, e4⟩ := find_sound l.length st (List.replicate l.length false) [] o 0 List.length_replicate hf
      rw [List.nil_append] at e1
      subst e1
      exact ⟨hz, legOk_go (fun k hk => (placeAll_fresh e3 k hk).1) (by rw [e2]), q, e3, e4⟩
theorem legOk_drop {l : List PCl} {o : List Int} {k : Nat} {st : List Ce} (hk : k < o.length) (h : LegOk l (o.drop k) st) : ∃ (n : Nat) (x : PCl), o[k] = n ∧ l[n]? = some x ∧ (doZ st x.o).1 = 0 ∧ (openB x = false → (doZ st x.o).2.2.1 = x.err ∧ (doZ st x.o).2.2.2 = x.ans) ∧ LegOk l (o.drop (k + 1)) (doZ st x.o).2.1 ∧ serGo l (o.drop k) st = ansP st x :: serGo l (o.drop (k + 1)) (doZ st x.o).2.1 := by
  rw [List.drop_eq_getElem_cons hk] at h ⊢
  obtain ⟨n, x, h1, h2, h3, h4, h5⟩ := h
  refine ⟨n, x, h1, h2, h3, h4, h5, ?_⟩
  rw [h1, serGo, Int.toNat_natCast, h2]
/-- The calls that Serial has so far: D, at the slice a. -/
structure SerI (w wr : World) (a : Option Addr) (c : Nat) (D : List Cl) : Prop where
  chg : Chg [] w wr
  row : RowOf clC 8 wr w.heap.size 40 (.slice a D.length c) D
  ins : ∀ d ∈ D, ClIn wr d ∧ ∀ b, d.on b → ob a ≠ some b
theorem SerI.keptN {w wr wx : World} {a : Option Addr} {c : Nat} {D : List Cl} (h : SerI w wr a c D) (hc : Chg [] wr wx) : SerI w wx a c D where
  chg := h.chg.thenSame hc
  row := h.row.kept hc (by simp)
  ins := fun d hd => ⟨(h.ins d hd).1.kept hc, (h.ins d hd).2⟩
theorem SerI.keptB {w wr wx : World} {a : Option Addr} {c : Nat} {D : List Cl} {S : List Nat} (h : SerI w wr a c D) (hc : Chg S wr wx) (hS : ∀ b ∈ S, wr.heap.size ≤ b) : SerI w wx a c D where
  chg := (h.chg.then hc (fun x hx hl => by have := hS x hx; have := h.chg.size; omega))
  row := h.row.kept hc (fun g hg hm => by have := hS g hm; have := (h.row.block g hg).2; omega)
  ins := fun d hd => ⟨(h.ins d hd).1.keptOn hc (fun b hb hm => by have := hS b hm; have := (h.ins d hd).1.on_lt hb; omega), (h.ins d hd).2⟩
theorem SerI.step {w w5 w6 : World} {a : Option Addr} {c : Nat} {D : List Cl} (h : SerI w w5 a c D) {y : Cl} (hy : ClIn w5 y) (hya : ∀ b, y.on b → ob a ≠ some b) {g cap : Nat}
    (hg : Chg (ob a).toList w5 w6) (hrow : RowOf clC 8 w6 w.heap.size 40 (.slice (some ⟨g, 0, none⟩) (D.length + 1) cap) (D ++ [y])) (hat : ob a = some g ∨ g = w5.heap.size) : SerI w w6 (some ⟨g, 0, none⟩) cap (D ++ [y]) := by
  have hb := h.row.block
  rw [ob_eq] at hb
  have hns : ∀ d, ClIn w5 d → (∀ b, d.on b → ob a ≠ some b) → ClIn w6 d ∧ ∀ b, d.on b → ob (some ⟨g, 0, none⟩) ≠ some b := fun d h1 h2 => by
    refine ⟨h1.keptOn hg (fun b hbo hm => h2 b hbo (by simpa using hm)), fun b hbo e => ?_⟩
    have e : g = b := by simpa [ob] using e
    subst e
    rcases hat with e2 | e2
    · exact h2 g hbo e2
    · have := h1.on_lt hbo
      omega
  refine ⟨h.chg.then hg (fun x hx hl => ?_), by simpa using hrow, fun d hd => ?_⟩
  · simp only [Option.mem_toList] at hx
    have := (hb x hx).1
    omega
  · rcases List.mem_append.1 hd with hd | hd
    · exact hns d (h.ins d hd).1 (h.ins d hd).2
    · simp at hd
      subst hd
      exact hns d hy hya
def SerP (w : World) (r : List PCl × Int) (e : Ending) (w' : World) : Prop :=
  ∃ (oa : Option Addr) (oc : Nat) (D : List Cl), e = .returned (.tuple #[.slice oa D.length oc, .int .i64 r.2]) ∧ D.map Cl.p = r.1 ∧ LIn w' oa oc D ∧ Chg [] w w'
theorem good_p {x : EOp} {y : EOp} (h : x.good) (he : y.p = x.p) : y.good := by
  obtain ⟨h1, h2, h3, h4, h5⟩ := h
  obtain ⟨a, b, c, ad, ac, args⟩ := x
  obtain ⟨a', b', c', ad', ac', args'⟩ := y
  simp only [EOp.p, POp.mk.injEq] at he
  obtain ⟨rfl, rfl, rfl, e⟩ := he
  have hl : args'.length = args.length := by simpa using congrArg List.length e
  refine ⟨h1, h2, h3, by rw [hl]; exact h4, fun d hd => ?_⟩
  have : d.L ∈ args.map Rr.L := by rw [← e]; exact List.mem_map_of_mem hd
  obtain ⟨d', hd', e'⟩ := List.mem_map.1 this
  rw [← e']
  exact h5 d' hd'
theorem callInfo : (Tryz.prog.info? 40).map (fun i => (i.zero, i.size, i.bytes)) = some (some (.agg #[.string ⟨#[]⟩, .string ⟨#[]⟩, .string ⟨#[]⟩, .slice none 0 0, .int .i64 0, .slice none 0 0, .int .i64 0, .int .i64 0]), 8, 120) := by kernel_rfl
variable {w : World} {la : Option Addr} {lc : Nat} {l : List Cl} {sa : Option Addr} {sc : Nat} {st : List Ce}
set_option maxHeartbeats 16000000 in
set_option maxRecDepth 100000 in
theorem serial_any (h : LIn w la lc l) (hg : ∀ x ∈ l, goodCl x) (hga : ∀ x ∈ l, goodL x.ans) (hs : InIs ceC 4 w sa sc st) (hsg : goodL st) (ht : TabW w) :
    Calls Tryz.prog 9 #[.slice sa st.length sc, .slice la l.length lc] w (SerP w (serZ st (l.map Cl.p))) := by
  have A := Lib.hid (lfind_any h hg hs hsg ht)
  by_cases hz : (findZ st (l.map Cl.p)).2 = 0
  case neg =>
    have HE := Lib.hid (show serZ st (l.map Cl.p) = ([], (findZ st (l.map Cl.p)).2) by unfold serZ; rw [if_pos hz])
    rw [HE.out]
    have hzb : ((findZ st (l.map Cl.p)).2 != 0) = true := by simpa using hz
    clear h hg hga hs hsg ht hz HE
    generalize findZ st (l.map Cl.p) = z at *
    obtain ⟨z1, z2⟩ := z
    simp only at hzb A
    go_enter Tryz.func9, Tryz.ntmps9
    go_wp2_with fail
    refine A.out.mono ?_; rintro e w2 ⟨oa, oc, rfl, -, -, hc⟩
    have C2 := Lib.hid hc
    clear hc
    go_wp2_with fail
    go_ret2
    exact ⟨none, 0, [], rfl, rfl, ⟨⟨⟨rfl, fun k hk => by simp at hk⟩, Nat.le_refl _, Nat.zero_le _, fun _ => rfl⟩, fun x hx => by cases hx⟩, C2.out⟩
  obtain ⟨f1, f2, q, f3, f4⟩ := find_facts hz
  have HE := Lib.hid (show serZ st (l.map Cl.p) = (serGo (l.map Cl.p) (findZ st (l.map Cl.p)).1 st, 0) by unfold serZ; rw [if_neg (by simp [hz])])
  rw [HE.out]
  have hcl := compl_len (l := l.map Cl.p) (order := (findZ st (l.map Cl.p)).1) (by unfold completeB; rw [f3]; exact f4)
  rw [List.length_map] at hcl
  have hh : hcheckZ (l.map Cl.p) = 0 ∧ checkZ st = 0 := by
    unfold hchkZ at f1
    split at f1
    · rename_i h1; exact absurd f1 h1
    · rename_i h1; exact ⟨by simpa using h1, f1⟩
  have h8 : l.length ≤ 8 := by have := (hcheck_zero hh.1).1; rwa [List.length_map] at this
  generalize findZ st (l.map Cl.p) = z at *
  obtain ⟨o, z2⟩ := z
  simp only at hz f2 f3 f4 hcl A
  subst hz
  obtain ⟨R, hR⟩ : ∃ R, R = serGo (l.map Cl.p) o st := ⟨_, rfl⟩
  simp only
  rw [← hR]
  have RR0 := Lib.hid hR
  have F2 := Lib.hid f2
  have H := Lib.hid h
  have HG := Lib.hid hg
  have HGA := Lib.hid hga
  have HS := Lib.hid hs
  have HSG := Lib.hid hsg
  have HT := Lib.hid ht
  have ho8 : o.length ≤ 8 := by omega
  have ho8' : (o.length : Int) ≤ 8 := by omega
  have hl8 : (l.length : Int) ≤ 8 := by omega
  have hl0 : (0 : Int) ≤ (l.length : Int) := by omega
  clear h hg hga hs hsg ht f1 f2 f3 f4 hh hR HE hcl h8
  go_enter Tryz.func9, Tryz.ntmps9
  go_wp2_with fail
  refine A.out.mono ?_; rintro e w2 ⟨oa, oc, rfl, ho, -, hc⟩
  have C2 := Lib.hid hc
  have HO := Lib.hid ho
  clear hc ho A
  go_wp2_with fail
  go_loopw [8, 9, 28] (fun u s i wr => ∃ (k : Nat) (a : Option Addr) (c : Nat) (D : List Cl) (na : Option Addr) (nc : Nat) (s1 : List Ce), u = .slice a D.length c ∧ s = .slice na s1.length nc ∧ i = .int .i64 k ∧ k ≤ o.length ∧ Hid (D.length = k) ∧ Hid (SerI w2 wr a c D) ∧ Hid (InIs ceC 4 wr na nc s1) ∧ Hid (∀ b, (∃ y, na = some y ∧ 0 < s1.length ∧ y.block = b) → ob a ≠ some b) ∧ Hid (goodL s1) ∧ Hid (LegOk (l.map Cl.p) (o.drop k) s1) ∧ Hid (R = D.map Cl.p ++ serGo (l.map Cl.p) (o.drop k) s1)) (fun _ _ i _ => o.length - (intOf i).toNat)
  case atStart => exact ⟨0, none, 0, [], sa, sc, st, rfl, rfl, rfl, Nat.zero_le _, Lib.hid rfl, Lib.hid ⟨Chg.refl _ _, RowOf.nil _ _ _, fun d hd => by cases hd⟩, Lib.hid (HS.out.kept C2.out), Lib.hid (fun b _ e => by cases e), HSG, F2, Lib.hid (by rw [RR0.out]; rfl)⟩
  case round =>
    obtain ⟨k, a, c, D, na, nc, s1, rfl, rfl, rfl, hk, hDk, SI, IS, SF, SG, LO, RR⟩ := hrel
    have hk0 : (0 : Int) ≤ (k : Int) := by omega
    by_cases hko : k < o.length
    · have hko' : (k : Int) < (o.length : Int) := by omega
      obtain ⟨n, x, e1, hx, hz0, hans, hleg, hser⟩ := legOk_drop hko LO.out
      obtain ⟨b1, o1, e2, -, -, hc1⟩ := HO.out.1.elem SI.out.chg k hko
      subst e2
      have u1 := hc1 0 (by omega)
      rw [e1] at u1
      simp only [icI, List.getElem?_cons_zero, Nat.add_zero, Nat.mul_one] at u1
      clear hc1 e1
      have hn : n < l.length := by have := (List.getElem?_eq_some_iff.1 hx).1; rwa [List.length_map] at this
      have CW := Lib.hid (C2.out.thenSame SI.out.chg)
      obtain ⟨b2, o2, e3, -, hc2⟩ := H.out.at8 (w' := wr) n hn
      subst e3
      have hxe : (l[n]).p = x := by have := (List.getElem?_eq_some_iff.1 hx).2; rwa [List.getElem_map] at this
      have hgx := HG.out _ (List.getElem_mem hn)
      have hgv := HGA.out _ (List.getElem_mem hn)
      have hix := (H.out.2 _ (List.getElem_mem hn)).kept CW.out
      obtain ⟨x0, x1, x2, x3, x4, x5, x6, x7⟩ := hc2 _ CW.out
      have hn0 : (0 : Int) ≤ (n : Int) := by omega
      have hn1 : (n : Int) < (l.length : Int) := by omega
      generalize l[n] = xc at *
      subst hxe
      obtain ⟨p1, p2, p3⟩ := chk_zero (doZ_zero hz0).1
      have harg : xc.o.args.length ≤ 1048576 := by
        have : xc.o.args.length = ariN (opN xc.p.o.op) := by rw [← p2]; simp [Cl.p, EOp.p]
        rw [this]
        rcases opN_cases xc.p.o.op with ⟨_, e⟩ | ⟨_, e⟩ | ⟨_, e⟩ | ⟨_, e⟩ | ⟨_, e⟩ <;> rw [e] <;> decide
      have CL := lclone_any xc wr hix (fun d hd => (hgx.1.2.2.2.2 d hd).1) hgv.1 harg
      unfold clC at CL
      have CL := Lib.hid CL
      rename_i CL0
      have HGX := Lib.hid hgx
      have HSER := Lib.hid hser
      have HLEG := Lib.hid hleg
      have HANS := Lib.hid hans
      have HZ0 := Lib.hid hz0
      clear CL0 hgx hgv hix harg p1 p2 p3 hser hleg hans hc2 hx hz0
      go_upto_region 10 with (go_at_call 24; go_loud (refine Calls.mono CL.out ?_); rintro e w3 ⟨y, rfl, hp, hin, hc, hfr⟩; have HP := Lib.hid hp; have HIN := Lib.hid hin; have C3 := Lib.hid hc; have FR := Lib.hid hfr; clear hp hin hc hfr CL; simp only [clC])
      have hyo : y.o.p = xc.p.o := congrArg PCl.o HP.out
      obtain ⟨W3, hW3⟩ : ∃ W3, W3 = w3.alloc (clO y) := ⟨_, rfl⟩
      have D3 := Lib.hid (show Chg [] w3 W3 by rw [hW3]; exact (Chg.refl _ _).alloc _)
      have B3 := Lib.hid (show W3.heap[w3.heap.size]? = some (clO y) by rw [hW3]; exact heap_alloc_new _ _)
      have CR3 := Lib.hid (C3.out.thenSame D3.out)
      have IN3 := Lib.hid (HIN.out.kept D3.out)
      have HYG := Lib.hid (good_p HGX.out.1 hyo)
      have DO := do_any na nc s1 y.o W3 (IS.out.kept CR3.out) SG.out IN3.out.1 HYG.out (HT.out.kept (CW.out.thenSame CR3.out))
      have GZ := doZ_good (o := y.o) (st := s1) (by rw [hyo]; exact HZ0.out) SG.out HYG.out
      have AO := fun w' => lopen_any y w'
      have HAP : ansP s1 xc.p = if openB xc.p = true then ⟨xc.p.o, (doZ s1 xc.p.o).2.2.1, (doZ s1 xc.p.o).2.2.2, xc.p.from_, xc.p.to_⟩ else xc.p := rfl
      replace HLEG := HLEG.out
      replace HSER := HSER.out
      replace HZ0 := HZ0.out
      rw [hyo] at DO GZ
      rw [HP.out] at AO
      generalize doZ s1 xc.p.o = Z at *
      generalize openB xc.p = q at *
      obtain ⟨ze, zs, zr, za⟩ := Z
      simp only at HZ0 GZ HAP HLEG HSER DO
      subst HZ0
      unfold eoC at DO
      unfold clC at AO
      have hRR : R = D.map Cl.p ++ ansP s1 xc.p :: serGo (l.map Cl.p) (o.drop (k + 1)) zs := by rw [RR.out, HSER]
      have HRR := Lib.hid hRR
      replace HAP := Lib.hid HAP
      replace HLEG := Lib.hid HLEG
      replace GZ := Lib.hid GZ
      replace DO := Lib.hid DO
      replace AO := Lib.hid AO
      clear HSER hRR
      unfold clO at hW3
      rw [← hW3]
      have k3 := blk_cell (show W3.heap[w3.heap.size]? = some (.cells _ _ (0, 0)) from B3.out)
      clear hW3
      go_upto_region 11 with (go_at_call 25; go_loud (refine Calls.mono DO.out ?_); rintro e w4 ⟨na2, nc2, va2, vc2, rfl, hn4, hv4, hf4, hc4⟩; have N4 := Lib.hid hn4; have V4 := Lib.hid hv4; have F4 := Lib.hid hf4; have C4 := Lib.hid hc4; clear hn4 hv4 hf4 hc4 DO)
      have hob := SI.out.row.block
      rw [ob_eq] at hob
      have HOB := Lib.hid hob
      have s3 := C3.out.size
      have s4 := C4.out.size
      have l3 := lt_of_heap B3.out
      obtain ⟨W4, hW4⟩ : ∃ W4, W4 = w4.alloc (.cells #[.int .i64 zr, .slice va2 za.length vc2] 38) := ⟨_, rfl⟩
      have D4 := Lib.hid (show Chg [] w4 W4 by rw [hW4]; exact (Chg.refl _ _).alloc _)
      have T4 := Lib.hid (show W4.heap[w4.heap.size]? = some (.cells #[.int .i64 zr, .slice va2 za.length vc2] 38) by rw [hW4]; exact heap_alloc_new _ _)
      have B4 := Lib.hid (D4.out.at (by simp) (C4.out.at (by simp) B3.out))
      have k4 := blk_cell (show W4.heap[w3.heap.size]? = some (.cells _ _ (0, 0)) from B4.out)
      rw [← hW4]
      clear hW4 k3 hob
      have hD8 : D.length ≤ 7 := by have := hDk.out; omega
      cases q
      · go_upto_region 15 with (go_at_call 26; go_loud (refine Calls.mono (AO.out _) ?_); rintro e w5 ⟨rfl, hc5⟩; have C5 := Lib.hid hc5; have B5 := Lib.hid (hc5.at (by simp) B4.out); have k5 := blk_cell (show w5.heap[w3.heap.size]? = some (.cells _ _ (0, 0)) from B5.out); clear hc5)
        have Y6 := Lib.hid (show Chg [w3.heap.size] w4 w5 from ((D4.out.thenSame C5.out).mono (by simp)))
        have K6 := Lib.hid (show Chg [w3.heap.size] wr w5 from ((((CR3.out.thenSame C4.out).thenSame D4.out).thenSame C5.out).mono (by simp)))
        have YI := Lib.hid (show ClIn w5 y from IN3.out.kept ((C4.out.thenSame D4.out).thenSame C5.out))
        have YB := Lib.hid (show ∀ b, y.on b → wr.heap.size ≤ b from FR.out)
        have YP := Lib.hid (show y.p = ansP s1 xc.p by rw [HAP.out, HP.out]; rfl)
        have SI6 := Lib.hid (SI.out.keptB K6.out (fun b hb => by simp at hb; omega))
        have s6 := Y6.out.size
        have s7 := SI6.out.chg.size
        go_wp2_with (at_builtin; go_loud (refine wpl_appendL rfl _ _ 23 rfl w2.heap.size 40 _ 120 Tryz.underlying23 callInfo rfl (by decide) clC_len clC_one (.slice a D.length c) D rfl (SI6.out.keptN ((Chg.refl [] w5).alloc (clO y))).row (w5).heap.size 1 y _ _ _ rfl (heap_alloc_new w5 _) rfl (by unfold maxLen; omega) (by omega) (by rw [World.size_alloc]; omega) ?_); intro g8 c8 w8 hr8 hg8 ho8 hl8; have K8 := Lib.hid (Chg.ofRow (v := .slice a D.length c) hg8); have R8 := Lib.hid hr8; have O8 := Lib.hid ho8; clear hr8 hg8 ho8)
        have G8 := Lib.hid (show Chg (ob a).toList ((w5).alloc (clO y)) w8 by have := K8.out; rwa [ob_eq] at this)
        have SI7 := Lib.hid (SI6.out.keptN ((Chg.refl [] w5).alloc (clO y)))
        have SI8 := Lib.hid (SI7.out.step (y := y) (YI.out.kept ((Chg.refl [] _).alloc (clO y))) (fun b hb e => by have := YB.out b hb; have := HOB.out b e; omega) G8.out R8.out (by have := O8.out; rwa [ob_eq] at this))
        have N6 := Lib.hid ((N4.out.keptN Y6.out (fun x hx hm => by have := F4.out x (.inl hx); simp at hm; omega)).kept ((Chg.refl [] _).alloc (clO y)))
        have N8 := Lib.hid (N6.out.keptP G8.out (fun x hx hl hm => by have := F4.out x (.inl hx); have := HOB.out x.block (by simpa using hm); omega))
        exact ⟨⟨k + 1, _, _, D ++ [y], na2, nc2, zs, by simp, rfl, by go_num, by omega, Lib.hid (by simp [hDk.out]), SI8, N8, Lib.hid (fun b hb e => by
          obtain ⟨x, hx, hl, rfl⟩ := hb
          have h1 := F4.out x (.inl hx)
          have h2 := N4.out.lt hx hl
          have e : g8 = x.block := by simpa [ob] using e
          rcases O8.out with e2 | e2
          · rw [ob_eq] at e2
            have := HOB.out _ e2
            omega
          · rw [World.size_alloc] at e2
            omega), GZ, HLEG, Lib.hid (by rw [HRR.out]; simp [YP.out])⟩, by simp [intOf]; omega⟩
      · go_upto_region 15 with (go_at_call 26; go_loud (refine Calls.mono (AO.out _) ?_); rintro e w5 ⟨rfl, hc5⟩; have C5 := Lib.hid hc5; have B5 := Lib.hid (hc5.at (by simp) B4.out); have k5 := blk_cell (show w5.heap[w3.heap.size]? = some (.cells _ _ (0, 0)) from B5.out); have f5 := blk_free (show w5.heap[w3.heap.size]? = some (.cells _ _ (0, 0)) from B5.out); have t5 := blk_cell (hc5.at (by simp) T4.out); clear hc5)
        obtain ⟨W6, hW6⟩ : ∃ W6, W6 = (w5.setCell ⟨w3.heap.size, 4, none⟩ (.int .i64 zr)).setCell ⟨w3.heap.size, 5, none⟩ (.slice va2 za.length vc2) := ⟨_, rfl⟩
        have B6 := blk_set (blk_set (show w5.heap[w3.heap.size]? = some (.cells _ _ (0, 0)) from B5.out) 4 (.int .i64 zr)) 5 (.slice va2 za.length vc2)
        rw [← hW6] at B6
        have k6 := blk_cell B6
        have E6 := Lib.hid (show Chg [w3.heap.size] w5 W6 by rw [hW6]; exact ((Chg.refl _ _).setCell _ _ (by simp)).setCell _ _ (by simp))
        rw [← hW6]
        clear hW6 k5 f5 t5 B6
        have Y6 := Lib.hid (show Chg [w3.heap.size] w4 W6 from ((D4.out.thenSame C5.out).mono (by simp)).thenSame E6.out)
        have K6 := Lib.hid (show Chg [w3.heap.size] wr W6 from (((((CR3.out.thenSame C4.out).thenSame D4.out).thenSame C5.out).mono (by simp))).thenSame E6.out)
        obtain ⟨y2, hy2⟩ : ∃ y2 : Cl, y2 = ⟨y.o, zr, va2, vc2, za, y.from_, y.to_⟩ := ⟨_, rfl⟩
        have YI3 := Lib.hid (show ClIn W6 y from (HIN.out.keptOn (D3.out.mono (T := [w3.heap.size]) (by simp)) (fun b hb hm => by have := HIN.out.on_lt hb; simp at hm; omega)).keptOn (((((C4.out.thenSame D4.out).thenSame C5.out).mono (T := [w3.heap.size]) (by simp))).thenSame E6.out) (fun b hb hm => by have := HIN.out.on_lt hb; simp at hm; omega))
        have YV := Lib.hid (V4.out.keptN Y6.out (fun x hx hm => by have := F4.out x (.inr hx); simp at hm; omega))
        have YI := Lib.hid (show ClIn W6 ⟨y.o, zr, va2, vc2, za, y.from_, y.to_⟩ from ⟨YI3.out.1, YV.out⟩)
        have YB := Lib.hid (show ∀ b, Cl.on ⟨y.o, zr, va2, vc2, za, y.from_, y.to_⟩ b → wr.heap.size ≤ b from fun b hb => by
          rcases hb with hb | ⟨x, h1, h2, rfl⟩ | hb
          · exact FR.out b (.inl hb)
          · have := F4.out x (.inr h1); omega
          · exact FR.out b (.inr (.inr hb)))
        have YP := Lib.hid (show Cl.p ⟨y.o, zr, va2, vc2, za, y.from_, y.to_⟩ = ansP s1 xc.p by
          have e1 := congrArg PCl.from_ HP.out
          have e2 := congrArg PCl.to_ HP.out
          rw [HAP.out]
          simp only [Cl.p, if_true] at e1 e2 ⊢
          simp only [Cl.p] at hyo
          rw [hyo, e1, e2])
        have SI6 := Lib.hid (SI.out.keptB K6.out (fun b hb => by simp at hb; omega))
        have s6 := Y6.out.size
        have s7 := SI6.out.chg.size
        go_wp2_with (at_builtin; go_loud (refine wpl_appendL rfl _ _ 23 rfl w2.heap.size 40 _ 120 Tryz.underlying23 callInfo rfl (by decide) clC_len clC_one (.slice a D.length c) D rfl (SI6.out.keptN ((Chg.refl [] W6).alloc (clO (⟨y.o, zr, va2, vc2, za, y.from_, y.to_⟩ : Cl)))).row (W6).heap.size 1 (⟨y.o, zr, va2, vc2, za, y.from_, y.to_⟩ : Cl) _ _ _ rfl (heap_alloc_new W6 _) rfl (by unfold maxLen; omega) (by omega) (by rw [World.size_alloc]; omega) ?_); intro g8 c8 w8 hr8 hg8 ho8 hl8; have K8 := Lib.hid (Chg.ofRow (v := .slice a D.length c) hg8); have R8 := Lib.hid hr8; have O8 := Lib.hid ho8; clear hr8 hg8 ho8)
        have G8 := Lib.hid (show Chg (ob a).toList ((W6).alloc (clO (⟨y.o, zr, va2, vc2, za, y.from_, y.to_⟩ : Cl))) w8 by have := K8.out; rwa [ob_eq] at this)
        have SI7 := Lib.hid (SI6.out.keptN ((Chg.refl [] W6).alloc (clO (⟨y.o, zr, va2, vc2, za, y.from_, y.to_⟩ : Cl))))
        have SI8 := Lib.hid (SI7.out.step (y := (⟨y.o, zr, va2, vc2, za, y.from_, y.to_⟩ : Cl)) (YI.out.kept ((Chg.refl [] _).alloc (clO (⟨y.o, zr, va2, vc2, za, y.from_, y.to_⟩ : Cl)))) (fun b hb e => by have := YB.out b hb; have := HOB.out b e; omega) G8.out R8.out (by have := O8.out; rwa [ob_eq] at this))
        have N6 := Lib.hid ((N4.out.keptN Y6.out (fun x hx hm => by have := F4.out x (.inl hx); simp at hm; omega)).kept ((Chg.refl [] _).alloc (clO (⟨y.o, zr, va2, vc2, za, y.from_, y.to_⟩ : Cl))))
        have N8 := Lib.hid (N6.out.keptP G8.out (fun x hx hl hm => by have := F4.out x (.inl hx); have := HOB.out x.block (by simpa using hm); omega))
        exact ⟨⟨k + 1, _, _, D ++ [(⟨y.o, zr, va2, vc2, za, y.from_, y.to_⟩ : Cl)], na2, nc2, zs, by simp, rfl, by go_num, by omega, Lib.hid (by simp [hDk.out]), SI8, N8, Lib.hid (fun b hb e => by
          obtain ⟨x, hx, hl, rfl⟩ := hb
          have h1 := F4.out x (.inl hx)
          have h2 := N4.out.lt hx hl
          have e : g8 = x.block := by simpa [ob] using e
          rcases O8.out with e2 | e2
          · rw [ob_eq] at e2
            have := HOB.out _ e2
            omega
          · rw [World.size_alloc] at e2
            omega), GZ, HLEG, Lib.hid (by rw [HRR.out]; simp [YP.out])⟩, by simp [intOf]; omega⟩
    · have hks : k = o.length := by omega
      have HX := Lib.hid (show D.map Cl.p = R by rw [RR.out, hks, List.drop_length]; simp [serGo])
      clear hks
      go_wp2_with fail
      go_ret2
      obtain ⟨e1, e2⟩ := InIs.ofRow SI.out.row clC_len
      exact ⟨a, c, D, rfl, HX.out, ⟨e2, fun d hd => (SI.out.ins d hd).1⟩, C2.out.thenSame SI.out.chg⟩
end Go.Proofs.YtnhemokmgpelaaaGreatDoor
