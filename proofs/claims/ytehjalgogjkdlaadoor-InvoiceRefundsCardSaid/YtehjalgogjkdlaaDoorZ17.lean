/- Over any program: two things of the call's own side by side, each with its blocks. No condition. Over any program: slices of structs that hold structs, read as lists; such structs by value. No condition. Over any program: slices of one-cell elements (numbers, strings) that came in, read as lists. No condition. Over any program: what came in, read as lists, with the form's own bound on sizes. No condition. Chapter 52: the arguments: records and calls. No condition. Chapter 52: equality of usages and of records; the program's ledger. No condition. Plain laws on the lists that stand for maps with string keys: look-up behind a store, a deletion, a filter. No program in sight. Chapter 52: the program's ledger: New, made, Len, Period, Close. No condition. Over any program with ident: ID, letter. No condition. Over any program with faasref05: ID. No condition. Chapter 52: the ledger's plain laws. No condition. Chapter 52: the ledger's Record. No condition. -/
import Derived.SizedLaws
import Derived.Laws.StructEq
import Derived.StillTailTactics
import Derived.Lib.MinMax
import Derived.Test.YtehjalgogjkdlaaDoorZ01
import Derived.Test.YtehjalgogjkdlaaDoorZ12
import Derived.Test.YtehjalgogjkdlaaDoorZ09
import Derived.Test.YtehjalgogjkdlaaDoorZ10
namespace Go.Proofs.YtehjalgogjkdlaaDoor
set_option linter.unusedVariables false
set_option linter.unusedSimpArgs false
open Go.RowKit
/-- A predicate on a world that leans on a list of blocks alone. -/
structure Side (J : List Nat → World → Prop) : Prop where
  lt : ∀ {f : List Nat} {w : World}, J f w → ∀ x ∈ f, x < w.heap.size
  kept : ∀ {f S : List Nat} {w w' : World}, J f w → Chg S w w' → (∀ x ∈ f, x ∉ S) → J f w'
def NoSide : List Nat → World → Prop := fun f _ => f = []
theorem noSide : Side NoSide := ⟨fun h x hx => by rw [h] at hx; simp at hx, fun h _ _ => h⟩
/-- Both are new since W, and apart. -/
def Pair (W w : World) (J K : List Nat → World → Prop) : Prop :=
  ∃ f g, J f w ∧ K g w ∧ (∀ x ∈ f, W.heap.size ≤ x) ∧ (∀ x ∈ g, W.heap.size ≤ x) ∧ (∀ x ∈ f, x ∉ g) ∧ Chg [] W w
/-- J becomes J' by a change of its own blocks and new ones. -/
def Turn (f : List Nat) (w w' : World) (J' : List Nat → World → Prop) : Prop := ∃ f', J' f' w' ∧ Chg f w w' ∧ ∀ x ∈ f', x ∈ f ∨ w.heap.size ≤ x
variable {W w w' : World} {J K J' K' : List Nat → World → Prop}
theorem Pair.symm (h : Pair W w J K) : Pair W w K J := by
  obtain ⟨f, g, h1, h2, h3, h4, h5, h6⟩ := h
  exact ⟨g, f, h2, h1, h4, h3, fun x hx hy => h5 x hy hx, h6⟩
theorem Pair.chg (h : Pair W w J K) : Chg [] W w := by
  obtain ⟨f, g, h1, h2, h3, h4, h5, h6⟩ := h
  exact h6
theorem Pair.below (h : Pair W w J K) : Below W.heap.size W w := h.chg.toBelow (Nat.le_refl _) (by simp)
theorem Pair.keptN (sJ : Side J) (sK : Side K) (h : Pair W w J K) (hc : Chg [] w w') : Pair W w' J K := by
  obtain ⟨f, g, h1, h2, h3, h4, h5, h6⟩ := h
  exact ⟨f, g, sJ.kept h1 hc (by simp), sK.kept h2 hc (by simp), h3, h4, h5, h6.thenSame hc⟩
theorem Pair.turn (sK : Side K) (h : Pair W w J K) (ht : ∀ f, J f w → (∀ x ∈ f, W.heap.size ≤ x) → ∃ f', J' f' w' ∧ Chg f w w' ∧ ∀ x ∈ f', x ∈ f ∨ w.heap.size ≤ x) : Pair W w' J' K := by
  obtain ⟨f, g, h1, h2, h3, h4, h5, h6⟩ := h
  obtain ⟨f', q1, q2, q3⟩ := ht f h1 h3
  refine ⟨f', g, q1, sK.kept h2 q2 (fun x hx hy => h5 x hy hx), ?_, h4, ?_, h6.then q2 (fun y hy hl => by have := h3 y hy; omega)⟩
  · intro x hx
    rcases q3 x hx with h | h
    · exact h3 x h
    · exact Nat.le_trans h6.size h
  · intro x hx hy
    rcases q3 x hx with h | h
    · exact h5 x h hy
    · have := sK.lt h2 x hy; omega
/-- A first thing that is made now. -/
theorem Pair.start (sK : Side K) (hK : Pair W w K NoSide) (ht : ∃ f', J' f' w' ∧ Chg [] w w' ∧ ∀ x ∈ f', w.heap.size ≤ x) : Pair W w' J' K := by
  obtain ⟨f, g, h1, h2, h3, h4, h5, h6⟩ := hK
  obtain ⟨f', q1, q2, q3⟩ := ht
  refine ⟨f', f, q1, sK.kept h1 q2 (by simp), fun x hx => Nat.le_trans h6.size (q3 x hx), h3, ?_, h6.thenSame q2⟩
  intro x hx hy
  have := sK.lt h1 x hy
  have := q3 x hx
  omega
theorem Pair.first (hc : Chg [] W w) (ht : ∃ f', J' f' w' ∧ Chg [] w w' ∧ ∀ x ∈ f', w.heap.size ≤ x) : Pair W w' J' NoSide := by
  obtain ⟨f', q1, q2, q3⟩ := ht
  exact ⟨f', [], q1, rfl, fun x hx => Nat.le_trans hc.size (q3 x hx), by simp, by simp, hc.thenSame q2⟩
/-- Two at once, apart. -/
def AndSide (J K : List Nat → World → Prop) : List Nat → World → Prop := fun h w => ∃ f g, h = f ++ g ∧ J f w ∧ K g w ∧ ∀ x ∈ f, x ∉ g
theorem andSide (sJ : Side J) (sK : Side K) : Side (AndSide J K) := by
  constructor
  · rintro h w ⟨f, g, rfl, h1, h2, h3⟩ x hx
    rcases List.mem_append.1 hx with hx | hx
    · exact sJ.lt h1 x hx
    · exact sK.lt h2 x hx
  · rintro h S w w' ⟨f, g, rfl, h1, h2, h3⟩ hc hS
    exact ⟨f, g, rfl, sJ.kept h1 hc (fun x hx => hS x (List.mem_append_left _ hx)), sK.kept h2 hc (fun x hx => hS x (List.mem_append_right _ hx)), h3⟩
/-- A block that holds o. -/
def Box (u : Nat) (o : Obj) : List Nat → World → Prop := fun f w => f = [u] ∧ w.heap[u]? = some o
theorem boxSide (u : Nat) (o : Obj) : Side (Box u o) := by
  constructor
  · rintro f w ⟨rfl, h⟩ x hx
    simp at hx; subst hx
    exact lt_of_heap h
  · rintro f S w w' ⟨rfl, h⟩ hc hS
    exact ⟨rfl, hc.at (hS u (by simp)) h⟩
theorem Pair.box (sJ : Side J) (sK : Side K) (h : Pair W w J K) (o : Obj) : Pair W (w.alloc o) J (AndSide K (Box w.heap.size o)) := by
  obtain ⟨f, g, h1, h2, h3, h4, h5, h6⟩ := h
  have hc : Chg [] w (w.alloc o) := (Chg.refl _ _).alloc _
  refine ⟨f, g ++ [w.heap.size], sJ.kept h1 hc (by simp), ⟨g, [w.heap.size], rfl, sK.kept h2 hc (by simp), ⟨rfl, heap_alloc_new _ _⟩, ?_⟩, h3, ?_, ?_, h6.thenSame hc⟩
  · intro x hx hy
    simp at hy; subst hy
    have := sK.lt h2 _ hx; omega
  · intro x hx
    rcases List.mem_append.1 hx with hx | hx
    · exact h4 x hx
    · simp at hx; subst hx; exact h6.size
  · intro x hx hy
    rcases List.mem_append.1 hy with hy | hy
    · exact h5 x hx hy
    · simp at hy; subst hy
      have := sJ.lt h1 _ hx; omega
theorem Pair.boxAt {u : Nat} {o : Obj} (h : Pair W w J (AndSide K (Box u o))) : w.heap[u]? = some o := by
  obtain ⟨f, g, h1, ⟨g1, g2, rfl, k1, ⟨rfl, k2⟩, k3⟩, _⟩ := h
  exact k2
theorem Pair.boxAt2 {u u' : Nat} {o o' : Obj} (h : Pair W w J (AndSide (AndSide K (Box u o)) (Box u' o'))) : w.heap[u]? = some o := by
  obtain ⟨f, g, h1, ⟨g1, g2, rfl, ⟨g3, g4, rfl, k1, ⟨rfl, k2⟩, k4⟩, k5, k3⟩, _⟩ := h
  exact k2
/-- The first two change places. -/
theorem Pair.swap {L : List Nat → World → Prop} (h : Pair W w J (AndSide K L)) : Pair W w K (AndSide J L) := by
  obtain ⟨f, g, h1, ⟨g1, g2, rfl, k1, k2, k3⟩, h3, h4, h5, h6⟩ := h
  refine ⟨g1, f ++ g2, k1, ⟨f, g2, rfl, h1, k2, fun x hx hy => h5 x hx (List.mem_append_right _ hy)⟩, fun x hx => h4 x (List.mem_append_left _ hx), ?_, ?_, h6⟩
  · intro x hx
    rcases List.mem_append.1 hx with hx | hx
    · exact h3 x hx
    · exact h4 x (List.mem_append_right _ hx)
  · intro x hx hy
    rcases List.mem_append.1 hy with hy | hy
    · exact h5 x hy (List.mem_append_left _ hx)
    · exact k3 x hx hy
theorem Pair.swap3 {L M : List Nat → World → Prop} (h : Pair W w J (AndSide (AndSide K L) M)) : Pair W w K (AndSide (AndSide J L) M) := by
  obtain ⟨f, g, h1, ⟨g1, g2, rfl, ⟨g3, g4, rfl, k1, k2, k3⟩, k4, k5⟩, h3, h4, h5, h6⟩ := h
  refine ⟨g3, (f ++ g4) ++ g2, k1, ⟨f ++ g4, g2, rfl, ⟨f, g4, rfl, h1, k2, fun x hx hy => h5 x hx (by simp [hy])⟩, k4, ?_⟩, fun x hx => h4 x (by simp [hx]), ?_, ?_, h6⟩
  · intro x hx hy
    rcases List.mem_append.1 hx with hx | hx
    · exact h5 x hx (by simp [hy])
    · exact k5 x (by simp [hx]) hy
  · intro x hx
    simp only [List.mem_append] at hx
    rcases hx with (hx | hx) | hx
    · exact h3 x hx
    · exact h4 x (by simp [hx])
    · exact h4 x (by simp [hx])
  · intro x hx hy
    simp only [List.mem_append] at hy
    rcases hy with (hy | hy) | hy
    · exact h5 x hy (by simp [hx])
    · exact k3 x hx hy
    · exact k5 x (by simp [hx]) hy
end Go.Proofs.YtehjalgogjkdlaaDoor

namespace Go.Proofs.YtehjalgogjkdlaaDoor
set_option linter.unusedVariables false
set_option linter.unusedSimpArgs false
open Go.RowKit Go.ChangeShapes Go.WideShapes Go.Deep

section
variable {H : Type} {enc : TypeId × Value → H} {P : Program} {w : World} {base : Nat} {spare : Nat → Bool} {held : Bool}
theorem cells_at {w : World} {base : Nat} {a : Addr} {n : Nat} {cs : List Value} (h : w.cells? base a n = some cs) : cs.length = n ∧ ∀ j, j < n → w.cell? (a.add j) = cs[j]? := by
  obtain ⟨_, hcl, hat⟩ := World.cells?_some h
  refine ⟨hcl, fun j hj => ?_⟩
  rw [hat j hj]

/-- A slice of structs, as a list: dec says what an element's cells are. -/
theorem open_slN {α : Type} (cf : α → List Value) (good : α → Prop) {t e : TypeId} {C : Nat} {a : Option Addr} {len cap : Nat} {d : DataW H} {ps : List MemPlace} (ht : P.underlying t = some (.slice e))
    (hC : P.cellsOf e = C) (hpos : 0 < C) (hcf : ∀ x, (cf x).length = C)
    (dec : ∀ (n : Nat) (cs : List Value) (y : DataW H × List MemPlace), DataW.trod enc P w base spare held n e cs = some y → ∃ x : α, good x ∧ cs = cf x)
    (h : DataW.Trod enc P w base spare held t (.slice a len cap) d ps) : ∃ l : List α, SlIs cf C w a len l ∧ (∀ x ∈ l, good x) ∧ len ≤ maxLen := by
  obtain ⟨fuel, hf⟩ := h
  rcases open_slice ht hf with ⟨h0, _⟩ | ⟨x, l, c, m, n, D, Pl, hcs, hb, hl, hm, hmm, hx, hi⟩
  · simp [Value.cells] at h0
    obtain ⟨rfl, rfl, rfl⟩ := h0
    exact ⟨[], ⟨rfl, fun k hk => by simp at hk⟩, by simp, Nat.zero_le _⟩
  · simp [Value.cells] at hcs
    obtain ⟨rfl, rfl, rfl⟩ := hcs
    have hlm : len ≤ m := by rw [hmm]; split <;> omega
    have hstep : ∀ i, i < len → ∃ y : α, good y ∧ ∀ j, j < C → w.cell? ((x.add (i * C)).add j) = (cf y)[j]? := by
      intro i hin
      obtain ⟨cs', hc, ht'⟩ := hi i (by omega)
      rw [hC] at hc
      obtain ⟨y, hg, rfl⟩ := dec _ _ _ ht'
      exact ⟨y, hg, (cells_at hc).2⟩
    obtain ⟨l, hll, hp⟩ := choose_list len _ hstep
    refine ⟨l, ⟨hll, fun k hk => ?_⟩, fun y hy => ?_, Nat.le_trans hl hm⟩
    · obtain ⟨b, off, spot⟩ := x
      have h0 := (hp 0 (by omega)).2 0 hpos
      have hsp : spot = none := by
        cases spot with
        | none => rfl
        | some s =>
          exfalso
          have e0 : ((⟨b, off, some s⟩ : Addr).add (0 * C)).add 0 = ⟨b, off, some s⟩ := by simp [Addr.add]
          rw [e0] at h0
          have : w.cell? ⟨b, off, some s⟩ = none := by unfold World.cell?; split <;> simp
          rw [this] at h0
          have hlt : (cf l[0])[0]? = some ((cf l[0])[0]'(by rw [hcf]; exact hpos)) := List.getElem?_eq_getElem _
          rw [hlt] at h0; cases h0
      subst hsp
      have hadd : ∀ off m, (⟨b, off, none⟩ : Addr).add m = ⟨b, off + m, none⟩ := by
        intro off m; unfold Addr.add; split
        · rename_i e; rw [e]; rfl
        · rfl
      refine ⟨b, off, rfl, ?_, fun j hj => ?_⟩
      · have h1 := (hp k hk).2 0 hpos
        have hlt : (cf l[k])[0]? = some ((cf l[k])[0]'(by rw [hcf]; exact hpos)) := List.getElem?_eq_getElem _
        rw [hlt] at h1
        exact World.block_lt_of_cell? w _ (by rw [hadd, hadd] at h1; exact h1)
      · rw [← (hp k hk).2 j hj, hadd, hadd]
    · obtain ⟨k, hk, rfl⟩ := List.mem_iff_getElem.1 hy
      exact (hp k hk).1

/-- A struct by value. -/
theorem open_stN {α : Type} (cf : α → List Value) (good : α → Prop) {r : Reach} {b0 : Nat} {t : TypeId} {fs : Array Field} {v : Value} {d : DataW H} {ps : List MemPlace} (ht : P.underlying t = some (.struct fs))
    (dec : ∀ (n : Nat) (cs : List Value) (y : DataW H × List MemPlace), DataW.trod enc P w base spare held n t cs = some y → ∃ x : α, good x ∧ cs = cf x)
    (hv : Value.okWide P w r b0 t v) (h : DataW.Trod enc P w base spare held t v d ps) : ∃ x : α, v = .agg (cf x).toArray ∧ good x := by
  obtain ⟨cs, rfl, hsz⟩ := okWide_struct ht hv
  obtain ⟨fuel, hf⟩ := h
  obtain ⟨x, hg, hx⟩ := dec _ _ _ hf
  have : cs.toList = cf x := hx
  exact ⟨x, by rw [← this], hg⟩
/-- A list by its one-cell parts. -/
theorem part_one {cs : List Value} {o : Nat} {v : Value} (h : (cs.drop o).take 1 = [v]) : cs[o]? = some v := by
  have := congrArg List.head? h
  simpa [List.head?_take, List.head?_drop] using this
theorem part_many {cs us : List Value} {o n : Nat} (h : (cs.drop o).take n = us) {j : Nat} (hj : j < n) : cs[o + j]? = us[j]? := by
  rw [← h, List.getElem?_take, if_pos hj, List.getElem?_drop]
end
end Go.Proofs.YtehjalgogjkdlaaDoor
namespace Go.Proofs.YtehjalgogjkdlaaDoor
set_option linter.unusedVariables false
set_option linter.unusedSimpArgs false
open Go.RowKit Go.ChangeShapes Go.WideShapes Go.Deep
section
variable {H : Type} {enc : TypeId × Value → H} {P : Program} {w : World} {base : Nat} {spare : Nat → Bool} {held : Bool}

theorem open_sl1 {α : Type} (cf : α → List Value) (good : α → Prop) {t e : TypeId} {a : Option Addr} {len cap : Nat} {d : DataW H} {ps : List MemPlace} (ht : P.underlying t = some (.slice e)) (hC : P.cellsOf e = 1)
    (dec : ∀ (v : Value) (n : Nat) (y : DataW H × List MemPlace), DataW.trod enc P w base spare held n e [v] = some y → ∃ x : α, good x ∧ cf x = [v])
    (h : DataW.Trod enc P w base spare held t (.slice a len cap) d ps) : ∃ l : List α, SlIs cf 1 w a len l ∧ (∀ x ∈ l, good x) ∧ len ≤ maxLen ∧ len ≤ cap := by
  obtain ⟨fuel, hf⟩ := h
  rcases open_slice ht hf with hcs | ⟨x, l, c, m, n, D, Pl, hcs, hb, hl, hm, hmm, hx, hi⟩
  · have hcs := hcs.1
    simp [Value.cells] at hcs
    obtain ⟨rfl, rfl, rfl⟩ := hcs
    exact ⟨[], ⟨rfl, fun k hk => by simp at hk⟩, by simp, Nat.zero_le _, Nat.le_refl _⟩
  · simp [Value.cells] at hcs
    obtain ⟨rfl, rfl, rfl⟩ := hcs
    have hlm : len ≤ m := by rw [hmm]; split <;> omega
    have hstep : ∀ i, i < len → ∃ y : α, good y ∧ w.cell? (x.add i) = (cf y)[0]? ∧ ∃ v, cf y = [v] := by
      intro i hin
      obtain ⟨cs', hc, ht'⟩ := hi i (by omega)
      rw [hC, Nat.mul_one] at hc
      obtain ⟨_, hcl, hat⟩ := World.cells?_some hc
      have h0 := hat 0 (by omega)
      rcases cs' with _ | ⟨v, _ | ⟨u, cs'⟩⟩
      · simp at hcl
      · obtain ⟨y, hg, hy⟩ := dec v n _ ht'
        refine ⟨y, hg, ?_, v, hy⟩
        rw [hy]
        rw [Go.Deep.add_add, Nat.add_zero] at h0
        exact h0
      · simp at hcl
    obtain ⟨L, hL, hp⟩ := choose_list len (fun i y => good y ∧ w.cell? (x.add i) = (cf y)[0]? ∧ ∃ v, cf y = [v]) hstep
    refine ⟨L, ⟨hL, fun k hk => ?_⟩, fun y hy => ?_, Nat.le_trans hl hm, hl⟩
    · obtain ⟨b, off, spot⟩ := x
      obtain ⟨_, h0, v0, hv0⟩ := hp 0 (by omega)
      have hsp : spot = none := by
        cases spot with
        | none => rfl
        | some s =>
          exfalso
          have e0 : (⟨b, off, some s⟩ : Addr).add 0 = ⟨b, off, some s⟩ := by simp [Addr.add]
          rw [e0] at h0
          have : w.cell? ⟨b, off, some s⟩ = none := by unfold World.cell?; split <;> simp
          rw [this, hv0] at h0
          simp at h0
      subst hsp
      have hadd : ∀ m, (⟨b, off, none⟩ : Addr).add m = ⟨b, off + m, none⟩ := by
        intro m; unfold Addr.add; split
        · rename_i e; rw [e]; rfl
        · rfl
      obtain ⟨_, hk0, v, hv⟩ := hp k hk
      refine ⟨b, off, rfl, ?_, fun j hj => ?_⟩
      · rw [hadd, hv] at hk0
        exact World.block_lt_of_cell? w _ hk0
      · have : j = 0 := by omega
        subst this
        rw [← hk0, hadd]; simp
    · obtain ⟨k, hk, rfl⟩ := List.mem_iff_getElem.1 hy
      exact (hp k hk).1
end
end Go.Proofs.YtehjalgogjkdlaaDoor
namespace Go.Proofs.YtehjalgogjkdlaaDoor
set_option linter.unusedVariables false
set_option linter.unusedSimpArgs false
open Go.RowKit Go.ChangeShapes Go.WideShapes Go.Deep
section
variable {H : Type} {enc : TypeId × Value → H} {P : Program} {w : World} {base : Nat} {spare : Nat → Bool} {held : Bool}
def Wt (P : Program) (t : TypeId) (d : DataW H) : Prop := ∀ n ∈ d.weights P t, n ≤ reachBytes
theorem wtAll_mem {e : TypeId} : ∀ {l : List (DataW H)} {d : DataW H}, d ∈ l → ∀ n ∈ d.weights P e, n ∈ DataW.weightsAll P e l
  | [], _, h, _, _ => by cases h
  | x :: r, d, h, n, hn => by
    rw [DataW.weightsAll, List.mem_append]
    rcases List.mem_cons.1 h with rfl | h
    · exact .inl hn
    · exact .inr (wtAll_mem h n hn)
theorem Wt.elem {t e : TypeId} {elems rest : List (DataW H)} (ht : P.underlying t = some (.slice e)) (h : Wt P t (.slice elems rest)) : (elems.length + rest.length) * P.bytesOf e ≤ reachBytes ∧ ∀ d ∈ elems, Wt P e d := by
  unfold Wt at h
  rw [DataW.weights, ht] at h
  exact ⟨h _ (by simp), fun d hd n hn => h n (by simp; exact .inr (.inl (wtAll_mem hd n hn)))⟩
theorem Wt.field {t : TypeId} {fs : Array Field} {parts : List (DataW H)} (ht : P.underlying t = some (.struct fs)) (h : Wt P t (.agg parts)) {j : Nat} {f : Field} {d : DataW H} (hf : fs[j]? = some f) (hd : parts[j]? = some d) : Wt P f.type d := by
  unfold Wt at h
  rw [DataW.weights, ht] at h
  exact fun n hn => h n (DataW.weights_mem_each (ts := fs.toList.map (·.type)) (by rw [List.getElem?_map, Array.getElem?_toList, hf]; rfl) hd n hn)
theorem wt_each {ts : List TypeId} {ds : List (DataW H)} (h : (DataW.weightsEach P ts ds).all (· ≤ reachBytes) = true) {j : Nat} {t : TypeId} {d : DataW H} (ht : ts[j]? = some t) (hd : ds[j]? = some d) : Wt P t d := by
  intro n hn
  have := List.all_eq_true.1 h n (DataW.weights_mem_each ht hd n hn)
  simpa using this
/-- The length of a slice that came in. -/
theorem wt_len {t e : TypeId} {a : Option Addr} {len cap : Nat} {d : DataW H} {ps : List MemPlace} (ht : P.underlying t = some (.slice e)) (h : DataW.Trod enc P w base spare held t (.slice a len cap) d ps) (hw : Wt P t d) : len * P.bytesOf e ≤ reachBytes := by
  obtain ⟨fuel, hf⟩ := h
  rcases open_slice ht hf with ⟨h0, _⟩ | ⟨x, l, c, m, n, D, Pl, hcs, hb, hl, hm, hmm, hx, hi⟩
  · simp [Value.cells] at h0
    rw [h0.2.1]; simp
  · simp [Value.cells] at hcs
    obtain ⟨rfl, rfl, rfl⟩ := hcs
    have hd : d = .slice ((List.range len).map D) ((List.range (m - len)).map fun j => D (len + j)) := congrArg Prod.fst hx
    subst hd
    have := (hw.elem ht).1
    simp only [List.length_map, List.length_range] at this
    exact Nat.le_trans (Nat.mul_le_mul_right _ (Nat.le_add_right _ _)) this
/-- A slice of structs or of slices, as a list: dec says what an element's cells are. -/
theorem open_slZ {α : Type} (cf : α → List Value) (good : α → Prop) {t e : TypeId} {C : Nat} {a : Option Addr} {len cap : Nat} {d : DataW H} {ps : List MemPlace} (ht : P.underlying t = some (.slice e))
    (hC : P.cellsOf e = C) (hpos : 0 < C) (hcf : ∀ x, (cf x).length = C)
    (dec : ∀ (n : Nat) (cs : List Value) (y : DataW H × List MemPlace), Wt P e y.1 → DataW.trod enc P w base spare held n e cs = some y → ∃ x : α, good x ∧ cs = cf x)
    (h : DataW.Trod enc P w base spare held t (.slice a len cap) d ps) (hw : Wt P t d) : ∃ l : List α, SlIs cf C w a len l ∧ (∀ x ∈ l, good x) ∧ len ≤ maxLen := by
  obtain ⟨fuel, hf⟩ := h
  rcases open_slice ht hf with ⟨h0, _⟩ | ⟨x, l, c, m, n, D, Pl, hcs, hb, hl, hm, hmm, hx, hi⟩
  · simp [Value.cells] at h0
    obtain ⟨rfl, rfl, rfl⟩ := h0
    exact ⟨[], ⟨rfl, fun k hk => by simp at hk⟩, by simp, Nat.zero_le _⟩
  · simp [Value.cells] at hcs
    obtain ⟨rfl, rfl, rfl⟩ := hcs
    have hd : d = .slice ((List.range len).map D) ((List.range (m - len)).map fun j => D (len + j)) := congrArg Prod.fst hx
    have hwe : ∀ i, i < len → Wt P e (D i) := fun i hi => by
      rw [hd] at hw
      exact (hw.elem ht).2 _ (List.mem_map.2 ⟨i, List.mem_range.2 hi, rfl⟩)
    have hlm : len ≤ m := by rw [hmm]; split <;> omega
    have hstep : ∀ i, i < len → ∃ y : α, good y ∧ ∀ j, j < C → w.cell? ((x.add (i * C)).add j) = (cf y)[j]? := by
      intro i hin
      obtain ⟨cs', hc, ht'⟩ := hi i (by omega)
      rw [hC] at hc
      obtain ⟨y, hg, rfl⟩ := dec _ _ _ (hwe i hin) ht'
      exact ⟨y, hg, (cells_at hc).2⟩
    obtain ⟨l, hll, hp⟩ := choose_list len _ hstep
    refine ⟨l, ⟨hll, fun k hk => ?_⟩, fun y hy => ?_, Nat.le_trans hl hm⟩
    · obtain ⟨b, off, spot⟩ := x
      have h0 := (hp 0 (by omega)).2 0 hpos
      have hsp : spot = none := by
        cases spot with
        | none => rfl
        | some s =>
          exfalso
          have e0 : ((⟨b, off, some s⟩ : Addr).add (0 * C)).add 0 = ⟨b, off, some s⟩ := by simp [Addr.add]
          rw [e0] at h0
          have : w.cell? ⟨b, off, some s⟩ = none := by unfold World.cell?; split <;> simp
          rw [this] at h0
          have hlt : (cf l[0])[0]? = some ((cf l[0])[0]'(by rw [hcf]; exact hpos)) := List.getElem?_eq_getElem _
          rw [hlt] at h0; cases h0
      subst hsp
      have hadd : ∀ off m, (⟨b, off, none⟩ : Addr).add m = ⟨b, off + m, none⟩ := by
        intro off m; unfold Addr.add; split
        · rename_i e; rw [e]; rfl
        · rfl
      refine ⟨b, off, rfl, ?_, fun j hj => ?_⟩
      · have h1 := (hp k hk).2 0 hpos
        have hlt : (cf l[k])[0]? = some ((cf l[k])[0]'(by rw [hcf]; exact hpos)) := List.getElem?_eq_getElem _
        rw [hlt] at h1
        exact World.block_lt_of_cell? w _ (by rw [hadd, hadd] at h1; exact h1)
      · rw [← (hp k hk).2 j hj, hadd, hadd]
    · obtain ⟨k, hk, rfl⟩ := List.mem_iff_getElem.1 hy
      exact (hp k hk).1
theorem trod_cap2 {t e : TypeId} {a : Option Addr} {len cap : Nat} {d : DataW H} {ps : List MemPlace} (ht : P.underlying t = some (.slice e))
    (h : DataW.Trod enc P w base spare held t (.slice a len cap) d ps) : (a = none → cap = 0) ∧ cap ≤ maxLen := by
  obtain ⟨fuel, hf⟩ := h
  rcases open_slice ht hf with ⟨h0, _⟩ | ⟨_, _, _, _, _, _, _, h0, _, _, h2, _⟩
  · simp [Value.cells] at h0; unfold maxLen; omega
  · simp [Value.cells] at h0
    exact ⟨fun e => by rw [e] at h0; simp at h0, by omega⟩
theorem xs_at {γ : Type} {xs : List γ} {n j : Nat} (h : xs.length = n) (hj : j < n) : ∃ y, xs[j]? = some y := ⟨xs[j]'(by omega), List.getElem?_eq_getElem _⟩
/-- A slice's reading begins with a slice. -/
theorem cs_slice {t e : TypeId} {n : Nat} {cs : List Value} {y : DataW H × List MemPlace} (ht : P.underlying t = some (.slice e)) (h : DataW.trod enc P w base spare held n t cs = some y) : ∃ a len cap, cs = [.slice a len cap] ∧ DataW.Trod enc P w base spare held t (.slice a len cap) y.1 y.2 := by
  rcases open_slice ht h with ⟨h0, _⟩ | ⟨x, l, c, m, n', D, Pl, hcs, _⟩
  · exact ⟨none, 0, 0, h0, n, by rw [h0] at h; exact h⟩
  · exact ⟨some x, l, c, hcs, n, by rw [hcs] at h; exact h⟩
end
end Go.Proofs.YtehjalgogjkdlaaDoor

namespace Go.Proofs.YtehjalgogjkdlaaDoor
set_option linter.unusedVariables false
set_option linter.unusedSimpArgs false
open Go.RowKit Go.ChangeShapes Go.WideShapes Go.Deep

structure UR where
  id : ByteArray
  tn : ByteArray
  fn : ByteArray
  per : Int
  us : Us
  fl : Bool
structure OpU where
  k : Int
  r : UR
  p : Int
def usC (u : Us) : List Value := [.int .i64 u.inv, .int .i64 u.steps, .int .i64 u.ticks, .int .i64 u.units]
def urC (r : UR) : List Value := [.string r.id, .string r.tn, .string r.fn, .int .i64 r.per, .int .i64 r.us.inv, .int .i64 r.us.steps, .int .i64 r.us.ticks, .int .i64 r.us.units, .bool r.fl]
def opC (o : OpU) : List Value := [.int .i64 o.k, .string o.r.id, .string o.r.tn, .string o.r.fn, .int .i64 o.r.per, .int .i64 o.r.us.inv, .int .i64 o.r.us.steps, .int .i64 o.r.us.ticks, .int .i64 o.r.us.units, .bool o.r.fl, .int .i64 o.p]
def Us.good (u : Us) : Prop := (Lit.int .i64 u.inv).wf = true ∧ (Lit.int .i64 u.steps).wf = true ∧ (Lit.int .i64 u.ticks).wf = true ∧ (Lit.int .i64 u.units).wf = true
def UR.good (r : UR) : Prop := r.id.size ≤ maxLen ∧ r.tn.size ≤ maxLen ∧ r.fn.size ≤ maxLen ∧ (Lit.int .i64 r.per).wf = true ∧ r.us.good
def OpU.good (o : OpU) : Prop := (Lit.int .i64 o.k).wf = true ∧ o.r.good ∧ (Lit.int .i64 o.p).wf = true
theorem urC_len (r : UR) : (urC r).length = 9 := rfl
theorem opC_len (r : OpU) : (opC r).length = 11 := rfl

section
variable {H : Type} {enc : TypeId × Value → H} {w : World} {base : Nat} {spare : Nat → Bool} {held : Bool}
theorem cells_int : Tryd.prog.cellsOf 3 = 1 := by kernel_rfl
theorem cells_str : Tryd.prog.cellsOf 9 = 1 := by kernel_rfl
theorem cells_bool : Tryd.prog.cellsOf 4 = 1 := by kernel_rfl
theorem cells_us : Tryd.prog.cellsOf 48 = 4 := by kernel_rfl
theorem cells_ur : Tryd.prog.cellsOf 50 = 9 := by kernel_rfl
theorem dec_us (n : Nat) (cs : List Value) (y : DataW H × List MemPlace) (h : DataW.trod enc Tryd.prog w base spare held n 48 cs = some y) : ∃ u : Us, u.good ∧ cs = usC u := by
  obtain ⟨xs, n', _, _, hl, hx, hf⟩ := DataW.trod_struct Tryd.underlying48 h
  rw [cells_us] at hl
  have h0 := hf 0 _ rfl
  have h1 := hf 1 _ rfl
  have h2 := hf 2 _ rfl
  have h3 := hf 3 _ rfl
  simp only [List.getElem_toArray, List.getElem_cons_zero, List.getElem_cons_succ] at h0 h1 h2 h3
  obtain ⟨y0, q0⟩ := xs_at (j := 0) hx (by decide)
  obtain ⟨y1, q1⟩ := xs_at (j := 1) hx (by decide)
  obtain ⟨y2, q2⟩ := xs_at (j := 2) hx (by decide)
  obtain ⟨y3, q3⟩ := xs_at (j := 3) hx (by decide)
  rw [q0] at h0
  rw [q1] at h1
  rw [q2] at h2
  rw [q3] at h3
  obtain ⟨a0, e0, _, w0⟩ := DataW.trod_int Tryd.underlying3 h0
  obtain ⟨a1, e1, _, w1⟩ := DataW.trod_int Tryd.underlying3 h1
  obtain ⟨a2, e2, _, w2⟩ := DataW.trod_int Tryd.underlying3 h2
  obtain ⟨a3, e3, _, w3⟩ := DataW.trod_int Tryd.underlying3 h3
  simp only [cells_int] at e0 e1 e2 e3
  clear hf h0 h1 h2 h3 h
  match cs, hl with
  | [c0, c1, c2, c3], _ =>
    simp at e0 e1 e2 e3
    subst e0 e1 e2 e3
    exact ⟨⟨a0, a1, a2, a3⟩, ⟨w0, w1, w2, w3⟩, rfl⟩
theorem dec_ur (n : Nat) (cs : List Value) (y : DataW H × List MemPlace) (h : DataW.trod enc Tryd.prog w base spare held n 50 cs = some y) : ∃ u : UR, u.good ∧ cs = urC u := by
  obtain ⟨xs, n', _, _, hl, hx, hf⟩ := DataW.trod_struct Tryd.underlying50 h
  rw [cells_ur] at hl
  have h0 := hf 0 _ rfl
  have h1 := hf 1 _ rfl
  have h2 := hf 2 _ rfl
  have h3 := hf 3 _ rfl
  have h4 := hf 4 _ rfl
  have h5 := hf 5 _ rfl
  simp only [List.getElem_toArray, List.getElem_cons_zero, List.getElem_cons_succ] at h0 h1 h2 h3 h4 h5
  obtain ⟨y0, q0⟩ := xs_at (j := 0) hx (by decide)
  obtain ⟨y1, q1⟩ := xs_at (j := 1) hx (by decide)
  obtain ⟨y2, q2⟩ := xs_at (j := 2) hx (by decide)
  obtain ⟨y3, q3⟩ := xs_at (j := 3) hx (by decide)
  obtain ⟨y4, q4⟩ := xs_at (j := 4) hx (by decide)
  obtain ⟨y5, q5⟩ := xs_at (j := 5) hx (by decide)
  rw [q0] at h0
  rw [q1] at h1
  rw [q2] at h2
  rw [q3] at h3
  rw [q4] at h4
  rw [q5] at h5
  obtain ⟨a0, e0, _, w0⟩ := DataW.trod_string Tryd.underlying9 h0
  obtain ⟨a1, e1, _, w1⟩ := DataW.trod_string Tryd.underlying9 h1
  obtain ⟨a2, e2, _, w2⟩ := DataW.trod_string Tryd.underlying9 h2
  obtain ⟨a3, e3, _, w3⟩ := DataW.trod_int Tryd.underlying3 h3
  obtain ⟨a4, w4, e4⟩ := dec_us _ _ _ h4
  obtain ⟨a5, e5, _⟩ := DataW.trod_bool Tryd.underlying4 h5
  simp only [cells_int, cells_str, cells_bool, cells_us, usC] at e0 e1 e2 e3 e4 e5
  clear hf h0 h1 h2 h3 h4 h5 h
  match cs, hl with
  | [c0, c1, c2, c3, c4, c5, c6, c7, c8], _ =>
    simp at e0 e1 e2 e3 e4 e5
    obtain ⟨rfl, rfl, rfl, rfl⟩ := e4
    subst e0 e1 e2 e3 e5
    exact ⟨⟨a0, a1, a2, a3, a4, a5⟩, ⟨w0, w1, w2, w3, w4⟩, rfl⟩
set_option maxRecDepth 100000 in
theorem open_UR {r : Reach} {b0 : Nat} {v : Value} {d : DataW H} {ps : List MemPlace} (hv : Value.okWide Tryd.prog w r b0 50 v) (h : DataW.Trod enc Tryd.prog w base spare held 50 v d ps) : ∃ x : UR, v = .agg (urC x).toArray ∧ x.good :=
  open_stN urC UR.good Tryd.underlying50 dec_ur hv h
end
end Go.Proofs.YtehjalgogjkdlaaDoor

namespace Go.Proofs.YtehjalgogjkdlaaDoor
set_option linter.unusedVariables false
set_option linter.unusedSimpArgs false
open Go.RowKit

def eqU (a b : Us) : Bool := a.inv == b.inv && a.steps == b.steps && a.ticks == b.ticks && a.units == b.units
def eqR (a b : UR) : Bool := a.id == b.id && a.tn == b.tn && a.fn == b.fn && a.per == b.per && eqU a.us b.us && a.fl == b.fl
theorem eqU_iff {a b : Us} : eqU a b = true ↔ a = b := by
  obtain ⟨a1, a2, a3, a4⟩ := a
  obtain ⟨b1, b2, b3, b4⟩ := b
  simp [eqU, and_assoc]
theorem eqR_iff {a b : UR} : eqR a b = true ↔ a = b := by
  obtain ⟨a1, a2, a3, a4, a5, a6⟩ := a
  obtain ⟨b1, b2, b3, b4, b5, b6⟩ := b
  simp [eqR, eqU_iff, and_assoc]
def urV (r : UR) : Value := .agg #[.string r.id, .string r.tn, .string r.fn, .int .i64 r.per, .int .i64 r.us.inv, .int .i64 r.us.steps, .int .i64 r.us.ticks, .int .i64 r.us.units, .bool r.fl]
theorem structUs : Tryd.prog.underlying 48 = some (.struct (Tryd.prog.fieldsOf 48)) := by kernel_rfl
theorem structUr : Tryd.prog.underlying 50 = some (.struct (Tryd.prog.fieldsOf 50)) := by kernel_rfl
theorem heldUs : Tryd.prog.stoodInHeld 48 = false := by kernel_rfl
theorem heldUr : Tryd.prog.stoodInHeld 50 = false := by kernel_rfl
theorem listS (a b : ByteArray) : a.toList = b.toList ↔ a = b := by
  have := beq_toListBytes a b
  constructor
  · intro h
    rw [h] at this
    simpa using this
  · rintro rfl
    rfl
set_option maxRecDepth 100000 in
set_option maxHeartbeats 4000000 in
theorem eqlU_in (d : Nat) (a b : Us) (w : World) : (Op.equalIn (d + 2) 48 (usV a) (usV b)).run Tryd.prog w = .ok (eqU a b) w := by
  obtain ⟨a1, a2, a3, a4⟩ := a
  obtain ⟨b1, b2, b3, b4⟩ := b
  simp only [usV, eqU]
  rw [show d + 2 = (d + 1) + 1 from rfl, run_equalIn_struct w (d + 1) 48 _ _ structUs heldUs]
  simp only [Program.fieldsOf, Tryd.underlying48]
  go_simp
  by_cases h1 : a1 = b1 <;> by_cases h2 : a2 = b2 <;> by_cases h3 : a3 = b3 <;> by_cases h4 : a4 = b4 <;> simp [h1, h2, h3, h4]
theorem eqlU (a b : Us) (w : World) : (binOp .eql 48 (usV a) (usV b)).run Tryd.prog w = .ok (.bool (eqU a b)) w := by
  unfold usV
  rw [run_eql_struct]
  have := eqlU_in 9998 a b w
  unfold usV at this
  rw [this]
  rfl
theorem neqU (a b : Us) (w : World) : (binOp .neq 48 (usV a) (usV b)).run Tryd.prog w = .ok (.bool (!eqU a b)) w := by
  unfold usV
  rw [run_neq_struct]
  have := eqlU_in 9998 a b w
  unfold usV at this
  rw [this]
  rfl
set_option maxRecDepth 100000 in
set_option maxHeartbeats 4000000 in
theorem eqlR_in (d : Nat) (a b : UR) (w : World) : (Op.equalIn (d + 3) 50 (urV a) (urV b)).run Tryd.prog w = .ok (eqR a b) w := by
  obtain ⟨a1, a2, a3, a4, a5, a6⟩ := a
  obtain ⟨b1, b2, b3, b4, b5, b6⟩ := b
  have hU := eqlU_in d a5 b5
  simp only [urV, eqR]
  obtain ⟨a51, a52, a53, a54⟩ := a5
  obtain ⟨b51, b52, b53, b54⟩ := b5
  simp only [usV] at hU ⊢
  generalize eqU _ _ = ub at *
  rw [show d + 3 = (d + 2) + 1 from rfl, run_equalIn_struct w (d + 2) 50 _ _ structUr heldUr]
  simp only [Program.fieldsOf, Tryd.underlying50]
  go_simp
  cases h1 : a1 == b1 <;> cases h2 : a2 == b2 <;> cases h3 : a3 == b3 <;> cases h4 : a4 == b4 <;> cases ub <;> cases h6 : a6 == b6 <;> simp [hU, listS] <;> simp_all
theorem eqlR (a b : UR) (w : World) : (binOp .eql 50 (urV a) (urV b)).run Tryd.prog w = .ok (.bool (eqR a b)) w := by
  unfold urV
  rw [run_eql_struct]
  have := eqlR_in 9997 a b w
  unfold urV at this
  rw [this]
  rfl
theorem neqR (a b : UR) (w : World) : (binOp .neq 50 (urV a) (urV b)).run Tryd.prog w = .ok (.bool (!eqR a b)) w := by
  unfold urV
  rw [run_neq_struct]
  have := eqlR_in 9997 a b w
  unfold urV at this
  rw [this]
  rfl
end Go.Proofs.YtehjalgogjkdlaaDoor

namespace Go.Proofs.YtehjalgogjkdlaaDoor
set_option linter.unusedVariables false
set_option linter.unusedSimpArgs false
section
variable {α : Type} {kf : α → ByteArray}

theorem lookL_key {l : List α} {k : ByteArray} {x : α} (h : lookL kf l k = some x) : kf x = k := by
  have := List.find?_some h
  simpa using this
theorem lookL_mem {l : List α} {k : ByteArray} {x : α} (h : lookL kf l k = some x) : x ∈ l := List.mem_of_find?_eq_some h
theorem lookL_of_mem {l : List α} {x : α} (hd : (l.map kf).Nodup) (hx : x ∈ l) : lookL kf l (kf x) = some x := by
  induction l with
  | nil => cases hx
  | cons y l ih =>
    simp only [List.map_cons, List.nodup_cons] at hd
    unfold lookL at ih ⊢
    rcases List.mem_cons.1 hx with rfl | hx'
    · simp
    · have : kf y ≠ kf x := fun e => hd.1 (by rw [e]; exact List.mem_map.2 ⟨x, hx', rfl⟩)
      rw [List.find?_cons_of_neg (by simpa using this)]
      exact ih hd.2 hx'
theorem lookL_none {l : List α} {k : ByteArray} : lookL kf l k = none ↔ ∀ x ∈ l, kf x ≠ k := by
  unfold lookL; rw [List.find?_eq_none]; simp
theorem lookL_eq_some {l : List α} {k : ByteArray} {x : α} (hd : (l.map kf).Nodup) : lookL kf l k = some x ↔ x ∈ l ∧ kf x = k :=
  ⟨fun h => ⟨lookL_mem h, lookL_key h⟩, fun ⟨h1, h2⟩ => h2 ▸ lookL_of_mem hd h1⟩

theorem nodup_filter {l : List α} (p : α → Bool) (hd : (l.map kf).Nodup) : ((l.filter p).map kf).Nodup := List.Sublist.nodup (List.Sublist.map _ List.filter_sublist) hd

theorem lookL_filter {l : List α} (p : α → Bool) (k : ByteArray) (hd : (l.map kf).Nodup) : lookL kf (l.filter p) k = (lookL kf l k).filter p := by
  cases h : lookL kf l k with
  | none =>
    rw [lookL_none] at h
    exact lookL_none.2 fun x hx => h x (List.mem_filter.1 hx).1
  | some x =>
    have hx := (lookL_eq_some hd).1 h
    cases hp : p x with
    | true => simp only [Option.filter, hp, if_true]; exact (lookL_eq_some (nodup_filter p hd)).2 ⟨List.mem_filter.2 ⟨hx.1, hp⟩, hx.2⟩
    | false =>
      simp only [Option.filter, hp]
      refine lookL_none.2 fun y hy e => ?_
      have hy' := List.mem_filter.1 hy
      have := lookL_of_mem hd hy'.1
      rw [e, h] at this
      cases this
      rw [hp] at hy'; cases hy'.2

theorem lookL_putL_same {l : List α} (x : α) : lookL kf (putL kf l x) (kf x) = some x := by
  unfold putL
  split
  · rename_i h
    simp only [List.any_eq_true, beq_iff_eq] at h
    obtain ⟨y, hy, he⟩ := h
    unfold lookL
    induction l with
    | nil => cases hy
    | cons z l ih =>
      by_cases hz : kf z = kf x
      · simp [hz]
      · rcases List.mem_cons.1 hy with rfl | hy'
        · exact absurd he hz
        · have := ih hy'
          simp only [List.map_cons, hz, beq_iff_eq, if_false]
          rw [List.find?_cons_of_neg (by simpa using hz)]
          simpa using this
  · rename_i h
    simp only [List.any_eq_true, beq_iff_eq, not_exists, not_and] at h
    unfold lookL
    rw [List.find?_append, List.find?_eq_none.2 (by intro y hy; simpa using h y hy)]
    simp
theorem lookL_putL_other {l : List α} {x : α} {k : ByteArray} (hne : k ≠ kf x) : lookL kf (putL kf l x) k = lookL kf l k := by
  unfold putL
  split
  · unfold lookL
    induction l with
    | nil => rfl
    | cons z l ih =>
      rename_i h
      have ih' : List.find? (fun a => kf a == k) (List.map (fun y => if (kf y == kf x) = true then x else y) l) = List.find? (fun a => kf a == k) l := by
        clear h ih
        induction l with
        | nil => rfl
        | cons u l ih =>
          by_cases hu : kf u = kf x
          · simp only [List.map_cons, hu, beq_self_eq_true, if_true]
            rw [List.find?_cons_of_neg (by simpa using hne.symm), List.find?_cons_of_neg (by simpa [hu] using hne.symm)]
            exact ih
          · simp only [List.map_cons, hu, beq_iff_eq, if_false]
            by_cases huk : kf u = k
            · simp [huk]
            · rw [List.find?_cons_of_neg (by simpa using huk), List.find?_cons_of_neg (by simpa using huk)]
              simpa using ih
      by_cases hz : kf z = kf x
      · simp only [List.map_cons, hz, beq_self_eq_true, if_true]
        rw [List.find?_cons_of_neg (by simpa using hne.symm), List.find?_cons_of_neg (by simpa [hz] using hne.symm)]
        exact ih'
      · simp only [List.map_cons, hz, beq_iff_eq, if_false]
        by_cases hzk : kf z = k
        · simp [hzk]
        · rw [List.find?_cons_of_neg (by simpa using hzk), List.find?_cons_of_neg (by simpa using hzk)]
          simpa using ih'
  · unfold lookL
    rw [List.find?_append]
    have : List.find? (fun a => kf a == k) [x] = none := by simp [hne.symm]
    rw [this]; simp
theorem lookL_delL_other {l : List α} {s k : ByteArray} (hne : k ≠ s) (hd : (l.map kf).Nodup) : lookL kf (delL kf l s) k = lookL kf l k := by
  unfold delL
  rw [lookL_filter _ _ hd]
  cases h : lookL kf l k with
  | none => rfl
  | some x =>
    have := lookL_key h
    simp [Option.filter, this, hne]
theorem lookL_delL_same {l : List α} {s : ByteArray} : lookL kf (delL kf l s) s = none := by
  refine lookL_none.2 fun x hx => ?_
  have := (List.mem_filter.1 hx).2
  simpa using this

theorem putL_length {l : List α} {x : α} : (putL kf l x).length = if (lookL kf l (kf x)).isSome then l.length else l.length + 1 := by
  unfold putL lookL
  by_cases h : l.any (fun y => kf y == kf x) = true
  · have h' : ∃ y ∈ l, (kf y == kf x) = true := by simpa using h
    rw [if_pos h, if_pos (List.find?_isSome.2 h'), List.length_map]
  · have h' : ¬ ∃ y ∈ l, (kf y == kf x) = true := by simpa using h
    rw [if_neg h, if_neg (fun e => h' (List.find?_isSome.1 e)), List.length_append, List.length_singleton]
theorem putL_new {l : List α} {x : α} (h : lookL kf l (kf x) = none) : putL kf l x = l ++ [x] := by
  unfold putL
  rw [if_neg]
  simp only [List.any_eq_true, beq_iff_eq, not_exists, not_and]
  exact fun y hy => lookL_none.1 h y hy
end
end Go.Proofs.YtehjalgogjkdlaaDoor

namespace Go.Proofs.YtehjalgogjkdlaaDoor
set_option linter.unusedVariables false
set_option linter.unusedSimpArgs false
open Go.RowKit

structure CR where
  r : UR
  p : Int
def crC (c : CR) : List Value := [.string c.r.id, .string c.r.tn, .string c.r.fn, .int .i64 c.r.per, .int .i64 c.r.us.inv, .int .i64 c.r.us.steps, .int .i64 c.r.us.ticks, .int .i64 c.r.us.units, .bool c.r.fl, .int .i64 c.p]
def crV (c : CR) : Value := .agg #[.string c.r.id, .string c.r.tn, .string c.r.fn, .int .i64 c.r.per, .int .i64 c.r.us.inv, .int .i64 c.r.us.steps, .int .i64 c.r.us.ticks, .int .i64 c.r.us.units, .bool c.r.fl, .int .i64 c.p]
theorem crLen (c : CR) : (crC c).length = 10 := rfl
theorem crOne (c : CR) : ∀ u ∈ crC c, u.oneCell' = true := by
  intro u hu; simp only [crC, List.mem_cons, List.not_mem_nil, or_false] at hu
  rcases hu with rfl | rfl | rfl | rfl | rfl | rfl | rfl | rfl | rfl | rfl <;> rfl
structure Led where
  l : List CR
  p : Int
/-- Identifiers with their places. -/
def idxFrom (n : Nat) : List CR → List (ByteArray × Int)
  | [] => []
  | c :: l => (c.r.id, (n : Int)) :: idxFrom (n + 1) l
def plV (x : ByteArray × Int) : Value := .int .i64 x.2
/-- The ledger at block b: its map mb, its slice v. -/
def LIs (w : World) (b mb : Nat) (v : Value) (s : Led) : Prop :=
  w.heap[b]? = some (.cells #[v, .map (some mb), .int .i64 s.p] 78 (0, 0)) ∧ MapIs Prod.fst plV w mb (idxFrom 0 s.l) ∧ RowOf crC 10 w 0 82 v s.l
theorem row_block {α : Type} {cf : α → List Value} {sz : Nat} {w : World} {base : Nat} {e : TypeId} {v : Value} {l : List α} (h : RowOf cf sz w base e v l) {g : Nat} (hg : v.ownBlock = some g) : ∃ cur, w.heap[g]? = some (.cells cur e (0, 0)) := by
  rcases h.2 with ⟨h2, _⟩ | ⟨g', cap, cur, hv, _, hh, _⟩
  · rw [h2] at hg; cases hg
  · rw [hv] at hg
    cases hg
    exact ⟨cur, hh⟩
def lfp (b mb : Nat) (v : Value) : List Nat := b :: mb :: v.ownBlock.toList
variable {w w' : World} {b mb : Nat} {v : Value} {s : Led}
theorem mem_lfp {x : Nat} : x ∈ lfp b mb v ↔ x = b ∨ x = mb ∨ v.ownBlock = some x := by
  unfold lfp; simp
theorem LIs.lt (h : LIs w b mb v s) : ∀ x ∈ lfp b mb v, x < w.heap.size := by
  intro x hx
  rcases mem_lfp.1 hx with rfl | rfl | hx
  · exact lt_of_heap h.1
  · exact h.2.1.lt
  · exact (h.2.2.block x hx).2
theorem LIs.kept {S : List Nat} (h : LIs w b mb v s) (hc : Chg S w w') (hS : ∀ x ∈ lfp b mb v, x ∉ S) : LIs w' b mb v s :=
  ⟨hc.at (hS _ (mem_lfp.2 (.inl rfl))) h.1, h.2.1.kept hc (hS _ (mem_lfp.2 (.inr (.inl rfl)))), h.2.2.kept hc (fun g hg => hS g (mem_lfp.2 (.inr (.inr hg))))⟩
theorem LIs.keptN (h : LIs w b mb v s) (hc : Chg [] w w') : LIs w' b mb v s := h.kept hc (by simp)
theorem LIs.apart (h : LIs w b mb v s) : b ≠ mb ∧ v.ownBlock ≠ some b ∧ v.ownBlock ≠ some mb := by
  refine ⟨fun e => ?_, fun e => ?_, fun e => ?_⟩
  · obtain ⟨es, c, hm, _⟩ := h.2.1
    rw [← e, h.1] at hm; cases hm
  · obtain ⟨cur, hh⟩ := row_block h.2.2 e
    rw [h.1] at hh; simp at hh
  · obtain ⟨cur, hh⟩ := row_block h.2.2 e
    obtain ⟨es, c, hm, _⟩ := h.2.1
    rw [hm] at hh; cases hh

theorem new_any (w : World) : Calls Tryd.prog 17 #[] w fun e w' => ∃ b mb, e = .returned (.pointer (some ⟨b, 0, none⟩)) ∧ LIs w' b mb (.slice none 0 0) ⟨[], 0⟩ ∧ w.heap.size ≤ b ∧ w.heap.size ≤ mb ∧ Chg [] w w' := by
  have hmm := @run_makeMap Tryd.prog
  go_enter Tryd.func17, Tryd.ntmps17
  go_wp2
  go_ret
  have hc : Chg [] w ((w.alloc (.map #[] 0)).alloc (.cells #[.slice none 0 0, .map (some w.heap.size), .int .i64 0] 78)) := ((Chg.refl _ _).alloc _).alloc _
  refine ⟨w.heap.size + 1, w.heap.size, rfl, ⟨?_, ?_, RowOf.nil _ _ _⟩, by omega, by omega, hc⟩
  · have := heap_alloc_new (w.alloc (.map #[] 0)) (.cells #[.slice none 0 0, .map (some w.heap.size), .int .i64 0] 78)
    rw [World.size_alloc] at this
    exact this
  · exact (mapIs_new (kf := Prod.fst) (vf := plV) w).kept (S := []) ((Chg.refl _ _).alloc _) (by simp)

theorem made_any (h : LIs w b mb v s) : Calls Tryd.prog 34 #[.pointer (some ⟨b, 0, none⟩)] w fun e w' => e = .returned (.bool true) ∧ w = w' := by
  have c := blk_cell h.1
  clear h
  have hm := fun w => run_neq_map_nil (P := Tryd.prog) w 75 9 3 (some mb) Tryd.underlying75
  go_enter Tryd.func34, Tryd.ntmps34
  go_wp2
  go_ret
  exact ⟨rfl, rfl⟩
def closeE (s : Led) (p : Int) : Int := if p < 0 ∨ 1073741824 ≤ p then 2 else if p ≠ s.p then 11 else 0
def closeS (s : Led) (p : Int) : Led := if p < 0 ∨ 1073741824 ≤ p then s else if p ≠ s.p then s else ⟨s.l, s.p + 1⟩
end Go.Proofs.YtehjalgogjkdlaaDoor

namespace Go.Proofs.YtehjalgogjkdlaaDoor
set_option linter.unusedVariables false
set_option linter.unusedSimpArgs false
open Go.RowKit

def letterB (c : Int) : Bool := smallB c || digitB c || (decide (65 ≤ c) && decide (c ≤ 90)) || c == 45 || c == 95 || c == 46 || c == 58 || c == 47
/-- Which strings are identifiers. -/
def idB (s : ByteArray) : Bool := s.data.toList.all (fun c => letterB c.toNat) && decide (1 ≤ s.size) && decide (s.size ≤ 64)

theorem letterB_high {c : Int} (h : 128 ≤ c) : letterB c = false := by simp [letterB, smallB, digitB]; omega
theorem letter_any (c : Int) (w : World) : Calls Tryd.prog 50 #[.int .i32 c] w fun e w' => e = .returned (.bool (letterB c)) ∧ w = w' := by
  go_enter Tryd.func50, Tryd.ntmps50
  go_wp2_with (first | (go_at_call 45; refine (small_any _ _).mono ?_; rintro e w' ⟨rfl, rfl⟩) | (go_at_call 46; refine (digit_any _ _).mono ?_; rintro e w' ⟨rfl, rfl⟩))
  all_goals
    go_ret
    refine ⟨retB ?_, rfl⟩
    first
      | (simp [letterB, smallB, digitB, *]; done)
      | (simp_all [letterB]; done)
      | (have h65 : decide (65 ≤ c) = false := by simp; omega
         simp only [letterB, h65]
         simp_all)

theorem all_take_succ (l : List UInt8) (f : UInt8 → Bool) (p : Nat) (h : p < l.length) : (l.take (p + 1)).all f = ((l.take p).all f && f l[p]) := by
  rw [List.take_succ_eq_append_getElem h, List.all_append]; simp

set_option maxHeartbeats 400000 in
theorem ID_any (s : ByteArray) (w : World) (hs : s.size ≤ maxLen) : Calls Tryd.prog 35 #[.string s] w fun e w' => e = .returned (.bool (idB s)) ∧ Below w.heap.size w w' := by
  unfold maxLen at hs
  go_enter Tryd.func35, Tryd.ntmps35
  go_wp2
  go_loopw [2] (fun r wr => ∃ p : Nat, wr = w.iter s p ∧ p ≤ s.size ∧ r = .bool false ∧ (s.data.toList.take p).all (fun c => letterB c.toNat) = true) (fun _ wr => s.size - wr.iterPos w.heap.size)
  case atStart => exact ⟨0, rfl, Nat.zero_le _, rfl, by simp⟩
  case round =>
    obtain ⟨p, rfl, hp, rfl, hall⟩ := hrel
    by_cases hlt : p < s.size
    · have hnx := fun ty => run_next_any (P := Tryd.prog) w s p ty hlt
      have Hall := Lib.hid hall; clear hall
      go_wp2_with (go_at_call 50; refine (letter_any _ _).mono ?_; rintro e w' ⟨rfl, rfl⟩)
      · go_ret
        refine ⟨?_, (Below.refl _ _).alloc (Nat.le_refl _) _⟩
        have hno : letterB (s[p]'hlt).toNat = false := by
          rcases decode_asc s p hlt with ⟨hd, _⟩ | ⟨hd, hb⟩
          · have : (!letterB ↑(Utf8.decode s p).fst) = true := by assumption
            rw [hd] at this; simpa using this
          · exact letterB_high (by omega)
        have : idB s = false := by
          have h1 := List.take_append_drop p s.data.toList
          have : s.data.toList.all (fun c => letterB c.toNat) = false := by
            rw [List.all_eq_false]
            exact ⟨s[p]'hlt, by simp [ByteArray.getElem_eq_getElem_data], by simpa using hno⟩
          simp [idB, this]
        exact retB this.symm
      · have hyes : letterB (Utf8.decode s p).fst = true := by
          have : (!letterB ↑(Utf8.decode s p).fst) = false := by assumption
          simpa using this
        rcases decode_asc s p hlt with ⟨hd, _⟩ | ⟨hd, hb⟩
        · rw [hd] at hyes
          go_roundw
          case rel =>
            refine ⟨p + 1, by rw [hd], by omega, rfl, ?_⟩
            rw [all_take_succ _ _ p (by simpa using hlt), Hall.out]
            simpa [ByteArray.getElem_eq_getElem_data] using hyes
          case measure => simp [hd]; omega
        · rw [letterB_high (by omega)] at hyes; cases hyes
    · have hnx := fun ty => run_next_end (P := Tryd.prog) w s p ty hlt
      have Hall := Lib.hid hall; clear hall
      go_wp2
      all_goals
        go_ret
        refine ⟨retB ?_, (Below.refl _ _).alloc (Nat.le_refl _) _⟩
        have h1 := Hall.out
        rw [List.take_of_length_le (by simp; omega)] at h1
        simp only [idB, h1, Bool.true_and]
        rw [Bool.eq_iff_iff]
        simp
        omega
end Go.Proofs.YtehjalgogjkdlaaDoor

namespace Go.Proofs.YtehjalgogjkdlaaDoor
set_option linter.unusedVariables false
set_option linter.unusedSimpArgs false
open Go.RowKit


end Go.Proofs.YtehjalgogjkdlaaDoor

namespace Go.Proofs.YtehjalgogjkdlaaDoor
set_option linter.unusedVariables false
set_option linter.unusedSimpArgs false
open Go.RowKit

def findC (l : List CR) (id : ByteArray) : Option CR := l.find? (fun c => c.r.id == id)
def checkR (r : UR) : Int := if (idB r.id && nameB r.tn && nameB r.fn) = true then (if r.per < 0 ∨ 1073741824 < r.per then 2 else if usB r.us = true then 0 else 2) else 4
def recE (s : Led) (r : UR) : Int := if checkR r = 0 then (match findC s.l r.id with | some c => if eqR c.r r = true then 0 else 19 | none => if s.l.length = 4000 then 3 else 0) else checkR r
def recS (s : Led) (r : UR) : Led := if checkR r = 0 then (match findC s.l r.id with | some _ => s | none => if s.l.length = 4000 then s else ⟨s.l ++ [⟨r, max r.per s.p⟩], s.p⟩) else s
theorem idx_none : ∀ (l : List CR) (n : Nat) (id : ByteArray), findC l id = none → lookL Prod.fst (idxFrom n l) id = none := by
  intro l
  induction l with
  | nil => intro n id _; rfl
  | cons c l ih =>
    intro n id h
    unfold findC at h
    rw [List.find?_cons] at h
    unfold idxFrom lookL
    rw [List.find?_cons]
    cases hc : c.r.id == id with
    | true => rw [hc] at h; simp at h
    | false =>
      rw [hc] at h
      simp only []
      exact ih (n + 1) id h
theorem idx_some : ∀ (l : List CR) (n : Nat) (id : ByteArray) (c : CR), findC l id = some c → ∃ i : Nat, lookL Prod.fst (idxFrom n l) id = some (c.r.id, ((n + i : Nat) : Int)) ∧ l[i]? = some c := by
  intro l
  induction l with
  | nil => intro n id c h; cases h
  | cons d l ih =>
    intro n id c h
    unfold findC at h
    rw [List.find?_cons] at h
    unfold idxFrom lookL
    rw [List.find?_cons]
    cases hc : d.r.id == id with
    | true =>
      rw [hc] at h
      simp only [Option.some.injEq] at h
      subst h
      exact ⟨0, rfl, rfl⟩
    | false =>
      rw [hc] at h
      simp only []
      obtain ⟨i, h1, h2⟩ := ih (n + 1) id c h
      refine ⟨i + 1, ?_, by simpa using h2⟩
      rw [show n + (i + 1) = n + 1 + i by omega]
      exact h1
theorem idx_snoc : ∀ (l : List CR) (n : Nat) (c : CR), idxFrom n l ++ [(c.r.id, ((n + l.length : Nat) : Int))] = idxFrom n (l ++ [c]) := by
  intro l
  induction l with
  | nil => intro n c; rfl
  | cons d l ih =>
    intro n c
    have := ih (n + 1) c
    simp only [idxFrom, List.cons_append, List.length_cons]
    rw [← this, show n + 1 + l.length = n + (l.length + 1) by omega]
theorem findC_key {l : List CR} {id : ByteArray} {c : CR} (h : findC l id = some c) : c.r.id = id := by
  have := List.find?_some h
  simpa using this
end Go.Proofs.YtehjalgogjkdlaaDoor

namespace Go.Proofs.YtehjalgogjkdlaaDoor
set_option linter.unusedVariables false
set_option linter.unusedSimpArgs false
open Go.RowKit
variable {w w' : World} {b mb : Nat} {v : Value} {s : Led}

theorem crInfo : (Tryd.prog.info? 82).map (fun i => (i.zero, i.size, i.bytes)) = some (some (.agg #[.string ⟨#[]⟩, .string ⟨#[]⟩, .string ⟨#[]⟩, .int .i64 0, .int .i64 0, .int .i64 0, .int .i64 0, .int .i64 0, .bool false, .int .i64 0]), 10, 104) := by kernel_rfl
theorem zeroI (w : World) : (zeroValue 3).run Tryd.prog w = .ok (.int .i64 0) w := by kernel_rfl
def RecPost (w : World) (b mb : Nat) (v : Value) (n : Int) (S : Led) (e : Ending) (w' : World) : Prop :=
  e = .returned (.int .i64 n) ∧ ∃ v', LIs w' b mb v' S ∧ (∀ g, v'.ownBlock = some g → v.ownBlock = some g ∨ w.heap.size ≤ g) ∧ Chg (lfp b mb v) w w'
theorem RecPost.same (h : LIs w b mb v s) (hc : Chg [] w w') (n : Int) : RecPost w b mb v n s (.returned (.int .i64 n)) w' := ⟨rfl, v, h.keptN hc, fun g hg => .inl hg, hc.mono (by simp)⟩

def urO (r : UR) : Obj := .cells #[.string r.id, .string r.tn, .string r.fn, .int .i64 r.per, .int .i64 r.us.inv, .int .i64 r.us.steps, .int .i64 r.us.ticks, .int .i64 r.us.units, .bool r.fl] 50

set_option maxHeartbeats 8000000 in
set_option maxRecDepth 100000 in
theorem rec_name (r : UR) (hg : r.good) (h : LIs w b mb v s) (hn : (idB r.id && nameB r.tn && nameB r.fn) = false) : Calls Tryd.prog 18 #[.pointer (some ⟨b, 0, none⟩), urV r] w (RecPost w b mb v 4 s) := by
  have H := Lib.hid h
  clear h
  have hbx := Lib.hid (heap_alloc_new w (urO r))
  have hC0 := Lib.hid (show Chg [] w (w.alloc (urO r)) from (Chg.refl _ _).alloc _)
  obtain ⟨W1, hW1⟩ : ∃ W1, W1 = w.alloc (urO r) := ⟨_, rfl⟩
  have k1 := blk_cell hbx.out
  rw [← hW1] at hbx hC0 k1
  unfold urO at hW1 hbx
  have HW1 := Lib.hid hW1
  have A1 := Lib.hid (fun w' => ID_any r.id w' hg.1)
  have A2 := Lib.hid (fun w' => name_any r.tn w' hg.2.1)
  have A3 := Lib.hid (fun w' => name_any r.fn w' hg.2.2.1)
  have M1 := Lib.hid (fun w' (hc : Chg [] w w') => made_any (H.out.keptN hc))
  clear hW1
  have hn' : (idB r.id = false) ∨ (idB r.id = true ∧ nameB r.tn = false) ∨ (idB r.id = true ∧ nameB r.tn = true ∧ nameB r.fn = false) := by
    cases h1 : idB r.id <;> cases h2 : nameB r.tn <;> cases h3 : nameB r.fn <;> simp_all
  clear hn
  unfold urV
  rcases hn' with h1 | ⟨h1, h2⟩ | ⟨h1, h2, h3⟩
  all_goals
    go_enter Tryd.func18, Tryd.ntmps18
    go_wp2_with (first | (rw [← HW1.out]; (go_at_call 34; (with_reducible refine (M1.out _ hC0.out).mono ?_); rintro e w1 ⟨rfl, rfl⟩)) | (go_at_call 35; (with_reducible refine (A1.out _).mono ?_); rw [h1]; rintro e w2 ⟨rfl, hc2⟩; have C2 := Lib.hid (hC0.out.thenSame (Chg.ofBelow hc2)); have B2 := Lib.hid ((Chg.ofBelow (S := []) hc2).at (by simp) hbx.out); have k2 := blk_cell B2.out; clear hc2) | (go_at_call 27; (with_reducible refine (A2.out _).mono ?_); rw [h2]; rintro e w3 ⟨rfl, hc3⟩; have C3 := Lib.hid (C2.out.thenSame hc3); have B3 := Lib.hid (hc3.at (by simp) B2.out); have k3 := blk_cell B3.out; clear hc3) | (go_at_call 27; (with_reducible refine (A3.out _).mono ?_); rw [h3]; rintro e w4 ⟨rfl, hc4⟩; have C4 := Lib.hid (C3.out.thenSame hc4); clear hc4))
    go_ret
    first | exact RecPost.same H.out C2.out _ | exact RecPost.same H.out C3.out _ | exact RecPost.same H.out C4.out _
theorem retN {R : World → Nat → Nat → Value → Int → Led → Ending → World → Prop} {n m : Int} {S : Led} {e : Ending} (h : n = m) (k : R w b mb v n S e w') : R w b mb v m S e w' := h ▸ k
set_option maxHeartbeats 8000000 in
set_option maxRecDepth 100000 in
theorem rec_range (r : UR) (hg : r.good) (h : LIs w b mb v s) (hn : (idB r.id && nameB r.tn && nameB r.fn) = true) (hr : (r.per < 0 ∨ 1073741824 < r.per) ∨ usB r.us = false) : Calls Tryd.prog 18 #[.pointer (some ⟨b, 0, none⟩), urV r] w (RecPost w b mb v 2 s) := by
  have H := Lib.hid h
  clear h
  have hbx := Lib.hid (heap_alloc_new w (urO r))
  have hC0 := Lib.hid (show Chg [] w (w.alloc (urO r)) from (Chg.refl _ _).alloc _)
  obtain ⟨W1, hW1⟩ : ∃ W1, W1 = w.alloc (urO r) := ⟨_, rfl⟩
  have k1 := blk_cell hbx.out
  rw [← hW1] at hbx hC0 k1
  unfold urO at hW1 hbx
  have HW1 := Lib.hid hW1
  have A1 := Lib.hid (fun w' => ID_any r.id w' hg.1)
  have A2 := Lib.hid (fun w' => name_any r.tn w' hg.2.1)
  have A3 := Lib.hid (fun w' => name_any r.fn w' hg.2.2.1)
  have M1 := Lib.hid (fun w' (hc : Chg [] w w') => made_any (H.out.keptN hc))
  clear hW1
  have A4 := Lib.hid (fun w' => mvalid_any r.us w')
  unfold usV at A4
  simp only [Bool.and_eq_true] at hn
  obtain ⟨⟨h1, h2⟩, h3⟩ := hn
  have hr' : (r.per < 0) ∨ (0 ≤ r.per ∧ 1073741824 < r.per) ∨ (0 ≤ r.per ∧ r.per ≤ 1073741824 ∧ usB r.us = false) := by
    by_cases q1 : r.per < 0
    · exact .inl q1
    · by_cases q2 : 1073741824 < r.per
      · exact .inr (.inl ⟨by omega, q2⟩)
      · exact .inr (.inr ⟨by omega, by omega, hr.resolve_left (by omega)⟩)
  clear hr hg
  unfold urV
  rcases hr' with q1 | ⟨q1, q2⟩ | ⟨q1, q2, h4⟩
  all_goals
    go_enter Tryd.func18, Tryd.ntmps18
    go_wp2_with (first | (rw [← HW1.out]; (go_at_call 34; (with_reducible refine (M1.out _ hC0.out).mono ?_); rintro e w1 ⟨rfl, rfl⟩)) | (go_at_call 35; (with_reducible refine (A1.out _).mono ?_); rw [h1]; rintro e w2 ⟨rfl, hc2⟩; have C2 := Lib.hid (hC0.out.thenSame (Chg.ofBelow hc2)); have B2 := Lib.hid ((Chg.ofBelow (S := []) hc2).at (by simp) hbx.out); have k2 := blk_cell B2.out; clear hc2) | (go_at_call 27; (with_reducible refine (A2.out _).mono ?_); rw [h2]; rintro e w3 ⟨rfl, hc3⟩; have C3 := Lib.hid (C2.out.thenSame hc3); have B3 := Lib.hid (hc3.at (by simp) B2.out); have k3 := blk_cell B3.out; clear hc3) | (go_at_call 27; (with_reducible refine (A3.out _).mono ?_); rw [h3]; rintro e w4 ⟨rfl, hc4⟩; have C4 := Lib.hid (C3.out.thenSame hc4); have B4 := Lib.hid (hc4.at (by simp) B3.out); have k4 := blk_cell B4.out; clear hc4) | (go_at_call 36; (with_reducible refine (A4.out _).mono ?_); rw [h4]; rintro e w5 ⟨rfl, hc5⟩; have C5 := Lib.hid (C4.out.thenSame hc5); clear hc5))
    go_ret
    first | exact RecPost.same H.out C4.out _ | exact RecPost.same H.out C5.out _
end Go.Proofs.YtehjalgogjkdlaaDoor
