/- Chapter 52: play. No condition. Chapter 52: the example that each statement checks: the states. No condition. Chapter 52: the example that each statement checks. No condition. Chapter 52: has; a part of a slice; a list of strings beside two ledgers. No condition. Chapter 53: contract of the reference: Split of a valid price. No condition. The reference's numbers: amount, result, Mul, Add, of numbers from 0 on. No condition. Chapter 54: contract: weighed. No condition. Chapter 54: contract: slices.Clone of ints that came in. No condition. Chapter 54: contract: invoice.Share, where it returns an error. No condition. -/
import Derived.Test.YtehjalgogjkdlaaGreatDoorZ20
import Derived.Test.YtehjalgogjkdlaaGreatDoorZ17
import Derived.Test.YtehjalgogjkdlaaGreatDoorZ14
import Derived.Test.YtehjalgogjkdlaaGreatDoorZ13
import Derived.Test.YtehjalgogjkdlaaGreatDoorZ11
import Derived.Test.YtehjalgogjkdlaaGreatDoorZ15
import Derived.Test.YtehjalgogjkdlaaGreatDoorZ12
import Derived.Test.YtehjalgogjkdlaaGreatDoorZ07
namespace Go.Proofs.YtehjalgogjkdlaaGreatDoor
set_option linter.unusedVariables false
set_option linter.unusedSimpArgs false
open Go.RowKit
variable {W w : World} {b : Nat} {s : Led} {K : List Nat → World → Prop}
theorem p_byf (sK : Side K) (h : Pair W w (JL b s) K) (tn fn : ByteArray) (p : Int) (hs : tn.size ≤ maxLen) (hs' : fn.size ≤ maxLen) (hl : s.l.length ≤ 4000) :
    Calls Tryz.prog 50 #[.pointer (some ⟨b, 0, none⟩), .string tn, .string fn, .int .i64 p] w fun e w' => e = .returned (.tuple #[usV (byU s tn fn p).1, usV (byU s tn fn p).2.1, .int .i64 (byU s tn fn p).2.2]) ∧ Chg [] w w' ∧ Pair W w' (JL b s) K := by
  obtain ⟨mb, v, h1⟩ := h.led
  refine (byf_any tn fn p h1 hs hs' hl).mono ?_
  rintro e w' ⟨rfl, hc⟩
  exact ⟨rfl, hc, h.keptN (sideL b s) sK hc⟩
theorem foldl_take {α β : Type} (f : β → α → β) (s : β) (l : List α) (k : Nat) (h : k < l.length) : (l.take (k + 1)).foldl f s = f ((l.take k).foldl f s) l[k] := by
  rw [List.take_succ_eq_append_getElem h, List.foldl_append]
  rfl
end Go.Proofs.YtehjalgogjkdlaaGreatDoor

namespace Go.Proofs.YtehjalgogjkdlaaGreatDoor
set_option linter.unusedVariables false
set_option linter.unusedSimpArgs false
open Go.RowKit
def awR (id fn : UInt8) (n : Int) : UR := ⟨⟨#[id]⟩, ⟨#[116]⟩, ⟨#[fn]⟩, 0, ⟨1, 1, 1, n⟩, false⟩
def as0 : Led := ⟨[], 0⟩
def as1 : Led := ⟨[⟨awR 97 102 3, 0⟩], 0⟩
def as2 : Led := ⟨[⟨awR 97 102 3, 0⟩, ⟨awR 98 103 4, 0⟩], 0⟩
def as3 : Led := ⟨[⟨awR 97 102 3, 0⟩, ⟨awR 98 103 4, 0⟩], 1⟩
theorem awE1 : recE as0 (awR 97 102 3) = 0 := by kernel_rfl
theorem awE2 : recE as1 (awR 98 103 4) = 0 := by kernel_rfl
theorem awE3 : recE as2 (awR 97 102 3) = 0 := by kernel_rfl
theorem awE4 : recE as2 (awR 97 102 4) = 19 := by kernel_rfl
theorem awS1 : recS as0 (awR 97 102 3) = as1 := by kernel_rfl
theorem awS2 : recS as1 (awR 98 103 4) = as2 := by kernel_rfl
theorem awS3 : recS as2 (awR 97 102 3) = as2 := by kernel_rfl
theorem awS4 : recS as2 (awR 97 102 4) = as2 := by kernel_rfl
theorem awT : totU as2 ⟨#[116]⟩ 0 = (⟨2, 2, 2, 7⟩, 0) := by kernel_rfl
theorem awF0 : fnL ⟨#[116]⟩ 0 as2.l = [[102], [103]] := by kernel_rfl
theorem awF : fnsU as2 ⟨#[116]⟩ 0 = [[102], [103]] := by
  unfold fnsU
  rw [awF0]
  have : ([[102], [103]] : List (List UInt8)).mergeSort leB = [[102], [103]] := by
    refine List.mergeSort_of_pairwise ?_
    simp [leB]
    decide
  have c : Lib.compact ([[102], [103]] : List (List UInt8)) = [[102], [103]] := by kernel_rfl
  rw [this, c]
theorem awC1 : closeE as2 0 = 0 := by kernel_rfl
theorem awD1 : closeS as2 0 = as3 := by kernel_rfl
theorem awC2 : closeE as3 0 = 11 := by kernel_rfl
theorem awD2 : closeS as3 0 = as3 := by kernel_rfl
theorem awG1 : (awR 97 102 3).good := ⟨by decide, by decide, by decide, by decide, by decide, by decide, by decide, by decide⟩
theorem awG2 : (awR 98 103 4).good := ⟨by decide, by decide, by decide, by decide, by decide, by decide, by decide, by decide⟩
theorem awG4 : (awR 97 102 4).good := ⟨by decide, by decide, by decide, by decide, by decide, by decide, by decide, by decide⟩
end Go.Proofs.YtehjalgogjkdlaaGreatDoor

namespace Go.Proofs.YtehjalgogjkdlaaGreatDoor
set_option linter.unusedVariables false
set_option linter.unusedSimpArgs false
open Go.RowKit
theorem aw_rec1 {W w : World} {b : Nat} (h : Pair W w (JL b as0) NoSide) : Calls Tryz.prog 33 #[.pointer (some ⟨b, 0, none⟩), .agg #[.string ⟨#[97]⟩, .string ⟨#[116]⟩, .string ⟨#[102]⟩, .int .i64 0, .int .i64 1, .int .i64 1, .int .i64 1, .int .i64 3, .bool false]] w fun e w' => e = .returned (.int .i64 0) ∧ Pair W w' (JL b as1) NoSide := by
  have := p_rec noSide h (awR 97 102 3) awG1 (by decide)
  rw [awE1, awS1] at this
  exact this
theorem aw_rec2 {W w : World} {b : Nat} (h : Pair W w (JL b as1) NoSide) : Calls Tryz.prog 33 #[.pointer (some ⟨b, 0, none⟩), .agg #[.string ⟨#[98]⟩, .string ⟨#[116]⟩, .string ⟨#[103]⟩, .int .i64 0, .int .i64 1, .int .i64 1, .int .i64 1, .int .i64 4, .bool false]] w fun e w' => e = .returned (.int .i64 0) ∧ Pair W w' (JL b as2) NoSide := by
  have := p_rec noSide h (awR 98 103 4) awG2 (by decide)
  rw [awE2, awS2] at this
  exact this
theorem aw_rec3 {W w : World} {b : Nat} (h : Pair W w (JL b as2) NoSide) : Calls Tryz.prog 33 #[.pointer (some ⟨b, 0, none⟩), .agg #[.string ⟨#[97]⟩, .string ⟨#[116]⟩, .string ⟨#[102]⟩, .int .i64 0, .int .i64 1, .int .i64 1, .int .i64 1, .int .i64 3, .bool false]] w fun e w' => e = .returned (.int .i64 0) ∧ Pair W w' (JL b as2) NoSide := by
  have := p_rec noSide h (awR 97 102 3) awG1 (by decide)
  rw [awE3, awS3] at this
  exact this
theorem aw_rec4 {W w : World} {b : Nat} (h : Pair W w (JL b as2) NoSide) : Calls Tryz.prog 33 #[.pointer (some ⟨b, 0, none⟩), .agg #[.string ⟨#[97]⟩, .string ⟨#[116]⟩, .string ⟨#[102]⟩, .int .i64 0, .int .i64 1, .int .i64 1, .int .i64 1, .int .i64 4, .bool false]] w fun e w' => e = .returned (.int .i64 19) ∧ Pair W w' (JL b as2) NoSide := by
  have := p_rec noSide h (awR 97 102 4) awG4 (by decide)
  rw [awE4, awS4] at this
  exact this
theorem aw_total {W w : World} {b : Nat} (h : Pair W w (JL b as2) NoSide) : Calls Tryz.prog 47 #[.pointer (some ⟨b, 0, none⟩), .string ⟨#[116]⟩, .int .i64 0] w fun e w' => e = .returned (.tuple #[.agg #[.int .i64 2, .int .i64 2, .int .i64 2, .int .i64 7], .int .i64 0]) ∧ Chg [] w w' ∧ Pair W w' (JL b as2) NoSide := by
  have := p_total noSide h ⟨#[116]⟩ 0 (by decide) (by decide)
  rw [awT] at this
  exact this
theorem aw_funcs {W w : World} {b : Nat} (h : Pair W w (JL b as2) NoSide) : Calls Tryz.prog 49 #[.pointer (some ⟨b, 0, none⟩), .string ⟨#[116]⟩, .int .i64 0] w fun e w' => ∃ a c, e = .returned (.slice a 2 c) ∧ SlIs kc 1 w' a 2 [[102], [103]] ∧ Chg [] w w' ∧ Pair W w' (JL b as2) NoSide := by
  have := p_funcs noSide h ⟨#[116]⟩ 0 (by decide)
  rw [awF] at this
  exact this
theorem aw_close1 {W w : World} {b : Nat} (h : Pair W w (JL b as2) NoSide) : Calls Tryz.prog 45 #[.pointer (some ⟨b, 0, none⟩), .int .i64 0] w fun e w' => e = .returned (.int .i64 0) ∧ Pair W w' (JL b as3) NoSide := by
  have := p_close noSide h 0
  rw [awC1, awD1] at this
  exact this
theorem aw_close2 {W w : World} {b : Nat} (h : Pair W w (JL b as3) NoSide) : Calls Tryz.prog 45 #[.pointer (some ⟨b, 0, none⟩), .int .i64 0] w fun e w' => e = .returned (.int .i64 11) ∧ Pair W w' (JL b as3) NoSide := by
  have := p_close noSide h 0
  rw [awC2, awD2] at this
  exact this
end Go.Proofs.YtehjalgogjkdlaaGreatDoor

namespace Go.Proofs.YtehjalgogjkdlaaGreatDoor
set_option linter.unusedVariables false
set_option linter.unusedSimpArgs false
open Go.RowKit
theorem wpl_slice_lh {P : Program} {k : Nat} {w : World} {ops : Array Oper} {rest : List Oper} {o : Oper} {a : Act} {Q : Exit → Act → World → Prop} (hgd : o.guard = none) (s l h : Operand) (t : TypeId) (ho : o.op = Op.slice t s (some l) (some h) none) (ht : P.underlying t = some (.slice (P.elem t)))
    (hsz : (sizeOf (P.elem t)).run P w = .ok k w) (g off n c m j : Nat) (hs : a.eval s = .slice (some ⟨g, off, none⟩) n c) (hl : a.eval l = .int .i64 (m : Int)) (hh : a.eval h = .int .i64 (j : Int)) (hm : m ≤ j) (hj : j ≤ c) (hne : m < c) (hK : wpList P ops Q rest (a.put o.dst (.slice (some ⟨g, off + m * k, none⟩) (j - m) (c - m))) w) : wpList P ops Q (o :: rest) a w := by
  refine wpList_plain hgd fun K' hK' => ?_
  have hrun := run_slice_lh (P := P) (w := w) t (some ⟨g, off, none⟩) n c ht .i64 .i64 (m : Int) (j : Int) (by omega) (by omega) (by omega)
  rw [hsz] at hrun
  simp only [Result.andThen, sliced, Int.toNat_natCast, Option.map_some, addr_none] at hrun
  rw [if_neg (show ¬ c = m by omega)] at hrun
  rw [← run_sliceAt_slice (P := P) (h := ht)] at hrun
  unfold Oper.wp
  simp [execOp, ho, hs, hl, hh, hrun, Result.andThen]
  exact hK' _ _ hK
theorem wpl_slice_one {P : Program} {k : Nat} {w : World} {ops : Array Oper} {rest : List Oper} {o : Oper} {a : Act} {Q : Exit → Act → World → Prop} (hgd : o.guard = none) (s l h : Operand) (t : TypeId) (ho : o.op = Op.slice t s (some l) (some h) none) (ht : P.underlying t = some (.slice (P.elem t)))
    (hsz : (sizeOf (P.elem t)).run P w = .ok k w) (g off n c m : Nat) (hs : a.eval s = .slice (some ⟨g, off, none⟩) n c) (hl : a.eval l = .int .i64 (m : Int)) (hh : a.eval h = .int .i64 ((m : Int) + 1)) (hj : m + 1 ≤ c) (hK : wpList P ops Q rest (a.put o.dst (.slice (some ⟨g, off + m * k, none⟩) 1 (c - m))) w) : wpList P ops Q (o :: rest) a w := by
  refine wpl_slice_lh hgd s l h t ho ht hsz g off n c m (m + 1) hs hl (by rw [hh]; rfl) (by omega) hj (by omega) ?_
  rw [show m + 1 - m = 1 by omega]
  exact hK
/-- One element as a slice. -/
theorem SlIs.one {α : Type} {cf : α → List Value} {sz : Nat} {w : World} {g off n : Nat} {l : List α} (h : SlIs cf sz w (some ⟨g, off, Option.none⟩) n l) (k : Nat) (hk : k < l.length) : SlIs cf sz w (some ⟨g, off + k * sz, Option.none⟩) 1 [l[k]] := by
  refine ⟨rfl, fun j hj => ?_⟩
  have hj0 : j = 0 := by simpa using hj
  subst hj0
  obtain ⟨b, o, h1, h2, h3⟩ := h.2 k hk
  cases h1
  exact ⟨g, off + k * sz, rfl, h2, fun i hi => by rw [Nat.zero_mul, Nat.add_zero]; exact h3 i hi⟩
section
variable {P : Program} {α : Type} {cf : α → List Value} {sz : Nat}
theorem wpl_appendL {w : World} {ops : Array Oper} {rest : List Oper} {o : Oper} {a : Act} {Q : Exit → Act → World → Prop} (hgd : o.guard = none) (s x : Operand) (t : TypeId)
    (ho : o.op = .call { callee := .builtin .append, args := #[s, x], argTypes := #[t, t] }) (base : Nat) (e : TypeId) (z : Value) (bytes : Nat) (ht : P.underlying t = some (.slice e)) (hi : (P.info? e).map (fun i => (i.zero, i.size, i.bytes)) = some (some z, sz, bytes))
    (hzs : z.cells.size = sz) (hsz : 0 < sz) (hc : ∀ x, (cf x).length = sz) (h1 : ∀ x, ∀ u ∈ cf x, u.oneCell' = true) (v : Value) (l : List α) (hs : a.eval s = v) (hown : RowOf cf sz w base e v l)
    (g c : Nat) (y : α) (cur : Array Value) (tt : TypeId) (fr : Nat × Nat) (hx : a.eval x = .slice (some ⟨g, 0, none⟩) 1 c) (hnew : w.heap[g]? = some (.cells cur tt fr)) (hcur : cur.toList = cf y) (h63 : l.length + 1 ≤ maxLen) (hbytes : (l.length + 1) * bytes ≤ 140737488355328) (hbase : base ≤ w.heap.size)
    (h : ∀ g' cap w', RowOf cf sz w' base e (.slice (some ⟨g', 0, none⟩) (l.length + 1) cap) (l ++ [y]) → w.grownBy w' v.ownBlock → (v.ownBlock = some g' ∨ g' = w.heap.size) → g' < w'.heap.size → wpList P ops Q rest (a.put o.dst (.slice (some ⟨g', 0, none⟩) (l.length + 1) cap)) w') :
    wpList P ops Q (o :: rest) a w := by
  obtain ⟨i, hi0, hz0, hz1, hz2⟩ := info_parts hi
  refine wpList_append_lies w hgd s x t ho base e i z sz bytes ht hi0 hz0 hz1 hz2 hzs hsz v l.length (l.flatMap cf) hs hown ⟨g, 0, none⟩ 1 c (cf y) hx (by rw [hc]; omega) ?_ (h1 y) (by omega) h63 hbytes hbase w.heap.size rfl ?_
  · intro j u hj
    have : (⟨g, 0, none⟩ : Addr).add j = ⟨g, j, none⟩ := by
      unfold Addr.add; split
      · rename_i e; rw [e]
      · simp
    rw [this, blk_cell hnew, ← Array.getElem?_toList, hcur]; exact hj
  · intro g' cap w' hown' hg hat hlt
    exact h g' cap w' (by unfold RowOf; simpa using hown') hg hat hlt
end
/-- A list of strings of the call's own, as a side. -/
def RowS (v : Value) (l : List (List UInt8)) : List Nat → World → Prop := fun f w => f = v.ownBlock.toList ∧ RowOf kc 1 w 0 9 v l
theorem rowSide (v : Value) (l : List (List UInt8)) : Side (RowS v l) := by
  constructor
  · rintro f w ⟨rfl, h⟩ x hx
    exact (h.block x (by simpa using hx)).2
  · rintro f S w w' ⟨rfl, h⟩ hc hS
    exact ⟨rfl, h.kept hc (fun g hg => hS g (by simp [hg]))⟩
variable {W w w' : World} {J K M M' : List Nat → World → Prop}
theorem Pair.comm (h : Pair W w J (AndSide K M)) : Pair W w J (AndSide M K) := by
  obtain ⟨f, g, h1, ⟨g1, g2, rfl, k1, k2, k3⟩, h3, h4, h5, h6⟩ := h
  refine ⟨f, g2 ++ g1, h1, ⟨g2, g1, rfl, k2, k1, fun x hx hy => k3 x hy hx⟩, h3, ?_, ?_, h6⟩
  · intro x hx
    exact h4 x (by rcases List.mem_append.1 hx with h | h <;> simp [h])
  · intro x hx hy
    exact h5 x hx (by rcases List.mem_append.1 hy with h | h <;> simp [h])
theorem Pair.row {v : Value} {l : List (List UInt8)} (h : Pair W w J (AndSide K (RowS v l))) : RowOf kc 1 w 0 9 v l := by
  obtain ⟨f, g, h1, ⟨g1, g2, rfl, k1, ⟨_, k2⟩, k3⟩, _⟩ := h
  exact k2
theorem Pair.addRow (sJ : Side J) (sK : Side K) (h : Pair W w J K) : Pair W w J (AndSide K (RowS (.slice none 0 0) [])) := by
  obtain ⟨f, g, h1, h2, h3, h4, h5, h6⟩ := h
  exact ⟨f, g ++ [], h1, ⟨g, [], rfl, h2, ⟨rfl, RowOf.nil _ _ _⟩, by simp⟩, h3, by simpa using h4, by simpa using h5, h6⟩
theorem Pair.turnRow {v v' : Value} {l l' : List (List UInt8)} (sJ : Side J) (sK : Side K) (h : Pair W w J (AndSide K (RowS v l))) (hr : RowOf kc 1 w' 0 9 v' l') (hc : Chg v.ownBlock.toList w w') (hb : ∀ x, v'.ownBlock = some x → v.ownBlock = some x ∨ w.heap.size ≤ x) : Pair W w' J (AndSide K (RowS v' l')) := by
  have h' : Pair W w (RowS v l) (AndSide J K) := h.comm.swap
  refine Pair.comm (Pair.swap ?_)
  refine h'.turn (andSide sJ sK) ?_
  rintro f ⟨rfl, _⟩ _
  exact ⟨v'.ownBlock.toList, ⟨rfl, hr⟩, hc, fun x hx => by
    rcases hb x (by simpa using hx) with h | h
    · exact .inl (by simp [h])
    · exact .inr h⟩
theorem Pair.mid {N : List Nat → World → Prop} (h : Pair W w J (AndSide (AndSide K M) N)) : Pair W w J (AndSide (AndSide K N) M) := by
  obtain ⟨f, g, h1, ⟨g1, g2, rfl, ⟨g3, g4, rfl, k1, k2, k3⟩, k4, k5⟩, h3, h4, h5, h6⟩ := h
  refine ⟨f, (g3 ++ g2) ++ g4, h1, ⟨g3 ++ g2, g4, rfl, ⟨g3, g2, rfl, k1, k4, fun x hx hy => k5 x (by simp [hx]) hy⟩, k2, ?_⟩, h3, ?_, ?_, h6⟩
  · intro x hx hy
    rcases List.mem_append.1 hx with hx | hx
    · exact k3 x hx hy
    · exact k5 x (by simp [hy]) hx
  · intro x hx
    simp only [List.mem_append] at hx
    rcases hx with (hx | hx) | hx <;> exact h4 x (by simp [hx])
  · intro x hx hy
    simp only [List.mem_append] at hy
    rcases hy with (hy | hy) | hy <;> exact h5 x hx (by simp [hy])
theorem Pair.dropMid {N : List Nat → World → Prop} (h : Pair W w J (AndSide (AndSide K N) M)) : Pair W w J (AndSide K M) := by
  obtain ⟨f, g, h1, ⟨g1, g2, rfl, ⟨g3, g4, rfl, k1, k2, k3⟩, k4, k5⟩, h3, h4, h5, h6⟩ := h
  refine ⟨f, g3 ++ g2, h1, ⟨g3, g2, rfl, k1, k4, fun x hx hy => k5 x (by simp [hx]) hy⟩, h3, ?_, ?_, h6⟩
  · intro x hx
    rcases List.mem_append.1 hx with hx | hx <;> exact h4 x (by simp [hx])
  · intro x hx hy
    rcases List.mem_append.1 hy with hy | hy <;> exact h5 x hx (by simp [hy])
theorem Pair.boxMid {u : Nat} {o : Obj} (h : Pair W w J (AndSide (AndSide K (Box u o)) M)) : w.heap[u]? = some o := by
  obtain ⟨f, g, h1, ⟨g1, g2, rfl, ⟨g3, g4, rfl, k1, ⟨_, k2⟩, k3⟩, k4, k5⟩, h3, h4, h5, h6⟩ := h
  exact k2
theorem Pair.drop (h : Pair W w J (AndSide K M)) : Pair W w J K := by
  obtain ⟨f, g, h1, ⟨g1, g2, rfl, k1, k2, k3⟩, h3, h4, h5, h6⟩ := h
  exact ⟨f, g1, h1, k1, h3, fun x hx => h4 x (by simp [hx]), fun x hx hy => h5 x hx (by simp [hy]), h6⟩
theorem mem_step (l : List (List UInt8)) (x : List UInt8) (k : Nat) (hk : k < l.length) : (l.take (k + 1)).contains x = ((l.take k).contains x || l[k] == x) := by
  rw [List.take_succ_eq_append_getElem hk, Bool.eq_iff_iff]
  simp only [List.contains_iff_mem, List.mem_append, List.mem_singleton, Bool.or_eq_true, beq_iff_eq]
  exact ⟨fun h => h.imp id Eq.symm, fun h => h.imp id Eq.symm⟩
theorem str_eq (x : List UInt8) (s : ByteArray) : ((⟨x.toArray⟩ : ByteArray).toList == s.toList) = (x == bs s) := by
  rw [ByteArray.toList_eq, ByteArray.toList_eq]
  simp [bs]
end Go.Proofs.YtehjalgogjkdlaaGreatDoor

namespace Go.Proofs.YtehjalgogjkdlaaGreatDoor
set_option linter.unusedVariables false
set_option linter.unusedSimpArgs false
open Go.RowKit
def partsL (l : List Tr) (n : Int) : List Int := (List.range l.length).map (partAt l n)
theorem partsL_len (l : List Tr) (n : Int) : (partsL l n).length = l.length := by simp [partsL]
theorem partsL_at {l : List Tr} {n : Int} {k : Nat} (h : k < l.length) : (partsL l n)[k]? = some (partAt l n k) := by
  unfold partsL; rw [List.getElem?_map, List.getElem?_range h]; rfl
theorem partsL_take {l : List Tr} {n : Int} {k : Nat} (h : k < l.length) : (partsL l n).take k ++ [partAt l n k] = (partsL l n).take (k + 1) := by
  have := partsL_at (n := n) h
  obtain ⟨hk, e⟩ := List.getElem?_eq_some_iff.1 this
  rw [List.take_succ_eq_append_getElem hk, e]
theorem fromR_le {l : List Tr} {n : Int} (hn : 0 ≤ n) (k : Nat) : 0 ≤ fromR l n k ∧ fromR l n k ≤ n := by
  induction k with
  | zero => simp [fromR]; omega
  | succ k ih => rw [fromR]; split <;> omega
structure RsplI (w wr : World) (p : Prc) (n : Int) (a : Option Addr) (cap : Nat) (oa : Option Addr) (co k : Nat) : Prop where
  row : RowOf icI 1 wr (w.heap.size + 1) 3 (.slice oa k co) ((partsL p.ts n).take k)
  pr : wr.heap[w.heap.size]? = some (prO p a cap)
  chg : Chg [] w wr
theorem RsplI.next {w wr w4 : World} {p : Prc} {n : Int} {a : Option Addr} {cap : Nat} {oa : Option Addr} {co k g4 c4 : Nat} {o : Obj} (h : RsplI w wr p n a cap oa co k) (hr : RowOf icI 1 w4 (w.heap.size + 1) 3 (.slice (some ⟨g4, 0, none⟩) (k + 1) c4) ((partsL p.ts n).take (k + 1))) (hc : Chg (Value.slice oa k co).ownBlock.toList (wr.alloc o) w4) : RsplI w w4 p n a cap (some ⟨g4, 0, none⟩) c4 (k + 1) := by
  have hb : ∀ g, g ∈ (Value.slice oa k co).ownBlock.toList → w.heap.size + 1 ≤ g := fun g hg => (RowOf.block h.row g (by simpa using hg)).1
  refine ⟨hr, hc.at (fun q => ?_) (blk_alloc h.pr), (h.chg.alloc o).trans hc (by simp) (fun x hx hlt => ?_)⟩
  · have := hb _ q; omega
  · have := hb _ hx; omega
set_option maxHeartbeats 4000000 in
set_option maxRecDepth 100000 in
theorem rpsplit_any (p : Prc) (n : Int) (a : Option Addr) (cap : Nat) (w : World) (h : SlIs trC 2 w a p.ts.length p.ts) (hp : priceZ p = 0) (hn0 : 0 ≤ n) (hn1 : n ≤ 1000000000000) : Calls Tryz.prog 87 #[prV p a cap, .int .i64 n] w fun e w' => ∃ oa co, e = .returned (.tuple #[.slice oa p.ts.length co, .int .i64 0]) ∧ RowOf icI 1 w' w.heap.size 3 (.slice oa p.ts.length co) (partsL p.ts n) ∧ Chg [] w w' := by
  obtain ⟨-, -, -, hl1, hl8⟩ := price_ok hp
  have HT := Lib.hid (fun k (hk : k < p.ts.length) => tier_ok (tiers_ok hp hk))
  have HP := Lib.hid hp
  have H := Lib.hid h
  have A := Lib.hid (fun w' (hc : Chg [] w w') => rpcheck_any p a cap w' (h.kept hc) (by unfold maxLen; omega))
  have hA := A.out
  rw [hp] at hA
  have A := Lib.hid hA
  have V := rv01_any n
  rw [show vldB n = true from vldB_iff.2 (by omega)] at V
  have V := Lib.hid V
  rename_i A0 V0
  clear A0 V0
  have I0 := Lib.hid (show RsplI w (w.alloc (prO p a cap)) p n a cap none 0 0 from ⟨RowOf.nil _ _ _, heap_alloc_new _ _, (Chg.refl _ _).alloc _⟩)
  have x1 := blk_cell (heap_alloc_new w (prO p a cap))
  obtain ⟨W1, hW1⟩ : ∃ W1, W1 = w.alloc (prO p a cap) := ⟨_, rfl⟩
  rw [← hW1] at I0 x1
  have HW1 := Lib.hid hW1
  have hC1 := Lib.hid I0.out.chg
  unfold prO at HW1
  unfold prV at A ⊢
  (try simp only at HW1 A ⊢)
  have lt1 := Lib.hid (lt_of_heap I0.out.pr)
  clear h hp hW1 hA
  go_enter Tryz.func87, Tryz.ntmps87
  go_wp2_with fail
  rw [← HW1.out]
  go_wp2_with fail
  refine (A.out _ hC1.out).mono ?_; rintro e w2 ⟨rfl, hc2⟩
  have I2 := Lib.hid (show RsplI w w2 p n a cap none 0 0 from ⟨RowOf.nil _ _ _, hc2.at (by simp) I0.out.pr, I0.out.chg.thenSame hc2⟩)
  have k2 := blk_cell I2.out.pr
  unfold prO at k2
  clear x1 hc2 I0
  have hn2 : ¬ n < 0 := by omega
  go_wp2_with fail
  refine (V.out _).mono ?_; rintro e w3 ⟨rfl, rfl⟩
  go_wp2_with fail
  go_loopw [7, 8, 26] (fun ov ff i wr => ∃ (k co : Nat) (oa : Option Addr), ov = .slice oa k co ∧ ff = .int .i64 (fromR p.ts n k) ∧ i = .int .i64 k ∧ k ≤ p.ts.length ∧ Hid (RsplI w wr p n a cap oa co k)) (fun _ _ i _ => p.ts.length - (intOf i).toNat)
  case atStart => exact ⟨0, _, _, rfl, rfl, rfl, Nat.zero_le _, I2⟩
  case round =>
    obtain ⟨k, co, oa, rfl, rfl, rfl, hk, HI⟩ := hrel
    clear k2
    by_cases hkn : k < p.ts.length
    · obtain ⟨g, o, rfl, -, hbr, hcc⟩ := H.out.elem HI.out.chg k hkn
      have d0 := hcc 0 (by omega)
      obtain ⟨x, hx1⟩ : ∃ x, p.ts[k]? = some x := ⟨p.ts[k], List.getElem?_eq_getElem hkn⟩
      have hxe := (List.getElem?_eq_some_iff.1 hx1).2
      rw [hxe] at d0
      have hup : upAt p.ts k = x.up := by unfold upAt; rw [hx1]; rfl
      have hf := fromR_le (l := p.ts) hn0 k
      have hux := (HT.out k hkn).2.2
      rw [hup] at hux
      have HFN := Lib.hid (show fromR p.ts n (k + 1) = max (fromR p.ts n k) (if x.up = 0 then n else min n x.up) by rw [fromR, hup])
      have HPN := Lib.hid (show max 0 ((if x.up = 0 then n else min n x.up) - fromR p.ts n k) = partAt p.ts n k by rw [← hup]; exact partR_eq HP.out hn0 hkn)
      have HTK := Lib.hid (partsL_take (n := n) hkn)
      have k1 := blk_cell HI.out.pr
      unfold prO at k1
      have hul : x.up ≤ 1000000000000 ∧ 0 ≤ x.up := by
        by_cases q : k + 1 = p.ts.length
        · have := hux.1 q; omega
        · have := hux.2 q; omega
      obtain ⟨up, mi⟩ := x
      simp only [trC, List.getElem?_cons_zero, List.getElem?_cons_succ, Nat.add_zero] at d0
      simp only at HFN HPN hux hul
      have hk0 : (0 : Int) ≤ (k : Int) := by omega
      have hk1 : (k : Int) < (p.ts.length : Int) := by omega
      have hk8 : (k : Int) < 8 := by omega
      have hql : ((partsL p.ts n).take k).length = k := by rw [List.length_take, partsL_len]; omega
      have hml : k + 1 ≤ maxLen := by unfold maxLen; omega
      have hmb : (k + 1) * 8 ≤ 140737488355328 := by omega
      have JC := Lib.hid HI.out.chg.size
      generalize fromR p.ts n k = ff at *
      generalize partAt p.ts n k = q at *
      obtain ⟨hul1, hul0⟩ := hul
      obtain ⟨hf0, hf1⟩ := hf
      clear hcc hx1 hxe hup hux
      by_cases hz : up = 0
      · subst hz
        rw [if_pos rfl] at HFN HPN
        go_wp2_with (first
          | (at_builtin; refine wpl_appendL rfl _ _ 22 rfl (w.heap.size + 1) 3 _ 8 Tryz.underlying22 iInfo rfl (by decide) icI_len icI_one (.slice oa k co) ((partsL p.ts n).take k) rfl (HI.out.row.kept ((Chg.refl [] wr).alloc _) (by simp)) wr.heap.size _ (max 0 (n - ff)) _ _ _ rfl (heap_alloc_new wr _) rfl (by rw [hql]; exact hml) (by rw [hql]; exact hmb) (by have := lt_of_heap HI.out.pr; simp; omega) ?_; intro g4 c4 w4 hr4 hg4 ho4 _; rw [hql, HPN.out, HTK.out] at hr4; rw [hql]; have J4 := Lib.hid (HI.out.next hr4 (Chg.ofRow (v := .slice oa k co) hg4)); clear hr4 hg4 ho4))
        exact ⟨⟨k + 1, c4, _, rfl, by rw [HFN.out], by go_num, by omega, J4⟩, by simp [intOf]; omega⟩
      · rw [if_neg hz] at HFN HPN
        have hzb : (up != 0) = true := by rw [bne_iff_ne]; exact hz
        go_wp2_with (first
          | (at_builtin; refine wpl_appendL rfl _ _ 22 rfl (w.heap.size + 1) 3 _ 8 Tryz.underlying22 iInfo rfl (by decide) icI_len icI_one (.slice oa k co) ((partsL p.ts n).take k) rfl (HI.out.row.kept ((Chg.refl [] wr).alloc _) (by simp)) wr.heap.size _ (max 0 (min n up - ff)) _ _ _ rfl (heap_alloc_new wr _) rfl (by rw [hql]; exact hml) (by rw [hql]; exact hmb) (by have := lt_of_heap HI.out.pr; simp; omega) ?_; intro g4 c4 w4 hr4 hg4 ho4 _; rw [hql, HPN.out, HTK.out] at hr4; rw [hql]; have J4 := Lib.hid (HI.out.next hr4 (Chg.ofRow (v := .slice oa k co) hg4)); clear hr4 hg4 ho4))
        exact ⟨⟨k + 1, c4, _, rfl, by rw [HFN.out], by go_num, by omega, J4⟩, by simp [intOf]; omega⟩
    · have hke : k = p.ts.length := by omega
      have hkn2 : ¬ (k : Int) < (p.ts.length : Int) := by omega
      have hr := HI.out.row
      rw [hke, List.take_of_length_le (by rw [partsL_len]; omega)] at hr
      have HR := Lib.hid hr
      have HC := Lib.hid HI.out.chg
      clear HI hr
      go_wp2_with fail
      go_ret2
      exact ⟨oa, co, rfl, HR.out.mono (by omega), HC.out⟩
end Go.Proofs.YtehjalgogjkdlaaGreatDoor

namespace Go.Proofs.YtehjalgogjkdlaaGreatDoor
set_option linter.unusedVariables false
set_option linter.unusedSimpArgs false
open Go.RowKit
theorem ramt1_any (n : Nat) (w : World) : Calls Tryz.prog 106 #[.int .i64 n] w fun e w' => e = .returned (.int .i64 n) ∧ w = w' := by
  have h : ¬ (n : Int) < 0 := by omega
  go_enter Tryz.func106, Tryz.ntmps106
  go_wp2
  go_ret
  exact ⟨rfl, rfl⟩
/-- A number that may be too great. -/
def capZ (n : Nat) : Int × Int := if n ≤ 1000000000000 then (n, 0) else (0, 8)
theorem rres1_any (n : Nat) (w : World) : Calls Tryz.prog 107 #[.int .i64 n] w fun e w' => e = .returned (.tuple #[.int .i64 (capZ n).1, .int .i64 (capZ n).2]) ∧ w = w' := by
  have A := rv01_any n w
  by_cases h : n ≤ 1000000000000
  · rw [show vldB n = true from vldB_iff.2 (by omega)] at A
    have A := Lib.hid A
    rename_i A0
    clear A0
    have HE := Lib.hid (show capZ n = ((n : Int), 0) from if_pos h)
    rw [HE.out]
    go_enter Tryz.func107, Tryz.ntmps107
    go_wp2_with fail
    refine A.out.mono ?_; rintro e w1 ⟨rfl, rfl⟩
    go_wp2_with fail
    go_ret2
    exact ⟨rfl, rfl⟩
  · rw [show vldB n = false by rw [← Bool.not_eq_true, vldB_iff]; omega] at A
    have A := Lib.hid A
    rename_i A0
    clear A0
    have HE := Lib.hid (show capZ n = (0, 8) from if_neg h)
    rw [HE.out]
    go_enter Tryz.func107, Tryz.ntmps107
    go_wp2_with fail
    refine A.out.mono ?_; rintro e w1 ⟨rfl, rfl⟩
    go_wp2_with fail
    go_ret2
    exact ⟨rfl, rfl⟩
theorem radd1_any (a b : Nat) (ha : a ≤ 1000000000000) (hb : b ≤ 1000000000000) (w : World) : Calls Tryz.prog 88 #[.int .i64 a, .int .i64 b] w fun e w' => e = .returned (.tuple #[.int .i64 (capZ (a + b)).1, .int .i64 (capZ (a + b)).2]) ∧ w = w' := by
  have A1 := rv01_any a
  have A2 := rv01_any b
  rw [show vldB a = true from vldB_iff.2 (by omega)] at A1
  rw [show vldB b = true from vldB_iff.2 (by omega)] at A2
  have A1 := Lib.hid A1
  have A2 := Lib.hid A2
  have R := rres1_any (a + b)
  rw [Int.natCast_add] at R
  have R := Lib.hid R
  rename_i A10 A20 R0
  clear A10 A20 R0
  generalize capZ (a + b) = Z at *
  go_enter Tryz.func88, Tryz.ntmps88
  go_wp2_with (first | (go_at_call 62; (with_reducible refine (A1.out _).mono ?_); rintro e w1 ⟨rfl, rfl⟩) | (go_at_call 62; (with_reducible refine (A2.out _).mono ?_); rintro e w1 ⟨rfl, rfl⟩))
  refine (R.out _).mono ?_; rintro e w1 ⟨rfl, rfl⟩
  go_wp2_with fail
  go_ret2
  exact ⟨rfl, rfl⟩
theorem rmul1_zero (b : Nat) (hb : b ≤ 1000000000000) (w : World) : Calls Tryz.prog 86 #[.int .i64 0, .int .i64 b] w fun e w' => e = .returned (.tuple #[.int .i64 0, .int .i64 0]) ∧ w = w' := by
  have A1 := rv01_any 0
  have A2 := rv01_any b
  rw [show vldB 0 = true from vldB_iff.2 (by omega)] at A1
  rw [show vldB b = true from vldB_iff.2 (by omega)] at A2
  have A1 := Lib.hid A1
  have A2 := Lib.hid A2
  have R := Lib.hid (show ∀ w', Calls Tryz.prog 107 #[.int .i64 0] w' fun e w'' => e = .returned (.tuple #[.int .i64 0, .int .i64 0]) ∧ w' = w'' from fun w' => rres1_any 0 w')
  rename_i A10 A20
  clear A10 A20
  go_enter Tryz.func86, Tryz.ntmps86
  go_wp2_with (first | (go_at_call 62; (with_reducible refine (A1.out _).mono ?_); rintro e w1 ⟨rfl, rfl⟩) | (go_at_call 62; (with_reducible refine (A2.out _).mono ?_); rintro e w1 ⟨rfl, rfl⟩))
  refine (R.out _).mono ?_; rintro e w1 ⟨rfl, rfl⟩
  go_wp2_with fail
  go_ret2
  exact ⟨rfl, rfl⟩
set_option maxHeartbeats 2000000 in
theorem rmul1_pos (a b : Nat) (h0 : 0 < a) (ha : a ≤ 1000000000000) (hb : b ≤ 1000000000000) (w : World) : Calls Tryz.prog 86 #[.int .i64 a, .int .i64 b] w fun e w' => e = .returned (.tuple #[.int .i64 (capZ (a * b)).1, .int .i64 (capZ (a * b)).2]) ∧ w = w' := by
  have A1 := rv01_any a
  have A2 := rv01_any b
  rw [show vldB a = true from vldB_iff.2 (by omega)] at A1
  rw [show vldB b = true from vldB_iff.2 (by omega)] at A2
  have A1 := Lib.hid A1
  have A2 := Lib.hid A2
  have M1 := Lib.hid (ramt1_any a)
  have M2 := Lib.hid (ramt1_any b)
  rename_i A10 A20
  clear A10 A20
  obtain ⟨P, hP⟩ : ∃ P, P = a * b := ⟨_, rfl⟩
  rw [← hP]
  obtain ⟨q, hq⟩ : ∃ q, q = 1000000000000 / a := ⟨_, rfl⟩
  have hqq : q < b ↔ 1000000000000 < P := by
    rw [hq, hP, Nat.div_lt_iff_lt_mul h0, Nat.mul_comm a b]
  have hql : q ≤ 1000000000000 := by rw [hq]; exact Nat.div_le_self _ _
  have zq : IntKind.i64.wrap ((1000000000000 : Int) / (a : Int)) = (q : Int) := by
    have : (1000000000000 : Int) / (a : Int) = (q : Int) := by rw [hq, Int.natCast_ediv]; rfl
    rw [this]; exact wrapI (by omega) (by omega)
  have zq2 : (1000000000000 : Int) / (a : Int) = (q : Int) := by rw [hq, Int.natCast_ediv]; rfl
  have zq3 : (1000000000000 : Int).tdiv (a : Int) = (q : Int) := by rw [hq, Int.ofNat_tdiv]; rfl
  have n1 : ((a : Int) != 0) = true := by rw [bne_iff_ne]; omega
  have n2 : (a : Int) ≠ 0 := by omega
  have EP := Lib.hid (show (a : Int) * (b : Int) = (P : Int) by rw [hP, Int.natCast_mul])
  have HQ := Lib.hid hqq
  clear hP hq hqq
  by_cases hg : q < b
  · have hg2 : (q : Int) < (b : Int) := by omega
    have HE := Lib.hid (show capZ P = (0, 8) from if_neg (by have := HQ.out.1 hg; omega))
    rw [HE.out]
    go_enter Tryz.func86, Tryz.ntmps86
    go_wp2_with (first | (go_at_call 62; (with_reducible refine (A1.out _).mono ?_); rintro e w1 ⟨rfl, rfl⟩) | (go_at_call 62; (with_reducible refine (A2.out _).mono ?_); rintro e w1 ⟨rfl, rfl⟩) | (go_at_call 106; (with_reducible refine (M1.out _).mono ?_); rintro e w1 ⟨rfl, rfl⟩) | (go_at_call 106; (with_reducible refine (M2.out _).mono ?_); rintro e w1 ⟨rfl, rfl⟩))
    go_ret2
    exact ⟨rfl, rfl⟩
  · have hg2 : ¬ (q : Int) < (b : Int) := by omega
    have hPl : P ≤ 1000000000000 := Nat.not_lt.1 fun x => hg (HQ.out.2 x)
    have R := Lib.hid (rres1_any P)
    have z : IntKind.i64.wrap ((a : Int) * (b : Int)) = (P : Int) := by rw [EP.out]; exact wrapI (by omega) (by omega)
    have ep := EP.out
    have z2 : wrap64 ((a : Int) * (b : Int)) = (P : Int) := by rw [EP.out]; unfold wrap64; omega
    generalize capZ P = Z at *
    go_enter Tryz.func86, Tryz.ntmps86
    go_wp2_with (first | (go_at_call 62; (with_reducible refine (A1.out _).mono ?_); rintro e w1 ⟨rfl, rfl⟩) | (go_at_call 62; (with_reducible refine (A2.out _).mono ?_); rintro e w1 ⟨rfl, rfl⟩) | (go_at_call 106; (with_reducible refine (M1.out _).mono ?_); rintro e w1 ⟨rfl, rfl⟩) | (go_at_call 106; (with_reducible refine (M2.out _).mono ?_); rintro e w1 ⟨rfl, rfl⟩) | (go_at_call 107; (with_reducible refine (R.out _).mono ?_); rintro e w1 ⟨rfl, rfl⟩))
    go_ret2
    exact ⟨rfl, rfl⟩
end Go.Proofs.YtehjalgogjkdlaaGreatDoor

namespace Go.Proofs.YtehjalgogjkdlaaGreatDoor
set_option linter.unusedVariables false
set_option linter.unusedSimpArgs false
open Go.RowKit
theorem weighf_any (n : Int) (w : World) : Calls Tryz.prog 56 #[.int .i64 n] w fun e w' => e = .returned (.bool (!amtB n)) ∧ w = w' := by
  have A := Lib.hid (fun w' => amt_any n w')
  generalize amtB n = q at *
  cases q
  · go_enter Tryz.func56, Tryz.ntmps56
    go_wp2_with fail
    refine (A.out _).mono ?_; rintro e w1 ⟨rfl, rfl⟩
    go_wp2_with fail
    go_ret
    exact ⟨rfl, rfl⟩
  · go_enter Tryz.func56, Tryz.ntmps56
    go_wp2_with fail
    refine (A.out _).mono ?_; rintro e w1 ⟨rfl, rfl⟩
    go_wp2_with fail
    go_ret
    exact ⟨rfl, rfl⟩
theorem idxf_any (a : Option Addr) (cap : Nat) (l : List Int) (w : World) (h : SlIs icI 1 w a l.length l) (hm : l.length ≤ maxLen) : Calls Tryz.prog 91 #[.slice a l.length cap, .func (.func 56) #[] #[]] w fun e w' => (∃ r : Int, e = .returned (.int .i64 r) ∧ decide (0 ≤ r) = !l.all amtB) ∧ w = w' := by
  have H := Lib.hid h
  unfold maxLen at hm
  clear h
  go_enter Tryz.func91, Tryz.ntmps91
  go_wp2_with fail
  go_loopw [8] (fun i wr => ∃ k : Nat, i = .int .i64 k ∧ k ≤ l.length ∧ Hid ((l.take k).all amtB = true) ∧ w = wr) (fun i _ => l.length - (intOf i).toNat)
  case atStart => exact ⟨0, rfl, Nat.zero_le _, Lib.hid (by simp), rfl⟩
  case round =>
    obtain ⟨k, rfl, hkl, HT, rfl⟩ := hrel
    by_cases hk : k < l.length
    · obtain ⟨b, off, rfl, hb, hc⟩ := H.out.2 k hk
      have c0 := hc 0 (by omega)
      have HS := Lib.hid (show (l.take (k + 1)).all amtB = amtB l[k] by rw [List.take_succ_eq_append_getElem hk, List.all_append, HT.out]; simp)
      have HN := Lib.hid (show amtB l[k] = false → l.all amtB = false from fun hv => List.all_eq_false.2 ⟨l[k], List.getElem_mem hk, by rw [hv]; simp⟩)
      generalize l[k] = x at *
      simp only [icI, List.getElem?_cons_zero, Nat.add_zero, Nat.mul_one] at c0
      have A := weighf_any x w
      have hk0 : (0 : Int) ≤ (k : Int) := by omega
      have hk1 : (k : Int) < (l.length : Int) := by omega
      cases hv : amtB x
      · rw [hv] at A
        have A := Lib.hid A
        rename_i A0
        have HE := Lib.hid (HN.out hv)
        clear hc A0 hv
        go_wp2_with fail
        refine A.out.mono ?_; rintro e w1 ⟨rfl, rfl⟩
        go_wp2_with fail
        go_ret
        exact ⟨⟨_, rfl, by rw [HE.out]; simp⟩, rfl⟩
      · rw [hv] at A
        have A := Lib.hid A
        rename_i A0
        have HE := Lib.hid (HS.out.trans hv)
        clear hc A0 hv
        go_wp2_with fail
        refine A.out.mono ?_; rintro e w1 ⟨rfl, rfl⟩
        go_wp2_with fail
        exact ⟨⟨k + 1, by go_num, by omega, HE, trivial⟩, by simp [intOf]; omega⟩
    · have hks : k = l.length := by omega
      have HE := Lib.hid (show l.all amtB = true by have := HT.out; rwa [hks, List.take_of_length_le (Nat.le_refl _)] at this)
      clear hks
      go_wp2_with fail
      go_ret
      exact ⟨⟨_, rfl, by rw [HE.out]; rfl⟩, rfl⟩
theorem contf_any (a : Option Addr) (cap : Nat) (l : List Int) (w : World) (h : SlIs icI 1 w a l.length l) (hm : l.length ≤ maxLen) : Calls Tryz.prog 55 #[.slice a l.length cap, .func (.func 56) #[] #[]] w fun e w' => e = .returned (.bool (!l.all amtB)) ∧ w = w' := by
  have A := Lib.hid (idxf_any a cap l w h hm)
  clear h hm
  generalize (!l.all amtB) = q at *
  go_enter Tryz.func55, Tryz.ntmps55
  go_wp2_with fail
  refine A.out.mono ?_; rintro e w1 ⟨⟨r, rfl, hr⟩, rfl⟩
  have HR := Lib.hid hr
  clear hr A
  go_wp2_with fail
  go_ret
  exact ⟨congrArg (fun b => Ending.returned (Value.bool b)) HR.out, rfl⟩
theorem sum_take {l : List Int} (h : l.all amtB = true) (hl : l.length ≤ 256) (k : Nat) : 0 ≤ (l.take k).sum ∧ (l.take k).sum ≤ 256000000000000 := by
  have h1 : ∀ V : List Int, (∀ x ∈ V, 0 ≤ x ∧ x ≤ 1000000000000) → 0 ≤ V.sum ∧ V.sum ≤ 1000000000000 * V.length := by
    intro V hV
    induction V with
    | nil => simp
    | cons v V ih =>
      have h2 := hV v (by simp)
      have h3 := ih (fun x hx => hV x (by simp [hx]))
      rw [List.sum_cons, List.length_cons]; omega
  have h2 := h1 (l.take k) (fun x hx => amtB_iff.1 (List.all_eq_true.1 h x (List.mem_of_mem_take hx)))
  have h3 : (l.take k).length ≤ 256 := by rw [List.length_take]; omega
  omega
set_option maxHeartbeats 4000000 in
set_option maxRecDepth 100000 in
theorem weigh_any (t : Int) (a : Option Addr) (cap : Nat) (l : List Int) (w : World) (h : SlIs icI 1 w a l.length l) (hm : l.length ≤ maxLen) : Calls Tryz.prog 24 #[.int .i64 t, .slice a l.length cap] w fun e w' => e = .returned (.tuple #[.int .i64 (weighZ t l).1, .int .i64 (weighZ t l).2]) ∧ w = w' := by
  have H := Lib.hid h
  have A := Lib.hid (fun w' => amt_any t w')
  have C := Lib.hid (contf_any a cap l w h hm)
  unfold maxLen at hm
  obtain ⟨Z, hZ⟩ : ∃ Z, Z = weighZ t l := ⟨_, rfl⟩
  rw [← hZ]
  unfold weighZ at hZ
  have HZ := Lib.hid hZ
  clear h hZ
  cases h1 : amtB t
  · have HE := Lib.hid (show Z = (0, 2) by rw [HZ.out, if_pos (Or.inl h1)])
    rw [h1] at A
    rw [HE.out]
    go_enter Tryz.func24, Tryz.ntmps24
    go_wp2_with fail
    refine (A.out _).mono ?_; rintro e w1 ⟨rfl, rfl⟩
    go_wp2_with fail
    go_ret2
    exact ⟨rfl, rfl⟩
  cases h2 : l.all amtB
  · have HE := Lib.hid (show Z = (0, 2) by rw [HZ.out, if_pos (Or.inr h2)])
    rw [h1] at A
    rw [h2] at C
    rw [HE.out]
    go_enter Tryz.func24, Tryz.ntmps24
    go_wp2_with fail
    refine (A.out _).mono ?_; rintro e w1 ⟨rfl, rfl⟩
    go_wp2_with fail
    refine C.out.mono ?_; rintro e w2 ⟨rfl, rfl⟩
    go_wp2_with fail
    go_ret2
    exact ⟨rfl, rfl⟩
  have HZ1 := Lib.hid (HZ.out.trans (if_neg (by rw [h1, h2]; simp)))
  have H2 := Lib.hid h2
  rw [h1] at A
  rw [h2] at C
  clear HZ h1 h2
  by_cases h3 : 256 < l.length
  · have h3' : (256 : Int) < (l.length : Int) := by omega
    have HE := Lib.hid (show Z = (0, 3) by rw [HZ1.out, if_pos h3])
    rw [HE.out]
    go_enter Tryz.func24, Tryz.ntmps24
    go_wp2_with fail
    refine (A.out _).mono ?_; rintro e w1 ⟨rfl, rfl⟩
    go_wp2_with fail
    refine C.out.mono ?_; rintro e w2 ⟨rfl, rfl⟩
    go_wp2_with fail
    go_ret2
    exact ⟨rfl, rfl⟩
  have h3' : ¬ (256 : Int) < (l.length : Int) := by omega
  have HZ2 := Lib.hid (HZ1.out.trans (if_neg h3))
  by_cases h4 : l = [] ∧ t ≠ 0
  · have HE := Lib.hid (show Z = (0, 5) by rw [HZ2.out, if_pos h4])
    have h5 : ((l.length : Int) == 0) = true := by rw [h4.1]; rfl
    have h5' : (l.length : Int) = 0 := by rw [h4.1]; rfl
    have h6 : (t != 0) = true := by rw [bne_iff_ne]; exact h4.2
    have h6' : t ≠ 0 := h4.2
    rw [HE.out]
    generalize l.length = n at *
    clear h4
    go_enter Tryz.func24, Tryz.ntmps24
    go_wp2_with fail
    refine (A.out _).mono ?_; rintro e w1 ⟨rfl, rfl⟩
    go_wp2_with fail
    refine C.out.mono ?_; rintro e w2 ⟨rfl, rfl⟩
    go_wp2_with fail
    go_ret2
    exact ⟨rfl, rfl⟩
  have HZ3 := Lib.hid (HZ2.out.trans (if_neg h4))
  have hcase : (((l.length : Int) == 0) = false) ∨ ((((l.length : Int) == 0) = true) ∧ (t != 0) = false) := by
    by_cases q : l = []
    · refine Or.inr ⟨by rw [q]; rfl, ?_⟩
      rw [bne_eq_false_iff_eq]
      exact Classical.byContradiction fun r => h4 ⟨q, r⟩
    · refine Or.inl ?_
      rw [beq_eq_false_iff_ne]
      have := List.length_pos_iff.2 q
      omega
  clear HZ1 HZ2 h4
  rcases hcase with h5 | ⟨h5, h6⟩
  all_goals
    go_enter Tryz.func24, Tryz.ntmps24
    go_wp2_with fail
    refine (A.out _).mono ?_; rintro e w1 ⟨rfl, rfl⟩
    go_wp2_with fail
    refine C.out.mono ?_; rintro e w2 ⟨rfl, rfl⟩
    go_wp2_with fail
    go_loopw [6, 28] (fun s i wr => ∃ k : Nat, i = .int .i64 k ∧ s = .int .i64 (l.take k).sum ∧ k ≤ l.length ∧ w = wr) (fun _ i _ => l.length - (intOf i).toNat)
    case atStart => exact ⟨0, rfl, rfl, Nat.zero_le _, rfl⟩
    case round =>
      obtain ⟨k, rfl, rfl, hkl, rfl⟩ := hrel
      have hs := sum_take H2.out (by omega) k
      by_cases hk : k < l.length
      · obtain ⟨b, off, rfl, hb, hc⟩ := H.out.2 k hk
        have c0 := hc 0 (by omega)
        have HS := Lib.hid (show (l.take (k + 1)).sum = (l.take k).sum + l[k] by rw [List.take_succ_eq_append_getElem hk, List.sum_append]; simp)
        have hx := amtB_iff.1 (List.all_eq_true.1 H2.out l[k] (List.getElem_mem hk))
        generalize l[k] = x at *
        simp only [icI, List.getElem?_cons_zero, Nat.add_zero, Nat.mul_one] at c0
        generalize (l.take k).sum = S at *
        obtain ⟨s1, s2⟩ := hs
        obtain ⟨x1, x2⟩ := hx
        have hk0 : (0 : Int) ≤ (k : Int) := by omega
        have hk1 : (k : Int) < (l.length : Int) := by omega
        clear hc
        go_wp2_with fail
        exact ⟨⟨k + 1, by go_num, by rw [HS.out], by omega, trivial⟩, by simp [intOf]; omega⟩
      · have hks : k = l.length := by omega
        have HE := Lib.hid (show Z = if 1000000000000 < (l.take k).sum then (0, 8) else ((l.take k).sum, 0) by rw [HZ3.out, hks, List.take_length])
        generalize (l.take k).sum = S at *
        obtain ⟨s1, s2⟩ := hs
        clear hks
        by_cases hS : 1000000000000 < S
        · have HF := Lib.hid (HE.out.trans (if_pos hS))
          go_wp2_with fail
          rw [HF.out]
          go_ret2
          exact ⟨rfl, rfl⟩
        · have HF := Lib.hid (HE.out.trans (if_neg hS))
          go_wp2_with fail
          rw [HF.out]
          go_ret2
          exact ⟨rfl, rfl⟩
end Go.Proofs.YtehjalgogjkdlaaGreatDoor

namespace Go.Proofs.YtehjalgogjkdlaaGreatDoor
set_option linter.unusedVariables false
set_option linter.unusedSimpArgs false
open Go.RowKit
theorem ownI {w : World} {base : Nat} {v : Value} {l : List Int} (h : w.ownsRow base 3 1 v l.length (l.map (Value.int .i64))) : RowOf icI 1 w base 3 v l := by
  unfold RowOf
  rw [flat_icI]; exact h
theorem clone_any (a : Option Addr) (cap : Nat) (l : List Int) (w : World) (h : SlIs icI 1 w a l.length l) (hm : l.length ≤ 1000000) : Calls Tryz.prog 25 #[.slice a l.length cap] w fun e w' => ∃ v, e = .returned v ∧ RowOf icI 1 w' w.heap.size 3 v l ∧ Chg [] w w' := by
  by_cases hl : l = []
  · subst hl
    cases a with
    | none =>
      refine (Tryz.slices_Clone_int_nil 0 cap w).mono ?_
      rintro e w' ⟨rfl, rfl⟩
      exact ⟨_, rfl, RowOf.nil _ _ _, Chg.refl _ _⟩
    | some ad =>
      refine (Tryz.slices_Clone_int_zero ad cap w).mono ?_
      rintro e w' ⟨v, rfl, h1, _, h3⟩
      exact ⟨v, rfl, ownI (l := []) h1, Chg.ofBelow h3⟩
  · obtain ⟨b, off, rfl, hb, -⟩ := h.2 0 (List.length_pos_iff.2 hl)
    refine (Tryz.slices_Clone_int b off l.length cap l w (Nat.le_refl _) (by omega) (fun j hj => ?_)).mono ?_
    · obtain ⟨b', off', e1, _, hc⟩ := h.2 j hj
      cases e1
      have := hc 0 (by omega)
      simp only [Nat.mul_one, Nat.add_zero] at this
      rw [this, List.getD_eq_getElem?_getD, List.getElem?_eq_getElem hj]
      rfl
    · rintro e w' ⟨v, rfl, h1, _, h3⟩
      rw [List.take_length] at h1
      exact ⟨v, rfl, ownI h1, Chg.ofBelow h3⟩
/-- One more place of a row of ints stored. -/
theorem rowI_set {w : World} {base g n c : Nat} {l : List Int} (h : RowOf icI 1 w base 3 (.slice (some ⟨g, 0, none⟩) n c) l) {k : Nat} (hk : k < l.length) (x : Int) : RowOf icI 1 (w.setCell ⟨g, k, none⟩ (.int .i64 x)) base 3 (.slice (some ⟨g, 0, none⟩) n c) (l.set k x) := by
  have := RowOf.putEl h icI_len k hk x
  simpa [storeEl, icI] using this
end Go.Proofs.YtehjalgogjkdlaaGreatDoor

namespace Go.Proofs.YtehjalgogjkdlaaGreatDoor
set_option linter.unusedVariables false
set_option linter.unusedSimpArgs false
open Go.RowKit
set_option maxHeartbeats 4000000 in
theorem share_bad (t : Int) (a : Option Addr) (cap : Nat) (W : List Int) (w : World) (h : SlIs icI 1 w a W.length W) (hm : W.length ≤ maxLen) (he : (weighZ t W).2 ≠ 0) : Calls Tryz.prog 7 #[.int .i64 t, .slice a W.length cap] w fun e w' => e = .returned (.tuple #[.slice none 0 0, .int .i64 (weighZ t W).2]) ∧ w = w' := by
  have A := Lib.hid (weigh_any t a cap W w h hm)
  generalize weighZ t W = Z at *
  obtain ⟨z1, z2⟩ := Z
  simp only at he A ⊢
  have hb : (z2 != 0) = true := by rw [bne_iff_ne]; exact he
  clear h hm
  go_enter Tryz.func7, Tryz.ntmps7
  go_wp2_with fail
  refine A.out.mono ?_; rintro e w1 ⟨rfl, rfl⟩
  go_wp2_with fail
  go_ret2
  exact ⟨rfl, rfl⟩
/-- What is known where weighed returns no error. -/
theorem weigh_ok {t : Int} {W : List Int} (h : (weighZ t W).2 = 0) : (0 ≤ t ∧ t ≤ 1000000000000) ∧ W.all amtB = true ∧ W.length ≤ 256 ∧ (W = [] → t = 0) ∧ W.sum ≤ 1000000000000 ∧ (weighZ t W).1 = W.sum := by
  unfold weighZ at h ⊢
  split at h
  · cases h
  · rename_i h1
    split at h
    · cases h
    · rename_i h2
      split at h
      · cases h
      · rename_i h3
        split at h
        · cases h
        · rename_i h4
          rw [if_neg h1, if_neg h2, if_neg h3, if_neg h4]
          simp only [not_or, Bool.not_eq_false] at h1
          exact ⟨amtB_iff.1 h1.1, h1.2, by omega, fun q => Classical.byContradiction fun r => h3 ⟨q, r⟩, by omega, rfl⟩
theorem all_nn {W : List Int} (h : W.all amtB = true) : ∀ x ∈ W, 0 ≤ x := fun x hx => (amtB_iff.1 (List.all_eq_true.1 h x hx)).1
/-- Each share's quotient and rest, as MulDiv and the subtraction modulo 2^64 give them. -/
theorem share_step {t : Int} {W : List Int} (ht : 0 ≤ t) (ht2 : t ≤ 1000000000000) (hW : W.all amtB = true) (hs : W.sum ≤ 1000000000000) (hl : W.length ≤ 256) {u : Int} (hu : u ∈ effW W) :
    mulDivZ t u (effS W) = (quo t (effS W) u, 0) ∧ 0 ≤ quo t (effS W) u ∧ quo t (effS W) u ≤ t ∧
      0 ≤ u ∧ u ≤ 1000000000000 ∧ 0 < effS W ∧ effS W ≤ 1000000000000 ∧ 0 ≤ rst t (effS W) u ∧ rst t (effS W) u ≤ 1000000000000 ∧ t * u = quo t (effS W) u * effS W + rst t (effS W) u := by
  have hne : W ≠ [] := by rintro rfl; simp [effW] at hu
  have hS := effS_pos (all_nn hW) hne
  have hnn := effW_nn (all_nn hW)
  have hu0 := hnn u hu
  have huS : u ≤ effS W := by rw [← effW_sum]; exact mem_le_sum hnn hu
  have hS2 : effS W ≤ 1000000000000 := by unfold effS; split <;> omega
  have hq0 : 0 ≤ quo t (effS W) u := Int.ediv_nonneg (Int.mul_nonneg ht hu0) (by omega)
  have hq1 : quo t (effS W) u ≤ t := by
    unfold quo
    refine Int.ediv_le_of_le_mul hS ?_
    exact Int.mul_le_mul_of_nonneg_left huS ht
  have hr0 : 0 ≤ rst t (effS W) u := Int.emod_nonneg _ (by omega)
  have hr1 : rst t (effS W) u < effS W := Int.emod_lt_of_pos _ hS
  refine ⟨?_, hq0, hq1, hu0, by omega, hS, hS2, hr0, by omega, ?_⟩
  · unfold mulDivZ
    rw [if_neg (by simp only [← Bool.not_eq_true, vldB_iff]; omega), if_neg (by omega)]
    have : t * u / effS W = quo t (effS W) u := rfl
    rw [this, if_neg (by omega)]
  · unfold quo rst
    rw [Int.mul_comm (t * u / effS W)]
    exact (Int.mul_ediv_add_emod _ _).symm
/-- The rest, as the program reckons it: modulo 2^64. -/
theorem rest_wrap {t u q S r : Int} (h : t * u = q * S + r) (h0 : 0 ≤ r) (h1 : r ≤ 1000000000000) : IntKind.i64.wrap (IntKind.u64.wrap (IntKind.u64.wrap (t * u) - IntKind.u64.wrap (q * S))) = r := by
  generalize t * u = x at *
  generalize q * S = y at *
  simp only [IntKind.wrap_u64, IntKind.wrap_i64]
  omega
end Go.Proofs.YtehjalgogjkdlaaGreatDoor
