/- Chapter 52: play. No condition. Chapter 52: the example that each statement checks: the states. No condition. Chapter 52: the example that each statement checks. No condition. Chapter 52: has; a part of a slice; a list of strings beside two ledgers. No condition. Chapter 53: contract of the reference: Split of a valid price. No condition. The reference's numbers: amount, result, Mul, Add, of numbers from 0 on. No condition. -/
import Derived.Test.YtehjalgogjkdlaaDoorZ21
import Derived.Test.YtehjalgogjkdlaaDoorZ18
import Derived.Test.YtehjalgogjkdlaaDoorZ15
import Derived.Test.YtehjalgogjkdlaaDoorZ14
import Derived.Test.YtehjalgogjkdlaaDoorZ12
import Derived.Test.YtehjalgogjkdlaaDoorZ16
namespace Go.Proofs.YtehjalgogjkdlaaDoor
set_option linter.unusedVariables false
set_option linter.unusedSimpArgs false
open Go.RowKit
variable {W w : World} {b : Nat} {s : Led} {K : List Nat → World → Prop}
theorem p_byf (sK : Side K) (h : Pair W w (JL b s) K) (tn fn : ByteArray) (p : Int) (hs : tn.size ≤ maxLen) (hs' : fn.size ≤ maxLen) (hl : s.l.length ≤ 4000) :
    Calls Tryd.prog 40 #[.pointer (some ⟨b, 0, none⟩), .string tn, .string fn, .int .i64 p] w fun e w' => e = .returned (.tuple #[usV (byU s tn fn p).1, usV (byU s tn fn p).2.1, .int .i64 (byU s tn fn p).2.2]) ∧ Chg [] w w' ∧ Pair W w' (JL b s) K := by
  obtain ⟨mb, v, h1⟩ := h.led
  refine (byf_any tn fn p h1 hs hs' hl).mono ?_
  rintro e w' ⟨rfl, hc⟩
  exact ⟨rfl, hc, h.keptN (sideL b s) sK hc⟩
theorem foldl_take {α β : Type} (f : β → α → β) (s : β) (l : List α) (k : Nat) (h : k < l.length) : (l.take (k + 1)).foldl f s = f ((l.take k).foldl f s) l[k] := by
  rw [List.take_succ_eq_append_getElem h, List.foldl_append]
  rfl
end Go.Proofs.YtehjalgogjkdlaaDoor

namespace Go.Proofs.YtehjalgogjkdlaaDoor
set_option linter.unusedVariables false
set_option linter.unusedSimpArgs false
open Go.RowKit
def awR (id fn : UInt8) (n : Int) : UR := ⟨⟨#[id]⟩, ⟨#[116]⟩, ⟨#[fn]⟩, 0, ⟨1, 1, 1, n⟩, false⟩
def as0 : Led := ⟨[], 0⟩
def as1 : Led := ⟨[⟨awR 97 102 3, 0⟩], 0⟩
def as2 : Led := ⟨[⟨awR 97 102 3, 0⟩, ⟨awR 98 103 4, 0⟩], 0⟩
def as3 : Led := ⟨[⟨awR 97 102 3, 0⟩, ⟨awR 98 103 4, 0⟩], 1⟩
theorem awE1 : recE as0 (awR 97 102 3) = 0 := by kernel_rfl
theorem awE2 : recE as1 (awR 98 103 4) = 0 := by kernel_rfl
theorem awE3 : recE as2 (awR 97 102 3) = 0 := by kernel_rfl
theorem awE4 : recE as2 (awR 97 102 4) = 19 := by kernel_rfl
theorem awS1 : recS as0 (awR 97 102 3) = as1 := by kernel_rfl
theorem awS2 : recS as1 (awR 98 103 4) = as2 := by kernel_rfl
theorem awS3 : recS as2 (awR 97 102 3) = as2 := by kernel_rfl
theorem awS4 : recS as2 (awR 97 102 4) = as2 := by kernel_rfl
theorem awT : totU as2 ⟨#[116]⟩ 0 = (⟨2, 2, 2, 7⟩, 0) := by kernel_rfl
theorem awF0 : fnL ⟨#[116]⟩ 0 as2.l = [[102], [103]] := by kernel_rfl
theorem awF : fnsU as2 ⟨#[116]⟩ 0 = [[102], [103]] := by
  unfold fnsU
  rw [awF0]
  have : ([[102], [103]] : List (List UInt8)).mergeSort leB = [[102], [103]] := by
    refine List.mergeSort_of_pairwise ?_
    simp [leB]
    decide
  have c : Lib.compact ([[102], [103]] : List (List UInt8)) = [[102], [103]] := by kernel_rfl
  rw [this, c]
theorem awC1 : closeE as2 0 = 0 := by kernel_rfl
theorem awD1 : closeS as2 0 = as3 := by kernel_rfl
theorem awC2 : closeE as3 0 = 11 := by kernel_rfl
theorem awD2 : closeS as3 0 = as3 := by kernel_rfl
theorem awG1 : (awR 97 102 3).good := ⟨by decide, by decide, by decide, by decide, by decide, by decide, by decide, by decide⟩
theorem awG2 : (awR 98 103 4).good := ⟨by decide, by decide, by decide, by decide, by decide, by decide, by decide, by decide⟩
theorem awG4 : (awR 97 102 4).good := ⟨by decide, by decide, by decide, by decide, by decide, by decide, by decide, by decide⟩
end Go.Proofs.YtehjalgogjkdlaaDoor

namespace Go.Proofs.YtehjalgogjkdlaaDoor
set_option linter.unusedVariables false
set_option linter.unusedSimpArgs false
open Go.RowKit
theorem aw_rec1 {W w : World} {b : Nat} (h : Pair W w (JL b as0) NoSide) : Calls Tryd.prog 18 #[.pointer (some ⟨b, 0, none⟩), .agg #[.string ⟨#[97]⟩, .string ⟨#[116]⟩, .string ⟨#[102]⟩, .int .i64 0, .int .i64 1, .int .i64 1, .int .i64 1, .int .i64 3, .bool false]] w fun e w' => e = .returned (.int .i64 0) ∧ Pair W w' (JL b as1) NoSide := by
  have := p_rec noSide h (awR 97 102 3) awG1 (by decide)
  rw [awE1, awS1] at this
  exact this
theorem aw_rec2 {W w : World} {b : Nat} (h : Pair W w (JL b as1) NoSide) : Calls Tryd.prog 18 #[.pointer (some ⟨b, 0, none⟩), .agg #[.string ⟨#[98]⟩, .string ⟨#[116]⟩, .string ⟨#[103]⟩, .int .i64 0, .int .i64 1, .int .i64 1, .int .i64 1, .int .i64 4, .bool false]] w fun e w' => e = .returned (.int .i64 0) ∧ Pair W w' (JL b as2) NoSide := by
  have := p_rec noSide h (awR 98 103 4) awG2 (by decide)
  rw [awE2, awS2] at this
  exact this
theorem aw_rec3 {W w : World} {b : Nat} (h : Pair W w (JL b as2) NoSide) : Calls Tryd.prog 18 #[.pointer (some ⟨b, 0, none⟩), .agg #[.string ⟨#[97]⟩, .string ⟨#[116]⟩, .string ⟨#[102]⟩, .int .i64 0, .int .i64 1, .int .i64 1, .int .i64 1, .int .i64 3, .bool false]] w fun e w' => e = .returned (.int .i64 0) ∧ Pair W w' (JL b as2) NoSide := by
  have := p_rec noSide h (awR 97 102 3) awG1 (by decide)
  rw [awE3, awS3] at this
  exact this
theorem aw_rec4 {W w : World} {b : Nat} (h : Pair W w (JL b as2) NoSide) : Calls Tryd.prog 18 #[.pointer (some ⟨b, 0, none⟩), .agg #[.string ⟨#[97]⟩, .string ⟨#[116]⟩, .string ⟨#[102]⟩, .int .i64 0, .int .i64 1, .int .i64 1, .int .i64 1, .int .i64 4, .bool false]] w fun e w' => e = .returned (.int .i64 19) ∧ Pair W w' (JL b as2) NoSide := by
  have := p_rec noSide h (awR 97 102 4) awG4 (by decide)
  rw [awE4, awS4] at this
  exact this
theorem aw_total {W w : World} {b : Nat} (h : Pair W w (JL b as2) NoSide) : Calls Tryd.prog 37 #[.pointer (some ⟨b, 0, none⟩), .string ⟨#[116]⟩, .int .i64 0] w fun e w' => e = .returned (.tuple #[.agg #[.int .i64 2, .int .i64 2, .int .i64 2, .int .i64 7], .int .i64 0]) ∧ Chg [] w w' ∧ Pair W w' (JL b as2) NoSide := by
  have := p_total noSide h ⟨#[116]⟩ 0 (by decide) (by decide)
  rw [awT] at this
  exact this
theorem aw_funcs {W w : World} {b : Nat} (h : Pair W w (JL b as2) NoSide) : Calls Tryd.prog 39 #[.pointer (some ⟨b, 0, none⟩), .string ⟨#[116]⟩, .int .i64 0] w fun e w' => ∃ a c, e = .returned (.slice a 2 c) ∧ SlIs kc 1 w' a 2 [[102], [103]] ∧ Chg [] w w' ∧ Pair W w' (JL b as2) NoSide := by
  have := p_funcs noSide h ⟨#[116]⟩ 0 (by decide)
  rw [awF] at this
  exact this
end Go.Proofs.YtehjalgogjkdlaaDoor

namespace Go.Proofs.YtehjalgogjkdlaaDoor
set_option linter.unusedVariables false
set_option linter.unusedSimpArgs false
open Go.RowKit
theorem wpl_slice_lh {P : Program} {k : Nat} {w : World} {ops : Array Oper} {rest : List Oper} {o : Oper} {a : Act} {Q : Exit → Act → World → Prop} (hgd : o.guard = none) (s l h : Operand) (t : TypeId) (ho : o.op = Op.slice t s (some l) (some h) none) (ht : P.underlying t = some (.slice (P.elem t)))
    (hsz : (sizeOf (P.elem t)).run P w = .ok k w) (g off n c m j : Nat) (hs : a.eval s = .slice (some ⟨g, off, none⟩) n c) (hl : a.eval l = .int .i64 (m : Int)) (hh : a.eval h = .int .i64 (j : Int)) (hm : m ≤ j) (hj : j ≤ c) (hne : m < c) (hK : wpList P ops Q rest (a.put o.dst (.slice (some ⟨g, off + m * k, none⟩) (j - m) (c - m))) w) : wpList P ops Q (o :: rest) a w := by
  refine wpList_plain hgd fun K' hK' => ?_
  have hrun := run_slice_lh (P := P) (w := w) t (some ⟨g, off, none⟩) n c ht .i64 .i64 (m : Int) (j : Int) (by omega) (by omega) (by omega)
  rw [hsz] at hrun
  simp only [Result.andThen, sliced, Int.toNat_natCast, Option.map_some, addr_none] at hrun
  rw [if_neg (show ¬ c = m by omega)] at hrun
  rw [← run_sliceAt_slice (P := P) (h := ht)] at hrun
  unfold Oper.wp
  simp [execOp, ho, hs, hl, hh, hrun, Result.andThen]
  exact hK' _ _ hK
theorem wpl_slice_one {P : Program} {k : Nat} {w : World} {ops : Array Oper} {rest : List Oper} {o : Oper} {a : Act} {Q : Exit → Act → World → Prop} (hgd : o.guard = none) (s l h : Operand) (t : TypeId) (ho : o.op = Op.slice t s (some l) (some h) none) (ht : P.underlying t = some (.slice (P.elem t)))
    (hsz : (sizeOf (P.elem t)).run P w = .ok k w) (g off n c m : Nat) (hs : a.eval s = .slice (some ⟨g, off, none⟩) n c) (hl : a.eval l = .int .i64 (m : Int)) (hh : a.eval h = .int .i64 ((m : Int) + 1)) (hj : m + 1 ≤ c) (hK : wpList P ops Q rest (a.put o.dst (.slice (some ⟨g, off + m * k, none⟩) 1 (c - m))) w) : wpList P ops Q (o :: rest) a w := by
  refine wpl_slice_lh hgd s l h t ho ht hsz g off n c m (m + 1) hs hl (by rw [hh]; rfl) (by omega) hj (by omega) ?_
  rw [show m + 1 - m = 1 by omega]
  exact hK
/-- One element as a slice. -/
theorem SlIs.one {α : Type} {cf : α → List Value} {sz : Nat} {w : World} {g off n : Nat} {l : List α} (h : SlIs cf sz w (some ⟨g, off, Option.none⟩) n l) (k : Nat) (hk : k < l.length) : SlIs cf sz w (some ⟨g, off + k * sz, Option.none⟩) 1 [l[k]] := by
  refine ⟨rfl, fun j hj => ?_⟩
  have hj0 : j = 0 := by simpa using hj
  subst hj0
  obtain ⟨b, o, h1, h2, h3⟩ := h.2 k hk
  cases h1
  exact ⟨g, off + k * sz, rfl, h2, fun i hi => by rw [Nat.zero_mul, Nat.add_zero]; exact h3 i hi⟩
section
variable {P : Program} {α : Type} {cf : α → List Value} {sz : Nat}
theorem wpl_appendL {w : World} {ops : Array Oper} {rest : List Oper} {o : Oper} {a : Act} {Q : Exit → Act → World → Prop} (hgd : o.guard = none) (s x : Operand) (t : TypeId)
    (ho : o.op = .call { callee := .builtin .append, args := #[s, x], argTypes := #[t, t] }) (base : Nat) (e : TypeId) (z : Value) (bytes : Nat) (ht : P.underlying t = some (.slice e)) (hi : (P.info? e).map (fun i => (i.zero, i.size, i.bytes)) = some (some z, sz, bytes))
    (hzs : z.cells.size = sz) (hsz : 0 < sz) (hc : ∀ x, (cf x).length = sz) (h1 : ∀ x, ∀ u ∈ cf x, u.oneCell' = true) (v : Value) (l : List α) (hs : a.eval s = v) (hown : RowOf cf sz w base e v l)
    (g c : Nat) (y : α) (cur : Array Value) (tt : TypeId) (fr : Nat × Nat) (hx : a.eval x = .slice (some ⟨g, 0, none⟩) 1 c) (hnew : w.heap[g]? = some (.cells cur tt fr)) (hcur : cur.toList = cf y) (h63 : l.length + 1 ≤ maxLen) (hbytes : (l.length + 1) * bytes ≤ 140737488355328) (hbase : base ≤ w.heap.size)
    (h : ∀ g' cap w', RowOf cf sz w' base e (.slice (some ⟨g', 0, none⟩) (l.length + 1) cap) (l ++ [y]) → w.grownBy w' v.ownBlock → (v.ownBlock = some g' ∨ g' = w.heap.size) → g' < w'.heap.size → wpList P ops Q rest (a.put o.dst (.slice (some ⟨g', 0, none⟩) (l.length + 1) cap)) w') :
    wpList P ops Q (o :: rest) a w := by
  obtain ⟨i, hi0, hz0, hz1, hz2⟩ := info_parts hi
  refine wpList_append_lies w hgd s x t ho base e i z sz bytes ht hi0 hz0 hz1 hz2 hzs hsz v l.length (l.flatMap cf) hs hown ⟨g, 0, none⟩ 1 c (cf y) hx (by rw [hc]; omega) ?_ (h1 y) (by omega) h63 hbytes hbase w.heap.size rfl ?_
  · intro j u hj
    have : (⟨g, 0, none⟩ : Addr).add j = ⟨g, j, none⟩ := by
      unfold Addr.add; split
      · rename_i e; rw [e]
      · simp
    rw [this, blk_cell hnew, ← Array.getElem?_toList, hcur]; exact hj
  · intro g' cap w' hown' hg hat hlt
    exact h g' cap w' (by unfold RowOf; simpa using hown') hg hat hlt
end
/-- A list of strings of the call's own, as a side. -/
def RowS (v : Value) (l : List (List UInt8)) : List Nat → World → Prop := fun f w => f = v.ownBlock.toList ∧ RowOf kc 1 w 0 9 v l
theorem rowSide (v : Value) (l : List (List UInt8)) : Side (RowS v l) := by
  constructor
  · rintro f w ⟨rfl, h⟩ x hx
    exact (h.block x (by simpa using hx)).2
  · rintro f S w w' ⟨rfl, h⟩ hc hS
    exact ⟨rfl, h.kept hc (fun g hg => hS g (by simp [hg]))⟩
variable {W w w' : World} {J K M M' : List Nat → World → Prop}
theorem Pair.comm (h : Pair W w J (AndSide K M)) : Pair W w J (AndSide M K) := by
  obtain ⟨f, g, h1, ⟨g1, g2, rfl, k1, k2, k3⟩, h3, h4, h5, h6⟩ := h
  refine ⟨f, g2 ++ g1, h1, ⟨g2, g1, rfl, k2, k1, fun x hx hy => k3 x hy hx⟩, h3, ?_, ?_, h6⟩
  · intro x hx
    exact h4 x (by rcases List.mem_append.1 hx with h | h <;> simp [h])
  · intro x hx hy
    exact h5 x hx (by rcases List.mem_append.1 hy with h | h <;> simp [h])
theorem Pair.row {v : Value} {l : List (List UInt8)} (h : Pair W w J (AndSide K (RowS v l))) : RowOf kc 1 w 0 9 v l := by
  obtain ⟨f, g, h1, ⟨g1, g2, rfl, k1, ⟨_, k2⟩, k3⟩, _⟩ := h
  exact k2
theorem Pair.addRow (sJ : Side J) (sK : Side K) (h : Pair W w J K) : Pair W w J (AndSide K (RowS (.slice none 0 0) [])) := by
  obtain ⟨f, g, h1, h2, h3, h4, h5, h6⟩ := h
  exact ⟨f, g ++ [], h1, ⟨g, [], rfl, h2, ⟨rfl, RowOf.nil _ _ _⟩, by simp⟩, h3, by simpa using h4, by simpa using h5, h6⟩
theorem Pair.turnRow {v v' : Value} {l l' : List (List UInt8)} (sJ : Side J) (sK : Side K) (h : Pair W w J (AndSide K (RowS v l))) (hr : RowOf kc 1 w' 0 9 v' l') (hc : Chg v.ownBlock.toList w w') (hb : ∀ x, v'.ownBlock = some x → v.ownBlock = some x ∨ w.heap.size ≤ x) : Pair W w' J (AndSide K (RowS v' l')) := by
  have h' : Pair W w (RowS v l) (AndSide J K) := h.comm.swap
  refine Pair.comm (Pair.swap ?_)
  refine h'.turn (andSide sJ sK) ?_
  rintro f ⟨rfl, _⟩ _
  exact ⟨v'.ownBlock.toList, ⟨rfl, hr⟩, hc, fun x hx => by
    rcases hb x (by simpa using hx) with h | h
    · exact .inl (by simp [h])
    · exact .inr h⟩
theorem Pair.mid {N : List Nat → World → Prop} (h : Pair W w J (AndSide (AndSide K M) N)) : Pair W w J (AndSide (AndSide K N) M) := by
  obtain ⟨f, g, h1, ⟨g1, g2, rfl, ⟨g3, g4, rfl, k1, k2, k3⟩, k4, k5⟩, h3, h4, h5, h6⟩ := h
  refine ⟨f, (g3 ++ g2) ++ g4, h1, ⟨g3 ++ g2, g4, rfl, ⟨g3, g2, rfl, k1, k4, fun x hx hy => k5 x (by simp [hx]) hy⟩, k2, ?_⟩, h3, ?_, ?_, h6⟩
  · intro x hx hy
    rcases List.mem_append.1 hx with hx | hx
    · exact k3 x hx hy
    · exact k5 x (by simp [hy]) hx
  · intro x hx
    simp only [List.mem_append] at hx
    rcases hx with (hx | hx) | hx <;> exact h4 x (by simp [hx])
  · intro x hx hy
    simp only [List.mem_append] at hy
    rcases hy with (hy | hy) | hy <;> exact h5 x hx (by simp [hy])
theorem Pair.dropMid {N : List Nat → World → Prop} (h : Pair W w J (AndSide (AndSide K N) M)) : Pair W w J (AndSide K M) := by
  obtain ⟨f, g, h1, ⟨g1, g2, rfl, ⟨g3, g4, rfl, k1, k2, k3⟩, k4, k5⟩, h3, h4, h5, h6⟩ := h
  refine ⟨f, g3 ++ g2, h1, ⟨g3, g2, rfl, k1, k4, fun x hx hy => k5 x (by simp [hx]) hy⟩, h3, ?_, ?_, h6⟩
  · intro x hx
    rcases List.mem_append.1 hx with hx | hx <;> exact h4 x (by simp [hx])
  · intro x hx hy
    rcases List.mem_append.1 hy with hy | hy <;> exact h5 x hx (by simp [hy])
theorem Pair.boxMid {u : Nat} {o : Obj} (h : Pair W w J (AndSide (AndSide K (Box u o)) M)) : w.heap[u]? = some o := by
  obtain ⟨f, g, h1, ⟨g1, g2, rfl, ⟨g3, g4, rfl, k1, ⟨_, k2⟩, k3⟩, k4, k5⟩, h3, h4, h5, h6⟩ := h
  exact k2
theorem Pair.drop (h : Pair W w J (AndSide K M)) : Pair W w J K := by
  obtain ⟨f, g, h1, ⟨g1, g2, rfl, k1, k2, k3⟩, h3, h4, h5, h6⟩ := h
  exact ⟨f, g1, h1, k1, h3, fun x hx => h4 x (by simp [hx]), fun x hx hy => h5 x hx (by simp [hy]), h6⟩
theorem mem_step (l : List (List UInt8)) (x : List UInt8) (k : Nat) (hk : k < l.length) : (l.take (k + 1)).contains x = ((l.take k).contains x || l[k] == x) := by
  rw [List.take_succ_eq_append_getElem hk, Bool.eq_iff_iff]
  simp only [List.contains_iff_mem, List.mem_append, List.mem_singleton, Bool.or_eq_true, beq_iff_eq]
  exact ⟨fun h => h.imp id Eq.symm, fun h => h.imp id Eq.symm⟩
theorem str_eq (x : List UInt8) (s : ByteArray) : ((⟨x.toArray⟩ : ByteArray).toList == s.toList) = (x == bs s) := by
  rw [ByteArray.toList_eq, ByteArray.toList_eq]
  simp [bs]
end Go.Proofs.YtehjalgogjkdlaaDoor

namespace Go.Proofs.YtehjalgogjkdlaaDoor
set_option linter.unusedVariables false
set_option linter.unusedSimpArgs false
open Go.RowKit
def partsL (l : List Tr) (n : Int) : List Int := (List.range l.length).map (partAt l n)
theorem partsL_len (l : List Tr) (n : Int) : (partsL l n).length = l.length := by simp [partsL]
theorem partsL_at {l : List Tr} {n : Int} {k : Nat} (h : k < l.length) : (partsL l n)[k]? = some (partAt l n k) := by
  unfold partsL; rw [List.getElem?_map, List.getElem?_range h]; rfl
theorem partsL_take {l : List Tr} {n : Int} {k : Nat} (h : k < l.length) : (partsL l n).take k ++ [partAt l n k] = (partsL l n).take (k + 1) := by
  have := partsL_at (n := n) h
  obtain ⟨hk, e⟩ := List.getElem?_eq_some_iff.1 this
  rw [List.take_succ_eq_append_getElem hk, e]
theorem fromR_le {l : List Tr} {n : Int} (hn : 0 ≤ n) (k : Nat) : 0 ≤ fromR l n k ∧ fromR l n k ≤ n := by
  induction k with
  | zero => simp [fromR]; omega
  | succ k ih => rw [fromR]; split <;> omega
structure RsplI (w wr : World) (p : Prc) (n : Int) (a : Option Addr) (cap : Nat) (oa : Option Addr) (co k : Nat) : Prop where
  row : RowOf icI 1 wr (w.heap.size + 1) 3 (.slice oa k co) ((partsL p.ts n).take k)
  pr : wr.heap[w.heap.size]? = some (prO p a cap)
  chg : Chg [] w wr
theorem RsplI.next {w wr w4 : World} {p : Prc} {n : Int} {a : Option Addr} {cap : Nat} {oa : Option Addr} {co k g4 c4 : Nat} {o : Obj} (h : RsplI w wr p n a cap oa co k) (hr : RowOf icI 1 w4 (w.heap.size + 1) 3 (.slice (some ⟨g4, 0, none⟩) (k + 1) c4) ((partsL p.ts n).take (k + 1))) (hc : Chg (Value.slice oa k co).ownBlock.toList (wr.alloc o) w4) : RsplI w w4 p n a cap (some ⟨g4, 0, none⟩) c4 (k + 1) := by
  have hb : ∀ g, g ∈ (Value.slice oa k co).ownBlock.toList → w.heap.size + 1 ≤ g := fun g hg => (RowOf.block h.row g (by simpa using hg)).1
  refine ⟨hr, hc.at (fun q => ?_) (blk_alloc h.pr), (h.chg.alloc o).trans hc (by simp) (fun x hx hlt => ?_)⟩
  · have := hb _ q; omega
  · have := hb _ hx; omega
end Go.Proofs.YtehjalgogjkdlaaDoor

namespace Go.Proofs.YtehjalgogjkdlaaDoor
set_option linter.unusedVariables false
set_option linter.unusedSimpArgs false
open Go.RowKit
/-- A number that may be too great. -/
def capZ (n : Nat) : Int × Int := if n ≤ 1000000000000 then (n, 0) else (0, 8)
end Go.Proofs.YtehjalgogjkdlaaDoor
