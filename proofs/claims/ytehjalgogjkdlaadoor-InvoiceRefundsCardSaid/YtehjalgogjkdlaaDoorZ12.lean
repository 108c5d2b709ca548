/- Plain: the reference's MulDiv, bit by bit. No condition. The reference's numbers: carry, MulDiv. No condition. Over any program: slices of any shape (nil too) as sources: x[:m], x[m:], append(v, x...). No condition. Over any program: slices that came in (nil too): append(v, x...), pieces; a law of a list of operations at a step of a region that draws. No condition. -/
import Derived.Laws.AppendOwnNone
import Derived.Deep.RegionHeld3
import Derived.Deep.RegionLaw
import Derived.Test.YtehjalgogjkdlaaDoorZ01
import Derived.Test.YtehjalgogjkdlaaDoorZ07
import Derived.Test.YtehjalgogjkdlaaDoorZ02
namespace Go.Proofs.YtehjalgogjkdlaaDoor
set_option linter.unusedVariables false
set_option linter.unusedSimpArgs false
open Go.RowKit
/-- One round: the leading bits p become 2 p + t. -/
theorem md_step {q r p b c t : Nat} (hc : 0 < c) (h : q * c + r = p * b) (hr : r < c) (ht : t ≤ 1) (q1 r1 q2 r2 : Nat)
    (h1 : (q1, r1) = if c ≤ 2 * r then (2 * q + 1, 2 * r - c) else (2 * q, 2 * r))
    (h2 : (q2, r2) = if t = 1 then (if c ≤ r1 + b % c then (q1 + b / c + 1, r1 + b % c - c) else (q1 + b / c, r1 + b % c)) else (q1, r1)) :
    q2 * c + r2 = (2 * p + t) * b ∧ r2 < c := by
  have e1 : q1 * c + r1 = 2 * p * b ∧ r1 < c := by
    have : 2 * p * b = 2 * (q * c) + 2 * r := by rw [Nat.mul_assoc, ← h]; omega
    rw [this]
    split at h1 <;> cases h1
    · refine ⟨?_, by omega⟩
      rw [Nat.add_mul, Nat.mul_assoc]; omega
    · refine ⟨by rw [Nat.mul_assoc], by omega⟩
  clear h1 h
  obtain ⟨e1, e2⟩ := e1
  have hm := Nat.mod_lt b hc
  have hd := Nat.div_add_mod b c
  rw [Nat.mul_comm] at hd
  rcases (by omega : t = 0 ∨ t = 1) with rfl | rfl
  · simp only [Nat.zero_ne_one, if_false] at h2
    cases h2
    exact ⟨by simpa using e1, e2⟩
  · simp only [if_true] at h2
    have : (2 * p + 1) * b = q1 * c + r1 + (b / c * c + b % c) := by rw [Nat.add_mul, Nat.one_mul, ← e1, hd]
    rw [this]
    split at h2 <;> cases h2
    · refine ⟨?_, by omega⟩
      rw [Nat.add_mul, Nat.add_mul]; omega
    · refine ⟨?_, by omega⟩
      rw [Nat.add_mul]; omega
theorem md_quot {q r x c : Nat} (h : q * c + r = x) (hr : r < c) : x / c = q := by
  subst h
  rw [Nat.mul_comm, Nat.mul_add_div (by omega), Nat.div_eq_of_lt hr, Nat.add_zero]
/-- The next leading bit. -/
theorem md_bit (a k : Nat) : a / 2 ^ k = 2 * (a / 2 ^ (k + 1)) + (a / 2 ^ k) % 2 := by
  have : a / 2 ^ (k + 1) = a / 2 ^ k / 2 := by rw [Nat.pow_succ, Nat.div_div_eq_div_mul]
  rw [this]; omega
theorem md_test (a k : Nat) : (a &&& 2 ^ k = 0) ↔ (a / 2 ^ k) % 2 = 0 := by
  have h : a.testBit k = decide ((a / 2 ^ k) % 2 = 1) := Nat.testBit_eq_decide_div_mod_eq
  constructor
  · intro e
    have : (a &&& 2 ^ k).testBit k = false := by rw [e]; simp
    rw [Nat.testBit_and, Nat.testBit_two_pow_self, Bool.and_true, h] at this
    simp at this; omega
  · intro e
    have h0 : a.testBit k = false := by rw [h]; simp [e]
    refine Nat.eq_of_testBit_eq fun i => ?_
    rw [Nat.testBit_and, Nat.testBit_two_pow, Nat.zero_testBit]
    by_cases hi : k = i
    · subst hi; simp [h0]
    · simp [hi]
theorem md_mono {a b c k M : Nat} (h : M < a / 2 ^ k * b / c) : M < a * b / c :=
  Nat.lt_of_lt_of_le h (Nat.div_le_div_right (Nat.mul_le_mul_right b (Nat.div_le_self a _)))
end Go.Proofs.YtehjalgogjkdlaaDoor

namespace Go.Proofs.YtehjalgogjkdlaaDoor
set_option linter.unusedVariables false
set_option linter.unusedSimpArgs false
open Go.RowKit
theorem bits_and_i64_nat (a b : Nat) (ha : a < 9223372036854775808) (hb : b < 9223372036854775808) : bits .and .i64 (a : Int) (b : Int) = ((a &&& b : Nat) : Int) := by
  have hx : a &&& b < 2 ^ 63 := Nat.and_lt_two_pow _ (by omega)
  have h1 : (BitVec.ofInt 64 (a : Int)).toNat = a := by
    rw [BitVec.ofInt_natCast, BitVec.toNat_ofNat]; exact Nat.mod_eq_of_lt (by omega)
  have h2 : (BitVec.ofInt 64 (b : Int)).toNat = b := by
    rw [BitVec.ofInt_natCast, BitVec.toNat_ofNat]; exact Nat.mod_eq_of_lt (by omega)
  show IntKind.i64.wrap ((BitVec.ofInt 64 (a : Int) &&& BitVec.ofInt 64 (b : Int)).toNat : Int) = _
  rw [BitVec.toNat_and, h1, h2, IntKind.wrap_i64]
  omega
/-- What the loop of the reference's MulDiv keeps: k bits are left. -/
structure MdI (a b c k Q R : Nat) : Prop where
  eq : Q * c + R = a / 2 ^ k * b
  lt : R < c
  top : Q ≤ 1000000000000
/-- A round's numbers. -/
structure MdR (a b c k Q R q1 r1 q2 r2 t : Nat) : Prop where
  h1 : (q1, r1) = if c ≤ 2 * R then (2 * Q + 1, 2 * R - c) else (2 * Q, 2 * R)
  h2 : (q2, r2) = if t = 1 then (if c ≤ r1 + b % c then (q1 + b / c + 1, r1 + b % c - c) else (q1 + b / c, r1 + b % c)) else (q1, r1)
  t : t = a / 2 ^ k % 2
theorem MdR.next {a b c k Q R q1 r1 q2 r2 t : Nat} (h : MdR a b c k Q R q1 r1 q2 r2 t) (i : MdI a b c (k + 1) Q R) : q2 * c + r2 = a / 2 ^ k * b ∧ r2 < c := by
  have := md_step (by have := i.lt; omega) i.eq i.lt (by rw [h.t]; omega : t ≤ 1) q1 r1 q2 r2 h.h1 h.h2
  rw [h.t, ← md_bit a k] at this
  exact this
end Go.Proofs.YtehjalgogjkdlaaDoor

namespace Go.Proofs.YtehjalgogjkdlaaDoor
set_option linter.unusedVariables false
set_option linter.unusedSimpArgs false
open Go.RowKit
section
variable {α : Type} {cf : α → List Value} {sz : Nat}

/-- The slice value v reads as l: nil, or a piece of a block. -/
def SrcIs (cf : α → List Value) (sz : Nat) (w : World) (v : Value) (l : List α) : Prop :=
  (v = .slice none 0 0 ∧ l = []) ∨ ∃ g off c, v = .slice (some ⟨g, off, none⟩) l.length c ∧ l.length ≤ c ∧ c ≤ maxLen ∧ g < w.heap.size ∧ ∀ k (hk : k < l.length) j, j < sz → w.cell? ⟨g, off + (k * sz + j), none⟩ = (cf l[k])[j]?
theorem SrcIs.kept {w w' : World} {v : Value} {l : List α} (h : SrcIs cf sz w v l) (hc : Chg [] w w') : SrcIs cf sz w' v l := by
  rcases h with h | ⟨g, off, c, h1, h2, h3, h4, h5⟩
  · exact .inl h
  · refine .inr ⟨g, off, c, h1, h2, h3, hc.lt h4, fun k hk j hj => ?_⟩
    rw [← h5 k hk j hj]
    exact World.cell?_of_block (w := w) (hc.block g h4 (by simp))
theorem RowOf.src {w : World} {base : Nat} {e : TypeId} {v : Value} {l : List α} (h : RowOf cf sz w base e v l) (hc : ∀ x, (cf x).length = sz) : SrcIs cf sz w v l := by
  rcases RowOf.at h hc with h1 | ⟨g, cap, h1, h2, h3, h4, _, _, h5⟩
  · exact .inl h1
  · exact .inr ⟨g, 0, cap, h1, h2, h3, h5, fun k hk j hj => by rw [Nat.zero_add]; exact h4 k hk j hj⟩

/-- 'x[:m]'. -/
theorem wpl_slice_hX {P : Program} {w : World} {ops : Array Oper} {rest : List Oper} {o : Oper} {a : Act} {Q : Exit → Act → World → Prop} (hgd : o.guard = none) (s h : Operand) (t : TypeId) (ho : o.op = Op.slice t s none (some h) none) (ht : P.underlying t = some (.slice (P.elem t)))
    (hsz : (sizeOf (P.elem t)).run P w = .ok sz w) (v : Value) (l : List α) (m : Nat) (hs : a.eval s = v) (hsrc : SrcIs cf sz w v l) (hh : a.eval h = .int .i64 (m : Int)) (hm : m ≤ l.length)
    (hK : ∀ v', SrcIs cf sz w v' (l.take m) → wpList P ops Q rest (a.put o.dst v') w) : wpList P ops Q (o :: rest) a w := by
  rcases hsrc with ⟨rfl, rfl⟩ | ⟨g, off, c, rfl, h2, h3, h4, h5⟩
  · have hm0 : m = 0 := by simpa using hm
    refine wpList_plain hgd fun K' hK' => ?_
    have hrun := run_slice_h (P := P) (w := w) t none 0 0 ht .i64 (m : Int) (by omega) (by omega)
    rw [hsz] at hrun
    simp only [Result.andThen, sliced, Int.toNat_natCast, Nat.sub_zero, Nat.zero_mul, Option.map_none, ite_self] at hrun
    rw [← run_sliceAt_slice (P := P) (h := ht)] at hrun
    unfold Oper.wp
    simp [execOp, ho, hs, hh, hrun, Result.andThen]
    exact hK' _ _ (hK _ (.inl ⟨by rw [hm0], by simp⟩))
  · refine wpl_slice_h hgd s h t ho ht hsz g off l.length c m hs hh (by omega) ?_
    have e1 : (l.take m).length = m := by rw [List.length_take]; omega
    refine hK _ (.inr ⟨g, off, c, by rw [e1], by omega, h3, h4, fun k hk j hj => ?_⟩)
    rw [h5 k (by omega) j hj, List.getElem_take]

/-- 'x[m:]'. -/
theorem wpl_slice_lX {P : Program} {w : World} {ops : Array Oper} {rest : List Oper} {o : Oper} {a : Act} {Q : Exit → Act → World → Prop} (hgd : o.guard = none) (s h : Operand) (t : TypeId) (ho : o.op = Op.slice t s (some h) none none) (ht : P.underlying t = some (.slice (P.elem t)))
    (hsz : (sizeOf (P.elem t)).run P w = .ok sz w) (v : Value) (l : List α) (m : Nat) (hs : a.eval s = v) (hsrc : SrcIs cf sz w v l) (hh : a.eval h = .int .i64 (m : Int)) (hm : m ≤ l.length)
    (hK : ∀ v', SrcIs cf sz w v' (l.drop m) → wpList P ops Q rest (a.put o.dst v') w) : wpList P ops Q (o :: rest) a w := by
  rcases hsrc with ⟨rfl, rfl⟩ | ⟨g, off, c, rfl, h2, h3, h4, h5⟩
  · have hm0 : m = 0 := by simpa using hm
    refine wpList_plain hgd fun K' hK' => ?_
    have hrun := run_slice_l (P := P) (w := w) t none 0 0 ht .i64 (m : Int) (by omega) (by omega)
    rw [hsz] at hrun
    simp only [Result.andThen, sliced, Int.toNat_natCast, Option.map_none, ite_self] at hrun
    rw [← run_sliceAt_slice (P := P) (h := ht)] at hrun
    unfold Oper.wp
    simp [execOp, ho, hs, hh, hrun, Result.andThen]
    exact hK' _ _ (hK _ (.inl ⟨by first | rfl | rw [hm0], by simp⟩))
  · refine wpl_slice_l hgd s h t ho ht hsz g off l.length c m hs hh (by omega) h2 ?_
    intro off' hoff
    have e1 : (l.drop m).length = l.length - m := List.length_drop
    refine hK _ (.inr ⟨g, off', c - m, by rw [e1], by omega, by omega, h4, fun k hk j hj => ?_⟩)
    rcases hoff with rfl | rfl
    · have := h5 (m + k) (by omega) j hj
      rw [List.getElem_drop, ← this, Nat.add_mul]
      congr 2
      omega
    · simp at hk

/-- 'append(v, x...)'. -/
theorem wpl_appendsX {P : Program} {w : World} {ops : Array Oper} {rest : List Oper} {o : Oper} {a : Act} {Q : Exit → Act → World → Prop} (hgd : o.guard = none) (s x : Operand) (t : TypeId)
    (ho : o.op = .call { callee := .builtin .append, args := #[s, x], argTypes := #[t, t] }) (base : Nat) (e : TypeId) (z : Value) (bytes : Nat) (ht : P.underlying t = some (.slice e)) (hi : (P.info? e).map (fun i => (i.zero, i.size, i.bytes)) = some (some z, sz, bytes))
    (hzs : z.cells.size = sz) (hsz : 0 < sz) (hc : ∀ x, (cf x).length = sz) (h1 : ∀ x, ∀ u ∈ cf x, u.oneCell' = true) (v : Value) (l : List α) (hs : a.eval s = v) (hown : RowOf cf sz w base e v l)
    (vx : Value) (ys : List α) (hx : a.eval x = vx) (hsrc : SrcIs cf sz w vx ys) (h63 : l.length + ys.length ≤ maxLen) (hbytes : (l.length + ys.length) * bytes ≤ 140737488355328) (hbase : base ≤ w.heap.size)
    (h : ∀ v' w', RowOf cf sz w' base e v' (l ++ ys) → Chg v.ownBlock.toList w w' → wpList P ops Q rest (a.put o.dst v') w') : wpList P ops Q (o :: rest) a w := by
  rcases hsrc with ⟨rfl, rfl⟩ | ⟨g, off, c, rfl, h2, h3, h4, h5⟩
  · obtain ⟨i, hi0, _⟩ := info_parts hi
    refine wpList_append_own_none hgd s x t ho base e i sz ht hi0 v l.length (l.flatMap cf) hs hown hx ?_
    exact h v w (by simpa using hown) (Chg.refl _ _)
  · refine wpl_appends hgd s x t ho base e z bytes ht hi hzs hsz hc h1 v l hs hown g off c ys.length ys hx rfl h5 h63 hbytes hbase ?_
    intro v' w' hr hg _
    exact h v' w' hr (Chg.ofRow hg)
end
end Go.Proofs.YtehjalgogjkdlaaDoor

namespace Go.Proofs.YtehjalgogjkdlaaDoor
set_option linter.unusedVariables false
set_option linter.unusedSimpArgs false
open Go.RowKit
section
variable {P : Program} {α : Type} {cf : α → List Value} {sz : Nat}
/-- A slice that came in. -/
def InIs (cf : α → List Value) (sz : Nat) (w : World) (a : Option Addr) (c : Nat) (l : List α) : Prop := SlIs cf sz w a l.length l ∧ l.length ≤ c ∧ c ≤ maxLen ∧ (a = none → c = 0)
theorem InIs.kept {w w' : World} {a : Option Addr} {c : Nat} {l : List α} (h : InIs cf sz w a c l) (hc : Chg [] w w') : InIs cf sz w' a c l := ⟨h.1.kept hc, h.2⟩
theorem SlIs.none {w : World} {n : Nat} {l : List α} (h : SlIs cf sz w none n l) : n = 0 ∧ l = [] := by
  obtain ⟨h1, h2⟩ := h
  cases l with
  | nil => exact ⟨h1.symm, rfl⟩
  | cons x l =>
    obtain ⟨b, o, h, _⟩ := h2 0 (by simp)
    cases h
theorem InIs.src {w : World} {a : Option Addr} {c : Nat} {l : List α} (h : InIs cf sz w a c l) (hl : 0 < l.length) : SrcIs cf sz w (.slice a l.length c) l := by
  obtain ⟨h1, h2, h3, h4⟩ := h
  obtain ⟨b, o, rfl, hb, _⟩ := h1.2 0 hl
  refine .inr ⟨b, o, c, rfl, h2, h3, hb, fun k hk j hj => ?_⟩
  obtain ⟨b', o', e, _, h5⟩ := h1.2 k hk
  cases e
  rw [← h5 j hj]
  congr 2
  omega
theorem InIs.ofRow {w : World} {base : Nat} {e : TypeId} {a : Option Addr} {n c : Nat} {l : List α} (h : RowOf cf sz w base e (.slice a n c) l) (hc : ∀ x, (cf x).length = sz) : n = l.length ∧ InIs cf sz w a c l := by
  have hs := RowOf.sl h hc
  have hn : n = l.length := hs.1.1.symm
  subst hn
  refine ⟨rfl, hs.1, hs.2.1, ?_, ?_⟩
  · rcases RowOf.at h hc with ⟨h1, h2⟩ | ⟨g, cap, h1, h2, h3, _⟩
    · simp only [Value.slice.injEq] at h1; unfold maxLen; omega
    · simp only [Value.slice.injEq] at h1; omega
  · rintro rfl
    rcases RowOf.at h hc with ⟨h1, h2⟩ | ⟨g, cap, h1, h2, h3, _⟩
    · simp only [Value.slice.injEq] at h1; exact h1.2.2
    · simp at h1
/-- 'append(v, x...)'. -/
theorem wpl_appendsI {w : World} {ops : Array Oper} {rest : List Oper} {o : Oper} {a : Act} {Q : Exit → Act → World → Prop} (hgd : o.guard = none) (s x : Operand) (t : TypeId)
    (ho : o.op = .call { callee := .builtin .append, args := #[s, x], argTypes := #[t, t] }) (base : Nat) (e : TypeId) (z : Value) (bytes : Nat) (ht : P.underlying t = some (.slice e)) (hi : (P.info? e).map (fun i => (i.zero, i.size, i.bytes)) = some (some z, sz, bytes))
    (hzs : z.cells.size = sz) (hsz : 0 < sz) (hc : ∀ x, (cf x).length = sz) (h1 : ∀ x, ∀ u ∈ cf x, u.oneCell' = true) (v : Value) (l : List α) (hs : a.eval s = v) (hown : RowOf cf sz w base e v l)
    (ax : Option Addr) (c : Nat) (ys : List α) (hx : a.eval x = .slice ax ys.length c) (hsrc : InIs cf sz w ax c ys) (h63 : l.length + ys.length ≤ maxLen) (hbytes : (l.length + ys.length) * bytes ≤ 140737488355328) (hbase : base ≤ w.heap.size)
    (h : ∀ v' w', RowOf cf sz w' base e v' (l ++ ys) → Chg v.ownBlock.toList w w' → wpList P ops Q rest (a.put o.dst v') w') : wpList P ops Q (o :: rest) a w := by
  by_cases hys : 0 < ys.length
  · exact wpl_appendsX hgd s x t ho base e z bytes ht hi hzs hsz hc h1 v l hs hown _ ys hx (hsrc.src hys) h63 hbytes hbase h
  · have hn : ys = [] := by simpa using hys
    subst hn
    obtain ⟨i, hi0, hz0, hz1, hz2⟩ := info_parts hi
    cases ax with
    | none =>
      have hc0 := hsrc.2.2.2 rfl
      subst hc0
      exact wpl_appendsX hgd s x t ho base e z bytes ht hi hzs hsz hc h1 v l hs hown _ [] hx (.inl ⟨rfl, rfl⟩) h63 hbytes hbase h
    | some ad =>
      refine wpList_append_own _ hgd s x t ho base e i z sz bytes ht hi0 hz0 hz1 hz2 hzs hsz v l.length (l.flatMap cf) hs hown ad 0 c [] hx (by simp) (by intro j u hj; simp at hj) (by intro u hu; simp at hu) h63 hbytes hbase ?_
      intro v' w' hown' hg _
      exact h v' w' (by unfold RowOf; simpa using hown') (Chg.ofRow hg)
/-- A law of a list of operations, at a step of a region that draws. -/
theorem step_list {ops : Array Oper} {o : Oper} {a : Act} {w : World} {K : Act → World → Prop} {Q : Exit → Act → World → Prop} {E : Prop} {tm : Array Value} (hgd : o.guard = none)
    (h : wpList P ops (fun e a' w' => e = .normal ∧ K a' w') [o] a w) : if Region.wanted o (yielded ops tm) = true then Oper.wp P o a w K Q else E := by
  have hw : ∀ tm, Region.wanted o (yielded ops tm) = true := fun tm => by simp [Region.wanted, hgd]
  rw [if_pos (hw _)]
  have h2 : Oper.wp P o a w (fun a' w' => True ∧ K a' w') (fun e a' w' => e = .normal ∧ K a' w') := by
    unfold wpList at h
    rw [if_pos (hw _)] at h
    rcases h with h | ⟨_, a', w', h, _⟩
    · exact Oper.wp_mono (fun a w h => ⟨trivial, h.2⟩) h
    · cases h
  unfold Oper.wp Oper.upon at h2 ⊢
  revert h2
  generalize (execOp a.eval o).run P w = r
  rcases r with ⟨r, w'⟩ | ⟨r, w'⟩
  · cases r with
    | value v => exact fun h => h.2
    | skip => exact fun h => h.2
    | defer d => exact fun h => h.2
    | enter f args =>
      intro h
      refine Calls.mono h ?_
      intro e w'' he
      cases e with
      | returned v => exact he.2
      | panicked chain => exact absurd he.1 (by simp)
      | outgrown => obtain ⟨a', w', h, _⟩ := he; cases h
    | row r args => intro h; exact Rows.mono h (fun v w h => h.2)
    | _ => exact fun h => h
  · cases r with
    | panic v => intro h; exact absurd h.1 (by simp)
    | _ => exact fun h => h
end
end Go.Proofs.YtehjalgogjkdlaaDoor
