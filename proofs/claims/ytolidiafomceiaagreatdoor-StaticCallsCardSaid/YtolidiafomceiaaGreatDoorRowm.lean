/- Over any program: rows of the call's own, many elements appended at once; an empty row; rows of strings; the sort. No condition. -/
import Derived.Test.YtolidiafomceiaaGreatDoorBase
import Derived.Sort.OwnSorted
import Derived.Sort.KeysCollected
namespace Go.Proofs.YtolidiafomceiaaGreatDoor
set_option linter.unusedVariables false
set_option linter.unusedSimpArgs false
open Go.RowKit
section rows
variable {α : Type} {cf : α → List Value} {sz : Nat}

theorem addr_none (b off j : Nat) : (⟨b, off, none⟩ : Addr).add j = ⟨b, off + j, none⟩ := by
  unfold Addr.add; split
  · rename_i e; rw [e]; rfl
  · rfl

/-- 'out = append(out, ys...)', ys lying somewhere. -/
theorem wpl_appends {P : Program} {w : World} {ops : Array Oper} {rest : List Oper} {o : Oper} {a : Act} {Q : Exit → Act → World → Prop} (hgd : o.guard = none) (s x : Operand) (t : TypeId)
    (ho : o.op = .call { callee := .builtin .append, args := #[s, x], argTypes := #[t, t] }) (base : Nat) (e : TypeId) (z : Value) (bytes : Nat) (ht : P.underlying t = some (.slice e)) (hi : (P.info? e).map (fun i => (i.zero, i.size, i.bytes)) = some (some z, sz, bytes))
    (hzs : z.cells.size = sz) (hsz : 0 < sz) (hc : ∀ x, (cf x).length = sz) (h1 : ∀ x, ∀ u ∈ cf x, u.oneCell' = true) (v : Value) (l : List α) (hs : a.eval s = v) (hown : RowOf cf sz w base e v l)
    (g off c m : Nat) (ys : List α) (hx : a.eval x = .slice (some ⟨g, off, none⟩) m c) (hm : m = ys.length) (hys : ∀ k (hk : k < ys.length) j, j < sz → w.cell? ⟨g, off + (k * sz + j), none⟩ = (cf ys[k])[j]?) (h63 : l.length + ys.length ≤ maxLen) (hbytes : (l.length + ys.length) * bytes ≤ 140737488355328) (hbase : base ≤ w.heap.size)
    (h : ∀ v' w', RowOf cf sz w' base e v' (l ++ ys) → w.grownBy w' v.ownBlock → (v' = .slice none 0 0 ↔ v = .slice none 0 0 ∧ ys = []) → wpList P ops Q rest (a.put o.dst v') w') : wpList P ops Q (o :: rest) a w := by
  obtain ⟨i, hi0, hz0, hz1, hz2⟩ := info_parts hi
  subst hm
  refine wpList_append_own _ hgd s x t ho base e i z sz bytes ht hi0 hz0 hz1 hz2 hzs hsz v l.length (l.flatMap cf) hs hown ⟨g, off, none⟩ ys.length c (ys.flatMap cf) hx (flatMap_len hc ys) ?_ ?_ h63 hbytes hbase ?_
  · intro j u hj
    have hjl : j < ys.length * sz := by rw [← flatMap_len hc ys]; exact (List.getElem?_eq_some_iff.1 hj).1
    have hk : j / sz < ys.length := Nat.div_lt_of_lt_mul (by rw [Nat.mul_comm]; exact hjl)
    have hr : j % sz < sz := Nat.mod_lt _ hsz
    have e1 : j / sz * sz + j % sz = j := by rw [Nat.mul_comm]; exact Nat.div_add_mod j sz
    have := flatMap_at hc ys (j / sz) hk (j % sz) hr
    rw [e1, hj] at this
    rw [addr_none, ← e1, hys _ hk _ hr, ← this]
  · intro u hu
    obtain ⟨y, _, hy⟩ := List.mem_flatMap.1 hu
    exact h1 y u hy
  · intro v' w' hown' hg hn
    refine h v' w' (by unfold RowOf; simpa using hown') hg (hn.trans ?_)
    rw [List.length_eq_zero_iff]

/-- 'x[:m]' of a slice that is not nil. -/
theorem wpl_slice_h {P : Program} {k : Nat} {w : World} {ops : Array Oper} {rest : List Oper} {o : Oper} {a : Act} {Q : Exit → Act → World → Prop} (hgd : o.guard = none) (s h : Operand) (t : TypeId) (ho : o.op = Op.slice t s none (some h) none) (ht : P.underlying t = some (.slice (P.elem t)))
    (hsz : (sizeOf (P.elem t)).run P w = .ok k w) (g off n c m : Nat) (hs : a.eval s = .slice (some ⟨g, off, none⟩) n c) (hh : a.eval h = .int .i64 (m : Int)) (hm : m ≤ c) (hK : wpList P ops Q rest (a.put o.dst (.slice (some ⟨g, off, none⟩) m c)) w) : wpList P ops Q (o :: rest) a w := by
  refine wpList_plain hgd fun K' hK' => ?_
  have hrun := run_slice_h (P := P) (w := w) t (some ⟨g, off, none⟩) n c ht .i64 (m : Int) (by omega) (by omega)
  rw [hsz] at hrun
  simp only [Result.andThen, sliced, Int.toNat_natCast, Nat.sub_zero, Nat.zero_mul, Option.map_some, addr_none, Nat.add_zero, ite_self] at hrun
  rw [← run_sliceAt_slice (P := P) (h := ht)] at hrun
  unfold Oper.wp
  simp [execOp, ho, hs, hh, hrun, Result.andThen]
  exact hK' _ _ hK

/-- 'x[m:]' of a slice that is not nil. -/
theorem wpl_slice_l {P : Program} {k : Nat} {w : World} {ops : Array Oper} {rest : List Oper} {o : Oper} {a : Act} {Q : Exit → Act → World → Prop} (hgd : o.guard = none) (s h : Operand) (t : TypeId) (ho : o.op = Op.slice t s (some h) none none) (ht : P.underlying t = some (.slice (P.elem t)))
    (hsz : (sizeOf (P.elem t)).run P w = .ok k w) (g off n c m : Nat) (hs : a.eval s = .slice (some ⟨g, off, none⟩) n c) (hh : a.eval h = .int .i64 (m : Int)) (hm : m ≤ n) (hn : n ≤ c) (hK : ∀ off', (off' = off + m * k ∨ m = n) → wpList P ops Q rest (a.put o.dst (.slice (some ⟨g, off', none⟩) (n - m) (c - m))) w) : wpList P ops Q (o :: rest) a w := by
  refine wpList_plain hgd fun K' hK' => ?_
  have hrun := run_slice_l (P := P) (w := w) t (some ⟨g, off, none⟩) n c ht .i64 (m : Int) (by omega) (by omega)
  rw [hsz] at hrun
  simp only [Result.andThen, sliced, Int.toNat_natCast, Option.map_some, addr_none] at hrun
  rw [← run_sliceAt_slice (P := P) (h := ht)] at hrun
  unfold Oper.wp
  simp [execOp, ho, hs, hh, hrun, Result.andThen]
  by_cases hc : c = m
  · rw [if_pos hc]; exact hK' _ _ (hK off (.inr (by omega)))
  · rw [if_neg hc]; exact hK' _ _ (hK _ (.inl rfl))

/-- An empty row in a block. -/
theorem RowOf.empty {w : World} {base g : Nat} {e : TypeId} {cur : Array Value} (hb : base ≤ g) (h : w.heap[g]? = some (.cells cur e (0, 0))) (hc : cur.size = 0) : RowOf cf sz w base e (.slice (some ⟨g, 0, none⟩) 0 0) [] :=
  ⟨by simp, .inr ⟨g, 0, cur, rfl, hb, h, Nat.le_refl _, by unfold maxLen; omega, by simpa using hc, by simp⟩⟩
end rows

/-! strings, as the lists of their bytes -/
def kc (b : List UInt8) : List Value := [encStr b]
def bs (b : ByteArray) : List UInt8 := b.data.toList
theorem enc_bs (b : ByteArray) : encStr (bs b) = .string b := by simp [encStr, bs]
theorem kLen (x : List UInt8) : (kc x).length = 1 := rfl
theorem kOne (x : List UInt8) : ∀ u ∈ kc x, u.oneCell' = true := by intro u hu; simp [kc] at hu; subst hu; rfl
theorem flat_kc (l : List (List UInt8)) : l.flatMap kc = l.map encStr := by induction l with
  | nil => rfl
  | cons x l ih => simp [kc, ih]
theorem bs_inj {a b : ByteArray} (h : bs a = bs b) : a = b := by
  cases a; cases b; simp [bs] at h; simpa using h

/-- The library's sort of strings, at rows of the call's own: f is its number. -/
theorem sort_row {P : Program} {f : FuncId}
    (hS : ∀ (blk off cap : Nat) (ss : List (List UInt8)) (w : World) (_ : Sort.Holds encStr w blk off ss.toArray) (_ : blk < w.heap.size) (_ : ss.length < 4611686018427387904),
      Calls P f #[.slice (some ⟨blk, off, none⟩) ss.length cap] w fun e w' => e = .returned (.tuple #[]) ∧ ∃ n os, w' = Go.Sort.grow (Go.Sort.putRow encStr (Sort.ahead w n) blk off (ss.mergeSort fun x y => decide (x ≤ y)).toArray) os)
    (hN : ∀ (p : Option Addr) (cap : Nat) (w : World), Calls P f #[.slice p 0 cap] w fun e w' => e = .returned (.tuple #[]) ∧ w' = w)
    {w : World} {base : Nat} {e : TypeId} {v : Value} {l : List (List UInt8)} (h : RowOf kc 1 w base e v l) (hl : l.length < 4611686018427387904) :
    Calls P f #[v] w fun ex w' => ex = .returned (.tuple #[]) ∧ RowOf kc 1 w' base e v (l.mergeSort leB) ∧ Chg v.ownBlock.toList w w' := by
  rcases h.2 with ⟨h2, h3⟩ | ⟨g, cap, cur, hv, hg, hh, h4, h5, h6, h7⟩
  · have hl0 := List.eq_nil_of_length_eq_zero h3
    subst hl0
    subst h2
    refine (hN none 0 w).mono ?_
    rintro ex w' ⟨rfl, rfl⟩
    exact ⟨rfl, by simpa using h, Chg.refl _ _⟩
  · subst hv
    rw [flat_kc, Nat.mul_one] at h7
    refine (hS g 0 cap l w (holds_of_block hh h7) (lt_of_heap hh) hl).mono ?_
    rintro ex w' ⟨rfl, n, os, rfl⟩
    refine ⟨rfl, ?_, Chg.ofRow (v := .slice (some ⟨g, 0, none⟩) l.length cap) (grownBy_sorted _)⟩
    have := ownsRow_sorted (n := n) (os := os) (ts := l.mergeSort leB) (by simp) hg hh h4 h5 h6
    unfold RowOf
    rw [flat_kc]
    have e1 : (l.mergeSort leB).length = l.length := by simp
    rw [e1]
    exact this
end Go.Proofs.YtolidiafomceiaaGreatDoor
