/- Over any program: slices of any shape (nil too) as sources: x[:m], x[m:], append(v, x...). No condition. -/
import Derived.Test.YtolidiafomceiaaGreatDoorRown
import Derived.Laws.AppendOwnNone
namespace Go.Proofs.YtolidiafomceiaaGreatDoor
set_option linter.unusedVariables false
set_option linter.unusedSimpArgs false
open Go.RowKit
section
variable {α : Type} {cf : α → List Value} {sz : Nat}

/-- The slice value v reads as l: nil, or a piece of a block. -/
def SrcIs (cf : α → List Value) (sz : Nat) (w : World) (v : Value) (l : List α) : Prop :=
  (v = .slice none 0 0 ∧ l = []) ∨ ∃ g off c, v = .slice (some ⟨g, off, none⟩) l.length c ∧ l.length ≤ c ∧ c ≤ maxLen ∧ g < w.heap.size ∧ ∀ k (hk : k < l.length) j, j < sz → w.cell? ⟨g, off + (k * sz + j), none⟩ = (cf l[k])[j]?
theorem SrcIs.kept {w w' : World} {v : Value} {l : List α} (h : SrcIs cf sz w v l) (hc : Chg [] w w') : SrcIs cf sz w' v l := by
  rcases h with h | ⟨g, off, c, h1, h2, h3, h4, h5⟩
  · exact .inl h
  · refine .inr ⟨g, off, c, h1, h2, h3, hc.lt h4, fun k hk j hj => ?_⟩
    rw [← h5 k hk j hj]
    exact World.cell?_of_block (w := w) (hc.block g h4 (by simp))
theorem RowOf.src {w : World} {base : Nat} {e : TypeId} {v : Value} {l : List α} (h : RowOf cf sz w base e v l) (hc : ∀ x, (cf x).length = sz) : SrcIs cf sz w v l := by
  rcases RowOf.at h hc with h1 | ⟨g, cap, h1, h2, h3, h4, _, _, h5⟩
  · exact .inl h1
  · exact .inr ⟨g, 0, cap, h1, h2, h3, h5, fun k hk j hj => by rw [Nat.zero_add]; exact h4 k hk j hj⟩

/-- 'x[:m]'. -/
theorem wpl_slice_hX {P : Program} {w : World} {ops : Array Oper} {rest : List Oper} {o : Oper} {a : Act} {Q : Exit → Act → World → Prop} (hgd : o.guard = none) (s h : Operand) (t : TypeId) (ho : o.op = Op.slice t s none (some h) none) (ht : P.underlying t = some (.slice (P.elem t)))
    (hsz : (sizeOf (P.elem t)).run P w = .ok sz w) (v : Value) (l : List α) (m : Nat) (hs : a.eval s = v) (hsrc : SrcIs cf sz w v l) (hh : a.eval h = .int .i64 (m : Int)) (hm : m ≤ l.length)
    (hK : ∀ v', SrcIs cf sz w v' (l.take m) → wpList P ops Q rest (a.put o.dst v') w) : wpList P ops Q (o :: rest) a w := by
  rcases hsrc with ⟨rfl, rfl⟩ | ⟨g, off, c, rfl, h2, h3, h4, h5⟩
  · have hm0 : m = 0 := by simpa using hm
    refine wpList_plain hgd fun K' hK' => ?_
    have hrun := run_slice_h (P := P) (w := w) t none 0 0 ht .i64 (m : Int) (by omega) (by omega)
    rw [hsz] at hrun
    simp only [Result.andThen, sliced, Int.toNat_natCast, Nat.sub_zero, Nat.zero_mul, Option.map_none, ite_self] at hrun
    rw [← run_sliceAt_slice (P := P) (h := ht)] at hrun
    unfold Oper.wp
    simp [execOp, ho, hs, hh, hrun, Result.andThen]
    exact hK' _ _ (hK _ (.inl ⟨by rw [hm0], by simp⟩))
  · refine wpl_slice_h hgd s h t ho ht hsz g off l.length c m hs hh (by omega) ?_
    have e1 : (l.take m).length = m := by rw [List.length_take]; omega
    refine hK _ (.inr ⟨g, off, c, by rw [e1], by omega, h3, h4, fun k hk j hj => ?_⟩)
    rw [h5 k (by omega) j hj, List.getElem_take]

/-- 'x[m:]'. -/
theorem wpl_slice_lX {P : Program} {w : World} {ops : Array Oper} {rest : List Oper} {o : Oper} {a : Act} {Q : Exit → Act → World → Prop} (hgd : o.guard = none) (s h : Operand) (t : TypeId) (ho : o.op = Op.slice t s (some h) none none) (ht : P.underlying t = some (.slice (P.elem t)))
    (hsz : (sizeOf (P.elem t)).run P w = .ok sz w) (v : Value) (l : List α) (m : Nat) (hs : a.eval s = v) (hsrc : SrcIs cf sz w v l) (hh : a.eval h = .int .i64 (m : Int)) (hm : m ≤ l.length)
    (hK : ∀ v', SrcIs cf sz w v' (l.drop m) → wpList P ops Q rest (a.put o.dst v') w) : wpList P ops Q (o :: rest) a w := by
  rcases hsrc with ⟨rfl, rfl⟩ | ⟨g, off, c, rfl, h2, h3, h4, h5⟩
  · have hm0 : m = 0 := by simpa using hm
    refine wpList_plain hgd fun K' hK' => ?_
    have hrun := run_slice_l (P := P) (w := w) t none 0 0 ht .i64 (m : Int) (by omega) (by omega)
    rw [hsz] at hrun
    simp only [Result.andThen, sliced, Int.toNat_natCast, Option.map_none, ite_self] at hrun
    rw [← run_sliceAt_slice (P := P) (h := ht)] at hrun
    unfold Oper.wp
    simp [execOp, ho, hs, hh, hrun, Result.andThen]
    exact hK' _ _ (hK _ (.inl ⟨by first | rfl | rw [hm0], by simp⟩))
  · refine wpl_slice_l hgd s h t ho ht hsz g off l.length c m hs hh (by omega) h2 ?_
    intro off' hoff
    have e1 : (l.drop m).length = l.length - m := List.length_drop
    refine hK _ (.inr ⟨g, off', c - m, by rw [e1], by omega, by omega, h4, fun k hk j hj => ?_⟩)
    rcases hoff with rfl | rfl
    · have := h5 (m + k) (by omega) j hj
      rw [List.getElem_drop, ← this, Nat.add_mul]
      congr 2
      omega
    · simp at hk

/-- 'append(v, x...)'. -/
theorem wpl_appendsX {P : Program} {w : World} {ops : Array Oper} {rest : List Oper} {o : Oper} {a : Act} {Q : Exit → Act → World → Prop} (hgd : o.guard = none) (s x : Operand) (t : TypeId)
    (ho : o.op = .call { callee := .builtin .append, args := #[s, x], argTypes := #[t, t] }) (base : Nat) (e : TypeId) (z : Value) (bytes : Nat) (ht : P.underlying t = some (.slice e)) (hi : (P.info? e).map (fun i => (i.zero, i.size, i.bytes)) = some (some z, sz, bytes))
    (hzs : z.cells.size = sz) (hsz : 0 < sz) (hc : ∀ x, (cf x).length = sz) (h1 : ∀ x, ∀ u ∈ cf x, u.oneCell' = true) (v : Value) (l : List α) (hs : a.eval s = v) (hown : RowOf cf sz w base e v l)
    (vx : Value) (ys : List α) (hx : a.eval x = vx) (hsrc : SrcIs cf sz w vx ys) (h63 : l.length + ys.length ≤ maxLen) (hbytes : (l.length + ys.length) * bytes ≤ 140737488355328) (hbase : base ≤ w.heap.size)
    (h : ∀ v' w', RowOf cf sz w' base e v' (l ++ ys) → Chg v.ownBlock.toList w w' → wpList P ops Q rest (a.put o.dst v') w') : wpList P ops Q (o :: rest) a w := by
  rcases hsrc with ⟨rfl, rfl⟩ | ⟨g, off, c, rfl, h2, h3, h4, h5⟩
  · obtain ⟨i, hi0, _⟩ := info_parts hi
    refine wpList_append_own_none hgd s x t ho base e i sz ht hi0 v l.length (l.flatMap cf) hs hown hx ?_
    exact h v w (by simpa using hown) (Chg.refl _ _)
  · refine wpl_appends hgd s x t ho base e z bytes ht hi hzs hsz hc h1 v l hs hown g off c ys.length ys hx rfl h5 h63 hbytes hbase ?_
    intro v' w' hr hg _
    exact h v' w' hr (Chg.ofRow hg)
end
end Go.Proofs.YtolidiafomceiaaGreatDoor
