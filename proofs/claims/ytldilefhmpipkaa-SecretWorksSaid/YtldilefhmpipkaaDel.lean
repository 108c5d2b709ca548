/- Over any program: a row cut short; clear of a tail. No condition. -/
import Derived.Test.YtldilefhmpipkaaRown
import Derived.Lib.SliceRun
namespace Go.Proofs.Ytldilefhmpipkaa
set_option linter.unusedVariables false
set_option linter.unusedSimpArgs false
open Go.RowKit
section
variable {α : Type} {cf : α → List Value} {sz : Nat}

theorem flatMap_take (hc : ∀ x, (cf x).length = sz) (l : List α) (m : Nat) : (l.take m).flatMap cf = (l.flatMap cf).take (m * sz) := by
  induction l generalizing m with
  | nil => simp
  | cons x l ih =>
    cases m with
    | zero => simp
    | succ m =>
      rw [List.take_succ_cons, List.flatMap_cons, List.flatMap_cons, ih, List.take_append, hc, Nat.add_mul, Nat.one_mul]
      have e1 : (cf x).take (m * sz + sz) = cf x := List.take_of_length_le (by rw [hc]; omega)
      have e2 : m * sz + sz - sz = m * sz := by omega
      rw [e1, e2]
/-- The head of a row. -/
theorem RowOf.pre {w : World} {base g : Nat} {e : TypeId} {n c m : Nat} {l : List α} (h : RowOf cf sz w base e (.slice (some ⟨g, 0, none⟩) n c) l) (hc : ∀ x, (cf x).length = sz) (hm : m ≤ l.length) : RowOf cf sz w base e (.slice (some ⟨g, 0, none⟩) m c) (l.take m) := by
  obtain ⟨h1, h2⟩ := h
  rcases h2 with ⟨h2, _⟩ | ⟨g', cap, cur, hv, hg, hh, h4, h5, h6, h7⟩
  · cases h2
  · cases hv
    have e1 : (l.take m).length = m := by rw [List.length_take]; omega
    refine ⟨by rw [e1, flatMap_take hc, List.length_take, h1, Nat.min_eq_left (Nat.mul_le_mul_right _ hm)], .inr ⟨g, c, cur, by rw [e1], hg, hh, by rw [e1]; omega, h5, h6, ?_⟩⟩
    rw [e1, flatMap_take hc, ← h7, List.take_take]
    congr 1
    exact (Nat.min_eq_left (Nat.mul_le_mul_right _ hm)).symm
/-- A store behind the row. -/
theorem RowOf.behind {w : World} {base g : Nat} {e : TypeId} {n c : Nat} {l : List α} (h : RowOf cf sz w base e (.slice (some ⟨g, 0, none⟩) n c) l) (o : Nat) (ho : l.length * sz ≤ o) (u : Value) : RowOf cf sz (w.setCell ⟨g, o, none⟩ u) base e (.slice (some ⟨g, 0, none⟩) n c) l := by
  obtain ⟨h1, h2⟩ := h
  rcases h2 with ⟨h2, _⟩ | ⟨g', cap, cur, hv, hg, hh, h4, h5, h6, h7⟩
  · cases h2
  · cases hv
    refine ⟨h1, .inr ⟨g, c, cur.setIfInBounds o u, rfl, hg, blk_set hh o u, h4, h5, by simpa using h6, ?_⟩⟩
    rw [← h7, Array.toList_setIfInBounds, List.take_set_of_le ho]
theorem RowOf.behinds {base g : Nat} {e : TypeId} {n c : Nat} {l : List α} : ∀ (vs : List Value) (o : Nat) (w : World), RowOf cf sz w base e (.slice (some ⟨g, 0, none⟩) n c) l → l.length * sz ≤ o → RowOf cf sz (w.setCells g o vs) base e (.slice (some ⟨g, 0, none⟩) n c) l := by
  intro vs
  induction vs with
  | nil => intro o w h _; exact h
  | cons v vs ih => intro o w h ho; exact ih _ _ (h.behind o ho v) (by omega)
theorem Chg.setCells {S : List Nat} {a : World} {g : Nat} : ∀ (vs : List Value) (o : Nat) (b : World), Chg S a b → (g < a.heap.size → g ∈ S) → Chg S a (b.setCells g o vs) := by
  intro vs
  induction vs with
  | nil => intro o b h _; exact h
  | cons v vs ih => intro o b h hg; exact ih _ _ (h.setCell _ _ hg) hg

/-- 'clear(x)', a tail of one-cell elements. -/
theorem wpl_clear {P : Program} {w : World} {ops : Array Oper} {rest : List Oper} {o : Oper} {a : Act} {Q : Exit → Act → World → Prop} (hgd : o.guard = none) (s : Operand) (t e : TypeId)
    (ho : o.op = .call { callee := .builtin .clear, args := #[s], argTypes := #[t] }) (ht : P.underlying t = some (.slice e)) (z : Value) (hv : ∀ w, (zeroValue e).run P w = .ok z w) (hz : z.cells = #[z]) (h1 : z.oneCell' = true)
    (g off n c : Nat) (hs : a.eval s = .slice (some ⟨g, off, none⟩) n c) (hn : 0 < n) (hc : ∀ j, j < n → (w.cell? ⟨g, off + j, none⟩).isSome = true) (hf : ∀ j, j < n → w.frozen? ⟨g, off + j, none⟩ = false)
    (hK : wpList P ops Q rest (a.put o.dst (.tuple #[])) (w.setCells g off (List.replicate n z))) : wpList P ops Q (o :: rest) a w := by
  refine wpList_plain hgd fun K' hK' => ?_
  have hrun := Lib.run_clear_slice (P := P) w t e o.type z ht hv hz h1 g off n c hn hc hf
  unfold Oper.wp
  simp [execOp, ho, resolve, invoke, builtin, hs, hrun, Result.andThen]
  exact hK' _ _ hK
end
end Go.Proofs.Ytldilefhmpipkaa
