/- Over any program: an append at a step of a region that draws its order. No condition. -/
import Derived.Test.YtolidiafomceiaaGreatDoorBase
import Derived.Deep.AppendLies
import Derived.Deep.RegionHeld3
import Derived.Deep.RegionLaw
namespace Go.Proofs.YtolidiafomceiaaGreatDoor
set_option linter.unusedVariables false
set_option linter.unusedSimpArgs false
open Go.RowKit
section
variable {P : Program} {α : Type} {cf : α → List Value} {sz : Nat}
theorem step_appendR {w : World} {ops : Array Oper} {o : Oper} {a : Act} {K : Act → World → Prop} {Q : Exit → Act → World → Prop} {E : Prop} (hgd : o.guard = none) (s x : Operand) (t : TypeId)
    (ho : o.op = .call { callee := .builtin .append, args := #[s, x], argTypes := #[t, t] }) (base : Nat) (e : TypeId) (z : Value) (bytes : Nat) (ht : P.underlying t = some (.slice e)) (hi : (P.info? e).map (fun i => (i.zero, i.size, i.bytes)) = some (some z, sz, bytes))
    (hzs : z.cells.size = sz) (hsz : 0 < sz) (hc : ∀ x, (cf x).length = sz) (h1 : ∀ x, ∀ u ∈ cf x, u.oneCell' = true) (v : Value) (l : List α) (hs : a.eval s = v) (hown : RowOf cf sz w base e v l)
    (g c : Nat) (y : α) (cur : Array Value) (tt : TypeId) (fr : Nat × Nat) (hx : a.eval x = .slice (some ⟨g, 0, none⟩) 1 c) (hnew : w.heap[g]? = some (.cells cur tt fr)) (hcur : cur.toList = cf y) (h63 : l.length + 1 ≤ maxLen) (hbytes : (l.length + 1) * bytes ≤ 140737488355328) (hbase : base ≤ w.heap.size)
    (h : ∀ g' cap w', RowOf cf sz w' base e (.slice (some ⟨g', 0, none⟩) (l.length + 1) cap) (l ++ [y]) → w.grownBy w' v.ownBlock → (v.ownBlock = some g' ∨ g' = w.heap.size) → g' < w'.heap.size → K (a.put o.dst (.slice (some ⟨g', 0, none⟩) (l.length + 1) cap)) w') :
    if Region.wanted o (yielded ops a.tmps) = true then Oper.wp P o a w K Q else E := by
  obtain ⟨i, hi0, hz0, hz1, hz2⟩ := info_parts hi
  refine step_append_lies w hgd s x t ho base e i z sz bytes ht hi0 hz0 hz1 hz2 hzs hsz v l.length (l.flatMap cf) hs hown ⟨g, 0, none⟩ 1 c (cf y) hx (by rw [hc]; omega) ?_ (h1 y) (by omega) h63 hbytes hbase w.heap.size rfl ?_
  · intro j u hj
    have : (⟨g, 0, none⟩ : Addr).add j = ⟨g, j, none⟩ := by
      unfold Addr.add; split
      · rename_i e; rw [e]
      · simp
    rw [this, blk_cell hnew, ← Array.getElem?_toList, hcur]; exact hj
  · intro g' cap w' hown' hg hat hlt
    exact h g' cap w' (by unfold RowOf; simpa using hown') hg hat hlt
end
end Go.Proofs.YtolidiafomceiaaGreatDoor
