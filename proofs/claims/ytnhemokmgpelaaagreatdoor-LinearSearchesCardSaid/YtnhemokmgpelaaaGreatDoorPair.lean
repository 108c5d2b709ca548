/- Over any program: two things of the call's own side by side, each with its blocks. No condition. -/
import Derived.Test.YtnhemokmgpelaaaGreatDoorBase
namespace Go.Proofs.YtnhemokmgpelaaaGreatDoor
set_option linter.unusedVariables false
set_option linter.unusedSimpArgs false
open Go.RowKit
/-- A predicate on a world that leans on a list of blocks alone. -/
structure Side (J : List Nat → World → Prop) : Prop where
  lt : ∀ {f : List Nat} {w : World}, J f w → ∀ x ∈ f, x < w.heap.size
  kept : ∀ {f S : List Nat} {w w' : World}, J f w → Chg S w w' → (∀ x ∈ f, x ∉ S) → J f w'
def NoSide : List Nat → World → Prop := fun f _ => f = []
theorem noSide : Side NoSide := ⟨fun h x hx => by rw [h] at hx; simp at hx, fun h _ _ => h⟩
/-- Both are new since W, and apart. -/
def Pair (W w : World) (J K : List Nat → World → Prop) : Prop :=
  ∃ f g, J f w ∧ K g w ∧ (∀ x ∈ f, W.heap.size ≤ x) ∧ (∀ x ∈ g, W.heap.size ≤ x) ∧ (∀ x ∈ f, x ∉ g) ∧ Chg [] W w
/-- J becomes J' by a change of its own blocks and new ones. -/
def Turn (f : List Nat) (w w' : World) (J' : List Nat → World → Prop) : Prop := ∃ f', J' f' w' ∧ Chg f w w' ∧ ∀ x ∈ f', x ∈ f ∨ w.heap.size ≤ x
variable {W w w' : World} {J K J' K' : List Nat → World → Prop}
theorem Pair.symm (h : Pair W w J K) : Pair W w K J := by
  obtain ⟨f, g, h1, h2, h3, h4, h5, h6⟩ := h
  exact ⟨g, f, h2, h1, h4, h3, fun x hx hy => h5 x hy hx, h6⟩
theorem Pair.chg (h : Pair W w J K) : Chg [] W w := by
  obtain ⟨f, g, h1, h2, h3, h4, h5, h6⟩ := h
  exact h6
theorem Pair.below (h : Pair W w J K) : Below W.heap.size W w := h.chg.toBelow (Nat.le_refl _) (by simp)
theorem Pair.keptN (sJ : Side J) (sK : Side K) (h : Pair W w J K) (hc : Chg [] w w') : Pair W w' J K := by
  obtain ⟨f, g, h1, h2, h3, h4, h5, h6⟩ := h
  exact ⟨f, g, sJ.kept h1 hc (by simp), sK.kept h2 hc (by simp), h3, h4, h5, h6.thenSame hc⟩
theorem Pair.turn (sK : Side K) (h : Pair W w J K) (ht : ∀ f, J f w → (∀ x ∈ f, W.heap.size ≤ x) → ∃ f', J' f' w' ∧ Chg f w w' ∧ ∀ x ∈ f', x ∈ f ∨ w.heap.size ≤ x) : Pair W w' J' K := by
  obtain ⟨f, g, h1, h2, h3, h4, h5, h6⟩ := h
  obtain ⟨f', q1, q2, q3⟩ := ht f h1 h3
  refine ⟨f', g, q1, sK.kept h2 q2 (fun x hx hy => h5 x hy hx), ?_, h4, ?_, h6.then q2 (fun y hy hl => by have := h3 y hy; omega)⟩
  · intro x hx
    rcases q3 x hx with h | h
    · exact h3 x h
    · exact Nat.le_trans h6.size h
  · intro x hx hy
    rcases q3 x hx with h | h
    · exact h5 x h hy
    · have := sK.lt h2 x hy; omega
/-- A first thing that is made now. -/
theorem Pair.start (sK : Side K) (hK : Pair W w K NoSide) (ht : ∃ f', J' f' w' ∧ Chg [] w w' ∧ ∀ x ∈ f', w.heap.size ≤ x) : Pair W w' J' K := by
  obtain ⟨f, g, h1, h2, h3, h4, h5, h6⟩ := hK
  obtain ⟨f', q1, q2, q3⟩ := ht
  refine ⟨f', f, q1, sK.kept h1 q2 (by simp), fun x hx => Nat.le_trans h6.size (q3 x hx), h3, ?_, h6.thenSame q2⟩
  intro x hx hy
  have := sK.lt h1 x hy
  have := q3 x hx
  omega
theorem Pair.first (hc : Chg [] W w) (ht : ∃ f', J' f' w' ∧ Chg [] w w' ∧ ∀ x ∈ f', w.heap.size ≤ x) : Pair W w' J' NoSide := by
  obtain ⟨f', q1, q2, q3⟩ := ht
  exact ⟨f', [], q1, rfl, fun x hx => Nat.le_trans hc.size (q3 x hx), by simp, by simp, hc.thenSame q2⟩
/-- Two at once, apart. -/
def AndSide (J K : List Nat → World → Prop) : List Nat → World → Prop := fun h w => ∃ f g, h = f ++ g ∧ J f w ∧ K g w ∧ ∀ x ∈ f, x ∉ g
theorem andSide (sJ : Side J) (sK : Side K) : Side (AndSide J K) := by
  constructor
  · rintro h w ⟨f, g, rfl, h1, h2, h3⟩ x hx
    rcases List.mem_append.1 hx with hx | hx
    · exact sJ.lt h1 x hx
    · exact sK.lt h2 x hx
  · rintro h S w w' ⟨f, g, rfl, h1, h2, h3⟩ hc hS
    exact ⟨f, g, rfl, sJ.kept h1 hc (fun x hx => hS x (List.mem_append_left _ hx)), sK.kept h2 hc (fun x hx => hS x (List.mem_append_right _ hx)), h3⟩
/-- A block that holds o. -/
def Box (u : Nat) (o : Obj) : List Nat → World → Prop := fun f w => f = [u] ∧ w.heap[u]? = some o
theorem boxSide (u : Nat) (o : Obj) : Side (Box u o) := by
  constructor
  · rintro f w ⟨rfl, h⟩ x hx
    simp at hx; subst hx
    exact lt_of_heap h
  · rintro f S w w' ⟨rfl, h⟩ hc hS
    exact ⟨rfl, hc.at (hS u (by simp)) h⟩
theorem Pair.box (sJ : Side J) (sK : Side K) (h : Pair W w J K) (o : Obj) : Pair W (w.alloc o) J (AndSide K (Box w.heap.size o)) := by
  obtain ⟨f, g, h1, h2, h3, h4, h5, h6⟩ := h
  have hc : Chg [] w (w.alloc o) := (Chg.refl _ _).alloc _
  refine ⟨f, g ++ [w.heap.size], sJ.kept h1 hc (by simp), ⟨g, [w.heap.size], rfl, sK.kept h2 hc (by simp), ⟨rfl, heap_alloc_new _ _⟩, ?_⟩, h3, ?_, ?_, h6.thenSame hc⟩
  · intro x hx hy
    simp at hy; subst hy
    have := sK.lt h2 _ hx; omega
  · intro x hx
    rcases List.mem_append.1 hx with hx | hx
    · exact h4 x hx
    · simp at hx; subst hx; exact h6.size
  · intro x hx hy
    rcases List.mem_append.1 hy with hy | hy
    · exact h5 x hx hy
    · simp at hy; subst hy
      have := sJ.lt h1 _ hx; omega
theorem Pair.boxAt {u : Nat} {o : Obj} (h : Pair W w J (AndSide K (Box u o))) : w.heap[u]? = some o := by
  obtain ⟨f, g, h1, ⟨g1, g2, rfl, k1, ⟨rfl, k2⟩, k3⟩, _⟩ := h
  exact k2
theorem Pair.boxAt2 {u u' : Nat} {o o' : Obj} (h : Pair W w J (AndSide (AndSide K (Box u o)) (Box u' o'))) : w.heap[u]? = some o := by
  obtain ⟨f, g, h1, ⟨g1, g2, rfl, ⟨g3, g4, rfl, k1, ⟨rfl, k2⟩, k4⟩, k5, k3⟩, _⟩ := h
  exact k2
/-- The first two change places. -/
theorem Pair.swap {L : List Nat → World → Prop} (h : Pair W w J (AndSide K L)) : Pair W w K (AndSide J L) := by
  obtain ⟨f, g, h1, ⟨g1, g2, rfl, k1, k2, k3⟩, h3, h4, h5, h6⟩ := h
  refine ⟨g1, f ++ g2, k1, ⟨f, g2, rfl, h1, k2, fun x hx hy => h5 x hx (List.mem_append_right _ hy)⟩, fun x hx => h4 x (List.mem_append_left _ hx), ?_, ?_, h6⟩
  · intro x hx
    rcases List.mem_append.1 hx with hx | hx
    · exact h3 x hx
    · exact h4 x (List.mem_append_right _ hx)
  · intro x hx hy
    rcases List.mem_append.1 hy with hy | hy
    · exact h5 x hy (List.mem_append_left _ hx)
    · exact k3 x hx hy
theorem Pair.swap3 {L M : List Nat → World → Prop} (h : Pair W w J (AndSide (AndSide K L) M)) : Pair W w K (AndSide (AndSide J L) M) := by
  obtain ⟨f, g, h1, ⟨g1, g2, rfl, ⟨g3, g4, rfl, k1, k2, k3⟩, k4, k5⟩, h3, h4, h5, h6⟩ := h
  refine ⟨g3, (f ++ g4) ++ g2, k1, ⟨f ++ g4, g2, rfl, ⟨f, g4, rfl, h1, k2, fun x hx hy => h5 x hx (by simp [hy])⟩, k4, ?_⟩, fun x hx => h4 x (by simp [hx]), ?_, ?_, h6⟩
  · intro x hx hy
    rcases List.mem_append.1 hx with hx | hx
    · exact h5 x hx (by simp [hy])
    · exact k5 x (by simp [hx]) hy
  · intro x hx
    simp only [List.mem_append] at hx
    rcases hx with (hx | hx) | hx
    · exact h3 x hx
    · exact h4 x (by simp [hx])
    · exact h4 x (by simp [hx])
  · intro x hx hy
    simp only [List.mem_append] at hy
    rcases hy with (hy | hy) | hy
    · exact h5 x hy (by simp [hx])
    · exact k3 x hx hy
    · exact k5 x (by simp [hx]) hy
end Go.Proofs.YtnhemokmgpelaaaGreatDoor
