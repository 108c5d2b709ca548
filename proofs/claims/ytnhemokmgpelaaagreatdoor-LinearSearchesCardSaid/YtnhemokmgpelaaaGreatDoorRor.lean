/- Over any program: a slice of slices of the call's own, as a side. No condition. -/
import Derived.Test.YtnhemokmgpelaaaGreatDoorRown
import Derived.Test.YtnhemokmgpelaaaGreatDoorPair
namespace Go.Proofs.YtnhemokmgpelaaaGreatDoor
set_option linter.unusedVariables false
set_option linter.unusedSimpArgs false
open Go.RowKit
/-- A slice of the call's own and what it holds. -/
structure Rr (α : Type) where
  a : Option Addr
  c : Nat
  L : List α
section
variable {α : Type} {cf : α → List Value} {sz : Nat} {te ts : TypeId} {w w' : World} {g : Nat} {D : List (Rr α)} {f S : List Nat}
def Rr.v (d : Rr α) : Value := .slice d.a d.L.length d.c
def rrC (d : Rr α) : List Value := [.slice d.a d.L.length d.c]
theorem rrC_len (d : Rr α) : (rrC d).length = 1 := rfl
/-- The slices at block g; all their blocks lie in f. -/
structure RrAt (cf : α → List Value) (sz : Nat) (ts te : TypeId) (w : World) (g : Nat) (D : List (Rr α)) (f : List Nat) : Prop where
  row : RowOf rrC 1 w 0 ts (.slice (some ⟨g, 0, none⟩) D.length D.length) D
  rows : ∀ d ∈ D, RowOf cf sz w 0 te d.v d.L
  apart : D.Pairwise (fun d d' => ∀ x, d.v.ownBlock = some x → d'.v.ownBlock ≠ some x)
  out : ∀ d ∈ D, d.v.ownBlock ≠ some g
  ing : g ∈ f
  inr : ∀ d ∈ D, ∀ x, d.v.ownBlock = some x → x ∈ f
  lt : ∀ x ∈ f, x < w.heap.size
theorem RrAt.kept (h : RrAt cf sz ts te w g D f) (hc : Chg S w w') (hS : ∀ x ∈ f, x ∉ S) : RrAt cf sz ts te w' g D f where
  row := h.row.kept hc (fun y hy => by cases hy; exact hS _ h.ing)
  rows := fun d hd => (h.rows d hd).kept hc (fun y hy => hS _ (h.inr d hd y hy))
  apart := h.apart
  out := h.out
  ing := h.ing
  inr := h.inr
  lt := fun x hx => hc.lt (h.lt x hx)
def JRr (cf : α → List Value) (sz : Nat) (ts te : TypeId) (g : Nat) (D : List (Rr α)) : List Nat → World → Prop := fun f w => RrAt cf sz ts te w g D f
theorem rrSide (g : Nat) (D : List (Rr α)) : Side (JRr cf sz ts te g D) := ⟨fun h => h.lt, fun h hc hS => h.kept hc hS⟩
/-- The outer slice's cells. -/
theorem RrAt.cell (h : RrAt cf sz ts te w g D f) (k : Nat) (hk : k < D.length) : w.cell? ⟨g, k, none⟩ = some (.slice (D[k]).a (D[k]).L.length (D[k]).c) := by
  obtain ⟨-, -, -, h4, -⟩ := RowOf.atS h.row rrC_len
  have := h4 k hk 0 (by omega)
  simpa [rrC] using this
theorem RrAt.free (h : RrAt cf sz ts te w g D f) : ∀ i, w.frozen? ⟨g, i, none⟩ = false := by
  obtain ⟨-, -, -, -, h5, -⟩ := RowOf.atS h.row rrC_len
  exact h5
/-- A row of the slices, as a slice that can be read. -/
theorem RrAt.sl (h : RrAt cf sz ts te w g D f) (hc : ∀ x, (cf x).length = sz) (k : Nat) (hk : k < D.length) : SlIs cf sz w (D[k]).a (D[k]).L.length (D[k]).L := (RowOf.sl (h.rows _ (List.getElem_mem hk)) hc).1
/-- The slices made anew: all empty. -/
theorem RrAt.made {n : Nat} (hr : RowOf rrC 1 w 0 ts (.slice (some ⟨g, 0, none⟩) n n) (List.replicate n (⟨none, 0, []⟩ : Rr α))) (hg : g < w.heap.size) : RrAt cf sz ts te w g (List.replicate n (⟨none, 0, []⟩ : Rr α)) [g] where
  row := by rw [List.length_replicate]; exact hr
  rows := fun d hd => by rw [List.eq_of_mem_replicate hd]; exact RowOf.nil _ _ _
  apart := List.pairwise_replicate.2 (.inr (fun x hx => by cases hx))
  out := fun d hd => by rw [List.eq_of_mem_replicate hd]; intro h; cases h
  ing := by simp
  inr := fun d hd x hx => by rw [List.eq_of_mem_replicate hd] at hx; cases hx
  lt := fun x hx => by simp at hx; subst hx; exact hg
theorem pairwise_setR {R : α → α → Prop} (hs : ∀ a b, R a b → R b a) : ∀ {l : List α}, l.Pairwise R → ∀ (k : Nat) (hk : k < l.length) (x : α), (∀ i (hi : i < l.length), i ≠ k → R x l[i]) → (l.set k x).Pairwise R := by
  intro l h k hk x hx
  rw [List.pairwise_iff_getElem] at h ⊢
  intro i j hi hj hij
  rw [List.length_set] at hi hj
  rw [List.getElem_set, List.getElem_set]
  split
  · rename_i e
    subst e
    rw [if_neg (by omega)]
    exact hx j hj (by omega)
  · split
    · rename_i e
      subst e
      exact hs _ _ (hx i hi (by omega))
    · exact h i j hi hj hij
/-- Row k is put anew. -/
theorem RrAt.put {wy : World} (h : RrAt cf sz ts te w g D f) (k : Nat) (hk : k < D.length) (a' : Option Addr) (c' : Nat) (L' : List α) (hc : Chg (D[k]).v.ownBlock.toList w wy) (hr : RowOf cf sz wy 0 te (.slice a' L'.length c') L') (hl : ∀ x, (Value.slice a' L'.length c').ownBlock = some x → (D[k]).v.ownBlock = some x ∨ w.heap.size ≤ x) :
    ∃ f', RrAt cf sz ts te (wy.setCell ⟨g, k, none⟩ (.slice a' L'.length c')) g (D.set k ⟨a', c', L'⟩) f' ∧ Chg f w (wy.setCell ⟨g, k, none⟩ (.slice a' L'.length c')) ∧ ∀ x ∈ f', x ∈ f ∨ w.heap.size ≤ x := by
  have hmem : D[k] ∈ D := List.getElem_mem hk
  have hc2 : Chg [g] wy (wy.setCell ⟨g, k, none⟩ (.slice a' L'.length c')) := (Chg.refl _ _).setCell _ _ (by simp)
  have hcf : Chg f w (wy.setCell ⟨g, k, none⟩ (.slice a' L'.length c')) := Chg.thenSame (hc.mono (fun x hx _ => h.inr _ hmem x (by simpa using hx))) (hc2.mono (fun x hx _ => by simp at hx; subst hx; exact h.ing))
  have hgk : (D[k]).v.ownBlock ≠ some g := h.out _ hmem
  have hnew : ∀ x, (Value.slice a' L'.length c').ownBlock = some x → x ≠ g := fun x hx e => by
    subst e
    rcases hl x hx with h1 | h1
    · exact hgk h1
    · have := h.lt x h.ing; omega
  have hap : ∀ i (hi : i < D.length), i ≠ k → ∀ x, (D[i]).v.ownBlock = some x → (D[k]).v.ownBlock ≠ some x := by
    intro i hi hik x hx hm
    have hp := List.pairwise_iff_getElem.1 h.apart
    rcases Nat.lt_or_ge i k with hlt | hge
    · exact hp i k hi hk hlt x hx hm
    · exact hp k i hk hi (by omega) x hm hx
  have hset : ∀ d ∈ D.set k ⟨a', c', L'⟩, d = ⟨a', c', L'⟩ ∨ ∃ i, ∃ hi : i < D.length, i ≠ k ∧ d = D[i] := by
    intro d hd
    obtain ⟨i, hi, rfl⟩ := List.mem_iff_getElem.1 hd
    rw [List.length_set] at hi
    by_cases hik : i = k
    · subst hik; left; simp
    · right; exact ⟨i, hi, hik, by rw [List.getElem_set, if_neg (by omega)]⟩
  refine ⟨f ++ (Value.slice a' L'.length c').ownBlock.toList, ⟨?_, ?_, ?_, ?_, by simp [h.ing], ?_, ?_⟩, hcf, ?_⟩
  · have h1 : RowOf rrC 1 wy 0 ts (.slice (some ⟨g, 0, none⟩) D.length D.length) D := h.row.kept hc (fun y hy hm => by cases hy; exact hgk (by simpa using hm))
    have h2 := RowOf.stored h1 rfl rrC_len k hk 0 (by omega) (.slice a' L'.length c') ⟨a', c', L'⟩ rfl
    rw [List.length_set]
    simpa using h2
  · intro d hd
    rcases hset d hd with rfl | ⟨i, hi, hik, rfl⟩
    · exact hr.kept hc2 (fun y hy hm => by simp at hm; exact hnew y hy hm)
    · refine ((h.rows _ (List.getElem_mem hi)).kept hc (fun y hy hm => hap i hi hik y hy (by simpa using hm))).kept hc2 (fun y hy hm => ?_)
      simp at hm; subst hm
      exact h.out _ (List.getElem_mem hi) hy
  · refine pairwise_setR (fun a b hab x hx hx2 => hab x hx2 hx) h.apart k hk _ (fun i hi hik x hx hx2 => ?_)
    rcases hl x hx with h1 | h1
    · exact hap i hi hik x hx2 h1
    · have := h.lt x (h.inr _ (List.getElem_mem hi) x hx2); omega
  · intro d hd
    rcases hset d hd with rfl | ⟨i, hi, hik, rfl⟩
    · intro hx; exact hnew g hx rfl
    · exact h.out _ (List.getElem_mem hi)
  · intro d hd x hx
    rcases hset d hd with rfl | ⟨i, hi, hik, rfl⟩
    · exact List.mem_append_right _ (by rw [show (Rr.v ⟨a', c', L'⟩ : Value) = .slice a' L'.length c' from rfl] at hx; simp [hx])
    · exact List.mem_append_left _ (h.inr _ (List.getElem_mem hi) x hx)
  · intro x hx
    rcases List.mem_append.1 hx with hx | hx
    · exact hcf.lt (h.lt x hx)
    · exact hc2.lt ((hr.block x (by simpa using hx)).2)
  · intro x hx
    rcases List.mem_append.1 hx with hx | hx
    · exact .inl hx
    · rcases hl x (by simpa using hx) with h1 | h1
      · exact .inl (h.inr _ hmem x h1)
      · exact .inr h1
end
end Go.Proofs.YtnhemokmgpelaaaGreatDoor
