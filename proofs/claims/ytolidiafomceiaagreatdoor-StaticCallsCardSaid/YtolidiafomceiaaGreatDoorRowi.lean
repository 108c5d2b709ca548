/- Over any program: rows of ints of the call's own; the library's sort of them. No condition. -/
import Derived.Test.YtolidiafomceiaaGreatDoorRown
import Derived.Sort.OwnSortedInts
namespace Go.Proofs.YtolidiafomceiaaGreatDoor
set_option linter.unusedVariables false
set_option linter.unusedSimpArgs false
open Go.RowKit

def icI (n : Int) : List Value := [.int .i64 n]
theorem flat_icI (l : List Int) : l.flatMap icI = l.map (Value.int .i64) := by induction l with
  | nil => rfl
  | cons x l ih => simp [icI, ih]
theorem icI_len (x : Int) : (icI x).length = 1 := rfl
theorem icI_one (x : Int) : ∀ u ∈ icI x, u.oneCell' = true := by intro u hu; simp [icI] at hu; subst hu; rfl
def leI (x y : Int) : Bool := decide (x ≤ y)

/-- The library's sort of ints, at rows of the call's own: f is its number. -/
theorem sort_rowI {P : Program} {f : FuncId}
    (hS : ∀ (blk off cap : Nat) (zs : List Int) (w : World) (_ : Sort.Holds (Value.int .i64) w blk off zs.toArray) (_ : blk < w.heap.size) (_ : zs.length < 4611686018427387904),
      Calls P f #[.slice (some ⟨blk, off, none⟩) zs.length cap] w fun e w' => e = .returned (.tuple #[]) ∧ ∃ n os, w' = Go.Sort.grow (Go.Sort.putRow (Value.int .i64) (Sort.ahead w n) blk off (zs.mergeSort fun x y => decide (x ≤ y)).toArray) os)
    (hN : ∀ (p : Option Addr) (cap : Nat) (w : World), Calls P f #[.slice p 0 cap] w fun e w' => e = .returned (.tuple #[]) ∧ w' = w)
    {w : World} {base : Nat} {e : TypeId} {v : Value} {l : List Int} (h : RowOf icI 1 w base e v l) (hl : l.length < 4611686018427387904) :
    Calls P f #[v] w fun ex w' => ex = .returned (.tuple #[]) ∧ RowOf icI 1 w' base e v (l.mergeSort leI) ∧ Chg v.ownBlock.toList w w' := by
  rcases h.2 with ⟨h2, h3⟩ | ⟨g, cap, cur, hv, hg, hh, h4, h5, h6, h7⟩
  · have hl0 := List.eq_nil_of_length_eq_zero h3
    subst hl0
    subst h2
    refine (hN none 0 w).mono ?_
    rintro ex w' ⟨rfl, rfl⟩
    exact ⟨rfl, by simpa using h, Chg.refl _ _⟩
  · subst hv
    rw [flat_icI, Nat.mul_one] at h7
    refine (hS g 0 cap l w (holds_of_blockI hh h7) (lt_of_heap hh) hl).mono ?_
    rintro ex w' ⟨rfl, n, os, rfl⟩
    refine ⟨rfl, ?_, Chg.ofRow (v := .slice (some ⟨g, 0, none⟩) l.length cap) (grownBy_sortedI _)⟩
    have := ownsRow_sortedI (n := n) (os := os) (ts := l.mergeSort leI) (by simp) hg hh h4 h5 h6
    unfold RowOf
    rw [flat_icI]
    have e1 : (l.mergeSort leI).length = l.length := by simp
    rw [e1]
    exact this
end Go.Proofs.YtolidiafomceiaaGreatDoor
