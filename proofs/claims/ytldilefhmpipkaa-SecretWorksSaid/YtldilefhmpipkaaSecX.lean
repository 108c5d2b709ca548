/- Chapter 22: the reference's vault as it lies in memory: a row of secrets, each with a row of bindings. No condition. -/
import Derived.Test.YtldilefhmpipkaaApp
namespace Go.Proofs.Ytldilefhmpipkaa
set_option linter.unusedVariables false
set_option linter.unusedSimpArgs false
open Go.RowKit

structure R0 where
  name : ByteArray
  text : ByteArray
  prev : ByteArray
  rot : Bool
  til : Int
  since : Int
  ver : Int
  bound : List (List UInt8)
structure RSec where
  s : R0
  ba : Option Addr
  bn : Nat
  bc : Nat
def rsCells (x : RSec) : List Value := [.string x.s.name, .string x.s.text, .string x.s.prev, .bool x.s.rot, .int .i64 x.s.til, .int .i64 x.s.since, .int .i64 x.s.ver, .slice x.ba x.bn x.bc]
def RSec.bv (x : RSec) : Value := .slice x.ba x.bn x.bc
theorem rsLen (x : RSec) : (rsCells x).length = 8 := rfl
theorem rsOne (x : RSec) : ∀ u ∈ rsCells x, u.oneCell' = true := by
  intro u hu; simp only [rsCells, List.mem_cons, List.not_mem_nil, or_false] at hu
  rcases hu with rfl | rfl | rfl | rfl | rfl | rfl | rfl | rfl <;> rfl
/-- The vault at block rb; sv: its slice of secrets. -/
def RVIs (w : World) (rb : Nat) (sv : Value) (l : List RSec) : Prop :=
  w.heap[rb]? = some (.cells #[.bool true, sv] 56 (0, 0)) ∧ RowOf rsCells 8 w 0 80 sv l ∧ ∀ x ∈ l, RowOf kc 1 w 0 9 x.bv x.s.bound
def rfp (rb : Nat) (sv : Value) (l : List RSec) : List Nat := rb :: (sv.ownBlock.toList ++ l.flatMap fun x => x.bv.ownBlock.toList)
theorem mem_rfp {rb : Nat} {sv : Value} {l : List RSec} {b : Nat} : b ∈ rfp rb sv l ↔ b = rb ∨ sv.ownBlock = some b ∨ ∃ x ∈ l, x.bv.ownBlock = some b := by
  unfold rfp
  simp [List.mem_flatMap]
theorem RVIs.lt {w : World} {rb : Nat} {sv : Value} {l : List RSec} (h : RVIs w rb sv l) : ∀ b ∈ rfp rb sv l, b < w.heap.size := by
  intro b hb
  rcases mem_rfp.1 hb with rfl | hb | ⟨x, hx, hb⟩
  · exact lt_of_heap h.1
  · exact (h.2.1.block b hb).2
  · exact ((h.2.2 x hx).block b hb).2
theorem RVIs.kept {w w' : World} {rb : Nat} {sv : Value} {l : List RSec} {S : List Nat} (h : RVIs w rb sv l) (hc : Chg S w w') (hS : ∀ b ∈ rfp rb sv l, b ∉ S) : RVIs w' rb sv l :=
  ⟨hc.at (hS _ (mem_rfp.2 (.inl rfl))) h.1, h.2.1.kept hc (fun g hg => hS g (mem_rfp.2 (.inr (.inl hg)))), fun x hx => (h.2.2 x hx).kept hc (fun g hg => hS g (mem_rfp.2 (.inr (.inr ⟨x, hx, hg⟩))))⟩
theorem RVIs.keptN {w w' : World} {rb : Nat} {sv : Value} {l : List RSec} (h : RVIs w rb sv l) (hc : Chg [] w w') : RVIs w' rb sv l := h.kept hc (by simp)
theorem row_block {α : Type} {cf : α → List Value} {sz : Nat} {w : World} {base : Nat} {e : TypeId} {v : Value} {l : List α} (h : RowOf cf sz w base e v l) {g : Nat} (hg : v.ownBlock = some g) : ∃ cur, w.heap[g]? = some (.cells cur e (0, 0)) := by
  rcases h.2 with ⟨h2, _⟩ | ⟨g', cap, cur, hv, _, hh, _⟩
  · rw [h2] at hg; cases hg
  · rw [hv] at hg
    cases hg
    exact ⟨cur, hh⟩
/-- The types of the blocks keep them apart. -/
theorem RVIs.apart {w : World} {rb : Nat} {sv : Value} {l : List RSec} (h : RVIs w rb sv l) : sv.ownBlock ≠ some rb ∧ ∀ x ∈ l, x.bv.ownBlock ≠ some rb ∧ ∀ g, x.bv.ownBlock = some g → sv.ownBlock ≠ some g := by
  refine ⟨fun e => ?_, fun x hx => ⟨fun e => ?_, fun g hg e => ?_⟩⟩
  · obtain ⟨cur, hh⟩ := row_block h.2.1 e
    rw [h.1] at hh; simp at hh
  · obtain ⟨cur, hh⟩ := row_block (h.2.2 x hx) e
    rw [h.1] at hh; simp at hh
  · obtain ⟨c1, h1⟩ := row_block (h.2.2 x hx) hg
    obtain ⟨c2, h2⟩ := row_block h.2.1 e
    rw [h1] at h2; simp at h2
def RVPost (w : World) (rb : Nat) (sv : Value) (l : List RSec) (v : Value) (L' : List R0) (e : Ending) (w' : World) : Prop :=
  e = .returned v ∧ ∃ sv' l', l'.map RSec.s = L' ∧ RVIs w' rb sv' l' ∧ Chg (rb :: sv.ownBlock.toList) w w' ∧ ∀ b ∈ rfp rb sv' l', b ∈ rfp rb sv l ∨ w.heap.size ≤ b
theorem RVPost.same {w w' : World} {rb : Nat} {sv : Value} {l : List RSec} {v : Value} {e : Ending} (he : e = .returned v) (h : RVIs w rb sv l) (hc : Chg [] w w') : RVPost w rb sv l v (l.map RSec.s) e w' :=
  ⟨he, sv, l, rfl, h.keptN hc, hc.mono (by simp), fun b hb => .inl hb⟩
end Go.Proofs.Ytldilefhmpipkaa
