/- Chapter 52: the ledger's plain laws. No condition. -/
import Derived.Test.YtfnnnflfikmekaaUseF
import Derived.Test.YtfnnnflfikmekaaRId
import Derived.Test.YtfnnnflfikmekaaRNm
namespace Go.Proofs.Ytfnnnflfikmekaa
set_option linter.unusedVariables false
set_option linter.unusedSimpArgs false
open Go.RowKit

def findC (l : List CR) (id : ByteArray) : Option CR := l.find? (fun c => c.r.id == id)
def checkR (r : UR) : Int := if (idB r.id && nameB r.tn && nameB r.fn) = true then (if r.per < 0 ∨ 1073741824 < r.per then 2 else if usB r.us = true then 0 else 2) else 4
def recE (s : Led) (r : UR) : Int := if checkR r = 0 then (match findC s.l r.id with | some c => if eqR c.r r = true then 0 else 19 | none => if s.l.length = 4000 then 3 else 0) else checkR r
def recS (s : Led) (r : UR) : Led := if checkR r = 0 then (match findC s.l r.id with | some _ => s | none => if s.l.length = 4000 then s else ⟨s.l ++ [⟨r, max r.per s.p⟩], s.p⟩) else s
theorem idx_none : ∀ (l : List CR) (n : Nat) (id : ByteArray), findC l id = none → lookL Prod.fst (idxFrom n l) id = none := by
  intro l
  induction l with
  | nil => intro n id _; rfl
  | cons c l ih =>
    intro n id h
    unfold findC at h
    rw [List.find?_cons] at h
    unfold idxFrom lookL
    rw [List.find?_cons]
    cases hc : c.r.id == id with
    | true => rw [hc] at h; simp at h
    | false =>
      rw [hc] at h
      simp only []
      exact ih (n + 1) id h
theorem idx_some : ∀ (l : List CR) (n : Nat) (id : ByteArray) (c : CR), findC l id = some c → ∃ i : Nat, lookL Prod.fst (idxFrom n l) id = some (c.r.id, ((n + i : Nat) : Int)) ∧ l[i]? = some c := by
  intro l
  induction l with
  | nil => intro n id c h; cases h
  | cons d l ih =>
    intro n id c h
    unfold findC at h
    rw [List.find?_cons] at h
    unfold idxFrom lookL
    rw [List.find?_cons]
    cases hc : d.r.id == id with
    | true =>
      rw [hc] at h
      simp only [Option.some.injEq] at h
      subst h
      exact ⟨0, rfl, rfl⟩
    | false =>
      rw [hc] at h
      simp only []
      obtain ⟨i, h1, h2⟩ := ih (n + 1) id c h
      refine ⟨i + 1, ?_, by simpa using h2⟩
      rw [show n + (i + 1) = n + 1 + i by omega]
      exact h1
theorem idx_snoc : ∀ (l : List CR) (n : Nat) (c : CR), idxFrom n l ++ [(c.r.id, ((n + l.length : Nat) : Int))] = idxFrom n (l ++ [c]) := by
  intro l
  induction l with
  | nil => intro n c; rfl
  | cons d l ih =>
    intro n c
    have := ih (n + 1) c
    simp only [idxFrom, List.cons_append, List.length_cons]
    rw [← this, show n + 1 + l.length = n + (l.length + 1) by omega]
theorem findC_key {l : List CR} {id : ByteArray} {c : CR} (h : findC l id = some c) : c.r.id = id := by
  have := List.find?_some h
  simpa using this
end Go.Proofs.Ytfnnnflfikmekaa
