/- Chapter 52: the program's ledger: New, made, Len, Period, Close. No condition. -/
import Derived.Test.YtfnnnflfikmekaaUseE
import Derived.Test.YtfnnnflfikmekaaMapl
namespace Go.Proofs.Ytfnnnflfikmekaa
set_option linter.unusedVariables false
set_option linter.unusedSimpArgs false
open Go.RowKit

structure CR where
  r : UR
  p : Int
def crC (c : CR) : List Value := [.string c.r.id, .string c.r.tn, .string c.r.fn, .int .i64 c.r.per, .int .i64 c.r.us.inv, .int .i64 c.r.us.steps, .int .i64 c.r.us.ticks, .int .i64 c.r.us.units, .bool c.r.fl, .int .i64 c.p]
def crV (c : CR) : Value := .agg #[.string c.r.id, .string c.r.tn, .string c.r.fn, .int .i64 c.r.per, .int .i64 c.r.us.inv, .int .i64 c.r.us.steps, .int .i64 c.r.us.ticks, .int .i64 c.r.us.units, .bool c.r.fl, .int .i64 c.p]
theorem crLen (c : CR) : (crC c).length = 10 := rfl
theorem crOne (c : CR) : ∀ u ∈ crC c, u.oneCell' = true := by
  intro u hu; simp only [crC, List.mem_cons, List.not_mem_nil, or_false] at hu
  rcases hu with rfl | rfl | rfl | rfl | rfl | rfl | rfl | rfl | rfl | rfl <;> rfl
structure Led where
  l : List CR
  p : Int
/-- Identifiers with their places. -/
def idxFrom (n : Nat) : List CR → List (ByteArray × Int)
  | [] => []
  | c :: l => (c.r.id, (n : Int)) :: idxFrom (n + 1) l
def plV (x : ByteArray × Int) : Value := .int .i64 x.2
/-- The ledger at block b: its map mb, its slice v. -/
def LIs (w : World) (b mb : Nat) (v : Value) (s : Led) : Prop :=
  w.heap[b]? = some (.cells #[v, .map (some mb), .int .i64 s.p] 56 (0, 0)) ∧ MapIs Prod.fst plV w mb (idxFrom 0 s.l) ∧ RowOf crC 10 w 0 64 v s.l
theorem row_block {α : Type} {cf : α → List Value} {sz : Nat} {w : World} {base : Nat} {e : TypeId} {v : Value} {l : List α} (h : RowOf cf sz w base e v l) {g : Nat} (hg : v.ownBlock = some g) : ∃ cur, w.heap[g]? = some (.cells cur e (0, 0)) := by
  rcases h.2 with ⟨h2, _⟩ | ⟨g', cap, cur, hv, _, hh, _⟩
  · rw [h2] at hg; cases hg
  · rw [hv] at hg
    cases hg
    exact ⟨cur, hh⟩
def lfp (b mb : Nat) (v : Value) : List Nat := b :: mb :: v.ownBlock.toList
variable {w w' : World} {b mb : Nat} {v : Value} {s : Led}
theorem mem_lfp {x : Nat} : x ∈ lfp b mb v ↔ x = b ∨ x = mb ∨ v.ownBlock = some x := by
  unfold lfp; simp
theorem LIs.lt (h : LIs w b mb v s) : ∀ x ∈ lfp b mb v, x < w.heap.size := by
  intro x hx
  rcases mem_lfp.1 hx with rfl | rfl | hx
  · exact lt_of_heap h.1
  · exact h.2.1.lt
  · exact (h.2.2.block x hx).2
theorem LIs.kept {S : List Nat} (h : LIs w b mb v s) (hc : Chg S w w') (hS : ∀ x ∈ lfp b mb v, x ∉ S) : LIs w' b mb v s :=
  ⟨hc.at (hS _ (mem_lfp.2 (.inl rfl))) h.1, h.2.1.kept hc (hS _ (mem_lfp.2 (.inr (.inl rfl)))), h.2.2.kept hc (fun g hg => hS g (mem_lfp.2 (.inr (.inr hg))))⟩
theorem LIs.keptN (h : LIs w b mb v s) (hc : Chg [] w w') : LIs w' b mb v s := h.kept hc (by simp)
theorem LIs.apart (h : LIs w b mb v s) : b ≠ mb ∧ v.ownBlock ≠ some b ∧ v.ownBlock ≠ some mb := by
  refine ⟨fun e => ?_, fun e => ?_, fun e => ?_⟩
  · obtain ⟨es, c, hm, _⟩ := h.2.1
    rw [← e, h.1] at hm; cases hm
  · obtain ⟨cur, hh⟩ := row_block h.2.2 e
    rw [h.1] at hh; simp at hh
  · obtain ⟨cur, hh⟩ := row_block h.2.2 e
    obtain ⟨es, c, hm, _⟩ := h.2.1
    rw [hm] at hh; cases hh

theorem new_any (w : World) : Calls Try.prog 11 #[] w fun e w' => ∃ b mb, e = .returned (.pointer (some ⟨b, 0, none⟩)) ∧ LIs w' b mb (.slice none 0 0) ⟨[], 0⟩ ∧ w.heap.size ≤ b ∧ w.heap.size ≤ mb ∧ Chg [] w w' := by
  have hmm := @run_makeMap Try.prog
  go_enter Try.func11, Try.ntmps11
  go_wp2
  go_ret
  have hc : Chg [] w ((w.alloc (.map #[] 0)).alloc (.cells #[.slice none 0 0, .map (some w.heap.size), .int .i64 0] 56)) := ((Chg.refl _ _).alloc _).alloc _
  refine ⟨w.heap.size + 1, w.heap.size, rfl, ⟨?_, ?_, RowOf.nil _ _ _⟩, by omega, by omega, hc⟩
  · have := heap_alloc_new (w.alloc (.map #[] 0)) (.cells #[.slice none 0 0, .map (some w.heap.size), .int .i64 0] 56)
    rw [World.size_alloc] at this
    exact this
  · exact (mapIs_new (kf := Prod.fst) (vf := plV) w).kept (S := []) ((Chg.refl _ _).alloc _) (by simp)

theorem made_any (h : LIs w b mb v s) : Calls Try.prog 32 #[.pointer (some ⟨b, 0, none⟩)] w fun e w' => e = .returned (.bool true) ∧ w = w' := by
  have c := blk_cell h.1
  clear h
  have hm := fun w => run_neq_map_nil (P := Try.prog) w 54 9 3 (some mb) Try.underlying54
  go_enter Try.func32, Try.ntmps32
  go_wp2
  go_ret
  exact ⟨rfl, rfl⟩
theorem len_any (h : LIs w b mb v s) : Calls Try.prog 13 #[.pointer (some ⟨b, 0, none⟩)] w fun e w' => e = .returned (.int .i64 s.l.length) ∧ w = w' := by
  have H := Lib.hid h
  have c := blk_cell h.1
  obtain ⟨a, cap, rfl⟩ := RowOf.shape h.2.2
  clear h
  go_enter Try.func13, Try.ntmps13
  go_wp2_with fail
  refine (made_any H.out).mono ?_; rintro e w1 ⟨rfl, rfl⟩
  go_wp2_with fail
  go_ret
  exact ⟨rfl, rfl⟩
theorem period_any (h : LIs w b mb v s) : Calls Try.prog 19 #[.pointer (some ⟨b, 0, none⟩)] w fun e w' => e = .returned (.int .i64 s.p) ∧ w = w' := by
  have H := Lib.hid h
  have c := blk_cell h.1
  clear h
  go_enter Try.func19, Try.ntmps19
  go_wp2_with fail
  refine (made_any H.out).mono ?_; rintro e w1 ⟨rfl, rfl⟩
  go_wp2_with fail
  go_ret
  exact ⟨rfl, rfl⟩
def closeE (s : Led) (p : Int) : Int := if p < 0 ∨ 1073741824 ≤ p then 2 else if p ≠ s.p then 11 else 0
def closeS (s : Led) (p : Int) : Led := if p < 0 ∨ 1073741824 ≤ p then s else if p ≠ s.p then s else ⟨s.l, s.p + 1⟩
theorem close_any (p : Int) (h : LIs w b mb v s) : Calls Try.prog 20 #[.pointer (some ⟨b, 0, none⟩), .int .i64 p] w fun e w' => e = .returned (.int .i64 (closeE s p)) ∧ LIs w' b mb v (closeS s p) ∧ Chg [b] w w' := by
  have H := Lib.hid h
  have c := blk_cell h.1
  have f := blk_free h.1
  clear h
  obtain ⟨R, hR⟩ : ∃ R, R = closeE s p := ⟨_, rfl⟩
  obtain ⟨S', hS⟩ : ∃ S', S' = closeS s p := ⟨_, rfl⟩
  rw [← hR, ← hS]
  unfold closeE at hR
  unfold closeS at hS
  by_cases h1 : p < 0
  · rw [if_pos (.inl h1)] at hR hS
    subst hR hS
    go_enter Try.func20, Try.ntmps20
    go_wp2_with fail
    refine (made_any H.out).mono ?_; rintro e w1 ⟨rfl, rfl⟩
    go_wp2_with fail
    go_ret
    exact ⟨rfl, H.out, Chg.refl _ _⟩
  by_cases h2 : 1073741824 ≤ p
  · rw [if_pos (.inr h2)] at hR hS
    subst hR hS
    go_enter Try.func20, Try.ntmps20
    go_wp2_with fail
    refine (made_any H.out).mono ?_; rintro e w1 ⟨rfl, rfl⟩
    go_wp2_with fail
    go_ret
    exact ⟨rfl, H.out, Chg.refl _ _⟩
  rw [if_neg (by omega)] at hR hS
  by_cases h3 : p = s.p
  · rw [if_neg (by simpa using h3)] at hR hS
    subst hR hS
    obtain ⟨L, P⟩ := s
    simp only [] at *
    subst h3
    go_enter Try.func20, Try.ntmps20
    go_wp2_with fail
    refine (made_any H.out).mono ?_; rintro e w1 ⟨rfl, rfl⟩
    go_wp2_with fail
    go_ret
    refine ⟨rfl, ⟨blk_set H.out.1 2 _, H.out.2.1.kept (S := [b]) ((Chg.refl _ _).setCell _ _ (by simp)) (by simpa using fun e => H.out.apart.1 e.symm), H.out.2.2.kept (S := [b]) ((Chg.refl _ _).setCell _ _ (by simp)) (fun g hg e => H.out.apart.2.1 (by rw [hg]; simpa using e))⟩, (Chg.refl _ _).setCell _ _ (by simp)⟩
  · rw [if_pos h3] at hR hS
    have b3 : (p == s.p) = false := by simpa using h3
    subst hR hS
    go_enter Try.func20, Try.ntmps20
    go_wp2_with fail
    refine (made_any H.out).mono ?_; rintro e w1 ⟨rfl, rfl⟩
    go_wp2_with fail
    go_ret
    exact ⟨rfl, H.out, Chg.refl _ _⟩
end Go.Proofs.Ytfnnnflfikmekaa
