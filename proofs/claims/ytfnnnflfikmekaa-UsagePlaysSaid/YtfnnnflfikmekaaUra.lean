/- Chapter 52: the reference's ledger: New, Check, Period, Len, Close. No condition. -/
import Derived.Test.YtfnnnflfikmekaaUseX
namespace Go.Proofs.Ytfnnnflfikmekaa
set_option linter.unusedVariables false
set_option linter.unusedSimpArgs false
open Go.RowKit
def RIs (w : World) (b : Nat) (v : Value) (s : Led) : Prop := w.heap[b]? = some (.cells #[.int .i64 s.p, v] 72 (0, 0)) ∧ RowOf crC 10 w 0 74 v s.l
variable {w w' : World} {b : Nat} {v : Value} {s : Led}
theorem RIs.kept {S : List Nat} (h : RIs w b v s) (hc : Chg S w w') (hS : ∀ x ∈ b :: v.ownBlock.toList, x ∉ S) : RIs w' b v s :=
  ⟨hc.at (hS _ (by simp)) h.1, h.2.kept hc (fun g hg => hS g (by simp [hg]))⟩
theorem RIs.keptN (h : RIs w b v s) (hc : Chg [] w w') : RIs w' b v s := h.kept hc (by simp)
theorem RIs.apart (h : RIs w b v s) : v.ownBlock ≠ some b := fun e => by
  obtain ⟨cur, hh⟩ := row_block h.2 e
  rw [h.1] at hh; simp at hh
def JR (b : Nat) (s : Led) : List Nat → World → Prop := fun f w => ∃ v, f = b :: v.ownBlock.toList ∧ RIs w b v s
theorem sideR (b : Nat) (s : Led) : Side (JR b s) := by
  constructor
  · rintro f w ⟨v, rfl, h⟩ x hx
    rcases List.mem_cons.1 hx with rfl | hx
    · exact lt_of_heap h.1
    · exact (h.2.block x (by simpa using hx)).2
  · rintro f S w w' ⟨v, rfl, h⟩ hc hS
    exact ⟨v, rfl, h.kept hc hS⟩
theorem rnew_any (w : World) : Calls Try.prog 21 #[] w fun e w' => ∃ b, e = .returned (.pointer (some ⟨b, 0, none⟩)) ∧ RIs w' b (.slice none 0 0) ⟨[], 0⟩ ∧ w.heap.size ≤ b ∧ Chg [] w w' := by
  go_enter Try.func21, Try.ntmps21
  go_wp2
  go_ret
  exact ⟨w.heap.size, rfl, ⟨heap_alloc_new _ _, RowOf.nil _ _ _⟩, Nat.le_refl _, (Chg.refl _ _).alloc _⟩
theorem rperiod_any (h : RIs w b v s) : Calls Try.prog 28 #[.pointer (some ⟨b, 0, none⟩)] w fun e w' => e = .returned (.int .i64 s.p) ∧ w = w' := by
  have c := blk_cell h.1
  clear h
  go_enter Try.func28, Try.ntmps28
  go_wp2
  go_ret
  exact ⟨rfl, rfl⟩
theorem rlen_any (h : RIs w b v s) : Calls Try.prog 29 #[.pointer (some ⟨b, 0, none⟩)] w fun e w' => e = .returned (.int .i64 s.l.length) ∧ w = w' := by
  have c := blk_cell h.1
  obtain ⟨a, cap, rfl⟩ := RowOf.shape h.2
  clear h
  go_enter Try.func29, Try.ntmps29
  go_wp2
  go_ret
  exact ⟨rfl, rfl⟩
theorem rclose_any (p : Int) (h : RIs w b v s) : Calls Try.prog 23 #[.pointer (some ⟨b, 0, none⟩), .int .i64 p] w fun e w' => e = .returned (.int .i64 (closeE s p)) ∧ RIs w' b v (closeS s p) ∧ Chg [b] w w' := by
  have H := Lib.hid h
  have c := blk_cell h.1
  have f := blk_free h.1
  clear h
  obtain ⟨R, hR⟩ : ∃ R, R = closeE s p := ⟨_, rfl⟩
  obtain ⟨S', hS⟩ : ∃ S', S' = closeS s p := ⟨_, rfl⟩
  rw [← hR, ← hS]
  unfold closeE at hR
  unfold closeS at hS
  by_cases h1 : p < 0
  · rw [if_pos (.inl h1)] at hR hS
    subst hR hS
    go_enter Try.func23, Try.ntmps23
    go_wp2_with fail
    go_ret
    exact ⟨rfl, H.out, Chg.refl _ _⟩
  by_cases h2 : 1073741824 ≤ p
  · rw [if_pos (.inr h2)] at hR hS
    subst hR hS
    go_enter Try.func23, Try.ntmps23
    go_wp2_with fail
    go_ret
    exact ⟨rfl, H.out, Chg.refl _ _⟩
  rw [if_neg (by omega)] at hR hS
  by_cases h3 : p = s.p
  · rw [if_neg (by simpa using h3)] at hR hS
    subst hR hS
    obtain ⟨L, P⟩ := s
    simp only [] at *
    subst h3
    go_enter Try.func23, Try.ntmps23
    go_wp2_with fail
    go_ret
    exact ⟨rfl, ⟨blk_set H.out.1 0 _, H.out.2.kept (S := [b]) ((Chg.refl _ _).setCell _ _ (by simp)) (fun g hg e => H.out.apart (by rw [hg]; simpa using e))⟩, (Chg.refl _ _).setCell _ _ (by simp)⟩
  · rw [if_pos h3] at hR hS
    have b3 : (p == s.p) = false := by simpa using h3
    subst hR hS
    go_enter Try.func23, Try.ntmps23
    go_wp2_with fail
    go_ret
    exact ⟨rfl, H.out, Chg.refl _ _⟩
set_option maxHeartbeats 8000000 in
set_option maxRecDepth 100000 in
theorem rcheck_any (r : UR) (hg : r.good) (w : World) : Calls Try.prog 41 #[urV r] w fun e w' => e = .returned (.int .i64 (checkR r)) ∧ Chg [] w w' := by
  have hbx := Lib.hid (heap_alloc_new w (urO r))
  have hC0 := Lib.hid (show Chg [] w (w.alloc (urO r)) from (Chg.refl _ _).alloc _)
  have k1 := blk_cell hbx.out
  have A1 := Lib.hid (fun w' => RID_any r.id w' hg.1)
  have A2 := Lib.hid (fun w' => rname_any r.tn w' hg.2.1)
  have A3 := Lib.hid (fun w' => rname_any r.fn w' hg.2.2.1)
  have A4 := Lib.hid (fun w' => rvalid_any r.us w')
  unfold usV at A4
  obtain ⟨W1, hW1⟩ : ∃ W1, W1 = w.alloc (urO r) := ⟨_, rfl⟩
  rw [← hW1] at hbx hC0 k1
  unfold urO at hW1 hbx
  have HW1 := Lib.hid hW1
  obtain ⟨R, hR⟩ : ∃ R, R = checkR r := ⟨_, rfl⟩
  rw [← hR]
  have hcs : (idB r.id = false ∧ R = 4) ∨ (idB r.id = true ∧ nameB r.tn = false ∧ R = 4) ∨ (idB r.id = true ∧ nameB r.tn = true ∧ nameB r.fn = false ∧ R = 4) ∨ (idB r.id = true ∧ nameB r.tn = true ∧ nameB r.fn = true ∧ r.per < 0 ∧ R = 2) ∨ (idB r.id = true ∧ nameB r.tn = true ∧ nameB r.fn = true ∧ 0 ≤ r.per ∧ 1073741824 < r.per ∧ R = 2) ∨ (idB r.id = true ∧ nameB r.tn = true ∧ nameB r.fn = true ∧ 0 ≤ r.per ∧ r.per ≤ 1073741824 ∧ usB r.us = false ∧ R = 2) ∨ (idB r.id = true ∧ nameB r.tn = true ∧ nameB r.fn = true ∧ 0 ≤ r.per ∧ r.per ≤ 1073741824 ∧ usB r.us = true ∧ R = 0) := by
    unfold checkR at hR
    cases h1 : idB r.id
    · rw [h1] at hR; exact .inl ⟨rfl, by simpa using hR⟩
    cases h2 : nameB r.tn
    · rw [h1, h2] at hR; exact .inr (.inl ⟨rfl, rfl, by simpa using hR⟩)
    cases h3 : nameB r.fn
    · rw [h1, h2, h3] at hR; exact .inr (.inr (.inl ⟨rfl, rfl, rfl, by simpa using hR⟩))
    rw [h1, h2, h3] at hR
    simp only [Bool.and_self, if_true] at hR
    by_cases q1 : r.per < 0
    · rw [if_pos (.inl q1)] at hR; exact .inr (.inr (.inr (.inl ⟨rfl, rfl, rfl, q1, hR⟩)))
    by_cases q2 : 1073741824 < r.per
    · rw [if_pos (.inr q2)] at hR; exact .inr (.inr (.inr (.inr (.inl ⟨rfl, rfl, rfl, by omega, q2, hR⟩))))
    rw [if_neg (by omega)] at hR
    cases h4 : usB r.us
    · rw [h4] at hR; exact .inr (.inr (.inr (.inr (.inr (.inl ⟨rfl, rfl, rfl, by omega, by omega, rfl, by simpa using hR⟩)))))
    · rw [h4] at hR; exact .inr (.inr (.inr (.inr (.inr (.inr ⟨rfl, rfl, rfl, by omega, by omega, rfl, by simpa using hR⟩)))))
  clear hR hW1 hg
  unfold urV
  rcases hcs with ⟨h1, rfl⟩ | ⟨h1, h2, rfl⟩ | ⟨h1, h2, h3, rfl⟩ | ⟨h1, h2, h3, q1, rfl⟩ | ⟨h1, h2, h3, q1, q2, rfl⟩ | ⟨h1, h2, h3, q1, q2, h4, rfl⟩ | ⟨h1, h2, h3, q1, q2, h4, rfl⟩
  all_goals
    go_enter Try.func41, Try.ntmps41
    go_wp2_with (first | (rw [← HW1.out]; (go_at_call 56; (with_reducible refine (A1.out _).mono ?_); rw [h1]; rintro e w2 ⟨rfl, rfl⟩)) | (go_at_call 42; (with_reducible refine (A2.out _).mono ?_); rw [h2]; rintro e w3 ⟨rfl, rfl⟩) | (go_at_call 42; (with_reducible refine (A3.out _).mono ?_); rw [h3]; rintro e w4 ⟨rfl, rfl⟩) | (go_at_call 48; (with_reducible refine (A4.out _).mono ?_); rw [h4]; rintro e w5 ⟨rfl, hc5⟩; have C5 := Lib.hid (hC0.out.thenSame hc5); clear hc5))
    go_ret
    exact ⟨rfl, by first | exact C5.out | exact hC0.out⟩
end Go.Proofs.Ytfnnnflfikmekaa
