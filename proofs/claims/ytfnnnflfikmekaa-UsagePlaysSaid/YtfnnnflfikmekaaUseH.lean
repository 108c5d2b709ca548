/- Chapter 52: the ledger's Record. No condition. -/
import Derived.Test.YtfnnnflfikmekaaUseG
import Derived.StillTailTactics
import Derived.Lib.MinMax
namespace Go.Proofs.Ytfnnnflfikmekaa
set_option linter.unusedVariables false
set_option linter.unusedSimpArgs false
open Go.RowKit
variable {w w' : World} {b mb : Nat} {v : Value} {s : Led}

theorem crInfo : (Try.prog.info? 64).map (fun i => (i.zero, i.size, i.bytes)) = some (some (.agg #[.string ⟨#[]⟩, .string ⟨#[]⟩, .string ⟨#[]⟩, .int .i64 0, .int .i64 0, .int .i64 0, .int .i64 0, .int .i64 0, .bool false, .int .i64 0]), 10, 104) := by kernel_rfl
theorem zeroI (w : World) : (zeroValue 3).run Try.prog w = .ok (.int .i64 0) w := by kernel_rfl
def RecPost (w : World) (b mb : Nat) (v : Value) (n : Int) (S : Led) (e : Ending) (w' : World) : Prop :=
  e = .returned (.int .i64 n) ∧ ∃ v', LIs w' b mb v' S ∧ (∀ g, v'.ownBlock = some g → v.ownBlock = some g ∨ w.heap.size ≤ g) ∧ Chg (lfp b mb v) w w'
theorem RecPost.same (h : LIs w b mb v s) (hc : Chg [] w w') (n : Int) : RecPost w b mb v n s (.returned (.int .i64 n)) w' := ⟨rfl, v, h.keptN hc, fun g hg => .inl hg, hc.mono (by simp)⟩

def urO (r : UR) : Obj := .cells #[.string r.id, .string r.tn, .string r.fn, .int .i64 r.per, .int .i64 r.us.inv, .int .i64 r.us.steps, .int .i64 r.us.ticks, .int .i64 r.us.units, .bool r.fl] 30

set_option maxHeartbeats 8000000 in
set_option maxRecDepth 100000 in
theorem rec_name (r : UR) (hg : r.good) (h : LIs w b mb v s) (hn : (idB r.id && nameB r.tn && nameB r.fn) = false) : Calls Try.prog 14 #[.pointer (some ⟨b, 0, none⟩), urV r] w (RecPost w b mb v 4 s) := by
  have H := Lib.hid h
  clear h
  have hbx := Lib.hid (heap_alloc_new w (urO r))
  have hC0 := Lib.hid (show Chg [] w (w.alloc (urO r)) from (Chg.refl _ _).alloc _)
  obtain ⟨W1, hW1⟩ : ∃ W1, W1 = w.alloc (urO r) := ⟨_, rfl⟩
  have k1 := blk_cell hbx.out
  rw [← hW1] at hbx hC0 k1
  unfold urO at hW1 hbx
  have HW1 := Lib.hid hW1
  have A1 := Lib.hid (fun w' => ID_any r.id w' hg.1)
  have A2 := Lib.hid (fun w' => name_any r.tn w' hg.2.1)
  have A3 := Lib.hid (fun w' => name_any r.fn w' hg.2.2.1)
  have M1 := Lib.hid (fun w' (hc : Chg [] w w') => made_any (H.out.keptN hc))
  clear hW1
  have hn' : (idB r.id = false) ∨ (idB r.id = true ∧ nameB r.tn = false) ∨ (idB r.id = true ∧ nameB r.tn = true ∧ nameB r.fn = false) := by
    cases h1 : idB r.id <;> cases h2 : nameB r.tn <;> cases h3 : nameB r.fn <;> simp_all
  clear hn
  unfold urV
  rcases hn' with h1 | ⟨h1, h2⟩ | ⟨h1, h2, h3⟩
  all_goals
    go_enter Try.func14, Try.ntmps14
    go_wp2_with (first | (rw [← HW1.out]; (go_at_call 32; (with_reducible refine (M1.out _ hC0.out).mono ?_); rintro e w1 ⟨rfl, rfl⟩)) | (go_at_call 33; (with_reducible refine (A1.out _).mono ?_); rw [h1]; rintro e w2 ⟨rfl, hc2⟩; have C2 := Lib.hid (hC0.out.thenSame (Chg.ofBelow hc2)); have B2 := Lib.hid ((Chg.ofBelow (S := []) hc2).at (by simp) hbx.out); have k2 := blk_cell B2.out; clear hc2) | (go_at_call 34; (with_reducible refine (A2.out _).mono ?_); rw [h2]; rintro e w3 ⟨rfl, hc3⟩; have C3 := Lib.hid (C2.out.thenSame hc3); have B3 := Lib.hid (hc3.at (by simp) B2.out); have k3 := blk_cell B3.out; clear hc3) | (go_at_call 34; (with_reducible refine (A3.out _).mono ?_); rw [h3]; rintro e w4 ⟨rfl, hc4⟩; have C4 := Lib.hid (C3.out.thenSame hc4); clear hc4))
    go_ret
    first | exact RecPost.same H.out C2.out _ | exact RecPost.same H.out C3.out _ | exact RecPost.same H.out C4.out _
theorem retN {R : World → Nat → Nat → Value → Int → Led → Ending → World → Prop} {n m : Int} {S : Led} {e : Ending} (h : n = m) (k : R w b mb v n S e w') : R w b mb v m S e w' := h ▸ k
set_option maxHeartbeats 8000000 in
set_option maxRecDepth 100000 in
theorem rec_range (r : UR) (hg : r.good) (h : LIs w b mb v s) (hn : (idB r.id && nameB r.tn && nameB r.fn) = true) (hr : (r.per < 0 ∨ 1073741824 < r.per) ∨ usB r.us = false) : Calls Try.prog 14 #[.pointer (some ⟨b, 0, none⟩), urV r] w (RecPost w b mb v 2 s) := by
  have H := Lib.hid h
  clear h
  have hbx := Lib.hid (heap_alloc_new w (urO r))
  have hC0 := Lib.hid (show Chg [] w (w.alloc (urO r)) from (Chg.refl _ _).alloc _)
  obtain ⟨W1, hW1⟩ : ∃ W1, W1 = w.alloc (urO r) := ⟨_, rfl⟩
  have k1 := blk_cell hbx.out
  rw [← hW1] at hbx hC0 k1
  unfold urO at hW1 hbx
  have HW1 := Lib.hid hW1
  have A1 := Lib.hid (fun w' => ID_any r.id w' hg.1)
  have A2 := Lib.hid (fun w' => name_any r.tn w' hg.2.1)
  have A3 := Lib.hid (fun w' => name_any r.fn w' hg.2.2.1)
  have M1 := Lib.hid (fun w' (hc : Chg [] w w') => made_any (H.out.keptN hc))
  clear hW1
  have A4 := Lib.hid (fun w' => mvalid_any r.us w')
  unfold usV at A4
  simp only [Bool.and_eq_true] at hn
  obtain ⟨⟨h1, h2⟩, h3⟩ := hn
  have hr' : (r.per < 0) ∨ (0 ≤ r.per ∧ 1073741824 < r.per) ∨ (0 ≤ r.per ∧ r.per ≤ 1073741824 ∧ usB r.us = false) := by
    by_cases q1 : r.per < 0
    · exact .inl q1
    · by_cases q2 : 1073741824 < r.per
      · exact .inr (.inl ⟨by omega, q2⟩)
      · exact .inr (.inr ⟨by omega, by omega, hr.resolve_left (by omega)⟩)
  clear hr hg
  unfold urV
  rcases hr' with q1 | ⟨q1, q2⟩ | ⟨q1, q2, h4⟩
  all_goals
    go_enter Try.func14, Try.ntmps14
    go_wp2_with (first | (rw [← HW1.out]; (go_at_call 32; (with_reducible refine (M1.out _ hC0.out).mono ?_); rintro e w1 ⟨rfl, rfl⟩)) | (go_at_call 33; (with_reducible refine (A1.out _).mono ?_); rw [h1]; rintro e w2 ⟨rfl, hc2⟩; have C2 := Lib.hid (hC0.out.thenSame (Chg.ofBelow hc2)); have B2 := Lib.hid ((Chg.ofBelow (S := []) hc2).at (by simp) hbx.out); have k2 := blk_cell B2.out; clear hc2) | (go_at_call 34; (with_reducible refine (A2.out _).mono ?_); rw [h2]; rintro e w3 ⟨rfl, hc3⟩; have C3 := Lib.hid (C2.out.thenSame hc3); have B3 := Lib.hid (hc3.at (by simp) B2.out); have k3 := blk_cell B3.out; clear hc3) | (go_at_call 34; (with_reducible refine (A3.out _).mono ?_); rw [h3]; rintro e w4 ⟨rfl, hc4⟩; have C4 := Lib.hid (C3.out.thenSame hc4); have B4 := Lib.hid (hc4.at (by simp) B3.out); have k4 := blk_cell B4.out; clear hc4) | (go_at_call 35; (with_reducible refine (A4.out _).mono ?_); rw [h4]; rintro e w5 ⟨rfl, hc5⟩; have C5 := Lib.hid (C4.out.thenSame hc5); clear hc5))
    go_ret
    first | exact RecPost.same H.out C4.out _ | exact RecPost.same H.out C5.out _
end Go.Proofs.Ytfnnnflfikmekaa
