/- Chapter 52: calls on a ledger that New did not return. No condition. -/
import Derived.Test.YtfnnnflfikmekaaUseU
namespace Go.Proofs.Ytfnnnflfikmekaa
set_option linter.unusedVariables false
set_option linter.unusedSimpArgs false
open Go.RowKit
variable {w w' : World}
/-- Nil, or the zero ledger at a block. -/
def NobIs (w : World) (q : Option Addr) : Prop := q = none ∨ ∃ b, q = some ⟨b, 0, none⟩ ∧ w.heap[b]? = some (.cells #[.slice none 0 0, .map none, .int .i64 0] 56 (0, 0))
theorem NobIs.keptN {q : Option Addr} (h : NobIs w q) (hc : Chg [] w w') : NobIs w' q := by
  rcases h with h | ⟨b, h1, h2⟩
  · exact .inl h
  · exact .inr ⟨b, h1, hc.at (by simp) h2⟩
theorem made_no {q : Option Addr} (h : NobIs w q) : Calls Try.prog 32 #[.pointer q] w fun e w' => e = .returned (.bool false) ∧ w = w' := by
  have hm := fun w => run_neq_map_nil (P := Try.prog) w 54 9 3 none Try.underlying54
  rcases h with rfl | ⟨b, rfl, h⟩
  · go_enter Try.func32, Try.ntmps32
    go_wp2
    go_ret
    exact ⟨rfl, rfl⟩
  · have c := blk_cell h
    clear h
    go_enter Try.func32, Try.ntmps32
    go_wp2
    go_ret
    exact ⟨rfl, rfl⟩
theorem len_no {q : Option Addr} (h : NobIs w q) : Calls Try.prog 13 #[.pointer q] w fun e w' => e = .returned (.int .i64 0) ∧ w = w' := by
  have H := Lib.hid h
  clear h
  go_enter Try.func13, Try.ntmps13
  go_wp2_with fail
  refine (made_no H.out).mono ?_; rintro e w1 ⟨rfl, rfl⟩
  go_wp2_with fail
  go_ret
  exact ⟨rfl, rfl⟩
theorem period_no {q : Option Addr} (h : NobIs w q) : Calls Try.prog 19 #[.pointer q] w fun e w' => e = .returned (.int .i64 0) ∧ w = w' := by
  have H := Lib.hid h
  clear h
  go_enter Try.func19, Try.ntmps19
  go_wp2_with fail
  refine (made_no H.out).mono ?_; rintro e w1 ⟨rfl, rfl⟩
  go_wp2_with fail
  go_ret
  exact ⟨rfl, rfl⟩
theorem close_no {q : Option Addr} (p : Int) (h : NobIs w q) : Calls Try.prog 20 #[.pointer q, .int .i64 p] w fun e w' => e = .returned (.int .i64 10) ∧ w = w' := by
  have H := Lib.hid h
  clear h
  go_enter Try.func20, Try.ntmps20
  go_wp2_with fail
  refine (made_no H.out).mono ?_; rintro e w1 ⟨rfl, rfl⟩
  go_wp2_with fail
  go_ret
  exact ⟨rfl, rfl⟩
theorem funcs_no {q : Option Addr} (tn : ByteArray) (p : Int) (h : NobIs w q) : Calls Try.prog 18 #[.pointer q, .string tn, .int .i64 p] w fun e w' => e = .returned (.slice none 0 0) ∧ w = w' := by
  have H := Lib.hid h
  clear h
  go_enter Try.func18, Try.ntmps18
  go_wp2_with fail
  refine (made_no H.out).mono ?_; rintro e w1 ⟨rfl, rfl⟩
  go_wp2_with fail
  go_ret
  exact ⟨rfl, rfl⟩
theorem asked_no {q : Option Addr} (p : Int) (v : Value) (h : NobIs w q) : Calls Try.prog 36 #[.pointer q, .int .i64 p, v] w fun e w' => e = .returned (.int .i64 10) ∧ w = w' := by
  have H := Lib.hid h
  clear h
  go_enter Try.func36, Try.ntmps36
  go_wp2_with fail
  refine (made_no H.out).mono ?_; rintro e w1 ⟨rfl, rfl⟩
  go_wp2_with fail
  go_ret
  exact ⟨rfl, rfl⟩
set_option maxRecDepth 100000 in
theorem rec_no {q : Option Addr} (r : UR) (h : NobIs w q) : Calls Try.prog 14 #[.pointer q, urV r] w fun e w' => e = .returned (.int .i64 10) ∧ Chg [] w w' := by
  have H := Lib.hid (fun o => h.keptN ((Chg.refl [] w).alloc o))
  clear h
  unfold urV
  go_enter Try.func14, Try.ntmps14
  go_wp2_with fail
  refine (made_no (H.out _)).mono ?_; rintro e w1 ⟨rfl, rfl⟩
  go_wp2_with fail
  go_ret
  exact ⟨rfl, (Chg.refl _ _).alloc _⟩
set_option maxHeartbeats 4000000 in
set_option maxRecDepth 100000 in
theorem total_no {q : Option Addr} (tn : ByteArray) (p : Int) (h : NobIs w q) : Calls Try.prog 15 #[.pointer q, .string tn, .int .i64 p] w fun e w' => e = .returned (.tuple #[usV zU, .int .i64 10]) ∧ Chg [] w w' := by
  obtain ⟨W3, hW3⟩ : ∃ W3, W3 = ((w.alloc (.cells #[.string tn] 9)).alloc (.cells #[.int .i64 p] 3)).alloc (usO zU) := ⟨_, rfl⟩
  have hc3 : Chg [] w W3 := by rw [hW3]; exact (((Chg.refl _ _).alloc _).alloc _).alloc _
  obtain ⟨hx1, hx2, hx3⟩ := alloc3 w (.cells #[.string tn] 9) (.cells #[.int .i64 p] 3) (usO zU)
  rw [← hW3] at hx1 hx2 hx3
  have y1 := blk_cell hx1
  have y2 := blk_cell hx2
  have C3 := Lib.hid hc3
  have X3 := Lib.hid hx3
  have H := Lib.hid (fun o => (h.keptN hc3).keptN ((Chg.refl [] W3).alloc o))
  unfold usO zU at hW3
  simp only at hW3
  have HW3 := Lib.hid hW3
  clear h hc3 hx1 hx2 hx3 hW3
  go_enter Try.func15, Try.ntmps15
  go_wp2_with fail
  rw [← HW3.out]
  go_wp2_with fail
  refine (asked_no _ _ (H.out _)).mono ?_; rintro e w5 ⟨rfl, rfl⟩
  have Y3 := Lib.hid (blk_alloc (o' := .cells #[.string tn] 9) X3.out)
  have D5 := Lib.hid (C3.out.alloc (.cells #[.string tn] 9))
  generalize W3.alloc (.cells #[.string tn] 9) = W5 at *
  have g1 := blk_cell Y3.out
  have f1 := blk_free Y3.out
  have lt1 := lt_of_heap Y3.out
  go_wp2_with fail
  have r1 := blk_cell (four_at (.int .i64 0) (.int .i64 0) (.int .i64 0) (.int .i64 0) Y3.out)
  exact bodyPost_ret (v := .tuple #[usV zU, .int .i64 10]) (by simp [results, Try.results15, go_sem, usV, zU, r1]) rfl ⟨rfl, by repeat (first | exact D5.out | refine Chg.setCell ?_ _ _ (by simp; omega) | refine Chg.alloc ?_ _)⟩
end Go.Proofs.Ytfnnnflfikmekaa
