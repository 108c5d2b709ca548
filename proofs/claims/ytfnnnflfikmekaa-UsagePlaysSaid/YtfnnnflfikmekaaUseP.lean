/- Chapter 52: Total. No condition. -/
import Derived.Test.YtfnnnflfikmekaaUseO
import Derived.Test.YtfnnnflfikmekaaUseN
namespace Go.Proofs.Ytfnnnflfikmekaa
set_option linter.unusedVariables false
set_option linter.unusedSimpArgs false
open Go.RowKit
variable {w w' : World} {b mb : Nat} {v : Value} {s : Led}
def totU (s : Led) (tn : ByteArray) (p : Int) : Us × Int := if askE [tn] p = 0 then sumU (totB tn p) s.l zU else (zU, askE [tn] p)
theorem alloc3 (w : World) (o1 o2 o3 : Obj) : (((w.alloc o1).alloc o2).alloc o3).heap[w.heap.size]? = some o1 ∧ (((w.alloc o1).alloc o2).alloc o3).heap[w.heap.size + 1]? = some o2 ∧ (((w.alloc o1).alloc o2).alloc o3).heap[w.heap.size + 1 + 1]? = some o3 := by
  refine ⟨blk_alloc (blk_alloc (heap_alloc_new w o1)), blk_alloc ?_, ?_⟩
  · have := heap_alloc_new (w.alloc o1) o2
    rw [World.size_alloc] at this
    exact this
  · have := heap_alloc_new ((w.alloc o1).alloc o2) o3
    rw [World.size_alloc, World.size_alloc] at this
    exact this
set_option maxHeartbeats 8000000 in
set_option maxRecDepth 100000 in
theorem total_any (tn : ByteArray) (p : Int) (h : LIs w b mb v s) (hs : tn.size ≤ maxLen) (hl : s.l.length ≤ 4000) :
    Calls Try.prog 15 #[.pointer (some ⟨b, 0, none⟩), .string tn, .int .i64 p] w fun e w' => e = .returned (.tuple #[usV (totU s tn p).1, .int .i64 (totU s tn p).2]) ∧ Chg [] w w' := by
  obtain ⟨W3, hW3⟩ : ∃ W3, W3 = ((w.alloc (.cells #[.string tn] 9)).alloc (.cells #[.int .i64 p] 3)).alloc (usO zU) := ⟨_, rfl⟩
  have hc3 : Chg [] w W3 := by rw [hW3]; exact (((Chg.refl _ _).alloc _).alloc _).alloc _
  obtain ⟨hx1, hx2, hx3⟩ := alloc3 w (.cells #[.string tn] 9) (.cells #[.int .i64 p] 3) (usO zU)
  rw [← hW3] at hx1 hx2 hx3
  have C3 := Lib.hid hc3
  have X1 := Lib.hid hx1
  have X2 := Lib.hid hx2
  have X3 := Lib.hid hx3
  have y1 := blk_cell hx1
  have y2 := blk_cell hx2
  have H := Lib.hid h
  unfold usO zU at hW3
  simp only at hW3
  have HW3 := Lib.hid hW3
  obtain ⟨W4, hW4⟩ : ∃ W4, W4 = W3.alloc (.cells #[.string tn] 9) := ⟨_, rfl⟩
  have hc4 : Chg [] W3 W4 := by rw [hW4]; exact (Chg.refl _ _).alloc _
  have hx4 : W4.heap[W3.heap.size]? = some (.cells #[.string tn] 9) := by rw [hW4]; exact heap_alloc_new _ _
  have hz3 : W3.heap.size = w.heap.size + 1 + 1 + 1 := by rw [hW3]; simp
  rw [hz3] at hx4
  have C4 := Lib.hid (hc3.thenSame hc4)
  have HC4 := Lib.hid hc4
  have HW4 := Lib.hid hW4
  have hn4 : ∀ k (hk : k < [tn].length), W4.cell? ⟨w.heap.size + 1 + 1 + 1, k, none⟩ = some (.string [tn][k]) := by
    intro k hk
    have hk0 : k = 0 := by simpa using hk
    subst hk0
    rw [blk_cell hx4]; rfl
  have A1 := asked_any [tn] p (w.heap.size + 1 + 1 + 1) 1 (H.out.keptN C4.out) (lt_of_heap hx4) hn4 (by simpa using hs) (by simp)
  rw [show [tn].length = 1 from rfl] at A1
  clear hn4
  obtain ⟨R, hR⟩ : ∃ R, R = totU s tn p := ⟨_, rfl⟩
  rw [← hR]
  unfold totU at hR
  have hsum : ∀ w', Chg [] W3 w' → Calls Try.prog 37 #[.pointer (some ⟨b, 0, none⟩), .func (.func 38) #[] #[.pointer (some ⟨w.heap.size, 0, none⟩), .pointer (some ⟨w.heap.size + 1, 0, none⟩)]] w' fun e w'' => e = .returned (.tuple #[usV (sumU (totB tn p) s.l zU).1, .int .i64 (sumU (totB tn p) s.l zU).2]) ∧ Chg [] w' w'' := fun w' hc =>
    sum_tot (totB tn p) _ _ (H.out.keptN (C3.out.thenSame hc)) hl fun c w'' hc' => by
      have z1 := (hc.thenSame hc').at (by simp) X1.out
      have z2 := (hc.thenSame hc').at (by simp) X2.out
      exact totf_any c _ _ tn p w'' (by rw [blk_cell z1]; rfl) (by rw [blk_cell z2]; rfl) (lt_of_heap z1) (lt_of_heap z2)
  generalize askE [tn] p = E at *
  generalize sumU (totB tn p) s.l zU = Q at *
  obtain ⟨q1, q2⟩ := Q
  simp only at hsum hR
  have A1 := Lib.hid A1
  rename_i A10
  unfold usV at hsum
  have HS := Lib.hid hsum
  clear A10 h hc3 hx1 hx2 hx3 hW3 hW4 hc4 hx4 hsum hz3
  go_enter Try.func15, Try.ntmps15
  go_wp2_with fail
  rw [← HW3.out]
  go_wp2_with fail
  rw [← HW4.out]
  refine A1.out.mono ?_; rintro e w5 ⟨rfl, hc5⟩
  have C5 := Lib.hid (HC4.out.thenSame hc5)
  have D5 := Lib.hid (C3.out.thenSame C5.out)
  have Y3 := Lib.hid (C5.out.at (by simp) X3.out)
  have g1 := blk_cell Y3.out
  have f1 := blk_free Y3.out
  have lt1 := lt_of_heap Y3.out
  clear hc5 A1
  by_cases hE : E = 0
  · rw [if_pos hE] at hR
    subst hE
    go_wp2_with fail
    refine (HS.out _ C5.out).mono ?_; rintro e w6 ⟨rfl, hc6⟩
    have D6 := Lib.hid (D5.out.thenSame hc6)
    have Y6 := Lib.hid (hc6.at (by simp) Y3.out)
    have g2 := blk_cell Y6.out
    have f2 := blk_free Y6.out
    have lt2 := lt_of_heap Y6.out
    subst hR
    clear hc6 g1 f1 lt1 HS
    go_wp2_with fail
    have r1 := blk_cell (four_at (.int .i64 q1.inv) (.int .i64 q1.steps) (.int .i64 q1.ticks) (.int .i64 q1.units) Y6.out)
    exact bodyPost_ret (v := .tuple #[usV q1, .int .i64 q2]) (by simp [results, Try.results15, go_sem, usV, r1]) rfl ⟨rfl, by repeat (first | exact D6.out | refine Chg.setCell ?_ _ _ (by simp; omega) | refine Chg.alloc ?_ _)⟩
  · rw [if_neg hE] at hR
    subst hR
    have hE' : (E == 0) = false := by simpa using hE
    go_wp2_with fail
    have r1 := blk_cell (four_at (.int .i64 0) (.int .i64 0) (.int .i64 0) (.int .i64 0) Y3.out)
    exact bodyPost_ret (v := .tuple #[usV zU, .int .i64 E]) (by simp [results, Try.results15, go_sem, usV, zU, r1]) rfl ⟨rfl, by repeat (first | exact D5.out | refine Chg.setCell ?_ _ _ (by simp; omega) | refine Chg.alloc ?_ _)⟩
end Go.Proofs.Ytfnnnflfikmekaa
