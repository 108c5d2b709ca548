/- Chapter 52: UsageNobody: ledgers that New did not return are empty. No condition. -/
import Derived.Test.YtfnnnflfikmekaaUno
import Derived.Test.YtfnnnflfikmekaaUseX
namespace Go.Proofs.Ytfnnnflfikmekaa
set_option linter.unusedVariables false
set_option linter.unusedSimpArgs false
open Go.RowKit
variable {w w' : World}
set_option maxHeartbeats 4000000 in
set_option maxRecDepth 100000 in
theorem byf_no {q : Option Addr} (tn fn : ByteArray) (p : Int) (h : NobIs w q) : Calls Try.prog 25 #[.pointer q, .string tn, .string fn, .int .i64 p] w fun e w' => e = .returned (.tuple #[usV zU, usV zU, .int .i64 10]) ∧ Chg [] w w' := by
  obtain ⟨W3, hW3⟩ : ∃ W3, W3 = ((((w.alloc (.cells #[.string tn] 9)).alloc (.cells #[.string fn] 9)).alloc (.cells #[.int .i64 p] 3)).alloc (usO zU)).alloc (usO zU) := ⟨_, rfl⟩
  have hc3 : Chg [] w W3 := by rw [hW3]; exact (((((Chg.refl _ _).alloc _).alloc _).alloc _).alloc _).alloc _
  obtain ⟨hx1, hx2, hx3, hx4, hx5⟩ := alloc5 w (.cells #[.string tn] 9) (.cells #[.string fn] 9) (.cells #[.int .i64 p] 3) (usO zU) (usO zU)
  rw [← hW3] at hx1 hx2 hx3 hx4 hx5
  have y1 := blk_cell hx1
  have y2 := blk_cell hx2
  have y3 := blk_cell hx3
  have C3 := Lib.hid hc3
  have X4 := Lib.hid hx4
  have X5 := Lib.hid hx5
  have H := Lib.hid (fun o => (h.keptN hc3).keptN ((Chg.refl [] W3).alloc o))
  unfold usO zU at hW3
  simp only at hW3
  have HW3 := Lib.hid hW3
  clear h hc3 hx1 hx2 hx3 hx4 hx5 hW3
  go_enter Try.func25, Try.ntmps25
  go_wp2_with fail
  rw [← HW3.out]
  go_wp2_with fail
  refine (asked_no _ _ (H.out _)).mono ?_; rintro e w5 ⟨rfl, rfl⟩
  have Y4 := Lib.hid (blk_alloc (o' := .cells #[.string tn, .string fn] 9) X4.out)
  have Y5 := Lib.hid (blk_alloc (o' := .cells #[.string tn, .string fn] 9) X5.out)
  have D5 := Lib.hid (C3.out.alloc (.cells #[.string tn, .string fn] 9))
  generalize W3.alloc (.cells #[.string tn, .string fn] 9) = w5 at *
  have g4 := blk_cell Y4.out
  have f4 := blk_free Y4.out
  have lt4 := lt_of_heap Y4.out
  have g5 := blk_cell Y5.out
  have f5 := blk_free Y5.out
  have lt5 := lt_of_heap Y5.out
  go_wp2_with fail
  have r8 := eight_at zU zU Y4.out Y5.out (by omega)
  have hch := eight_chg zU zU (Nat.le_trans (by omega) (Nat.le_refl (w.heap.size + 1 + 1 + 1))) (Nat.le_trans (by omega) (Nat.le_refl (w.heap.size + 1 + 1 + 1 + 1))) D5.out
  change bodyPost _ _ _ _ _ (set4 (set4 w5 (w.heap.size + 1 + 1 + 1) zU) (w.heap.size + 1 + 1 + 1 + 1) zU)
  generalize set4 (set4 w5 (w.heap.size + 1 + 1 + 1) zU) (w.heap.size + 1 + 1 + 1 + 1) zU = wz at r8 hch ⊢
  have r4 := blk_cell r8.1
  have r5 := blk_cell r8.2
  unfold zU at r4 r5
  exact bodyPost_ret (v := .tuple #[usV zU, usV zU, .int .i64 10]) (by simp [results, Try.results25, go_sem, usV, zU, r4, r5]) rfl ⟨rfl, hch⟩
set_option maxHeartbeats 8000000 in
set_option maxRecDepth 100000 in
theorem nobody_walk (r : UR) (tn : ByteArray) (p : Int) (w : World) (_h0 : r.good) (_h1 : tn.size ≤ maxLen) (_h2 : (Lit.int .i64 p).wf = true) : Calls Try.prog 8 #[.agg (urC r).toArray, .string tn, .int .i64 p] w fun e w' => e = .returned (.bool true) ∧ Below w.heap.size w w' := by
  obtain ⟨W3, hW3⟩ : ∃ W3, W3 = ((w.alloc (urO r)).alloc (.cells #[.slice none 0 0, .map none, .int .i64 0] 56)).alloc (.cells #[.pointer none, .pointer (some ⟨w.heap.size + 1, 0, none⟩)] 25) := ⟨_, rfl⟩
  have hc3 : Chg [] w W3 := by rw [hW3]; exact (((Chg.refl _ _).alloc _).alloc _).alloc _
  obtain ⟨hx1, hx2, hx3⟩ := alloc3 w (urO r) (.cells #[.slice none 0 0, .map none, .int .i64 0] 56) (.cells #[.pointer none, .pointer (some ⟨w.heap.size + 1, 0, none⟩)] 25)
  rw [← hW3] at hx1 hx2 hx3
  have C3 := Lib.hid hc3
  have X1 := Lib.hid hx1
  have X2 := Lib.hid hx2
  have X3 := Lib.hid hx3
  unfold urO at hW3
  have HW3 := Lib.hid hW3
  clear hc3 hx1 hx2 hx3 hW3
  have QN := Lib.hid (fun w => neqU zU zU w)
  rw [eqU_iff.2 rfl] at QN
  unfold usV zU at QN
  simp only at QN
  show Calls Try.prog 8 #[.agg #[.string r.id, .string r.tn, .string r.fn, .int .i64 r.per, .int .i64 r.us.inv, .int .i64 r.us.steps, .int .i64 r.us.ticks, .int .i64 r.us.units, .bool r.fl], .string tn, .int .i64 p] w fun e w' => e = .returned (.bool true) ∧ Below w.heap.size w w'
  go_enter Try.func8, Try.ntmps8
  go_wp2_with fail
  go_loopw [18] (fun i wr => ∃ k : Nat, i = .int .i64 k ∧ k ≤ 2 ∧ Hid (Chg [] W3 wr)) (fun i _ => 2 - (intOf i).toNat)
  case atStart => rw [← HW3.out]; exact ⟨0, rfl, by omega, Lib.hid (Chg.refl _ _)⟩
  case round =>
    obtain ⟨k, rfl, hk, D⟩ := hrel
    have hx := blk_cell (D.out.at (by simp) X3.out)
    have hcs : (k = 2) ∨ ∃ q, k < 2 ∧ wr.cell? ⟨w.heap.size + 1 + 1, k, none⟩ = some (.pointer q) ∧ NobIs wr q := by
      rcases Nat.lt_or_ge k 2 with h | h
      · right
        rcases Nat.lt_or_ge k 1 with h' | h'
        · have hk0 : k = 0 := by omega
          subst hk0
          exact ⟨none, h, hx 0, .inl rfl⟩
        · have hk1 : k = 1 := by omega
          subst hk1
          exact ⟨_, h, hx 1, .inr ⟨_, rfl, D.out.at (by simp) X2.out⟩⟩
      · exact .inl (by omega)
    clear hx
    rcases hcs with rfl | ⟨q, hk2, c0, hq⟩
    · go_wp2_with fail
      refine (awake_any _).mono ?_; rintro e w4 ⟨rfl, hc4⟩
      have C4 := Lib.hid ((C3.out.thenSame D.out).thenSame hc4)
      clear hc4
      go_wp2_with fail
      go_ret
      exact ⟨rfl, C4.out.toBelow (Nat.le_refl _) (by simp)⟩
    · have hk0 : (0 : Int) ≤ (k : Int) := by omega
      have hk1 : (k : Int) < 2 := by omega
      have HQ := Lib.hid hq
      clear hq
      have A1 := total_no tn p HQ.out
      unfold usV zU at A1
      simp only at A1
      have A1 := Lib.hid A1
      rename_i A10
      clear A10
      go_wp2_with fail
      refine A1.out.mono ?_; rintro e w4 ⟨rfl, hc4⟩
      have D4 := Lib.hid (D.out.thenSame hc4)
      have Q5 := Lib.hid (HQ.out.keptN (hc4.alloc (usO zU)))
      have D5 := Lib.hid (D4.out.alloc (usO zU))
      have B5 := Lib.hid (heap_alloc_new w4 (usO zU))
      unfold usO zU at Q5 D5 B5
      simp only at Q5 D5 B5
      clear A1 hc4 c0 D4
      go_wp2_with fail
      generalize w4.alloc (.cells #[.int .i64 0, .int .i64 0, .int .i64 0, .int .i64 0] 28) = W5 at *
      generalize w4.heap.size = u4 at *
      have A2 := byf_no tn tn p Q5.out
      unfold usV zU at A2
      simp only at A2
      refine A2.mono ?_; rintro e w6 ⟨rfl, hc6⟩
      have hc8 : Chg [] W5 ((w6.alloc (usO zU)).alloc (usO zU)) := (hc6.alloc _).alloc _
      have Q8 := Lib.hid (Q5.out.keptN hc8)
      have D8 := Lib.hid (D5.out.thenSame hc8)
      have B8 := Lib.hid (hc8.at (by simp) B5.out)
      have E8 := Lib.hid (blk_alloc (o' := usO zU) (heap_alloc_new w6 (usO zU)))
      have F8 := Lib.hid (show ((w6.alloc (usO zU)).alloc (usO zU)).heap[w6.heap.size + 1]? = some (usO zU) by
        have := heap_alloc_new (w6.alloc (usO zU)) (usO zU)
        rw [World.size_alloc] at this
        exact this)
      unfold usO zU at Q8 D8 B8 E8 F8
      simp only at Q8 D8 B8 E8 F8
      clear A2 hc6 hc8
      have X8 := blk_cell (D8.out.at (by simp) X1.out)
      go_wp2_with fail
      generalize (w6.alloc (.cells #[.int .i64 0, .int .i64 0, .int .i64 0, .int .i64 0] 28)).alloc (.cells #[.int .i64 0, .int .i64 0, .int .i64 0, .int .i64 0] 28) = W8 at *
      generalize w6.heap.size = u6 at *
      have A3 := rec_no r Q8.out
      unfold urV at A3
      refine A3.mono ?_; rintro e w9 ⟨rfl, hc9⟩
      have Q9 := Lib.hid (Q8.out.keptN hc9)
      have D9 := Lib.hid (D8.out.thenSame hc9)
      have b9 := blk_cell (hc9.at (by simp) B8.out)
      have e9 := blk_cell (hc9.at (by simp) E8.out)
      have f9 := blk_cell (hc9.at (by simp) F8.out)
      have Q := QN.out
      clear X8 A3 hc9
      go_wp2_with (first
        | (go_at_call 20; (with_reducible refine (close_no _ Q9.out).mono ?_); rintro e w10 ⟨rfl, rfl⟩)
        | (go_at_call 18; (with_reducible refine (funcs_no _ _ Q9.out).mono ?_); rintro e w10 ⟨rfl, rfl⟩)
        | (go_at_call 19; (with_reducible refine (period_no Q9.out).mono ?_); rintro e w10 ⟨rfl, rfl⟩)
        | (go_at_call 13; (with_reducible refine (len_no Q9.out).mono ?_); rintro e w10 ⟨rfl, rfl⟩))
      exact ⟨⟨k + 1, by go_num, by omega, D9⟩, by simp [intOf]; omega⟩
end Go.Proofs.Ytfnnnflfikmekaa
