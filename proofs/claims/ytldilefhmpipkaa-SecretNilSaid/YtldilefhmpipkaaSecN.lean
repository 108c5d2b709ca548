/- Chapter 22: SecretNil: a nil vault, and one that New did not return, have nothing. No condition. -/
import Derived.Test.YtldilefhmpipkaaSecM
import Derived.Test.YtldilefhmpipkaaSecG
namespace Go.Proofs.Ytldilefhmpipkaa
set_option linter.unusedVariables false
set_option linter.unusedSimpArgs false
open Go.RowKit
theorem oLen1 (x : OpD) : (oCells x).length = 6 := rfl
set_option maxHeartbeats 16000000 in
set_option maxRecDepth 100000 in
theorem nil_walk (x : OpD) (w : World) (hx : x.good) : Calls Try.prog 8 #[.agg #[.int .i64 x.kind, .string x.name, .string x.text, .string x.fn, .int .i64 x.grace, .int .i64 x.now]] w fun e w' => e = .returned (.bool true) ∧ Below w.heap.size w w' := by
  obtain ⟨w1, hw1⟩ : ∃ w1, w1 = w.alloc (.cells #[.int .i64 x.kind, .string x.name, .string x.text, .string x.fn, .int .i64 x.grace, .int .i64 x.now] 33) := ⟨_, rfl⟩
  have hb := heap_alloc_new w (.cells #[.int .i64 x.kind, .string x.name, .string x.text, .string x.fn, .int .i64 x.grace, .int .i64 x.now] 33)
  have hc1 : Chg [] w w1 := by rw [hw1]; exact (Chg.refl _ _).alloc _
  rw [← hw1] at hb
  obtain ⟨w2, hw2⟩ : ∃ w2, w2 = w1.alloc (.cells #[.int .i64 x.kind, .string x.name, .string x.text, .string x.fn, .int .i64 x.grace, .int .i64 x.now] 33) := ⟨_, rfl⟩
  have hb2 := heap_alloc_new w1 (.cells #[.int .i64 x.kind, .string x.name, .string x.text, .string x.fn, .int .i64 x.grace, .int .i64 x.now] 33)
  have hc2 : Chg [] w1 w2 := by rw [hw2]; exact (Chg.refl _ _).alloc _
  rw [← hw2] at hb2
  have hs : SlIs oCells 6 w2 (some ⟨w1.heap.size, 0, none⟩) 1 [x] := SlIs.ofBlock (cf := oCells) [x] hb2 oLen1 rfl
  have hA1 := smallF_any (some ⟨w1.heap.size, 0, none⟩) 1 1 [x] w2 hs (by intro y hy; simp at hy; subst hy; exact hx) (by decide)
  have hsz : w1.heap.size = w.heap.size + 1 := by rw [hw1]; simp
  rw [hsz] at hA1
  have hbb := hc2.at (by simp) hb
  have r1 := blk_cell hb
  have r2 := blk_cell hbb
  have l2 := lt_of_heap hbb
  have C1 := Lib.hid hc1
  have C2 := Lib.hid (hc1.thenSame hc2)
  have B2 := Lib.hid hbb
  have HW1 := Lib.hid hw1
  have HW2 := Lib.hid hw2
  clear hs hb2 hb hbb hx hc1 hc2 hw1 hw2 hsz
  cases hsm : smallL [x]
  · rw [hsm] at hA1
    have A1 := Lib.hid hA1
    clear hA1 hsm
    go_enter Try.func8, Try.ntmps8
    go_wp2_with fail
    rw [← HW1.out, ← HW2.out]
    refine A1.out.mono ?_; rintro e w3 ⟨rfl, rfl⟩
    go_wp2_with fail
    refine (awake_any _).mono ?_; rintro e w4 ⟨rfl, hc4⟩
    have C4 := Lib.hid (C2.out.thenSame hc4)
    clear hc4
    go_wp2_with fail
    go_ret
    exact ⟨rfl, C4.out.toBelow (Nat.le_refl _) (by simp)⟩
  · rw [hsm] at hA1
    have A1 := Lib.hid hA1
    have A2 := Lib.hid (none_any (.pointer none) x w2 (.inl rfl))
    clear hA1 hsm
    go_enter Try.func8, Try.ntmps8
    go_wp2_with fail
    rw [← HW1.out, ← HW2.out]
    refine A1.out.mono ?_; rintro e w3 ⟨rfl, rfl⟩
    go_wp2_with fail
    refine A2.out.mono ?_; rintro e w4 ⟨rfl, hc4⟩
    have C4 := Lib.hid (C2.out.thenSame hc4)
    have r4 := blk_cell (hc4.at (by simp) B2.out)
    have l4 := lt_of_heap (hc4.at (by simp) B2.out)
    have D5 := heap_alloc_new w4 (.cells #[.map none] 52)
    have A5 := Lib.hid (none_any (.pointer (some ⟨w4.heap.size, 0, none⟩)) x (w4.alloc (.cells #[.map none] 52)) (.inr ⟨_, rfl, D5⟩))
    clear hc4 D5
    go_wp2_with fail
    refine A5.out.mono ?_; rintro e w6 ⟨rfl, hc6⟩
    have C6 := Lib.hid ((C4.out.alloc _).thenSame hc6)
    clear hc6
    go_wp2_with fail
    refine (awake_any _).mono ?_; rintro e w7 ⟨rfl, hc7⟩
    have C7 := Lib.hid (C6.out.thenSame hc7)
    clear hc7
    go_wp2_with fail
    go_ret
    exact ⟨rfl, C7.out.toBelow (Nat.le_refl _) (by simp)⟩
end Go.Proofs.Ytldilefhmpipkaa
