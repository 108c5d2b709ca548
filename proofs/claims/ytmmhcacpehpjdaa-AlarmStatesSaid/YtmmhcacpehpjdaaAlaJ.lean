/- Chapter 19: AlarmStates: the state for statistics, and at a time, is as defined. No condition. -/
import Derived.Test.YtmmhcacpehpjdaaAlaG
import Derived.Test.YtmmhcacpehpjdaaAlaH
namespace Go.Proofs.Ytmmhcacpehpjdaa
set_option linter.unusedVariables false
set_option linter.unusedSimpArgs false
open Go.RowKit

set_option maxHeartbeats 2000000 in
set_option maxRecDepth 100000 in
theorem states_walk (r : Rd) (a1 : Option Addr) (len1 cap1 : Nat) (l : List Sd) (a2 : Option Addr) (len2 cap2 : Nat) (p : List Pt) (now : Int) (w : World) (_g0 : r.good) (h1 : SlIs sCells 4 w a1 len1 l ∧ (∀ x ∈ l, x.good) ∧ len1 ≤ maxLen ∧ len1 ≤ cap1) (h2 : SlIs pCells 2 w a2 len2 p ∧ (∀ x ∈ p, x.good) ∧ len2 ≤ maxLen ∧ len2 ≤ cap2) (_g3 : (Lit.int .i64 now).wf = true) : Calls Try.prog 4 #[.agg #[.int .i64 r.st, .bool r.ab, .int .i64 r.th, .int .i64 r.wd, .int .i64 r.m, .int .i64 r.n, .bool r.ms], .slice a1 len1 cap1, .slice a2 len2 cap2, .int .i64 now] w fun e w' => e = .returned (.bool true) ∧ Below w.heap.size w w' := by
  obtain ⟨s1, _, m1, k1⟩ := h1
  obtain ⟨s2, _, m2, _⟩ := h2
  have hb1 := heap_alloc_new w (.cells #[.int .i64 r.st, .bool r.ab, .int .i64 r.th, .int .i64 r.wd, .int .i64 r.m, .int .i64 r.n, .bool r.ms] 24)
  obtain ⟨w2, hw2⟩ : ∃ w2, w2 = w.alloc (.cells #[.int .i64 r.st, .bool r.ab, .int .i64 r.th, .int .i64 r.wd, .int .i64 r.m, .int .i64 r.n, .bool r.ms] 24) := ⟨_, rfl⟩
  have Hc0 : Hid (Chg [] w w2) := by rw [hw2]; exact (Chg.refl [] w).alloc _
  rw [← hw2] at hb1
  have Hb := Lib.hid hb1
  have S1 := Lib.hid (s1.kept Hc0.out)
  have S2 := Lib.hid (s2.kept Hc0.out)
  obtain ⟨⟨x1, x2⟩, hx⟩ : ∃ x, x = stateS r l := ⟨_, rfl⟩
  obtain ⟨⟨y1, y2⟩, hy⟩ : ∃ x, x = atS r p now := ⟨_, rfl⟩
  have A1 := Lib.hid (fun w h => state_any r a1 len1 cap1 l w h m1 k1)
  have A2 := Lib.hid (fun w h => rstate_any r a1 len1 cap1 l w h m1)
  have A3 := Lib.hid (fun w h => at_any r a2 len2 cap2 p now w h m2)
  have A4 := Lib.hid (fun w h => rat_any r a2 len2 cap2 p now w h m2)
  rw [← hx] at A1 A2
  rw [← hy] at A3 A4
  have hn1 : (0 : Int) ≤ (len1 : Int) := by omega
  have hn2 : (0 : Int) ≤ (len2 : Int) := by omega
  have hcase : (300 : Int) < (len1 : Int) ∨ ((len1 : Int) ≤ 300 ∧ (300 : Int) < (len2 : Int)) ∨ ((len1 : Int) ≤ 300 ∧ (len2 : Int) ≤ 300) := by omega
  clear s1 s2 m1 m2 k1 hb1 hx hy
  rcases hcase with c1 | ⟨c1, c2⟩ | ⟨c1, c2⟩
  iterate 2
    · go_enter Try.func4, Try.ntmps4
      go_wp2_with fail
      rw [← hw2]
      clear hw2
      refine (awake_any _).mono ?_; rintro e w3 ⟨rfl, hc3⟩
      have Hc3 := Lib.hid hc3
      clear hc3
      go_wp2_with fail
      go_ret
      exact ⟨rfl, (Hc0.out.thenSame Hc3.out).toBelow (Nat.le_refl _) (by simp)⟩
  · go_enter Try.func4, Try.ntmps4
    go_wp2_with fail
    rw [← hw2]
    clear hw2
    refine (A1.out _ S1.out).mono ?_; rintro e w3 ⟨rfl, hc3⟩
    have C3 := Lib.hid hc3
    have p3 := blk_cell (C3.out.at (by simp) Hb.out)
    clear hc3
    simp only []
    go_wp2_with fail
    clear p3
    refine (A2.out _ (S1.out.kept C3.out)).mono ?_; rintro e w4 ⟨rfl, hc4⟩
    have C4 := Lib.hid (C3.out.thenSame hc4)
    have p4 := blk_cell (C4.out.at (by simp) Hb.out)
    clear hc4
    simp only []
    go_wp2_with fail
    clear p4
    refine (A3.out _ (S2.out.kept C4.out)).mono ?_; rintro e w5 ⟨rfl, hc5⟩
    have C5 := Lib.hid (C4.out.thenSame hc5)
    have p5 := blk_cell (C5.out.at (by simp) Hb.out)
    clear hc5
    simp only []
    go_wp2_with fail
    clear p5
    refine (A4.out _ (S2.out.kept C5.out)).mono ?_; rintro e w6 ⟨rfl, hc6⟩
    have C6 := Lib.hid (C5.out.thenSame hc6)
    clear hc6
    simp only []
    go_wp2_with fail
    refine (awake_any _).mono ?_; rintro e w7 ⟨rfl, hc7⟩
    have C7 := Lib.hid (C6.out.thenSame hc7)
    clear hc7
    go_wp2_with fail
    go_ret
    exact ⟨rfl, (Hc0.out.thenSame C7.out).toBelow (Nat.le_refl _) (by simp)⟩
end Go.Proofs.Ytmmhcacpehpjdaa
