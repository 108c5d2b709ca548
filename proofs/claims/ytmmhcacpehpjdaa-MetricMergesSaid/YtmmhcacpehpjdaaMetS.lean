/- Chapter 18: MetricMerges: Merge of two neighbouring windows is the window of both. No condition. -/
import Derived.Test.YtmmhcacpehpjdaaMetR
import Derived.Test.YtmmhcacpehpjdaaAlaH
namespace Go.Proofs.Ytmmhcacpehpjdaa
set_option linter.unusedVariables false
set_option linter.unusedSimpArgs false
open Go.RowKit

set_option maxHeartbeats 8000000 in
set_option maxRecDepth 100000 in
theorem mmerges_walk (a1 : Option Addr) (len cap : Nat) (l : List Pt) (a b c : Int) (w : World) (h1 : SlIs pCells 2 w a1 len l ∧ (∀ x ∈ l, x.good) ∧ len ≤ maxLen ∧ len ≤ cap) (_g1 : (Lit.int .i64 a).wf = true) (_g2 : (Lit.int .i64 b).wf = true) (_g3 : (Lit.int .i64 c).wf = true) : Calls Try.prog 13 #[.slice a1 len cap, .int .i64 a, .int .i64 b, .int .i64 c] w fun e w' => e = .returned (.bool true) ∧ Below w.heap.size w w' := by
  obtain ⟨s1, _, m1, _⟩ := h1
  have S1 := Lib.hid s1
  have hn0 : (0 : Int) ≤ (len : Int) := by omega
  by_cases hbig : (300 : Int) < (len : Int)
  · clear s1 m1
    go_enter Try.func13, Try.ntmps13
    go_wp2_with fail
    refine (mawake_any _).mono ?_; rintro e w3 ⟨rfl, hc3⟩
    have Hc3 := Lib.hid hc3
    clear hc3
    go_wp2_with fail
    go_ret
    exact ⟨rfl, Hc3.out.toBelow (Nat.le_refl _) (by simp)⟩
  have hbig' : (len : Int) ≤ 300 := by omega
  obtain ⟨⟨x, ex⟩, hx⟩ : ∃ p, p = windowS l a b := ⟨_, rfl⟩
  obtain ⟨⟨y, ey⟩, hy⟩ : ∃ p, p = windowS l b c := ⟨_, rfl⟩
  obtain ⟨⟨z, ez⟩, hz⟩ : ∃ p, p = windowS l a c := ⟨_, rfl⟩
  have A1 := Lib.hid (fun w h => window_any a1 len cap l a b w h m1)
  have A2 := Lib.hid (fun w h => window_any a1 len cap l b c w h m1)
  have A3 := Lib.hid (fun w h => window_any a1 len cap l a c w h m1)
  rw [← hx] at A1
  rw [← hy] at A2
  rw [← hz] at A3
  have ew : ∀ lo hi, (windowS l lo hi).2 = windowE l lo hi := by
    intro lo hi
    unfold windowS
    split
    · rename_i h; rw [h]
    · rfl
  have key : ex = 0 → ey = 0 → ez = 0 ∧ mergeS x y = (z, 0) := by
    intro e1 e2
    have q1 : windowE l a b = 0 := by rw [← ew, ← hx]; exact e1
    have q2 : windowE l b c = 0 := by rw [← ew, ← hy]; exact e2
    obtain ⟨q3, q4⟩ := merge_windows q1 q2
    unfold windowS at hx hy hz
    rw [if_pos q1] at hx
    rw [if_pos q2] at hy
    rw [if_pos q3] at hz
    cases hx; cases hy; cases hz
    exact ⟨rfl, q4⟩
  have hcase : ¬ ex = 0 ∨ (ex = 0 ∧ ¬ ey = 0) ∨ (ex = 0 ∧ ey = 0 ∧ ez = 0 ∧ mergeS x y = (z, 0)) := by
    by_cases e1 : ex = 0
    · by_cases e2 : ey = 0
      · exact .inr (.inr ⟨e1, e2, key e1 e2⟩)
      · exact .inr (.inl ⟨e1, e2⟩)
    · exact .inl e1
  clear s1 m1 hbig hx hy hz ew key
  rcases hcase with e1 | ⟨rfl, e2⟩ | ⟨rfl, rfl, rfl, hmg⟩
  iterate 2
    · first
      | have hb1 : (ex == 0) = false := beq_eq_false_iff_ne.2 e1
        have hb2 : (ex != 0) = true := by simpa using e1
      | have hb1 : (ey == 0) = false := beq_eq_false_iff_ne.2 e2
        have hb2 : (ey != 0) = true := by simpa using e2
      try clear e1
      try clear e2
      go_enter Try.func13, Try.ntmps13
      go_wp2_with fail
      refine (A1.out _ S1.out).mono ?_; rintro e w2 ⟨rfl, hc2⟩
      have C2 := Lib.hid hc2
      clear hc2
      simp only [sV]
      go_wp2_with fail
      refine (A2.out _ (S1.out.kept (C2.out.alloc _))).mono ?_; rintro e w3 ⟨rfl, hc3⟩
      have C3 := Lib.hid ((C2.out.alloc _).thenSame hc3)
      clear hc3
      simp only [sV]
      go_wp2_with fail
      refine (A3.out _ (S1.out.kept (C3.out.alloc _))).mono ?_; rintro e w4 ⟨rfl, hc4⟩
      have C4 := Lib.hid ((C3.out.alloc _).thenSame hc4)
      clear hc4
      simp only [sV]
      go_wp2_with fail
      refine (mawake_any _).mono ?_; rintro e w5 ⟨rfl, hc5⟩
      have C5 := Lib.hid ((C4.out.alloc _).thenSame hc5)
      clear hc5
      go_wp2_with fail
      go_ret
      exact ⟨rfl, C5.out.toBelow (Nat.le_refl _) (by simp)⟩
  · have A4 := Lib.hid (fun w => merge_any x y w)
    rw [hmg] at A4
    clear hmg
    go_enter Try.func13, Try.ntmps13
    go_wp2_with fail
    refine (A1.out _ S1.out).mono ?_; rintro e w2 ⟨rfl, hc2⟩
    have C2 := Lib.hid hc2
    have b2 := Lib.hid (heap_alloc_new w2 (.cells #[.int .i64 x.c, .int .i64 x.s, .int .i64 x.mn, .int .i64 x.mx] 26))
    clear hc2
    simp only [sV]
    go_wp2_with fail
    refine (A2.out _ (S1.out.kept (C2.out.alloc _))).mono ?_; rintro e w3 ⟨rfl, hc3⟩
    have C3 := Lib.hid ((C2.out.alloc _).thenSame hc3)
    have b23 := Lib.hid (blk_alloc (o' := .cells #[.int .i64 y.c, .int .i64 y.s, .int .i64 y.mn, .int .i64 y.mx] 26) (hc3.at (by simp) b2.out))
    have b33 := Lib.hid (heap_alloc_new w3 (.cells #[.int .i64 y.c, .int .i64 y.s, .int .i64 y.mn, .int .i64 y.mx] 26))
    clear hc3
    simp only [sV]
    go_wp2_with fail
    refine (A3.out _ (S1.out.kept (C3.out.alloc _))).mono ?_; rintro e w4 ⟨rfl, hc4⟩
    have C4 := Lib.hid ((C3.out.alloc _).thenSame hc4)
    have p2 := blk_cell (hc4.at (by simp) b23.out)
    have p3 := blk_cell (hc4.at (by simp) b33.out)
    have l2 := lt_of_heap (hc4.at (by simp) b23.out)
    have l3 := lt_of_heap (hc4.at (by simp) b33.out)
    have b44 := Lib.hid (heap_alloc_new w4 (.cells #[.int .i64 z.c, .int .i64 z.s, .int .i64 z.mn, .int .i64 z.mx] 26))
    clear hc4
    simp only [sV]
    go_wp2_with fail
    clear p2 p3 l2 l3
    refine (A4.out _).mono ?_; rintro e w5 ⟨rfl, hc5⟩
    have C5 := Lib.hid ((C4.out.alloc _).thenSame hc5)
    have p5 := blk_cell (hc5.at (by simp) b44.out)
    have l5 := lt_of_heap (hc5.at (by simp) b44.out)
    clear hc5
    simp only [sV]
    go_wp2_with fail
    refine (mawake_any _).mono ?_; rintro e w6 ⟨rfl, hc6⟩
    have C6 := Lib.hid ((C5.out.alloc _).thenSame hc6)
    clear hc6
    go_wp2_with fail
    go_ret
    exact ⟨rfl, C6.out.toBelow (Nat.le_refl _) (by simp)⟩
end Go.Proofs.Ytmmhcacpehpjdaa
