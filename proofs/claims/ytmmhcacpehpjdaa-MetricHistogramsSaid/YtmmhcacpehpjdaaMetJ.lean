/- Chapter 18: contracts: Window, of both. No condition. -/
import Derived.Test.YtmmhcacpehpjdaaMetI
import Derived.Lib.MinMax
namespace Go.Proofs.Ytmmhcacpehpjdaa
set_option linter.unusedVariables false
set_option linter.unusedSimpArgs false
open Go.RowKit

def wrngB (lo hi : Int) : Bool := decide (0 ≤ lo) && decide (lo ≤ hi) && decide (hi ≤ 1073741824)
def windowE (l : List Pt) (lo hi : Int) : Int := if checkP l = 0 then (if wrngB lo hi = true then 0 else 2) else checkP l
def windowS (l : List Pt) (lo hi : Int) : Sd × Int := if windowE l lo hi = 0 then (statS (insideS l lo hi), 0) else (z0S, windowE l lo hi)
def WdPost (w : World) (r : Sd × Int) (e : Ending) (w' : World) : Prop := e = .returned (.tuple #[sV r.1, .int .i64 r.2]) ∧ Chg [] w w'

theorem wrng_cases {lo hi : Int} (h : ¬ wrngB lo hi = true) : lo < 0 ∨ (0 ≤ lo ∧ hi < lo) ∨ (0 ≤ lo ∧ lo ≤ hi ∧ 1073741824 < hi) := by
  simp [wrngB] at h; omega

set_option maxHeartbeats 2000000 in
set_option maxRecDepth 100000 in
theorem rwin_any (a : Option Addr) (len cap : Nat) (l : List Pt) (lo hi : Int) (w : World) (h : SlIs pCells 2 w a len l) (hm : len ≤ maxLen) : Calls Try.prog 49 #[.slice a len cap, .int .i64 lo, .int .i64 hi] w fun e w' => e = .returned (.int .i64 (windowE l lo hi)) ∧ Chg [] w w' := by
  have A1 := rmcheck_any a len cap l w h hm
  unfold windowE
  by_cases hl : checkP l = 0
  · rw [if_pos hl]
    rw [hl] at A1
    have A1 := Lib.hid A1
    rename_i A10
    by_cases hr : wrngB lo hi = true
    · rw [if_pos hr]
      simp only [wrngB, Bool.and_eq_true, decide_eq_true_eq] at hr
      obtain ⟨⟨h1, h2⟩, h3⟩ := hr
      clear A10 h hm hl
      go_enter Try.func49, Try.ntmps49
      go_wp2_with fail
      refine A1.out.mono ?_; rintro e w1 ⟨rfl, hc1⟩
      have C1 := Lib.hid hc1
      clear hc1
      go_wp2_with fail
      go_ret
      exact ⟨rfl, C1.out⟩
    · rw [if_neg hr]
      have hc := wrng_cases hr
      clear A10 h hm hl hr
      rcases hc with h1 | ⟨h1, h2⟩ | ⟨h1, h2, h3⟩
      all_goals
        go_enter Try.func49, Try.ntmps49
        go_wp2_with fail
        refine A1.out.mono ?_; rintro e w1 ⟨rfl, hc1⟩
        have C1 := Lib.hid hc1
        clear hc1
        go_wp2_with fail
        go_ret
        exact ⟨rfl, C1.out⟩
  · rw [if_neg hl]
    have hb : (checkP l == 0) = false := by simpa using hl
    generalize checkP l = E at *
    have A1 := Lib.hid A1
    rename_i A10
    clear A10 h hm hl
    go_enter Try.func49, Try.ntmps49
    go_wp2_with fail
    refine A1.out.mono ?_; rintro e w1 ⟨rfl, hc1⟩
    have C1 := Lib.hid hc1
    clear hc1
    go_wp2_with fail
    go_ret
    exact ⟨rfl, C1.out⟩

set_option maxHeartbeats 4000000 in
set_option maxRecDepth 100000 in
theorem window_any (a : Option Addr) (len cap : Nat) (l : List Pt) (lo hi : Int) (w : World) (h : SlIs pCells 2 w a len l) (hm : len ≤ maxLen) : Calls Try.prog 28 #[.slice a len cap, .int .i64 lo, .int .i64 hi] w (WdPost w (windowS l lo hi)) := by
  have hb0 := Lib.hid (heap_alloc_new w (.cells #[.int .i64 0, .int .i64 0, .int .i64 0, .int .i64 0] 26))
  obtain ⟨w1, hw1⟩ : ∃ w1, w1 = w.alloc (.cells #[.int .i64 0, .int .i64 0, .int .i64 0, .int .i64 0] 26) := ⟨_, rfl⟩
  have C0 : Hid (Chg [] w w1) := by rw [hw1]; exact (Chg.refl [] w).alloc _
  rw [← hw1] at hb0
  have S1 := Lib.hid (h.kept C0.out)
  have A1 := mcheck_any a len cap l w1 S1.out hm
  have hfin : ∀ w3 c s mn mx, Chg [] w1 w3 → Chg [] w ((((w3.setCell ⟨w.heap.size, 0, none⟩ c).setCell ⟨w.heap.size, 1, none⟩ s).setCell ⟨w.heap.size, 2, none⟩ mn).setCell ⟨w.heap.size, 3, none⟩ mx) := by
    intro w3 c s mn mx h3
    have hn : ∀ i, (⟨w.heap.size, i, none⟩ : Addr).block < w.heap.size → (⟨w.heap.size, i, none⟩ : Addr).block ∈ ([] : List Nat) := fun i h => absurd h (Nat.lt_irrefl _)
    exact ((((C0.out.thenSame h3).setCell _ _ (hn 0)).setCell _ _ (hn 1)).setCell _ _ (hn 2)).setCell _ _ (hn 3)
  have Hfin := Lib.hid hfin
  clear h hfin
  by_cases hl : checkP l = 0
  · rw [hl] at A1
    have A1 := Lib.hid A1
    rename_i A10
    by_cases hr : wrngB lo hi = true
    · have hs : windowS l lo hi = (statS (insideS l lo hi), 0) := by unfold windowS windowE; rw [if_pos hl, if_pos hr, if_pos rfl]
      rw [hs]
      simp only [wrngB, Bool.and_eq_true, decide_eq_true_eq] at hr
      obtain ⟨⟨h1, h2⟩, h3⟩ := hr
      have Hok := Lib.hid (check_ok hl)
      have Hin := Lib.hid (inside_in hl lo hi)
      clear A10 hm hl hs
      go_enter Try.func28, Try.ntmps28
      go_wp2_with fail
      rw [← hw1]
      refine A1.out.mono ?_; rintro e w2 ⟨rfl, hc2⟩
      have C2 := Lib.hid hc2
      clear hc2 hw1
      go_wp2_with fail
      refine (inside_any a len cap l lo hi w2 (S1.out.kept C2.out) (by have := Hok.out.1; omega)).mono ?_; rintro e w3 ⟨v3, rfl, hr3, hc3⟩
      have A3 := Lib.hid (summary_any hr3 (by have := Hin.out.2; omega) Hin.out.1)
      have C3 := Lib.hid (C2.out.thenSame hc3)
      clear hc3 hr3
      go_wp2_with fail
      refine A3.out.mono ?_; rintro e w4 ⟨rfl, hc4⟩
      have C4 := Lib.hid (C3.out.thenSame hc4)
      have b4 := C4.out.at (by simp) hb0.out
      have r1 := blk_cell b4
      have r2 := blk_free b4
      obtain ⟨x, hx⟩ : ∃ x, x = statS (insideS l lo hi) := ⟨_, rfl⟩
      rw [← hx]
      simp only [sV]
      have Hx := Lib.hid hx
      clear hc4 hx b4 A3
      go_wp2_with fail
      exact bodyPost_ret (v := .tuple #[sV x, .int .i64 0]) (by simp [results, Try.results28, go_sem, sV, r1]) rfl ⟨by rw [Hx.out], Hfin.out w4 _ _ _ _ C4.out⟩
    · have hs : windowS l lo hi = (z0S, 2) := by unfold windowS windowE; rw [if_pos hl, if_neg hr]; rfl
      rw [hs]
      have hc := wrng_cases hr
      clear A10 hm hl hs hr
      rcases hc with h1 | ⟨h1, h2⟩ | ⟨h1, h2, h3⟩
      all_goals
        go_enter Try.func28, Try.ntmps28
        go_wp2_with fail
        rw [← hw1]
        refine A1.out.mono ?_; rintro e w2 ⟨rfl, hc2⟩
        have C2 := Lib.hid hc2
        have b4 := hc2.at (by simp) hb0.out
        have r1 := blk_cell b4
        have r2 := blk_free b4
        clear hc2 hw1 b4
        go_wp2_with fail
        exact bodyPost_ret (v := .tuple #[sV z0S, .int .i64 2]) (by simp [results, Try.results28, go_sem, sV, z0S, r1]) rfl ⟨rfl, Hfin.out w2 _ _ _ _ C2.out⟩
  · have hs : windowS l lo hi = (z0S, checkP l) := by unfold windowS windowE; rw [if_neg hl, if_neg hl]
    rw [hs]
    have hb : (checkP l == 0) = false := by simpa using hl
    generalize checkP l = E at *
    have A1 := Lib.hid A1
    rename_i A10
    clear A10 hm hl hs
    go_enter Try.func28, Try.ntmps28
    go_wp2_with fail
    rw [← hw1]
    refine A1.out.mono ?_; rintro e w2 ⟨rfl, hc2⟩
    have C2 := Lib.hid hc2
    have b4 := hc2.at (by simp) hb0.out
    have r1 := blk_cell b4
    have r2 := blk_free b4
    clear hc2 hw1 b4
    go_wp2_with fail
    exact bodyPost_ret (v := .tuple #[sV z0S, .int .i64 E]) (by simp [results, Try.results28, go_sem, sV, z0S, r1]) rfl ⟨rfl, Hfin.out w2 _ _ _ _ C2.out⟩

set_option maxHeartbeats 4000000 in
set_option maxRecDepth 100000 in
theorem rwindow_any (a : Option Addr) (len cap : Nat) (l : List Pt) (lo hi : Int) (w : World) (h : SlIs pCells 2 w a len l) (hm : len ≤ maxLen) : Calls Try.prog 29 #[.slice a len cap, .int .i64 lo, .int .i64 hi] w (WdPost w (windowS l lo hi)) := by
  have hb0 := Lib.hid (heap_alloc_new w (.cells #[.int .i64 0, .int .i64 0, .int .i64 0, .int .i64 0] 26))
  obtain ⟨w1, hw1⟩ : ∃ w1, w1 = w.alloc (.cells #[.int .i64 0, .int .i64 0, .int .i64 0, .int .i64 0] 26) := ⟨_, rfl⟩
  have C0 : Hid (Chg [] w w1) := by rw [hw1]; exact (Chg.refl [] w).alloc _
  rw [← hw1] at hb0
  have S1 := Lib.hid (h.kept C0.out)
  have A1 := rwin_any a len cap l lo hi w1 S1.out hm
  have hfin : ∀ w3 c s mn mx, Chg [] w1 w3 → Chg [] w ((((w3.setCell ⟨w.heap.size, 0, none⟩ c).setCell ⟨w.heap.size, 1, none⟩ s).setCell ⟨w.heap.size, 2, none⟩ mn).setCell ⟨w.heap.size, 3, none⟩ mx) := by
    intro w3 c s mn mx h3
    have hn : ∀ i, (⟨w.heap.size, i, none⟩ : Addr).block < w.heap.size → (⟨w.heap.size, i, none⟩ : Addr).block ∈ ([] : List Nat) := fun i h => absurd h (Nat.lt_irrefl _)
    exact ((((C0.out.thenSame h3).setCell _ _ (hn 0)).setCell _ _ (hn 1)).setCell _ _ (hn 2)).setCell _ _ (hn 3)
  have Hfin := Lib.hid hfin
  clear h hfin
  unfold windowS
  by_cases hE : windowE l lo hi = 0
  · rw [if_pos hE]
    rw [hE] at A1
    have A1 := Lib.hid A1
    rename_i A10
    have hl : checkP l = 0 := by
      unfold windowE at hE
      by_cases hl : checkP l = 0
      · exact hl
      · rw [if_neg hl] at hE; exact absurd hE hl
    have Hok := Lib.hid (check_ok hl)
    have Hin := Lib.hid (inside_in hl lo hi)
    clear A10 hm hl hE
    go_enter Try.func29, Try.ntmps29
    go_wp2_with fail
    rw [← hw1]
    refine A1.out.mono ?_; rintro e w2 ⟨rfl, hc2⟩
    have C2 := Lib.hid hc2
    clear hc2 hw1
    go_wp2_with fail
    refine (values_any a len cap l lo hi w2 (S1.out.kept C2.out) (by have := Hok.out.1; omega)).mono ?_; rintro e w3 ⟨v3, rfl, hr3, hc3⟩
    have A3 := Lib.hid (rstat_any hr3 (by have := Hin.out.2; omega) Hin.out.1)
    have C3 := Lib.hid (C2.out.thenSame hc3)
    clear hc3 hr3
    go_wp2_with fail
    refine A3.out.mono ?_; rintro e w4 ⟨rfl, hc4⟩
    have C4 := Lib.hid (C3.out.thenSame hc4)
    have b4 := C4.out.at (by simp) hb0.out
    have r1 := blk_cell b4
    have r2 := blk_free b4
    obtain ⟨x, hx⟩ : ∃ x, x = statS (insideS l lo hi) := ⟨_, rfl⟩
    rw [← hx]
    simp only [sV]
    have Hx := Lib.hid hx
    clear hc4 hx b4 A3
    go_wp2_with fail
    exact bodyPost_ret (v := .tuple #[sV x, .int .i64 0]) (by simp [results, Try.results29, go_sem, sV, r1]) rfl ⟨by rw [Hx.out], Hfin.out w4 _ _ _ _ C4.out⟩
  · rw [if_neg hE]
    have hb : (windowE l lo hi == 0) = false := by simpa using hE
    generalize windowE l lo hi = E at *
    have A1 := Lib.hid A1
    rename_i A10
    clear A10 hm hE
    go_enter Try.func29, Try.ntmps29
    go_wp2_with fail
    rw [← hw1]
    refine A1.out.mono ?_; rintro e w2 ⟨rfl, hc2⟩
    have C2 := Lib.hid hc2
    have b4 := hc2.at (by simp) hb0.out
    have r1 := blk_cell b4
    have r2 := blk_free b4
    clear hc2 hw1 b4
    go_wp2_with fail
    exact bodyPost_ret (v := .tuple #[sV z0S, .int .i64 E]) (by simp [results, Try.results29, go_sem, sV, z0S, r1]) rfl ⟨rfl, Hfin.out w2 _ _ _ _ C2.out⟩
end Go.Proofs.Ytmmhcacpehpjdaa
