/- Chapter 19: AlarmHistory: Changes is as defined. No condition. -/
import Derived.Test.YtmmhcacpehpjdaaAlaG
import Derived.Test.YtmmhcacpehpjdaaAlaH
namespace Go.Proofs.Ytmmhcacpehpjdaa
set_option linter.unusedVariables false
set_option linter.unusedSimpArgs false
open Go.RowKit

theorem chg_size (s : Int → Int) (lo : Int) (k : Nat) : (chgS s lo k).length ≤ k := chg_len s lo k

set_option maxHeartbeats 4000000 in
set_option maxRecDepth 100000 in
theorem history_walk (r : Rd) (a1 : Option Addr) (len1 cap1 : Nat) (l : List Pt) (lo hi : Int) (w : World) (_g0 : r.good) (h1 : SlIs pCells 2 w a1 len1 l ∧ (∀ x ∈ l, x.good) ∧ len1 ≤ maxLen ∧ len1 ≤ cap1) (g2 : (Lit.int .i64 lo).wf = true) (g3 : (Lit.int .i64 hi).wf = true) : Calls Try.prog 5 #[.agg #[.int .i64 r.st, .bool r.ab, .int .i64 r.th, .int .i64 r.wd, .int .i64 r.m, .int .i64 r.n, .bool r.ms], .slice a1 len1 cap1, .int .i64 lo, .int .i64 hi] w fun e w' => e = .returned (.bool true) ∧ Below w.heap.size w w' := by
  obtain ⟨s1, _, m1, k1⟩ := h1
  obtain ⟨l0, l1⟩ := bounds_i64 g2
  obtain ⟨i0, i1⟩ := bounds_i64 g3
  have hb1 := heap_alloc_new w (.cells #[.int .i64 r.st, .bool r.ab, .int .i64 r.th, .int .i64 r.wd, .int .i64 r.m, .int .i64 r.n, .bool r.ms] 24)
  obtain ⟨w2, hw2⟩ : ∃ w2, w2 = w.alloc (.cells #[.int .i64 r.st, .bool r.ab, .int .i64 r.th, .int .i64 r.wd, .int .i64 r.m, .int .i64 r.n, .bool r.ms] 24) := ⟨_, rfl⟩
  have Hc0 : Hid (Chg [] w w2) := by rw [hw2]; exact (Chg.refl [] w).alloc _
  rw [← hw2] at hb1
  have Hb := Lib.hid hb1
  have S1 := Lib.hid (s1.kept Hc0.out)
  obtain ⟨⟨L, E⟩, hx⟩ : ∃ x, x = changesS r l lo hi := ⟨_, rfl⟩
  have A1 := Lib.hid (fun w h => changes_any r a1 len1 cap1 l lo hi w h m1)
  have A2 := Lib.hid (fun w h => rchanges_any r a1 len1 cap1 l lo hi w h m1)
  rw [← hx] at A1 A2
  have hn1 : (0 : Int) ≤ (len1 : Int) := by omega
  have hcase : ((60 < (len1 : Int) ∧ (len1 : Int) ≤ 256) ∨ ((60 : Int) < (len1 : Int) ∧ 256 < (len1 : Int) ∧ 300 < (len1 : Int)) ∨ ((len1 : Int) ≤ 60 ∧ (len1 : Int) ≤ 300 ∧ 0 ≤ lo ∧ lo ≤ hi ∧ 100 < hi - lo ∧ hi - lo ≤ 1000) ∨ (60 < (len1 : Int) ∧ 256 < (len1 : Int) ∧ (len1 : Int) ≤ 300 ∧ 0 ≤ lo ∧ lo ≤ hi ∧ 100 < hi - lo ∧ hi - lo ≤ 1000)) ∨
      (((len1 : Int) ≤ 60 ∧ (len1 : Int) ≤ 300) ∨ (60 < (len1 : Int) ∧ 256 < (len1 : Int) ∧ (len1 : Int) ≤ 300)) ∧ (lo < 0 ∨ (0 ≤ lo ∧ hi < lo) ∨ (0 ≤ lo ∧ lo ≤ hi ∧ hi - lo ≤ 100) ∨ (0 ≤ lo ∧ lo ≤ hi ∧ 100 < hi - lo ∧ 1000 < hi - lo)) := by omega
  clear s1 m1 k1 hb1 hx g2 g3 l0 i0 l1
  rcases hcase with (⟨c1, c2⟩ | ⟨c1, c2, c3⟩ | ⟨c1, c2, c3, c4, c5, c6⟩ | ⟨c1, c2, c3, c4, c5, c6, c7⟩) | ⟨⟨c1, c2⟩ | ⟨c1, c2, c3⟩, d1 | ⟨d1, d2⟩ | ⟨d1, d2, d3⟩ | ⟨d1, d2, d3, d4⟩⟩
  iterate 4
    · go_enter Try.func5, Try.ntmps5
      go_wp2_with fail
      rw [← hw2]
      clear hw2
      refine (awake_any _).mono ?_; rintro e w3 ⟨rfl, hc3⟩
      have Hc3 := Lib.hid hc3
      clear hc3
      go_wp2_with fail
      go_ret
      exact ⟨rfl, (Hc0.out.thenSame Hc3.out).toBelow (Nat.le_refl _) (by simp)⟩
  all_goals
    go_enter Try.func5, Try.ntmps5
    go_wp2_with fail
    rw [← hw2]
    clear hw2
    refine (A1.out _ S1.out).mono ?_; rintro e w3 ⟨v, rfl, hr3, hc3⟩
    have C3 := Lib.hid hc3
    have R3 := Lib.hid hr3
    have p3 := blk_cell (C3.out.at (by simp) Hb.out)
    clear hc3 hr3
    simp only []
    go_wp2_with fail
    clear p3
    refine (A2.out _ (S1.out.kept C3.out)).mono ?_; rintro e w4 ⟨v2, rfl, hr4, hc4⟩
    have C4 := Lib.hid (C3.out.thenSame hc4)
    have hr3 := RowOf.kept R3.out hc4 (by simp)
    obtain ⟨av, cv, hv⟩ := RowOf.shape hr3
    obtain ⟨av2, cv2, hv2⟩ := RowOf.shape hr4
    subst hv hv2
    have A3 := Lib.hid (same_any av av2 L.length cv cv2 L w4 (RowOf.sl hr3 pLen).1 (RowOf.sl hr4 pLen).1 (RowOf.sl hr3 pLen).2.2)
    clear hc4 hr3 hr4
    simp only []
    go_wp2_with fail
    refine A3.out.mono ?_; rintro e w5 ⟨rfl, hc5⟩
    have C5 := Lib.hid (C4.out.thenSame hc5)
    clear hc5
    go_wp2_with fail
    refine (awake_any _).mono ?_; rintro e w7 ⟨rfl, hc7⟩
    have C7 := Lib.hid (C5.out.thenSame hc7)
    clear hc7
    go_wp2_with fail
    go_ret
    exact ⟨rfl, (Hc0.out.thenSame C7.out).toBelow (Nat.le_refl _) (by simp)⟩
end Go.Proofs.Ytmmhcacpehpjdaa
