/- Chapter 18: MetricStats: Merge and Number of any statistics are those of the reference. No condition. -/
import Derived.Test.YtmmhcacpehpjdaaMetP
import Derived.Test.YtmmhcacpehpjdaaAlaH
namespace Go.Proofs.Ytmmhcacpehpjdaa
set_option linter.unusedVariables false
set_option linter.unusedSimpArgs false
open Go.RowKit

set_option maxHeartbeats 4000000 in
set_option maxRecDepth 100000 in
theorem mstats_walk (a b : Sd) (k : Int) (w : World) (_g0 : a.good) (_g1 : b.good) (_g2 : (Lit.int .i64 k).wf = true) : Calls Try.prog 11 #[.agg #[.int .i64 a.c, .int .i64 a.s, .int .i64 a.mn, .int .i64 a.mx], .agg #[.int .i64 b.c, .int .i64 b.s, .int .i64 b.mn, .int .i64 b.mx], .int .i64 k] w fun e w' => e = .returned (.bool true) ∧ Below w.heap.size w w' := by
  have hb1 := heap_alloc_new w (.cells #[.int .i64 a.c, .int .i64 a.s, .int .i64 a.mn, .int .i64 a.mx] 26)
  have hb2 := heap_alloc_new (w.alloc (.cells #[.int .i64 a.c, .int .i64 a.s, .int .i64 a.mn, .int .i64 a.mx] 26)) (.cells #[.int .i64 b.c, .int .i64 b.s, .int .i64 b.mn, .int .i64 b.mx] 26)
  obtain ⟨w2, hw2⟩ : ∃ w2, w2 = (w.alloc (.cells #[.int .i64 a.c, .int .i64 a.s, .int .i64 a.mn, .int .i64 a.mx] 26)).alloc (.cells #[.int .i64 b.c, .int .i64 b.s, .int .i64 b.mn, .int .i64 b.mx] 26) := ⟨_, rfl⟩
  have Hc0 : Hid (Chg [] w w2) := by rw [hw2]; exact ((Chg.refl [] w).alloc _).alloc _
  have hb3 := blk_alloc (o' := (.cells #[.int .i64 b.c, .int .i64 b.s, .int .i64 b.mn, .int .i64 b.mx] 26)) hb1
  rw [World.size_alloc] at hb2
  rw [← hw2] at hb2 hb3
  have Hb2 := Lib.hid hb2
  have Hb3 := Lib.hid hb3
  clear hb1 hb2 hb3
  obtain ⟨⟨x, E⟩, hp⟩ : ∃ p, p = mergeS a b := ⟨_, rfl⟩
  obtain ⟨⟨n, ok⟩, hq⟩ : ∃ p, p = numberS a k := ⟨_, rfl⟩
  have A1 := Lib.hid (fun w => merge_any a b w)
  have A2 := Lib.hid (fun w => rmerge_any a b w)
  have A3 := Lib.hid (fun w => number_any a k w)
  have A4 := Lib.hid (fun w => rnumber_any a k w)
  rw [← hp] at A1 A2
  rw [← hq] at A3 A4
  clear hp hq
  go_enter Try.func11, Try.ntmps11
  go_wp2_with fail
  rw [← hw2]
  clear hw2
  refine (A1.out _).mono ?_; rintro e w3 ⟨rfl, hc3⟩
  have C3 := Lib.hid hc3
  have p1 := blk_cell (hc3.at (by simp) Hb2.out)
  have p2 := blk_cell (hc3.at (by simp) Hb3.out)
  have l1 := lt_of_heap (hc3.at (by simp) Hb2.out)
  have l2 := lt_of_heap (hc3.at (by simp) Hb3.out)
  clear hc3
  simp only [sV]
  go_wp2_with fail
  clear p1 p2 l1 l2
  refine (A2.out _).mono ?_; rintro e w4 ⟨rfl, hc4⟩
  have C4 := Lib.hid ((C3.out.alloc _).thenSame hc4)
  have b4 := Lib.hid (hc4.at (by simp) (heap_alloc_new w3 (.cells #[.int .i64 x.c, .int .i64 x.s, .int .i64 x.mn, .int .i64 x.mx] 26)))
  have p2 := blk_cell (C4.out.at (by simp) Hb3.out)
  have l2 := lt_of_heap (C4.out.at (by simp) Hb3.out)
  clear hc4
  simp only [sV]
  go_wp2_with fail
  clear p2 l2
  refine (A3.out _).mono ?_; rintro e w5 ⟨rfl, hc5⟩
  have C5 := Lib.hid ((C4.out.alloc _).thenSame hc5)
  have b5 := Lib.hid (hc5.at (by simp) (heap_alloc_new w4 (.cells #[.int .i64 x.c, .int .i64 x.s, .int .i64 x.mn, .int .i64 x.mx] 26)))
  have b45 := Lib.hid (hc5.at (by simp) (blk_alloc (o' := .cells #[.int .i64 x.c, .int .i64 x.s, .int .i64 x.mn, .int .i64 x.mx] 26) b4.out))
  have p2 := blk_cell (C5.out.at (by simp) Hb3.out)
  clear hc5
  simp only []
  go_wp2_with fail
  clear p2
  refine (A4.out _).mono ?_; rintro e w6 ⟨rfl, hc6⟩
  have C6 := Lib.hid (C5.out.thenSame hc6)
  have p5 := blk_cell (hc6.at (by simp) b5.out)
  have p4 := blk_cell (hc6.at (by simp) b45.out)
  clear hc6
  simp only []
  go_wp2_with fail
  refine (mawake_any _).mono ?_; rintro e w7 ⟨rfl, hc7⟩
  have C7 := Lib.hid (C6.out.thenSame hc7)
  clear hc7
  go_wp2_with fail
  go_ret
  exact ⟨rfl, (Hc0.out.thenSame C7.out).toBelow (Nat.le_refl _) (by simp)⟩
end Go.Proofs.Ytmmhcacpehpjdaa
