/- Chapter 18: MetricWindows and MetricPercentiles. No condition. -/
import Derived.Test.YtmmhcacpehpjdaaMetU
import Derived.Test.YtmmhcacpehpjdaaAlaH
namespace Go.Proofs.Ytmmhcacpehpjdaa
set_option linter.unusedVariables false
set_option linter.unusedSimpArgs false
open Go.RowKit

set_option maxHeartbeats 8000000 in
set_option maxRecDepth 100000 in
theorem mwindows_walk (a1 : Option Addr) (len cap : Nat) (l : List Pt) (lo hi pm : Int) (w : World) (h1 : SlIs pCells 2 w a1 len l ∧ (∀ x ∈ l, x.good) ∧ len ≤ maxLen ∧ len ≤ cap) (_g1 : (Lit.int .i64 lo).wf = true) (_g2 : (Lit.int .i64 hi).wf = true) (_g3 : (Lit.int .i64 pm).wf = true) : Calls Try.prog 8 #[.slice a1 len cap, .int .i64 lo, .int .i64 hi, .int .i64 pm] w fun e w' => e = .returned (.bool true) ∧ Below w.heap.size w w' := by
  obtain ⟨s1, _, m1, _⟩ := h1
  have S1 := Lib.hid s1
  have hn0 : (0 : Int) ≤ (len : Int) := by omega
  by_cases hbig : (300 : Int) < (len : Int)
  · clear s1 m1
    go_enter Try.func8, Try.ntmps8
    go_wp2_with fail
    refine (mawake_any _).mono ?_; rintro e w3 ⟨rfl, hc3⟩
    have Hc3 := Lib.hid hc3
    clear hc3
    go_wp2_with fail
    go_ret
    exact ⟨rfl, Hc3.out.toBelow (Nat.le_refl _) (by simp)⟩
  have hbig' : (len : Int) ≤ 300 := by omega
  have A1 := Lib.hid (fun w h => window_any a1 len cap l lo hi w h m1)
  have A2 := Lib.hid (fun w h => rwindow_any a1 len cap l lo hi w h m1)
  have A3 := Lib.hid (fun w h => perc_any a1 len cap l lo hi pm w h m1)
  have A4 := Lib.hid (fun w h => rperc_any a1 len cap l lo hi pm w h m1)
  have A5 := Lib.hid (fun w h => mcheck_any a1 len cap l w h m1)
  have A6 := Lib.hid (fun w h => rmcheck_any a1 len cap l w h m1)
  generalize windowS l lo hi = r at A1 A2
  generalize percS l lo hi pm = s at A3 A4
  generalize checkP l = c at A5 A6
  obtain ⟨x, E⟩ := r
  obtain ⟨y, F⟩ := s
  clear s1 m1 hbig
  go_enter Try.func8, Try.ntmps8
  go_wp2_with fail
  refine (A1.out _ S1.out).mono ?_; rintro e w2 ⟨rfl, hc2⟩
  have C2 := Lib.hid hc2
  have b2 := Lib.hid (heap_alloc_new w2 (.cells #[.int .i64 x.c, .int .i64 x.s, .int .i64 x.mn, .int .i64 x.mx] 26))
  clear hc2
  simp only [sV]
  go_wp2_with fail
  refine (A2.out _ (S1.out.kept (C2.out.alloc _))).mono ?_; rintro e w3 ⟨rfl, hc3⟩
  have C3 := Lib.hid ((C2.out.alloc _).thenSame hc3)
  have b23 := Lib.hid (blk_alloc (o' := .cells #[.int .i64 x.c, .int .i64 x.s, .int .i64 x.mn, .int .i64 x.mx] 26) (hc3.at (by simp) b2.out))
  have b33 := Lib.hid (heap_alloc_new w3 (.cells #[.int .i64 x.c, .int .i64 x.s, .int .i64 x.mn, .int .i64 x.mx] 26))
  clear hc3
  simp only [sV]
  go_wp2_with fail
  refine (A3.out _ (S1.out.kept (C3.out.alloc _))).mono ?_; rintro e w4 ⟨rfl, hc4⟩
  have C4 := Lib.hid ((C3.out.alloc _).thenSame hc4)
  have D4 := Lib.hid hc4
  clear hc4
  go_wp2_with fail
  refine (A4.out _ (S1.out.kept C4.out)).mono ?_; rintro e w5 ⟨rfl, hc5⟩
  have C5 := Lib.hid (C4.out.thenSame hc5)
  have D5 := Lib.hid (D4.out.thenSame hc5)
  clear hc5
  go_wp2_with fail
  refine (A5.out _ (S1.out.kept C5.out)).mono ?_; rintro e w6 ⟨rfl, hc6⟩
  have C6 := Lib.hid (C5.out.thenSame hc6)
  have D6 := Lib.hid (D5.out.thenSame hc6)
  clear hc6
  go_wp2_with fail
  refine (A6.out _ (S1.out.kept C6.out)).mono ?_; rintro e w7 ⟨rfl, hc7⟩
  have C7 := Lib.hid (C6.out.thenSame hc7)
  have D7 := D6.out.thenSame hc7
  have p2 := blk_cell (D7.at (by simp) b23.out)
  have p3 := blk_cell (D7.at (by simp) b33.out)
  clear hc7 D7
  go_wp2_with fail
  clear p2 p3
  refine (mawake_any _).mono ?_; rintro e w8 ⟨rfl, hc8⟩
  have C8 := Lib.hid (C7.out.thenSame hc8)
  clear hc8
  go_wp2_with fail
  go_ret
  exact ⟨rfl, C8.out.toBelow (Nat.le_refl _) (by simp)⟩

set_option maxHeartbeats 8000000 in
set_option maxRecDepth 100000 in
theorem mpercs_walk (a1 : Option Addr) (len cap : Nat) (l : List Pt) (lo hi p q : Int) (w : World) (h1 : SlIs pCells 2 w a1 len l ∧ (∀ x ∈ l, x.good) ∧ len ≤ maxLen ∧ len ≤ cap) (_g1 : (Lit.int .i64 lo).wf = true) (_g2 : (Lit.int .i64 hi).wf = true) (_g3 : (Lit.int .i64 p).wf = true) (_g4 : (Lit.int .i64 q).wf = true) : Calls Try.prog 10 #[.slice a1 len cap, .int .i64 lo, .int .i64 hi, .int .i64 p, .int .i64 q] w fun e w' => e = .returned (.bool true) ∧ Below w.heap.size w w' := by
  obtain ⟨s1, _, m1, _⟩ := h1
  have S1 := Lib.hid s1
  have hn0 : (0 : Int) ≤ (len : Int) := by omega
  have hcs0 : (300 : Int) < (len : Int) ∨ ((len : Int) ≤ 300 ∧ q < p) ∨ ((len : Int) ≤ 300 ∧ p ≤ q) := by omega
  rcases hcs0 with hbig | ⟨hbig, hlh⟩ | ⟨hbig, hlh⟩
  iterate 2
    · clear s1 m1
      go_enter Try.func10, Try.ntmps10
      go_wp2_with fail
      refine (mawake_any _).mono ?_; rintro e w3 ⟨rfl, hc3⟩
      have Hc3 := Lib.hid hc3
      clear hc3
      go_wp2_with fail
      go_ret
      exact ⟨rfl, Hc3.out.toBelow (Nat.le_refl _) (by simp)⟩
  have A1 := Lib.hid (fun w h => window_any a1 len cap l lo hi w h m1)
  have A2 := Lib.hid (fun w h => perc_any a1 len cap l lo hi p w h m1)
  have A3 := Lib.hid (fun w h => perc_any a1 len cap l lo hi q w h m1)
  have A4 := Lib.hid (fun w h => perc_any a1 len cap l lo hi 1000 w h m1)
  obtain ⟨⟨x, E⟩, hx⟩ : ∃ p, p = windowS l lo hi := ⟨_, rfl⟩
  obtain ⟨⟨a, F⟩, ha⟩ : ∃ r, r = percS l lo hi p := ⟨_, rfl⟩
  obtain ⟨⟨b, G⟩, hb⟩ : ∃ r, r = percS l lo hi q := ⟨_, rfl⟩
  obtain ⟨⟨c, K⟩, hc⟩ : ∃ r, r = percS l lo hi 1000 := ⟨_, rfl⟩
  rw [← hx] at A1
  rw [← ha] at A2
  rw [← hb] at A3
  rw [← hc] at A4
  have key : E = 0 → F = 0 → G = 0 → K = 0 ∧ c = x.mx ∧ a ≤ b ∧ x.mn ≤ a ∧ b ≤ c := by
    rintro rfl rfl rfl
    have hE : windowE l lo hi = 0 := by
      unfold windowS at hx
      by_cases h : windowE l lo hi = 0
      · exact h
      · rw [if_neg h] at hx; exact absurd (congrArg Prod.snd hx).symm h
    obtain ⟨k1, k2, k3, k4⟩ := perc_laws hlh hE ha.symm hb.symm
    rw [k1] at hc
    unfold windowS at hx
    rw [if_pos hE] at hx
    cases hx; cases hc
    exact ⟨rfl, rfl, k2, k3, k4⟩
  have hcase : (E != 0) = true ∧ (E == 0) = false ∨ (E = 0 ∧ (F != 0) = true ∧ (F == 0) = false) ∨ (E = 0 ∧ F = 0 ∧ (G != 0) = true ∧ (G == 0) = false) ∨ (E = 0 ∧ F = 0 ∧ G = 0 ∧ K = 0 ∧ c = x.mx ∧ a ≤ b ∧ x.mn ≤ a ∧ b ≤ c) := by
    by_cases e1 : E = 0
    · by_cases e2 : F = 0
      · by_cases e3 : G = 0
        · exact .inr (.inr (.inr ⟨e1, e2, e3, key e1 e2 e3⟩))
        · exact .inr (.inr (.inl ⟨e1, e2, by simpa using e3, by simpa using e3⟩))
      · exact .inr (.inl ⟨e1, by simpa using e2, by simpa using e2⟩)
    · exact .inl ⟨by simpa using e1, by simpa using e1⟩
  clear s1 m1 hx ha hb hc key
  have hb0 := fun w2 : World => Lib.hid (heap_alloc_new w2 (.cells #[.int .i64 x.c, .int .i64 x.s, .int .i64 x.mn, .int .i64 x.mx] 26))
  have HB := Lib.hid hb0
  clear hb0
  rcases hcase with ⟨e1, e2⟩ | ⟨rfl, e1, e2⟩ | ⟨rfl, rfl, e1, e2⟩ | ⟨rfl, rfl, rfl, rfl, rfl, e1, e2, e3⟩
  iterate 3
    · go_enter Try.func10, Try.ntmps10
      go_wp2_with fail
      refine (A1.out _ S1.out).mono ?_; rintro e w2 ⟨rfl, hc2⟩
      have C2 := Lib.hid (hc2.alloc (.cells #[.int .i64 x.c, .int .i64 x.s, .int .i64 x.mn, .int .i64 x.mx] 26))
      clear hc2
      simp only [sV]
      go_wp2_with fail
      refine (A2.out _ (S1.out.kept C2.out)).mono ?_; rintro e w3 ⟨rfl, hc3⟩
      have C3 := Lib.hid (C2.out.thenSame hc3)
      clear hc3
      go_wp2_with fail
      refine (A3.out _ (S1.out.kept C3.out)).mono ?_; rintro e w4 ⟨rfl, hc4⟩
      have C4 := Lib.hid (C3.out.thenSame hc4)
      clear hc4
      go_wp2_with fail
      refine (A4.out _ (S1.out.kept C4.out)).mono ?_; rintro e w5 ⟨rfl, hc5⟩
      have C5 := Lib.hid (C4.out.thenSame hc5)
      clear hc5
      go_wp2_with fail
      refine (mawake_any _).mono ?_; rintro e w6 ⟨rfl, hc6⟩
      have C6 := Lib.hid (C5.out.thenSame hc6)
      clear hc6
      go_wp2_with fail
      go_ret
      exact ⟨rfl, C6.out.toBelow (Nat.le_refl _) (by simp)⟩
  · go_enter Try.func10, Try.ntmps10
    go_wp2_with fail
    refine (A1.out _ S1.out).mono ?_; rintro e w2 ⟨rfl, hc2⟩
    have C2 := Lib.hid (hc2.alloc (.cells #[.int .i64 x.c, .int .i64 x.s, .int .i64 x.mn, .int .i64 x.mx] 26))
    have B2 := HB.out w2
    clear hc2
    simp only [sV]
    go_wp2_with fail
    refine (A2.out _ (S1.out.kept C2.out)).mono ?_; rintro e w3 ⟨rfl, hc3⟩
    have C3 := Lib.hid (C2.out.thenSame hc3)
    have B3 := Lib.hid (hc3.at (by simp) B2.out)
    clear hc3
    go_wp2_with fail
    refine (A3.out _ (S1.out.kept C3.out)).mono ?_; rintro e w4 ⟨rfl, hc4⟩
    have C4 := Lib.hid (C3.out.thenSame hc4)
    have B4 := Lib.hid (hc4.at (by simp) B3.out)
    clear hc4
    go_wp2_with fail
    refine (A4.out _ (S1.out.kept C4.out)).mono ?_; rintro e w5 ⟨rfl, hc5⟩
    have C5 := Lib.hid (C4.out.thenSame hc5)
    have p5 := blk_cell (hc5.at (by simp) B4.out)
    clear hc5
    go_wp2_with fail
    clear p5
    refine (mawake_any _).mono ?_; rintro e w6 ⟨rfl, hc6⟩
    have C6 := Lib.hid (C5.out.thenSame hc6)
    clear hc6
    go_wp2_with fail
    go_ret
    exact ⟨rfl, C6.out.toBelow (Nat.le_refl _) (by simp)⟩
end Go.Proofs.Ytmmhcacpehpjdaa
