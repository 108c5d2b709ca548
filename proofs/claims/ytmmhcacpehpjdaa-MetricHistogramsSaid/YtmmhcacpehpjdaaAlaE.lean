/- Chapter 19: contracts: At, of both. No condition. -/
import Derived.Test.YtmmhcacpehpjdaaAlaD
namespace Go.Proofs.Ytmmhcacpehpjdaa
set_option linter.unusedVariables false
set_option linter.unusedSimpArgs false
open Go.RowKit

def atS (r : Rd) (l : List Pt) (now : Int) : Int × Int :=
  if ruleB r = true then (if (windowsS l now r.wd r.n).2 = 0 then stateS r (windowsS l now r.wd r.n).1 else (0, (windowsS l now r.wd r.n).2)) else (0, 2)

set_option maxHeartbeats 2000000 in
set_option maxRecDepth 100000 in
theorem at_any (r : Rd) (a : Option Addr) (len cap : Nat) (l : List Pt) (now : Int) (w : World) (h : SlIs pCells 2 w a len l) (hm : len ≤ maxLen) : Calls Try.prog 21 #[.agg #[.int .i64 r.st, .bool r.ab, .int .i64 r.th, .int .i64 r.wd, .int .i64 r.m, .int .i64 r.n, .bool r.ms], .slice a len cap, .int .i64 now] w (StPost w (atS r l now)) := by
  have Hch := Lib.hid (acheck_any r (w.alloc (.cells #[.int .i64 r.st, .bool r.ab, .int .i64 r.th, .int .i64 r.wd, .int .i64 r.m, .int .i64 r.n, .bool r.ms] 24)))
  have Hblk := Lib.hid (heap_alloc_new w (.cells #[.int .i64 r.st, .bool r.ab, .int .i64 r.th, .int .i64 r.wd, .int .i64 r.m, .int .i64 r.n, .bool r.ms] 24))
  have H := Lib.hid (h.kept (((Chg.refl [] w).alloc (.cells #[.int .i64 r.st, .bool r.ab, .int .i64 r.th, .int .i64 r.wd, .int .i64 r.m, .int .i64 r.n, .bool r.ms] 24))))
  clear h
  by_cases hr : ruleB r = true
  · rw [show checkR r = 0 by unfold checkR; rw [if_pos hr]] at Hch
    have Hs : Hid (atS r l now = if (windowsS l now r.wd r.n).2 = 0 then stateS r (windowsS l now r.wd r.n).1 else (0, (windowsS l now r.wd r.n).2)) := by
      show atS r l now = _
      unfold atS; rw [if_pos hr]
    have Hw := Lib.hid (fun w h => windows_any a len cap l now r.wd r.n w h hm)
    obtain ⟨R, hR⟩ : ∃ R, R = windowsS l now r.wd r.n := ⟨_, rfl⟩
    rw [← hR] at Hs Hw
    clear hr hm hR
    obtain ⟨vs, ve⟩ := R
    simp only at Hs
    go_enter Try.func21, Try.ntmps21
    go_wp2_with fail
    refine Hch.out.mono ?_; rintro e w1 ⟨rfl, hc1⟩
    have p := blk_cell (hc1.at (by simp) Hblk.out)
    have H1 := Lib.hid (H.out.kept hc1)
    have Hc1 := Lib.hid (((Chg.refl [] w).alloc _).thenSame hc1)
    have Hb1 := Lib.hid (hc1.at (by simp) Hblk.out)
    clear hc1
    go_wp2_with fail
    refine (Hw.out _ H1.out).mono ?_; rintro e w2 ⟨v, rfl, hrow, hc2⟩
    simp only at hrow ⊢
    have p2 := blk_cell (hc2.at (by simp) Hb1.out)
    have Hrow := Lib.hid hrow
    have Hc2 := Lib.hid hc2
    by_cases he : ve = 0
    · subst he
      obtain ⟨av, cv, hv⟩ := RowOf.shape hrow
      subst hv
      have Hsl := Lib.hid (RowOf.sl hrow sLen)
      have Hs2 := Lib.hid (show atS r l now = stateS r vs by have := Hs.out; simpa using this)
      clear hrow hc2 p
      go_wp2_with fail
      refine (state_any r _ _ _ _ _ Hsl.out.1 Hsl.out.2.2 Hsl.out.2.1).mono ?_; rintro e w3 ⟨rfl, hc3⟩
      have Hc3 := Lib.hid hc3
      clear hc3
      go_wp2_with fail
      go_ret2
      refine ⟨by rw [Hs2.out]; rfl, (Hc1.out.thenSame Hc2.out).thenSame Hc3.out⟩
    · have hb : (ve == 0) = false := by simpa using he
      have Hs2 := Lib.hid (show atS r l now = (0, ve) by have := Hs.out; rw [if_neg he] at this; exact this)
      clear hrow hc2 p p2 he
      go_wp2_with fail
      go_ret2
      refine ⟨by rw [Hs2.out]; rfl, (Hc1.out.thenSame Hc2.out)⟩
  · have hs : atS r l now = (0, 2) := by unfold atS; rw [if_neg hr]
    rw [hs]
    rw [show checkR r = 2 by unfold checkR; rw [if_neg hr]] at Hch
    clear hr hs hm
    go_enter Try.func21, Try.ntmps21
    go_wp2_with fail
    refine Hch.out.mono ?_; rintro e w1 ⟨rfl, hc1⟩
    have Hc1 := Lib.hid (((Chg.refl [] w).alloc _).thenSame hc1)
    clear hc1
    go_wp2_with fail
    go_ret2
    exact ⟨rfl, Hc1.out⟩

set_option maxHeartbeats 2000000 in
set_option maxRecDepth 100000 in
theorem rat_any (r : Rd) (a : Option Addr) (len cap : Nat) (l : List Pt) (now : Int) (w : World) (h : SlIs pCells 2 w a len l) (hm : len ≤ maxLen) : Calls Try.prog 22 #[.agg #[.int .i64 r.st, .bool r.ab, .int .i64 r.th, .int .i64 r.wd, .int .i64 r.m, .int .i64 r.n, .bool r.ms], .slice a len cap, .int .i64 now] w (StPost w (atS r l now)) := by
  have Hch := Lib.hid (racheck_any r (w.alloc (.cells #[.int .i64 r.st, .bool r.ab, .int .i64 r.th, .int .i64 r.wd, .int .i64 r.m, .int .i64 r.n, .bool r.ms] 24)))
  have Hblk := Lib.hid (heap_alloc_new w (.cells #[.int .i64 r.st, .bool r.ab, .int .i64 r.th, .int .i64 r.wd, .int .i64 r.m, .int .i64 r.n, .bool r.ms] 24))
  have H := Lib.hid (h.kept (((Chg.refl [] w).alloc (.cells #[.int .i64 r.st, .bool r.ab, .int .i64 r.th, .int .i64 r.wd, .int .i64 r.m, .int .i64 r.n, .bool r.ms] 24))))
  clear h
  by_cases hr : ruleB r = true
  · rw [show checkR r = 0 by unfold checkR; rw [if_pos hr]] at Hch
    have Hs : Hid (atS r l now = if (windowsS l now r.wd r.n).2 = 0 then stateS r (windowsS l now r.wd r.n).1 else (0, (windowsS l now r.wd r.n).2)) := by
      show atS r l now = _
      unfold atS; rw [if_pos hr]
    have Hw := Lib.hid (fun w h => rwindows_any a len cap l now r.wd r.n w h hm)
    obtain ⟨R, hR⟩ : ∃ R, R = windowsS l now r.wd r.n := ⟨_, rfl⟩
    rw [← hR] at Hs Hw
    clear hr hm hR
    obtain ⟨vs, ve⟩ := R
    simp only at Hs
    go_enter Try.func22, Try.ntmps22
    go_wp2_with fail
    refine Hch.out.mono ?_; rintro e w1 ⟨rfl, hc1⟩
    have p := blk_cell (hc1.at (by simp) Hblk.out)
    have H1 := Lib.hid (H.out.kept hc1)
    have Hc1 := Lib.hid (((Chg.refl [] w).alloc _).thenSame hc1)
    have Hb1 := Lib.hid (hc1.at (by simp) Hblk.out)
    clear hc1
    go_wp2_with fail
    refine (Hw.out _ H1.out).mono ?_; rintro e w2 ⟨v, rfl, hrow, hc2⟩
    simp only at hrow ⊢
    have p2 := blk_cell (hc2.at (by simp) Hb1.out)
    have Hrow := Lib.hid hrow
    have Hc2 := Lib.hid hc2
    by_cases he : ve = 0
    · subst he
      obtain ⟨av, cv, hv⟩ := RowOf.shape hrow
      subst hv
      have Hsl := Lib.hid (RowOf.sl hrow sLen)
      have Hs2 := Lib.hid (show atS r l now = stateS r vs by have := Hs.out; simpa using this)
      clear hrow hc2 p
      go_wp2_with fail
      refine (rstate_any r _ _ _ _ _ Hsl.out.1 Hsl.out.2.2).mono ?_; rintro e w3 ⟨rfl, hc3⟩
      have Hc3 := Lib.hid hc3
      clear hc3
      go_wp2_with fail
      go_ret2
      refine ⟨by rw [Hs2.out]; rfl, (Hc1.out.thenSame Hc2.out).thenSame Hc3.out⟩
    · have hb : (ve == 0) = false := by simpa using he
      have Hs2 := Lib.hid (show atS r l now = (0, ve) by have := Hs.out; rw [if_neg he] at this; exact this)
      clear hrow hc2 p p2 he
      go_wp2_with fail
      go_ret2
      refine ⟨by rw [Hs2.out]; rfl, (Hc1.out.thenSame Hc2.out)⟩
  · have hs : atS r l now = (0, 2) := by unfold atS; rw [if_neg hr]
    rw [hs]
    rw [show checkR r = 2 by unfold checkR; rw [if_neg hr]] at Hch
    clear hr hs hm
    go_enter Try.func22, Try.ntmps22
    go_wp2_with fail
    refine Hch.out.mono ?_; rintro e w1 ⟨rfl, hc1⟩
    have Hc1 := Lib.hid (((Chg.refl [] w).alloc _).thenSame hc1)
    clear hc1
    go_wp2_with fail
    go_ret2
    exact ⟨rfl, Hc1.out⟩

end Go.Proofs.Ytmmhcacpehpjdaa
