/- Chapter 18: contract: Windows of the reference. No condition. -/
import Derived.Test.YtmmhcacpehpjdaaMetH
namespace Go.Proofs.Ytmmhcacpehpjdaa
set_option linter.unusedVariables false
set_option linter.unusedSimpArgs false
open Go.RowKit

theorem wins_step (l : List Pt) (to wd : Int) (n k : Nat) : (List.range (k + 1)).map (winL l to wd n) = (List.range k).map (winL l to wd n) ++ [winL l to wd n k] := by
  rw [List.range_succ, List.map_append]; rfl

set_option maxHeartbeats 2000000 in
set_option maxRecDepth 100000 in
theorem rwindows_any (a : Option Addr) (len cap : Nat) (l : List Pt) (to wd n : Int) (w : World) (h : SlIs pCells 2 w a len l) (hm : len ≤ maxLen) : Calls Try.prog 41 #[.slice a len cap, .int .i64 to, .int .i64 wd, .int .i64 n] w (WsPost w (windowsS l to wd n)) := by
  have Hm := rmcheck_any a len cap l w h hm
  have H := Lib.hid h
  clear h hm
  by_cases hc : checkP l = 0
  · rw [hc] at Hm
    have Hm := Lib.hid Hm
    by_cases hw : wokB to wd n = true
    · have hr : windowsS l to wd n = (winsS l to wd n.toNat, 0) := by unfold windowsS; rw [if_pos hc, if_pos hw]
      rw [hr]
      simp only [wokB, Bool.and_eq_true, decide_eq_true_eq] at hw
      obtain ⟨⟨⟨⟨⟨t0, t1⟩, d0⟩, d1⟩, n0⟩, n1⟩ := hw
      obtain ⟨N, rfl⟩ : ∃ N : Nat, n = (N : Int) := ⟨n.toNat, by omega⟩
      simp only [Int.toNat_natCast]
      have Hok := Lib.hid (check_ok hc)
      have Hin := Lib.hid (fun lo hi => inside_in hc lo hi)
      clear hc hr
      rename_i Hm0
      clear Hm0
      go_enter Try.func41, Try.ntmps41
      go_wp2_with fail
      refine Hm.out.mono ?_; rintro e w1 ⟨rfl, hc1⟩
      have Hc1 := Lib.hid hc1
      have hs1 := hc1.size
      clear hc1 Hm
      go_wp2_with fail
      go_loopw [11, 12] (fun v i wr => ∃ k : Nat, i = .int .i64 k ∧ k ≤ N ∧ RowOf sCells 4 wr w.heap.size 26 v ((List.range k).map (winL l to wd N)) ∧ Chg [] w wr) (fun _ i _ => N - (intOf i).toNat)
      case atStart => exact ⟨0, rfl, Nat.zero_le _, RowOf.nil _ _ _, Hc1.out⟩
      case round =>
        obtain ⟨k, rfl, hkl, hrow, hch⟩ := hrel
        have Hrow := Lib.hid hrow
        have Hch := Lib.hid hch
        clear hrow hch
        by_cases hk : k < N
        · have hm1 := mul_bd (a := (N : Int) - (k : Int)) (b := wd) (M := 256) (N := 1073741824) (by omega) (by omega) (by omega) d1
          have hm2 := mul_bd (a := (N : Int) - 1 - (k : Int)) (b := wd) (M := 256) (N := 1073741824) (by omega) (by omega) (by omega) d1
          have e1 : IntKind.i64.wrap (((N : Int) - (k : Int)) * wd) = ((N : Int) - (k : Int)) * wd := IntWalk.i64_in _ (by omega)
          have e2 : IntKind.i64.wrap (((N : Int) - 1 - (k : Int)) * wd) = ((N : Int) - 1 - (k : Int)) * wd := IntWalk.i64_in _ (by omega)
          have hst := wins_step l to wd N k
          have Hst := Lib.hid hst
          have hk0 : (0 : Int) ≤ (k : Int) := by omega
          have hk1 : (k : Int) < (N : Int) := by omega
          obtain ⟨lo, hlo⟩ : ∃ lo, lo = to - ((N : Int) - (k : Int)) * wd := ⟨_, rfl⟩
          obtain ⟨hi, hhi⟩ : ∃ hi, hi = to - ((N : Int) - 1 - (k : Int)) * wd := ⟨_, rfl⟩
          have Hi1 := Hin.out lo hi
          have Hins := Lib.hid (values_any a len cap l lo hi wr (H.out.kept Hch.out) (by have := Hok.out.1; omega))
          have Hwl : Hid (winL l to wd N k = statS (insideS l lo hi)) := by rw [hlo, hhi]; rfl
          obtain ⟨i1, i2⟩ := Hi1
          have I1 := Lib.hid i1
          have I2 := Lib.hid i2
          have Hlo := Lib.hid hlo
          have Hhi := Lib.hid hhi
          clear hst hlo hhi i1 i2
          go_wp2_with fail
          rw [← Hlo.out, ← Hhi.out]
          refine Hins.out.mono ?_; rintro e w3 ⟨v3, rfl, hr3, hc3⟩
          have Hs := Lib.hid (rstat_any hr3 (by have := I2.out; omega) I1.out)
          have Hc3 := Lib.hid hc3
          clear hr3 hc3
          go_wp2_with fail
          refine Hs.out.mono ?_; rintro e w4 ⟨rfl, hc4⟩
          have hr4 := RowOf.kept Hrow.out (Hc3.out.thenSame hc4) (by simp)
          have Hr4 := Lib.hid hr4
          have Hc4 := Lib.hid ((Hch.out.thenSame Hc3.out).thenSame hc4)
          have hs4 := Hc4.out.size
          rw [← Hwl.out]
          have Hx : Hid (∃ x, x = winL l to wd N k) := ⟨_, rfl⟩
          obtain ⟨x, hx⟩ := Hx.out
          rw [← hx] at Hst ⊢
          simp only [sV]
          have hlen : ((List.range k).map (winL l to wd N)).length + 1 ≤ 257 := by simp; omega
          clear hr4 hc4 hx Hx
          go_wp2_with (at_builtin; go_loud (refine wpl_append rfl _ _ 33 rfl w.heap.size 26 _ 32 Try.underlying33 sInfo rfl (by decide) sLen sOne u11 _ rfl (RowOf.kept Hr4.out ((Chg.refl [] _).alloc _) (by simp)) w4.heap.size _ x _ _ _ rfl (heap_alloc_new w4 _) rfl (by unfold maxLen; omega) (by omega) (by simp; omega) ?_); intro v' w5 hr5 hg5; have Hr5 := Lib.hid hr5; have Hg5 := Lib.hid hg5; clear hr5 hg5)
          refine ⟨⟨k + 1, by go_num, by omega, ?_, (Hc4.out.alloc _).then (Chg.ofRow (v := u11) Hg5.out) (by intro y hy hl; have := (Hrow.out.block y (by simpa using hy)).1; omega)⟩, by simp [intOf]; omega⟩
          rw [Hst.out]
          exact Hr5.out
        · go_wp2_with fail
          go_ret2
          have e : k = N := by omega
          subst e
          refine ⟨_, rfl, ?_, Hch.out⟩
          have := Hrow.out
          simpa [winsS] using this
    · have hr : windowsS l to wd n = ([], 2) := by unfold windowsS; rw [if_pos hc, if_neg hw]
      rw [hr]
      have hw' : to < 0 ∨ (0 ≤ to ∧ 1073741824 < to) ∨ (0 ≤ to ∧ to ≤ 1073741824 ∧ wd < 1) ∨ (0 ≤ to ∧ to ≤ 1073741824 ∧ 1 ≤ wd ∧ 1073741824 < wd) ∨ (0 ≤ to ∧ to ≤ 1073741824 ∧ 1 ≤ wd ∧ wd ≤ 1073741824 ∧ n < 1) ∨ (0 ≤ to ∧ to ≤ 1073741824 ∧ 1 ≤ wd ∧ wd ≤ 1073741824 ∧ 1 ≤ n ∧ 256 < n) := by
        simp [wokB] at hw; omega
      clear hc hr hw
      rename_i Hm0
      clear Hm0
      rcases hw' with h | ⟨h1, h⟩ | ⟨h1, h2, h⟩ | ⟨h1, h2, h3, h⟩ | ⟨h1, h2, h3, h4, h⟩ | ⟨h1, h2, h3, h4, h5, h⟩
      all_goals
        go_enter Try.func41, Try.ntmps41
        go_wp2_with fail
        refine Hm.out.mono ?_; rintro e w1 ⟨rfl, hc1⟩
        have Hc1 := Lib.hid hc1
        clear hc1 Hm
        go_wp2_with fail
        go_ret2
        exact ⟨_, rfl, RowOf.nil _ _ _, Hc1.out⟩
  · have hr : windowsS l to wd n = ([], checkP l) := by unfold windowsS; rw [if_neg hc]
    rw [hr]
    have hb : (checkP l == 0) = false := by simpa using hc
    generalize checkP l = E at *
    have Hm := Lib.hid Hm
    rename_i Hm0
    clear Hm0 hc hr
    go_enter Try.func41, Try.ntmps41
    go_wp2_with fail
    refine Hm.out.mono ?_; rintro e w1 ⟨rfl, hc1⟩
    have Hc1 := Lib.hid hc1
    clear hc1 Hm
    go_wp2_with fail
    go_ret2
    exact ⟨_, rfl, RowOf.nil _ _ _, Hc1.out⟩
end Go.Proofs.Ytmmhcacpehpjdaa
