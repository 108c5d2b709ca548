/- Chapter 18: contract: Windows of the program. No condition. -/
import Derived.Test.YtmmhcacpehpjdaaMetG
import Derived.Test.YtmmhcacpehpjdaaRown
namespace Go.Proofs.Ytmmhcacpehpjdaa
set_option linter.unusedVariables false
set_option linter.unusedSimpArgs false
open Go.RowKit

theorem sLen (x : Sd) : (sCells x).length = 4 := rfl
theorem sOne (x : Sd) : ∀ u ∈ sCells x, u.oneCell' = true := by intro u hu; simp [sCells] at hu; rcases hu with rfl | rfl | rfl | rfl <;> rfl
theorem sInfo : (Try.prog.info? 26).map (fun i => (i.zero, i.size, i.bytes)) = some (some (.agg #[.int .i64 0, .int .i64 0, .int .i64 0, .int .i64 0]), 4, 32) := by kernel_rfl
def z0S : Sd := ⟨0, 0, 0, 0⟩

def winL (l : List Pt) (to wd : Int) (n k : Nat) : Sd := statS (insideS l (to - ((n : Int) - (k : Int)) * wd) (to - ((n : Int) - 1 - (k : Int)) * wd))
def winsS (l : List Pt) (to wd : Int) (n : Nat) : List Sd := (List.range n).map (winL l to wd n)
def wokB (to wd n : Int) : Bool := decide (0 ≤ to) && decide (to ≤ 1073741824) && decide (1 ≤ wd) && decide (wd ≤ 1073741824) && decide (1 ≤ n) && decide (n ≤ 256)
def windowsS (l : List Pt) (to wd n : Int) : List Sd × Int := if checkP l = 0 then (if wokB to wd n = true then (winsS l to wd n.toNat, 0) else ([], 2)) else ([], checkP l)
def WsPost (w : World) (r : List Sd × Int) (e : Ending) (w' : World) : Prop := ∃ v, e = .returned (.tuple #[v, .int .i64 r.2]) ∧ RowOf sCells 4 w' w.heap.size 26 v r.1 ∧ Chg [] w w'

theorem chk_all {p : Option Pt} {l : List Pt} (h : chkL p l = 0) : ∀ x ∈ l, chk1 x = false := by
  induction l generalizing p with
  | nil => simp
  | cons x l ih =>
    unfold chkL at h
    by_cases hc : chk1 x = true
    · rw [if_pos hc] at h; simp at h
    · rw [if_neg hc] at h
      obtain ⟨c, h⟩ : ∃ c : Bool, (if c = true then 11 else chkL (some x) l) = 0 := ⟨_, h⟩
      cases c
      case true => simp at h
      case false =>
        simp only [Bool.false_eq_true, if_false] at h
        intro y hy
        rcases List.mem_cons.1 hy with rfl | hy
        · simpa using hc
        · exact ih h y hy
theorem check_ok {l : List Pt} (h : checkP l = 0) : l.length ≤ 256 ∧ ∀ x ∈ l, 0 ≤ x.t ∧ x.t ≤ 1073741824 ∧ -1000000000 ≤ x.v ∧ x.v ≤ 1000000000 := by
  unfold checkP at h
  split at h
  · simp at h
  · refine ⟨by omega, fun x hx => ?_⟩
    have := chk_all h x hx
    simp [chk1, amountB] at this
    omega
theorem inside_in {l : List Pt} (h : checkP l = 0) (lo hi : Int) : inB (insideS l lo hi) ∧ (insideS l lo hi).length ≤ 256 := by
  obtain ⟨h1, h2⟩ := check_ok h
  refine ⟨fun n hn => ?_, ?_⟩
  · unfold insideS at hn
    obtain ⟨x, hx, rfl⟩ := List.mem_map.1 hn
    exact (h2 x (List.mem_filter.1 hx).1).2.2
  · unfold insideS
    rw [List.length_map]
    exact Nat.le_trans (List.length_filter_le _ _) h1
theorem set_fill {α : Type} (f : Nat → α) (z : α) (n k : Nat) (hk : k < n) : ((List.range k).map f ++ List.replicate (n - k) z).set k (f k) = (List.range (k + 1)).map f ++ List.replicate (n - (k + 1)) z := by
  obtain ⟨m, rfl⟩ : ∃ m, n = k + (m + 1) := ⟨n - k - 1, by omega⟩
  have e1 : k + (m + 1) - k = m + 1 := by omega
  have e2 : k + (m + 1) - (k + 1) = m := by omega
  rw [e1, e2, List.range_succ, List.map_append, List.set_append_right _ _ (by simp)]
  simp [List.replicate_succ]
theorem mul_bd {a b : Int} {M N : Int} (h0 : 0 ≤ a) (h1 : a ≤ M) (h2 : 0 ≤ b) (h3 : b ≤ N) : 0 ≤ a * b ∧ a * b ≤ M * N :=
  ⟨Int.mul_nonneg h0 h2, Int.mul_le_mul h1 h3 h2 (by omega)⟩

set_option maxHeartbeats 2000000 in
set_option maxRecDepth 100000 in
theorem windows_any (a : Option Addr) (len cap : Nat) (l : List Pt) (to wd n : Int) (w : World) (h : SlIs pCells 2 w a len l) (hm : len ≤ maxLen) : Calls Try.prog 40 #[.slice a len cap, .int .i64 to, .int .i64 wd, .int .i64 n] w (WsPost w (windowsS l to wd n)) := by
  have Hm := mcheck_any a len cap l w h hm
  have H := Lib.hid h
  clear h hm
  by_cases hc : checkP l = 0
  · rw [hc] at Hm
    have Hm := Lib.hid Hm
    by_cases hw : wokB to wd n = true
    · have hr : windowsS l to wd n = (winsS l to wd n.toNat, 0) := by unfold windowsS; rw [if_pos hc, if_pos hw]
      rw [hr]
      simp only [wokB, Bool.and_eq_true, decide_eq_true_eq] at hw
      obtain ⟨⟨⟨⟨⟨t0, t1⟩, d0⟩, d1⟩, n0⟩, n1⟩ := hw
      obtain ⟨N, rfl⟩ : ∃ N : Nat, n = (N : Int) := ⟨n.toNat, by omega⟩
      simp only [Int.toNat_natCast]
      have Hok := Lib.hid (check_ok hc)
      have Hin := Lib.hid (fun lo hi => inside_in hc lo hi)
      clear hc hr
      rename_i Hm0
      clear Hm0
      go_enter Try.func40, Try.ntmps40
      go_wp2_with fail
      refine Hm.out.mono ?_; rintro e w1 ⟨rfl, hc1⟩
      have Hc1 := Lib.hid hc1
      have hs1 := hc1.size
      clear hc1 Hm
      go_wp2_with (at_make; go_loud (refine wpl_make (cf := sCells) rfl _ _ 33 rfl w.heap.size 26 _ 32 Try.underlying33 sInfo z0S rfl rfl N rfl rfl (by omega) (by unfold maxLen; omega) hs1 ?_); intro w2 hr2 hc2 hsz2; have Hr2 := Lib.hid hr2; have Hc2 := Lib.hid (Hc1.out.thenSame hc2); have hg := hc2.size; clear hr2 hc2)
      go_loopw [44, 12] (fun i _ wr => ∃ k : Nat, i = .int .i64 k ∧ k ≤ N ∧ RowOf sCells 4 wr w.heap.size 26 (.slice (some ⟨w1.heap.size, 0, none⟩) N N) ((List.range k).map (winL l to wd N) ++ List.replicate (N - k) z0S) ∧ Chg [] w wr) (fun i _ _ => N - (intOf i).toNat)
      case atStart => exact ⟨0, rfl, Nat.zero_le _, by simpa using Hr2.out, Hc2.out⟩
      case round =>
        obtain ⟨k, rfl, hkl, hrow, hch⟩ := hrel
        have Hrow := Lib.hid hrow
        have Hch := Lib.hid hch
        clear hrow hch
        by_cases hk : k < N
        · have hm1 := mul_bd (a := (N : Int) - (k : Int)) (b := wd) (M := 256) (N := 1073741824) (by omega) (by omega) (by omega) d1
          have hm2 := mul_bd (a := (N : Int) - 1 - (k : Int)) (b := wd) (M := 256) (N := 1073741824) (by omega) (by omega) (by omega) d1
          have e1 : IntKind.i64.wrap (((N : Int) - (k : Int)) * wd) = ((N : Int) - (k : Int)) * wd := IntWalk.i64_in _ (by omega)
          have e2 : IntKind.i64.wrap (((N : Int) - 1 - (k : Int)) * wd) = ((N : Int) - 1 - (k : Int)) * wd := IntWalk.i64_in _ (by omega)
          have hst := set_fill (winL l to wd N) z0S N k hk
          have Hst := Lib.hid hst
          have hk0 : (0 : Int) ≤ (k : Int) := by omega
          have hk1 : (k : Int) < (N : Int) := by omega
          obtain ⟨lo, hlo⟩ : ∃ lo, lo = to - ((N : Int) - (k : Int)) * wd := ⟨_, rfl⟩
          obtain ⟨hi, hhi⟩ : ∃ hi, hi = to - ((N : Int) - 1 - (k : Int)) * wd := ⟨_, rfl⟩
          have Hi1 := Hin.out lo hi
          have Hins := Lib.hid (inside_any a len cap l lo hi wr (H.out.kept Hch.out) (by have := Hok.out.1; omega))
          have Hwl : Hid (winL l to wd N k = statS (insideS l lo hi)) := by rw [hlo, hhi]; rfl
          obtain ⟨i1, i2⟩ := Hi1
          have I1 := Lib.hid i1
          have I2 := Lib.hid i2
          have Hlo := Lib.hid hlo
          have Hhi := Lib.hid hhi
          have hgw := Nat.lt_of_lt_of_le hsz2 (Nat.le_refl _)
          clear hst hlo hhi i1 i2
          go_wp2_with fail
          rw [← Hlo.out, ← Hhi.out]
          refine Hins.out.mono ?_; rintro e w3 ⟨v3, rfl, hr3, hc3⟩
          have Hs := Lib.hid (summary_any hr3 (by have := I2.out; omega) I1.out)
          have Hc3 := Lib.hid hc3
          clear hr3 hc3
          go_wp2_with fail
          refine Hs.out.mono ?_; rintro e w4 ⟨rfl, hc4⟩
          have hr4 := RowOf.kept Hrow.out (Hc3.out.thenSame hc4) (by simp)
          have Hr4 := Lib.hid hr4
          obtain ⟨-, -, -, hcell, hfr, -, -⟩ := RowOf.atS hr4 sLen
          have hkL : k < ((List.range k).map (winL l to wd N) ++ List.replicate (N - k) z0S).length := by simp; omega
          have q0 := hcell k hkL 0 (by omega)
          have q1 := hcell k hkL 1 (by omega)
          have q2 := hcell k hkL 2 (by omega)
          have q3 := hcell k hkL 3 (by omega)
          obtain ⟨y, hy⟩ : ∃ y, y = ((List.range k).map (winL l to wd N) ++ List.replicate (N - k) z0S)[k] := ⟨_, rfl⟩
          rw [← hy] at q0 q1 q2 q3
          simp only [sCells, List.getElem?_cons_zero, List.getElem?_cons_succ, Nat.add_zero] at q0 q1 q2 q3
          clear hy
          have Hc4 := Lib.hid ((Hch.out.thenSame Hc3.out).thenSame hc4)
          rw [← Hwl.out]
          have Hx : Hid (∃ x, x = winL l to wd N k) := ⟨_, rfl⟩
          obtain ⟨x, hx⟩ := Hx.out
          rw [← hx] at Hst ⊢
          simp only [sV]
          clear hr4 hcell hc4 hx Hx
          simp only [] at q0 q1 q2 q3 hfr
          go_wp2_with fail
          refine ⟨⟨k + 1, by go_num, by omega, ?_, Hc4.out.then (Chg.putEl (g := w1.heap.size) (p := k * 4) (sCells x) 0) (by simp; omega)⟩, by simp [intOf]; omega⟩
          rw [← Hst.out]
          exact RowOf.putEl Hr4.out sLen k hkL x
        · go_wp2_with fail
          go_ret2
          have e : k = N := by omega
          subst e
          refine ⟨_, rfl, ?_, Hch.out⟩
          have := Hrow.out
          simpa [winsS] using this
    · have hr : windowsS l to wd n = ([], 2) := by unfold windowsS; rw [if_pos hc, if_neg hw]
      rw [hr]
      have hw' : to < 0 ∨ (0 ≤ to ∧ 1073741824 < to) ∨ (0 ≤ to ∧ to ≤ 1073741824 ∧ wd < 1) ∨ (0 ≤ to ∧ to ≤ 1073741824 ∧ 1 ≤ wd ∧ 1073741824 < wd) ∨ (0 ≤ to ∧ to ≤ 1073741824 ∧ 1 ≤ wd ∧ wd ≤ 1073741824 ∧ n < 1) ∨ (0 ≤ to ∧ to ≤ 1073741824 ∧ 1 ≤ wd ∧ wd ≤ 1073741824 ∧ 1 ≤ n ∧ 256 < n) := by
        simp [wokB] at hw; omega
      clear hc hr hw
      rename_i Hm0
      clear Hm0
      rcases hw' with h | ⟨h1, h⟩ | ⟨h1, h2, h⟩ | ⟨h1, h2, h3, h⟩ | ⟨h1, h2, h3, h4, h⟩ | ⟨h1, h2, h3, h4, h5, h⟩
      all_goals
        go_enter Try.func40, Try.ntmps40
        go_wp2_with fail
        refine Hm.out.mono ?_; rintro e w1 ⟨rfl, hc1⟩
        have Hc1 := Lib.hid hc1
        clear hc1 Hm
        go_wp2_with fail
        go_ret2
        exact ⟨_, rfl, RowOf.nil _ _ _, Hc1.out⟩
  · have hr : windowsS l to wd n = ([], checkP l) := by unfold windowsS; rw [if_neg hc]
    rw [hr]
    have hb : (checkP l == 0) = false := by simpa using hc
    generalize checkP l = E at *
    have Hm := Lib.hid Hm
    rename_i Hm0
    clear Hm0 hc hr
    go_enter Try.func40, Try.ntmps40
    go_wp2_with fail
    refine Hm.out.mono ?_; rintro e w1 ⟨rfl, hc1⟩
    have Hc1 := Lib.hid hc1
    clear hc1 Hm
    go_wp2_with fail
    go_ret2
    exact ⟨_, rfl, RowOf.nil _ _ _, Hc1.out⟩
end Go.Proofs.Ytmmhcacpehpjdaa
