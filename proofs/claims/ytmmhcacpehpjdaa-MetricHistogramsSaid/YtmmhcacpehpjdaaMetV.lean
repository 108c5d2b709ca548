/- Chapter 18: contracts: ints and stats of equal lists; MetricSeries. No condition. -/
import Derived.Test.YtmmhcacpehpjdaaMetR
import Derived.Test.YtmmhcacpehpjdaaAlaH
namespace Go.Proofs.Ytmmhcacpehpjdaa
set_option linter.unusedVariables false
set_option linter.unusedSimpArgs false
open Go.RowKit

set_option maxHeartbeats 2000000 in
set_option maxRecDepth 100000 in
theorem stats_any (a b : Option Addr) (len ca cb : Nat) (l : List Sd) (w : World) (h1 : SlIs sCells 4 w a len l) (h2 : SlIs sCells 4 w b len l) (hm : len ≤ maxLen) : Calls Try.prog 42 #[.slice a len ca, .slice b len cb] w fun e w' => e = .returned (.bool true) ∧ Chg [] w w' := by
  have hl := Lib.hid h1.1
  have H1 := Lib.hid h1
  have H2 := Lib.hid h2
  unfold maxLen at hm
  clear h1 h2
  go_enter Try.func42, Try.ntmps42
  go_wp2_with fail
  go_loopw [13] (fun i wr => ∃ k : Nat, i = .int .i64 k ∧ k ≤ len ∧ Chg [] w wr) (fun i _ => len - (intOf i).toNat)
  case atStart => exact ⟨0, rfl, Nat.zero_le _, Chg.refl _ _⟩
  case round =>
    obtain ⟨k, rfl, hkl, hch⟩ := hrel
    have Hch := Lib.hid hch
    clear hch
    by_cases hk : k < len
    · have hk2 : k < l.length := by rw [hl.out]; exact hk
      obtain ⟨b1, o1, rfl, -, hb1, c1⟩ := H1.out.elem Hch.out k hk2
      obtain ⟨b2, o2, rfl, -, hb2, c2⟩ := H2.out.elem Hch.out k hk2
      obtain ⟨x, hx⟩ : ∃ x, x = l[k] := ⟨_, rfl⟩
      rw [← hx] at c1 c2
      have p0 := c1 0 (by omega)
      have p1 := c1 1 (by omega)
      have p2 := c1 2 (by omega)
      have p3 := c1 3 (by omega)
      have q0 := c2 0 (by omega)
      have q1 := c2 1 (by omega)
      have q2 := c2 2 (by omega)
      have q3 := c2 3 (by omega)
      simp only [sCells, List.getElem?_cons_zero, List.getElem?_cons_succ, Nat.add_zero] at p0 p1 p2 p3 q0 q1 q2 q3
      have hk0 : (0 : Int) ≤ (k : Int) := by omega
      have hk1 : (k : Int) < (len : Int) := by omega
      clear hx c1 c2
      go_wp2_with fail
      go_quiet (fail)
      go_wp2_with fail
      exact ⟨⟨k + 1, by go_num, by omega, Hch.out.drewN _⟩, by simp [intOf]; omega⟩
    · go_wp2_with fail
      go_ret
      exact ⟨rfl, Hch.out⟩

set_option maxHeartbeats 2000000 in
set_option maxRecDepth 100000 in
theorem ints_any (a b : Option Addr) (len ca cb : Nat) (l : List Int) (w : World) (h1 : SlIs ic 1 w a len l) (h2 : SlIs ic 1 w b len l) (hm : len ≤ maxLen) : Calls Try.prog 35 #[.slice a len ca, .slice b len cb] w fun e w' => e = .returned (.bool true) ∧ Chg [] w w' := by
  have hl := Lib.hid h1.1
  have H1 := Lib.hid h1
  have H2 := Lib.hid h2
  unfold maxLen at hm
  clear h1 h2
  go_enter Try.func35, Try.ntmps35
  go_wp2_with fail
  go_loopw [13] (fun i wr => ∃ k : Nat, i = .int .i64 k ∧ k ≤ len ∧ Chg [] w wr) (fun i _ => len - (intOf i).toNat)
  case atStart => exact ⟨0, rfl, Nat.zero_le _, Chg.refl _ _⟩
  case round =>
    obtain ⟨k, rfl, hkl, hch⟩ := hrel
    have Hch := Lib.hid hch
    clear hch
    by_cases hk : k < len
    · have hk2 : k < l.length := by rw [hl.out]; exact hk
      obtain ⟨b1, o1, rfl, -, hb1, c1⟩ := H1.out.elem Hch.out k hk2
      obtain ⟨b2, o2, rfl, -, hb2, c2⟩ := H2.out.elem Hch.out k hk2
      obtain ⟨x, hx⟩ : ∃ x, x = l[k] := ⟨_, rfl⟩
      rw [← hx] at c1 c2
      have p0 := c1 0 (by omega)
      have q0 := c2 0 (by omega)
      simp only [ic, List.getElem?_cons_zero, Nat.add_zero, Nat.mul_one] at p0 q0
      have hk0 : (0 : Int) ≤ (k : Int) := by omega
      have hk1 : (k : Int) < (len : Int) := by omega
      clear hx c1 c2
      go_wp2_with fail
      go_quiet (fail)
      go_wp2_with fail
      exact ⟨⟨k + 1, by go_num, by omega, Hch.out.drewN _⟩, by simp [intOf]; omega⟩
    · go_wp2_with fail
      go_ret
      exact ⟨rfl, Hch.out⟩

set_option maxHeartbeats 8000000 in
set_option maxRecDepth 100000 in
theorem mseries_walk (a1 : Option Addr) (len cap : Nat) (l : List Pt) (to wd n : Int) (w : World) (h1 : SlIs pCells 2 w a1 len l ∧ (∀ x ∈ l, x.good) ∧ len ≤ maxLen ∧ len ≤ cap) (_g1 : (Lit.int .i64 to).wf = true) (_g2 : (Lit.int .i64 wd).wf = true) (_g3 : (Lit.int .i64 n).wf = true) : Calls Try.prog 12 #[.slice a1 len cap, .int .i64 to, .int .i64 wd, .int .i64 n] w fun e w' => e = .returned (.bool true) ∧ Below w.heap.size w w' := by
  obtain ⟨s1, _, m1, _⟩ := h1
  have S1 := Lib.hid s1
  have hn0 : (0 : Int) ≤ (len : Int) := by omega
  by_cases hbig : (300 : Int) < (len : Int)
  · clear s1 m1
    go_enter Try.func12, Try.ntmps12
    go_wp2_with fail
    refine (mawake_any _).mono ?_; rintro e w3 ⟨rfl, hc3⟩
    have Hc3 := Lib.hid hc3
    clear hc3
    go_wp2_with fail
    go_ret
    exact ⟨rfl, Hc3.out.toBelow (Nat.le_refl _) (by simp)⟩
  have hbig' : (len : Int) ≤ 300 := by omega
  have A1 := Lib.hid (fun w h => windows_any a1 len cap l to wd n w h m1)
  have A2 := Lib.hid (fun w h => rwindows_any a1 len cap l to wd n w h m1)
  generalize windowsS l to wd n = r at A1 A2
  obtain ⟨L, E⟩ := r
  clear s1 m1 hbig
  go_enter Try.func12, Try.ntmps12
  go_wp2_with fail
  refine (A1.out _ S1.out).mono ?_; rintro e w2 ⟨v2, rfl, hr2, hc2⟩
  have C2 := Lib.hid hc2
  have R2 := Lib.hid hr2
  obtain ⟨av, cv, hv⟩ := RowOf.shape hr2
  subst hv
  clear hc2 hr2
  go_wp2_with fail
  refine (A2.out _ (S1.out.kept C2.out)).mono ?_; rintro e w3 ⟨v3, rfl, hr3, hc3⟩
  have C3 := Lib.hid (C2.out.thenSame hc3)
  obtain ⟨au, cu, hu⟩ := RowOf.shape hr3
  subst hu
  have S3 := Lib.hid (RowOf.sl hr3 sLen)
  have S2 := Lib.hid ((RowOf.sl R2.out sLen).1.kept hc3)
  have A3 := Lib.hid (stats_any av au L.length cv cu L w3 S2.out S3.out.1 S3.out.2.2)
  clear hc3 hr3
  go_wp2_with fail
  refine A3.out.mono ?_; rintro e w4 ⟨rfl, hc4⟩
  have C4 := Lib.hid (C3.out.thenSame hc4)
  clear hc4
  go_wp2_with fail
  refine (mawake_any _).mono ?_; rintro e w5 ⟨rfl, hc5⟩
  have C5 := Lib.hid (C4.out.thenSame hc5)
  clear hc5
  go_wp2_with fail
  go_ret
  exact ⟨rfl, C5.out.toBelow (Nat.le_refl _) (by simp)⟩
end Go.Proofs.Ytmmhcacpehpjdaa
