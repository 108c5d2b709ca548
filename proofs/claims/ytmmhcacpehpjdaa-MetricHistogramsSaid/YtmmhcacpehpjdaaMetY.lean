/- Chapter 18: MetricHistograms. No condition. -/
import Derived.Test.YtmmhcacpehpjdaaMetX
import Derived.Test.YtmmhcacpehpjdaaMetV
import Derived.Test.YtmmhcacpehpjdaaInts
namespace Go.Proofs.Ytmmhcacpehpjdaa
set_option linter.unusedVariables false
set_option linter.unusedSimpArgs false
open Go.RowKit

theorem bump_sum {o : List Int} {k : Nat} (h : k < o.length) : (bump o k).sum = o.sum + 1 := by
  unfold bump
  rw [List.getD_eq_getElem?_getD, List.getElem?_eq_getElem h]
  simp only [Option.getD_some]
  induction o generalizing k with
  | nil => simp at h
  | cons x o ih =>
    cases k with
    | zero => simp; omega
    | succ k =>
      have := ih (k := k) (by simpa using h)
      simp only [List.set_cons_succ, List.sum_cons, List.getElem_cons_succ]
      omega
theorem hist_sum (bs : List Int) (l : List Pt) : (histL bs l).sum = l.length := by
  have : ∀ n, n ≤ l.length → (histL bs (l.take n)).sum = n := by
    intro n
    induction n with
    | zero => intro _; simp [histL]
    | succ n ih =>
      intro h
      rw [hist_step bs l n (by omega), bump_sum (by rw [hist_len]; have := cnt_le bs l[n].v; omega), ih (by omega)]
      omega
  have h2 := this l.length (Nat.le_refl _)
  rwa [List.take_length] at h2
theorem histS_law (l : List Pt) (bs : List Int) : ((histS l bs).2 = 0 ∧ (histS l bs).1.sum = l.length ∧ l.length ≤ 256 ∧ ∀ x ∈ (histS l bs).1, 0 ≤ x) ∨ (¬ (histS l bs).2 = 0 ∧ (histS l bs).1 = []) := by
  unfold histS
  by_cases h : histE l bs = 0
  · rw [if_pos h]
    have hE : checkP l = 0 := by
      unfold histE at h
      by_cases hl : checkP l = 0
      · exact hl
      · rw [if_neg hl] at h; exact absurd h hl
    exact .inl ⟨rfl, hist_sum bs l, (check_ok hE).1, fun x hx => (hist_bd bs l x hx).1⟩
  · rw [if_neg h]
    exact .inr ⟨h, rfl⟩
theorem sum_nn {o : List Int} (h : ∀ x ∈ o, 0 ≤ x) (k : Nat) : 0 ≤ (o.take k).sum ∧ (o.take k).sum ≤ o.sum := by
  induction o generalizing k with
  | nil => simp
  | cons x o ih =>
    have hx := h x (by simp)
    have ih0 := ih (fun y hy => h y (by simp [hy])) 0
    cases k with
    | zero => simp at ih0 ⊢; omega
    | succ k =>
      have := ih (fun y hy => h y (by simp [hy])) k
      simp only [List.take_succ_cons, List.sum_cons]
      omega

set_option maxHeartbeats 8000000 in
set_option maxRecDepth 100000 in
theorem mhists_walk (a0 : Option Addr) (len0 cap0 : Nat) (l0 : List Pt) (a1 : Option Addr) (len1 cap1 : Nat) (l1 : List Int) (w : World) (h0 : SlIs pCells 2 w a0 len0 l0 ∧ (∀ x ∈ l0, x.good) ∧ len0 ≤ maxLen ∧ len0 ≤ cap0) (h1 : SlIs ic 1 w a1 len1 l1 ∧ (∀ x ∈ l1, (Lit.int .i64 x).wf = true) ∧ len1 ≤ maxLen ∧ len1 ≤ cap1) : Calls Try.prog 9 #[.slice a0 len0 cap0, .slice a1 len1 cap1] w fun e w' => e = .returned (.bool true) ∧ Below w.heap.size w w' := by
  obtain ⟨s0, _, m0, _⟩ := h0
  obtain ⟨s1, _, m1, _⟩ := h1
  have S0 := Lib.hid s0
  have S1 := Lib.hid s1
  have L0 := Lib.hid s0.1
  have L1 := Lib.hid s1.1
  have hn0 : (0 : Int) ≤ (len0 : Int) := by omega
  have hn1 : (0 : Int) ≤ (len1 : Int) := by omega
  have hcs0 : (300 : Int) < (len0 : Int) ∨ ((len0 : Int) ≤ 300 ∧ (300 : Int) < (len1 : Int)) ∨ ((len0 : Int) ≤ 300 ∧ (len1 : Int) ≤ 300) := by omega
  rcases hcs0 with hbig | ⟨hbig, hlh⟩ | ⟨hbig, hlh⟩
  iterate 2
    · clear s0 s1 m0 m1
      go_enter Try.func9, Try.ntmps9
      go_wp2_with fail
      refine (mawake_any _).mono ?_; rintro e w3 ⟨rfl, hc3⟩
      have Hc3 := Lib.hid hc3
      clear hc3
      go_wp2_with fail
      go_ret
      exact ⟨rfl, Hc3.out.toBelow (Nat.le_refl _) (by simp)⟩
  have A1 := Lib.hid (fun w h1 h2 => hist_any a0 len0 cap0 l0 a1 len1 cap1 l1 w h1 m0 h2 m1)
  have A2 := Lib.hid (fun w h1 h2 => rhist_any a0 len0 cap0 l0 a1 len1 cap1 l1 w h1 m0 h2 m1)
  have hlaw := histS_law l0 l1
  generalize histS l0 l1 = r at A1 A2 hlaw
  obtain ⟨L, E⟩ := r
  simp only [] at hlaw
  have hcs : (E = 0 ∧ L.sum = (len0 : Int) ∧ ∀ x ∈ L, 0 ≤ x) ∨ ((E == 0) = false ∧ (E != 0) = true ∧ L = []) := by
    rcases hlaw with ⟨e1, e2, e3, e4⟩ | ⟨e1, e2⟩
    · exact .inl ⟨e1, by rw [e2, L0.out], e4⟩
    · exact .inr ⟨by simpa using e1, by simpa using e1, e2⟩
  clear s0 s1 m0 m1 hlaw
  rcases hcs with ⟨rfl, e2, e3⟩ | ⟨e1, e2, rfl⟩
  · have Hsum : Hid (∀ k, 0 ≤ (L.take k).sum ∧ (L.take k).sum ≤ L.sum) := Lib.hid (fun k => sum_nn e3 k)
    have E2 := Lib.hid e2
    have E3 := Lib.hid e3
    clear e2 e3
    go_enter Try.func9, Try.ntmps9
    go_wp2_with fail
    refine (A1.out _ S0.out S1.out).mono ?_; rintro e w2 ⟨v2, rfl, hr2, hc2⟩
    have C2 := Lib.hid hc2
    have R2 := Lib.hid hr2
    obtain ⟨av, cv, hv⟩ := RowOf.shape hr2
    subst hv
    clear hc2 hr2
    go_wp2_with fail
    refine (A2.out _ (S0.out.kept C2.out) (S1.out.kept C2.out)).mono ?_; rintro e w3 ⟨v3, rfl, hr3, hc3⟩
    have C3 := Lib.hid (C2.out.thenSame hc3)
    obtain ⟨au, cu, hu⟩ := RowOf.shape hr3
    subst hu
    have S3 := Lib.hid (RowOf.sl hr3 iLen)
    have S2 := Lib.hid ((RowOf.sl R2.out iLen).1.kept hc3)
    have A3 := Lib.hid (ints_any av au L.length cv cu L w3 S2.out S3.out.1 S3.out.2.2)
    have hlm : (L.length : Int) ≤ 9223372036854775807 := by have h : L.length ≤ maxLen := S3.out.2.2; unfold maxLen at h; omega
    clear hc3 hr3
    go_wp2_with fail
    go_loop [9, 35] (fun s i => ∃ k : Nat, i = .int .i64 k ∧ k ≤ L.length ∧ s = .int .i64 (L.take k).sum) (fun _ i => L.length - (intOf i).toNat)
    case atStart => exact ⟨0, rfl, Nat.zero_le _, rfl⟩
    case round =>
      obtain ⟨k, rfl, hkl, rfl⟩ := hrel
      have b1 := (Hsum.out k).1
      have b2 : (L.take k).sum ≤ 300 := by have := (Hsum.out k).2; have := E2.out; omega
      by_cases hk : k < L.length
      · have hst := sum_take L k hk
        have b3 : L[k] ≤ 300 := by have h1 := (Hsum.out (k + 1)).2; have := E2.out; omega
        have b4 := E3.out _ (List.getElem_mem hk)
        obtain ⟨b, off, rfl, hb, hcc⟩ := S2.out.2 k hk
        have d0 := hcc 0 (by omega)
        obtain ⟨x, hx⟩ : ∃ x, x = L[k] := ⟨_, rfl⟩
        rw [← hx] at d0 hst b3 b4
        simp only [ic, List.getElem?_cons_zero, Nat.add_zero, Nat.mul_one] at d0
        have hk0 : (0 : Int) ≤ (k : Int) := by omega
        have hk1 : (k : Int) < (L.length : Int) := by omega
        have Hst := Lib.hid hst
        generalize (L.take k).sum = s at *
        clear hst hx hcc
        go_wp2_with fail
        exact ⟨⟨k + 1, by go_num, by omega, by rw [Hst.out]⟩, by simp [intOf]; omega⟩
      · have ht : (L.take k).sum = (len0 : Int) := by rw [List.take_of_length_le (by omega)]; exact E2.out
        rw [ht]
        clear b1 b2 ht
        go_wp2_with fail
        refine A3.out.mono ?_; rintro e w4 ⟨rfl, hc4⟩
        have C4 := Lib.hid (C3.out.thenSame hc4)
        clear hc4
        go_wp2_with fail
        refine (mawake_any _).mono ?_; rintro e w5 ⟨rfl, hc5⟩
        have C5 := Lib.hid (C4.out.thenSame hc5)
        clear hc5
        go_wp2_with fail
        go_ret
        exact ⟨rfl, C5.out.toBelow (Nat.le_refl _) (by simp)⟩
  · go_enter Try.func9, Try.ntmps9
    go_wp2_with fail
    refine (A1.out _ S0.out S1.out).mono ?_; rintro e w2 ⟨v2, rfl, hr2, hc2⟩
    have C2 := Lib.hid hc2
    have R2 := Lib.hid hr2
    obtain ⟨av, cv, hv⟩ := RowOf.shape hr2
    subst hv
    clear hc2 hr2
    go_wp2_with fail
    refine (A2.out _ (S0.out.kept C2.out) (S1.out.kept C2.out)).mono ?_; rintro e w3 ⟨v3, rfl, hr3, hc3⟩
    have C3 := Lib.hid (C2.out.thenSame hc3)
    obtain ⟨au, cu, hu⟩ := RowOf.shape hr3
    subst hu
    have S3 := Lib.hid (RowOf.sl hr3 iLen)
    have S2 := Lib.hid ((RowOf.sl R2.out iLen).1.kept hc3)
    have A3 := Lib.hid (ints_any av au ([] : List Int).length cv cu [] w3 S2.out S3.out.1 S3.out.2.2)
    clear hc3 hr3
    simp only [List.length_nil] at A3 ⊢
    go_wp2_with fail
    go_loop [35] (fun i => i = .int .i64 0) (fun _ => 0)
    case atStart => rfl
    case round =>
      subst hrel
      go_wp2_with fail
      refine A3.out.mono ?_; rintro e w4 ⟨rfl, hc4⟩
      have C4 := Lib.hid (C3.out.thenSame hc4)
      clear hc4
      go_wp2_with fail
      refine (mawake_any _).mono ?_; rintro e w5 ⟨rfl, hc5⟩
      have C5 := Lib.hid (C4.out.thenSame hc5)
      clear hc5
      go_wp2_with fail
      go_ret
      exact ⟨rfl, C5.out.toBelow (Nat.le_refl _) (by simp)⟩
end Go.Proofs.Ytmmhcacpehpjdaa
