/- Chapter 18: contract: Percentile of the reference. No condition. -/
import Derived.Test.YtmmhcacpehpjdaaMetT
namespace Go.Proofs.Ytmmhcacpehpjdaa
set_option linter.unusedVariables false
set_option linter.unusedSimpArgs false
open Go.RowKit

set_option maxHeartbeats 8000000 in
set_option maxRecDepth 100000 in
theorem rperc_any (a : Option Addr) (len cap : Nat) (l : List Pt) (lo hi pm : Int) (w : World) (h : SlIs pCells 2 w a len l) (hm : len ≤ maxLen) : Calls Try.prog 31 #[.slice a len cap, .int .i64 lo, .int .i64 hi, .int .i64 pm] w (PcPost w (percS l lo hi pm)) := by
  have A1 := rwin_any a len cap l lo hi w h hm
  have H := Lib.hid h
  obtain ⟨R, hR⟩ : ∃ R, R = percS l lo hi pm := ⟨_, rfl⟩
  rw [← hR]
  unfold percS at hR
  by_cases hE : windowE l lo hi = 0
  case neg =>
    rw [if_neg hE] at hR
    have hb : (windowE l lo hi == 0) = false := by simpa using hE
    generalize windowE l lo hi = E at *
    have A1 := Lib.hid A1
    have HR := Lib.hid hR
    rename_i A10
    clear A10 hE hR h hm
    go_enter Try.func31, Try.ntmps31
    go_wp2_with fail
    refine A1.out.mono ?_; rintro e w1 ⟨rfl, hc1⟩
    have C1 := Lib.hid hc1
    clear hc1
    go_wp2_with fail
    go_ret2
    exact ⟨by rw [HR.out]; rfl, C1.out⟩
  rw [if_pos hE] at hR
  have hin := inside_in (window_e hE) lo hi
  have hok := check_ok (window_e hE)
  rw [hE] at A1
  have A1 := Lib.hid A1
  rename_i A10
  by_cases hpm : 1 ≤ pm ∧ pm ≤ 1000
  case neg =>
    rw [if_neg hpm] at hR
    have HR := Lib.hid hR
    have hp : pm < 1 ∨ (1 ≤ pm ∧ 1000 < pm) := by omega
    clear A10 hE hR h hm hok hin hpm
    rcases hp with p1 | ⟨p1, p2⟩
    all_goals
      go_enter Try.func31, Try.ntmps31
      go_wp2_with fail
      refine A1.out.mono ?_; rintro e w1 ⟨rfl, hc1⟩
      have C1 := Lib.hid hc1
      clear hc1
      go_wp2_with fail
      go_ret2
      exact ⟨by rw [HR.out]; rfl, C1.out⟩
  rw [if_pos hpm] at hR
  obtain ⟨p0, p1⟩ := hpm
  have A2 := Lib.hid (fun w h => values_any a len cap l lo hi w h (by have := hok.1; omega))
  obtain ⟨L, hL⟩ : ∃ L, L = insideS l lo hi := ⟨_, rfl⟩
  rw [← hL] at A2 hR hin
  by_cases hz : L = []
  · rw [if_pos hz] at hR
    have HR := Lib.hid hR
    subst hz
    clear A10 hE hR h hm hok hin hL
    go_enter Try.func31, Try.ntmps31
    go_wp2_with fail
    refine A1.out.mono ?_; rintro e w1 ⟨rfl, hc1⟩
    have C1 := Lib.hid hc1
    clear hc1
    go_wp2_with fail
    refine (A2.out _ (H.out.kept C1.out)).mono ?_; rintro e w2 ⟨v, rfl, hr2, hc2⟩
    obtain ⟨av, cv, hv⟩ := RowOf.shape hr2
    subst hv
    have C2 := Lib.hid (C1.out.thenSame hc2)
    clear hc2 hr2
    simp only [List.length_nil]
    go_wp2_with fail
    go_ret2
    exact ⟨by rw [HR.out]; rfl, C2.out⟩
  · rw [if_neg hz] at hR
    have hn : 0 < L.length := List.length_pos_iff.2 hz
    obtain ⟨k0, k1, m0, m1⟩ := rank_in p0 p1 hn hin.2
    have hk : ((pm * (L.length : Int) + 999) / 1000) = rankS pm L.length := rfl
    obtain ⟨j, hj⟩ : ∃ j : Nat, rankS pm L.length = (j : Int) + 1 := ⟨(rankS pm L.length - 1).toNat, by omega⟩
    have hjl : j < L.length := by omega
    have hwr : IntKind.i64.wrap (pm * (L.length : Int)) = pm * (L.length : Int) := IntWalk.i64_in _ (by omega)
    obtain ⟨K, hK⟩ : ∃ K : Int, K = (j : Int) + 1 := ⟨_, rfl⟩
    have Hq := Lib.hid (show (pm * (L.length : Int) + 999) / 1000 = K by rw [hk, hj, hK])
    have hjt : (rankS pm L.length - 1).toNat = j := by omega
    rw [hjt] at hR
    have hms : (L.mergeSort leI).length = L.length := by simp
    have hgd : (L.mergeSort leI).getD j 0 = (L.mergeSort leI)[j]'(by omega) := by rw [List.getD_eq_getElem?_getD, List.getElem?_eq_getElem (by omega)]; rfl
    have HR := Lib.hid (show ∀ x, lessN L x < j + 1 → j + 1 ≤ lessN L x + sameN L x → R = (x, 0) by
      intro x h1 h2
      rw [hR, hgd, kth_eq (by omega) h1 h2])
    have HF := Lib.hid (show ∃ i, ∃ h : i < L.length, lessN L L[i] < j + 1 ∧ j + 1 ≤ lessN L L[i] + sameN L L[i] by
      have h1 := kth_fits (L := L) (j := j) (by omega)
      obtain ⟨i, hi, he⟩ := List.mem_iff_getElem.1 ((sortI_perm L).mem_iff.1 (List.getElem_mem (l := L.mergeSort leI) (n := j) (by omega)))
      exact ⟨i, hi, by rw [he]; exact h1⟩)
    have hLn : L.length ≤ 256 := hin.2
    have hnb : ((L.length : Int) == 0) = false := beq_eq_false_iff_ne.2 (by omega)
    have HK := Lib.hid hK
    have hK1 : K ≤ 256 := by omega
    have hK0 : 1 ≤ K := by omega
    clear A10 hE hR h hm hok hin hL hz k0 k1 hk hj hjt hms hgd hK
    go_enter Try.func31, Try.ntmps31
    go_wp2_with fail
    refine A1.out.mono ?_; rintro e w1 ⟨rfl, hc1⟩
    have C1 := Lib.hid hc1
    clear hc1
    go_wp2_with fail
    refine (A2.out _ (H.out.kept C1.out)).mono ?_; rintro e w2 ⟨v, rfl, hr2, hc2⟩
    have C2 := Lib.hid (C1.out.thenSame hc2)
    rcases RowOf.at hr2 iLen with ⟨_, h2⟩ | ⟨g, cp, hv, -, -, hcl, -, -, hgw⟩
    · exfalso; rw [h2] at hn; simp at hn
    subst hv
    have Hcell : Hid (∀ wr, Chg [] w2 wr → ∀ k (hk : k < L.length), wr.cell? ⟨g, k, none⟩ = some (.int .i64 L[k])) := by
      intro wr hc k hk
      have := hcl k hk 0 (by omega)
      simp only [ic, List.getElem?_cons_zero, Nat.add_zero, Nat.mul_one] at this
      rw [← this]
      exact World.cell?_of_block (w := w2) (hc.block g hgw (by simp))
    clear hc2 hr2 hcl
    go_wp2_with fail
    rw [Hq.out]
    clear hwr m0 m1
    go_loopw [13] (fun i wr => ∃ k : Nat, i = .int .i64 k ∧ k ≤ L.length ∧ Hid (∀ i (h : i < L.length), i < k → ¬ (lessN L L[i] < j + 1 ∧ j + 1 ≤ lessN L L[i] + sameN L L[i])) ∧ Chg [] w2 wr) (fun i _ => L.length - (intOf i).toNat)
    case atStart => exact ⟨0, rfl, Nat.zero_le _, Lib.hid (fun i _ h => absurd h (Nat.not_lt_zero i)), Chg.refl _ _⟩
    case round =>
      obtain ⟨k, rfl, hkl, hN, hch⟩ := hrel
      have HC := Lib.hid hch
      clear hch
      by_cases hlt : k < L.length
      · obtain ⟨x, hx⟩ : ∃ x, x = L[k] := ⟨_, rfl⟩
        have Hx := Lib.hid hx
        have hk0 : (0 : Int) ≤ (k : Int) := by omega
        have hk1 : (k : Int) < (L.length : Int) := by omega
        obtain ⟨wo, rfl⟩ : ∃ wo : World, wo = wr := ⟨_, rfl⟩
        clear hx
        go_wp2_with fail
        go_loopw [14, 15, 16] (fun ls sm i wr => ∃ m : Nat, i = .int .i64 m ∧ m ≤ L.length ∧ ls = .int .i64 (lessN (L.take m) x : Nat) ∧ sm = .int .i64 (sameN (L.take m) x : Nat) ∧ Chg [] w2 wr) (fun _ _ i _ => L.length - (intOf i).toNat)
        case atStart => exact ⟨0, rfl, Nat.zero_le _, by simp [lessN], by simp [sameN], HC.out⟩
        case round =>
          obtain ⟨m, rfl, hml, rfl, rfl, hch⟩ := hrel
          have HC2 := Lib.hid hch
          clear hch
          by_cases hmt : m < L.length
          · have s1 := less_step L x m hmt
            have s2 := same_step L x m hmt
            have c1 := Hcell.out wr HC2.out m hmt
            have c2 := Hcell.out wr HC2.out k hlt
            rw [← Hx.out] at c2
            obtain ⟨y, hy⟩ : ∃ y, y = L[m] := ⟨_, rfl⟩
            rw [← hy] at c1 s1 s2
            have b1 := less_le (L.take m) x
            have b2 := same_le (L.take m) x
            rw [List.length_take] at b1 b2
            have b1' : ((lessN (L.take m) x : Nat) : Int) ≤ 256 := by omega
            have b2' : ((sameN (L.take m) x : Nat) : Int) ≤ 256 := by omega
            have b3 : (0 : Int) ≤ ((lessN (L.take m) x : Nat) : Int) := by omega
            have b4 : (0 : Int) ≤ ((sameN (L.take m) x : Nat) : Int) := by omega
            generalize lessN (L.take m) x = p at *
            generalize sameN (L.take m) x = q at *
            have hm0 : (0 : Int) ≤ (m : Int) := by omega
            have hm1 : (m : Int) < (L.length : Int) := by omega
            have S1 := Lib.hid s1
            have S2 := Lib.hid s2
            clear s1 s2 b1 b2 hy
            have hcs : (y < x ∧ (y == x) = false) ∨ (y = x) ∨ (decide (y < x) = false ∧ (y == x) = false ∧ ¬ y < x ∧ ¬ y = x) := by
              rcases Int.lt_trichotomy y x with h | h | h
              · exact .inl ⟨h, beq_eq_false_iff_ne.2 (by omega)⟩
              · exact .inr (.inl h)
              · exact .inr (.inr ⟨by simp; omega, beq_eq_false_iff_ne.2 (by omega), by omega, by omega⟩)
            rcases hcs with ⟨d1, d2⟩ | rfl | ⟨d1, d2, d3, d4⟩
            · have T1 : Hid (lessN (L.take (m + 1)) x = p + 1) := by rw [S1.out, if_pos d1]; rfl
              have T2 : Hid (sameN (L.take (m + 1)) x = q) := by rw [S2.out, if_neg (by omega)]; rfl
              go_wp2_with fail
              go_quiet (fail)
              go_wp2_with fail
              go_quiet (fail)
              go_wp2_with fail
              refine ⟨⟨m + 1, by go_num, by omega, by rw [T1.out]; go_num, by rw [T2.out], HC2.out.drewN _⟩, by simp [intOf]; omega⟩
            · have T1 : Hid (lessN (L.take (m + 1)) y = p) := by rw [S1.out, if_neg (by omega)]; rfl
              have T2 : Hid (sameN (L.take (m + 1)) y = q + 1) := by rw [S2.out, if_pos rfl]; rfl
              go_wp2_with fail
              go_quiet (fail)
              go_wp2_with fail
              go_quiet (fail)
              go_wp2_with fail
              refine ⟨⟨m + 1, by go_num, by omega, by rw [T1.out], by rw [T2.out]; go_num, HC2.out.drewN _⟩, by simp [intOf]; omega⟩
            · have T1 : Hid (lessN (L.take (m + 1)) x = p) := by rw [S1.out, if_neg d3]; rfl
              have T2 : Hid (sameN (L.take (m + 1)) x = q) := by rw [S2.out, if_neg d4]; rfl
              clear d3 d4
              go_wp2_with fail
              go_quiet (fail)
              go_wp2_with fail
              go_quiet (fail)
              go_wp2_with fail
              refine ⟨⟨m + 1, by go_num, by omega, by rw [T1.out], by rw [T2.out], HC2.out.drewN _⟩, by simp [intOf]; omega⟩
          · have ht : L.take m = L := List.take_of_length_le (by omega)
            rw [ht]
            have b1 := less_le L x
            have b2 := same_le L x
            have HR2 := Lib.hid (HR.out x)
            have HN2 := Lib.hid (show ¬ (lessN L x < j + 1 ∧ j + 1 ≤ lessN L x + sameN L x) → ∀ i (h : i < L.length), i < k + 1 → ¬ (lessN L L[i] < j + 1 ∧ j + 1 ≤ lessN L L[i] + sameN L L[i]) by
              intro hno i hi hik
              by_cases e : i = k
              · subst e; rw [← Hx.out]; exact hno
              · exact hN.out i hi (by omega))
            obtain ⟨p, hp⟩ : ∃ p : Int, p = (lessN L x : Nat) := ⟨_, rfl⟩
            obtain ⟨q, hq⟩ : ∃ q : Int, q = (sameN L x : Nat) := ⟨_, rfl⟩
            rw [← hp, ← hq]
            have c2 := Hcell.out wr HC2.out k hlt
            rw [← Hx.out] at c2
            have hcs : (p < K ∧ K ≤ p + q ∧ Hid (R = (x, 0))) ∨ (K ≤ p ∧ Hid (¬ (lessN L x < j + 1 ∧ j + 1 ≤ lessN L x + sameN L x))) ∨ (p < K ∧ p + q < K ∧ Hid (¬ (lessN L x < j + 1 ∧ j + 1 ≤ lessN L x + sameN L x))) := by
              have hK := HK.out
              by_cases h1 : p < K
              · by_cases h2 : K ≤ p + q
                · exact .inl ⟨h1, h2, Lib.hid (HR2.out (by omega) (by omega))⟩
                · exact .inr (.inr ⟨h1, by omega, Lib.hid (by omega)⟩)
              · exact .inr (.inl ⟨by omega, Lib.hid (by omega)⟩)
            have q0 : 0 ≤ p := by omega
            have q1 : p ≤ 256 := by omega
            have q2 : 0 ≤ q := by omega
            have q3 : q ≤ 256 := by omega
            clear hp hq b1 b2 ht
            rcases hcs with ⟨d1, d2, d3⟩ | ⟨d1, d3⟩ | ⟨d1, d2, d3⟩
            · go_wp2_with fail
              go_ret2
              exact ⟨by rw [d3.out]; rfl, C2.out.thenSame HC2.out⟩
            · go_wp2_with fail
              exact ⟨⟨k + 1, by go_num, by omega, Lib.hid (HN2.out d3.out), HC2.out⟩, by simp [intOf]; omega⟩
            · go_wp2_with fail
              exact ⟨⟨k + 1, by go_num, by omega, Lib.hid (HN2.out d3.out), HC2.out⟩, by simp [intOf]; omega⟩
      · exfalso
        obtain ⟨i, hi, h1⟩ := HF.out
        exact hN.out i hi (by omega) h1
end Go.Proofs.Ytmmhcacpehpjdaa
