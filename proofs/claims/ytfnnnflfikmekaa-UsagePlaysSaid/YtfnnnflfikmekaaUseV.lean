/- Chapter 52: play. No condition. -/
import Derived.Test.YtfnnnflfikmekaaUseT
import Derived.Test.YtfnnnflfikmekaaUseU
namespace Go.Proofs.Ytfnnnflfikmekaa
set_option linter.unusedVariables false
set_option linter.unusedSimpArgs false
open Go.RowKit
variable {W w : World} {b : Nat} {s : Led} {K : List Nat → World → Prop}
theorem p_byf (sK : Side K) (h : Pair W w (JL b s) K) (tn fn : ByteArray) (p : Int) (hs : tn.size ≤ maxLen) (hs' : fn.size ≤ maxLen) (hl : s.l.length ≤ 4000) :
    Calls Try.prog 25 #[.pointer (some ⟨b, 0, none⟩), .string tn, .string fn, .int .i64 p] w fun e w' => e = .returned (.tuple #[usV (byU s tn fn p).1, usV (byU s tn fn p).2.1, .int .i64 (byU s tn fn p).2.2]) ∧ Chg [] w w' ∧ Pair W w' (JL b s) K := by
  obtain ⟨mb, v, h1⟩ := h.led
  refine (byf_any tn fn p h1 hs hs' hl).mono ?_
  rintro e w' ⟨rfl, hc⟩
  exact ⟨rfl, hc, h.keptN (sideL b s) sK hc⟩
theorem foldl_take {α β : Type} (f : β → α → β) (s : β) (l : List α) (k : Nat) (h : k < l.length) : (l.take (k + 1)).foldl f s = f ((l.take k).foldl f s) l[k] := by
  rw [List.take_succ_eq_append_getElem h, List.foldl_append]
  rfl
set_option maxHeartbeats 8000000 in
set_option maxRecDepth 100000 in
theorem p_play (sK : Side K) (h : Pair W w (JL b s) K) (a : Option Addr) (cap : Nat) (l : List OpU) (sl : SlIs opC 11 W a l.length l) (hg : ∀ x ∈ l, x.good) (hl : s.l.length + l.length ≤ 4000) :
    Calls Try.prog 12 #[.pointer (some ⟨b, 0, none⟩), .slice a l.length cap] w fun e w' => e = .returned (.tuple #[]) ∧ Pair W w' (JL b (l.foldl stepU s)) K := by
  have H := Lib.hid h
  have SL := Lib.hid sl
  have HG := Lib.hid hg
  clear h sl hg
  go_enter Try.func12, Try.ntmps12
  go_wp2_with fail
  go_loopw [7] (fun i wr => ∃ (k : Nat) (s' : Led), i = .int .i64 k ∧ k ≤ l.length ∧ Hid (s' = (l.take k).foldl stepU s) ∧ Hid (s'.l.length ≤ s.l.length + k) ∧ Hid (Pair W wr (JL b s') K)) (fun i _ => l.length - (intOf i).toNat)
  case atStart => exact ⟨0, s, rfl, Nat.zero_le _, Lib.hid rfl, Lib.hid (Nat.le_refl _), H⟩
  case round =>
    obtain ⟨k, s', rfl, hkl, HS, HN, HP⟩ := hrel
    by_cases hk : k < l.length
    · obtain ⟨g1, o1, rfl, -, hbr1, hcc⟩ := SL.out.elem HP.out.chg k hk
      have hgx := HG.out l[k] (List.getElem_mem hk)
      have hst := foldl_take stepU s l k hk
      generalize l[k] = x at *
      rw [← HS.out] at hst
      obtain ⟨kd, r, p⟩ := x
      have d0 := hcc 0 (by omega)
      have d1 := hcc 1 (by omega)
      have d2 := hcc 2 (by omega)
      have d3 := hcc 3 (by omega)
      have d4 := hcc 4 (by omega)
      have d5 := hcc 5 (by omega)
      have d6 := hcc 6 (by omega)
      have d7 := hcc 7 (by omega)
      have d8 := hcc 8 (by omega)
      have d9 := hcc 9 (by omega)
      have d10 := hcc 10 (by omega)
      simp only [opC, List.getElem?_cons_zero, List.getElem?_cons_succ, Nat.add_zero] at d0 d1 d2 d3 d4 d5 d6 d7 d8 d9 d10
      have e2 : o1 + k * 11 + 2 = o1 + k * 11 + 1 + 1 := by omega
      have hk0 : (0 : Int) ≤ (k : Int) := by omega
      have hk1 : (k : Int) < (l.length : Int) := by omega
      have A1 := p_rec sK HP.out r hgx.2.1 (by have := HN.out; omega)
      unfold urV at A1
      have HA1 := Lib.hid A1
      have HA2 := Lib.hid (p_close sK HP.out p)
      have HL1 := Lib.hid (recS_len s' r)
      have HL2 := Lib.hid (stepU_len s' ⟨kd, r, p⟩)
      unfold stepU at hst
      simp only at hst
      clear hcc hgx A1
      by_cases q0 : kd = 0
      · subst q0
        rw [if_pos rfl] at hst
        have HT := Lib.hid hst
        clear hst
        go_wp2_with fail
        refine HA1.out.mono ?_; rintro e w2 ⟨rfl, hp2⟩
        have HP2 := Lib.hid hp2
        clear hp2
        go_wp2_with fail
        exact ⟨⟨k + 1, _, by go_num, by omega, Lib.hid HT.out.symm, Lib.hid (by have := HL1.out; have := HN.out; omega), HP2⟩, by simp [intOf]; omega⟩
      · rw [if_neg q0] at hst
        by_cases q1 : kd = 1
        · subst q1
          rw [if_pos rfl] at hst
          have HT := Lib.hid hst
          clear hst
          go_wp2_with fail
          refine HA2.out.mono ?_; rintro e w2 ⟨rfl, hp2⟩
          have HP2 := Lib.hid hp2
          clear hp2
          go_wp2_with fail
          exact ⟨⟨k + 1, _, by go_num, by omega, Lib.hid HT.out.symm, Lib.hid (by have := HL2.out; have := HN.out; unfold stepU at *; simp at *; omega), HP2⟩, by simp [intOf]; omega⟩
        · rw [if_neg q1] at hst
          have HT := Lib.hid hst
          have b0 : (kd == 0) = false := by simpa using q0
          have b1 : (kd == 1) = false := by simpa using q1
          clear hst
          go_wp2_with fail
          exact ⟨⟨k + 1, s', by go_num, by omega, Lib.hid HT.out.symm, Lib.hid (by have := HN.out; omega), HP⟩, by simp [intOf]; omega⟩
    · have hks : k = l.length := by omega
      subst hks
      have hS := HS.out
      rw [List.take_length] at hS
      subst hS
      go_wp2_with fail
      go_end0
      exact ⟨rfl, HP.out⟩
end Go.Proofs.Ytfnnnflfikmekaa
