/- Chapter 22: SecretTexts: secrets are removed from a text as defined. No condition. -/
import Derived.Test.YtldilefhmpipkaaSedG
namespace Go.Proofs.Ytldilefhmpipkaa
set_option linter.unusedVariables false
set_option linter.unusedSimpArgs false
open Go.RowKit


set_option maxHeartbeats 8000000 in
set_option maxRecDepth 100000 in
theorem texts_walk (a0 : Option Addr) (len0 cap0 : Nat) (l : List OpD) (s : ByteArray) (w : World) (h0 : SlIs oCells 6 w a0 len0 l ∧ (∀ x ∈ l, x.good) ∧ len0 ≤ maxLen ∧ len0 ≤ cap0) (h1 : s.size ≤ maxLen) :
    Calls Try.prog 3 #[.slice a0 len0 cap0, .string s] w fun e w' => e = .returned (.bool true) ∧ Below w.heap.size w w' := by
  obtain ⟨s0, g0, m0, _⟩ := h0
  have hA1 := smallF_any a0 len0 cap0 l w s0 g0 m0
  have S0' := Lib.hid s0
  unfold maxLen at h1
  cases b1 : smallL l
  · rw [b1] at hA1
    have A1 := Lib.hid hA1
    clear b1 hA1 g0 m0 s0
    go_enter Try.func3, Try.ntmps3
    go_wp2_with fail
    refine A1.out.mono ?_; rintro e w1 ⟨rfl, rfl⟩
    go_wp2_with fail
    refine (awake_any _).mono ?_; rintro e w9 ⟨rfl, hc9⟩
    have C9 := Lib.hid hc9
    clear hc9
    go_wp2_with fail
    go_ret
    exact ⟨rfl, C9.out.toBelow (Nat.le_refl _) (by simp)⟩
  rw [b1] at hA1
  have A1 := Lib.hid hA1
  by_cases hss : 2000 < (s.size : Int)
  · clear b1 hA1 g0 m0 s0
    go_enter Try.func3, Try.ntmps3
    go_wp2_with fail
    refine A1.out.mono ?_; rintro e w1 ⟨rfl, rfl⟩
    go_wp2_with fail
    refine (awake_any _).mono ?_; rintro e w9 ⟨rfl, hc9⟩
    have C9 := Lib.hid hc9
    clear hc9
    go_wp2_with fail
    go_ret
    exact ⟨rfl, C9.out.toBelow (Nat.le_refl _) (by simp)⟩
  have A3 := Lib.hid (oplayed (W := w) s0 g0 m0 (Chg.refl _ _) (cap := cap0))
  have hlen : (len0 : Int) ≤ 9223372036854775807 := by unfold maxLen at m0; omega
  have Hl := Lib.hid s0.1
  have Hg := Lib.hid g0
  have hs2 : s.size ≤ 4096 := by omega
  have Hsim := Lib.hid (fun k => sim_play (l.take k))
  have Hred := Lib.hid (show rredS (rplayS l) s = redS (playS l) s from (sim_play l).red s)
  have Hs := Lib.hid (sim_play l)
  generalize hL : playS l = L at *
  clear hL b1 hA1 g0 m0 s0
  go_enter Try.func3, Try.ntmps3
  go_wp2_with fail
  refine A1.out.mono ?_; rintro e w1 ⟨rfl, rfl⟩
  go_wp2_with fail
  refine A3.out.mono ?_; rintro e w2 ⟨vb, rfl, ho2⟩
  have O2 := Lib.hid ho2
  clear ho2
  go_wp2_with fail
  refine (two_start O2.out).mono ?_; rintro e w3 ⟨rb, rfl, ht3⟩
  have T3 := Lib.hid ht3
  clear ht3
  go_wp2_with fail
  go_loopw [24] (fun i wr => ∃ k : Nat, i = .int .i64 k ∧ k ≤ len0 ∧ Two w wr vb L rb (rplayS (l.take k))) (fun i _ => len0 - (intOf i).toNat)
  case atStart => exact ⟨0, rfl, Nat.zero_le _, T3.out⟩
  case round =>
    obtain ⟨k, rfl, hkl, htw⟩ := hrel
    have HT := Lib.hid htw
    clear htw
    by_cases hlt : k < len0
    · have hk2 : k < l.length := by rw [Hl.out]; exact hlt
      obtain ⟨b, off, rfl, -, hbr, hcc⟩ := S0'.out.elem HT.out.chg k hk2
      have hst := rplay_step l k hk2
      obtain ⟨x, hx⟩ : ∃ x, x = l[k] := ⟨_, rfl⟩
      have hxg := Hg.out x (hx ▸ List.getElem_mem hk2)
      rw [← hx] at hcc hst
      have A := Lib.hid (two_spec HT.out ⟨_, Hsim.out k⟩ x hxg)
      rw [← hst] at A
      have d0 := hcc 0 (by omega)
      have d1 := hcc 1 (by omega)
      have d2 := hcc 2 (by omega)
      have d3 := hcc 3 (by omega)
      have d4 := hcc 4 (by omega)
      have d5 := hcc 5 (by omega)
      simp only [oCells, List.getElem?_cons_zero, List.getElem?_cons_succ, Nat.add_zero] at d0 d1 d2 d3 d4 d5
      have hk0 : (0 : Int) ≤ (k : Int) := by omega
      have hk1 : (k : Int) < (len0 : Int) := by omega
      clear hcc hx hst hxg
      go_wp2_with fail
      refine A.out.mono ?_; rintro e w4 ⟨rfl, ht4⟩
      have T4 := Lib.hid ht4
      clear ht4
      go_wp2_with fail
      exact ⟨⟨k + 1, by go_num, by omega, T4.out⟩, by simp [intOf]; omega⟩
    · have ht : l.take k = l := List.take_of_length_le (by rw [Hl.out]; omega)
      rw [ht] at HT
      have A5 := Lib.hid (two_redact HT.out s hs2)
      obtain ⟨r, hr⟩ : ∃ r, r = redS L s := ⟨_, rfl⟩
      rw [← hr] at A5 Hred
      have HR := Lib.hid Hs.out
      clear ht hr
      go_wp2_with fail
      refine A5.out.mono ?_; rintro e w5 ⟨rfl, ht5⟩
      have A6 := two_rredact ht5 ⟨_, HR.out⟩ s hs2
      rw [Hred.out] at A6
      have A6 := Lib.hid A6
      rename_i A60
      clear A60 ht5
      go_wp2_with fail
      refine A6.out.mono ?_; rintro e w6 ⟨rfl, ht6⟩
      have T6 := Lib.hid ht6
      clear ht6
      go_wp2_with fail
      refine (awake_any _).mono ?_; rintro e w9 ⟨rfl, hc9⟩
      have C9 := Lib.hid hc9
      clear hc9
      go_wp2_with fail
      go_ret
      exact ⟨rfl, (T6.out.keptN C9.out).below⟩
end Go.Proofs.Ytldilefhmpipkaa
