/- Chapter 22: contracts: contains, awake. No condition. -/
import Derived.Test.YtldilefhmpipkaaSecG
namespace Go.Proofs.Ytldilefhmpipkaa
set_option linter.unusedVariables false
set_option linter.unusedSimpArgs false
open Go.RowKit

abbrev bk : ByteArray := ⟨#[107]⟩
abbrev bf : ByteArray := ⟨#[102]⟩
abbrev bg : ByteArray := ⟨#[103]⟩
abbrev babc : ByteArray := ⟨#[97, 98, 99]⟩
abbrev bxy : ByteArray := ⟨#[120, 121]⟩
abbrev bin : ByteArray := ⟨#[49, 97, 98, 99, 120, 121, 97, 98]⟩
abbrev bout : ByteArray := ⟨#[49, 42, 42, 42, 42, 42, 42, 97, 98]⟩
def aw1 : List S0 := [⟨bk, babc, em, 1, 0, 0, []⟩]
def aw2 : List S0 := [⟨bk, babc, em, 1, 0, 0, [bf]⟩]
def aw3 : List S0 := [⟨bk, bxy, babc, 2, 15, 10, [bf]⟩]
theorem ax1 : putE [] bk babc = 0 := by kernel_rfl
theorem ax2 : putS [] bk babc = aw1 := by kernel_rfl
theorem ax3 : bindE aw1 bk bf = 0 := by kernel_rfl
theorem ax4 : bindS aw1 bk bf = aw2 := by kernel_rfl
theorem ax5 : readS aw2 bk bf = (babc, 1, 0) := by kernel_rfl
theorem ax6 : readS aw2 bk bg = (em, 0, 12) := by kernel_rfl
theorem ax7 : rotE aw2 bk bxy 5 10 = (2, 0) := by kernel_rfl
theorem ax8 : rotS aw2 bk bxy 5 10 = aw3 := by kernel_rfl
theorem ax9 : accB aw3 bk babc 15 = true := by kernel_rfl
theorem ax10 : accB aw3 bk babc 16 = false := by kernel_rfl
theorem ax11 : redS aw3 bin = bout := by
  unfold redS
  rw [redF_eq _ 8 (byt bin) (by decide)]
  kernel_rfl
theorem aw1_ok : SOk aw1 := by rw [← ax2]; exact SOk.nil.put _ _
theorem aw2_ok : SOk aw2 := by rw [← ax4]; exact aw1_ok.bind _ _
theorem aw3_ok : SOk aw3 := by rw [← ax8]; exact aw2_ok.rot _ _ _ _

set_option maxHeartbeats 8000000 in
set_option maxRecDepth 100000 in
theorem awake_any (w : World) : Calls Try.prog 10 #[] w fun e w' => e = .returned (.bool true) ∧ Chg [] w w' := by
  go_enter Try.func10, Try.ntmps10
  go_wp2_with fail
  refine (new_any w).mono ?_; rintro e w1 ⟨vb, mb, rfl, hv, hvb, hmb, hc1⟩
  have A1 := put_any vb mb [] bk babc w1 hv (by decide) (by decide) (by simp)
  rw [show ([] : List Sec).map Sec.s = [] from rfl, ax1, ax2] at A1
  have A1 := Lib.hid A1
  have hB : ∀ b ∈ fp vb mb [], w.heap.size ≤ b := by simp [fp, blks]; omega
  have P1 := Lib.hid (fun e w' (h : VPost w1 vb mb [] (.int .i64 0) aw1 e w') => Own.post (W := w) h hB hc1)
  rename_i A10
  clear hv hvb hmb hc1 hB A10
  go_wp2_with fail
  refine A1.out.mono ?_; rintro e w2 hp
  obtain ⟨rfl, ⟨mb2, l2, e2, V2, B2⟩, hc2⟩ := P1.out _ _ hp
  have A2 := bind_any vb mb2 l2 bk bf w2 V2 (by decide) ((show SOk (l2.map Sec.s) by rw [e2]; exact aw1_ok).secs.2.1)
  rw [e2, ax3, ax4] at A2
  have A2 := Lib.hid A2
  have P2 := Lib.hid (fun e w' (h : VPost w2 vb mb2 l2 (.int .i64 0) aw2 e w') => Own.post (W := w) h B2 hc2)
  rename_i A20
  clear hp V2 B2 hc2 e2 A20
  go_wp2_with fail
  refine A2.out.mono ?_; rintro e w3 hp
  obtain ⟨rfl, ⟨mb3, l3, e3, V3, B3⟩, hc3⟩ := P2.out _ _ hp
  have A3 := fun w h => read_any vb mb3 l3 bk bf w h
  rw [e3, ax5] at A3
  have A4 := fun w h => read_any vb mb3 l3 bk bg w h
  rw [e3, ax6] at A4
  have A5 := fun w h => rot_any vb mb3 l3 bk bxy 5 10 w h (by decide) ((show SOk (l3.map Sec.s) by rw [e3]; exact aw2_ok).secs.2.2)
  rw [e3, ax7, ax8] at A5
  have A3 := Lib.hid A3
  have A4 := Lib.hid A4
  have A5 := Lib.hid A5
  have V3 := Lib.hid V3
  have B3 := Lib.hid B3
  have C3 := Lib.hid hc3
  rename_i A30 A40 A50 V30 B30
  clear hp hc3 e3 A30 A40 A50 V30 B30
  go_wp2_with fail
  refine (A3.out _ V3.out).mono ?_; rintro e w4 ⟨rfl, hc4⟩
  have C4 := Lib.hid (C3.out.thenSame hc4)
  have V4 := Lib.hid (V3.out.keptN hc4)
  clear hc4
  go_wp2_with fail
  refine (A4.out _ V4.out).mono ?_; rintro e w5 ⟨rfl, hc5⟩
  have C5 := Lib.hid (C4.out.thenSame hc5)
  have V5 := Lib.hid (V4.out.keptN hc5)
  clear hc5
  go_wp2_with fail
  refine (A5.out _ V5.out).mono ?_; rintro e w6 hp
  obtain ⟨rfl, ⟨mb6, l6, e6, V6, B6⟩, hc6⟩ := Own.post (W := w) hp B3.out C5.out
  have A6 := acc_any vb mb6 l6 bk babc 15 w6 V6
  rw [e6, ax9] at A6
  have A7 := acc_any vb mb6 l6 bk babc 16 w6 V6
  rw [e6, ax10] at A7
  have A8 := redact_any vb mb6 l6 bin w6 V6 (by decide)
  rw [e6, ax11] at A8
  have A6 := Lib.hid A6
  have A7 := Lib.hid A7
  have A8 := Lib.hid A8
  have C6 := Lib.hid hc6
  rename_i A60 A70 A80
  clear hp hc6 e6 V6 B6 A60 A70 A80
  go_wp2_with fail
  refine A6.out.mono ?_; rintro e w7 ⟨rfl, rfl⟩
  go_wp2_with fail
  refine A7.out.mono ?_; rintro e w8 ⟨rfl, rfl⟩
  go_wp2_with fail
  refine A8.out.mono ?_; rintro e w9 ⟨rfl, hc9⟩
  have C9 := Lib.hid (C6.out.thenSame hc9)
  clear hc9
  go_wp2_with fail
  go_ret
  exact ⟨rfl, C9.out⟩

def atI (s t : ByteArray) (i : Nat) : Bool := decide (i + t.size ≤ s.size) && decide (s.extract i (i + t.size) = t)
/-- s has t somewhere. -/
def insB (s t : ByteArray) : Bool := (List.range (s.size + 1)).any (atI s t)
theorem extract_byt (s t : ByteArray) (i : Nat) (h : i + t.size ≤ s.size) : s.extract i (i + t.size) = t ↔ ∃ b, (byt s).drop i = byt t ++ b := by
  have e : byt (s.extract i (i + t.size)) = ((byt s).drop i).take t.size := by
    unfold byt
    rw [ByteArray.data_extract, Array.toList_extract, List.extract_eq_take_drop]
    congr 1; omega
  constructor
  · intro h
    rw [h] at e
    exact ⟨((byt s).drop i).drop t.size, by rw [e, List.take_append_drop]⟩
  · rintro ⟨b, hb⟩
    rw [hb, List.take_left' (by rw [byt_len])] at e
    exact bs_inj e
theorem insB_iff {s t : ByteArray} : insB s t = true ↔ inside (byt t) (byt s) := by
  unfold insB
  rw [List.any_eq_true]
  constructor
  · rintro ⟨i, hi, ha⟩
    unfold atI at ha
    simp only [Bool.and_eq_true, decide_eq_true_eq] at ha
    obtain ⟨b, hb⟩ := (extract_byt s t i ha.1).1 ha.2
    exact inside_drop i ⟨[], b, by simpa using hb⟩
  · rintro ⟨a, b, h⟩
    have hl := congrArg List.length h
    simp only [List.length_append, byt_len] at hl
    refine ⟨a.length, by simp; omega, ?_⟩
    unfold atI
    simp only [Bool.and_eq_true, decide_eq_true_eq]
    refine ⟨by omega, (extract_byt s t _ (by omega)).2 ⟨b, ?_⟩⟩
    rw [h, List.append_assoc, List.drop_left]

set_option maxHeartbeats 4000000 in
set_option maxRecDepth 100000 in
theorem contains_any (s t : ByteArray) (w : World) (hs : s.size ≤ 1000000) (ht : t.size ≤ 1000000) : Calls Try.prog 17 #[.string s, .string t] w fun e w' => e = .returned (.bool (insB s t)) ∧ w = w' := by
  obtain ⟨R, hR⟩ : ∃ R, R = insB s t := ⟨_, rfl⟩
  rw [← hR]
  have HR := Lib.hid hR
  clear hR
  go_enter Try.func17, Try.ntmps17
  go_wp2_with fail
  go_loop [5] (fun i => ∃ k : Nat, i = .int .i64 k ∧ k ≤ s.size + 1 ∧ Hid (∀ j, j < k → atI s t j = false)) (fun i => s.size + 1 - (intOf i).toNat)
  case atStart => exact ⟨0, rfl, Nat.zero_le _, Lib.hid (fun j h => absurd h (Nat.not_lt_zero j))⟩
  case round =>
    obtain ⟨k, rfl, hkl, Hall⟩ := hrel
    by_cases hk : k + t.size ≤ s.size
    · have hk1 : (k : Int) + (t.size : Int) ≤ (s.size : Int) := by omega
      have hk0 : (0 : Int) ≤ (k : Int) := by omega
      by_cases he : s.extract k (k + t.size) = t
      · have E : Hid (R = true) := Lib.hid (by
          rw [HR.out]; unfold insB
          rw [List.any_eq_true]
          exact ⟨k, by simp; omega, by unfold atI; simp [hk, he]⟩)
        go_wp2_with fail
        go_ret
        exact ⟨by rw [E.out]; rfl, rfl⟩
      · have E := Lib.hid (show ∀ j, j < k + 1 → atI s t j = false by
          intro j hj
          by_cases e : j = k
          · subst e; unfold atI; simp [he]
          · exact Hall.out j (by omega))
        have hb := bne_bytes he
        go_wp2_with fail
        exact ⟨⟨k + 1, by go_num, by omega, E⟩, by simp [intOf]; omega⟩
    · have E : Hid (R = false) := Lib.hid (by
        rw [HR.out]; unfold insB
        rw [List.any_eq_false]
        intro j _
        by_cases e : j < k
        · rw [Hall.out j e]; simp
        · unfold atI
          have : decide (j + t.size ≤ s.size) = false := by simp; omega
          simp [this])
      have hk1 : (s.size : Int) < (k : Int) + (t.size : Int) := by omega
      go_wp2_with fail
      go_ret
      exact ⟨by rw [E.out]; rfl, rfl⟩
end Go.Proofs.Ytldilefhmpipkaa
