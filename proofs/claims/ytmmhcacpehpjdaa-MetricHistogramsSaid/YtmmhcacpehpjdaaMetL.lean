/- Chapter 18: contracts: valid, DivMod, CeilDiv of num (a quotient by 1000). No condition. -/
import Derived.Test.YtmmhcacpehpjdaaMetI
import Derived.Test.YtmmhcacpehpjdaaAlaA
namespace Go.Proofs.Ytmmhcacpehpjdaa
set_option linter.unusedVariables false
set_option linter.unusedSimpArgs false
open Go.RowKit

set_option maxHeartbeats 2000000 in
theorem nvalids_yes (a : Option Addr) (len cap : Nat) (l : List Int) (w : World) (h : SlIs ic 1 w a len l) (hm : len ≤ maxLen) (hv : ∀ x ∈ l, nvalidB x = true) : Calls Try.prog 77 #[.slice a len cap] w fun e w' => e = .returned (.bool true) ∧ w = w' := by
  have H := Lib.hid h
  have HV := Lib.hid hv
  unfold maxLen at hm
  clear h hv
  go_enter Try.func77, Try.ntmps77
  go_wp2_with fail
  go_loop [7] (fun i => ∃ k : Nat, i = .int .i64 k ∧ k ≤ len) (fun i => len - (intOf i).toNat)
  case atStart => exact ⟨0, rfl, Nat.zero_le _⟩
  case round =>
    obtain ⟨k, rfl, hkl⟩ := hrel
    by_cases hk : k < len
    · have hk2 : k < l.length := by rw [H.out.1]; exact hk
      obtain ⟨b, off, rfl, hb, hc⟩ := H.out.2 k hk2
      obtain ⟨x, hx⟩ : ∃ x, x = l[k] := ⟨_, rfl⟩
      rw [← hx] at hc
      have c0 := hc 0 (by omega)
      simp only [ic, List.getElem?_cons_zero, Nat.add_zero, Nat.mul_one] at c0
      have A := nvalid_any x w
      rw [HV.out x (by rw [hx]; exact List.getElem_mem _)] at A
      have A := Lib.hid A
      rename_i A0
      have hk0 : (0 : Int) ≤ (k : Int) := by omega
      have hk1 : (k : Int) < (len : Int) := by omega
      clear hc hx A0
      go_wp2_with fail
      refine A.out.mono ?_; rintro e w1 ⟨rfl, rfl⟩
      go_wp2_with fail
      exact ⟨⟨k + 1, by go_num, by omega⟩, by simp [intOf]; omega⟩
    · go_wp2_with fail
      go_ret
      exact ⟨rfl, rfl⟩

set_option maxHeartbeats 2000000 in
theorem divmod_any (a : Int) (w : World) (h0 : 0 ≤ a) (h1 : a ≤ 1000000000) : Calls Try.prog 64 #[.int .i64 a, .int .i64 1000] w fun e w' => e = .returned (.tuple #[.int .i64 (a / 1000), .int .i64 (a % 1000), .int .i64 0]) ∧ Chg [] w w' := by
  have hb := heap_alloc_new w (.cells #[.int .i64 a, .int .i64 1000] 3)
  have A := Lib.hid (nvalids_yes (some ⟨w.heap.size, 0, none⟩) 2 2 [a, 1000] _ (SlIs.ofBlock (cf := ic) [a, 1000] hb iLen rfl) (by decide) (by intro x hx; simp at hx; rcases hx with rfl | rfl <;> simp [nvalidB] <;> omega))
  have q0 : 0 ≤ a / 1000 := by omega
  have q1 : a / 1000 ≤ 1000000000 := by omega
  have r0 : 0 ≤ a % 1000 := by omega
  have r1 : a % 1000 < 1000 := by omega
  clear hb
  by_cases hz : a % 1000 = 0
  · have Hz := Lib.hid hz
    have hzb : (a % 1000 == 0) = true := by simpa using hz
    clear hz
    go_enter Try.func64, Try.ntmps64
    go_wp2_with fail
    refine A.out.mono ?_; rintro e w1 ⟨rfl, rfl⟩
    go_wp2_with fail
    go_quiet (fail)
    go_wp2_with fail
    go_ret3
    exact ⟨by rw [Hz.out]; rfl, ((Chg.refl [] w).alloc _).drewN _⟩
  · have hzb : (a % 1000 == 0) = false := by simpa using hz
    have hzc : (a % 1000 != 0) = true := by simpa using hz
    clear hz
    go_enter Try.func64, Try.ntmps64
    go_wp2_with fail
    refine A.out.mono ?_; rintro e w1 ⟨rfl, rfl⟩
    go_wp2_with fail
    go_quiet (fail)
    go_wp2_with fail
    go_ret3
    exact ⟨rfl, ((Chg.refl [] w).alloc _).drewN _⟩

set_option maxHeartbeats 2000000 in
theorem ceildiv_any (a : Int) (w : World) (h0 : 0 ≤ a) (h1 : a ≤ 1000000000) : Calls Try.prog 53 #[.int .i64 a, .int .i64 1000] w fun e w' => e = .returned (.tuple #[.int .i64 ((a + 999) / 1000), .int .i64 0]) ∧ Chg [] w w' := by
  have A := Lib.hid (divmod_any a w h0 h1)
  have q0 : 0 ≤ a / 1000 := by omega
  have q1 : a / 1000 ≤ 1000000000 := by omega
  by_cases hz : a % 1000 = 0
  · have Hr := Lib.hid (show (a + 999) / 1000 = a / 1000 by omega)
    rw [hz] at A
    clear hz
    go_enter Try.func53, Try.ntmps53
    go_wp2_with fail
    refine A.out.mono ?_; rintro e w1 ⟨rfl, hc1⟩
    have C1 := Lib.hid hc1
    clear hc1
    go_wp2_with fail
    go_ret2
    exact ⟨by rw [Hr.out]; rfl, C1.out⟩
  · have Hr := Lib.hid (show (a + 999) / 1000 = a / 1000 + 1 by omega)
    obtain ⟨r, hr⟩ : ∃ r, r = a % 1000 := ⟨_, rfl⟩
    rw [← hr] at A hz
    have hzb : (r == 0) = false := by simpa using hz
    clear hz hr
    go_enter Try.func53, Try.ntmps53
    go_wp2_with fail
    refine A.out.mono ?_; rintro e w1 ⟨rfl, hc1⟩
    have C1 := Lib.hid hc1
    clear hc1
    go_wp2_with fail
    go_ret2
    exact ⟨by rw [Hr.out]; rfl, C1.out⟩
end Go.Proofs.Ytmmhcacpehpjdaa
