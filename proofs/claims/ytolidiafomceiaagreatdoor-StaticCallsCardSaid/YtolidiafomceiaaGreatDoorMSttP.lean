/- Chapter 9: the reference's words: Keyword, head, digit, run. No condition. Chapter 9: the opener of a program with the form's own bound on its texts. No condition. Chapter 9: the reference's quoted. Condition: the form's own bound on a text. Chapter 9: the reference's Text of names, strings, host operations; name, str. Condition: the form's own bound on a text. -/
import Derived.Test.YtolidiafomceiaaGreatDoorStaC
import Derived.Test.YtolidiafomceiaaGreatDoorStaA
namespace Go.Proofs.YtolidiafomceiaaGreatDoor
set_option linter.unusedVariables false
set_option linter.unusedSimpArgs false
open Go.RowKit
set_option maxHeartbeats 4000000 in
set_option maxRecDepth 100000 in
theorem rkeyword_any (s : ByteArray) (w : World) : Calls Tryz.prog 117 #[.string s] w fun e w' => e = .returned (.bool (sKwB s)) ∧ w' = w := by
  by_cases h0 : s = ⟨#[102, 117, 110, 99]⟩
  · have HE := Lib.hid (show sKwB s = sKwB ⟨#[102, 117, 110, 99]⟩ by rw [h0])
    rw [HE.out]
    subst h0
    clear HE
    go_enter Tryz.func117, Tryz.ntmps117
    go_wp2_with fail
    go_ret
    exact ⟨by kernel_rfl, rfl⟩
  by_cases h1 : s = ⟨#[108, 101, 116]⟩
  · have HE := Lib.hid (show sKwB s = sKwB ⟨#[108, 101, 116]⟩ by rw [h1])
    rw [HE.out]
    subst h1
    clear HE
    go_enter Tryz.func117, Tryz.ntmps117
    go_wp2_with fail
    go_ret
    exact ⟨by kernel_rfl, rfl⟩
  by_cases h2 : s = ⟨#[105, 102]⟩
  · have HE := Lib.hid (show sKwB s = sKwB ⟨#[105, 102]⟩ by rw [h2])
    rw [HE.out]
    subst h2
    clear HE
    go_enter Tryz.func117, Tryz.ntmps117
    go_wp2_with fail
    go_ret
    exact ⟨by kernel_rfl, rfl⟩
  by_cases h3 : s = ⟨#[101, 108, 115, 101]⟩
  · have HE := Lib.hid (show sKwB s = sKwB ⟨#[101, 108, 115, 101]⟩ by rw [h3])
    rw [HE.out]
    subst h3
    clear HE
    go_enter Tryz.func117, Tryz.ntmps117
    go_wp2_with fail
    go_ret
    exact ⟨by kernel_rfl, rfl⟩
  by_cases h4 : s = ⟨#[119, 104, 105, 108, 101]⟩
  · have HE := Lib.hid (show sKwB s = sKwB ⟨#[119, 104, 105, 108, 101]⟩ by rw [h4])
    rw [HE.out]
    subst h4
    clear HE
    go_enter Tryz.func117, Tryz.ntmps117
    go_wp2_with fail
    go_ret
    exact ⟨by kernel_rfl, rfl⟩
  by_cases h5 : s = ⟨#[114, 101, 116, 117, 114, 110]⟩
  · have HE := Lib.hid (show sKwB s = sKwB ⟨#[114, 101, 116, 117, 114, 110]⟩ by rw [h5])
    rw [HE.out]
    subst h5
    clear HE
    go_enter Tryz.func117, Tryz.ntmps117
    go_wp2_with fail
    go_ret
    exact ⟨by kernel_rfl, rfl⟩
  by_cases h6 : s = ⟨#[97, 110, 100]⟩
  · have HE := Lib.hid (show sKwB s = sKwB ⟨#[97, 110, 100]⟩ by rw [h6])
    rw [HE.out]
    subst h6
    clear HE
    go_enter Tryz.func117, Tryz.ntmps117
    go_wp2_with fail
    go_ret
    exact ⟨by kernel_rfl, rfl⟩
  by_cases h7 : s = ⟨#[111, 114]⟩
  · have HE := Lib.hid (show sKwB s = sKwB ⟨#[111, 114]⟩ by rw [h7])
    rw [HE.out]
    subst h7
    clear HE
    go_enter Tryz.func117, Tryz.ntmps117
    go_wp2_with fail
    go_ret
    exact ⟨by kernel_rfl, rfl⟩
  by_cases h8 : s = ⟨#[110, 111, 116]⟩
  · have HE := Lib.hid (show sKwB s = sKwB ⟨#[110, 111, 116]⟩ by rw [h8])
    rw [HE.out]
    subst h8
    clear HE
    go_enter Tryz.func117, Tryz.ntmps117
    go_wp2_with fail
    go_ret
    exact ⟨by kernel_rfl, rfl⟩
  by_cases h9 : s = ⟨#[110, 117, 108, 108]⟩
  · have HE := Lib.hid (show sKwB s = sKwB ⟨#[110, 117, 108, 108]⟩ by rw [h9])
    rw [HE.out]
    subst h9
    clear HE
    go_enter Tryz.func117, Tryz.ntmps117
    go_wp2_with fail
    go_ret
    exact ⟨by kernel_rfl, rfl⟩
  by_cases h10 : s = ⟨#[116, 114, 117, 101]⟩
  · have HE := Lib.hid (show sKwB s = sKwB ⟨#[116, 114, 117, 101]⟩ by rw [h10])
    rw [HE.out]
    subst h10
    clear HE
    go_enter Tryz.func117, Tryz.ntmps117
    go_wp2_with fail
    go_ret
    exact ⟨by kernel_rfl, rfl⟩
  by_cases h11 : s = ⟨#[102, 97, 108, 115, 101]⟩
  · have HE := Lib.hid (show sKwB s = sKwB ⟨#[102, 97, 108, 115, 101]⟩ by rw [h11])
    rw [HE.out]
    subst h11
    clear HE
    go_enter Tryz.func117, Tryz.ntmps117
    go_wp2_with fail
    go_ret
    exact ⟨by kernel_rfl, rfl⟩
  have HE := Lib.hid (show sKwB s = false from kwB_none (by
    intro x hx
    simp only [sKwL, List.mem_cons, List.not_mem_nil, or_false] at hx
    rcases hx with rfl | rfl | rfl | rfl | rfl | rfl | rfl | rfl | rfl | rfl | rfl | rfl <;> intro e <;> simp_all))
  rw [HE.out]
  have q0 : (s.toList == [102, 117, 110, 99]) = false := (show (s.toList == [102, 117, 110, 99]) = (s.toList == (⟨#[102, 117, 110, 99]⟩ : ByteArray).toList) from by rw [show (⟨#[102, 117, 110, 99]⟩ : ByteArray).toList = [102, 117, 110, 99] from by kernel_rfl]).trans ((beq_toListBytes s ⟨#[102, 117, 110, 99]⟩).symm.trans (beq_eq_false_iff_ne.2 h0))
  have q1 : (s.toList == [108, 101, 116]) = false := (show (s.toList == [108, 101, 116]) = (s.toList == (⟨#[108, 101, 116]⟩ : ByteArray).toList) from by rw [show (⟨#[108, 101, 116]⟩ : ByteArray).toList = [108, 101, 116] from by kernel_rfl]).trans ((beq_toListBytes s ⟨#[108, 101, 116]⟩).symm.trans (beq_eq_false_iff_ne.2 h1))
  have q2 : (s.toList == [105, 102]) = false := (show (s.toList == [105, 102]) = (s.toList == (⟨#[105, 102]⟩ : ByteArray).toList) from by rw [show (⟨#[105, 102]⟩ : ByteArray).toList = [105, 102] from by kernel_rfl]).trans ((beq_toListBytes s ⟨#[105, 102]⟩).symm.trans (beq_eq_false_iff_ne.2 h2))
  have q3 : (s.toList == [101, 108, 115, 101]) = false := (show (s.toList == [101, 108, 115, 101]) = (s.toList == (⟨#[101, 108, 115, 101]⟩ : ByteArray).toList) from by rw [show (⟨#[101, 108, 115, 101]⟩ : ByteArray).toList = [101, 108, 115, 101] from by kernel_rfl]).trans ((beq_toListBytes s ⟨#[101, 108, 115, 101]⟩).symm.trans (beq_eq_false_iff_ne.2 h3))
  have q4 : (s.toList == [119, 104, 105, 108, 101]) = false := (show (s.toList == [119, 104, 105, 108, 101]) = (s.toList == (⟨#[119, 104, 105, 108, 101]⟩ : ByteArray).toList) from by rw [show (⟨#[119, 104, 105, 108, 101]⟩ : ByteArray).toList = [119, 104, 105, 108, 101] from by kernel_rfl]).trans ((beq_toListBytes s ⟨#[119, 104, 105, 108, 101]⟩).symm.trans (beq_eq_false_iff_ne.2 h4))
  have q5 : (s.toList == [114, 101, 116, 117, 114, 110]) = false := (show (s.toList == [114, 101, 116, 117, 114, 110]) = (s.toList == (⟨#[114, 101, 116, 117, 114, 110]⟩ : ByteArray).toList) from by rw [show (⟨#[114, 101, 116, 117, 114, 110]⟩ : ByteArray).toList = [114, 101, 116, 117, 114, 110] from by kernel_rfl]).trans ((beq_toListBytes s ⟨#[114, 101, 116, 117, 114, 110]⟩).symm.trans (beq_eq_false_iff_ne.2 h5))
  have q6 : (s.toList == [97, 110, 100]) = false := (show (s.toList == [97, 110, 100]) = (s.toList == (⟨#[97, 110, 100]⟩ : ByteArray).toList) from by rw [show (⟨#[97, 110, 100]⟩ : ByteArray).toList = [97, 110, 100] from by kernel_rfl]).trans ((beq_toListBytes s ⟨#[97, 110, 100]⟩).symm.trans (beq_eq_false_iff_ne.2 h6))
  have q7 : (s.toList == [111, 114]) = false := (show (s.toList == [111, 114]) = (s.toList == (⟨#[111, 114]⟩ : ByteArray).toList) from by rw [show (⟨#[111, 114]⟩ : ByteArray).toList = [111, 114] from by kernel_rfl]).trans ((beq_toListBytes s ⟨#[111, 114]⟩).symm.trans (beq_eq_false_iff_ne.2 h7))
  have q8 : (s.toList == [110, 111, 116]) = false := (show (s.toList == [110, 111, 116]) = (s.toList == (⟨#[110, 111, 116]⟩ : ByteArray).toList) from by rw [show (⟨#[110, 111, 116]⟩ : ByteArray).toList = [110, 111, 116] from by kernel_rfl]).trans ((beq_toListBytes s ⟨#[110, 111, 116]⟩).symm.trans (beq_eq_false_iff_ne.2 h8))
  have q9 : (s.toList == [110, 117, 108, 108]) = false := (show (s.toList == [110, 117, 108, 108]) = (s.toList == (⟨#[110, 117, 108, 108]⟩ : ByteArray).toList) from by rw [show (⟨#[110, 117, 108, 108]⟩ : ByteArray).toList = [110, 117, 108, 108] from by kernel_rfl]).trans ((beq_toListBytes s ⟨#[110, 117, 108, 108]⟩).symm.trans (beq_eq_false_iff_ne.2 h9))
  have q10 : (s.toList == [116, 114, 117, 101]) = false := (show (s.toList == [116, 114, 117, 101]) = (s.toList == (⟨#[116, 114, 117, 101]⟩ : ByteArray).toList) from by rw [show (⟨#[116, 114, 117, 101]⟩ : ByteArray).toList = [116, 114, 117, 101] from by kernel_rfl]).trans ((beq_toListBytes s ⟨#[116, 114, 117, 101]⟩).symm.trans (beq_eq_false_iff_ne.2 h10))
  have q11 : (s.toList == [102, 97, 108, 115, 101]) = false := (show (s.toList == [102, 97, 108, 115, 101]) = (s.toList == (⟨#[102, 97, 108, 115, 101]⟩ : ByteArray).toList) from by rw [show (⟨#[102, 97, 108, 115, 101]⟩ : ByteArray).toList = [102, 97, 108, 115, 101] from by kernel_rfl]).trans ((beq_toListBytes s ⟨#[102, 97, 108, 115, 101]⟩).symm.trans (beq_eq_false_iff_ne.2 h11))
  clear HE h0 h1 h2 h3 h4 h5 h6 h7 h8 h9 h10 h11
  go_enter Tryz.func117, Tryz.ntmps117
  go_wp2_with fail
  go_ret
  exact ⟨rfl, rfl⟩
set_option maxHeartbeats 4000000 in
set_option maxRecDepth 100000 in
theorem head_any (n : Nat) (w : World) : Calls Tryz.prog 133 #[.int .u8 (n : Int)] w fun e w' => e = .returned (.bool (sLowB n)) ∧ w' = w := by
  by_cases c1 : 97 ≤ n
  · have b1 : (97 : Int) ≤ (n : Int) := by omega
    by_cases c2 : n ≤ 122
    · have b2 : (n : Int) ≤ 122 := by omega
      have HE := Lib.hid (show sLowB n = true by unfold sLowB; rw [decide_eq_true c1, decide_eq_true c2]; rfl)
      rw [HE.out]
      clear c1 c2
      go_enter Tryz.func133, Tryz.ntmps133
      go_wp2_with fail
      go_ret
      exact ⟨rfl, rfl⟩
    · have b2 : ¬ (n : Int) ≤ 122 := by omega
      have b3 : ((n : Int) == 95) = false := beq_eq_false_iff_ne.2 (by omega)
      have HE := Lib.hid (show sLowB n = false by unfold sLowB; rw [decide_eq_false c2, beq_eq_false_iff_ne.2 (show ¬ n = 95 by omega)]; simp)
      rw [HE.out]
      clear c1 c2
      go_enter Tryz.func133, Tryz.ntmps133
      go_wp2_with fail
      go_ret
      exact ⟨rfl, rfl⟩
  · have b1 : (n : Int) < 97 := by omega
    by_cases c2 : n = 95
    · have HE := Lib.hid (show sLowB n = true by rw [c2]; rfl)
      rw [HE.out]
      have b3 : ((n : Int) == 95) = true := by rw [c2]; rfl
      clear c1 c2
      go_enter Tryz.func133, Tryz.ntmps133
      go_wp2_with fail
      go_ret
      exact ⟨rfl, rfl⟩
    · have HE := Lib.hid (show sLowB n = false by unfold sLowB; rw [decide_eq_false c1, beq_eq_false_iff_ne.2 c2]; rfl)
      rw [HE.out]
      have b3 : ((n : Int) == 95) = false := beq_eq_false_iff_ne.2 (by omega)
      clear c1 c2
      go_enter Tryz.func133, Tryz.ntmps133
      go_wp2_with fail
      go_ret
      exact ⟨rfl, rfl⟩
set_option maxHeartbeats 4000000 in
set_option maxRecDepth 100000 in
theorem digit_any (n : Nat) (w : World) : Calls Tryz.prog 134 #[.int .u8 (n : Int)] w fun e w' => e = .returned (.bool (sDigB n)) ∧ w' = w := by
  by_cases c1 : 48 ≤ n
  · have b1 : (48 : Int) ≤ (n : Int) := by omega
    by_cases c2 : n ≤ 57
    · have b2 : (n : Int) ≤ 57 := by omega
      have HE := Lib.hid (show sDigB n = true by unfold sDigB; rw [decide_eq_true c1, decide_eq_true c2]; rfl)
      rw [HE.out]
      clear c1 c2
      go_enter Tryz.func134, Tryz.ntmps134
      go_wp2_with fail
      go_ret
      exact ⟨rfl, rfl⟩
    · have b2 : ¬ (n : Int) ≤ 57 := by omega
      have HE := Lib.hid (show sDigB n = false by unfold sDigB; rw [decide_eq_false c2]; simp)
      rw [HE.out]
      clear c1 c2
      go_enter Tryz.func134, Tryz.ntmps134
      go_wp2_with fail
      go_ret
      exact ⟨rfl, rfl⟩
  · have b1 : (n : Int) < 48 := by omega
    have HE := Lib.hid (show sDigB n = false by unfold sDigB; rw [decide_eq_false c1]; rfl)
    rw [HE.out]
    clear c1
    go_enter Tryz.func134, Tryz.ntmps134
    go_wp2_with fail
    go_ret
    exact ⟨rfl, rfl⟩
def okByte (s : ByteArray) (k : Nat) : Bool := match s.data[k]? with | some c => sLowB c.toNat || (decide (0 < k) && sDigB c.toNat) | none => true
def rrunGo (s : ByteArray) : Nat → Nat → Nat
  | 0, k => k
  | f + 1, k => if okByte s k = true then rrunGo s f (k + 1) else k
theorem okByte_at {s : ByteArray} {k : Nat} (hk : k < s.size) : okByte s k = (sLowB (s[k]'hk).toNat || (decide (0 < k) && sDigB (s[k]'hk).toNat)) := by
  have : s.data[k]? = some (s[k]'hk) := by rw [Array.getElem?_eq_getElem (by simpa using hk)]; rfl
  unfold okByte
  rw [this]
theorem rrunGo_all {s : ByteArray} : ∀ (f k : Nat), sRunTo s k = true → k + f = s.size → (((rrunGo s f k : Nat) : Int) == (s.size : Int)) = sRunTo s s.size := by
  intro f
  induction f with
  | zero =>
    intro k h hk
    have : k = s.size := by omega
    subst this
    rw [rrunGo, h]
    simp
  | succ f ih =>
    intro k h hk
    have hks : k < s.size := by omega
    rw [rrunGo, okByte_at hks]
    split
    · rename_i ho
      exact ih (k + 1) (by rw [runTo_step hks, h, ho]; rfl) (by omega)
    · rename_i ho
      rw [runTo_no hks (by simpa using ho)]
      exact beq_eq_false_iff_ne.2 (by omega)
theorem rrunZ_whole (s : ByteArray) : (((rrunGo s s.size 0 : Nat) : Int) == (s.size : Int)) = sRunTo s s.size := rrunGo_all s.size 0 rfl (by omega)
set_option maxHeartbeats 4000000 in
set_option maxRecDepth 100000 in
theorem rrun_any (s : ByteArray) (w : World) (h1 : 1 ≤ s.size) (h2 : s.size ≤ 24) : Calls Tryz.prog 116 #[.string s, .int .i64 0] w fun e w' => e = .returned (.int .i64 ((rrunGo s s.size 0 : Nat) : Int)) ∧ w' = w := by
  obtain ⟨R, hR⟩ : ∃ R, R = rrunGo s s.size 0 := ⟨_, rfl⟩
  rw [← hR]
  have HR := Lib.hid hR
  clear hR
  obtain ⟨z, hz⟩ : ∃ z : Nat, z = 0 := ⟨0, rfl⟩
  have hzs : z < s.size := by omega
  rw [show (0 : Int) = (z : Int) by rw [hz]; rfl]
  have hz0 : (0 : Int) ≤ (z : Int) := by omega
  have hzs' : (z : Int) < (s.size : Int) := by omega
  have HA := Lib.hid (head_any (s[z]'hzs).toNat)
  have HZ := Lib.hid hz
  cases hb : sLowB (s[z]'hzs).toNat
  · have HE := Lib.hid (show R = z by
      have e1 : s.size = (s.size - 1) + 1 := by omega
      rw [HR.out, e1, ← hz, rrunGo, okByte_at hzs, hb, decide_eq_false (by omega)]
      rfl)
    have HA2 := Lib.hid (by have := HA.out; rw [hb] at this; exact this)
    clear hz hb HA h1
    go_enter Tryz.func116, Tryz.ntmps116
    go_wp2_with (go_at_call 133; (with_reducible refine Calls.mono (HA2.out _) ?_); rintro e w2 ⟨rfl, hw⟩; rw [hw]; clear hw)
    go_ret
    exact ⟨by rw [HE.out]; rfl, rfl⟩
  · have HA2 := Lib.hid (by have := HA.out; rw [hb] at this; exact this)
    have HB := Lib.hid hb
    clear hz hb HA h1
    have hs24 : (s.size : Int) ≤ 24 := by omega
    have hzn : decide (s.size ≤ z) = false := decide_eq_false (by omega)
    have hzn2 : ¬ s.size ≤ z := by omega
    go_enter Tryz.func116, Tryz.ntmps116
    go_wp2_with (go_at_call 133; (with_reducible refine Calls.mono (HA2.out _) ?_); rintro e w2 ⟨rfl, hw⟩; rw [hw]; clear hw)
    go_loopw [1] (fun u wr => ∃ k : Nat, u = .int .i64 k ∧ k ≤ s.size ∧ Hid (R = rrunGo s (s.size - k) k) ∧ wr = w) (fun u _ => s.size - (intOf u).toNat)
    case atStart => exact ⟨z, rfl, by omega, Lib.hid (by rw [HZ.out]; exact HR.out), rfl⟩
    case round =>
      obtain ⟨k, rfl, hk, HS, rfl⟩ := hrel
      have hk0 : (0 : Int) ≤ (k : Int) := by omega
      by_cases hks : k < s.size
      · have hks' : (k : Int) < (s.size : Int) := by omega
        have hst := HS.out
        rw [show s.size - k = (s.size - (k + 1)) + 1 by omega, rrunGo, okByte_at hks] at hst
        have HK := Lib.hid (head_any (s[k]'hks).toNat)
        have DK := Lib.hid (digit_any (s[k]'hks).toNat)
        have h0k := Lib.hid (show k = 0 → sLowB (s[k]'hks).toNat = true from fun e => by have := HB.out; have h2 := HZ.out; subst h2; subst e; exact this)
        have qk : IntKind.i64.wrap ((k : Int) + 1) = (k : Int) + 1 := IntWalk.i64_in _ (by omega)
        cases hb : sLowB (s[k]'hks).toNat
        · have hkp : 0 < k := by
            refine Nat.pos_of_ne_zero fun e => ?_
            rw [h0k.out e] at hb
            cases hb
          have HK2 := Lib.hid (by have := HK.out; rw [hb] at this; exact this)
          rw [hb, decide_eq_true hkp, Bool.false_or, Bool.true_and] at hst
          cases hd : sDigB (s[k]'hks).toNat
          · have DK2 := Lib.hid (by have := DK.out; rw [hd] at this; exact this)
            rw [hd, if_neg (by simp)] at hst
            have HE := Lib.hid hst
            clear hst hd hb HK DK h0k
            go_wp2_with (first | (go_at_call 133; (with_reducible refine Calls.mono (HK2.out _) ?_); rintro e w2 ⟨rfl, hw⟩; rw [hw]; clear hw) | (go_at_call 134; (with_reducible refine Calls.mono (DK2.out _) ?_); rintro e w2 ⟨rfl, hw⟩; rw [hw]; clear hw))
            go_ret
            exact ⟨by rw [HE.out]; rfl, rfl⟩
          · have DK2 := Lib.hid (by have := DK.out; rw [hd] at this; exact this)
            rw [hd, if_pos rfl] at hst
            have HST := Lib.hid hst
            clear hst hd hb HK DK h0k
            go_wp2_with (first | (go_at_call 133; (with_reducible refine Calls.mono (HK2.out _) ?_); rintro e w2 ⟨rfl, hw⟩; rw [hw]; clear hw) | (go_at_call 134; (with_reducible refine Calls.mono (DK2.out _) ?_); rintro e w2 ⟨rfl, hw⟩; rw [hw]; clear hw))
            exact ⟨⟨k + 1, by go_num, by omega, HST, trivial⟩, by simp [intOf]; omega⟩
        · have HK2 := Lib.hid (by have := HK.out; rw [hb] at this; exact this)
          rw [hb, Bool.true_or, if_pos rfl] at hst
          have HST := Lib.hid hst
          clear hst hb HK DK h0k
          go_wp2_with (go_at_call 133; (with_reducible refine Calls.mono (HK2.out _) ?_); rintro e w2 ⟨rfl, hw⟩; rw [hw]; clear hw)
          exact ⟨⟨k + 1, by go_num, by omega, HST, trivial⟩, by simp [intOf]; omega⟩
      · have hke : k = s.size := by omega
        have hE := HS.out
        rw [hke, Nat.sub_self, rrunGo, ← hke] at hE
        have HE := Lib.hid hE
        have hks' : ¬ (k : Int) < (s.size : Int) := by omega
        clear hke hE
        go_wp2_with fail
        go_ret
        exact ⟨by rw [HE.out]; rfl, rfl⟩
end Go.Proofs.YtolidiafomceiaaGreatDoor
namespace Go.Proofs.YtolidiafomceiaaGreatDoor
set_option linter.unusedVariables false
set_option linter.unusedSimpArgs false
open Go.RowKit Go.ChangeShapes Go.WideShapes Go.Deep
def szNd (x : Nd) : Prop := x.text.size ≤ reachBytes ∧ ∀ s ∈ x.keys, s.size ≤ reachBytes
def szPr (x : Pr) : Prop := ∀ d ∈ x.nodes, szNd d
section
variable {H : Type} {enc : TypeId × Value → H} {w : World} {base : Nat} {spare : Nat → Bool} {held : Bool}
theorem wt_str {m : ByteArray} {y : DataW H × List MemPlace} (hw : Wt Tryz.prog 9 y.1) (hy : y = (.lit (.string m.data.toList), [])) : m.size ≤ reachBytes := by
  subst hy
  have := hw m.data.toList.length (by rw [DataW.weights]; simp)
  simpa using this
theorem opens_StrsZ {a : Option Addr} {len cap : Nat} {d : DataW H} {ps : List MemPlace} (h : DataW.Trod enc Tryz.prog w base spare held 36 (.slice a len cap) d ps) (hw : Wt Tryz.prog 36 d) : ∃ l : List ByteArray, l.length = len ∧ InIs skC 1 w a cap l ∧ ∀ s ∈ l, s.size ≤ maxLen ∧ s.size ≤ reachBytes := by
  obtain ⟨l, h1, h2, h3⟩ := open_slZ skC (fun x => x.size ≤ maxLen ∧ x.size ≤ reachBytes) Tryz.underlying36 cells_strS (by decide) skC_len (fun n cs y hwy hy => by
    obtain ⟨m, e, hx, hm⟩ := DataW.trod_string Tryz.underlying9 hy
    exact ⟨m, ⟨hm, wt_str hwy hx⟩, e⟩) h hw
  have h4 := trod_cap Tryz.underlying36 h
  obtain ⟨h5, h6⟩ := trod_cap2 Tryz.underlying36 h
  obtain ⟨e1, e2⟩ := in_of h1 h4 h5 h6
  exact ⟨l, e1, e2, h2⟩
theorem dec_nodeZ (n : Nat) (cs : List Value) (y : DataW H × List MemPlace) (hw : Wt Tryz.prog 49 y.1) (h : DataW.trod enc Tryz.prog w base spare held n 49 cs = some y) : ∃ x : Nd, ((NdIn w x ∧ goodNd x) ∧ szNd x) ∧ cs = ndC x := by
  obtain ⟨xs, n', _, hy, hl, hx, hf⟩ := DataW.trod_struct Tryz.underlying49 h
  rw [cells_node] at hl
  have h0 := hf 0 _ rfl
  have h1 := hf 1 _ rfl
  have h2 := hf 2 _ rfl
  have h3 := hf 3 _ rfl
  have h4 := hf 4 _ rfl
  simp only [List.getElem_toArray, List.getElem_cons_zero, List.getElem_cons_succ] at h0 h1 h2 h3 h4
  obtain ⟨y0, q0⟩ := xs_atS (j := 0) hx (by decide)
  rw [q0] at h0
  obtain ⟨y1, q1⟩ := xs_atS (j := 1) hx (by decide)
  rw [q1] at h1
  obtain ⟨y2, q2⟩ := xs_atS (j := 2) hx (by decide)
  rw [q2] at h2
  obtain ⟨y3, q3⟩ := xs_atS (j := 3) hx (by decide)
  rw [q3] at h3
  obtain ⟨y4, q4⟩ := xs_atS (j := 4) hx (by decide)
  rw [q4] at h4
  have hwa : Wt Tryz.prog 49 (.agg (xs.map (·.1))) := by rw [hy] at hw; exact hw
  have w1' := hwa.field Tryz.underlying49 (j := 1) rfl (by rw [List.getElem?_map, q1]; rfl)
  have w3' := hwa.field Tryz.underlying49 (j := 3) rfl (by rw [List.getElem?_map, q3]; rfl)
  simp only [List.getElem_toArray, List.getElem_cons_zero, List.getElem_cons_succ] at w1' w3'
  obtain ⟨a0, e0, _, w0⟩ := DataW.trod_int Tryz.underlying47 h0
  obtain ⟨a1, e1, hx1, w1⟩ := DataW.trod_string Tryz.underlying9 h1
  obtain ⟨a2, e2, _, w2⟩ := DataW.trod_int Tryz.underlying3 h2
  obtain ⟨ka, klen, kcap, e3, t3⟩ := cs_slice Tryz.underlying36 h3
  obtain ⟨keys, rfl, i3, g3⟩ := opens_StrsZ t3 w3'
  obtain ⟨da, dlen, dcap, e4, t4⟩ := cs_slice Tryz.underlying32 h4
  obtain ⟨kids, rfl, i4, g4⟩ := opens_Kids t4
  have z1 := wt_str w1' hx1
  simp only [cells_kind, cells_strS, cells_intS, cells_strs, cells_ints] at e0 e1 e2 e3 e4
  clear hf h0 h1 h2 h3 h4 h hw hwa w1' w3'
  match cs, hl with
  | [c0, c1, c2, c3, c4], _ =>
    simp at e0 e1 e2 e3 e4
    subst e0 e1 e2 e3 e4
    exact ⟨⟨a0, a1, a2, ka, kcap, keys, da, dcap, kids⟩, ⟨⟨⟨i3, i4⟩, w0, w1, w2, (fun s hs => (g3 s hs).1), g4⟩, z1, fun s hs => (g3 s hs).2⟩, rfl⟩
theorem opens_NodesZ {a : Option Addr} {len cap : Nat} {d : DataW H} {ps : List MemPlace} (h : DataW.Trod enc Tryz.prog w base spare held 22 (.slice a len cap) d ps) (hw : Wt Tryz.prog 22 d) : ∃ l : List Nd, l.length = len ∧ (InIs ndC 5 w a cap l ∧ ∀ x ∈ l, NdIn w x) ∧ (∀ x ∈ l, goodNd x) ∧ ∀ x ∈ l, szNd x := by
  obtain ⟨l, h1, h2, h3⟩ := open_slZ ndC (fun x => (NdIn w x ∧ goodNd x) ∧ szNd x) Tryz.underlying22 cells_node (by decide) ndC_len dec_nodeZ h hw
  have h4 := trod_cap Tryz.underlying22 h
  obtain ⟨h5, h6⟩ := trod_cap2 Tryz.underlying22 h
  obtain ⟨e1, e2⟩ := in_of h1 h4 h5 h6
  exact ⟨l, e1, ⟨e2, fun x hx => (h2 x hx).1.1⟩, (fun x hx => (h2 x hx).1.2), fun x hx => (h2 x hx).2⟩
theorem dec_progrZ (n : Nat) (cs : List Value) (y : DataW H × List MemPlace) (hw : Wt Tryz.prog 25 y.1) (h : DataW.trod enc Tryz.prog w base spare held n 25 cs = some y) : ∃ x : Pr, ((PrIn w x ∧ goodPr x) ∧ szPr x) ∧ cs = prC x := by
  obtain ⟨xs, n', _, hy, hl, hx, hf⟩ := DataW.trod_struct Tryz.underlying25 h
  rw [cells_progr] at hl
  have h0 := hf 0 _ rfl
  have h1 := hf 1 _ rfl
  simp only [List.getElem_toArray, List.getElem_cons_zero, List.getElem_cons_succ] at h0 h1
  obtain ⟨y0, q0⟩ := xs_atS (j := 0) hx (by decide)
  rw [q0] at h0
  obtain ⟨y1, q1⟩ := xs_atS (j := 1) hx (by decide)
  rw [q1] at h1
  have hwa : Wt Tryz.prog 25 (.agg (xs.map (·.1))) := by rw [hy] at hw; exact hw
  have w0' := hwa.field Tryz.underlying25 (j := 0) rfl (by rw [List.getElem?_map, q0]; rfl)
  simp only [List.getElem_toArray, List.getElem_cons_zero, List.getElem_cons_succ] at w0'
  obtain ⟨na, nlen, ncap, e0, t0⟩ := cs_slice Tryz.underlying22 h0
  obtain ⟨ns, rfl, i0, g0, z0⟩ := opens_NodesZ t0 w0'
  obtain ⟨fa, flen, fcap, e1, t1⟩ := cs_slice Tryz.underlying23 h1
  obtain ⟨fs, rfl, i1, g1⟩ := opens_Funcs t1
  simp only [cells_nodes, cells_funcs] at e0 e1
  clear hf h0 h1 h hw hwa w0'
  match cs, hl with
  | [c0, c1], _ =>
    simp at e0 e1
    subst e0 e1
    exact ⟨⟨na, ncap, ns, fa, fcap, fs⟩, ⟨⟨⟨i0, i1⟩, g0, g1⟩, z0⟩, rfl⟩
set_option maxRecDepth 100000 in
theorem open_ProgrZ {r : Reach} {b0 : Nat} {v : Value} {d : DataW H} {ps : List MemPlace} (hv : Value.okWide Tryz.prog w r b0 25 v) (h : DataW.Trod enc Tryz.prog w base spare held 25 v d ps) (hw : Wt Tryz.prog 25 d) : ∃ x : Pr, v = .agg (prC x).toArray ∧ ((PrIn w x ∧ goodPr x) ∧ szPr x) := by
  obtain ⟨cs, rfl, hsz⟩ := okWide_struct Tryz.underlying25 hv
  obtain ⟨fuel, hf⟩ := h
  obtain ⟨x, hg, hx⟩ := dec_progrZ _ _ _ hw hf
  have : cs.toList = prC x := hx
  exact ⟨x, by rw [← this], hg⟩
end
end Go.Proofs.YtolidiafomceiaaGreatDoor
namespace Go.Proofs.YtolidiafomceiaaGreatDoor
set_option linter.unusedVariables false
set_option linter.unusedSimpArgs false
open Go.RowKit
def qByte (n : Nat) : Bool := decide (32 ≤ n) && decide (n ≤ 126)
def qTo (s : ByteArray) (k : Nat) : Bool := (List.range k).all (fun i => match s.data[i]? with | some c => qByte c.toNat | none => true)
/-- A string that can be quoted. -/
def sQuoB (s : ByteArray) : Bool := qTo s s.size && decide (s.size ≤ 200)
theorem qTo_step {s : ByteArray} {k : Nat} (hk : k < s.size) : qTo s (k + 1) = (qTo s k && qByte (s[k]'hk).toNat) := by
  unfold qTo
  rw [List.range_succ, List.all_append]
  have : s.data[k]? = some (s[k]'hk) := by rw [Array.getElem?_eq_getElem (by simpa using hk)]; rfl
  simp [this]
theorem qTo_no {s : ByteArray} {k : Nat} (hk : k < s.size) (h : qByte (s[k]'hk).toNat = false) : qTo s s.size = false := by
  unfold qTo
  rw [List.all_eq_false]
  refine ⟨k, List.mem_range.2 hk, ?_⟩
  have : s.data[k]? = some (s[k]'hk) := by rw [Array.getElem?_eq_getElem (by simpa using hk)]; rfl
  rw [this]
  simpa using h
def QuoPost (w : World) (b : Bool) (e : Ending) (w' : World) : Prop := ∃ o : ByteArray, e = .returned (.tuple #[.string o, .bool b]) ∧ w' = w
set_option maxHeartbeats 4000000 in
set_option maxRecDepth 100000 in
theorem rquoted_any (s : ByteArray) (w : World) (hs : s.size ≤ reachBytes) : Calls Tryz.prog 121 #[.string s] w (QuoPost w (sQuoB s)) := by
  obtain ⟨R, hR⟩ : ∃ R, R = sQuoB s := ⟨_, rfl⟩
  rw [← hR]
  have HR := Lib.hid hR
  have hs2 : (s.size : Int) ≤ 140737488351232 := by unfold reachBytes at hs; omega
  clear hR hs
  go_enter Tryz.func121, Tryz.ntmps121
  go_wp2_with fail
  go_loopw [4, 8] (fun u v wr => ∃ (o : ByteArray) (k : Nat), u = .string o ∧ v = .int .i64 k ∧ k ≤ s.size ∧ o.size ≤ 2 * k + 1 ∧ Hid (qTo s k = true) ∧ wr = w) (fun _ v _ => s.size - (intOf v).toNat)
  case atStart => exact ⟨_, 0, rfl, rfl, Nat.zero_le _, by decide, Lib.hid rfl, rfl⟩
  case round =>
    obtain ⟨o, k, rfl, rfl, hk, ho, HS, rfl⟩ := hrel
    have hk0 : (0 : Int) ≤ (k : Int) := by omega
    by_cases hks : k < s.size
    · have hks' : (k : Int) < (s.size : Int) := by omega
      have hst := qTo_step hks
      have hno := qTo_no hks
      have qk : IntKind.i64.wrap ((k : Int) + 1) = (k : Int) + 1 := IntWalk.i64_in _ (by omega)
      by_cases c1 : (s[k]'hks).toNat < 32
      · have b1 : ((s[k]'hks).toNat : Int) < 32 := by omega
        have HE := Lib.hid (show R = false by rw [HR.out]; unfold sQuoB; rw [hno (by unfold qByte; rw [decide_eq_false (by omega)]; rfl)]; rfl)
        clear hst hno c1
        go_wp2_with fail
        go_ret2
        exact ⟨_, by rw [HE.out]; rfl, rfl⟩
      by_cases c2 : 126 < (s[k]'hks).toNat
      · have b1 : ¬ ((s[k]'hks).toNat : Int) < 32 := by omega
        have b2 : ((s[k]'hks).toNat : Int) > 126 := by omega
        have HE := Lib.hid (show R = false by rw [HR.out]; unfold sQuoB; rw [hno (by unfold qByte; rw [decide_eq_false (show ¬ (s[k]'hks).toNat ≤ 126 by omega)]; simp)]; rfl)
        clear hst hno c1 c2
        go_wp2_with fail
        go_ret2
        exact ⟨_, by rw [HE.out]; rfl, rfl⟩
      have HST := Lib.hid (show qTo s (k + 1) = true by rw [hst, HS.out]; unfold qByte; rw [decide_eq_true (by omega), decide_eq_true (by omega)]; rfl)
      have b1 : ¬ ((s[k]'hks).toNat : Int) < 32 := by omega
      have b2 : ¬ ((s[k]'hks).toNat : Int) > 126 := by omega
      clear hst hno c1 c2
      cases q1 : ((((s[k]'hks).toNat : Int)) == 34)
      · cases q2 : ((((s[k]'hks).toNat : Int)) == 92)
        · go_wp2_with fail
          exact ⟨⟨_, k + 1, rfl, rfl, by omega, by rw [ByteArray.size_append, ByteArray.size_extract]; omega, HST, trivial⟩, by simp [intOf]; omega⟩
        · go_wp2_with fail
          exact ⟨⟨_, k + 1, rfl, rfl, by omega, by rw [ByteArray.size_append, ByteArray.size_append, ByteArray.size_extract]; have : (⟨#[92]⟩ : ByteArray).size = 1 := rfl; omega, HST, trivial⟩, by simp [intOf]; omega⟩
      · go_wp2_with fail
        exact ⟨⟨_, k + 1, rfl, rfl, by omega, by rw [ByteArray.size_append, ByteArray.size_append, ByteArray.size_extract]; have : (⟨#[92]⟩ : ByteArray).size = 1 := rfl; omega, HST, trivial⟩, by simp [intOf]; omega⟩
    · have hke : k = s.size := by omega
      have hE := HS.out
      rw [hke] at hE
      have hks' : ¬ (k : Int) < (s.size : Int) := by omega
      by_cases h2 : s.size ≤ 200
      · have h2' : (s.size : Int) ≤ 200 := by omega
        have HE := Lib.hid (show R = true by rw [HR.out]; unfold sQuoB; rw [hE, decide_eq_true h2]; rfl)
        clear hke hE h2
        go_wp2_with fail
        go_ret2
        exact ⟨_, by rw [HE.out]; rfl, rfl⟩
      · have h2' : ¬ (s.size : Int) ≤ 200 := by omega
        have HE := Lib.hid (show R = false by rw [HR.out]; unfold sQuoB; rw [hE, decide_eq_false h2]; rfl)
        clear hke hE h2
        go_wp2_with fail
        go_ret2
        exact ⟨_, by rw [HE.out]; rfl, rfl⟩
end Go.Proofs.YtolidiafomceiaaGreatDoor
namespace Go.Proofs.YtolidiafomceiaaGreatDoor
set_option linter.unusedVariables false
set_option linter.unusedSimpArgs false
open Go.RowKit
def RTextPost (w : World) (ok : Bool) (e : Ending) (w' : World) : Prop := ∃ (o : ByteArray) (er : Int), e = .returned (.tuple #[.string o, .int .i64 er]) ∧ (er == 0) = ok ∧ Chg [] w w'
def rtextB (kd : Int) (s : ByteArray) : Bool := if kd = 1 then sNameB s else if kd = 6 then sRunB s else sQuoB s
theorem size_zero {s : ByteArray} (h : s.size = 0) : s = ⟨#[]⟩ := by
  obtain ⟨d⟩ := s
  have h2 : d.size = 0 := h
  rw [Array.eq_empty_of_size_eq_zero h2]
set_option maxHeartbeats 16000000 in
set_option maxRecDepth 100000 in
theorem rtext_name (s : ByteArray) (w : World) : Calls Tryz.prog 89 #[.agg #[.int .i64 1, .string s, .int .i64 0, .int .i64 0]] w (RTextPost w (sNameB s)) := by
  obtain ⟨W1, hW1⟩ : ∃ W1, W1 = w.alloc (.cells #[.int .i64 1, .string s, .int .i64 0, .int .i64 0] 114) := ⟨_, rfl⟩
  have C1 := Lib.hid (show Chg [] w W1 by rw [hW1]; exact (Chg.refl _ _).alloc _)
  have B1 := Lib.hid (show W1.heap[w.heap.size]? = some (.cells #[.int .i64 1, .string s, .int .i64 0, .int .i64 0] 114 (0, 0)) by rw [hW1]; exact heap_alloc_new _ _)
  have k1 := blk_cell B1.out
  have KW := Lib.hid (fun w' => rkeyword_any s w')
  by_cases h1 : 1 ≤ s.size
  · have h1' : (s.size : Int) > 0 := by omega
    by_cases h2 : s.size ≤ 24
    · have h2' : (s.size : Int) ≤ 24 := by omega
      have hw := rrunZ_whole s
      have hN : sNameB s = (sRunTo s s.size && !sKwB s) := by unfold sNameB sRunB; rw [decide_eq_true h1, decide_eq_true h2]; rfl
      rw [hN]
      have RR := Lib.hid (fun w' => rrun_any s w' h1 h2)
      generalize rrunGo s s.size 0 = r at *
      generalize sKwB s = kb at *
      generalize sRunTo s s.size = rb at *
      have hz : 0 < s.size := h1
      clear hN h1 h1' h2
      cases rb
      · go_enter Tryz.func89, Tryz.ntmps89
        go_upto_region 1 with fail
        rw [← hW1]
        clear hW1
        go_wp2_with fail
        go_quiet (exact Calls.quiet_of_same (RR.out _))
        have K7 := Lib.hid (((Chg.refl [] W1).drewN nq).at (by simp) B1.out)
        have C7 := Lib.hid (C1.out.drewN nq)
        generalize W1.drewN nq = W7 at *
        have k7 := blk_cell K7.out
        clear k1
        go_wp2_with fail
        go_ret2
        exact ⟨_, 1, rfl, rfl, C7.out⟩
      · cases kb
        · go_enter Tryz.func89, Tryz.ntmps89
          go_upto_region 1 with fail
          rw [← hW1]
          clear hW1
          go_wp2_with fail
          go_quiet (exact Calls.quiet_of_same (RR.out _))
          have K7 := Lib.hid (((Chg.refl [] W1).drewN nq).at (by simp) B1.out)
          have C7 := Lib.hid (C1.out.drewN nq)
          generalize W1.drewN nq = W7 at *
          have k7 := blk_cell K7.out
          clear k1
          go_wp2_with (go_at_call 117; (with_reducible refine Calls.mono (KW.out _) ?_); rintro e w2 ⟨rfl, rfl⟩)
          go_ret2
          exact ⟨_, 0, rfl, rfl, C7.out⟩
        · go_enter Tryz.func89, Tryz.ntmps89
          go_upto_region 1 with fail
          rw [← hW1]
          clear hW1
          go_wp2_with fail
          go_quiet (exact Calls.quiet_of_same (RR.out _))
          have K7 := Lib.hid (((Chg.refl [] W1).drewN nq).at (by simp) B1.out)
          have C7 := Lib.hid (C1.out.drewN nq)
          generalize W1.drewN nq = W7 at *
          have k7 := blk_cell K7.out
          clear k1
          go_wp2_with (go_at_call 117; (with_reducible refine Calls.mono (KW.out _) ?_); rintro e w2 ⟨rfl, rfl⟩)
          go_ret2
          exact ⟨_, 1, rfl, rfl, C7.out⟩
    · have h2' : ¬ (s.size : Int) ≤ 24 := by omega
      have h2n : ¬ s.size ≤ 24 := h2
      have h2m : decide ((s.size : Int) ≤ 24) = false := decide_eq_false h2'
      have hz : 0 < s.size := h1
      have hN : sNameB s = false := by unfold sNameB sRunB; rw [decide_eq_false h2]; simp
      rw [hN]
      clear hN h1 h1' h2
      go_enter Tryz.func89, Tryz.ntmps89
      go_upto_region 1 with fail
      rw [← hW1]
      clear hW1
      go_wp2_with fail
      go_quiet (fail)
      have K7 := Lib.hid (((Chg.refl [] W1).drewN nq).at (by simp) B1.out)
      have C7 := Lib.hid (C1.out.drewN nq)
      generalize W1.drewN nq = W7 at *
      have k7 := blk_cell K7.out
      clear k1
      go_wp2_with fail
      go_ret2
      exact ⟨_, 1, rfl, rfl, C7.out⟩
  · have hz : s.size = 0 := by omega
    have hN : sNameB s = false := by unfold sNameB sRunB; rw [decide_eq_false h1]; rfl
    rw [hN]
    clear hN h1
    obtain rfl := size_zero hz
    clear hz
    go_enter Tryz.func89, Tryz.ntmps89
    go_upto_region 1 with fail
    rw [← hW1]
    clear hW1
    go_wp2_with fail
    go_quiet (fail)
    have K7 := Lib.hid (((Chg.refl [] W1).drewN nq).at (by simp) B1.out)
    have C7 := Lib.hid (C1.out.drewN nq)
    generalize W1.drewN nq = W7 at *
    have k7 := blk_cell K7.out
    clear k1
    go_wp2_with fail
    go_ret2
    exact ⟨_, 1, rfl, rfl, C7.out⟩
set_option maxHeartbeats 16000000 in
set_option maxRecDepth 100000 in
theorem rtext_host (s : ByteArray) (w : World) : Calls Tryz.prog 89 #[.agg #[.int .i64 6, .string s, .int .i64 0, .int .i64 0]] w (RTextPost w (sRunB s)) := by
  obtain ⟨W1, hW1⟩ : ∃ W1, W1 = w.alloc (.cells #[.int .i64 6, .string s, .int .i64 0, .int .i64 0] 114) := ⟨_, rfl⟩
  have C1 := Lib.hid (show Chg [] w W1 by rw [hW1]; exact (Chg.refl _ _).alloc _)
  have B1 := Lib.hid (show W1.heap[w.heap.size]? = some (.cells #[.int .i64 6, .string s, .int .i64 0, .int .i64 0] 114 (0, 0)) by rw [hW1]; exact heap_alloc_new _ _)
  have k1 := blk_cell B1.out
  by_cases h1 : 1 ≤ s.size
  · by_cases h2 : s.size ≤ 24
    · have h2' : (s.size : Int) ≤ 24 := by omega
      have hw := rrunZ_whole s
      have hN : sRunB s = sRunTo s s.size := by unfold sRunB; rw [decide_eq_true h1, decide_eq_true h2]; rfl
      rw [hN]
      have RR := Lib.hid (fun w' => rrun_any s w' h1 h2)
      generalize rrunGo s s.size 0 = r at *
      generalize sRunTo s s.size = rb at *
      have hz : 0 < s.size := h1
      clear hN h1 h2
      cases rb
      · go_enter Tryz.func89, Tryz.ntmps89
        go_upto_region 1 with fail
        rw [← hW1]
        clear hW1
        go_wp2_with fail
        go_quiet (exact Calls.quiet_of_same (RR.out _))
        have K7 := Lib.hid (((Chg.refl [] W1).drewN nq).at (by simp) B1.out)
        have C7 := Lib.hid (C1.out.drewN nq)
        generalize W1.drewN nq = W7 at *
        have k7 := blk_cell K7.out
        clear k1
        go_wp2_with fail
        go_ret2
        exact ⟨_, 1, rfl, rfl, C7.out⟩
      · go_enter Tryz.func89, Tryz.ntmps89
        go_upto_region 1 with fail
        rw [← hW1]
        clear hW1
        go_wp2_with fail
        go_quiet (exact Calls.quiet_of_same (RR.out _))
        have K7 := Lib.hid (((Chg.refl [] W1).drewN nq).at (by simp) B1.out)
        have C7 := Lib.hid (C1.out.drewN nq)
        generalize W1.drewN nq = W7 at *
        have k7 := blk_cell K7.out
        clear k1
        go_wp2_with fail
        go_ret2
        exact ⟨_, 0, rfl, rfl, C7.out⟩
    · have h2' : ¬ (s.size : Int) ≤ 24 := by omega
      have h2n : ¬ s.size ≤ 24 := h2
      have h2m : decide ((s.size : Int) ≤ 24) = false := decide_eq_false h2'
      have hz : 0 < s.size := h1
      have hN : sRunB s = false := by unfold sRunB; rw [decide_eq_false h2]; simp
      rw [hN]
      clear hN h1 h2
      go_enter Tryz.func89, Tryz.ntmps89
      go_upto_region 1 with fail
      rw [← hW1]
      clear hW1
      go_wp2_with fail
      go_quiet (fail)
      have K7 := Lib.hid (((Chg.refl [] W1).drewN nq).at (by simp) B1.out)
      have C7 := Lib.hid (C1.out.drewN nq)
      generalize W1.drewN nq = W7 at *
      have k7 := blk_cell K7.out
      clear k1
      go_wp2_with fail
      go_ret2
      exact ⟨_, 1, rfl, rfl, C7.out⟩
  · have hz : s.size = 0 := by omega
    have hN : sRunB s = false := by unfold sRunB; rw [decide_eq_false h1]; rfl
    rw [hN]
    clear hN h1
    obtain rfl := size_zero hz
    clear hz
    go_enter Tryz.func89, Tryz.ntmps89
    go_upto_region 1 with fail
    rw [← hW1]
    clear hW1
    go_wp2_with fail
    go_quiet (fail)
    have K7 := Lib.hid (((Chg.refl [] W1).drewN nq).at (by simp) B1.out)
    have C7 := Lib.hid (C1.out.drewN nq)
    generalize W1.drewN nq = W7 at *
    have k7 := blk_cell K7.out
    clear k1
    go_wp2_with fail
    go_ret2
    exact ⟨_, 1, rfl, rfl, C7.out⟩
set_option maxHeartbeats 16000000 in
set_option maxRecDepth 100000 in
theorem rtext_str (s : ByteArray) (w : World) (hs : s.size ≤ reachBytes) : Calls Tryz.prog 89 #[.agg #[.int .i64 4, .string s, .int .i64 0, .int .i64 0]] w (RTextPost w (sQuoB s)) := by
  obtain ⟨W1, hW1⟩ : ∃ W1, W1 = w.alloc (.cells #[.int .i64 4, .string s, .int .i64 0, .int .i64 0] 114) := ⟨_, rfl⟩
  have C1 := Lib.hid (show Chg [] w W1 by rw [hW1]; exact (Chg.refl _ _).alloc _)
  have B1 := Lib.hid (show W1.heap[w.heap.size]? = some (.cells #[.int .i64 4, .string s, .int .i64 0, .int .i64 0] 114 (0, 0)) by rw [hW1]; exact heap_alloc_new _ _)
  have k1 := blk_cell B1.out
  have QU := Lib.hid (fun w' => rquoted_any s w' hs)
  generalize sQuoB s = qb at *
  clear hs
  by_cases h1 : 1 ≤ s.size
  · by_cases h2 : s.size ≤ 24
    · have h2' : (s.size : Int) ≤ 24 := by omega
      have RR := Lib.hid (fun w' => rrun_any s w' h1 h2)
      generalize rrunGo s s.size 0 = r at *
      generalize hrb : ((r : Int) == (s.size : Int)) = rb at *
      have hz : 0 < s.size := h1
      clear h1 h2
      cases rb
      · cases qb
        · go_enter Tryz.func89, Tryz.ntmps89
          go_upto_region 1 with fail
          rw [← hW1]
          clear hW1
          go_wp2_with fail
          go_quiet (first | exact Calls.quiet_of_same (RR.out _) | fail)
          have K7 := Lib.hid (((Chg.refl [] W1).drewN nq).at (by simp) B1.out)
          have C7 := Lib.hid (C1.out.drewN nq)
          generalize W1.drewN nq = W7 at *
          have k7 := blk_cell K7.out
          clear k1
          go_wp2_with (go_at_call 121; (with_reducible refine Calls.mono (QU.out _) ?_); rintro e w2 ⟨o, rfl, rfl⟩)
          go_ret2
          exact ⟨_, 1, rfl, rfl, C7.out⟩
        · go_enter Tryz.func89, Tryz.ntmps89
          go_upto_region 1 with fail
          rw [← hW1]
          clear hW1
          go_wp2_with fail
          go_quiet (first | exact Calls.quiet_of_same (RR.out _) | fail)
          have K7 := Lib.hid (((Chg.refl [] W1).drewN nq).at (by simp) B1.out)
          have C7 := Lib.hid (C1.out.drewN nq)
          generalize W1.drewN nq = W7 at *
          have k7 := blk_cell K7.out
          clear k1
          go_wp2_with (go_at_call 121; (with_reducible refine Calls.mono (QU.out _) ?_); rintro e w2 ⟨o, rfl, rfl⟩)
          go_ret2
          exact ⟨_, 0, rfl, rfl, C7.out⟩
      · cases qb
        · go_enter Tryz.func89, Tryz.ntmps89
          go_upto_region 1 with fail
          rw [← hW1]
          clear hW1
          go_wp2_with fail
          go_quiet (first | exact Calls.quiet_of_same (RR.out _) | fail)
          have K7 := Lib.hid (((Chg.refl [] W1).drewN nq).at (by simp) B1.out)
          have C7 := Lib.hid (C1.out.drewN nq)
          generalize W1.drewN nq = W7 at *
          have k7 := blk_cell K7.out
          clear k1
          go_wp2_with (go_at_call 121; (with_reducible refine Calls.mono (QU.out _) ?_); rintro e w2 ⟨o, rfl, rfl⟩)
          go_ret2
          exact ⟨_, 1, rfl, rfl, C7.out⟩
        · go_enter Tryz.func89, Tryz.ntmps89
          go_upto_region 1 with fail
          rw [← hW1]
          clear hW1
          go_wp2_with fail
          go_quiet (first | exact Calls.quiet_of_same (RR.out _) | fail)
          have K7 := Lib.hid (((Chg.refl [] W1).drewN nq).at (by simp) B1.out)
          have C7 := Lib.hid (C1.out.drewN nq)
          generalize W1.drewN nq = W7 at *
          have k7 := blk_cell K7.out
          clear k1
          go_wp2_with (go_at_call 121; (with_reducible refine Calls.mono (QU.out _) ?_); rintro e w2 ⟨o, rfl, rfl⟩)
          go_ret2
          exact ⟨_, 0, rfl, rfl, C7.out⟩
    · have h2' : ¬ (s.size : Int) ≤ 24 := by omega
      have h2n : ¬ s.size ≤ 24 := h2
      have h2m : decide ((s.size : Int) ≤ 24) = false := decide_eq_false h2'
      have hz : 0 < s.size := h1
      have RR := Lib.hid trivial
      clear h1 h2
      cases qb
      · go_enter Tryz.func89, Tryz.ntmps89
        go_upto_region 1 with fail
        rw [← hW1]
        clear hW1
        go_wp2_with fail
        go_quiet (first | exact Calls.quiet_of_same (RR.out _) | fail)
        have K7 := Lib.hid (((Chg.refl [] W1).drewN nq).at (by simp) B1.out)
        have C7 := Lib.hid (C1.out.drewN nq)
        generalize W1.drewN nq = W7 at *
        have k7 := blk_cell K7.out
        clear k1
        go_wp2_with (go_at_call 121; (with_reducible refine Calls.mono (QU.out _) ?_); rintro e w2 ⟨o, rfl, rfl⟩)
        go_ret2
        exact ⟨_, 1, rfl, rfl, C7.out⟩
      · go_enter Tryz.func89, Tryz.ntmps89
        go_upto_region 1 with fail
        rw [← hW1]
        clear hW1
        go_wp2_with fail
        go_quiet (first | exact Calls.quiet_of_same (RR.out _) | fail)
        have K7 := Lib.hid (((Chg.refl [] W1).drewN nq).at (by simp) B1.out)
        have C7 := Lib.hid (C1.out.drewN nq)
        generalize W1.drewN nq = W7 at *
        have k7 := blk_cell K7.out
        clear k1
        go_wp2_with (go_at_call 121; (with_reducible refine Calls.mono (QU.out _) ?_); rintro e w2 ⟨o, rfl, rfl⟩)
        go_ret2
        exact ⟨_, 0, rfl, rfl, C7.out⟩
  · have hz : s.size = 0 := by omega
    have RR := Lib.hid trivial
    clear h1
    obtain rfl := size_zero hz
    clear hz
    cases qb
    · go_enter Tryz.func89, Tryz.ntmps89
      go_upto_region 1 with fail
      rw [← hW1]
      clear hW1
      go_wp2_with fail
      go_quiet (first | exact Calls.quiet_of_same (RR.out _) | fail)
      have K7 := Lib.hid (((Chg.refl [] W1).drewN nq).at (by simp) B1.out)
      have C7 := Lib.hid (C1.out.drewN nq)
      generalize W1.drewN nq = W7 at *
      have k7 := blk_cell K7.out
      clear k1
      go_wp2_with (go_at_call 121; (with_reducible refine Calls.mono (QU.out _) ?_); rintro e w2 ⟨o, rfl, rfl⟩)
      go_ret2
      exact ⟨_, 1, rfl, rfl, C7.out⟩
    · go_enter Tryz.func89, Tryz.ntmps89
      go_upto_region 1 with fail
      rw [← hW1]
      clear hW1
      go_wp2_with fail
      go_quiet (first | exact Calls.quiet_of_same (RR.out _) | fail)
      have K7 := Lib.hid (((Chg.refl [] W1).drewN nq).at (by simp) B1.out)
      have C7 := Lib.hid (C1.out.drewN nq)
      generalize W1.drewN nq = W7 at *
      have k7 := blk_cell K7.out
      clear k1
      go_wp2_with (go_at_call 121; (with_reducible refine Calls.mono (QU.out _) ?_); rintro e w2 ⟨o, rfl, rfl⟩)
      go_ret2
      exact ⟨_, 0, rfl, rfl, C7.out⟩
theorem rtext_pair {b : Bool} {er : Int} (h : (er == 0) = b) : Ending.returned (.bool (er == 0)) = .returned (.bool b) := by rw [h]
set_option maxHeartbeats 4000000 in
set_option maxRecDepth 100000 in
theorem rname_any (s : ByteArray) (w : World) : Calls Tryz.prog 65 #[.string s] w fun e w' => e = .returned (.bool (sNameB s)) ∧ Chg [] w w' := by
  have A := Lib.hid (rtext_name s w)
  generalize sNameB s = b at *
  go_enter Tryz.func65, Tryz.ntmps65
  go_wp2_with (go_at_call 89; (with_reducible refine Calls.mono A.out ?_); rintro e w2 ⟨o, er, rfl, her, hc⟩; have HE := Lib.hid her; have HC := Lib.hid hc; clear her hc)
  go_ret
  exact ⟨rtext_pair HE.out, HC.out⟩
set_option maxHeartbeats 4000000 in
set_option maxRecDepth 100000 in
theorem rstr_any (s : ByteArray) (w : World) (hs : s.size ≤ reachBytes) : Calls Tryz.prog 90 #[.string s] w fun e w' => e = .returned (.bool (sQuoB s)) ∧ Chg [] w w' := by
  have A := Lib.hid (rtext_str s w hs)
  generalize sQuoB s = b at *
  go_enter Tryz.func90, Tryz.ntmps90
  go_wp2_with (go_at_call 89; (with_reducible refine Calls.mono A.out ?_); rintro e w2 ⟨o, er, rfl, her, hc⟩; have HE := Lib.hid her; have HC := Lib.hid hc; clear her hc)
  go_ret
  exact ⟨rtext_pair HE.out, HC.out⟩
end Go.Proofs.YtolidiafomceiaaGreatDoor
