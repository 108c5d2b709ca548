/- Chapter 27: the example of the chapter (awake) holds, and IdemLives: a record lives for exactly the life after its Begin. No condition. -/
import Derived.Test.YtkbblkhkadcpcaaIdemD
import Derived.OpenShut
namespace Go.Proofs.Ytkbblkhkadcpcaa
open Go.RowKit

abbrev cA : ByteArray := ⟨#[97]⟩
abbrev cB : ByteArray := ⟨#[98]⟩
abbrev cD : ByteArray := ⟨#[100]⟩
abbrev cK : ByteArray := ⟨#[107]⟩
abbrev cR : ByteArray := ⟨#[114]⟩

theorem len1 (c : UInt8) : (⟨#[c]⟩ : ByteArray).size ≤ maxLen := by unfold maxLen; show 1 ≤ _; decide

def s1 : St := ⟨1, 10, 5, [⟨cA, cD, em, false, 15⟩]⟩
def s2 : St := ⟨1, 10, 14, [⟨cA, cD, em, false, 15⟩]⟩
def s3 : St := ⟨1, 10, 14, [⟨cA, cD, cR, true, 24⟩]⟩
def s4 : St := ⟨1, 10, 23, [⟨cA, cD, cR, true, 24⟩]⟩
theorem aw1 : beginS ⟨1, 10, 0, []⟩ cA cD 5 = ((1, em, 0), s1) := by kernel_rfl
theorem aw2 : beginS s1 cA cD 14 = ((2, em, 0), s2) := by kernel_rfl
theorem aw3 : finishS s2 cA cD cR 14 = (0, s3) := by kernel_rfl
theorem aw4 : beginS s3 cA cD 23 = ((3, cR, 0), s4) := by kernel_rfl
theorem aw5 : beginS s4 cB cD 23 = ((0, em, 3), s4) := by kernel_rfl
theorem aw6 : sweepS s4 24 = (1, ⟨1, 10, 24, []⟩) := by kernel_rfl

set_option maxHeartbeats 1000000 in
set_option maxRecDepth 100000 in
theorem awake_any (w : World) : Calls Try.prog 10 #[] w fun e w' => e = .returned (.bool true) ∧ Below w.heap.size w w' := by
  go_enter Try.func10, Try.ntmps10
  go_wp2_with fail
  refine (new_ok 1 10 w (by omega) (by omega) (by omega) (by omega)).mono ?_
  rintro e w1 ⟨tb, mb, rfl, ht1, htb, hmb, hc1⟩
  go_wp2_with fail
  refine (begin_any tb mb _ cA cD 5 _ ht1 (by simp [St.ok]) (len1 _) (len1 _)).mono ?_
  rw [aw1]; rintro e w2 ⟨rfl, ht2, hc2⟩
  go_wp2_with fail
  refine (begin_any tb mb _ cA cD 14 _ ht2 (by simp [St.ok, s1]) (len1 _) (len1 _)).mono ?_
  rw [aw2]; rintro e w3 ⟨rfl, ht3, hc3⟩
  go_wp2_with fail
  refine (finish_any tb mb _ cA cD cR 14 _ ht3 (by simp [St.ok, s2]) (len1 _) (len1 _) (len1 _)).mono ?_
  rw [aw3]; rintro e w4 ⟨rfl, ht4, hc4⟩
  go_wp2_with fail
  refine (begin_any tb mb _ cA cD 23 _ ht4 (by simp [St.ok, s3]) (len1 _) (len1 _)).mono ?_
  rw [aw4]; rintro e w5 ⟨rfl, ht5, hc5⟩
  go_wp2_with fail
  refine (begin_any tb mb _ cB cD 23 _ ht5 (by simp [St.ok, s4]) (len1 _) (len1 _)).mono ?_
  rw [aw5]; rintro e w6 ⟨rfl, ht6, hc6⟩
  go_wp2_with fail
  refine (len_any tb mb _ _ ht6).mono ?_
  rintro e w7 ⟨rfl, rfl⟩
  simp only [s4]
  go_wp2_with fail
  refine (sweep_any tb mb _ 24 _ ht6 (by simp [s4])).mono ?_
  rw [aw6]; rintro e w8 ⟨rfl, ht8, hc8⟩
  go_wp2_with fail
  go_ret
  refine ⟨rfl, ?_⟩
  have hh : ∀ x ∈ [tb, mb], w.heap.size ≤ x := by simp; omega
  have h2 := (hc2.thenSame hc3).thenSame (hc4.thenSame (hc5.thenSame (hc6.thenSame hc8)))
  exact (hc1.trans (T := [tb, mb]) h2 (by simp) (fun x hx _ => hx)).toBelow (Nat.le_refl _) hh

theorem lv1 (life a : Int) (h1 : 0 ≤ a) (h2 : a ≤ 1073741824) : beginS ⟨3, life, 0, []⟩ cK cD a = ((1, em, 0), ⟨3, life, a, [⟨cK, cD, em, false, a + life⟩]⟩) := by
  have hk : idB cK = true := by kernel_rfl
  have hd : idB cD = true := by kernel_rfl
  have h0 : atE ⟨3, life, 0, []⟩ a = 0 := by simp only [atE]; rw [if_neg (by omega), if_neg (by omega)]
  rw [newS_eq hk hd h0 (.inl rfl)]
  simp [newS, passS, putL]

theorem lv2 (life a d : Int) (h1 : 0 ≤ a) (h2 : a + d ≤ 1073741824) (h3 : 0 ≤ d) (hl : d < life) : beginS ⟨3, life, a, [⟨cK, cD, em, false, a + life⟩]⟩ cK cD (a + d) = ((2, em, 0), ⟨3, life, a + d, [⟨cK, cD, em, false, a + life⟩]⟩) := by
  have hk : idB cK = true := by kernel_rfl
  have hd : idB cD = true := by kernel_rfl
  have h0 : atE ⟨3, life, a, [⟨cK, cD, em, false, a + life⟩]⟩ (a + d) = 0 := by simp only [atE]; rw [if_neg (by omega), if_neg (by omega)]
  have hlk : lookL Ent.key [⟨cK, cD, em, false, a + life⟩] cK = some ⟨cK, cD, em, false, a + life⟩ := by simp [lookL]
  simp only [beginS, hk, hd, h0, hlk]
  rw [if_neg (by simp), if_neg (by simp), if_neg (by omega), if_neg (by simp)]
  simp [passS, live]; omega

theorem lv3 (life a d : Int) (h1 : 0 ≤ a) (h2 : a + d ≤ 1073741824) (h3 : 0 ≤ d) (hl : life ≤ d) : ∃ s', beginS ⟨3, life, a, [⟨cK, cD, em, false, a + life⟩]⟩ cK cD (a + d) = ((1, em, 0), s') := by
  have hk : idB cK = true := by kernel_rfl
  have hd : idB cD = true := by kernel_rfl
  have h0 : atE ⟨3, life, a, [⟨cK, cD, em, false, a + life⟩]⟩ (a + d) = 0 := by simp only [atE]; rw [if_neg (by omega), if_neg (by omega)]
  have hlk : lookL Ent.key [⟨cK, cD, em, false, a + life⟩] cK = some ⟨cK, cD, em, false, a + life⟩ := by simp [lookL]
  rw [newS_eq hk hd h0 (.inr ⟨_, hlk, by simp; omega⟩)]
  have hz : live (a + d) ⟨cK, cD, em, false, a + life⟩ = false := by simp [live]; omega
  rw [newS, if_neg (by simp [hz])]
  exact ⟨_, rfl⟩

set_option maxHeartbeats 1000000 in
set_option maxRecDepth 100000 in
theorem lives_walk (a0 a1 a2 : Int) (w0 : (Lit.int .u8 a0).wf = true) (w1 : (Lit.int .u16 a1).wf = true) (w2 : (Lit.int .u16 a2).wf = true) (w : World) :
    Calls Try.prog 3 #[.int .u8 a0, .int .u16 a1, .int .u16 a2] w fun e w' => e = .returned (.bool true) ∧ Below w.heap.size w w' := by
  obtain ⟨b0, b0'⟩ := bounds_u8 w0
  obtain ⟨b1, b1'⟩ := bounds_u16 w1
  obtain ⟨b2, b2'⟩ := bounds_u16 w2
  clear w0 w1 w2
  have g0 : 0 ≤ a0 % 100 ∧ a0 % 100 < 100 := by omega
  have g1 : 0 ≤ a1 % 1000 ∧ a1 % 1000 < 1000 := by omega
  have g2 : 0 ≤ a2 % 200 ∧ a2 % 200 < 200 := by omega
  obtain ⟨g00, g01⟩ := g0
  obtain ⟨g10, g11⟩ := g1
  obtain ⟨g20, g21⟩ := g2
  by_cases hc : a2 % 200 < 1 + a0 % 100
  all_goals
    go_enter Try.func3, Try.ntmps3
    go_wp2_with fail
    refine (new_ok 3 _ w (by omega) (by omega) (by omega) (by omega)).mono ?_
    rintro e w1 ⟨tb, mb, rfl, ht1, htb, hmb, hc1⟩
    go_wp2_with fail
    refine (begin_any tb mb _ cK cD _ _ ht1 (by refine ⟨?_, ?_, ?_, ?_, ?_, ?_, ?_⟩ <;> simp <;> omega) (len1 _) (len1 _)).mono ?_
    rw [lv1 _ _ (by omega) (by omega)]; rintro e w2 ⟨rfl, ht2, hc2⟩
    go_wp2_with fail
    refine (begin_any tb mb _ cK cD _ _ ht2 (by refine ⟨?_, ?_, ?_, ?_, ?_, ?_, ?_⟩ <;> simp <;> omega) (len1 _) (len1 _)).mono ?_
  · rw [lv2 _ _ _ (by omega) (by omega) (by omega) (by omega)]; rintro e w3 ⟨rfl, ht3, hc3⟩
    go_wp2_with fail
    refine (awake_any _).mono ?_; rintro e w4 ⟨rfl, hb4⟩
    go_wp2_with fail
    go_ret
    have hh : ∀ x ∈ [tb, mb], w.heap.size ≤ x := by simp; omega
    have h2 := (hc2.thenSame hc3).thenSame (Chg.ofBelow hb4)
    exact ⟨rfl, (hc1.trans (T := [tb, mb]) h2 (by simp) (fun x hx _ => hx)).toBelow (Nat.le_refl _) hh⟩
  · obtain ⟨s', hs'⟩ := lv3 (1 + a0 % 100) (a1 % 1000) (a2 % 200) (by omega) (by omega) (by omega) (by omega)
    rw [hs']; rintro e w3 ⟨rfl, ht3, hc3⟩
    go_wp2_with fail
    refine (awake_any _).mono ?_; rintro e w4 ⟨rfl, hb4⟩
    go_wp2_with fail
    go_ret
    have hh : ∀ x ∈ [tb, mb], w.heap.size ≤ x := by simp; omega
    have h2 := (hc2.thenSame hc3).thenSame (Chg.ofBelow hb4)
    exact ⟨rfl, (hc1.trans (T := [tb, mb]) h2 (by simp) (fun x hx _ => hx)).toBelow (Nat.le_refl _) hh⟩
end Go.Proofs.Ytkbblkhkadcpcaa
