/- Over any program with num: valid, MulDiv. No condition. Plain: the reference's MulDiv, bit by bit. No condition. The reference's numbers: carry, MulDiv. No condition. -/
import Derived.Lib.MinMax
import Derived.Test.YtehjalgogjkdlaaGreatDoorZ10
import Derived.Test.YtehjalgogjkdlaaGreatDoorZ01
import Derived.Test.YtehjalgogjkdlaaGreatDoorZ04
namespace Go.Proofs.YtehjalgogjkdlaaGreatDoor
set_option linter.unusedVariables false
set_option linter.unusedSimpArgs false
open Go.RowKit
def vldB (n : Int) : Bool := decide (-1000000000000 ≤ n) && decide (n ≤ 1000000000000)
theorem vldB_iff {a : Int} : vldB a = true ↔ -1000000000000 ≤ a ∧ a ≤ 1000000000000 := by unfold vldB; simp
theorem vld_any (n : Int) (w : World) : Calls Tryz.prog 92 #[.int .i64 n] w fun e w' => e = .returned (.bool (vldB n)) ∧ w = w' := by
  by_cases h1 : -1000000000000 ≤ n
  · go_enter Tryz.func92, Tryz.ntmps92
    go_wp2
    go_ret
    exact ⟨by simp [vldB, h1], rfl⟩
  · go_enter Tryz.func92, Tryz.ntmps92
    go_wp2
    go_ret
    exact ⟨by simp [vldB]; omega, rfl⟩
theorem vlds_any (a : Option Addr) (cap : Nat) (l : List Int) (w : World) (h : SlIs icI 1 w a l.length l) (hm : l.length ≤ maxLen) : Calls Tryz.prog 57 #[.slice a l.length cap] w fun e w' => e = .returned (.bool (l.all vldB)) ∧ w = w' := by
  obtain ⟨R, hR⟩ : ∃ R, R = l.all vldB := ⟨_, rfl⟩
  rw [← hR]
  have HR := Lib.hid hR
  have H := Lib.hid h
  unfold maxLen at hm
  clear h hR
  go_enter Tryz.func57, Tryz.ntmps57
  go_wp2_with fail
  go_loop [7] (fun i => ∃ k : Nat, i = .int .i64 k ∧ k ≤ l.length ∧ Hid ((l.take k).all vldB = true)) (fun i => l.length - (intOf i).toNat)
  case atStart => exact ⟨0, rfl, Nat.zero_le _, Lib.hid (by simp)⟩
  case round =>
    obtain ⟨k, rfl, hkl, HT⟩ := hrel
    by_cases hk : k < l.length
    · obtain ⟨b, off, rfl, hb, hc⟩ := H.out.2 k hk
      have c0 := hc 0 (by omega)
      have HS := Lib.hid (show (l.take (k + 1)).all vldB = vldB l[k] by rw [List.take_succ_eq_append_getElem hk, List.all_append, HT.out]; simp)
      have HN := Lib.hid (show vldB l[k] = false → l.all vldB = false from fun hv => List.all_eq_false.2 ⟨l[k], List.getElem_mem hk, by rw [hv]; simp⟩)
      generalize l[k] = x at *
      simp only [icI, List.getElem?_cons_zero, Nat.add_zero, Nat.mul_one] at c0
      have A := vld_any x w
      have hk0 : (0 : Int) ≤ (k : Int) := by omega
      have hk1 : (k : Int) < (l.length : Int) := by omega
      cases hv : vldB x
      · rw [hv] at A
        have A := Lib.hid A
        rename_i A0
        have HE := Lib.hid (HR.out.trans (HN.out hv))
        clear hc A0 hv
        go_wp2_with fail
        refine A.out.mono ?_; rintro e w1 ⟨rfl, rfl⟩
        go_wp2_with fail
        go_ret
        exact ⟨by rw [HE.out]; rfl, rfl⟩
      · rw [hv] at A
        have A := Lib.hid A
        rename_i A0
        have HE := Lib.hid (HS.out.trans hv)
        clear hc A0 hv
        go_wp2_with fail
        refine A.out.mono ?_; rintro e w1 ⟨rfl, rfl⟩
        go_wp2_with fail
        exact ⟨⟨k + 1, by go_num, by omega, HE⟩, by simp [intOf]; omega⟩
    · have hks : k = l.length := by omega
      have HE : Hid (R = true) := Lib.hid (by rw [HR.out]; have := HT.out; rwa [hks, List.take_of_length_le (Nat.le_refl _)] at this)
      clear hks
      go_wp2_with fail
      go_ret
      exact ⟨by rw [HE.out]; rfl, rfl⟩
/-- The quotient of a product, or the error. -/
def mulDivZ (a b c : Int) : Int × Int :=
  if vldB a = false ∨ vldB b = false ∨ vldB c = false ∨ a < 0 ∨ b < 0 ∨ c < 0 then (0, 2) else if c = 0 then (0, 9) else if 1000000000000 < a * b / c then (0, 8) else (a * b / c, 0)
theorem mulDivZ_bad {a b c : Int} (h : vldB a = false ∨ vldB b = false ∨ vldB c = false ∨ a < 0 ∨ b < 0 ∨ c < 0) : mulDivZ a b c = (0, 2) := by unfold mulDivZ; rw [if_pos h]
theorem mulDivZ_nat {a b c : Nat} (ha : a ≤ 1000000000000) (hb : b ≤ 1000000000000) (hc : c ≤ 1000000000000) (h0 : 0 < c) : mulDivZ a b c = if 1000000000000 < a * b / c then (0, 8) else (((a * b / c : Nat) : Int), 0) := by
  unfold mulDivZ
  rw [if_neg (by simp only [← Bool.not_eq_true, vldB_iff]; omega), if_neg (by omega)]
  have e : (a : Int) * b / c = ((a * b / c : Nat) : Int) := by rw [Int.natCast_ediv, Int.natCast_mul]
  rw [e]
  by_cases h : 1000000000000 < a * b / c
  · rw [if_pos h, if_pos (by omega)]
  · rw [if_neg h, if_neg (by omega)]
theorem three_is {W : World} {a b c : Int} {n : Nat} (h : W.heap[n]? = some (.cells #[.int .i64 a, .int .i64 b, .int .i64 c] 3)) : SlIs icI 1 W (some ⟨n, 0, none⟩) 3 [a, b, c] := by
  refine ⟨rfl, fun k hk => ⟨n, 0, rfl, lt_of_heap h, fun j hj => ?_⟩⟩
  have hj0 : j = 0 := by omega
  subst hj0
  rw [blk_cell h]
  match k, hk with
  | 0, _ => rfl
  | 1, _ => rfl
  | 2, _ => rfl
set_option maxHeartbeats 4000000 in
set_option maxRecDepth 100000 in
theorem muldiv_bad (a b c : Int) (w : World) (h : vldB a = false ∨ vldB b = false ∨ vldB c = false ∨ a < 0 ∨ b < 0 ∨ c < 0) : Calls Tryz.prog 26 #[.int .i64 a, .int .i64 b, .int .i64 c] w fun e w' => e = .returned (.tuple #[.int .i64 0, .int .i64 2]) ∧ Chg [] w w' := by
  have hb := heap_alloc_new w (.cells #[.int .i64 a, .int .i64 b, .int .i64 c] 3)
  have A := vlds_any (some ⟨w.heap.size, 0, none⟩) 3 [a, b, c] _ (three_is hb) (by simp [maxLen])
  have hC := Lib.hid (show Chg [] w (w.alloc (.cells #[.int .i64 a, .int .i64 b, .int .i64 c] 3)) from (Chg.refl _ _).alloc _)
  simp only [List.all_cons, List.all_nil, Bool.and_true, List.length_cons, List.length_nil] at A
  by_cases hv : (vldB a && (vldB b && vldB c)) = true
  · rw [hv] at A
    have A := Lib.hid A
    rename_i A0
    have hneg : a < 0 ∨ b < 0 ∨ c < 0 := by
      simp only [Bool.and_eq_true] at hv
      rcases h with h | h | h | h
      · rw [h] at hv; cases hv.1
      · rw [h] at hv; cases hv.2.1
      · rw [h] at hv; cases hv.2.2
      · exact h
    clear A0 hb hv h
    have hmin : min (min a b) c < 0 := by omega
    have hmin2 : min a (min b c) < 0 := by omega
    clear hneg
    go_enter Tryz.func26, Tryz.ntmps26
    go_wp2_with fail
    refine A.out.mono ?_; rintro e w1 ⟨rfl, rfl⟩
    go_wp2_with fail
    all_goals first
      | (exfalso; omega)
      | (skip
         go_ret2
         exact ⟨rfl, hC.out⟩)
  · rw [Bool.not_eq_true] at hv
    rw [hv] at A
    have A := Lib.hid A
    rename_i A0
    clear A0 hb hv h
    go_enter Tryz.func26, Tryz.ntmps26
    go_wp2_with fail
    refine A.out.mono ?_; rintro e w1 ⟨rfl, rfl⟩
    go_wp2_with fail
    all_goals first
      | (exfalso; omega)
      | (skip
         go_ret2
         exact ⟨rfl, hC.out⟩)
set_option maxHeartbeats 4000000 in
set_option maxRecDepth 100000 in
theorem muldiv_nat (a b c : Nat) (ha : a ≤ 1000000000000) (hb : b ≤ 1000000000000) (hc : c ≤ 1000000000000) (w : World) : Calls Tryz.prog 26 #[.int .i64 a, .int .i64 b, .int .i64 c] w fun e w' => e = .returned (.tuple #[.int .i64 (mulDivZ a b c).1, .int .i64 (mulDivZ a b c).2]) ∧ Chg [] w w' := by
  have hh := heap_alloc_new w (.cells #[.int .i64 a, .int .i64 b, .int .i64 c] 3)
  have A := vlds_any (some ⟨w.heap.size, 0, none⟩) 3 [(a : Int), b, c] _ (three_is hh) (by simp [maxLen])
  have hC := Lib.hid (show Chg [] w (w.alloc (.cells #[.int .i64 a, .int .i64 b, .int .i64 c] 3)) from (Chg.refl _ _).alloc _)
  have h1 : vldB a = true := vldB_iff.2 (by omega)
  have h2 : vldB b = true := vldB_iff.2 (by omega)
  have h3 : vldB c = true := vldB_iff.2 (by omega)
  simp only [List.all_cons, List.all_nil, Bool.and_true, List.length_cons, List.length_nil, h1, h2, h3] at A
  have A := Lib.hid A
  rename_i A0
  have hmin : ¬ min (min (a : Int) b) c < 0 := by omega
  have hmin2 : ¬ min (a : Int) (min b c) < 0 := by omega
  clear A0 hh h1 h2 h3
  by_cases h0 : c = 0
  · subst h0
    have HZ := Lib.hid (show mulDivZ a b (0 : Nat) = (0, 9) by unfold mulDivZ; rw [if_neg (by simp only [← Bool.not_eq_true, vldB_iff]; omega)]; rfl)
    rw [HZ.out]
    go_enter Tryz.func26, Tryz.ntmps26
    go_wp2_with fail
    refine A.out.mono ?_; rintro e w1 ⟨rfl, rfl⟩
    go_wp2_with fail
    all_goals first
      | (exfalso; omega)
      | (skip
         go_ret2
         exact ⟨rfl, hC.out⟩)
  · have HZ := Lib.hid (mulDivZ_nat ha hb hc (by omega))
    have M := Lib.hid (fun w' => Tryz.bits_Mul64 a b (by omega) (by omega) w')
    obtain ⟨p, hp⟩ : ∃ p, p = a * b := ⟨_, rfl⟩
    have hpl : p ≤ 1000000000000000000000000 := by rw [hp]; exact Nat.mul_le_mul ha hb
    rw [← hp] at HZ M
    obtain ⟨hi, hhi⟩ : ∃ hi, hi = p / 18446744073709551616 := ⟨_, rfl⟩
    obtain ⟨lo, hlo⟩ : ∃ lo, lo = p % 18446744073709551616 := ⟨_, rfl⟩
    rw [← hhi, ← hlo] at M
    have hpe : p = hi * 18446744073709551616 + lo := by omega
    have hc0 : ((c : Int) == 0) = false := by rw [beq_eq_false_iff_ne]; omega
    obtain ⟨Z, hZ⟩ : ∃ Z, Z = mulDivZ a b c := ⟨_, rfl⟩
    rw [← hZ] at HZ ⊢
    have hlo2 : lo < 18446744073709551616 := by omega
    by_cases hg : c ≤ hi
    · have hge : (c : Int) ≤ (hi : Int) := by omega
      have HZ2 := Lib.hid (show Z = (0, 8) by
        rw [HZ.out, if_pos]
        refine Nat.lt_of_lt_of_le (show 1000000000000 < 18446744073709551616 by decide) ?_
        rw [Nat.le_div_iff_mul_le (by omega), hpe]
        have := Nat.mul_le_mul_left 18446744073709551616 hg
        omega)
      rw [HZ2.out]
      clear hZ hp hhi hlo hpe hpl
      go_enter Tryz.func26, Tryz.ntmps26
      go_wp2_with fail
      refine A.out.mono ?_; rintro e w1 ⟨rfl, rfl⟩
      go_wp2_with fail
      all_goals first
        | (exfalso; omega)
        | (skip
           refine (M.out _).mono ?_; rintro e w2 ⟨rfl, rfl⟩
           go_wp2_with fail
           go_ret2
           exact ⟨rfl, hC.out⟩)
    · have hge : ¬ (c : Int) ≤ (hi : Int) := by omega
      have D := Lib.hid (fun w' => div64_any hi lo c (by omega) (by omega) hlo2 w')
      rw [← hpe] at D
      obtain ⟨q, hq⟩ : ∃ q, q = p / c := ⟨_, rfl⟩
      rw [← hq] at D HZ
      have hqb : q < 18446744073709551616 := by
        rw [hq, Nat.div_lt_iff_lt_mul (by omega), hpe]
        have := Nat.mul_le_mul_left 18446744073709551616 (show hi + 1 ≤ c by omega)
        omega
      by_cases hqm : 1000000000000 < q
      · have hqm2 : (1000000000000 : Int) < (q : Int) := by omega
        have HZ2 := Lib.hid (show Z = (0, 8) by rw [HZ.out, if_pos hqm])
        rw [HZ2.out]
        clear hZ hp hhi hlo hpe hpl hq
        go_enter Tryz.func26, Tryz.ntmps26
        go_wp2_with fail
        refine A.out.mono ?_; rintro e w1 ⟨rfl, rfl⟩
        go_wp2_with fail
        all_goals first
          | (exfalso; omega)
          | (skip
             refine (M.out _).mono ?_; rintro e w2 ⟨rfl, rfl⟩
             go_wp2_with fail
             refine (D.out _).mono ?_; rintro e w3 ⟨⟨r, rfl⟩, h9⟩
             have C3 := Lib.hid (hC.out.thenSame h9)
             clear h9
             go_wp2_with fail
             go_ret2
             exact ⟨rfl, C3.out⟩)
      · have hqm2 : ¬ (1000000000000 : Int) < (q : Int) := by omega
        have HZ2 := Lib.hid (show Z = ((q : Int), 0) by rw [HZ.out, if_neg hqm])
        rw [HZ2.out]
        clear hZ hp hhi hlo hpe hpl hq
        go_enter Tryz.func26, Tryz.ntmps26
        go_wp2_with fail
        refine A.out.mono ?_; rintro e w1 ⟨rfl, rfl⟩
        go_wp2_with fail
        all_goals first
          | (exfalso; omega)
          | (skip
             refine (M.out _).mono ?_; rintro e w2 ⟨rfl, rfl⟩
             go_wp2_with fail
             refine (D.out _).mono ?_; rintro e w3 ⟨⟨r, rfl⟩, h9⟩
             have C3 := Lib.hid (hC.out.thenSame h9)
             clear h9
             go_wp2_with fail
             go_ret2
             exact ⟨rfl, C3.out⟩)
/-- MulDiv, whatever its arguments. -/
theorem muldiv_any (a b c : Int) (w : World) : Calls Tryz.prog 26 #[.int .i64 a, .int .i64 b, .int .i64 c] w fun e w' => e = .returned (.tuple #[.int .i64 (mulDivZ a b c).1, .int .i64 (mulDivZ a b c).2]) ∧ Chg [] w w' := by
  by_cases h : vldB a = false ∨ vldB b = false ∨ vldB c = false ∨ a < 0 ∨ b < 0 ∨ c < 0
  · rw [mulDivZ_bad h]
    exact muldiv_bad a b c w h
  · simp only [not_or, Bool.not_eq_false, vldB_iff] at h
    obtain ⟨a1, a2, a3, a4, a5, a6⟩ := h
    have ea : a = (a.toNat : Int) := by omega
    have eb : b = (b.toNat : Int) := by omega
    have ec : c = (c.toNat : Int) := by omega
    rw [ea, eb, ec]
    exact muldiv_nat _ _ _ (by omega) (by omega) (by omega) w
end Go.Proofs.YtehjalgogjkdlaaGreatDoor

namespace Go.Proofs.YtehjalgogjkdlaaGreatDoor
set_option linter.unusedVariables false
set_option linter.unusedSimpArgs false
open Go.RowKit
/-- One round: the leading bits p become 2 p + t. -/
theorem md_step {q r p b c t : Nat} (hc : 0 < c) (h : q * c + r = p * b) (hr : r < c) (ht : t ≤ 1) (q1 r1 q2 r2 : Nat)
    (h1 : (q1, r1) = if c ≤ 2 * r then (2 * q + 1, 2 * r - c) else (2 * q, 2 * r))
    (h2 : (q2, r2) = if t = 1 then (if c ≤ r1 + b % c then (q1 + b / c + 1, r1 + b % c - c) else (q1 + b / c, r1 + b % c)) else (q1, r1)) :
    q2 * c + r2 = (2 * p + t) * b ∧ r2 < c := by
  have e1 : q1 * c + r1 = 2 * p * b ∧ r1 < c := by
    have : 2 * p * b = 2 * (q * c) + 2 * r := by rw [Nat.mul_assoc, ← h]; omega
    rw [this]
    split at h1 <;> cases h1
    · refine ⟨?_, by omega⟩
      rw [Nat.add_mul, Nat.mul_assoc]; omega
    · refine ⟨by rw [Nat.mul_assoc], by omega⟩
  clear h1 h
  obtain ⟨e1, e2⟩ := e1
  have hm := Nat.mod_lt b hc
  have hd := Nat.div_add_mod b c
  rw [Nat.mul_comm] at hd
  rcases (by omega : t = 0 ∨ t = 1) with rfl | rfl
  · simp only [Nat.zero_ne_one, if_false] at h2
    cases h2
    exact ⟨by simpa using e1, e2⟩
  · simp only [if_true] at h2
    have : (2 * p + 1) * b = q1 * c + r1 + (b / c * c + b % c) := by rw [Nat.add_mul, Nat.one_mul, ← e1, hd]
    rw [this]
    split at h2 <;> cases h2
    · refine ⟨?_, by omega⟩
      rw [Nat.add_mul, Nat.add_mul]; omega
    · refine ⟨?_, by omega⟩
      rw [Nat.add_mul]; omega
theorem md_quot {q r x c : Nat} (h : q * c + r = x) (hr : r < c) : x / c = q := by
  subst h
  rw [Nat.mul_comm, Nat.mul_add_div (by omega), Nat.div_eq_of_lt hr, Nat.add_zero]
/-- The next leading bit. -/
theorem md_bit (a k : Nat) : a / 2 ^ k = 2 * (a / 2 ^ (k + 1)) + (a / 2 ^ k) % 2 := by
  have : a / 2 ^ (k + 1) = a / 2 ^ k / 2 := by rw [Nat.pow_succ, Nat.div_div_eq_div_mul]
  rw [this]; omega
theorem md_test (a k : Nat) : (a &&& 2 ^ k = 0) ↔ (a / 2 ^ k) % 2 = 0 := by
  have h : a.testBit k = decide ((a / 2 ^ k) % 2 = 1) := Nat.testBit_eq_decide_div_mod_eq
  constructor
  · intro e
    have : (a &&& 2 ^ k).testBit k = false := by rw [e]; simp
    rw [Nat.testBit_and, Nat.testBit_two_pow_self, Bool.and_true, h] at this
    simp at this; omega
  · intro e
    have h0 : a.testBit k = false := by rw [h]; simp [e]
    refine Nat.eq_of_testBit_eq fun i => ?_
    rw [Nat.testBit_and, Nat.testBit_two_pow, Nat.zero_testBit]
    by_cases hi : k = i
    · subst hi; simp [h0]
    · simp [hi]
theorem md_mono {a b c k M : Nat} (h : M < a / 2 ^ k * b / c) : M < a * b / c :=
  Nat.lt_of_lt_of_le h (Nat.div_le_div_right (Nat.mul_le_mul_right b (Nat.div_le_self a _)))
end Go.Proofs.YtehjalgogjkdlaaGreatDoor

namespace Go.Proofs.YtehjalgogjkdlaaGreatDoor
set_option linter.unusedVariables false
set_option linter.unusedSimpArgs false
open Go.RowKit
theorem bits_and_i64_nat (a b : Nat) (ha : a < 9223372036854775808) (hb : b < 9223372036854775808) : bits .and .i64 (a : Int) (b : Int) = ((a &&& b : Nat) : Int) := by
  have hx : a &&& b < 2 ^ 63 := Nat.and_lt_two_pow _ (by omega)
  have h1 : (BitVec.ofInt 64 (a : Int)).toNat = a := by
    rw [BitVec.ofInt_natCast, BitVec.toNat_ofNat]; exact Nat.mod_eq_of_lt (by omega)
  have h2 : (BitVec.ofInt 64 (b : Int)).toNat = b := by
    rw [BitVec.ofInt_natCast, BitVec.toNat_ofNat]; exact Nat.mod_eq_of_lt (by omega)
  show IntKind.i64.wrap ((BitVec.ofInt 64 (a : Int) &&& BitVec.ofInt 64 (b : Int)).toNat : Int) = _
  rw [BitVec.toNat_and, h1, h2, IntKind.wrap_i64]
  omega
theorem rv01_any (n : Int) (w : World) : Calls Tryz.prog 62 #[.int .i64 n] w fun e w' => e = .returned (.bool (vldB n)) ∧ w = w' := by
  by_cases h1 : -1000000000000 ≤ n
  · go_enter Tryz.func62, Tryz.ntmps62
    go_wp2
    go_ret
    exact ⟨by simp [vldB, h1], rfl⟩
  · go_enter Tryz.func62, Tryz.ntmps62
    go_wp2
    go_ret
    exact ⟨by simp [vldB]; omega, rfl⟩
theorem carry_any (q r c : Nat) (hq : q ≤ 4000000000000) (hr : r ≤ 4000000000000) (hc : c ≤ 1000000000000) (w : World) : Calls Tryz.prog 63 #[.int .i64 q, .int .i64 r, .int .i64 c] w fun e w' => e = .returned (.tuple #[.int .i64 ((if c ≤ r then (q + 1, r - c) else (q, r)).1 : Nat), .int .i64 ((if c ≤ r then (q + 1, r - c) else (q, r)).2 : Nat)]) ∧ w = w' := by
  by_cases h : c ≤ r
  · have h2 : (c : Int) ≤ (r : Int) := by omega
    have E := Lib.hid (show (r : Int) - c = ((r - c : Nat) : Int) by omega)
    rw [if_pos h]
    clear h
    go_enter Tryz.func63, Tryz.ntmps63
    go_wp2_with fail
    go_ret2
    exact ⟨by rw [E.out]; simp, rfl⟩
  · have h2 : ¬ (c : Int) ≤ (r : Int) := by omega
    rw [if_neg h]
    clear h
    go_enter Tryz.func63, Tryz.ntmps63
    go_wp2_with fail
    go_ret2
    exact ⟨rfl, rfl⟩
set_option maxHeartbeats 4000000 in
set_option maxRecDepth 100000 in
theorem rmuldiv_bad (a b c : Int) (w : World) (h : vldB a = false ∨ vldB b = false ∨ vldB c = false ∨ a < 0 ∨ b < 0 ∨ c < 0) : Calls Tryz.prog 31 #[.int .i64 a, .int .i64 b, .int .i64 c] w fun e w' => e = .returned (.tuple #[.int .i64 0, .int .i64 2]) ∧ Chg [] w w' := by
  have A := fun n w' => rv01_any n w'
  have A1 := Lib.hid (A a)
  have A2 := Lib.hid (A b)
  have A3 := Lib.hid (A c)
  clear A
  generalize vldB a = p at *
  generalize vldB b = q at *
  generalize vldB c = r at *
  by_cases ha : a < 0 <;> by_cases hb : b < 0 <;> by_cases hc : c < 0 <;> cases p <;> cases q <;> cases r
  all_goals first
    | (exfalso; simp only [Bool.true_eq_false, false_or] at h; omega)
    | (clear h
       go_enter Tryz.func31, Tryz.ntmps31
       go_wp2_with (first | (go_at_call 62; (with_reducible refine (A1.out _).mono ?_); rintro e w1 ⟨rfl, rfl⟩) | (go_at_call 62; (with_reducible refine (A2.out _).mono ?_); rintro e w1 ⟨rfl, rfl⟩) | (go_at_call 62; (with_reducible refine (A3.out _).mono ?_); rintro e w1 ⟨rfl, rfl⟩))
       go_ret2
       exact ⟨rfl, Chg.refl _ _⟩)
/-- What the loop of the reference's MulDiv keeps: k bits are left. -/
structure MdI (a b c k Q R : Nat) : Prop where
  eq : Q * c + R = a / 2 ^ k * b
  lt : R < c
  top : Q ≤ 1000000000000
/-- A round's numbers. -/
structure MdR (a b c k Q R q1 r1 q2 r2 t : Nat) : Prop where
  h1 : (q1, r1) = if c ≤ 2 * R then (2 * Q + 1, 2 * R - c) else (2 * Q, 2 * R)
  h2 : (q2, r2) = if t = 1 then (if c ≤ r1 + b % c then (q1 + b / c + 1, r1 + b % c - c) else (q1 + b / c, r1 + b % c)) else (q1, r1)
  t : t = a / 2 ^ k % 2
theorem MdR.next {a b c k Q R q1 r1 q2 r2 t : Nat} (h : MdR a b c k Q R q1 r1 q2 r2 t) (i : MdI a b c (k + 1) Q R) : q2 * c + r2 = a / 2 ^ k * b ∧ r2 < c := by
  have := md_step (by have := i.lt; omega) i.eq i.lt (by rw [h.t]; omega : t ≤ 1) q1 r1 q2 r2 h.h1 h.h2
  rw [h.t, ← md_bit a k] at this
  exact this
set_option maxHeartbeats 4000000 in
set_option maxRecDepth 100000 in
theorem rmuldiv_nat (a b c : Nat) (ha : a ≤ 1000000000000) (hb : b ≤ 1000000000000) (hc : c ≤ 1000000000000) (w : World) : Calls Tryz.prog 31 #[.int .i64 a, .int .i64 b, .int .i64 c] w fun e w' => e = .returned (.tuple #[.int .i64 (mulDivZ a b c).1, .int .i64 (mulDivZ a b c).2]) ∧ Chg [] w w' := by
  have A1 := rv01_any a
  have A2 := rv01_any b
  have A3 := rv01_any c
  rw [show vldB a = true from vldB_iff.2 (by omega)] at A1
  rw [show vldB b = true from vldB_iff.2 (by omega)] at A2
  rw [show vldB c = true from vldB_iff.2 (by omega)] at A3
  have A1 := Lib.hid A1
  have A2 := Lib.hid A2
  have A3 := Lib.hid A3
  rename_i A10 A20 A30
  clear A10 A20 A30
  have na : ¬ (a : Int) < 0 := by omega
  have nb : ¬ (b : Int) < 0 := by omega
  have nc : ¬ (c : Int) < 0 := by omega
  by_cases h0 : c = 0
  · subst h0
    have HZ := Lib.hid (show mulDivZ a b (0 : Nat) = (0, 9) by unfold mulDivZ; rw [if_neg (by simp only [← Bool.not_eq_true, vldB_iff]; omega)]; rfl)
    rw [HZ.out]
    simp only [Int.natCast_zero] at A3 ⊢
    clear nc
    go_enter Tryz.func31, Tryz.ntmps31
    go_wp2_with (first | (go_at_call 62; (with_reducible refine (A1.out _).mono ?_); rintro e w1 ⟨rfl, rfl⟩) | (go_at_call 62; (with_reducible refine (A2.out _).mono ?_); rintro e w1 ⟨rfl, rfl⟩) | (go_at_call 62; (with_reducible refine (A3.out _).mono ?_); rintro e w1 ⟨rfl, rfl⟩))
    go_ret2
    exact ⟨rfl, Chg.refl _ _⟩
  · have HZ := Lib.hid (mulDivZ_nat ha hb hc (by omega))
    obtain ⟨Z, hZ⟩ : ∃ Z, Z = mulDivZ a b c := ⟨_, rfl⟩
    rw [← hZ] at HZ ⊢
    have nc0 : ((c : Int) == 0) = false := by rw [beq_eq_false_iff_ne]; omega
    have nc1 : (c : Int) ≠ 0 := by omega
    have HC := Lib.hid (fun q r hq hr w' => carry_any q r c hq hr hc w')
    have H0 := Lib.hid (show MdI a b c 41 0 0 from ⟨by rw [Nat.div_eq_of_lt (by omega)]; simp, by omega, by omega⟩)
    obtain ⟨bd, hbd⟩ : ∃ bd, bd = b / c := ⟨_, rfl⟩
    obtain ⟨bm, hbm⟩ : ∃ bm, bm = b % c := ⟨_, rfl⟩
    have hbd1 : bd ≤ 1000000000000 := by rw [hbd]; exact Nat.le_trans (Nat.div_le_self _ _) hb
    have hbm1 : bm < c := by rw [hbm]; exact Nat.mod_lt _ (by omega)
    have EBD := Lib.hid (show (b : Int) / (c : Int) = (bd : Int) by rw [hbd, Int.natCast_ediv])
    have EBM := Lib.hid (show (b : Int) % (c : Int) = (bm : Int) by rw [hbm, Int.natCast_emod])
    have EBD2 := Lib.hid (show (b : Int).tdiv (c : Int) = (bd : Int) by rw [hbd, ← Int.ofNat_tdiv])
    have EBM2 := Lib.hid (show (b : Int).tmod (c : Int) = (bm : Int) by rw [hbm, ← Int.ofNat_tmod])
    have HBD := Lib.hid hbd
    have HBM := Lib.hid hbm
    clear hZ hbd hbm
    go_enter Tryz.func31, Tryz.ntmps31
    go_wp2_with (first | (go_at_call 62; (with_reducible refine (A1.out _).mono ?_); rintro e w1 ⟨rfl, rfl⟩) | (go_at_call 62; (with_reducible refine (A2.out _).mono ?_); rintro e w1 ⟨rfl, rfl⟩) | (go_at_call 62; (with_reducible refine (A3.out _).mono ?_); rintro e w1 ⟨rfl, rfl⟩))
    go_loopw [8, 9, 10] (fun qv rv bv wr => ∃ Q R k B : Nat, qv = .int .i64 Q ∧ rv = .int .i64 R ∧ bv = .int .i64 B ∧ k ≤ 41 ∧ Hid (2 ^ k / 2 = B) ∧ Hid (MdI a b c k Q R) ∧ Hid (Chg [] w wr)) (fun _ _ bv _ => (intOf bv).toNat)
    case atStart => exact ⟨0, 0, 41, 1099511627776, rfl, rfl, rfl, Nat.le_refl _, Lib.hid (by decide), H0, Lib.hid (Chg.refl _ _)⟩
    case round =>
      obtain ⟨Q, R, k, B, rfl, rfl, rfl, hk, HB, HI, HCW⟩ := hrel
      cases k with
      | zero =>
        have hB : B = 0 := by have := HB.out; omega
        subst hB
        have HE := Lib.hid (show Z = ((Q : Int), 0) by
          have h1 := HI.out.eq
          rw [Nat.pow_zero, Nat.div_one] at h1
          have h2 := md_quot h1 HI.out.lt
          have h3 := HI.out.top
          rw [HZ.out, h2, if_neg (by omega)])
        go_wp2_with fail
        rw [HE.out]
        go_ret2
        exact ⟨rfl, HCW.out⟩
      | succ k =>
        have hB : B = 2 ^ k := by rw [← HB.out, Nat.pow_succ, Nat.mul_div_cancel _ (by decide)]
        have hBp : 0 < B := by rw [hB]; exact Nat.two_pow_pos k
        have hB41 : B ≤ 1099511627776 := by rw [hB]; exact Nat.pow_le_pow_right (by decide) (by omega : k ≤ 40)
        have hR := HI.out.lt
        have hQ := HI.out.top
        obtain ⟨t, ht⟩ : ∃ t, t = a / 2 ^ k % 2 := ⟨_, rfl⟩
        obtain ⟨q1, r1, h1⟩ : ∃ q1 r1, (q1, r1) = if c ≤ 2 * R then (2 * Q + 1, 2 * R - c) else (2 * Q, 2 * R) := ⟨_, _, rfl⟩
        obtain ⟨q2, r2, h2⟩ : ∃ q2 r2, (q2, r2) = if t = 1 then (if c ≤ r1 + b % c then (q1 + b / c + 1, r1 + b % c - c) else (q1 + b / c, r1 + b % c)) else (q1, r1) := ⟨_, _, rfl⟩
        have hN := (MdR.mk (k := k) h1 h2 ht).next HI.out
        have hq1 : q1 ≤ 2 * Q + 1 ∧ r1 < c := by
          split at h1 <;> cases h1 <;> omega
        have C1 := HC.out (2 * Q) (2 * R) (by omega) (by omega)
        rw [← h1] at C1
        have D1 := Lib.hid C1
        have EB := Lib.hid (show bits BinOp.and IntKind.i64 (a : Int) (B : Int) = ((a &&& B : Nat) : Int) from bits_and_i64_nat a B (by omega) (by omega))
        obtain ⟨B2, hB2⟩ : ∃ B2, B2 = 2 ^ k / 2 := ⟨_, rfl⟩
        have E2 := Lib.hid (show (B : Int) / 2 = (B2 : Int) by omega)
        have HB3 := Lib.hid hB2.symm
        have HN := Lib.hid hN
        have e2Q := Lib.hid (show (2 : Int) * Q = ((2 * Q : Nat) : Int) by omega)
        have e2R := Lib.hid (show (2 : Int) * R = ((2 * R : Nat) : Int) by omega)
        have htest := md_test a k
        rw [← ht, ← hB] at htest
        have HB2 := Lib.hid hB
        have HBB := Lib.hid (show B2 < B by omega)
        have ht1 : t ≤ 1 := by omega
        simp only at D1
        rw [← e2Q.out, ← e2R.out] at D1
        obtain ⟨g, hg⟩ : ∃ g, g = a &&& B := ⟨_, rfl⟩
        rw [← hg] at EB htest
        have eb := EB.out
        rw [← HBD.out, ← HBM.out] at h2
        clear C1 h1 hN hB ht HI HB hg hB2
        have hB0 : (0 : Int) < (B : Int) := by omega
        rcases (by omega : t = 0 ∨ t = 1) with ht0 | ht1'
        · have hg0 : g = 0 := htest.2 ht0
          rw [if_neg (by omega)] at h2
          obtain ⟨rfl, rfl⟩ : q2 = q1 ∧ r2 = r1 := by cases h2; exact ⟨rfl, rfl⟩
          have hgb : ((g : Int) != 0) = false := by rw [hg0]; rfl
          have hg1 : ¬ (g : Int) ≠ 0 := by omega
          clear h2 htest ht0 ht1 hg0
          by_cases hov : 1000000000000 < q2
          · have hov2 : (1000000000000 : Int) < (q2 : Int) := by omega
            have HE := Lib.hid (show Z = (0, 8) by
              rw [HZ.out, if_pos]
              have := md_quot HN.out.1 HN.out.2
              exact md_mono (k := k) (by rw [this]; exact hov))
            clear hov
            go_wp2_with fail
            refine (D1.out _).mono ?_; rintro e w1 ⟨rfl, rfl⟩
            go_wp2_with fail
            trace_state
            rw [HE.out]
            go_ret2
            exact ⟨rfl, HCW.out⟩
          · have hov2 : ¬ (1000000000000 : Int) < (q2 : Int) := by omega
            have HI2 := Lib.hid (show MdI a b c k q2 r2 from ⟨HN.out.1, HN.out.2, by omega⟩)
            clear hov
            go_wp2_with fail
            refine (D1.out _).mono ?_; rintro e w1 ⟨rfl, rfl⟩
            go_wp2_with fail
            exact ⟨⟨q2, r2, k, B2, rfl, rfl, by rw [E2.out], by omega, HB3, HI2, HCW⟩, by rw [E2.out]; have := HBB.out; simp [intOf]; omega⟩
        · have hg0 : g ≠ 0 := fun q => by have := htest.1 q; omega
          rw [if_pos ht1'] at h2
          have hgb : ((g : Int) != 0) = true := by rw [bne_iff_ne]; omega
          have hg1 : (g : Int) ≠ 0 := by omega
          have C2 := HC.out (q1 + bd) (r1 + bm) (by omega) (by omega)
          rw [← h2] at C2
          obtain ⟨u, hu⟩ : ∃ u, u = q1 + bd := ⟨_, rfl⟩
          obtain ⟨v, hv⟩ : ∃ v, v = r1 + bm := ⟨_, rfl⟩
          rw [← hu, ← hv] at C2
          have D2 := Lib.hid C2
          have z1 : IntKind.i64.wrap ((b : Int).tdiv (c : Int)) = (bd : Int) := by rw [EBD2.out]; exact wrapI (by omega) (by omega)
          have z2 : (b : Int).tmod (c : Int) = (bm : Int) := EBM2.out
          have z3 : IntKind.i64.wrap ((b : Int) / (c : Int)) = (bd : Int) := by rw [EBD.out]; exact wrapI (by omega) (by omega)
          have z4 : (b : Int) % (c : Int) = (bm : Int) := EBM.out
          have z5 : IntKind.i64.wrap ((q1 : Int) + (bd : Int)) = (u : Int) := by rw [wrapI (by omega) (by omega)]; omega
          have z6 : IntKind.i64.wrap ((r1 : Int) + (bm : Int)) = (v : Int) := by rw [wrapI (by omega) (by omega)]; omega
          clear h2 htest ht1' ht1 hg0 C2 hu hv EBD EBM EBD2 EBM2
          by_cases hov : 1000000000000 < q2
          · have hov2 : (1000000000000 : Int) < (q2 : Int) := by omega
            have HE := Lib.hid (show Z = (0, 8) by
              rw [HZ.out, if_pos]
              have := md_quot HN.out.1 HN.out.2
              exact md_mono (k := k) (by rw [this]; exact hov))
            clear hov
            go_wp2_with fail
            refine (D1.out _).mono ?_; rintro e w1 ⟨rfl, rfl⟩
            go_wp2_with fail
            go_quiet (with_reducible exact Calls.quiet_of_same ((D2.out _).mono (fun e w' h => ⟨h.1, h.2.symm⟩)))
            go_wp2_with fail
            rw [HE.out]
            go_ret2
            exact ⟨rfl, HCW.out.drewN _⟩
          · have hov2 : ¬ (1000000000000 : Int) < (q2 : Int) := by omega
            have HI2 := Lib.hid (show MdI a b c k q2 r2 from ⟨HN.out.1, HN.out.2, by omega⟩)
            clear hov
            go_wp2_with fail
            refine (D1.out _).mono ?_; rintro e w1 ⟨rfl, rfl⟩
            go_wp2_with fail
            go_quiet (with_reducible exact Calls.quiet_of_same ((D2.out _).mono (fun e w' h => ⟨h.1, h.2.symm⟩)))
            go_wp2_with fail
            exact ⟨⟨q2, r2, k, B2, rfl, rfl, by rw [E2.out], by omega, HB3, HI2, Lib.hid (HCW.out.drewN _)⟩, by rw [E2.out]; have := HBB.out; simp [intOf]; omega⟩
/-- The reference's MulDiv is the program's. -/
theorem rmuldiv_any (a b c : Int) (w : World) : Calls Tryz.prog 31 #[.int .i64 a, .int .i64 b, .int .i64 c] w fun e w' => e = .returned (.tuple #[.int .i64 (mulDivZ a b c).1, .int .i64 (mulDivZ a b c).2]) ∧ Chg [] w w' := by
  by_cases h : vldB a = false ∨ vldB b = false ∨ vldB c = false ∨ a < 0 ∨ b < 0 ∨ c < 0
  · rw [mulDivZ_bad h]
    exact rmuldiv_bad a b c w h
  · simp only [not_or, Bool.not_eq_false, vldB_iff] at h
    obtain ⟨a1, a2, a3, a4, a5, a6⟩ := h
    have ea : a = (a.toNat : Int) := by omega
    have eb : b = (b.toNat : Int) := by omega
    have ec : c = (c.toNat : Int) := by omega
    rw [ea, eb, ec]
    exact rmuldiv_nat _ _ _ (by omega) (by omega) (by omega) w
end Go.Proofs.YtehjalgogjkdlaaGreatDoor
