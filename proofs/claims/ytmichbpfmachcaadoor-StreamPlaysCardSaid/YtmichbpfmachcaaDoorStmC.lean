/- Chapter 30: contracts: hash.Sum, hash.Bucket, the reference's. No condition. -/
import Derived.Test.YtmichbpfmachcaaDoorStmB
namespace Go.Proofs.YtmichbpfmachcaaDoor
set_option linter.unusedVariables false
set_option linter.unusedSimpArgs false
open Go.RowKit
def sumStep (h : Int) (c : UInt8) : Int := IntKind.u64.wrap (bits BinOp.xor IntKind.u64 h (IntKind.u64.wrap (c.toNat : Int)) * 1099511628211)
def sumZ (s : ByteArray) : Int := s.data.toList.foldl sumStep 14695981039346656037
theorem sum_take (s : ByteArray) (p : Nat) (h : p < s.size) : (s.data.toList.take (p + 1)).foldl sumStep 14695981039346656037 = sumStep ((s.data.toList.take p).foldl sumStep 14695981039346656037) s[p] := by
  have hp : p < s.data.toList.length := by simpa using h
  rw [List.take_succ_eq_append_getElem hp, List.foldl_append]
  rfl
theorem u64_wrap_bounds (x : Int) : 0 ≤ IntKind.u64.wrap x ∧ IntKind.u64.wrap x < 18446744073709551616 := by
  simp [IntKind.wrap, IntKind.bits, IntKind.signed]
  omega
theorem sumZ_bounds (s : ByteArray) : 0 ≤ sumZ s ∧ sumZ s < 18446744073709551616 := by
  have key : ∀ (l : List UInt8) (h : Int), 0 ≤ h → h < 18446744073709551616 → 0 ≤ l.foldl sumStep h ∧ l.foldl sumStep h < 18446744073709551616 := by
    intro l
    induction l with
    | nil => intro h h1 h2; exact ⟨h1, h2⟩
    | cons c l ih => intro h _ _; exact ih _ (u64_wrap_bounds _).1 (u64_wrap_bounds _).2
  exact key _ _ (by decide) (by decide)
theorem sum_any (s : ByteArray) (w : World) (hs : s.size ≤ maxLen) : Calls Tryd.prog 44 #[.string s] w fun e w' => e = .returned (.int .u64 (sumZ s)) ∧ w = w' := by
  unfold maxLen at hs
  obtain ⟨R, hR⟩ : ∃ R, R = sumZ s := ⟨_, rfl⟩
  rw [← hR]
  have HR := Lib.hid hR
  clear hR
  go_enter Tryd.func44, Tryd.ntmps44
  go_wp2_with fail
  go_loop [3, 7] (fun h i => ∃ p : Nat, i = .int .i64 p ∧ p ≤ s.size ∧ h = .int .u64 ((s.data.toList.take p).foldl sumStep 14695981039346656037)) (fun h i => s.size - (intOf i).toNat)
  case atStart => exact ⟨0, rfl, Nat.zero_le _, by simp⟩
  case round =>
    obtain ⟨p, rfl, hp, rfl⟩ := hrel
    by_cases hlt : p < s.size
    · have HST := Lib.hid (sum_take s p hlt)
      generalize (s.data.toList.take p).foldl sumStep 14695981039346656037 = z at *
      go_wp2_with fail
      exact ⟨⟨p + 1, by go_num, by omega, by rw [HST.out]; rfl⟩, by simp [intOf]; omega⟩
    · have hps : p = s.size := by omega
      subst hps
      have HE : Hid (R = (s.data.toList.take s.size).foldl sumStep 14695981039346656037) := Lib.hid (by rw [HR.out]; unfold sumZ; rw [List.take_of_length_le (by simp)])
      rw [← HE.out]
      go_wp2_with fail
      go_ret
      exact ⟨rfl, rfl⟩
theorem rsum_any (s : ByteArray) (w : World) (hs : s.size ≤ maxLen) : Calls Tryd.prog 45 #[.string s] w fun e w' => e = .returned (.int .u64 (sumZ s)) ∧ w = w' := by
  unfold maxLen at hs
  obtain ⟨R, hR⟩ : ∃ R, R = sumZ s := ⟨_, rfl⟩
  rw [← hR]
  have HR := Lib.hid hR
  clear hR
  go_enter Tryd.func45, Tryd.ntmps45
  go_wp2_with fail
  go_loop [3, 4] (fun h i => ∃ p : Nat, i = .int .i64 p ∧ p ≤ s.size ∧ h = .int .u64 ((s.data.toList.take p).foldl sumStep 14695981039346656037)) (fun h i => s.size - (intOf i).toNat)
  case atStart => exact ⟨0, rfl, Nat.zero_le _, by simp⟩
  case round =>
    obtain ⟨p, rfl, hp, rfl⟩ := hrel
    by_cases hlt : p < s.size
    · have HST := Lib.hid (sum_take s p hlt)
      generalize (s.data.toList.take p).foldl sumStep 14695981039346656037 = z at *
      go_wp2_with fail
      exact ⟨⟨p + 1, by go_num, by omega, by rw [HST.out]; rfl⟩, by simp [intOf]; omega⟩
    · have hps : p = s.size := by omega
      subst hps
      have HE : Hid (R = (s.data.toList.take s.size).foldl sumStep 14695981039346656037) := Lib.hid (by rw [HR.out]; unfold sumZ; rw [List.take_of_length_le (by simp)])
      rw [← HE.out]
      go_wp2_with fail
      go_ret
      exact ⟨rfl, rfl⟩
def bucketZ (key : ByteArray) (n : Int) : Int := sumZ key % n
theorem bucketZ_bounds (key : ByteArray) {n : Int} (h : 1 ≤ n) : 0 ≤ bucketZ key n ∧ bucketZ key n < n := ⟨Int.emod_nonneg _ (by omega), Int.emod_lt_of_pos _ (by omega)⟩
theorem bucket_any (key : ByteArray) (n : Int) (w : World) (hs : key.size ≤ maxLen) (h1 : 1 ≤ n) (h2 : n ≤ 1000000000000) : Calls Tryd.prog 36 #[.string key, .int .i64 n] w fun e w' => e = .returned (.tuple #[.int .i64 (bucketZ key n), .int .i64 0]) ∧ w = w' := by
  have A := Lib.hid (sum_any key w hs)
  obtain ⟨hb1, hb2⟩ := sumZ_bounds key
  have hd1 := bucketZ_bounds key h1
  have HE := Lib.hid (show (sumZ key).tmod n = bucketZ key n by unfold bucketZ; rw [Int.tmod_eq_emod_of_nonneg hb1])
  have hd2 := HE.out
  generalize sumZ key = z at *
  generalize bucketZ key n = R at *
  obtain ⟨hd3, hd4⟩ := hd1
  go_enter Tryd.func36, Tryd.ntmps36
  go_wp2_with (go_at_call 44; refine A.out.mono ?_; rintro e w1 ⟨rfl, rfl⟩)
  go_ret2
  exact ⟨rfl, rfl⟩
theorem rbucket_any (key : ByteArray) (n : Int) (w : World) (hs : key.size ≤ maxLen) (h1 : 1 ≤ n) (h2 : n ≤ 1000000000000) : Calls Tryd.prog 37 #[.string key, .int .i64 n] w fun e w' => e = .returned (.tuple #[.int .i64 (bucketZ key n), .int .i64 0]) ∧ w = w' := by
  have A := Lib.hid (rsum_any key w hs)
  obtain ⟨hb1, hb2⟩ := sumZ_bounds key
  have hd1 := bucketZ_bounds key h1
  have HE := Lib.hid (show (sumZ key).tmod n = bucketZ key n by unfold bucketZ; rw [Int.tmod_eq_emod_of_nonneg hb1])
  have hd2 := HE.out
  generalize sumZ key = z at *
  generalize bucketZ key n = R at *
  obtain ⟨hd3, hd4⟩ := hd1
  go_enter Tryd.func37, Tryd.ntmps37
  go_wp2_with (go_at_call 45; refine A.out.mono ?_; rintro e w1 ⟨rfl, rfl⟩)
  go_ret2
  exact ⟨rfl, rfl⟩
end Go.Proofs.YtmichbpfmachcaaDoor
