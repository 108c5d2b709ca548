/- Chapter 22: contracts of the program: the check of a text. No condition. -/
import Derived.Test.YtldilefhmpipkaaSecB
import Derived.Test.YtldilefhmpipkaaStr
import Derived.Lib.ConvBytes
namespace Go.Proofs.Ytldilefhmpipkaa
set_option linter.unusedVariables false
set_option linter.unusedSimpArgs false
open Go.RowKit

def firstBad (s : ByteArray) : Int := match (List.range s.size).find? (fun i => badC (byteAt s i)) with | some i => (i : Int) | none => -1
theorem firstBad_hit {s : ByteArray} {k : Nat} (hk : k < s.size) (h : (List.range k).all (fun i => !badC (byteAt s i)) = true) (hb : badC (byteAt s k) = true) : firstBad s = (k : Int) := by
  have : (List.range s.size).find? (fun i => badC (byteAt s i)) = some k := by
    rw [List.find?_eq_some_iff_getElem]
    refine ⟨hb, k, by simpa using hk, by simp, fun j hj => ?_⟩
    have := List.all_eq_true.1 h j (List.mem_range.2 hj)
    simpa using this
  unfold firstBad; rw [this]
theorem firstBad_miss {s : ByteArray} (h : (List.range s.size).all (fun i => !badC (byteAt s i)) = true) : firstBad s = -1 := by
  have : (List.range s.size).find? (fun i => badC (byteAt s i)) = none := by
    rw [List.find?_eq_none]
    intro x hx
    have := List.all_eq_true.1 h x hx
    simpa using this
  unfold firstBad; rw [this]
theorem firstBad_neg (s : ByteArray) : decide (0 ≤ firstBad s) = !(List.range s.size).all (fun i => !badC (byteAt s i)) := by
  unfold firstBad
  cases h : (List.range s.size).find? (fun i => badC (byteAt s i)) with
  | none =>
    rw [List.find?_eq_none] at h
    have : (List.range s.size).all (fun i => !badC (byteAt s i)) = true := List.all_eq_true.2 (fun x hx => by simpa using h x hx)
    rw [this]; rfl
  | some i =>
    have h1 := List.find?_some h
    have h2 := List.mem_of_find?_eq_some h
    have : (List.range s.size).all (fun i => !badC (byteAt s i)) = false := by
      rw [List.all_eq_false]; exact ⟨i, h2, by simp [h1]⟩
    rw [this]; simp

set_option maxHeartbeats 2000000 in
theorem indf_any (s : ByteArray) (g c : Nat) (w : World) (hs : s.size ≤ maxLen) (hcell : ∀ j, j < s.size → w.cell? ⟨g, j, none⟩ = some (.int .u8 (byteAt s j))) : Calls Try.prog 65 #[.slice (some ⟨g, 0, none⟩) s.size c, .func (.func 57) #[] #[]] w fun e w' => e = .returned (.int .i64 (firstBad s)) ∧ w = w' := by
  have Hcell := Lib.hid hcell
  unfold maxLen at hs
  obtain ⟨R, hR⟩ : ∃ R, R = firstBad s := ⟨_, rfl⟩
  rw [← hR]
  have HR := Lib.hid hR
  clear hcell hR
  go_enter Try.func65, Try.ntmps65
  go_wp2_with fail
  go_loop [8] (fun i => ∃ k : Nat, i = .int .i64 k ∧ k ≤ s.size ∧ Hid ((List.range k).all (fun i => !badC (byteAt s i)) = true)) (fun i => s.size - (intOf i).toNat)
  case atStart => exact ⟨0, rfl, Nat.zero_le _, Lib.hid (by simp)⟩
  case round =>
    obtain ⟨k, rfl, hkl, Hall⟩ := hrel
    by_cases hk : k < s.size
    · have c0 := Hcell.out k hk
      have A1 := validf_any (byteAt s k) w
      have hst := range_step k (fun i => !badC (byteAt s i))
      have hhit := fun h => firstBad_hit hk Hall.out h
      rw [← HR.out] at hhit
      obtain ⟨x, hx⟩ : ∃ x, x = byteAt s k := ⟨_, rfl⟩
      simp only [← hx] at c0 A1 hst hhit
      have hk0 : (0 : Int) ≤ (k : Int) := by omega
      have hk1 : (k : Int) < (s.size : Int) := by omega
      have Hst := Lib.hid hst
      have Hhit := Lib.hid hhit
      cases hb : badC x
      · rw [hb] at A1 Hst
        have A1 := Lib.hid A1
        rename_i A10
        have HA := Lib.hid (show (List.range (k + 1)).all (fun i => !badC (byteAt s i)) = true by rw [Hst.out, Hall.out]; rfl)
        clear hx hst hhit hb A10
        go_wp2_with fail
        refine A1.out.mono ?_; rintro e w1 ⟨rfl, rfl⟩
        go_wp2_with fail
        exact ⟨⟨k + 1, by go_num, by omega, HA⟩, by simp [intOf]; omega⟩
      · rw [hb] at A1
        have A1 := Lib.hid A1
        rename_i A10
        have HE := Lib.hid (Hhit.out hb)
        clear hx hst hhit hb A10
        go_wp2_with fail
        refine A1.out.mono ?_; rintro e w1 ⟨rfl, rfl⟩
        go_wp2_with fail
        go_ret
        exact ⟨by rw [HE.out]; rfl, rfl⟩
    · have HE : Hid (R = -1) := by
        have e : k = s.size := by omega
        subst e
        exact Lib.hid (HR.out.trans (firstBad_miss Hall.out))
      go_wp2_with fail
      go_ret
      exact ⟨by rw [HE.out]; rfl, rfl⟩

set_option maxHeartbeats 2000000 in
theorem contf_any (s : ByteArray) (g c : Nat) (w : World) (hs : s.size ≤ maxLen) (hcell : ∀ j, j < s.size → w.cell? ⟨g, j, none⟩ = some (.int .u8 (byteAt s j))) : Calls Try.prog 56 #[.slice (some ⟨g, 0, none⟩) s.size c, .func (.func 57) #[] #[]] w fun e w' => e = .returned (.bool (!(List.range s.size).all (fun i => !badC (byteAt s i)))) ∧ w = w' := by
  have A1 := indf_any s g c w hs hcell
  have hb := firstBad_neg s
  generalize firstBad s = x at *
  have HB := Lib.hid hb
  have A1 := Lib.hid A1
  rename_i A10
  clear A10 hb hcell
  go_enter Try.func56, Try.ntmps56
  go_wp2_with fail
  refine A1.out.mono ?_; rintro e w1 ⟨rfl, rfl⟩
  go_wp2_with fail
  go_ret
  exact ⟨by rw [← HB.out]; rfl, rfl⟩

theorem bytesWorld_chg (w : World) (e : TypeId) (s : ByteArray) : Chg [] w (Lib.bytesWorld w e s) :=
  ⟨rfl, rfl, rfl, by rw [Lib.bytesWorld_size]; omega, fun k hk _ => Lib.bytesWorld_at_old w e s k hk⟩

set_option maxHeartbeats 2000000 in
set_option maxRecDepth 100000 in
theorem valid_any (s : ByteArray) (w : World) (hs : s.size ≤ maxLen) : Calls Try.prog 42 #[.string s] w fun e w' => e = .returned (.bool (textB s)) ∧ Chg [] w w' := by
  have hs0 := hs
  unfold maxLen at hs
  by_cases h0 : s.size = 0
  · have hs2 : s = ⟨#[]⟩ := by
      cases s with
      | mk d => congr 1; exact Array.eq_empty_of_size_eq_zero h0
    subst hs2
    go_enter Try.func42, Try.ntmps42
    go_wp2_with fail
    go_ret
    exact ⟨rfl, Chg.refl _ _⟩
  · have Hs0 := Lib.hid hs0
    have hn : ¬ s.toList = [] := fun h => h0 (toList_nil.1 h)
    have hn2 : (!s.toList.isEmpty) = true := by simpa using hn
    have hcs : ((s.size : Int) ≤ 200 ∧ Hid (textB s = (List.range s.size).all (fun i => !badC (byteAt s i)))) ∨ ((200 : Int) < (s.size : Int) ∧ Hid (textB s = false)) := by
      have e1 : decide (1 ≤ s.size) = true := by simp; omega
      by_cases h2 : s.size ≤ 200
      · exact .inl ⟨by omega, Lib.hid (by simp [textB, e1, h2])⟩
      · exact .inr ⟨by omega, Lib.hid (by simp [textB, h2])⟩
    clear h0 hs0
    rcases hcs with ⟨h2, HR⟩ | ⟨h2, HR⟩
    · have hcv := fun w => Lib.run_convert_string_bytes (P := Try.prog) w 9 58 5 s Try.underlying9 Try.underlying58 Try.underlying5
      have hcell : ∀ j, j < s.size → (Lib.bytesWorld w 5 s).cell? ⟨w.heap.size, j, none⟩ = some (.int .u8 (byteAt s j)) := fun j hj => by
        rw [Lib.bytesWorld_cell w 5 s j hj]; rfl
      have A1 := Lib.hid (contf_any s w.heap.size (grownCap w s.size 0 5) _ Hs0.out hcell)
      obtain ⟨B, hB⟩ : ∃ B, B = (List.range s.size).all (fun i => !badC (byteAt s i)) := ⟨_, rfl⟩
      rw [← hB] at A1 HR
      rw [HR.out]
      clear hcell hB
      go_enter Try.func42, Try.ntmps42
      go_wp2_with fail
      refine A1.out.mono ?_; rintro e w1 ⟨rfl, rfl⟩
      cases B
      all_goals
        go_wp2_with fail
        go_ret
        exact ⟨rfl, bytesWorld_chg w _ s⟩
    · rw [HR.out]
      go_enter Try.func42, Try.ntmps42
      go_wp2_with fail
      go_ret
      exact ⟨rfl, Chg.refl _ _⟩
end Go.Proofs.Ytldilefhmpipkaa
