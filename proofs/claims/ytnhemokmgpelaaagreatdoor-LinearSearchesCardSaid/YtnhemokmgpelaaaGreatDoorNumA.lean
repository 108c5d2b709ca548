/- Over any program with num: valid, result, Add. No condition. -/
import Derived.Test.YtnhemokmgpelaaaGreatDoorRowi
import Derived.Test.YtnhemokmgpelaaaGreatDoorValA
namespace Go.Proofs.YtnhemokmgpelaaaGreatDoor
set_option linter.unusedVariables false
set_option linter.unusedSimpArgs false
open Go.RowKit
theorem nvalids_any (a : Option Addr) (cap : Nat) (l : List Int) (w : World) (h : SlIs icI 1 w a l.length l) (hm : l.length ≤ maxLen) : Calls Tryz.prog 93 #[.slice a l.length cap] w fun e w' => e = .returned (.bool (l.all validB)) ∧ w = w' := by
  obtain ⟨R, hR⟩ : ∃ R, R = l.all validB := ⟨_, rfl⟩
  rw [← hR]
  have HR := Lib.hid hR
  have H := Lib.hid h
  unfold maxLen at hm
  clear h hR
  go_enter Tryz.func93, Tryz.ntmps93
  go_wp2_with fail
  go_loop [7] (fun i => ∃ k : Nat, i = .int .i64 k ∧ k ≤ l.length ∧ Hid ((l.take k).all validB = true)) (fun i => l.length - (intOf i).toNat)
  case atStart => exact ⟨0, rfl, Nat.zero_le _, Lib.hid (by simp)⟩
  case round =>
    obtain ⟨k, rfl, hkl, HT⟩ := hrel
    by_cases hk : k < l.length
    · obtain ⟨b, off, rfl, hb, hc⟩ := H.out.2 k hk
      have c0 := hc 0 (by omega)
      have HS := Lib.hid (show (l.take (k + 1)).all validB = validB l[k] by rw [List.take_succ_eq_append_getElem hk, List.all_append, HT.out]; simp)
      have HN := Lib.hid (show validB l[k] = false → l.all validB = false from fun hv => List.all_eq_false.2 ⟨l[k], List.getElem_mem hk, by rw [hv]; simp⟩)
      generalize l[k] = x at *
      simp only [icI, List.getElem?_cons_zero, Nat.add_zero, Nat.mul_one] at c0
      have A := valid_any x w
      have hk0 : (0 : Int) ≤ (k : Int) := by omega
      have hk1 : (k : Int) < (l.length : Int) := by omega
      cases hv : validB x
      · rw [hv] at A
        have A := Lib.hid A
        rename_i A0
        have HE := Lib.hid (HR.out.trans (HN.out hv))
        clear hc A0 hv
        go_wp2_with fail
        refine A.out.mono ?_; rintro e w1 ⟨rfl, rfl⟩
        go_wp2_with fail
        go_ret
        exact ⟨by rw [HE.out]; rfl, rfl⟩
      · rw [hv] at A
        have A := Lib.hid A
        rename_i A0
        have HE := Lib.hid (HS.out.trans hv)
        clear hc A0 hv
        go_wp2_with fail
        refine A.out.mono ?_; rintro e w1 ⟨rfl, rfl⟩
        go_wp2_with fail
        exact ⟨⟨k + 1, by go_num, by omega, HE⟩, by simp [intOf]; omega⟩
    · have hks : k = l.length := by omega
      have HE : Hid (R = true) := Lib.hid (by rw [HR.out]; have := HT.out; rwa [hks, List.take_of_length_le (Nat.le_refl _)] at this)
      clear hks
      go_wp2_with fail
      go_ret
      exact ⟨by rw [HE.out]; rfl, rfl⟩
theorem result_any (a : Int) (w : World) : Calls Tryz.prog 94 #[.int .i64 a] w fun e w' => e = .returned (.tuple #[.int .i64 (if validB a then a else 0), .int .i64 (if validB a then 0 else 8)]) ∧ w = w' := by
  have A := Lib.hid (valid_any a w)
  generalize validB a = q at *
  cases q
  · go_enter Tryz.func94, Tryz.ntmps94
    go_wp2_with fail
    refine A.out.mono ?_; rintro e w1 ⟨rfl, rfl⟩
    go_wp2_with fail
    go_ret2
    exact ⟨rfl, rfl⟩
  · go_enter Tryz.func94, Tryz.ntmps94
    go_wp2_with fail
    refine A.out.mono ?_; rintro e w1 ⟨rfl, rfl⟩
    go_wp2_with fail
    go_ret2
    exact ⟨rfl, rfl⟩
def addZ (a b : Int) : Int × Int := if validB a = true ∧ validB b = true then (if validB (a + b) then (a + b, 0) else (0, 8)) else (0, 2)
theorem validB_iff {a : Int} : validB a = true ↔ -1000000000000 ≤ a ∧ a ≤ 1000000000000 := by unfold validB; simp
theorem nadd_any (a b : Int) (w : World) : Calls Tryz.prog 85 #[.int .i64 a, .int .i64 b] w fun e w' => e = .returned (.tuple #[.int .i64 (addZ a b).1, .int .i64 (addZ a b).2]) ∧ Chg [] w w' := by
  have hb := heap_alloc_new w (.cells #[.int .i64 a, .int .i64 b] 3)
  have A := nvalids_any (some ⟨w.heap.size, 0, none⟩) 2 [a, b] _ (SlIs.ofBlock (cf := icI) [a, b] hb icI_len rfl) (by unfold maxLen; simp)
  have hall : [a, b].all validB = (validB a && validB b) := by simp
  rw [hall] at A
  have A := Lib.hid A
  rename_i A0
  clear A0 hb hall
  by_cases hv : validB a = true ∧ validB b = true
  · have hva := validB_iff.1 hv.1
    have hvb := validB_iff.1 hv.2
    obtain ⟨a1, a2⟩ := hva
    obtain ⟨b1, b2⟩ := hvb
    have hw1 : a + b ≤ 9223372036854775807 := by omega
    have hw2 : -9223372036854775808 ≤ a + b := by omega
    have B := Lib.hid (fun w' => result_any (a + b) w')
    have HZ := Lib.hid (show addZ a b = (if validB (a + b) then a + b else 0, if validB (a + b) then 0 else 8) by unfold addZ; rw [if_pos hv]; split <;> rfl)
    rw [HZ.out]
    rw [hv.1, hv.2] at A
    clear hv HZ
    generalize (if validB (a + b) then a + b else 0) = u at *
    generalize (if validB (a + b) then (0 : Int) else 8) = v at *
    go_enter Tryz.func85, Tryz.ntmps85
    go_wp2_with fail
    refine A.out.mono ?_; rintro e w1 ⟨rfl, rfl⟩
    go_wp2_with fail
    refine (B.out _).mono ?_; rintro e w2 ⟨rfl, rfl⟩
    go_wp2_with fail
    go_ret2
    exact ⟨rfl, (Chg.refl [] w).alloc _⟩
  · have HZ := Lib.hid (show addZ a b = (0, 2) by unfold addZ; rw [if_neg hv])
    have hq : (validB a && validB b) = false := by
      rw [← Bool.not_eq_true, Bool.and_eq_true]; exact hv
    rw [hq] at A
    rw [HZ.out]
    clear hv hq
    go_enter Tryz.func85, Tryz.ntmps85
    go_wp2_with fail
    refine A.out.mono ?_; rintro e w1 ⟨rfl, rfl⟩
    go_wp2_with fail
    go_ret2
    exact ⟨rfl, (Chg.refl [] w).alloc _⟩
end Go.Proofs.YtnhemokmgpelaaaGreatDoor
