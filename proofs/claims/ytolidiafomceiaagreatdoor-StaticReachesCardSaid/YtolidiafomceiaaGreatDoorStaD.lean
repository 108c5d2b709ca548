/- Chapter 9: contracts: keys, fields, count, fits. Condition: the table of Itoa lies as the program lays it. -/
import Derived.Test.YtolidiafomceiaaGreatDoorStaC
namespace Go.Proofs.YtolidiafomceiaaGreatDoor
set_option linter.unusedVariables false
set_option linter.unusedSimpArgs false
open Go.RowKit
def keyAt (l : List ByteArray) (i : Nat) : Bool := match l[i]? with | some s => sTextB s && (decide (i = 0) || (match l[i - 1]? with | some p => !leS s p | none => true)) | none => true
def keysTo (l : List ByteArray) (k : Nat) : Bool := (List.range k).all (keyAt l)
def keysB (l : List ByteArray) : Bool := keysTo l l.length
theorem keysTo_step {l : List ByteArray} {k : Nat} : keysTo l (k + 1) = (keysTo l k && keyAt l k) := by
  unfold keysTo
  rw [List.range_succ, List.all_append, List.all_cons, List.all_nil, Bool.and_true]
theorem keys_no {l : List ByteArray} {k : Nat} (hk : k < l.length) (h : keyAt l k = false) : keysB l = false := by
  unfold keysB keysTo
  rw [List.all_eq_false]
  exact ⟨k, by simpa using hk, by rw [h]; simp⟩
set_option maxHeartbeats 8000000 in
set_option maxRecDepth 100000 in
theorem skeys_any {a : Option Addr} {c : Nat} {l : List ByteArray} {w : World} (h : InIs skC 1 w a c l) (hs : ∀ s ∈ l, s.size ≤ maxLen) (ht : TabW w) : Calls Tryz.prog 129 #[.slice a l.length c] w fun e w' => e = .returned (.bool (keysB l)) ∧ Chg [] w w' := by
  obtain ⟨R, hR⟩ : ∃ R, R = keysB l := ⟨_, rfl⟩
  rw [← hR]
  have HR := Lib.hid hR
  have H := Lib.hid h
  have HS := Lib.hid hs
  have HT := Lib.hid ht
  have hm : (l.length : Int) ≤ 9223372036854775807 := by have h1 := h.2.1; have h2 := h.2.2.1; unfold maxLen at h2; omega
  clear hR h hs ht
  go_enter Tryz.func129, Tryz.ntmps129
  go_wp2_with fail
  go_loopw [7] (fun u wr => ∃ k : Nat, u = .int .i64 k ∧ k ≤ l.length ∧ Hid (keysTo l k = true) ∧ Hid (Chg [] w wr)) (fun u _ => l.length - (intOf u).toNat)
  case atStart => exact ⟨0, rfl, Nat.zero_le _, Lib.hid rfl, Lib.hid (Chg.refl _ _)⟩
  case round =>
    obtain ⟨k, rfl, hk, HK, D⟩ := hrel
    have hk0 : (0 : Int) ≤ (k : Int) := by omega
    by_cases hkl : k < l.length
    · have hkl' : (k : Int) < (l.length : Int) := by omega
      obtain ⟨b1, o1, rfl, -, -, hc1⟩ := H.out.1.elem D.out k hkl
      have u1 := hc1 0 (by omega)
      simp only [skC, List.getElem?_cons_zero, Nat.add_zero, Nat.mul_one] at u1
      have A := Lib.hid (stext_any l[k] wr (HS.out _ (List.getElem_mem hkl)) (HT.out.kept D.out))
      have HA : keyAt l k = (sTextB l[k] && (decide (k = 0) || (match l[k - 1]? with | some p => !leS l[k] p | none => true))) := by unfold keyAt; rw [List.getElem?_eq_getElem hkl]
      have HN := Lib.hid (fun h => show R = false by rw [HR.out]; exact keys_no hkl h)
      have HY := Lib.hid (fun (h : keyAt l k = true) => show keysTo l (k + 1) = true by rw [keysTo_step, HK.out, h]; rfl)
      cases hq : sTextB l[k]
      · rw [hq] at A HA
        have HE := Lib.hid (HN.out HA)
        clear hc1 HA hq
        generalize l[k] = x at *
        go_wp2_with (go_at_call 128; (with_reducible refine Calls.mono A.out ?_); rintro e w2 ⟨rfl, hc⟩; have D2 := Lib.hid (D.out.thenSame hc); clear hc)
        go_ret
        exact ⟨retB HE.out.symm, D2.out⟩
      rw [hq] at A HA
      by_cases hz : k = 0
      · have HY2 := Lib.hid (HY.out (by rw [HA, decide_eq_true hz]; rfl))
        have hz' : (k : Int) ≤ 0 := by omega
        clear hc1 HA hq hz
        generalize l[k] = x at *
        go_wp2_with (go_at_call 128; (with_reducible refine Calls.mono A.out ?_); rintro e w2 ⟨rfl, hc⟩; have D2 := Lib.hid (D.out.thenSame hc); clear hc)
        exact ⟨⟨k + 1, by go_num, by omega, HY2, D2⟩, by simp [intOf]; omega⟩
      obtain ⟨j, rfl⟩ : ∃ j, k = j + 1 := ⟨k - 1, by omega⟩
      have hj : j < l.length := by omega
      have hj' : (0 : Int) < ((j + 1 : Nat) : Int) := by omega
      have UW := Lib.hid (fun w' (hc : Chg [] w w') => show w'.cell? ⟨b1, o1 + j, none⟩ = some (.string l[j]) from by
        obtain ⟨b2, o2, e, -, -, hcc⟩ := H.out.1.elem hc j hj
        cases e
        simpa [skC] using hcc 0 (by omega))
      rw [decide_eq_false hz, Bool.false_or, Nat.add_sub_cancel, List.getElem?_eq_getElem hj] at HA
      simp only [Bool.true_and] at HA
      clear hc1 hq hz
      generalize l[j] = y at *
      generalize l[j + 1] = x at *
      cases hle : leS x y
      · rw [hle] at HA
        have HY2 := Lib.hid (HY.out HA)
        unfold leS at hle
        clear HA
        go_wp2_with (go_at_call 128; (with_reducible refine Calls.mono A.out ?_); rintro e w2 ⟨rfl, hc⟩; have D2 := Lib.hid (D.out.thenSame hc); have u2 := UW.out _ D2.out; clear hc)
        exact ⟨⟨j + 1 + 1, by go_num, by omega, HY2, D2⟩, by simp [intOf]; omega⟩
      · rw [hle] at HA
        have HE := Lib.hid (HN.out HA)
        unfold leS at hle
        clear HA
        go_wp2_with (go_at_call 128; (with_reducible refine Calls.mono A.out ?_); rintro e w2 ⟨rfl, hc⟩; have D2 := Lib.hid (D.out.thenSame hc); have u2 := UW.out _ D2.out; clear hc)
        go_ret
        exact ⟨retB HE.out.symm, D2.out⟩
    · have hke : k = l.length := by omega
      have HE := Lib.hid (show R = true by rw [HR.out]; unfold keysB; rw [← hke]; exact HK.out)
      clear hke
      go_wp2_with fail
      go_ret
      exact ⟨retB HE.out.symm, D.out⟩
end Go.Proofs.YtolidiafomceiaaGreatDoor
