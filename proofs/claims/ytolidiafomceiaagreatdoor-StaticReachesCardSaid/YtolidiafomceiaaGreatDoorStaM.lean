/- Chapter 9: contracts: slices.Index, Contains on strings; the closure of Find. No condition. -/
import Derived.Test.YtolidiafomceiaaGreatDoorStaL
namespace Go.Proofs.YtolidiafomceiaaGreatDoor
set_option linter.unusedVariables false
set_option linter.unusedSimpArgs false
open Go.RowKit
def idxFrom {α : Type} (p : α → Bool) : List α → Int → Int
  | [], _ => -1
  | x :: r, k => if p x = true then k else idxFrom p r (k + 1)
theorem idxFrom_any {α : Type} {p : α → Bool} : ∀ {l : List α} {k : Int}, 0 ≤ k → decide (0 ≤ idxFrom p l k) = l.any p := by
  intro l
  induction l with
  | nil => intro k _; rfl
  | cons x r ih =>
    intro k hk
    rw [idxFrom, List.any_cons]
    split
    · rename_i h; rw [h]; simpa using hk
    · rename_i h; rw [ih (by omega)]; simp [h]
set_option maxHeartbeats 4000000 in
set_option maxRecDepth 100000 in
theorem sindex_any {a : Option Addr} {c : Nat} {l : List ByteArray} (s : ByteArray) {w : World} (h : InIs skC 1 w a c l) :
    Calls Tryz.prog 88 #[.slice a l.length c, .string s] w fun e w' => e = .returned (.int .i64 (idxFrom (fun x => s == x) l 0)) ∧ Chg [] w w' := by
  obtain ⟨R, hR⟩ : ∃ R, R = idxFrom (fun x => s == x) l 0 := ⟨_, rfl⟩
  rw [← hR]
  have HR := Lib.hid hR
  have H := Lib.hid h
  have hm : (l.length : Int) ≤ 9223372036854775807 := by have h1 := h.2.1; have h2 := h.2.2.1; unfold maxLen at h2; omega
  clear h hR
  go_enter Tryz.func88, Tryz.ntmps88
  go_wp2_with fail
  go_loopw [8] (fun i wr => ∃ k : Nat, i = .int .i64 k ∧ k ≤ l.length ∧ Hid (R = idxFrom (fun x => s == x) (l.drop k) (k : Int)) ∧ Hid (Chg [] w wr)) (fun i _ => l.length - (intOf i).toNat)
  case atStart => exact ⟨0, rfl, Nat.zero_le _, Lib.hid HR.out, Lib.hid (Chg.refl _ _)⟩
  case round =>
    obtain ⟨k, rfl, hkl, HS, D⟩ := hrel
    by_cases hk : k < l.length
    · obtain ⟨b, off, rfl, -, -, hcc⟩ := H.out.1.elem D.out k hk
      have u1 := hcc 0 (by omega)
      simp only [skC, List.getElem?_cons_zero, Nat.add_zero, Nat.mul_one] at u1
      have HS2 := HS.out
      rw [List.drop_eq_getElem_cons hk, idxFrom] at HS2
      generalize l[k] = x at *
      have hk0 : (0 : Int) ≤ (k : Int) := by omega
      have hk1 : (k : Int) < (l.length : Int) := by omega
      have qs : (s == x) = (s.toList == x.toList) := beq_toListBytes s x
      rw [qs] at HS2
      clear hcc qs
      cases hq : (s.toList == x.toList)
      · rw [hq, if_neg (by simp)] at HS2
        have HS3 := Lib.hid HS2
        clear HS2
        go_wp2_with fail
        exact ⟨⟨k + 1, by go_num, by omega, Lib.hid (by rw [HS3.out]; rfl), D⟩, by simp [intOf]; omega⟩
      · rw [hq, if_pos rfl] at HS2
        have HE := Lib.hid HS2
        clear HS2
        go_wp2_with fail
        go_ret
        exact ⟨retI HE.out.symm, D.out⟩
    · have hks : k = l.length := by omega
      have HS2 := HS.out
      rw [hks, List.drop_length, idxFrom] at HS2
      have HE := Lib.hid HS2
      clear hks HS2
      go_wp2_with fail
      go_ret
      exact ⟨retI HE.out.symm, D.out⟩
set_option maxHeartbeats 4000000 in
set_option maxRecDepth 100000 in
theorem scont_any {a : Option Addr} {c : Nat} {l : List ByteArray} (s : ByteArray) {w : World} (h : InIs skC 1 w a c l) :
    Calls Tryz.prog 60 #[.slice a l.length c, .string s] w fun e w' => e = .returned (.bool (l.any (fun x => s == x))) ∧ Chg [] w w' := by
  have A := Lib.hid (sindex_any s h)
  have hn := idxFrom_any (p := fun x => s == x) (l := l) (Int.le_refl 0)
  generalize l.any (fun x => s == x) = q at *
  generalize idxFrom (fun x => s == x) l 0 = n at *
  have HN := Lib.hid hn
  clear hn
  go_enter Tryz.func60, Tryz.ntmps60
  go_wp2_with (go_at_call 88; (with_reducible refine Calls.mono A.out ?_); rintro e w2 ⟨rfl, hc⟩)
  go_ret
  exact ⟨by rw [← HN.out]; rfl, hc⟩
end Go.Proofs.YtolidiafomceiaaGreatDoor
