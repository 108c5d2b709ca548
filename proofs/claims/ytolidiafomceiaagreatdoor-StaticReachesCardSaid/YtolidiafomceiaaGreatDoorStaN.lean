/- Chapter 9: contract: syntax.Find. No condition. -/
import Derived.Test.YtolidiafomceiaaGreatDoorStaM
namespace Go.Proofs.YtolidiafomceiaaGreatDoor
set_option linter.unusedVariables false
set_option linter.unusedSimpArgs false
open Go.RowKit
set_option maxHeartbeats 4000000 in
set_option maxRecDepth 100000 in
theorem find1_any (x : Fn') (p : Nat) (s : ByteArray) (w : World) (h : w.cell? ⟨p, 0, none⟩ = some (.string s)) (hp : p < w.heap.size) : Calls Tryz.prog 52 #[.agg (fnC x).toArray, .pointer (some ⟨p, 0, none⟩)] w fun e w' => e = .returned (.bool (x.name == s)) ∧ Chg [] w w' := by
  have qs : (x.name == s) = (x.name.toList == s.toList) := beq_toListBytes x.name s
  have hk := World.cell?_of_block (w := w) (w' := w.alloc (fnO x)) (a := ⟨p, 0, none⟩) (heap_alloc_old _ _ hp)
  rw [h] at hk
  simp only [fnC]
  unfold fnO at hk
  go_enter Tryz.func52, Tryz.ntmps52
  go_wp2_with fail
  go_ret
  exact ⟨by rw [qs]; rfl, (Chg.refl _ _).alloc _⟩
set_option maxHeartbeats 4000000 in
set_option maxRecDepth 100000 in
theorem findexn_any {a : Option Addr} {c : Nat} {l : List Fn'} {w : World} (h : InIs fnC 3 w a c l) (p : Nat) (s : ByteArray) (hp : w.cell? ⟨p, 0, none⟩ = some (.string s)) (hpl : p < w.heap.size) :
    Calls Tryz.prog 51 #[.slice a l.length c, .func (.func 52) #[] #[.pointer (some ⟨p, 0, none⟩)]] w fun e w' => e = .returned (.int .i64 (idxFrom (fun f : Fn' => f.name == s) l 0)) ∧ Chg [] w w' := by
  obtain ⟨R, hR⟩ : ∃ R, R = idxFrom (fun f : Fn' => f.name == s) l 0 := ⟨_, rfl⟩
  rw [← hR]
  have HR := Lib.hid hR
  have H := Lib.hid h
  have HP := Lib.hid (fun w' (hc : Chg [] w w') => And.intro ((World.cell?_of_block (w := w) (hc.block p hpl (by simp))).trans hp) (hc.lt hpl))
  have hm : (l.length : Int) ≤ 9223372036854775807 := by have h1 := h.2.1; have h2 := h.2.2.1; unfold maxLen at h2; omega
  clear h hR hp hpl
  go_enter Tryz.func51, Tryz.ntmps51
  go_wp2_with fail
  go_loopw [8] (fun i wr => ∃ k : Nat, i = .int .i64 k ∧ k ≤ l.length ∧ Hid (R = idxFrom (fun f : Fn' => f.name == s) (l.drop k) (k : Int)) ∧ Hid (Chg [] w wr)) (fun i _ => l.length - (intOf i).toNat)
  case atStart => exact ⟨0, rfl, Nat.zero_le _, Lib.hid HR.out, Lib.hid (Chg.refl _ _)⟩
  case round =>
    obtain ⟨k, rfl, hkl, HS, D⟩ := hrel
    by_cases hk : k < l.length
    · obtain ⟨b, off, rfl, -, -, hcc⟩ := H.out.1.elem D.out k hk
      have u0 := hcc 0 (by omega)
      have u1 := hcc 1 (by omega)
      have u2 := hcc 2 (by omega)
      simp only [fnC, List.getElem?_cons_zero, List.getElem?_cons_succ, Nat.add_zero] at u0 u1 u2
      have HS2 := HS.out
      rw [List.drop_eq_getElem_cons hk, idxFrom] at HS2
      generalize l[k] = x at *
      obtain ⟨hp1, hp2⟩ := HP.out _ D.out
      have A := find1_any x p s wr hp1 hp2
      unfold fnC at A
      have A := Lib.hid A
      rename_i A0
      have hk0 : (0 : Int) ≤ (k : Int) := by omega
      have hk1 : (k : Int) < (l.length : Int) := by omega
      clear hcc A0 hp1 hp2
      generalize (x.name == s) = q at *
      cases q
      · rw [if_neg (by simp)] at HS2
        have HS3 := Lib.hid HS2
        clear HS2
        go_wp2_with (first | (with_reducible refine Calls.mono A.out ?_); rintro e w2 ⟨rfl, hc⟩; have D2 := Lib.hid (D.out.thenSame hc); clear hc)
        exact ⟨⟨k + 1, by go_num, by omega, Lib.hid (by rw [HS3.out]; rfl), D2⟩, by simp [intOf]; omega⟩
      · rw [if_pos rfl] at HS2
        have HE := Lib.hid HS2
        clear HS2
        go_wp2_with (first | (with_reducible refine Calls.mono A.out ?_); rintro e w2 ⟨rfl, hc⟩; have D2 := Lib.hid (D.out.thenSame hc); clear hc)
        go_ret
        exact ⟨retI HE.out.symm, D2.out⟩
    · have hks : k = l.length := by omega
      have HS2 := HS.out
      rw [hks, List.drop_length, idxFrom] at HS2
      have HE := Lib.hid HS2
      clear hks HS2
      go_wp2_with fail
      go_ret
      exact ⟨retI HE.out.symm, D.out⟩
end Go.Proofs.YtolidiafomceiaaGreatDoor
