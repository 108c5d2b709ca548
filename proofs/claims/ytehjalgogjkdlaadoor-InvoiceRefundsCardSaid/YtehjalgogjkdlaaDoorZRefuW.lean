/- Chapter 54: the walk of InvoiceRefunds. Condition: the table of Itoa lies as the program lays it. -/
import Derived.Test.YtehjalgogjkdlaaDoorZ32
namespace Go.Proofs.YtehjalgogjkdlaaDoor
set_option linter.unusedVariables false
set_option linter.unusedSimpArgs false
open Go.RowKit
theorem ref_mono {g p q : Int} (hg : 0 ≤ g) (h : p ≤ q) : g * p / 1000 ≤ g * q / 1000 := Int.ediv_le_ediv (by decide) (Int.mul_le_mul_of_nonneg_left h hg)
/-- What a refund leaves passes Check. -/
theorem ref_pass {i : Inv} {p : Int} (h : invZ i = 0) (h0 : 0 ≤ p) (h1 : p ≤ 1000) : invZ {i with re := i.gr * p / 1000, nt := i.gr - i.gr * p / 1000} = 0 := by
  obtain ⟨a1, a2, a3, ⟨a4, a5⟩, -, -, a6, -, -⟩ := inv_ok h
  obtain ⟨-, b0, b1⟩ := muldiv_ref a4 a5 h0 h1
  generalize i.gr * p / 1000 = q at *
  have amt : ∀ n : Int, 0 ≤ n → n ≤ 1000000000000 → amtB n = true := fun n x y => by simp [amtB]; omega
  unfold invZ
  simp only
  rw [if_neg (by rw [a1]; simp), if_neg (by omega), if_neg (by rw [a3]; simp), if_neg (by rw [amt _ a4 a5, amt q b0 (by omega), amt (i.gr - q) (by omega) (by omega)]; simp), if_pos (by refine ⟨a6, b1, ?_⟩ <;> first | rfl | trivial)]
theorem refund_out {i : Inv} {a : Option Addr} {cap : Nat} {pm : Int} {tn : ByteArray} {per gr re nt e0 : Int} {ls : List Ln} (w : World) (h : InIs lnC 6 w a cap i.ls) (hg : i.good) (hz : i.ls.length * 56 ≤ 140737488355328) (hR : refZ i pm = (⟨tn, per, ls, gr, re, nt⟩, e0)) :
    Calls Tryd.prog 8 #[.agg #[.string i.tn, .int .i64 i.per, .slice a i.ls.length cap, .int .i64 i.gr, .int .i64 i.re, .int .i64 i.nt], .int .i64 pm] w fun e w' => ∃ va vc, e = .returned (.tuple #[.agg #[.string tn, .int .i64 per, .slice va ls.length vc, .int .i64 gr, .int .i64 re, .int .i64 nt], .int .i64 e0]) ∧ RowOf lnC 6 w' w.heap.size 63 (.slice va ls.length vc) ls ∧ Chg [] w w' := by
  refine (refund_any i a cap pm w h hg hz).mono ?_
  rintro e w' ⟨v, rfl, hr, hc⟩
  rw [hR] at hr ⊢
  obtain ⟨va, vc, rfl⟩ := RowOf.shape hr
  exact ⟨va, vc, rfl, hr, hc⟩
set_option maxHeartbeats 8000000 in
set_option maxRecDepth 100000 in
theorem refunds_walk (a0 : IvX) (a1 a2 : Int) (w : World) (w0 : IvX.ok w a0) (w1 : (Lit.int .i64 a1).wf = true) (w2 : (Lit.int .i64 a2).wf = true) (ht : TabW w) :
    Calls Tryd.prog 4 #[.agg (ivC a0).toArray, .int .i64 a1, .int .i64 a2] w fun e w' => e = .returned (.bool true) ∧ Below w.heap.size w w' := by
  obtain ⟨⟨hI, hG⟩, hz⟩ := w0
  obtain ⟨i, a, cap⟩ := a0
  simp only at hI hG hz
  clear w1 w2
  show Calls Tryd.prog 4 #[ivV i a cap, .int .i64 a1, .int .i64 a2] w _
  have HT := Lib.hid ht
  have A3 := Lib.hid (fun w' (hc : Chg [] w w') => check_any i a cap w' (hI.1.kept hc) hG)
  have RO := Lib.hid (fun w' (hc : Chg [] w w') {pm : Int} {tn : ByteArray} {per gr re nt e0 : Int} {ls : List Ln} (hR : refZ i pm = (⟨tn, per, ls, gr, re, nt⟩, e0)) => refund_out (i := i) (a := a) (cap := cap) w' (hI.kept hc) hG hz hR)
  obtain ⟨W1, hW1⟩ : ∃ W1, W1 = w.alloc (ivO i a cap) := ⟨_, rfl⟩
  have I1 := Lib.hid (show CkI w W1 i a cap from hW1 ▸ ⟨heap_alloc_new _ _, (Chg.refl _ _).alloc _⟩)
  have HW1 := Lib.hid hW1
  have k1 := blk_cell I1.out.iv
  have lt1 := lt_of_heap I1.out.iv
  unfold ivO at HW1 k1
  unfold ivV at A3 ⊢
  clear hW1 ht hI hz
  by_cases hE : invZ i = 0
  · have hin := inv_ok hE
    have RN : ∀ pm, (pm < 0 ∨ 1000 < pm) → refZ i pm = (⟨⟨#[]⟩, 0, [], 0, 0, 0⟩, 2) := fun pm h => by unfold refZ inv0; rw [if_neg (by simp [hE]), if_pos h]
    have RY : ∀ pm, 0 ≤ pm → pm ≤ 1000 → refZ i pm = (⟨i.tn, i.per, i.ls, i.gr, i.gr * pm / 1000, i.gr - i.gr * pm / 1000⟩, 0) := fun pm h h' => by unfold refZ; rw [if_neg (by simp [hE]), if_neg (by omega)]
    have PS := Lib.hid (fun pm (h : 0 ≤ pm) (h' : pm ≤ 1000) => ref_pass (p := pm) hE h h')
    rw [hE] at A3
    have hc1 : (decide (a1 < 0) = true ∧ a1 < 0) ∨ (decide (a1 < 0) = false ∧ decide (1000 < a1) = true ∧ 1000 < a1) ∨ (decide (a1 < 0) = false ∧ decide (1000 < a1) = false ∧ 0 ≤ a1 ∧ a1 ≤ 1000) := by simp only [decide_eq_true_eq, decide_eq_false_iff_not]; omega
    have hc2 : (decide (a2 < 0) = true ∧ a2 < 0) ∨ (decide (a2 < 0) = false ∧ decide (1000 < a2) = true ∧ 1000 < a2) ∨ (decide (a2 < 0) = false ∧ decide (1000 < a2) = false ∧ 0 ≤ a2 ∧ a2 ≤ 1000) := by simp only [decide_eq_true_eq, decide_eq_false_iff_not]; omega
    rcases hc1 with ⟨f1, h1⟩ | ⟨f1, f2, h1⟩ | ⟨f1, f2, h1, h1'⟩
    · have A1 := Lib.hid (fun w' hc => RO.out w' hc (RN a1 (.inl h1)))
      clear h1
      rcases hc2 with ⟨f3, h2⟩ | ⟨f3, f4, h2⟩ | ⟨f3, f4, h2, h2'⟩
      · have A2 := Lib.hid (fun w' hc => RO.out w' hc (RN a2 (.inl h2)))
        clear h2 RN RY RO PS hin hE hG
        go_enter Tryd.func4, Tryd.ntmps4
        go_wp2_with fail
        rw [← HW1.out]
        go_wp2_with fail
        refine (A1.out _ I1.out.chg).mono ?_; rintro e w2 ⟨va, vc, rfl, hr2, hc2⟩
        have I2 := Lib.hid (I1.out.next hc2)
        have R2 := Lib.hid hr2
        have b2 := hc2.size
        have k2 := blk_cell I2.out.iv
        have lt2 := lt_of_heap I2.out.iv
        unfold ivO at k2
        clear hc2 hr2 k1 lt1
        go_wp2_with fail
        have J2 := Lib.hid (I2.out.next ((Chg.refl [] w2).alloc (.cells #[.string (⟨#[]⟩ : ByteArray), .int .i64 0, .slice va 0 vc, .int .i64 0, .int .i64 0, .int .i64 0] 33)))
        refine (A2.out _ J2.out.chg).mono ?_; rintro e w3 ⟨vb, vd, rfl, hr3, hc3⟩
        have I3 := Lib.hid (J2.out.next hc3)
        have R3 := Lib.hid hr3
        have R2b := Lib.hid (R2.out.kept (((Chg.refl [] w2).alloc (.cells #[.string (⟨#[]⟩ : ByteArray), .int .i64 0, .slice va 0 vc, .int .i64 0, .int .i64 0, .int .i64 0] 33)).thenSame hc3) (by simp))
        have X7 := Lib.hid (hc3.at (by simp) (heap_alloc_new w2 (.cells #[.string (⟨#[]⟩ : ByteArray), .int .i64 0, .slice va 0 vc, .int .i64 0, .int .i64 0, .int .i64 0] 33)))
        have k3 := blk_cell I3.out.iv
        have lt3 := lt_of_heap I3.out.iv
        unfold ivO at k3
        clear hc3 hr3 k2 lt2
        go_wp2_with fail
        have I4 := Lib.hid (I3.out.next ((Chg.refl [] w3).alloc (.cells #[.string (⟨#[]⟩ : ByteArray), .int .i64 0, .slice vb 0 vd, .int .i64 0, .int .i64 0, .int .i64 0] 33)))
        refine (A3.out _ I4.out.chg).mono ?_; rintro e w5 ⟨rfl, hc5⟩
        have CH5 := Lib.hid (((Chg.refl [] w3).alloc (.cells #[.string (⟨#[]⟩ : ByteArray), .int .i64 0, .slice vb 0 vd, .int .i64 0, .int .i64 0, .int .i64 0] 33)).thenSame hc5)
        have I5 := Lib.hid (I4.out.next hc5)
        have Y7 := Lib.hid (CH5.out.at (by simp) X7.out)
        have Y9 := Lib.hid (hc5.at (by simp) (heap_alloc_new w3 (.cells #[.string (⟨#[]⟩ : ByteArray), .int .i64 0, .slice vb 0 vd, .int .i64 0, .int .i64 0, .int .i64 0] 33)))
        have k5 := blk_cell I5.out.iv
        have lt5 := lt_of_heap I5.out.iv
        unfold ivO at k5
        clear hc5 k3 lt3
        go_wp2_with fail
        refine (awake54_any _ (HT.out.kept I5.out.chg)).mono ?_; rintro e w7 ⟨rfl, hc7⟩
        have C7 := Lib.hid (I5.out.chg.thenSame hc7)
        clear hc7
        go_wp2_with fail
        go_ret
        exact ⟨rfl, C7.out.toBelow (Nat.le_refl _) (by simp)⟩
      · have A2 := Lib.hid (fun w' hc => RO.out w' hc (RN a2 (.inr h2)))
        clear h2 RN RY RO PS hin hE hG
        go_enter Tryd.func4, Tryd.ntmps4
        go_wp2_with fail
        rw [← HW1.out]
        go_wp2_with fail
        refine (A1.out _ I1.out.chg).mono ?_; rintro e w2 ⟨va, vc, rfl, hr2, hc2⟩
        have I2 := Lib.hid (I1.out.next hc2)
        have R2 := Lib.hid hr2
        have b2 := hc2.size
        have k2 := blk_cell I2.out.iv
        have lt2 := lt_of_heap I2.out.iv
        unfold ivO at k2
        clear hc2 hr2 k1 lt1
        go_wp2_with fail
        have J2 := Lib.hid (I2.out.next ((Chg.refl [] w2).alloc (.cells #[.string (⟨#[]⟩ : ByteArray), .int .i64 0, .slice va 0 vc, .int .i64 0, .int .i64 0, .int .i64 0] 33)))
        refine (A2.out _ J2.out.chg).mono ?_; rintro e w3 ⟨vb, vd, rfl, hr3, hc3⟩
        have I3 := Lib.hid (J2.out.next hc3)
        have R3 := Lib.hid hr3
        have R2b := Lib.hid (R2.out.kept (((Chg.refl [] w2).alloc (.cells #[.string (⟨#[]⟩ : ByteArray), .int .i64 0, .slice va 0 vc, .int .i64 0, .int .i64 0, .int .i64 0] 33)).thenSame hc3) (by simp))
        have X7 := Lib.hid (hc3.at (by simp) (heap_alloc_new w2 (.cells #[.string (⟨#[]⟩ : ByteArray), .int .i64 0, .slice va 0 vc, .int .i64 0, .int .i64 0, .int .i64 0] 33)))
        have k3 := blk_cell I3.out.iv
        have lt3 := lt_of_heap I3.out.iv
        unfold ivO at k3
        clear hc3 hr3 k2 lt2
        go_wp2_with fail
        have I4 := Lib.hid (I3.out.next ((Chg.refl [] w3).alloc (.cells #[.string (⟨#[]⟩ : ByteArray), .int .i64 0, .slice vb 0 vd, .int .i64 0, .int .i64 0, .int .i64 0] 33)))
        refine (A3.out _ I4.out.chg).mono ?_; rintro e w5 ⟨rfl, hc5⟩
        have CH5 := Lib.hid (((Chg.refl [] w3).alloc (.cells #[.string (⟨#[]⟩ : ByteArray), .int .i64 0, .slice vb 0 vd, .int .i64 0, .int .i64 0, .int .i64 0] 33)).thenSame hc5)
        have I5 := Lib.hid (I4.out.next hc5)
        have Y7 := Lib.hid (CH5.out.at (by simp) X7.out)
        have Y9 := Lib.hid (hc5.at (by simp) (heap_alloc_new w3 (.cells #[.string (⟨#[]⟩ : ByteArray), .int .i64 0, .slice vb 0 vd, .int .i64 0, .int .i64 0, .int .i64 0] 33)))
        have k5 := blk_cell I5.out.iv
        have lt5 := lt_of_heap I5.out.iv
        unfold ivO at k5
        clear hc5 k3 lt3
        go_wp2_with fail
        refine (awake54_any _ (HT.out.kept I5.out.chg)).mono ?_; rintro e w7 ⟨rfl, hc7⟩
        have C7 := Lib.hid (I5.out.chg.thenSame hc7)
        clear hc7
        go_wp2_with fail
        go_ret
        exact ⟨rfl, C7.out.toBelow (Nat.le_refl _) (by simp)⟩
      · have A2 := Lib.hid (fun w' hc => RO.out w' hc (RY a2 h2 h2'))
        generalize i.gr * a2 / 1000 = q2 at *
        generalize i.gr - q2 = m2 at *
        clear h2 h2' RN RY RO PS hin hE hG
        go_enter Tryd.func4, Tryd.ntmps4
        go_wp2_with fail
        rw [← HW1.out]
        go_wp2_with fail
        refine (A1.out _ I1.out.chg).mono ?_; rintro e w2 ⟨va, vc, rfl, hr2, hc2⟩
        have I2 := Lib.hid (I1.out.next hc2)
        have R2 := Lib.hid hr2
        have b2 := hc2.size
        have k2 := blk_cell I2.out.iv
        have lt2 := lt_of_heap I2.out.iv
        unfold ivO at k2
        clear hc2 hr2 k1 lt1
        go_wp2_with fail
        have J2 := Lib.hid (I2.out.next ((Chg.refl [] w2).alloc (.cells #[.string (⟨#[]⟩ : ByteArray), .int .i64 0, .slice va 0 vc, .int .i64 0, .int .i64 0, .int .i64 0] 33)))
        refine (A2.out _ J2.out.chg).mono ?_; rintro e w3 ⟨vb, vd, rfl, hr3, hc3⟩
        have I3 := Lib.hid (J2.out.next hc3)
        have R3 := Lib.hid hr3
        have R2b := Lib.hid (R2.out.kept (((Chg.refl [] w2).alloc (.cells #[.string (⟨#[]⟩ : ByteArray), .int .i64 0, .slice va 0 vc, .int .i64 0, .int .i64 0, .int .i64 0] 33)).thenSame hc3) (by simp))
        have X7 := Lib.hid (hc3.at (by simp) (heap_alloc_new w2 (.cells #[.string (⟨#[]⟩ : ByteArray), .int .i64 0, .slice va 0 vc, .int .i64 0, .int .i64 0, .int .i64 0] 33)))
        have k3 := blk_cell I3.out.iv
        have lt3 := lt_of_heap I3.out.iv
        unfold ivO at k3
        clear hc3 hr3 k2 lt2
        go_wp2_with fail
        have I4 := Lib.hid (I3.out.next ((Chg.refl [] w3).alloc (.cells #[.string i.tn, .int .i64 i.per, .slice vb i.ls.length vd, .int .i64 i.gr, .int .i64 q2, .int .i64 m2] 33)))
        refine (A3.out _ I4.out.chg).mono ?_; rintro e w5 ⟨rfl, hc5⟩
        have CH5 := Lib.hid (((Chg.refl [] w3).alloc (.cells #[.string i.tn, .int .i64 i.per, .slice vb i.ls.length vd, .int .i64 i.gr, .int .i64 q2, .int .i64 m2] 33)).thenSame hc5)
        have I5 := Lib.hid (I4.out.next hc5)
        have Y7 := Lib.hid (CH5.out.at (by simp) X7.out)
        have Y9 := Lib.hid (hc5.at (by simp) (heap_alloc_new w3 (.cells #[.string i.tn, .int .i64 i.per, .slice vb i.ls.length vd, .int .i64 i.gr, .int .i64 q2, .int .i64 m2] 33)))
        have k5 := blk_cell I5.out.iv
        have lt5 := lt_of_heap I5.out.iv
        unfold ivO at k5
        clear hc5 k3 lt3
        go_wp2_with fail
        refine (awake54_any _ (HT.out.kept I5.out.chg)).mono ?_; rintro e w7 ⟨rfl, hc7⟩
        have C7 := Lib.hid (I5.out.chg.thenSame hc7)
        clear hc7
        go_wp2_with fail
        go_ret
        exact ⟨rfl, C7.out.toBelow (Nat.le_refl _) (by simp)⟩
    · have A1 := Lib.hid (fun w' hc => RO.out w' hc (RN a1 (.inr h1)))
      clear h1
      rcases hc2 with ⟨f3, h2⟩ | ⟨f3, f4, h2⟩ | ⟨f3, f4, h2, h2'⟩
      · have A2 := Lib.hid (fun w' hc => RO.out w' hc (RN a2 (.inl h2)))
        clear h2 RN RY RO PS hin hE hG
        go_enter Tryd.func4, Tryd.ntmps4
        go_wp2_with fail
        rw [← HW1.out]
        go_wp2_with fail
        refine (A1.out _ I1.out.chg).mono ?_; rintro e w2 ⟨va, vc, rfl, hr2, hc2⟩
        have I2 := Lib.hid (I1.out.next hc2)
        have R2 := Lib.hid hr2
        have b2 := hc2.size
        have k2 := blk_cell I2.out.iv
        have lt2 := lt_of_heap I2.out.iv
        unfold ivO at k2
        clear hc2 hr2 k1 lt1
        go_wp2_with fail
        have J2 := Lib.hid (I2.out.next ((Chg.refl [] w2).alloc (.cells #[.string (⟨#[]⟩ : ByteArray), .int .i64 0, .slice va 0 vc, .int .i64 0, .int .i64 0, .int .i64 0] 33)))
        refine (A2.out _ J2.out.chg).mono ?_; rintro e w3 ⟨vb, vd, rfl, hr3, hc3⟩
        have I3 := Lib.hid (J2.out.next hc3)
        have R3 := Lib.hid hr3
        have R2b := Lib.hid (R2.out.kept (((Chg.refl [] w2).alloc (.cells #[.string (⟨#[]⟩ : ByteArray), .int .i64 0, .slice va 0 vc, .int .i64 0, .int .i64 0, .int .i64 0] 33)).thenSame hc3) (by simp))
        have X7 := Lib.hid (hc3.at (by simp) (heap_alloc_new w2 (.cells #[.string (⟨#[]⟩ : ByteArray), .int .i64 0, .slice va 0 vc, .int .i64 0, .int .i64 0, .int .i64 0] 33)))
        have k3 := blk_cell I3.out.iv
        have lt3 := lt_of_heap I3.out.iv
        unfold ivO at k3
        clear hc3 hr3 k2 lt2
        go_wp2_with fail
        have I4 := Lib.hid (I3.out.next ((Chg.refl [] w3).alloc (.cells #[.string (⟨#[]⟩ : ByteArray), .int .i64 0, .slice vb 0 vd, .int .i64 0, .int .i64 0, .int .i64 0] 33)))
        refine (A3.out _ I4.out.chg).mono ?_; rintro e w5 ⟨rfl, hc5⟩
        have CH5 := Lib.hid (((Chg.refl [] w3).alloc (.cells #[.string (⟨#[]⟩ : ByteArray), .int .i64 0, .slice vb 0 vd, .int .i64 0, .int .i64 0, .int .i64 0] 33)).thenSame hc5)
        have I5 := Lib.hid (I4.out.next hc5)
        have Y7 := Lib.hid (CH5.out.at (by simp) X7.out)
        have Y9 := Lib.hid (hc5.at (by simp) (heap_alloc_new w3 (.cells #[.string (⟨#[]⟩ : ByteArray), .int .i64 0, .slice vb 0 vd, .int .i64 0, .int .i64 0, .int .i64 0] 33)))
        have k5 := blk_cell I5.out.iv
        have lt5 := lt_of_heap I5.out.iv
        unfold ivO at k5
        clear hc5 k3 lt3
        go_wp2_with fail
        refine (awake54_any _ (HT.out.kept I5.out.chg)).mono ?_; rintro e w7 ⟨rfl, hc7⟩
        have C7 := Lib.hid (I5.out.chg.thenSame hc7)
        clear hc7
        go_wp2_with fail
        go_ret
        exact ⟨rfl, C7.out.toBelow (Nat.le_refl _) (by simp)⟩
      · have A2 := Lib.hid (fun w' hc => RO.out w' hc (RN a2 (.inr h2)))
        clear h2 RN RY RO PS hin hE hG
        go_enter Tryd.func4, Tryd.ntmps4
        go_wp2_with fail
        rw [← HW1.out]
        go_wp2_with fail
        refine (A1.out _ I1.out.chg).mono ?_; rintro e w2 ⟨va, vc, rfl, hr2, hc2⟩
        have I2 := Lib.hid (I1.out.next hc2)
        have R2 := Lib.hid hr2
        have b2 := hc2.size
        have k2 := blk_cell I2.out.iv
        have lt2 := lt_of_heap I2.out.iv
        unfold ivO at k2
        clear hc2 hr2 k1 lt1
        go_wp2_with fail
        have J2 := Lib.hid (I2.out.next ((Chg.refl [] w2).alloc (.cells #[.string (⟨#[]⟩ : ByteArray), .int .i64 0, .slice va 0 vc, .int .i64 0, .int .i64 0, .int .i64 0] 33)))
        refine (A2.out _ J2.out.chg).mono ?_; rintro e w3 ⟨vb, vd, rfl, hr3, hc3⟩
        have I3 := Lib.hid (J2.out.next hc3)
        have R3 := Lib.hid hr3
        have R2b := Lib.hid (R2.out.kept (((Chg.refl [] w2).alloc (.cells #[.string (⟨#[]⟩ : ByteArray), .int .i64 0, .slice va 0 vc, .int .i64 0, .int .i64 0, .int .i64 0] 33)).thenSame hc3) (by simp))
        have X7 := Lib.hid (hc3.at (by simp) (heap_alloc_new w2 (.cells #[.string (⟨#[]⟩ : ByteArray), .int .i64 0, .slice va 0 vc, .int .i64 0, .int .i64 0, .int .i64 0] 33)))
        have k3 := blk_cell I3.out.iv
        have lt3 := lt_of_heap I3.out.iv
        unfold ivO at k3
        clear hc3 hr3 k2 lt2
        go_wp2_with fail
        have I4 := Lib.hid (I3.out.next ((Chg.refl [] w3).alloc (.cells #[.string (⟨#[]⟩ : ByteArray), .int .i64 0, .slice vb 0 vd, .int .i64 0, .int .i64 0, .int .i64 0] 33)))
        refine (A3.out _ I4.out.chg).mono ?_; rintro e w5 ⟨rfl, hc5⟩
        have CH5 := Lib.hid (((Chg.refl [] w3).alloc (.cells #[.string (⟨#[]⟩ : ByteArray), .int .i64 0, .slice vb 0 vd, .int .i64 0, .int .i64 0, .int .i64 0] 33)).thenSame hc5)
        have I5 := Lib.hid (I4.out.next hc5)
        have Y7 := Lib.hid (CH5.out.at (by simp) X7.out)
        have Y9 := Lib.hid (hc5.at (by simp) (heap_alloc_new w3 (.cells #[.string (⟨#[]⟩ : ByteArray), .int .i64 0, .slice vb 0 vd, .int .i64 0, .int .i64 0, .int .i64 0] 33)))
        have k5 := blk_cell I5.out.iv
        have lt5 := lt_of_heap I5.out.iv
        unfold ivO at k5
        clear hc5 k3 lt3
        go_wp2_with fail
        refine (awake54_any _ (HT.out.kept I5.out.chg)).mono ?_; rintro e w7 ⟨rfl, hc7⟩
        have C7 := Lib.hid (I5.out.chg.thenSame hc7)
        clear hc7
        go_wp2_with fail
        go_ret
        exact ⟨rfl, C7.out.toBelow (Nat.le_refl _) (by simp)⟩
      · have A2 := Lib.hid (fun w' hc => RO.out w' hc (RY a2 h2 h2'))
        generalize i.gr * a2 / 1000 = q2 at *
        generalize i.gr - q2 = m2 at *
        clear h2 h2' RN RY RO PS hin hE hG
        go_enter Tryd.func4, Tryd.ntmps4
        go_wp2_with fail
        rw [← HW1.out]
        go_wp2_with fail
        refine (A1.out _ I1.out.chg).mono ?_; rintro e w2 ⟨va, vc, rfl, hr2, hc2⟩
        have I2 := Lib.hid (I1.out.next hc2)
        have R2 := Lib.hid hr2
        have b2 := hc2.size
        have k2 := blk_cell I2.out.iv
        have lt2 := lt_of_heap I2.out.iv
        unfold ivO at k2
        clear hc2 hr2 k1 lt1
        go_wp2_with fail
        have J2 := Lib.hid (I2.out.next ((Chg.refl [] w2).alloc (.cells #[.string (⟨#[]⟩ : ByteArray), .int .i64 0, .slice va 0 vc, .int .i64 0, .int .i64 0, .int .i64 0] 33)))
        refine (A2.out _ J2.out.chg).mono ?_; rintro e w3 ⟨vb, vd, rfl, hr3, hc3⟩
        have I3 := Lib.hid (J2.out.next hc3)
        have R3 := Lib.hid hr3
        have R2b := Lib.hid (R2.out.kept (((Chg.refl [] w2).alloc (.cells #[.string (⟨#[]⟩ : ByteArray), .int .i64 0, .slice va 0 vc, .int .i64 0, .int .i64 0, .int .i64 0] 33)).thenSame hc3) (by simp))
        have X7 := Lib.hid (hc3.at (by simp) (heap_alloc_new w2 (.cells #[.string (⟨#[]⟩ : ByteArray), .int .i64 0, .slice va 0 vc, .int .i64 0, .int .i64 0, .int .i64 0] 33)))
        have k3 := blk_cell I3.out.iv
        have lt3 := lt_of_heap I3.out.iv
        unfold ivO at k3
        clear hc3 hr3 k2 lt2
        go_wp2_with fail
        have I4 := Lib.hid (I3.out.next ((Chg.refl [] w3).alloc (.cells #[.string i.tn, .int .i64 i.per, .slice vb i.ls.length vd, .int .i64 i.gr, .int .i64 q2, .int .i64 m2] 33)))
        refine (A3.out _ I4.out.chg).mono ?_; rintro e w5 ⟨rfl, hc5⟩
        have CH5 := Lib.hid (((Chg.refl [] w3).alloc (.cells #[.string i.tn, .int .i64 i.per, .slice vb i.ls.length vd, .int .i64 i.gr, .int .i64 q2, .int .i64 m2] 33)).thenSame hc5)
        have I5 := Lib.hid (I4.out.next hc5)
        have Y7 := Lib.hid (CH5.out.at (by simp) X7.out)
        have Y9 := Lib.hid (hc5.at (by simp) (heap_alloc_new w3 (.cells #[.string i.tn, .int .i64 i.per, .slice vb i.ls.length vd, .int .i64 i.gr, .int .i64 q2, .int .i64 m2] 33)))
        have k5 := blk_cell I5.out.iv
        have lt5 := lt_of_heap I5.out.iv
        unfold ivO at k5
        clear hc5 k3 lt3
        go_wp2_with fail
        refine (awake54_any _ (HT.out.kept I5.out.chg)).mono ?_; rintro e w7 ⟨rfl, hc7⟩
        have C7 := Lib.hid (I5.out.chg.thenSame hc7)
        clear hc7
        go_wp2_with fail
        go_ret
        exact ⟨rfl, C7.out.toBelow (Nat.le_refl _) (by simp)⟩
    · have A1 := Lib.hid (fun w' hc => RO.out w' hc (RY a1 h1 h1'))
      rcases hc2 with ⟨f3, h2⟩ | ⟨f3, f4, h2⟩ | ⟨f3, f4, h2, h2'⟩
      · have A2 := Lib.hid (fun w' hc => RO.out w' hc (RN a2 (.inl h2)))
        generalize i.gr * a1 / 1000 = q1 at *
        generalize i.gr - q1 = m1 at *
        clear h2 h1 h1' RN RY RO PS hin hE hG
        go_enter Tryd.func4, Tryd.ntmps4
        go_wp2_with fail
        rw [← HW1.out]
        go_wp2_with fail
        refine (A1.out _ I1.out.chg).mono ?_; rintro e w2 ⟨va, vc, rfl, hr2, hc2⟩
        have I2 := Lib.hid (I1.out.next hc2)
        have R2 := Lib.hid hr2
        have b2 := hc2.size
        have k2 := blk_cell I2.out.iv
        have lt2 := lt_of_heap I2.out.iv
        unfold ivO at k2
        clear hc2 hr2 k1 lt1
        go_wp2_with fail
        have J2 := Lib.hid (I2.out.next ((Chg.refl [] w2).alloc (.cells #[.string i.tn, .int .i64 i.per, .slice va i.ls.length vc, .int .i64 i.gr, .int .i64 q1, .int .i64 m1] 33)))
        refine (A2.out _ J2.out.chg).mono ?_; rintro e w3 ⟨vb, vd, rfl, hr3, hc3⟩
        have I3 := Lib.hid (J2.out.next hc3)
        have R3 := Lib.hid hr3
        have R2b := Lib.hid (R2.out.kept (((Chg.refl [] w2).alloc (.cells #[.string i.tn, .int .i64 i.per, .slice va i.ls.length vc, .int .i64 i.gr, .int .i64 q1, .int .i64 m1] 33)).thenSame hc3) (by simp))
        have X7 := Lib.hid (hc3.at (by simp) (heap_alloc_new w2 (.cells #[.string i.tn, .int .i64 i.per, .slice va i.ls.length vc, .int .i64 i.gr, .int .i64 q1, .int .i64 m1] 33)))
        have k3 := blk_cell I3.out.iv
        have lt3 := lt_of_heap I3.out.iv
        unfold ivO at k3
        clear hc3 hr3 k2 lt2
        go_wp2_with fail
        have I4 := Lib.hid (I3.out.next ((Chg.refl [] w3).alloc (.cells #[.string (⟨#[]⟩ : ByteArray), .int .i64 0, .slice vb 0 vd, .int .i64 0, .int .i64 0, .int .i64 0] 33)))
        refine (A3.out _ I4.out.chg).mono ?_; rintro e w5 ⟨rfl, hc5⟩
        have CH5 := Lib.hid (((Chg.refl [] w3).alloc (.cells #[.string (⟨#[]⟩ : ByteArray), .int .i64 0, .slice vb 0 vd, .int .i64 0, .int .i64 0, .int .i64 0] 33)).thenSame hc5)
        have I5 := Lib.hid (I4.out.next hc5)
        have Y7 := Lib.hid (CH5.out.at (by simp) X7.out)
        have Y9 := Lib.hid (hc5.at (by simp) (heap_alloc_new w3 (.cells #[.string (⟨#[]⟩ : ByteArray), .int .i64 0, .slice vb 0 vd, .int .i64 0, .int .i64 0, .int .i64 0] 33)))
        have k5 := blk_cell I5.out.iv
        have lt5 := lt_of_heap I5.out.iv
        unfold ivO at k5
        clear hc5 k3 lt3
        go_wp2_with fail
        refine (awake54_any _ (HT.out.kept I5.out.chg)).mono ?_; rintro e w7 ⟨rfl, hc7⟩
        have C7 := Lib.hid (I5.out.chg.thenSame hc7)
        clear hc7
        go_wp2_with fail
        go_ret
        exact ⟨rfl, C7.out.toBelow (Nat.le_refl _) (by simp)⟩
      · have A2 := Lib.hid (fun w' hc => RO.out w' hc (RN a2 (.inr h2)))
        generalize i.gr * a1 / 1000 = q1 at *
        generalize i.gr - q1 = m1 at *
        clear h2 h1 h1' RN RY RO PS hin hE hG
        go_enter Tryd.func4, Tryd.ntmps4
        go_wp2_with fail
        rw [← HW1.out]
        go_wp2_with fail
        refine (A1.out _ I1.out.chg).mono ?_; rintro e w2 ⟨va, vc, rfl, hr2, hc2⟩
        have I2 := Lib.hid (I1.out.next hc2)
        have R2 := Lib.hid hr2
        have b2 := hc2.size
        have k2 := blk_cell I2.out.iv
        have lt2 := lt_of_heap I2.out.iv
        unfold ivO at k2
        clear hc2 hr2 k1 lt1
        go_wp2_with fail
        have J2 := Lib.hid (I2.out.next ((Chg.refl [] w2).alloc (.cells #[.string i.tn, .int .i64 i.per, .slice va i.ls.length vc, .int .i64 i.gr, .int .i64 q1, .int .i64 m1] 33)))
        refine (A2.out _ J2.out.chg).mono ?_; rintro e w3 ⟨vb, vd, rfl, hr3, hc3⟩
        have I3 := Lib.hid (J2.out.next hc3)
        have R3 := Lib.hid hr3
        have R2b := Lib.hid (R2.out.kept (((Chg.refl [] w2).alloc (.cells #[.string i.tn, .int .i64 i.per, .slice va i.ls.length vc, .int .i64 i.gr, .int .i64 q1, .int .i64 m1] 33)).thenSame hc3) (by simp))
        have X7 := Lib.hid (hc3.at (by simp) (heap_alloc_new w2 (.cells #[.string i.tn, .int .i64 i.per, .slice va i.ls.length vc, .int .i64 i.gr, .int .i64 q1, .int .i64 m1] 33)))
        have k3 := blk_cell I3.out.iv
        have lt3 := lt_of_heap I3.out.iv
        unfold ivO at k3
        clear hc3 hr3 k2 lt2
        go_wp2_with fail
        have I4 := Lib.hid (I3.out.next ((Chg.refl [] w3).alloc (.cells #[.string (⟨#[]⟩ : ByteArray), .int .i64 0, .slice vb 0 vd, .int .i64 0, .int .i64 0, .int .i64 0] 33)))
        refine (A3.out _ I4.out.chg).mono ?_; rintro e w5 ⟨rfl, hc5⟩
        have CH5 := Lib.hid (((Chg.refl [] w3).alloc (.cells #[.string (⟨#[]⟩ : ByteArray), .int .i64 0, .slice vb 0 vd, .int .i64 0, .int .i64 0, .int .i64 0] 33)).thenSame hc5)
        have I5 := Lib.hid (I4.out.next hc5)
        have Y7 := Lib.hid (CH5.out.at (by simp) X7.out)
        have Y9 := Lib.hid (hc5.at (by simp) (heap_alloc_new w3 (.cells #[.string (⟨#[]⟩ : ByteArray), .int .i64 0, .slice vb 0 vd, .int .i64 0, .int .i64 0, .int .i64 0] 33)))
        have k5 := blk_cell I5.out.iv
        have lt5 := lt_of_heap I5.out.iv
        unfold ivO at k5
        clear hc5 k3 lt3
        go_wp2_with fail
        refine (awake54_any _ (HT.out.kept I5.out.chg)).mono ?_; rintro e w7 ⟨rfl, hc7⟩
        have C7 := Lib.hid (I5.out.chg.thenSame hc7)
        clear hc7
        go_wp2_with fail
        go_ret
        exact ⟨rfl, C7.out.toBelow (Nat.le_refl _) (by simp)⟩
      · have A2 := Lib.hid (fun w' hc => RO.out w' hc (RY a2 h2 h2'))
        obtain ⟨-, -, -, ⟨hgr0, hgr1⟩, -, -, -, -, -⟩ := hin
        obtain ⟨-, hq1, hq1'⟩ := muldiv_ref hgr0 hgr1 h1 h1'
        obtain ⟨-, hq2, hq2'⟩ := muldiv_ref hgr0 hgr1 h2 h2'
        have hPS := PS.out a2 h2 h2'
        have hmo : a1 ≤ a2 → i.gr * a1 / 1000 ≤ i.gr * a2 / 1000 := fun h => ref_mono hgr0 h
        have hz0 : a1 = 0 → i.gr * a1 / 1000 = 0 := fun h => by rw [h]; simp
        have hal : a2 = 1000 → i.gr * a2 / 1000 = i.gr := fun h => by rw [h, Int.mul_ediv_cancel _ (by decide)]
        generalize i.gr * a1 / 1000 = q1 at *
        generalize i.gr * a2 / 1000 = q2 at *
        obtain ⟨m1, hm1⟩ : ∃ m, m = i.gr - q1 := ⟨_, rfl⟩
        obtain ⟨m2, hm2⟩ : ∃ m, m = i.gr - q2 := ⟨_, rfl⟩
        rw [← hm1] at A1
        rw [← hm2] at A2 hPS
        have AB := Lib.hid (fun w' b bc (hs : SlIs lnC 6 w' b i.ls.length i.ls) => check_any ⟨i.tn, i.per, i.ls, i.gr, q2, m2⟩ b bc w' hs hG)
        unfold ivV at AB
        rw [hPS] at AB
        simp only at AB
        have SM := Lib.hid (fun w' x y xc yc (hx : SlIs lnC 6 w' x i.ls.length i.ls) (hy : SlIs lnC 6 w' y i.ls.length i.ls) => same54_any ⟨i.tn, i.per, i.ls, i.gr, q2, m2⟩ x y xc yc w' hx hy hG.2.2)
        unfold ivV at SM
        simp only at SM
        have fs : (q2 + m2 == i.gr) = true := by rw [beq_iff_eq]; omega
        have hm2a : 0 ≤ m2 ∧ m2 ≤ 1000000000000 := by omega
        have g0 : (decide (a1 ≤ a2) = true ∧ decide (q2 < q1) = false) ∨ decide (a1 ≤ a2) = false := by
          by_cases h : a1 ≤ a2
          · exact .inl ⟨decide_eq_true h, decide_eq_false (by have := hmo h; omega)⟩
          · exact .inr (decide_eq_false h)
        have g1 : ((a1 == 0) = true ∧ (q1 != 0) = false) ∨ (a1 == 0) = false := by
          by_cases h : a1 = 0
          · exact .inl ⟨by rw [h]; rfl, by rw [hz0 h]; rfl⟩
          · exact .inr (by rw [beq_eq_false_iff_ne]; exact h)
        have g2 : ((a2 == 1000) = true ∧ (m2 != 0) = false) ∨ (a2 == 1000) = false := by
          by_cases h : a2 = 1000
          · exact .inl ⟨by rw [h]; rfl, by rw [hm2, hal h, Int.sub_self]; rfl⟩
          · exact .inr (by rw [beq_eq_false_iff_ne]; exact h)
        clear hm1 hm2 hmo hz0 hal hPS h2 h2' h1 h1' RN RY RO PS hE hG
        go_enter Tryd.func4, Tryd.ntmps4
        go_wp2_with fail
        rw [← HW1.out]
        go_wp2_with fail
        refine (A1.out _ I1.out.chg).mono ?_; rintro e w2 ⟨va, vc, rfl, hr2, hc2⟩
        have I2 := Lib.hid (I1.out.next hc2)
        have R2 := Lib.hid hr2
        have b2 := hc2.size
        have k2 := blk_cell I2.out.iv
        have lt2 := lt_of_heap I2.out.iv
        unfold ivO at k2
        clear hc2 hr2 k1 lt1
        go_wp2_with fail
        have J2 := Lib.hid (I2.out.next ((Chg.refl [] w2).alloc (.cells #[.string i.tn, .int .i64 i.per, .slice va i.ls.length vc, .int .i64 i.gr, .int .i64 q1, .int .i64 m1] 33)))
        refine (A2.out _ J2.out.chg).mono ?_; rintro e w3 ⟨vb, vd, rfl, hr3, hc3⟩
        have I3 := Lib.hid (J2.out.next hc3)
        have R3 := Lib.hid hr3
        have R2b := Lib.hid (R2.out.kept (((Chg.refl [] w2).alloc (.cells #[.string i.tn, .int .i64 i.per, .slice va i.ls.length vc, .int .i64 i.gr, .int .i64 q1, .int .i64 m1] 33)).thenSame hc3) (by simp))
        have X7 := Lib.hid (hc3.at (by simp) (heap_alloc_new w2 (.cells #[.string i.tn, .int .i64 i.per, .slice va i.ls.length vc, .int .i64 i.gr, .int .i64 q1, .int .i64 m1] 33)))
        have k3 := blk_cell I3.out.iv
        have lt3 := lt_of_heap I3.out.iv
        unfold ivO at k3
        clear hc3 hr3 k2 lt2
        go_wp2_with fail
        have I4 := Lib.hid (I3.out.next ((Chg.refl [] w3).alloc (.cells #[.string i.tn, .int .i64 i.per, .slice vb i.ls.length vd, .int .i64 i.gr, .int .i64 q2, .int .i64 m2] 33)))
        refine (A3.out _ I4.out.chg).mono ?_; rintro e w5 ⟨rfl, hc5⟩
        have CH5 := Lib.hid (((Chg.refl [] w3).alloc (.cells #[.string i.tn, .int .i64 i.per, .slice vb i.ls.length vd, .int .i64 i.gr, .int .i64 q2, .int .i64 m2] 33)).thenSame hc5)
        have I5 := Lib.hid (I4.out.next hc5)
        have Y7 := Lib.hid (CH5.out.at (by simp) X7.out)
        have Y9 := Lib.hid (hc5.at (by simp) (heap_alloc_new w3 (.cells #[.string i.tn, .int .i64 i.per, .slice vb i.ls.length vd, .int .i64 i.gr, .int .i64 q2, .int .i64 m2] 33)))
        have k5 := blk_cell I5.out.iv
        have lt5 := lt_of_heap I5.out.iv
        unfold ivO at k5
        clear hc5 k3 lt3
        rcases g0 with ⟨e1, e2⟩ | e1 <;> rcases g1 with ⟨e3, e4⟩ | e3 <;> rcases g2 with ⟨e5, e6⟩ | e5
        · skip
          have n1 := lt_of_heap I2.out.iv
          have n2 := lt_of_heap X7.out
          have n79 : w3.heap.size ≠ w2.heap.size := by omega
          have n37 : w.heap.size ≠ w2.heap.size := by omega
          have B9a := (blk_set_ne (w := w5) (b' := w3.heap.size) (b := w2.heap.size) 4 (.int .i64 q2) n79).trans Y9.out
          have B7a := blk_set Y7.out 4 (.int .i64 q2)
          have B9b := Lib.hid ((blk_set_ne (w := w5.setCell ⟨w2.heap.size, 4, none⟩ (.int .i64 q2)) (b' := w3.heap.size) (b := w2.heap.size) 5 (.int .i64 m2) n79).trans B9a)
          have B3b := Lib.hid ((blk_set_ne (w := w5.setCell ⟨w2.heap.size, 4, none⟩ (.int .i64 q2)) (b' := w.heap.size) (b := w2.heap.size) 5 (.int .i64 m2) n37).trans ((blk_set_ne (w := w5) (b' := w.heap.size) (b := w2.heap.size) 4 (.int .i64 q2) n37).trans I5.out.iv))
          have B7b := Lib.hid (show ((w5.setCell ⟨w2.heap.size, 4, none⟩ (.int .i64 q2)).setCell ⟨w2.heap.size, 5, none⟩ (.int .i64 m2)).heap[w2.heap.size]? = some (.cells #[.string i.tn, .int .i64 i.per, .slice va i.ls.length vc, .int .i64 i.gr, .int .i64 q2, .int .i64 m2] 33) from blk_set B7a 5 (.int .i64 m2))
          have f7 := blk_free Y7.out
          have f7a := blk_free B7a
          have k9 := blk_cell Y9.out
          have k7 := blk_cell Y7.out
          have k9a := blk_cell B9a
          have k9b := blk_cell B9b.out
          have k3b := blk_cell B3b.out
          have l7 := lt_of_heap Y7.out
          have l9 := lt_of_heap Y9.out
          unfold ivO at k3b
          have hs2 := I2.out.chg.size
          have C8v := Lib.hid (show Chg [w2.heap.size] w5 ((w5.setCell ⟨w2.heap.size, 4, none⟩ (.int .i64 q2)).setCell ⟨w2.heap.size, 5, none⟩ (.int .i64 m2)) from ((Chg.refl _ _).setCell _ _ (fun _ => by simp)).setCell _ _ (fun _ => by simp))
          have C8 := Lib.hid (show Chg [] w ((w5.setCell ⟨w2.heap.size, 4, none⟩ (.int .i64 q2)).setCell ⟨w2.heap.size, 5, none⟩ (.int .i64 m2)) from (I5.out.chg.setCell _ _ (fun q => absurd (show w2.heap.size < w.heap.size from q) (by omega))).setCell _ _ (fun q => absurd (show w2.heap.size < w.heap.size from q) (by omega)))
          have S2c := Lib.hid (RowOf.sl ((R2b.out.kept CH5.out (by simp)).kept C8v.out (fun g hg => by have := (RowOf.block R2.out g hg).2; simp; omega)) lnC_len).1
          have S3c := Lib.hid (RowOf.sl ((R3.out.kept CH5.out (by simp)).kept C8v.out (fun g hg => by have := (RowOf.block R3.out g hg).1; rw [World.size_alloc] at this; simp; omega)) lnC_len).1
          clear B9a B7a
          go_wp2_with fail
          refine (AB.out _ _ _ S3c.out).mono ?_; rintro e w9 ⟨rfl, hc9⟩
          have D9 := Lib.hid hc9
          have k9c := blk_cell (hc9.at (by simp) B9b.out)
          have k7c := blk_cell (hc9.at (by simp) B7b.out)
          have C9 := Lib.hid (C8.out.thenSame hc9)
          clear hc9 k9b k3b k9a k9 k7
          go_wp2_with fail
          refine (SM.out _ _ _ _ _ (S2c.out.kept D9.out) (S3c.out.kept D9.out)).mono ?_; rintro e w10 ⟨rfl, hc10⟩
          have C10 := Lib.hid (C9.out.thenSame hc10)
          clear hc10 k9c k7c
          go_wp2_with fail
          refine (awake54_any _ (HT.out.kept C10.out)).mono ?_; rintro e w7 ⟨rfl, hc7⟩
          have C7 := Lib.hid (C10.out.thenSame hc7)
          clear hc7
          go_wp2_with fail
          go_ret
          exact ⟨rfl, C7.out.toBelow (Nat.le_refl _) (by simp)⟩
        · skip
          have n1 := lt_of_heap I2.out.iv
          have n2 := lt_of_heap X7.out
          have n79 : w3.heap.size ≠ w2.heap.size := by omega
          have n37 : w.heap.size ≠ w2.heap.size := by omega
          have B9a := (blk_set_ne (w := w5) (b' := w3.heap.size) (b := w2.heap.size) 4 (.int .i64 q2) n79).trans Y9.out
          have B7a := blk_set Y7.out 4 (.int .i64 q2)
          have B9b := Lib.hid ((blk_set_ne (w := w5.setCell ⟨w2.heap.size, 4, none⟩ (.int .i64 q2)) (b' := w3.heap.size) (b := w2.heap.size) 5 (.int .i64 m2) n79).trans B9a)
          have B3b := Lib.hid ((blk_set_ne (w := w5.setCell ⟨w2.heap.size, 4, none⟩ (.int .i64 q2)) (b' := w.heap.size) (b := w2.heap.size) 5 (.int .i64 m2) n37).trans ((blk_set_ne (w := w5) (b' := w.heap.size) (b := w2.heap.size) 4 (.int .i64 q2) n37).trans I5.out.iv))
          have B7b := Lib.hid (show ((w5.setCell ⟨w2.heap.size, 4, none⟩ (.int .i64 q2)).setCell ⟨w2.heap.size, 5, none⟩ (.int .i64 m2)).heap[w2.heap.size]? = some (.cells #[.string i.tn, .int .i64 i.per, .slice va i.ls.length vc, .int .i64 i.gr, .int .i64 q2, .int .i64 m2] 33) from blk_set B7a 5 (.int .i64 m2))
          have f7 := blk_free Y7.out
          have f7a := blk_free B7a
          have k9 := blk_cell Y9.out
          have k7 := blk_cell Y7.out
          have k9a := blk_cell B9a
          have k9b := blk_cell B9b.out
          have k3b := blk_cell B3b.out
          have l7 := lt_of_heap Y7.out
          have l9 := lt_of_heap Y9.out
          unfold ivO at k3b
          have hs2 := I2.out.chg.size
          have C8v := Lib.hid (show Chg [w2.heap.size] w5 ((w5.setCell ⟨w2.heap.size, 4, none⟩ (.int .i64 q2)).setCell ⟨w2.heap.size, 5, none⟩ (.int .i64 m2)) from ((Chg.refl _ _).setCell _ _ (fun _ => by simp)).setCell _ _ (fun _ => by simp))
          have C8 := Lib.hid (show Chg [] w ((w5.setCell ⟨w2.heap.size, 4, none⟩ (.int .i64 q2)).setCell ⟨w2.heap.size, 5, none⟩ (.int .i64 m2)) from (I5.out.chg.setCell _ _ (fun q => absurd (show w2.heap.size < w.heap.size from q) (by omega))).setCell _ _ (fun q => absurd (show w2.heap.size < w.heap.size from q) (by omega)))
          have S2c := Lib.hid (RowOf.sl ((R2b.out.kept CH5.out (by simp)).kept C8v.out (fun g hg => by have := (RowOf.block R2.out g hg).2; simp; omega)) lnC_len).1
          have S3c := Lib.hid (RowOf.sl ((R3.out.kept CH5.out (by simp)).kept C8v.out (fun g hg => by have := (RowOf.block R3.out g hg).1; rw [World.size_alloc] at this; simp; omega)) lnC_len).1
          clear B9a B7a
          go_wp2_with fail
          refine (AB.out _ _ _ S3c.out).mono ?_; rintro e w9 ⟨rfl, hc9⟩
          have D9 := Lib.hid hc9
          have k9c := blk_cell (hc9.at (by simp) B9b.out)
          have k7c := blk_cell (hc9.at (by simp) B7b.out)
          have C9 := Lib.hid (C8.out.thenSame hc9)
          clear hc9 k9b k3b k9a k9 k7
          go_wp2_with fail
          refine (SM.out _ _ _ _ _ (S2c.out.kept D9.out) (S3c.out.kept D9.out)).mono ?_; rintro e w10 ⟨rfl, hc10⟩
          have C10 := Lib.hid (C9.out.thenSame hc10)
          clear hc10 k9c k7c
          go_wp2_with fail
          refine (awake54_any _ (HT.out.kept C10.out)).mono ?_; rintro e w7 ⟨rfl, hc7⟩
          have C7 := Lib.hid (C10.out.thenSame hc7)
          clear hc7
          go_wp2_with fail
          go_ret
          exact ⟨rfl, C7.out.toBelow (Nat.le_refl _) (by simp)⟩
        · skip
          have n1 := lt_of_heap I2.out.iv
          have n2 := lt_of_heap X7.out
          have n79 : w3.heap.size ≠ w2.heap.size := by omega
          have n37 : w.heap.size ≠ w2.heap.size := by omega
          have B9a := (blk_set_ne (w := w5) (b' := w3.heap.size) (b := w2.heap.size) 4 (.int .i64 q2) n79).trans Y9.out
          have B7a := blk_set Y7.out 4 (.int .i64 q2)
          have B9b := Lib.hid ((blk_set_ne (w := w5.setCell ⟨w2.heap.size, 4, none⟩ (.int .i64 q2)) (b' := w3.heap.size) (b := w2.heap.size) 5 (.int .i64 m2) n79).trans B9a)
          have B3b := Lib.hid ((blk_set_ne (w := w5.setCell ⟨w2.heap.size, 4, none⟩ (.int .i64 q2)) (b' := w.heap.size) (b := w2.heap.size) 5 (.int .i64 m2) n37).trans ((blk_set_ne (w := w5) (b' := w.heap.size) (b := w2.heap.size) 4 (.int .i64 q2) n37).trans I5.out.iv))
          have B7b := Lib.hid (show ((w5.setCell ⟨w2.heap.size, 4, none⟩ (.int .i64 q2)).setCell ⟨w2.heap.size, 5, none⟩ (.int .i64 m2)).heap[w2.heap.size]? = some (.cells #[.string i.tn, .int .i64 i.per, .slice va i.ls.length vc, .int .i64 i.gr, .int .i64 q2, .int .i64 m2] 33) from blk_set B7a 5 (.int .i64 m2))
          have f7 := blk_free Y7.out
          have f7a := blk_free B7a
          have k9 := blk_cell Y9.out
          have k7 := blk_cell Y7.out
          have k9a := blk_cell B9a
          have k9b := blk_cell B9b.out
          have k3b := blk_cell B3b.out
          have l7 := lt_of_heap Y7.out
          have l9 := lt_of_heap Y9.out
          unfold ivO at k3b
          have hs2 := I2.out.chg.size
          have C8v := Lib.hid (show Chg [w2.heap.size] w5 ((w5.setCell ⟨w2.heap.size, 4, none⟩ (.int .i64 q2)).setCell ⟨w2.heap.size, 5, none⟩ (.int .i64 m2)) from ((Chg.refl _ _).setCell _ _ (fun _ => by simp)).setCell _ _ (fun _ => by simp))
          have C8 := Lib.hid (show Chg [] w ((w5.setCell ⟨w2.heap.size, 4, none⟩ (.int .i64 q2)).setCell ⟨w2.heap.size, 5, none⟩ (.int .i64 m2)) from (I5.out.chg.setCell _ _ (fun q => absurd (show w2.heap.size < w.heap.size from q) (by omega))).setCell _ _ (fun q => absurd (show w2.heap.size < w.heap.size from q) (by omega)))
          have S2c := Lib.hid (RowOf.sl ((R2b.out.kept CH5.out (by simp)).kept C8v.out (fun g hg => by have := (RowOf.block R2.out g hg).2; simp; omega)) lnC_len).1
          have S3c := Lib.hid (RowOf.sl ((R3.out.kept CH5.out (by simp)).kept C8v.out (fun g hg => by have := (RowOf.block R3.out g hg).1; rw [World.size_alloc] at this; simp; omega)) lnC_len).1
          clear B9a B7a
          go_wp2_with fail
          refine (AB.out _ _ _ S3c.out).mono ?_; rintro e w9 ⟨rfl, hc9⟩
          have D9 := Lib.hid hc9
          have k9c := blk_cell (hc9.at (by simp) B9b.out)
          have k7c := blk_cell (hc9.at (by simp) B7b.out)
          have C9 := Lib.hid (C8.out.thenSame hc9)
          clear hc9 k9b k3b k9a k9 k7
          go_wp2_with fail
          refine (SM.out _ _ _ _ _ (S2c.out.kept D9.out) (S3c.out.kept D9.out)).mono ?_; rintro e w10 ⟨rfl, hc10⟩
          have C10 := Lib.hid (C9.out.thenSame hc10)
          clear hc10 k9c k7c
          go_wp2_with fail
          refine (awake54_any _ (HT.out.kept C10.out)).mono ?_; rintro e w7 ⟨rfl, hc7⟩
          have C7 := Lib.hid (C10.out.thenSame hc7)
          clear hc7
          go_wp2_with fail
          go_ret
          exact ⟨rfl, C7.out.toBelow (Nat.le_refl _) (by simp)⟩
        · skip
          have n1 := lt_of_heap I2.out.iv
          have n2 := lt_of_heap X7.out
          have n79 : w3.heap.size ≠ w2.heap.size := by omega
          have n37 : w.heap.size ≠ w2.heap.size := by omega
          have B9a := (blk_set_ne (w := w5) (b' := w3.heap.size) (b := w2.heap.size) 4 (.int .i64 q2) n79).trans Y9.out
          have B7a := blk_set Y7.out 4 (.int .i64 q2)
          have B9b := Lib.hid ((blk_set_ne (w := w5.setCell ⟨w2.heap.size, 4, none⟩ (.int .i64 q2)) (b' := w3.heap.size) (b := w2.heap.size) 5 (.int .i64 m2) n79).trans B9a)
          have B3b := Lib.hid ((blk_set_ne (w := w5.setCell ⟨w2.heap.size, 4, none⟩ (.int .i64 q2)) (b' := w.heap.size) (b := w2.heap.size) 5 (.int .i64 m2) n37).trans ((blk_set_ne (w := w5) (b' := w.heap.size) (b := w2.heap.size) 4 (.int .i64 q2) n37).trans I5.out.iv))
          have B7b := Lib.hid (show ((w5.setCell ⟨w2.heap.size, 4, none⟩ (.int .i64 q2)).setCell ⟨w2.heap.size, 5, none⟩ (.int .i64 m2)).heap[w2.heap.size]? = some (.cells #[.string i.tn, .int .i64 i.per, .slice va i.ls.length vc, .int .i64 i.gr, .int .i64 q2, .int .i64 m2] 33) from blk_set B7a 5 (.int .i64 m2))
          have f7 := blk_free Y7.out
          have f7a := blk_free B7a
          have k9 := blk_cell Y9.out
          have k7 := blk_cell Y7.out
          have k9a := blk_cell B9a
          have k9b := blk_cell B9b.out
          have k3b := blk_cell B3b.out
          have l7 := lt_of_heap Y7.out
          have l9 := lt_of_heap Y9.out
          unfold ivO at k3b
          have hs2 := I2.out.chg.size
          have C8v := Lib.hid (show Chg [w2.heap.size] w5 ((w5.setCell ⟨w2.heap.size, 4, none⟩ (.int .i64 q2)).setCell ⟨w2.heap.size, 5, none⟩ (.int .i64 m2)) from ((Chg.refl _ _).setCell _ _ (fun _ => by simp)).setCell _ _ (fun _ => by simp))
          have C8 := Lib.hid (show Chg [] w ((w5.setCell ⟨w2.heap.size, 4, none⟩ (.int .i64 q2)).setCell ⟨w2.heap.size, 5, none⟩ (.int .i64 m2)) from (I5.out.chg.setCell _ _ (fun q => absurd (show w2.heap.size < w.heap.size from q) (by omega))).setCell _ _ (fun q => absurd (show w2.heap.size < w.heap.size from q) (by omega)))
          have S2c := Lib.hid (RowOf.sl ((R2b.out.kept CH5.out (by simp)).kept C8v.out (fun g hg => by have := (RowOf.block R2.out g hg).2; simp; omega)) lnC_len).1
          have S3c := Lib.hid (RowOf.sl ((R3.out.kept CH5.out (by simp)).kept C8v.out (fun g hg => by have := (RowOf.block R3.out g hg).1; rw [World.size_alloc] at this; simp; omega)) lnC_len).1
          clear B9a B7a
          go_wp2_with fail
          refine (AB.out _ _ _ S3c.out).mono ?_; rintro e w9 ⟨rfl, hc9⟩
          have D9 := Lib.hid hc9
          have k9c := blk_cell (hc9.at (by simp) B9b.out)
          have k7c := blk_cell (hc9.at (by simp) B7b.out)
          have C9 := Lib.hid (C8.out.thenSame hc9)
          clear hc9 k9b k3b k9a k9 k7
          go_wp2_with fail
          refine (SM.out _ _ _ _ _ (S2c.out.kept D9.out) (S3c.out.kept D9.out)).mono ?_; rintro e w10 ⟨rfl, hc10⟩
          have C10 := Lib.hid (C9.out.thenSame hc10)
          clear hc10 k9c k7c
          go_wp2_with fail
          refine (awake54_any _ (HT.out.kept C10.out)).mono ?_; rintro e w7 ⟨rfl, hc7⟩
          have C7 := Lib.hid (C10.out.thenSame hc7)
          clear hc7
          go_wp2_with fail
          go_ret
          exact ⟨rfl, C7.out.toBelow (Nat.le_refl _) (by simp)⟩
        · skip
          have n1 := lt_of_heap I2.out.iv
          have n2 := lt_of_heap X7.out
          have n79 : w3.heap.size ≠ w2.heap.size := by omega
          have n37 : w.heap.size ≠ w2.heap.size := by omega
          have B9a := (blk_set_ne (w := w5) (b' := w3.heap.size) (b := w2.heap.size) 4 (.int .i64 q2) n79).trans Y9.out
          have B7a := blk_set Y7.out 4 (.int .i64 q2)
          have B9b := Lib.hid ((blk_set_ne (w := w5.setCell ⟨w2.heap.size, 4, none⟩ (.int .i64 q2)) (b' := w3.heap.size) (b := w2.heap.size) 5 (.int .i64 m2) n79).trans B9a)
          have B3b := Lib.hid ((blk_set_ne (w := w5.setCell ⟨w2.heap.size, 4, none⟩ (.int .i64 q2)) (b' := w.heap.size) (b := w2.heap.size) 5 (.int .i64 m2) n37).trans ((blk_set_ne (w := w5) (b' := w.heap.size) (b := w2.heap.size) 4 (.int .i64 q2) n37).trans I5.out.iv))
          have B7b := Lib.hid (show ((w5.setCell ⟨w2.heap.size, 4, none⟩ (.int .i64 q2)).setCell ⟨w2.heap.size, 5, none⟩ (.int .i64 m2)).heap[w2.heap.size]? = some (.cells #[.string i.tn, .int .i64 i.per, .slice va i.ls.length vc, .int .i64 i.gr, .int .i64 q2, .int .i64 m2] 33) from blk_set B7a 5 (.int .i64 m2))
          have f7 := blk_free Y7.out
          have f7a := blk_free B7a
          have k9 := blk_cell Y9.out
          have k7 := blk_cell Y7.out
          have k9a := blk_cell B9a
          have k9b := blk_cell B9b.out
          have k3b := blk_cell B3b.out
          have l7 := lt_of_heap Y7.out
          have l9 := lt_of_heap Y9.out
          unfold ivO at k3b
          have hs2 := I2.out.chg.size
          have C8v := Lib.hid (show Chg [w2.heap.size] w5 ((w5.setCell ⟨w2.heap.size, 4, none⟩ (.int .i64 q2)).setCell ⟨w2.heap.size, 5, none⟩ (.int .i64 m2)) from ((Chg.refl _ _).setCell _ _ (fun _ => by simp)).setCell _ _ (fun _ => by simp))
          have C8 := Lib.hid (show Chg [] w ((w5.setCell ⟨w2.heap.size, 4, none⟩ (.int .i64 q2)).setCell ⟨w2.heap.size, 5, none⟩ (.int .i64 m2)) from (I5.out.chg.setCell _ _ (fun q => absurd (show w2.heap.size < w.heap.size from q) (by omega))).setCell _ _ (fun q => absurd (show w2.heap.size < w.heap.size from q) (by omega)))
          have S2c := Lib.hid (RowOf.sl ((R2b.out.kept CH5.out (by simp)).kept C8v.out (fun g hg => by have := (RowOf.block R2.out g hg).2; simp; omega)) lnC_len).1
          have S3c := Lib.hid (RowOf.sl ((R3.out.kept CH5.out (by simp)).kept C8v.out (fun g hg => by have := (RowOf.block R3.out g hg).1; rw [World.size_alloc] at this; simp; omega)) lnC_len).1
          clear B9a B7a
          go_wp2_with fail
          refine (AB.out _ _ _ S3c.out).mono ?_; rintro e w9 ⟨rfl, hc9⟩
          have D9 := Lib.hid hc9
          have k9c := blk_cell (hc9.at (by simp) B9b.out)
          have k7c := blk_cell (hc9.at (by simp) B7b.out)
          have C9 := Lib.hid (C8.out.thenSame hc9)
          clear hc9 k9b k3b k9a k9 k7
          go_wp2_with fail
          refine (SM.out _ _ _ _ _ (S2c.out.kept D9.out) (S3c.out.kept D9.out)).mono ?_; rintro e w10 ⟨rfl, hc10⟩
          have C10 := Lib.hid (C9.out.thenSame hc10)
          clear hc10 k9c k7c
          go_wp2_with fail
          refine (awake54_any _ (HT.out.kept C10.out)).mono ?_; rintro e w7 ⟨rfl, hc7⟩
          have C7 := Lib.hid (C10.out.thenSame hc7)
          clear hc7
          go_wp2_with fail
          go_ret
          exact ⟨rfl, C7.out.toBelow (Nat.le_refl _) (by simp)⟩
        · skip
          have n1 := lt_of_heap I2.out.iv
          have n2 := lt_of_heap X7.out
          have n79 : w3.heap.size ≠ w2.heap.size := by omega
          have n37 : w.heap.size ≠ w2.heap.size := by omega
          have B9a := (blk_set_ne (w := w5) (b' := w3.heap.size) (b := w2.heap.size) 4 (.int .i64 q2) n79).trans Y9.out
          have B7a := blk_set Y7.out 4 (.int .i64 q2)
          have B9b := Lib.hid ((blk_set_ne (w := w5.setCell ⟨w2.heap.size, 4, none⟩ (.int .i64 q2)) (b' := w3.heap.size) (b := w2.heap.size) 5 (.int .i64 m2) n79).trans B9a)
          have B3b := Lib.hid ((blk_set_ne (w := w5.setCell ⟨w2.heap.size, 4, none⟩ (.int .i64 q2)) (b' := w.heap.size) (b := w2.heap.size) 5 (.int .i64 m2) n37).trans ((blk_set_ne (w := w5) (b' := w.heap.size) (b := w2.heap.size) 4 (.int .i64 q2) n37).trans I5.out.iv))
          have B7b := Lib.hid (show ((w5.setCell ⟨w2.heap.size, 4, none⟩ (.int .i64 q2)).setCell ⟨w2.heap.size, 5, none⟩ (.int .i64 m2)).heap[w2.heap.size]? = some (.cells #[.string i.tn, .int .i64 i.per, .slice va i.ls.length vc, .int .i64 i.gr, .int .i64 q2, .int .i64 m2] 33) from blk_set B7a 5 (.int .i64 m2))
          have f7 := blk_free Y7.out
          have f7a := blk_free B7a
          have k9 := blk_cell Y9.out
          have k7 := blk_cell Y7.out
          have k9a := blk_cell B9a
          have k9b := blk_cell B9b.out
          have k3b := blk_cell B3b.out
          have l7 := lt_of_heap Y7.out
          have l9 := lt_of_heap Y9.out
          unfold ivO at k3b
          have hs2 := I2.out.chg.size
          have C8v := Lib.hid (show Chg [w2.heap.size] w5 ((w5.setCell ⟨w2.heap.size, 4, none⟩ (.int .i64 q2)).setCell ⟨w2.heap.size, 5, none⟩ (.int .i64 m2)) from ((Chg.refl _ _).setCell _ _ (fun _ => by simp)).setCell _ _ (fun _ => by simp))
          have C8 := Lib.hid (show Chg [] w ((w5.setCell ⟨w2.heap.size, 4, none⟩ (.int .i64 q2)).setCell ⟨w2.heap.size, 5, none⟩ (.int .i64 m2)) from (I5.out.chg.setCell _ _ (fun q => absurd (show w2.heap.size < w.heap.size from q) (by omega))).setCell _ _ (fun q => absurd (show w2.heap.size < w.heap.size from q) (by omega)))
          have S2c := Lib.hid (RowOf.sl ((R2b.out.kept CH5.out (by simp)).kept C8v.out (fun g hg => by have := (RowOf.block R2.out g hg).2; simp; omega)) lnC_len).1
          have S3c := Lib.hid (RowOf.sl ((R3.out.kept CH5.out (by simp)).kept C8v.out (fun g hg => by have := (RowOf.block R3.out g hg).1; rw [World.size_alloc] at this; simp; omega)) lnC_len).1
          clear B9a B7a
          go_wp2_with fail
          refine (AB.out _ _ _ S3c.out).mono ?_; rintro e w9 ⟨rfl, hc9⟩
          have D9 := Lib.hid hc9
          have k9c := blk_cell (hc9.at (by simp) B9b.out)
          have k7c := blk_cell (hc9.at (by simp) B7b.out)
          have C9 := Lib.hid (C8.out.thenSame hc9)
          clear hc9 k9b k3b k9a k9 k7
          go_wp2_with fail
          refine (SM.out _ _ _ _ _ (S2c.out.kept D9.out) (S3c.out.kept D9.out)).mono ?_; rintro e w10 ⟨rfl, hc10⟩
          have C10 := Lib.hid (C9.out.thenSame hc10)
          clear hc10 k9c k7c
          go_wp2_with fail
          refine (awake54_any _ (HT.out.kept C10.out)).mono ?_; rintro e w7 ⟨rfl, hc7⟩
          have C7 := Lib.hid (C10.out.thenSame hc7)
          clear hc7
          go_wp2_with fail
          go_ret
          exact ⟨rfl, C7.out.toBelow (Nat.le_refl _) (by simp)⟩
        · skip
          have n1 := lt_of_heap I2.out.iv
          have n2 := lt_of_heap X7.out
          have n79 : w3.heap.size ≠ w2.heap.size := by omega
          have n37 : w.heap.size ≠ w2.heap.size := by omega
          have B9a := (blk_set_ne (w := w5) (b' := w3.heap.size) (b := w2.heap.size) 4 (.int .i64 q2) n79).trans Y9.out
          have B7a := blk_set Y7.out 4 (.int .i64 q2)
          have B9b := Lib.hid ((blk_set_ne (w := w5.setCell ⟨w2.heap.size, 4, none⟩ (.int .i64 q2)) (b' := w3.heap.size) (b := w2.heap.size) 5 (.int .i64 m2) n79).trans B9a)
          have B3b := Lib.hid ((blk_set_ne (w := w5.setCell ⟨w2.heap.size, 4, none⟩ (.int .i64 q2)) (b' := w.heap.size) (b := w2.heap.size) 5 (.int .i64 m2) n37).trans ((blk_set_ne (w := w5) (b' := w.heap.size) (b := w2.heap.size) 4 (.int .i64 q2) n37).trans I5.out.iv))
          have B7b := Lib.hid (show ((w5.setCell ⟨w2.heap.size, 4, none⟩ (.int .i64 q2)).setCell ⟨w2.heap.size, 5, none⟩ (.int .i64 m2)).heap[w2.heap.size]? = some (.cells #[.string i.tn, .int .i64 i.per, .slice va i.ls.length vc, .int .i64 i.gr, .int .i64 q2, .int .i64 m2] 33) from blk_set B7a 5 (.int .i64 m2))
          have f7 := blk_free Y7.out
          have f7a := blk_free B7a
          have k9 := blk_cell Y9.out
          have k7 := blk_cell Y7.out
          have k9a := blk_cell B9a
          have k9b := blk_cell B9b.out
          have k3b := blk_cell B3b.out
          have l7 := lt_of_heap Y7.out
          have l9 := lt_of_heap Y9.out
          unfold ivO at k3b
          have hs2 := I2.out.chg.size
          have C8v := Lib.hid (show Chg [w2.heap.size] w5 ((w5.setCell ⟨w2.heap.size, 4, none⟩ (.int .i64 q2)).setCell ⟨w2.heap.size, 5, none⟩ (.int .i64 m2)) from ((Chg.refl _ _).setCell _ _ (fun _ => by simp)).setCell _ _ (fun _ => by simp))
          have C8 := Lib.hid (show Chg [] w ((w5.setCell ⟨w2.heap.size, 4, none⟩ (.int .i64 q2)).setCell ⟨w2.heap.size, 5, none⟩ (.int .i64 m2)) from (I5.out.chg.setCell _ _ (fun q => absurd (show w2.heap.size < w.heap.size from q) (by omega))).setCell _ _ (fun q => absurd (show w2.heap.size < w.heap.size from q) (by omega)))
          have S2c := Lib.hid (RowOf.sl ((R2b.out.kept CH5.out (by simp)).kept C8v.out (fun g hg => by have := (RowOf.block R2.out g hg).2; simp; omega)) lnC_len).1
          have S3c := Lib.hid (RowOf.sl ((R3.out.kept CH5.out (by simp)).kept C8v.out (fun g hg => by have := (RowOf.block R3.out g hg).1; rw [World.size_alloc] at this; simp; omega)) lnC_len).1
          clear B9a B7a
          go_wp2_with fail
          refine (AB.out _ _ _ S3c.out).mono ?_; rintro e w9 ⟨rfl, hc9⟩
          have D9 := Lib.hid hc9
          have k9c := blk_cell (hc9.at (by simp) B9b.out)
          have k7c := blk_cell (hc9.at (by simp) B7b.out)
          have C9 := Lib.hid (C8.out.thenSame hc9)
          clear hc9 k9b k3b k9a k9 k7
          go_wp2_with fail
          refine (SM.out _ _ _ _ _ (S2c.out.kept D9.out) (S3c.out.kept D9.out)).mono ?_; rintro e w10 ⟨rfl, hc10⟩
          have C10 := Lib.hid (C9.out.thenSame hc10)
          clear hc10 k9c k7c
          go_wp2_with fail
          refine (awake54_any _ (HT.out.kept C10.out)).mono ?_; rintro e w7 ⟨rfl, hc7⟩
          have C7 := Lib.hid (C10.out.thenSame hc7)
          clear hc7
          go_wp2_with fail
          go_ret
          exact ⟨rfl, C7.out.toBelow (Nat.le_refl _) (by simp)⟩
        · skip
          have n1 := lt_of_heap I2.out.iv
          have n2 := lt_of_heap X7.out
          have n79 : w3.heap.size ≠ w2.heap.size := by omega
          have n37 : w.heap.size ≠ w2.heap.size := by omega
          have B9a := (blk_set_ne (w := w5) (b' := w3.heap.size) (b := w2.heap.size) 4 (.int .i64 q2) n79).trans Y9.out
          have B7a := blk_set Y7.out 4 (.int .i64 q2)
          have B9b := Lib.hid ((blk_set_ne (w := w5.setCell ⟨w2.heap.size, 4, none⟩ (.int .i64 q2)) (b' := w3.heap.size) (b := w2.heap.size) 5 (.int .i64 m2) n79).trans B9a)
          have B3b := Lib.hid ((blk_set_ne (w := w5.setCell ⟨w2.heap.size, 4, none⟩ (.int .i64 q2)) (b' := w.heap.size) (b := w2.heap.size) 5 (.int .i64 m2) n37).trans ((blk_set_ne (w := w5) (b' := w.heap.size) (b := w2.heap.size) 4 (.int .i64 q2) n37).trans I5.out.iv))
          have B7b := Lib.hid (show ((w5.setCell ⟨w2.heap.size, 4, none⟩ (.int .i64 q2)).setCell ⟨w2.heap.size, 5, none⟩ (.int .i64 m2)).heap[w2.heap.size]? = some (.cells #[.string i.tn, .int .i64 i.per, .slice va i.ls.length vc, .int .i64 i.gr, .int .i64 q2, .int .i64 m2] 33) from blk_set B7a 5 (.int .i64 m2))
          have f7 := blk_free Y7.out
          have f7a := blk_free B7a
          have k9 := blk_cell Y9.out
          have k7 := blk_cell Y7.out
          have k9a := blk_cell B9a
          have k9b := blk_cell B9b.out
          have k3b := blk_cell B3b.out
          have l7 := lt_of_heap Y7.out
          have l9 := lt_of_heap Y9.out
          unfold ivO at k3b
          have hs2 := I2.out.chg.size
          have C8v := Lib.hid (show Chg [w2.heap.size] w5 ((w5.setCell ⟨w2.heap.size, 4, none⟩ (.int .i64 q2)).setCell ⟨w2.heap.size, 5, none⟩ (.int .i64 m2)) from ((Chg.refl _ _).setCell _ _ (fun _ => by simp)).setCell _ _ (fun _ => by simp))
          have C8 := Lib.hid (show Chg [] w ((w5.setCell ⟨w2.heap.size, 4, none⟩ (.int .i64 q2)).setCell ⟨w2.heap.size, 5, none⟩ (.int .i64 m2)) from (I5.out.chg.setCell _ _ (fun q => absurd (show w2.heap.size < w.heap.size from q) (by omega))).setCell _ _ (fun q => absurd (show w2.heap.size < w.heap.size from q) (by omega)))
          have S2c := Lib.hid (RowOf.sl ((R2b.out.kept CH5.out (by simp)).kept C8v.out (fun g hg => by have := (RowOf.block R2.out g hg).2; simp; omega)) lnC_len).1
          have S3c := Lib.hid (RowOf.sl ((R3.out.kept CH5.out (by simp)).kept C8v.out (fun g hg => by have := (RowOf.block R3.out g hg).1; rw [World.size_alloc] at this; simp; omega)) lnC_len).1
          clear B9a B7a
          go_wp2_with fail
          refine (AB.out _ _ _ S3c.out).mono ?_; rintro e w9 ⟨rfl, hc9⟩
          have D9 := Lib.hid hc9
          have k9c := blk_cell (hc9.at (by simp) B9b.out)
          have k7c := blk_cell (hc9.at (by simp) B7b.out)
          have C9 := Lib.hid (C8.out.thenSame hc9)
          clear hc9 k9b k3b k9a k9 k7
          go_wp2_with fail
          refine (SM.out _ _ _ _ _ (S2c.out.kept D9.out) (S3c.out.kept D9.out)).mono ?_; rintro e w10 ⟨rfl, hc10⟩
          have C10 := Lib.hid (C9.out.thenSame hc10)
          clear hc10 k9c k7c
          go_wp2_with fail
          refine (awake54_any _ (HT.out.kept C10.out)).mono ?_; rintro e w7 ⟨rfl, hc7⟩
          have C7 := Lib.hid (C10.out.thenSame hc7)
          clear hc7
          go_wp2_with fail
          go_ret
          exact ⟨rfl, C7.out.toBelow (Nat.le_refl _) (by simp)⟩
  · have RE : ∀ pm, refZ i pm = (⟨⟨#[]⟩, 0, [], 0, 0, 0⟩, invZ i) := fun pm => by unfold refZ inv0; rw [if_pos hE]
    have A1 := Lib.hid (fun w' hc => RO.out w' hc (RE a1))
    have A2 := Lib.hid (fun w' hc => RO.out w' hc (RE a2))
    have heb : (invZ i != 0) = true := by rw [bne_iff_ne]; exact hE
    generalize invZ i = E at *
    clear hE hG RE RO
    go_enter Tryd.func4, Tryd.ntmps4
    go_wp2_with fail
    rw [← HW1.out]
    go_wp2_with fail
    refine (A1.out _ I1.out.chg).mono ?_; rintro e w2 ⟨va, vc, rfl, hr2, hc2⟩
    have I2 := Lib.hid (I1.out.next hc2)
    have R2 := Lib.hid hr2
    have b2 := hc2.size
    have k2 := blk_cell I2.out.iv
    have lt2 := lt_of_heap I2.out.iv
    unfold ivO at k2
    clear hc2 hr2 k1 lt1
    go_wp2_with fail
    have J2 := Lib.hid (I2.out.next ((Chg.refl [] w2).alloc (.cells #[.string (⟨#[]⟩ : ByteArray), .int .i64 0, .slice va 0 vc, .int .i64 0, .int .i64 0, .int .i64 0] 33)))
    refine (A2.out _ J2.out.chg).mono ?_; rintro e w3 ⟨vb, vd, rfl, hr3, hc3⟩
    have I3 := Lib.hid (J2.out.next hc3)
    have R3 := Lib.hid hr3
    have R2b := Lib.hid (R2.out.kept (((Chg.refl [] w2).alloc (.cells #[.string (⟨#[]⟩ : ByteArray), .int .i64 0, .slice va 0 vc, .int .i64 0, .int .i64 0, .int .i64 0] 33)).thenSame hc3) (by simp))
    have X7 := Lib.hid (hc3.at (by simp) (heap_alloc_new w2 (.cells #[.string (⟨#[]⟩ : ByteArray), .int .i64 0, .slice va 0 vc, .int .i64 0, .int .i64 0, .int .i64 0] 33)))
    have k3 := blk_cell I3.out.iv
    have lt3 := lt_of_heap I3.out.iv
    unfold ivO at k3
    clear hc3 hr3 k2 lt2
    go_wp2_with fail
    have I4 := Lib.hid (I3.out.next ((Chg.refl [] w3).alloc (.cells #[.string (⟨#[]⟩ : ByteArray), .int .i64 0, .slice vb 0 vd, .int .i64 0, .int .i64 0, .int .i64 0] 33)))
    refine (A3.out _ I4.out.chg).mono ?_; rintro e w5 ⟨rfl, hc5⟩
    have CH5 := Lib.hid (((Chg.refl [] w3).alloc (.cells #[.string (⟨#[]⟩ : ByteArray), .int .i64 0, .slice vb 0 vd, .int .i64 0, .int .i64 0, .int .i64 0] 33)).thenSame hc5)
    have I5 := Lib.hid (I4.out.next hc5)
    have Y7 := Lib.hid (CH5.out.at (by simp) X7.out)
    have Y9 := Lib.hid (hc5.at (by simp) (heap_alloc_new w3 (.cells #[.string (⟨#[]⟩ : ByteArray), .int .i64 0, .slice vb 0 vd, .int .i64 0, .int .i64 0, .int .i64 0] 33)))
    have k5 := blk_cell I5.out.iv
    have lt5 := lt_of_heap I5.out.iv
    unfold ivO at k5
    clear hc5 k3 lt3
    go_wp2_with fail
    refine (A3.out _ I5.out.chg).mono ?_; rintro e w6 ⟨rfl, hc6⟩
    have C6 := Lib.hid (I5.out.chg.thenSame hc6)
    clear hc6
    go_wp2_with fail
    refine (awake54_any _ (HT.out.kept C6.out)).mono ?_; rintro e w7 ⟨rfl, hc7⟩
    have C7 := Lib.hid (C6.out.thenSame hc7)
    clear hc7
    go_wp2_with fail
    go_ret
    exact ⟨rfl, C7.out.toBelow (Nat.le_refl _) (by simp)⟩
end Go.Proofs.YtehjalgogjkdlaaDoor
