/- Chapter 54: the walk of InvoiceChecks. Condition: the table of Itoa lies as the program lays it. -/
import Derived.Test.YtehjalgogjkdlaaGreatDoorZLawB
import Derived.Test.YtehjalgogjkdlaaGreatDoorZ31
namespace Go.Proofs.YtehjalgogjkdlaaGreatDoor
set_option linter.unusedVariables false
set_option linter.unusedSimpArgs false
open Go.RowKit
theorem fmt_len {i : Inv} (h : i.ls.length * 56 ≤ 140737488355328) : (fmtZ i).1.length ≤ maxLen := by
  unfold fmtZ
  split
  · simp
  · unfold fmtL maxLen; simp; omega
theorem ref_len {i : Inv} {pm : Int} (h : i.ls.length * 56 ≤ 140737488355328) : (refZ i pm).1.ls.length ≤ maxLen := by
  unfold refZ
  split
  · simp [inv0]
  · split
    · simp [inv0]
    · unfold maxLen; simp only; omega
set_option maxHeartbeats 8000000 in
set_option maxRecDepth 100000 in
theorem checks54_walk (a0 : IvX) (a1 : Int) (w : World) (w0 : IvX.ok w a0) (w1 : (Lit.int .i64 a1).wf = true) (ht : TabW w) :
    Calls Tryz.prog 4 #[.agg (ivC a0).toArray, .int .i64 a1] w fun e w' => e = .returned (.bool true) ∧ Below w.heap.size w w' := by
  obtain ⟨⟨hI, hG⟩, hz⟩ := w0
  obtain ⟨i, a, cap⟩ := a0
  simp only at hI hG hz
  show Calls Tryz.prog 4 #[ivV i a cap, .int .i64 a1] w _
  have HT := Lib.hid ht
  have A1 := Lib.hid (fun w' (hc : Chg [] w w') => refund_any i a cap a1 w' (hI.kept hc) hG hz)
  have A2 := Lib.hid (fun w' (hc : Chg [] w w') => rrefund_any i a cap a1 w' (hI.kept hc) hG hz)
  have A3 := Lib.hid (fun w' (hc : Chg [] w w') => check_any i a cap w' (hI.1.kept hc) hG)
  have A4 := Lib.hid (fun w' (hc : Chg [] w w') => rchk54_any i a cap w' (hI.1.kept hc) hG)
  have A5 := Lib.hid (fun w' (hc : Chg [] w w') => format54_any i a cap w' (hI.1.kept hc) hG (by omega) (ht.kept hc))
  have A6 := Lib.hid (fun w' (hc : Chg [] w w') => rformat54_any i a cap w' (hI.1.kept hc) hG (by omega))
  have FL := Lib.hid (fmt_len hz)
  have RL := Lib.hid (ref_len (pm := a1) hz)
  obtain ⟨W1, hW1⟩ : ∃ W1, W1 = w.alloc (ivO i a cap) := ⟨_, rfl⟩
  have I1 := Lib.hid (show CkI w W1 i a cap from hW1 ▸ ⟨heap_alloc_new _ _, (Chg.refl _ _).alloc _⟩)
  have HW1 := Lib.hid hW1
  have k1 := blk_cell I1.out.iv
  have lt1 := lt_of_heap I1.out.iv
  unfold ivO at HW1 k1
  unfold ivV at A1 A2 A3 A4 A5 A6 ⊢
  unfold RefPost at A1 A2
  unfold FmtPost at A5 A6
  generalize refZ i a1 = R at *
  generalize fmtZ i = F at *
  generalize invZ i = E at *
  obtain ⟨⟨tn, per, ls, gr, re, nt⟩, re2⟩ := R
  obtain ⟨fl, fe⟩ := F
  unfold ivW at A1 A2
  simp only at A1 A2 A5 A6 FL RL
  clear hW1 ht hI hG hz w1
  go_enter Tryz.func4, Tryz.ntmps4
  go_wp2_with fail
  rw [← HW1.out]
  go_wp2_with fail
  refine (A1.out _ I1.out.chg).mono ?_; rintro e w2 ⟨v2, rfl, hr2, hc2⟩
  obtain ⟨va, vc, rfl⟩ := RowOf.shape hr2
  have I2 := Lib.hid (I1.out.next hc2)
  have R2 := Lib.hid hr2
  have k2 := blk_cell I2.out.iv
  have lt2 := lt_of_heap I2.out.iv
  unfold ivO at k2
  clear hc2 hr2 k1 lt1
  go_wp2_with fail
  have J2 := Lib.hid (I2.out.next ((Chg.refl [] w2).alloc (.cells #[.string tn, .int .i64 per, .slice va ls.length vc, .int .i64 gr, .int .i64 re, .int .i64 nt] 31)))
  refine (A2.out _ J2.out.chg).mono ?_; rintro e w3 ⟨v3, rfl, hr3, hc3⟩
  obtain ⟨vb, vd, rfl⟩ := RowOf.shape hr3
  have I3 := Lib.hid (J2.out.next hc3)
  have R3 := Lib.hid hr3
  have K3 := Lib.hid (((Chg.refl [] w2).alloc (.cells #[.string tn, .int .i64 per, .slice va ls.length vc, .int .i64 gr, .int .i64 re, .int .i64 nt] 31)).thenSame hc3)
  have X3 := Lib.hid (hc3.at (by simp) (heap_alloc_new w2 (.cells #[.string tn, .int .i64 per, .slice va ls.length vc, .int .i64 gr, .int .i64 re, .int .i64 nt] 31)))
  clear hc3 hr3 k2 lt2
  have V := Lib.hid (fun w' (hc : Chg [] (w3.alloc (.cells #[.string tn, .int .i64 per, .slice vb ls.length vd, .int .i64 gr, .int .i64 re, .int .i64 nt] 31)) w') => show w'.cell? ⟨w2.heap.size, 0, none⟩ = some (.string tn) ∧ w'.cell? ⟨w2.heap.size, 1, none⟩ = some (.int .i64 per) ∧ w'.cell? ⟨w2.heap.size, 2, none⟩ = some (.slice va ls.length vc) ∧ w'.cell? ⟨w2.heap.size, 3, none⟩ = some (.int .i64 gr) ∧ w'.cell? ⟨w2.heap.size, 4, none⟩ = some (.int .i64 re) ∧ w'.cell? ⟨w2.heap.size, 5, none⟩ = some (.int .i64 nt) ∧ w'.cell? ⟨w3.heap.size, 0, none⟩ = some (.string tn) ∧ w'.cell? ⟨w3.heap.size, 1, none⟩ = some (.int .i64 per) ∧ w'.cell? ⟨w3.heap.size, 2, none⟩ = some (.slice vb ls.length vd) ∧ w'.cell? ⟨w3.heap.size, 3, none⟩ = some (.int .i64 gr) ∧ w'.cell? ⟨w3.heap.size, 4, none⟩ = some (.int .i64 re) ∧ w'.cell? ⟨w3.heap.size, 5, none⟩ = some (.int .i64 nt) ∧ w'.cell? ⟨w.heap.size, 0, none⟩ = some (.string i.tn) ∧ w'.cell? ⟨w.heap.size, 1, none⟩ = some (.int .i64 i.per) ∧ w'.cell? ⟨w.heap.size, 2, none⟩ = some (.slice a i.ls.length cap) ∧ w'.cell? ⟨w.heap.size, 3, none⟩ = some (.int .i64 i.gr) ∧ w'.cell? ⟨w.heap.size, 4, none⟩ = some (.int .i64 i.re) ∧ w'.cell? ⟨w.heap.size, 5, none⟩ = some (.int .i64 i.nt) from by
    have x := blk_cell (((Chg.refl [] w3).alloc (.cells #[.string tn, .int .i64 per, .slice vb ls.length vd, .int .i64 gr, .int .i64 re, .int .i64 nt] 31)).thenSame hc |>.at (by simp) X3.out)
    have y := blk_cell (hc.at (by simp) (heap_alloc_new w3 (.cells #[.string tn, .int .i64 per, .slice vb ls.length vd, .int .i64 gr, .int .i64 re, .int .i64 nt] 31)))
    have z := blk_cell ((I3.out.next (((Chg.refl [] w3).alloc (.cells #[.string tn, .int .i64 per, .slice vb ls.length vd, .int .i64 gr, .int .i64 re, .int .i64 nt] 31)).thenSame hc)).iv)
    unfold ivO at z
    exact ⟨x 0, x 1, x 2, x 3, x 4, x 5, y 0, y 1, y 2, y 3, y 4, y 5, z 0, z 1, z 2, z 3, z 4, z 5⟩)
  have SM := Lib.hid (fun w' (hc : Chg [] (w3.alloc (.cells #[.string tn, .int .i64 per, .slice vb ls.length vd, .int .i64 gr, .int .i64 re, .int .i64 nt] 31)) w') => same54_any ⟨tn, per, ls, gr, re, nt⟩ va vb vc vd w' (RowOf.sl ((R2.out.kept (K3.out.thenSame (((Chg.refl [] w3).alloc (.cells #[.string tn, .int .i64 per, .slice vb ls.length vd, .int .i64 gr, .int .i64 re, .int .i64 nt] 31)).thenSame hc)) (by simp))) lnC_len).1 (RowOf.sl (R3.out.kept (((Chg.refl [] w3).alloc (.cells #[.string tn, .int .i64 per, .slice vb ls.length vd, .int .i64 gr, .int .i64 re, .int .i64 nt] 31)).thenSame hc) (by simp)) lnC_len).1 RL.out)
  unfold ivV at SM
  simp only at SM
  have A3c := Lib.hid (fun w' (hc : Chg [] (w3.alloc (.cells #[.string tn, .int .i64 per, .slice vb ls.length vd, .int .i64 gr, .int .i64 re, .int .i64 nt] 31)) w') => A3.out w' ((I3.out.chg.alloc (.cells #[.string tn, .int .i64 per, .slice vb ls.length vd, .int .i64 gr, .int .i64 re, .int .i64 nt] 31)).thenSame hc))
  have A4c := Lib.hid (fun w' (hc : Chg [] (w3.alloc (.cells #[.string tn, .int .i64 per, .slice vb ls.length vd, .int .i64 gr, .int .i64 re, .int .i64 nt] 31)) w') => A4.out w' ((I3.out.chg.alloc (.cells #[.string tn, .int .i64 per, .slice vb ls.length vd, .int .i64 gr, .int .i64 re, .int .i64 nt] 31)).thenSame hc))
  have CI := Lib.hid (I3.out.chg.alloc (.cells #[.string tn, .int .i64 per, .slice vb ls.length vd, .int .i64 gr, .int .i64 re, .int .i64 nt] 31))
  have CK := Lib.hid (I3.out.next ((Chg.refl [] w3).alloc (.cells #[.string tn, .int .i64 per, .slice vb ls.length vd, .int .i64 gr, .int .i64 re, .int .i64 nt] 31)))
  go_upto_region 3 with fail
  go_region_held3 (fun w' => w'.cell? ⟨w2.heap.size, 0, none⟩ = some (.string tn) ∧ w'.cell? ⟨w2.heap.size, 1, none⟩ = some (.int .i64 per) ∧ w'.cell? ⟨w2.heap.size, 2, none⟩ = some (.slice va ls.length vc) ∧ w'.cell? ⟨w2.heap.size, 3, none⟩ = some (.int .i64 gr) ∧ w'.cell? ⟨w2.heap.size, 4, none⟩ = some (.int .i64 re) ∧ w'.cell? ⟨w2.heap.size, 5, none⟩ = some (.int .i64 nt) ∧ w'.cell? ⟨w3.heap.size, 0, none⟩ = some (.string tn) ∧ w'.cell? ⟨w3.heap.size, 1, none⟩ = some (.int .i64 per) ∧ w'.cell? ⟨w3.heap.size, 2, none⟩ = some (.slice vb ls.length vd) ∧ w'.cell? ⟨w3.heap.size, 3, none⟩ = some (.int .i64 gr) ∧ w'.cell? ⟨w3.heap.size, 4, none⟩ = some (.int .i64 re) ∧ w'.cell? ⟨w3.heap.size, 5, none⟩ = some (.int .i64 nt) ∧ w'.cell? ⟨w.heap.size, 0, none⟩ = some (.string i.tn) ∧ w'.cell? ⟨w.heap.size, 1, none⟩ = some (.int .i64 i.per) ∧ w'.cell? ⟨w.heap.size, 2, none⟩ = some (.slice a i.ls.length cap) ∧ w'.cell? ⟨w.heap.size, 3, none⟩ = some (.int .i64 i.gr) ∧ w'.cell? ⟨w.heap.size, 4, none⟩ = some (.int .i64 i.re) ∧ w'.cell? ⟨w.heap.size, 5, none⟩ = some (.int .i64 i.nt))
    (first | exact V.out _ (by (repeat (first | exact Chg.refl _ _ | (refine Chg.alloc ?_ _) | (refine Chg.drewN ?_ _) | (refine Chg.drew ?_) | (refine thenH (by assumption) ?_)))))
    (first
      | (go_at_call 13; (with_reducible refine (SM.out _ (by (repeat (first | exact Chg.refl _ _ | (refine Chg.alloc ?_ _) | (refine Chg.drewN ?_ _) | (refine Chg.drew ?_) | (refine thenH (by assumption) ?_))))).mono ?_); rintro e w5 ⟨rfl, hc⟩; have K5 := Lib.hid hc; clear hc)
      | (go_at_call 14; (with_reducible refine (A3c.out _ (by (repeat (first | exact Chg.refl _ _ | (refine Chg.alloc ?_ _) | (refine Chg.drewN ?_ _) | (refine Chg.drew ?_) | (refine thenH (by assumption) ?_))))).mono ?_); rintro e w6 ⟨rfl, hc⟩; have K6 := Lib.hid hc; clear hc)
      | (go_at_call 15; (with_reducible refine (A4c.out _ (by (repeat (first | exact Chg.refl _ _ | (refine Chg.alloc ?_ _) | (refine Chg.drewN ?_ _) | (refine Chg.drew ?_) | (refine thenH (by assumption) ?_))))).mono ?_); rintro e w7 ⟨rfl, hc⟩; have K7 := Lib.hid hc; clear hc)
      | fail)
  have CF := Lib.hid (show Chg [] (w3.alloc (.cells #[.string tn, .int .i64 per, .slice vb ls.length vd, .int .i64 gr, .int .i64 re, .int .i64 nt] 31)) w7 from (by (repeat (first | exact Chg.refl _ _ | (refine Chg.alloc ?_ _) | (refine Chg.drewN ?_ _) | (refine Chg.drew ?_) | (refine thenH (by assumption) ?_)))))
  have I7 := Lib.hid (CK.out.next CF.out)
  have k7 := blk_cell I7.out.iv
  have l7 := lt_of_heap I7.out.iv
  unfold ivO at k7
  clear V SM A3c A4c
  go_wp2_with fail
  refine (A5.out _ I7.out.chg).mono ?_; rintro e w8 ⟨v8, rfl, hr8, hc8⟩
  obtain ⟨fa, fc, rfl⟩ := RowOf.shape hr8
  have I8 := Lib.hid (I7.out.next hc8)
  have k8 := blk_cell I8.out.iv
  have l8 := lt_of_heap I8.out.iv
  unfold ivO at k8
  have F8 := Lib.hid (RowOf.sl hr8 kLen).1
  clear hc8 hr8 k7 l7
  go_wp2_with fail
  refine (A6.out _ I8.out.chg).mono ?_; rintro e w9 ⟨v9, rfl, hr9, hc9⟩
  obtain ⟨fb, fd, rfl⟩ := RowOf.shape hr9
  have C9 := Lib.hid (I8.out.chg.thenSame hc9)
  have F8b := Lib.hid (F8.out.kept hc9)
  have F9 := Lib.hid (RowOf.sl hr9 kLen).1
  clear hc9 hr9 k8 l8
  go_wp2_with fail
  refine (rsame05_any fl fa fb fc fd w9 F8b.out F9.out FL.out).mono ?_; rintro e w10 ⟨rfl, hc10⟩
  have C10 := Lib.hid (C9.out.thenSame hc10)
  clear hc10
  go_wp2_with fail
  refine (awake54_any _ (HT.out.kept C10.out)).mono ?_; rintro e w11 ⟨rfl, hc11⟩
  have C11 := Lib.hid (C10.out.thenSame hc11)
  clear hc11
  go_wp2_with fail
  go_ret
  exact ⟨rfl, C11.out.toBelow (Nat.le_refl _) (by simp)⟩
end Go.Proofs.YtehjalgogjkdlaaGreatDoor
