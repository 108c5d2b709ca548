/- Chapter 43: contract: the examples of the chapter. No condition. -/
import Derived.Test.YtjbnfaapkicejaaPlcN
import Derived.Test.YtjbnfaapkicejaaPldC
import Derived.Test.YtjbnfaapkicejaaPldA
namespace Go.Proofs.Ytjbnfaapkicejaa
set_option linter.unusedVariables false
set_option linter.unusedSimpArgs false
open Go.RowKit
def wa : Wk := ⟨⟨#[97]⟩, 10, false⟩
def wb : Wk := ⟨⟨#[98]⟩, 20, false⟩
def wb2 : Wk := ⟨⟨#[98]⟩, 20, true⟩
def pOne (s : UInt8) (n : Int) : Pl := ⟨⟨#[s]⟩, ⟨#[116]⟩, n, ⟨#[]⟩⟩
def pOn (s v : UInt8) : Pl := ⟨⟨#[s]⟩, ⟨#[116]⟩, 5, ⟨#[v]⟩⟩
theorem aw1 : addP [wa, wb] [] (pOne 105 5) = ([pOn 105 98], 0) := by kernel_rfl
theorem aw2 : addP [wa, wb] [pOn 105 98] (pOne 106 5) = ([pOn 105 98, pOn 106 97], 0) := by kernel_rfl
theorem aw3 : addP [wa, wb] [pOn 105 98, pOn 106 97] (pOne 107 5) = ([pOn 105 98, pOn 106 97, pOn 107 98], 0) := by kernel_rfl
theorem aw4 : choosePX [wa, wb2] [] (pOne 109 11) = (⟨#[]⟩, 17) := by kernel_rfl
theorem aw5 : spreadN [pOn 105 98, pOn 106 97, pOn 107 98] ⟨#[116]⟩ = 2 := by rw [spread_same]; kernel_rfl
theorem goodWs : ∀ x ∈ [wa, wb], x.good := by
  intro x hx
  simp at hx
  rcases hx with rfl | rfl <;> exact ⟨by decide, by decide⟩
theorem goodWs2 : ∀ x ∈ [wa, wb2], x.good := by
  intro x hx
  simp at hx
  rcases hx with rfl | rfl <;> exact ⟨by decide, by decide⟩
theorem goodPl : ∀ x ∈ [pOn 105 98, pOn 106 97, pOn 107 98, pOne 105 5, pOne 106 5, pOne 107 5, pOne 109 11], x.good := by
  intro x hx
  simp at hx
  rcases hx with rfl | rfl | rfl | rfl | rfl | rfl | rfl <;> exact ⟨by decide, by decide, by decide, by decide⟩
theorem InIs.nil {α : Type} {cf : α → List Value} {sz : Nat} (w : World) : InIs cf sz w none 0 ([] : List α) := ⟨⟨rfl, fun k hk => absurd hk (Nat.not_lt_zero k)⟩, Nat.le_refl _, by unfold maxLen; omega, fun _ => rfl⟩
set_option maxHeartbeats 16000000 in
set_option maxRecDepth 100000 in
theorem awake_any (w : World) : Calls Try.prog 9 #[] w fun e w' => e = .returned (.bool true) ∧ Chg [] w w' := by
  have C1 := Lib.hid (show Chg [] w (w.alloc (.cells #[.string ⟨#[97]⟩, .int .i64 10, .bool false, .string ⟨#[98]⟩, .int .i64 20, .bool false] 36)) from (Chg.refl _ _).alloc _)
  have X1 := Lib.hid (heap_alloc_new w (.cells #[.string ⟨#[97]⟩, .int .i64 10, .bool false, .string ⟨#[98]⟩, .int .i64 20, .bool false] 36))
  obtain ⟨W1, hW1⟩ : ∃ W1, W1 = w.alloc (.cells #[.string ⟨#[97]⟩, .int .i64 10, .bool false, .string ⟨#[98]⟩, .int .i64 20, .bool false] 36) := ⟨_, rfl⟩
  rw [← hW1] at C1 X1
  have HW1 := Lib.hid hW1
  have HW := Lib.hid (fun w' (hc : Chg [] W1 w') => SlIs.ofBlock [wa, wb] (hc.at (by simp) X1.out) wkC_len rfl)
  have A1 := Lib.hid (fun w' (hc : Chg [] W1 w') => by
    have := add_any (some ⟨w.heap.size, 0, none⟩) 2 [wa, wb] none 0 [] (pOne 105 5) w' (HW.out w' hc) (by decide) (by decide) goodWs (InIs.nil _) (by decide) (by simp) (goodPl _ (by simp))
    rw [aw1] at this
    exact this)
  have A2 := Lib.hid (fun w' a c (hc : Chg [] W1 w') (h : InIs plC 4 w' a c [pOn 105 98]) => by
    have := add_any (some ⟨w.heap.size, 0, none⟩) 2 [wa, wb] a c [pOn 105 98] (pOne 106 5) w' (HW.out w' hc) (by decide) (by decide) goodWs h (by decide) (fun x hx => goodPl x (by simp at hx; simp [hx])) (goodPl _ (by simp))
    rw [aw2] at this
    exact this)
  have A3 := Lib.hid (fun w' a c (hc : Chg [] W1 w') (h : InIs plC 4 w' a c [pOn 105 98, pOn 106 97]) => by
    have := add_any (some ⟨w.heap.size, 0, none⟩) 2 [wa, wb] a c [pOn 105 98, pOn 106 97] (pOne 107 5) w' (HW.out w' hc) (by decide) (by decide) goodWs h (by decide) (fun x hx => goodPl x (by simp at hx; rcases hx with rfl | rfl <;> simp)) (goodPl _ (by simp))
    rw [aw3] at this
    exact this)
  have A4 := Lib.hid (fun (w' : World) (h : w'.heap[w.heap.size]? = some (.cells #[.string ⟨#[97]⟩, .int .i64 10, .bool false, .string ⟨#[98]⟩, .int .i64 20, .bool true] 36)) => by
    have := choosex_any (some ⟨w.heap.size, 0, none⟩) 2 [wa, wb2] none 0 [] (pOne 109 11) w' (SlIs.ofBlock [wa, wb2] h wkC_len rfl) (by decide) (by decide) goodWs2 (InIs.nil (α := Pl) (cf := plC) (sz := 4) w').1 (by decide) (by decide) (by simp) (goodPl _ (by simp))
    rw [aw4] at this
    exact this)
  have A5 := Lib.hid (fun (w' : World) a c (h : SlIs plC 4 w' a 3 [pOn 105 98, pOn 106 97, pOn 107 98]) => by
    have := spread_any a c [pOn 105 98, pOn 106 97, pOn 107 98] ⟨#[116]⟩ w' h (by decide)
    rw [aw5] at this
    exact this)
  have B1 := Lib.hid (fun w' => one_any ⟨#[105]⟩ 5 w')
  have B2 := Lib.hid (fun w' => one_any ⟨#[106]⟩ 5 w')
  have B3 := Lib.hid (fun w' => one_any ⟨#[107]⟩ 5 w')
  have B4 := Lib.hid (fun w' => one_any ⟨#[109]⟩ 11 w')
  unfold plV at B1 B2 B3 B4 A1 A2 A3 A4
  clear hW1
  go_enter Try.func9, Try.ntmps9
  go_wp2_with fail
  rw [← HW1.out]
  go_wp2_with (refine (B1.out _).mono ?_; rintro e w2 ⟨rfl, hc2⟩; have D2 := Lib.hid hc2; clear hc2)
  refine (A1.out _ D2.out).mono ?_; rintro e w3 ⟨v3, rfl, hr3, hc3⟩
  obtain ⟨a3, c3, hv3⟩ := RowOf.shape hr3
  change v3 = .slice a3 1 c3 at hv3
  subst hv3
  have I3 := Lib.hid (InIs.ofRow hr3 plC_len).2
  have D3 := Lib.hid (D2.out.thenSame hc3)
  clear hr3 hc3
  go_wp2_with (refine (B2.out _).mono ?_; rintro e w4 ⟨rfl, hc4⟩; have D4 := Lib.hid (D3.out.thenSame hc4); have I4 := Lib.hid (I3.out.kept hc4); clear hc4)
  refine (A2.out _ _ _ D4.out I4.out).mono ?_; rintro e w5 ⟨v5, rfl, hr5, hc5⟩
  obtain ⟨a5, c5, hv5⟩ := RowOf.shape hr5
  change v5 = .slice a5 2 c5 at hv5
  subst hv5
  have I5 := Lib.hid (InIs.ofRow hr5 plC_len).2
  have D5 := Lib.hid (D4.out.thenSame hc5)
  clear hr5 hc5
  go_wp2_with (refine (B3.out _).mono ?_; rintro e w6 ⟨rfl, hc6⟩; have D6 := Lib.hid (D5.out.thenSame hc6); have I6 := Lib.hid (I5.out.kept hc6); clear hc6)
  refine (A3.out _ _ _ D6.out I6.out).mono ?_; rintro e w7 ⟨v7, rfl, hr7, hc7⟩
  obtain ⟨a7, c7, hv7⟩ := RowOf.shape hr7
  change v7 = .slice a7 3 c7 at hv7
  subst hv7
  have I7 := (InIs.ofRow hr7 plC_len).2
  have D7 := Lib.hid (D6.out.thenSame hc7)
  have hel := fun k hk => I7.1.elem (Chg.refl [] w7) k hk
  obtain ⟨g7, o7, e7, -, hb7, hcc0⟩ := hel 0 (by decide)
  obtain ⟨g8, o8, e8, -, -, hcc1⟩ := hel 1 (by decide)
  obtain ⟨g9, o9, e9, -, -, hcc2⟩ := hel 2 (by decide)
  subst e7
  cases e8
  cases e9
  have p0 := hcc0 3 (by omega)
  have p1 := hcc1 3 (by omega)
  have p2 := hcc2 3 (by omega)
  simp [plC, pOn] at p0 p1 p2
  have X7 := Lib.hid (D7.out.at (by simp) X1.out)
  have x7 := blk_cell X7.out
  have f7 := blk_free X7.out
  have l7 := lt_of_heap X7.out
  have I7' := Lib.hid I7
  obtain ⟨W8, hW8⟩ : ∃ W8, W8 = w7.setCell ⟨w.heap.size, 5, none⟩ (.bool true) := ⟨_, rfl⟩
  have X8 := Lib.hid (show W8.heap[w.heap.size]? = some (.cells #[.string ⟨#[97]⟩, .int .i64 10, .bool false, .string ⟨#[98]⟩, .int .i64 20, .bool true] 36) by rw [hW8]; exact blk_set X7.out 5 (.bool true))
  have C8 := Lib.hid (show Chg [] w W8 by rw [hW8]; exact (C1.out.thenSame D7.out).setCell _ _ (by simp))
  have HW8 := Lib.hid hW8
  have N7 := Lib.hid hr7
  clear hel hcc0 hcc1 hcc2 I7 hr7 hc7 hW8
  have hs6 := (C1.out.thenSame D6.out).size
  have hsz := lt_of_heap X1.out
  have hs1 := D6.out.size
  have I8 := Lib.hid (RowOf.sl (RowOf.kept N7.out (show Chg [w.heap.size] w7 W8 by rw [HW8.out]; exact (Chg.refl _ _).setCell _ _ (by simp)) (fun g hg hm => by
    have := (N7.out.block g hg).1
    simp at hm
    omega)) plC_len).1
  go_wp2_with fail
  rw [← HW8.out]
  refine (B4.out _).mono ?_; rintro e w9 ⟨rfl, hc9⟩
  have X9 := Lib.hid (hc9.at (by simp) X8.out)
  have C9 := Lib.hid (C8.out.thenSame hc9)
  have I9 := Lib.hid (I8.out.kept hc9)
  clear hc9
  go_wp2_with fail
  refine (A4.out _ X9.out).mono ?_; rintro e w10 ⟨rfl, hc10⟩
  have C10 := Lib.hid (C9.out.thenSame hc10)
  have I10 := Lib.hid (I9.out.kept hc10)
  clear hc10
  go_wp2_with fail
  refine (A5.out _ _ _ I10.out).mono ?_; rintro e w11 ⟨rfl, hc11⟩
  have C11 := Lib.hid (C10.out.thenSame hc11)
  clear hc11
  go_wp2_with fail
  go_ret
  exact ⟨rfl, C11.out⟩
end Go.Proofs.Ytjbnfaapkicejaa
