/- Chapter 18: the example of the chapter (awake). No condition. -/
import Derived.Test.YtmmhcacpehpjdaaMetO
import Derived.Test.YtmmhcacpehpjdaaMetK
import Derived.Test.YtmmhcacpehpjdaaAlaF
namespace Go.Proofs.Ytmmhcacpehpjdaa
set_option linter.unusedVariables false
set_option linter.unusedSimpArgs false
open Go.RowKit

def eL : List Pt := [⟨1, 4⟩, ⟨2, -4⟩, ⟨2, 7⟩]
theorem em1 : windowS eL 0 3 = (⟨3, 7, -4, 7⟩, 0) := by kernel_rfl
theorem em2 : numberS ⟨2, -3, -2, -1⟩ 5 = (-2, true) := by kernel_rfl
theorem em3 : percS eL 0 3 500 = (4, 0) := by
  have e1 : windowE eL 0 3 = 0 := by kernel_rfl
  have e2 : insideS eL 0 3 = [4, -4, 7] := by kernel_rfl
  have e3 : ([4, -4, 7] : List Int).mergeSort leI = [-4, 4, 7] := by simp [List.mergeSort, List.MergeSort.Internal.splitInTwo, List.merge, leI]
  unfold percS
  rw [if_pos e1, if_pos (by omega), e2, if_neg (by simp), e3]
  rfl
theorem em4 : histS eL [5] = ([2, 1], 0) := by kernel_rfl

set_option maxHeartbeats 4000000 in
set_option maxRecDepth 100000 in
theorem mawake_any (w : World) : Calls Try.prog 27 #[] w fun e w' => e = .returned (.bool true) ∧ Chg [] w w' := by
  have hb1 := heap_alloc_new w (.cells #[.int .i64 1, .int .i64 4, .int .i64 2, .int .i64 (-4), .int .i64 2, .int .i64 7] 47)
  obtain ⟨w1, hw1⟩ : ∃ w1, w1 = w.alloc (.cells #[.int .i64 1, .int .i64 4, .int .i64 2, .int .i64 (-4), .int .i64 2, .int .i64 7] 47) := ⟨_, rfl⟩
  have C1 : Hid (Chg [] w w1) := by rw [hw1]; exact (Chg.refl [] w).alloc _
  rw [← hw1] at hb1
  have S1 := Lib.hid (SlIs.ofBlock (cf := pCells) eL hb1 pLen rfl)
  have A1 := window_any (some ⟨w.heap.size, 0, none⟩) 3 3 eL 0 3 w1 S1.out (by decide)
  rw [em1] at A1
  have A1 := Lib.hid A1
  have A2 := Lib.hid (fun w => em2 ▸ number_any ⟨2, -3, -2, -1⟩ 5 w)
  have A3 := Lib.hid (fun w' h => em3 ▸ perc_any (some ⟨w.heap.size, 0, none⟩) 3 3 eL 0 3 500 w' h (by decide))
  have A4 := Lib.hid (fun w' h b hb => em4 ▸ hist_any (some ⟨w.heap.size, 0, none⟩) 3 3 eL (some ⟨b, 0, none⟩) 1 1 [5] w' h (by decide) hb (by decide))
  rename_i A10
  clear A10 hb1
  go_enter Try.func27, Try.ntmps27
  go_wp2_with fail
  rw [← hw1]
  clear hw1
  refine A1.out.mono ?_; rintro e w2 ⟨rfl, hc2⟩
  have C2 := Lib.hid (C1.out.thenSame hc2)
  have C12 := Lib.hid hc2
  clear hc2
  simp only [sV]
  go_wp2_with fail
  refine (A2.out _).mono ?_; rintro e w3 ⟨rfl, hc3⟩
  have C3 := Lib.hid ((C12.out.alloc (.cells #[.int .i64 3, .int .i64 7, .int .i64 (-4), .int .i64 7] 26)).thenSame hc3)
  have b3 := hc3.at (by simp) (heap_alloc_new w2 (.cells #[.int .i64 3, .int .i64 7, .int .i64 (-4), .int .i64 7] 26))
  have B3 := Lib.hid b3
  clear hc3 b3
  simp only []
  go_wp2_with fail
  refine (A3.out _ (S1.out.kept C3.out)).mono ?_; rintro e w4 ⟨rfl, hc4⟩
  have C4 := Lib.hid (C3.out.thenSame hc4)
  have B4 := Lib.hid (hc4.at (by simp) B3.out)
  clear hc4
  simp only []
  go_wp2_with fail
  have hb5 := heap_alloc_new w4 (.cells #[.int .i64 5] 3)
  have A5 := Lib.hid (A4.out _ (S1.out.kept (C4.out.alloc (.cells #[.int .i64 5] 3))) _ (SlIs.ofBlock (cf := ic) [5] hb5 iLen rfl))
  have B5 := Lib.hid (blk_alloc (o' := .cells #[.int .i64 5] 3) B4.out)
  clear hb5
  refine A5.out.mono ?_; rintro e w6 ⟨v, rfl, hr6, hc6⟩
  simp only at hr6 ⊢
  have C6 := Lib.hid ((C4.out.alloc (.cells #[.int .i64 5] 3)).thenSame hc6)
  have p6 := blk_cell (hc6.at (by simp) B5.out)
  obtain ⟨g, cv, hv, -, -, hcl, -, -, -⟩ := (RowOf.at hr6 iLen).resolve_left (fun h => by simp at h)
  subst hv
  have q0 := hcl 0 (by simp) 0 (by omega)
  simp only [ic, List.getElem_cons_zero, List.getElem?_cons_zero, Nat.zero_mul, Nat.zero_add] at q0
  simp only [List.length_cons, List.length_nil]
  clear hc6 hr6 hcl
  go_wp2_with fail
  go_ret
  exact ⟨rfl, C1.out.thenSame C6.out⟩
end Go.Proofs.Ytmmhcacpehpjdaa
