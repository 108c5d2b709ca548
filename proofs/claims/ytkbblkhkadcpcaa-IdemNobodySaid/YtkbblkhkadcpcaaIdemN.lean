/- Chapter 27: IdemNobody: tables that New did not return have nothing, and their methods return ErrState. No condition. -/
import Derived.Test.YtkbblkhkadcpcaaIdemE
import Derived.Test.YtkbblkhkadcpcaaIdemK
namespace Go.Proofs.Ytkbblkhkadcpcaa
open Go.RowKit

/-- A table that New did not return: nil, or one without a map. -/
def NoTab (w : World) (p : Option Addr) : Prop := p = none ∨ ∃ b, p = some ⟨b, 0, none⟩ ∧ w.heap[b]? = some (.cells #[.int .i64 0, .int .i64 0, .int .i64 0, .map none] 53 (0, 0))

theorem made_no (p : Option Addr) (w : World) (h : NoTab w p) : Calls Try.prog 23 #[.pointer p] w fun e w' => e = .returned (.bool false) ∧ w = w' := by
  rcases h with rfl | ⟨b, rfl, hb⟩
  · go_enter Try.func23, Try.ntmps23
    go_wp2_with fail
    go_ret
    exact ⟨rfl, rfl⟩
  · have hc := blk_cell hb
    have hm := fun w => run_neq_map_nil (P := Try.prog) w 51 9 59 none Try.underlying51
    go_enter Try.func23, Try.ntmps23
    go_wp2
    go_ret
    exact ⟨rfl, rfl⟩

theorem begin_no (p : Option Addr) (key dig : ByteArray) (now : Int) (w : World) (h : NoTab w p) : Calls Try.prog 9 #[.pointer p, .string key, .string dig, .int .i64 now] w fun e w' => e = .returned (.tuple #[.int .i64 0, .string ⟨#[]⟩, .int .i64 10]) ∧ w = w' := by
  have H := Lib.hid h
  clear h
  go_enter Try.func9, Try.ntmps9
  go_wp2_with fail
  refine (made_no p w H.out).mono ?_; rintro e w1 ⟨rfl, rfl⟩
  go_wp2_with fail
  go_ret3
  exact ⟨rfl, rfl⟩
theorem finish_no (p : Option Addr) (key dig res : ByteArray) (now : Int) (w : World) (h : NoTab w p) : Calls Try.prog 14 #[.pointer p, .string key, .string dig, .string res, .int .i64 now] w fun e w' => e = .returned (.int .i64 10) ∧ w = w' := by
  have H := Lib.hid h
  clear h
  go_enter Try.func14, Try.ntmps14
  go_wp2_with fail
  refine (made_no p w H.out).mono ?_; rintro e w1 ⟨rfl, rfl⟩
  go_wp2_with fail
  go_ret
  exact ⟨rfl, rfl⟩
theorem abandon_no (p : Option Addr) (key dig : ByteArray) (now : Int) (w : World) (h : NoTab w p) : Calls Try.prog 22 #[.pointer p, .string key, .string dig, .int .i64 now] w fun e w' => e = .returned (.int .i64 10) ∧ w = w' := by
  have H := Lib.hid h
  clear h
  go_enter Try.func22, Try.ntmps22
  go_wp2_with fail
  refine (made_no p w H.out).mono ?_; rintro e w1 ⟨rfl, rfl⟩
  go_wp2_with fail
  go_ret
  exact ⟨rfl, rfl⟩
theorem sweep_no (p : Option Addr) (now : Int) (w : World) (h : NoTab w p) : Calls Try.prog 15 #[.pointer p, .int .i64 now] w fun e w' => e = .returned (.int .i64 0) ∧ w = w' := by
  have H := Lib.hid h
  clear h
  go_enter Try.func15, Try.ntmps15
  go_wp2_with fail
  refine (made_no p w H.out).mono ?_; rintro e w1 ⟨rfl, rfl⟩
  go_wp2_with fail
  go_ret
  exact ⟨rfl, rfl⟩
theorem len_no (p : Option Addr) (w : World) (h : NoTab w p) : Calls Try.prog 17 #[.pointer p] w fun e w' => e = .returned (.int .i64 0) ∧ w = w' := by
  have H := Lib.hid h
  clear h
  go_enter Try.func17, Try.ntmps17
  go_wp2_with fail
  refine (made_no p w H.out).mono ?_; rintro e w1 ⟨rfl, rfl⟩
  go_wp2_with fail
  go_ret
  exact ⟨rfl, rfl⟩
theorem keys_no (p : Option Addr) (w : World) (h : NoTab w p) : Calls Try.prog 20 #[.pointer p] w fun e w' => e = .returned (.slice none 0 0) ∧ w = w' := by
  have H := Lib.hid h
  clear h
  go_enter Try.func20, Try.ntmps20
  go_wp2_with fail
  refine (made_no p w H.out).mono ?_; rintro e w1 ⟨rfl, rfl⟩
  go_wp2_with fail
  go_ret
  exact ⟨rfl, rfl⟩

set_option maxHeartbeats 2000000 in
set_option maxRecDepth 100000 in
theorem nobody_walk (a0 a1 : ByteArray) (a2 : Int) (_w0 : a0.size ≤ maxLen) (_w1 : a1.size ≤ maxLen) (_w2 : (Lit.int .i64 a2).wf = true) (w : World) :
    Calls Try.prog 7 #[.string a0, .string a1, .int .i64 a2] w fun e w' => e = .returned (.bool true) ∧ Below w.heap.size w w' := by
  go_enter Try.func7, Try.ntmps7
  go_wp2_with fail
  obtain ⟨W, hW⟩ : ∃ W, W = (w.alloc (.cells #[.int .i64 0, .int .i64 0, .int .i64 0, .map none] 53)).alloc (.cells #[.pointer none, .pointer (some ⟨w.heap.size, 0, none⟩)] 23) := ⟨_, rfl⟩
  rw [← hW]
  have HB : Hid (Below w.heap.size w W) := by rw [hW]; exact ((Below.refl _ w).alloc (Nat.le_refl _) _).alloc (by simp) _
  have e1 : (w.alloc (.cells #[.int .i64 0, .int .i64 0, .int .i64 0, .map none] 53)).heap.size = w.heap.size + 1 := by simp
  have Hb : Hid (W.heap[w.heap.size]? = some (.cells #[.int .i64 0, .int .i64 0, .int .i64 0, .map none] 53 (0, 0))) := by rw [hW]; exact blk_alloc (heap_alloc_new _ _)
  have hs : W.heap[w.heap.size + 1]? = some (.cells #[.pointer none, .pointer (some ⟨w.heap.size, 0, none⟩)] 23 (0, 0)) := by rw [hW, ← e1]; exact heap_alloc_new _ _
  have hcs := blk_cell hs
  have h0 := hcs 0
  have h1 := hcs 1
  simp only [List.getElem?_toArray, List.getElem?_cons_zero, List.getElem?_cons_succ] at h0 h1
  have hno : ∀ p, p = none ∨ p = some ⟨w.heap.size, 0, none⟩ → NoTab W p := fun p hp => hp.elim .inl fun h => .inr ⟨_, h, Hb.out⟩
  have Hno := Lib.hid hno
  clear hcs hs hW hno
  go_loopw [16] (fun i wr => wr = W ∧ ∃ k : Nat, i = .int .i64 k ∧ k ≤ 2) (fun i _ => 2 - (intOf i).toNat)
  case atStart => exact ⟨rfl, 0, rfl, by omega⟩
  case round =>
    obtain ⟨rfl, k, rfl, hk⟩ := hrel
    by_cases hk2 : k = 2
    · subst hk2
      go_wp2_with fail
      refine (awake_any _).mono ?_; rintro e w4 ⟨rfl, hb4⟩
      go_wp2_with fail
      go_ret
      exact ⟨rfl, HB.out.trans (hb4.mono HB.out.size)⟩
    · obtain ⟨p, hp, hpc⟩ : ∃ p : Option Addr, (p = none ∨ p = some ⟨w.heap.size, 0, none⟩) ∧ wr.cell? ⟨w.heap.size + 1, k, none⟩ = some (.pointer p) := by
        rcases (by omega : k = 0 ∨ k = 1) with rfl | rfl
        · exact ⟨none, .inl rfl, h0⟩
        · exact ⟨_, .inr rfl, h1⟩
      have hN := Hno.out p hp
      have HN := Lib.hid hN
      have hk0 : (0 : Int) ≤ (k : Int) := by omega
      have hk1 : (k : Int) < 2 := by omega
      have hem : ((⟨#[]⟩ : ByteArray).toList == []) = true := by kernel_rfl
      clear hp hN h0 h1
      go_wp2_with fail
      refine (begin_no p _ _ _ _ HN.out).mono ?_; rintro e w1 ⟨rfl, rfl⟩
      go_wp2_with fail
      refine (finish_no p _ _ _ _ _ HN.out).mono ?_; rintro e w1 ⟨rfl, rfl⟩
      go_wp2_with fail
      refine (abandon_no p _ _ _ _ HN.out).mono ?_; rintro e w1 ⟨rfl, rfl⟩
      go_wp2_with fail
      refine (sweep_no p _ _ HN.out).mono ?_; rintro e w1 ⟨rfl, rfl⟩
      go_wp2_with fail
      refine (len_no p _ HN.out).mono ?_; rintro e w1 ⟨rfl, rfl⟩
      go_wp2_with fail
      refine (keys_no p _ HN.out).mono ?_; rintro e w1 ⟨rfl, rfl⟩
      go_wp2_with fail
      exact ⟨⟨trivial, k + 1, by go_num, by omega⟩, by simp [intOf]; omega⟩
end Go.Proofs.Ytkbblkhkadcpcaa
