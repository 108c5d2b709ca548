/- Chapter 30: the walk of StreamNobody. Condition: the table of Itoa lies as the program lays it. -/
import Derived.Test.YtmichbpfmachcaaDoorStmQ
namespace Go.Proofs.YtmichbpfmachcaaDoor
set_option linter.unusedVariables false
set_option linter.unusedSimpArgs false
open Go.RowKit
set_option maxHeartbeats 8000000 in
set_option maxRecDepth 100000 in
theorem nobody_walk (a0 a1 a2 a3 : Int) (w : World) (ht : TabW w) : Calls Tryd.prog 7 #[.int .i64 a0, .int .i64 a1, .int .i64 a2, .int .i64 a3] w fun e w' => e = .returned (.bool true) ∧ Below w.heap.size w w' := by
  have AF := Lib.hid (fun w' (hc : Chg [] w w') => full_any w' (ht.kept hc))
  have AA := Lib.hid (fun w' (hc : Chg [] w w') => awake_any w' (ht.kept hc))
  go_enter Tryd.func7, Tryd.ntmps7
  go_wp2_with fail
  obtain ⟨W1, hW1⟩ : ∃ W1, W1 = (w.alloc (.cells #[.int .i64 0, .int .i64 0, .slice none 0 0] 61)).alloc (.cells #[.pointer none, .pointer (some ⟨w.heap.size, 0, none⟩)] 28) := ⟨_, rfl⟩
  rw [← hW1]
  have C1 := Lib.hid (show Chg [] w W1 by rw [hW1]; exact ((Chg.refl _ _).alloc _).alloc _)
  have B1 := Lib.hid (show W1.heap[w.heap.size]? = some (.cells #[.int .i64 0, .int .i64 0, .slice none 0 0] 61 (0, 0)) by rw [hW1]; exact blk_alloc (heap_alloc_new _ _))
  have B2 := Lib.hid (show W1.heap[w.heap.size + 1]? = some (.cells #[.pointer none, .pointer (some ⟨w.heap.size, 0, none⟩)] 28 (0, 0)) by rw [hW1]; have := heap_alloc_new (w.alloc (.cells #[.int .i64 0, .int .i64 0, .slice none 0 0] 61)) (.cells #[.pointer none, .pointer (some ⟨w.heap.size, 0, none⟩)] 28); rw [World.size_alloc] at this; exact this)
  have HP : Hid (∀ k < 2, ∃ p, NoStm W1 p ∧ ∀ w', Chg [] W1 w' → w'.cell? ⟨w.heap.size + 1, k, none⟩ = some (.pointer p)) := Lib.hid (fun k hk => by
    match k, hk with
    | 0, _ => exact ⟨none, .inl rfl, fun w' hc => blk_cell (hc.at (by simp) B2.out) 0⟩
    | 1, _ => exact ⟨some ⟨w.heap.size, 0, none⟩, .inr ⟨_, rfl, B1.out⟩, fun w' hc => blk_cell (hc.at (by simp) B2.out) 1⟩)
  clear hW1
  go_loopw [24] (fun t wr => ∃ k : Nat, t = .int .i64 k ∧ k ≤ 2 ∧ Hid (Chg [] W1 wr)) (fun t _ => 2 - (intOf t).toNat)
  case atStart => exact ⟨0, rfl, Nat.zero_le _, Lib.hid (Chg.refl _ _)⟩
  case round =>
    obtain ⟨k, rfl, hk, D⟩ := hrel
    have k0 : 0 ≤ (k : Int) := by omega
    by_cases hlt : k < 2
    · obtain ⟨p, hn, hcell⟩ := HP.out k hlt
      have hce := hcell wr D.out
      have k1 : (k : Int) < 2 := by omega
      have HN := Lib.hid hn
      clear hn hcell
      go_wp2_with fail
      refine (example_any _ _).mono ?_; rintro x w2 ⟨e, rfl, -, -, -, hc⟩
      have D2 := Lib.hid (D.out.thenSame hc)
      clear hc
      go_wp2_with fail
      refine (no_append (HN.out.kept D2.out) e a3).mono ?_; rintro x w3 ⟨rfl, hc⟩
      have D3 := Lib.hid (D2.out.thenSame hc)
      clear hc
      go_wp2_with fail
      refine (no_read (HN.out.kept D3.out) a0 a1 a2).mono ?_; rintro x w4 ⟨rfl, rfl⟩
      go_wp2_with fail
      refine (no_first (HN.out.kept D3.out) a0).mono ?_; rintro x w4 ⟨rfl, rfl⟩
      go_wp2_with fail
      refine (no_next (HN.out.kept D3.out) a0).mono ?_; rintro x w4 ⟨rfl, rfl⟩
      go_wp2_with fail
      refine (no_trim (HN.out.kept D3.out) a3).mono ?_; rintro x w4 ⟨rfl, hc⟩
      have D4 := Lib.hid (D3.out.thenSame hc)
      clear hc
      go_wp2_with fail
      refine (no_shards (HN.out.kept D4.out)).mono ?_; rintro x w5 ⟨rfl, rfl⟩
      go_wp2_with fail
      refine (no_shard (HN.out.kept D4.out) _).mono ?_; rintro x w5 ⟨rfl, rfl⟩
      go_wp2_with fail
      exact ⟨⟨k + 1, by go_num, by omega, D4⟩, by simp [intOf]; omega⟩
    · have hks : k = 2 := by omega
      subst hks
      have D2 := Lib.hid (C1.out.thenSame D.out)
      go_wp2_with fail
      refine (AF.out _ D2.out).mono ?_; rintro x w2 ⟨rfl, hc⟩
      have D3 := Lib.hid (D2.out.thenSame hc)
      clear hc
      go_wp2_with fail
      refine (AA.out _ D3.out).mono ?_; rintro x w3 ⟨rfl, hc⟩
      have D4 := Lib.hid (D3.out.thenSame hc)
      clear hc
      go_wp2_with fail
      go_ret
      exact ⟨rfl, D4.out.toBelow (Nat.le_refl _) (by simp)⟩
end Go.Proofs.YtmichbpfmachcaaDoor
