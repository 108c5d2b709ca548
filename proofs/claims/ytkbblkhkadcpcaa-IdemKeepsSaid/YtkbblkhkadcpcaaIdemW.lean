/- Chapter 27: contract of the reference's Keys. No condition. -/
import Derived.Test.YtkbblkhkadcpcaaIdemV
namespace Go.Proofs.Ytkbblkhkadcpcaa
open Go.RowKit

def rkeysS (s : RSt) : List (List UInt8) := sortedS ((livS s s.time).map fun x => bs x.key)

set_option maxHeartbeats 1600000 in
set_option maxRecDepth 100000 in
theorem rkeys_any (rb : Nat) (F : List Nat) (s : RSt) (w : World) (h : RTabIs w rb F s) (hok : s.ok) :
    Calls Try.prog 21 #[.pointer (some ⟨rb, 0, none⟩)] w fun e w' => ∃ v, e = .returned v ∧ RowOf kc 1 w' w.heap.size 9 v (rkeysS s) ∧ Chg [] w w' := by
  obtain ⟨o1, o2, o3, o4, o5, o6, o7, o8⟩ := hok
  obtain ⟨sv, hb, hr⟩ := h.heap
  have hliv1 : Calls Try.prog 33 #[.pointer (some ⟨rb, 0, none⟩), .int .i64 s.time] w (LivPost w (livS s s.time)) := rliving_any rb s sv s.time w hb hr ⟨by omega, o4⟩ o7 o8
  have Hliv1 := Lib.hid hliv1
  have hc := blk_cell hb
  have hLl : (livS s s.time).length ≤ 4096 := Nat.le_trans (List.length_filter_le _ _) o7
  unfold rkeysS
  generalize livS s s.time = L at *
  clear hliv1 hb hr h o8
  go_enter Try.func21, Try.ntmps21
  go_wp2_with fail
  refine Hliv1.out.mono ?_; rintro e w2 ⟨lv, rfl, hrow, hc2⟩
  obtain ⟨la, lc, hlv⟩ := RowOf.shape hrow
  subst hlv
  have Hrow := Lib.hid hrow
  have hw2 := hc2.size
  clear hrow
  go_wp2_with fail
  go_loopw [4, 5] (fun o i wr => ∃ k : Nat, i = .int .i64 k ∧ k ≤ L.length ∧ RowOf kc 1 wr w2.heap.size 9 o ((L.take k).map fun x => bs x.key) ∧ Chg [] w2 wr) (fun _ i _ => L.length - (intOf i).toNat)
  case atStart => exact ⟨0, rfl, Nat.zero_le _, RowOf.nil _ _ _, Chg.refl _ _⟩
  case round =>
    obtain ⟨k, rfl, hkl, hrowk, hch⟩ := hrel
    have Hrowk := Lib.hid hrowk
    have Hch := Lib.hid hch
    clear hrowk hch
    by_cases hk : k < L.length
    · rcases RowOf.at (RowOf.kept Hrow.out Hch.out (by simp)) rLen with ⟨_, hl⟩ | ⟨g, cap', hv, hlc, hcm, hcell, _, hgl⟩
      · rw [hl] at hk; simp at hk
      · cases hv
        have c0 := hcell k hk 0 (by omega)
        simp only [rCells, List.getElem?_cons_zero, Nat.add_zero] at c0
        have hx : ∃ x, x = L[k] := ⟨_, rfl⟩
        obtain ⟨x, hx⟩ := hx
        rw [← hx] at c0
        have Hx := Lib.hid hx
        clear hx hcell
        have hk' : (k : Int) < (L.length : Int) := by omega
        have hk0 : (0 : Int) ≤ (k : Int) := by omega
        have hlen : ((L.take k).map fun x => bs x.key).length ≤ 4096 := by simp; omega
        have hws : w2.heap.size ≤ wr.heap.size := Hch.out.size
        go_wp2_with (first | (at_builtin; refine wpl_append rfl _ _ 46 rfl w2.heap.size 9 _ 16 Try.underlying46 sInfo rfl (by decide) kLen kOne _ _ rfl (RowOf.kept Hrowk.out ((Chg.refl [] _).alloc _) (by simp)) wr.heap.size _ (bs x.key) _ _ _ rfl (heap_alloc_new wr _) (by simp [kc, enc_bs]) ?c1 ?c2 ?c3 ?_; rotate_left 3; intro v' w3 hrow3 hg3) | fail)
        case c1 => unfold maxLen; omega
        case c2 => omega
        case c3 => simp; omega
        have hch3 : Chg [] w2 w3 := (Hch.out.alloc _).then (Chg.ofRow (v := u4) hg3) (by intro y hy hl; have := (Hrowk.out.block y (by simpa using hy)).1; omega)
        refine ⟨⟨k + 1, by go_num, by omega, ?_, hch3⟩, by simp [intOf]; omega⟩
        rw [List.take_succ_eq_append_getElem hk, List.map_append, ← Hx.out]
        exact hrow3
    · have htk : Hid (L.take k = L) := List.take_of_length_le (by omega)
      rw [htk.out] at Hrowk
      have hLm : (L.map fun x => bs x.key).length ≤ 4096 := by simpa using hLl
      go_wp2_with fail
      refine (sorted_any Hrowk.out hLm).mono ?_; rintro e w4 ⟨v4, rfl, hrow4, hc4⟩
      have Hrow4 := Lib.hid hrow4
      have hs4 := Hch.out.size
      clear hrow4
      go_wp2_with fail
      go_ret
      exact ⟨_, rfl, Hrow4.out.mono (by omega), (hc2.thenSame Hch.out).thenSame hc4⟩
end Go.Proofs.Ytkbblkhkadcpcaa
