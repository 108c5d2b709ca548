/- Chapter 18: contracts: the values in a window, of both. No condition. -/
import Derived.Test.YtmmhcacpehpjdaaMetC
import Derived.Test.YtmmhcacpehpjdaaRowm
namespace Go.Proofs.Ytmmhcacpehpjdaa
set_option linter.unusedVariables false
set_option linter.unusedSimpArgs false
open Go.RowKit

def ic (n : Int) : List Value := [.int .i64 n]
theorem iLen (x : Int) : (ic x).length = 1 := rfl
theorem iOne (x : Int) : ∀ u ∈ ic x, u.oneCell' = true := by intro u hu; simp [ic] at hu; subst hu; rfl
theorem iInfo : (Try.prog.info? 3).map (fun i => (i.zero, i.size, i.bytes)) = some (some (.int .i64 0), 1, 8) := by kernel_rfl

theorem heap_size_alloc1 (w : World) {o : Obj} : (w.alloc o).heap.size = w.heap.size + 1 := by simp
def inW (lo hi : Int) (x : Pt) : Bool := decide (lo ≤ x.t) && decide (x.t < hi)
def insideS (l : List Pt) (lo hi : Int) : List Int := (l.filter (inW lo hi)).map Pt.v
def InsPost (w : World) (r : List Int) (e : Ending) (w' : World) : Prop := ∃ v, e = .returned v ∧ RowOf ic 1 w' w.heap.size 3 v r ∧ Chg [] w w'

theorem ins_step (l : List Pt) (lo hi : Int) (k : Nat) (hk : k < l.length) : insideS (l.take (k + 1)) lo hi = if inW lo hi l[k] = true then insideS (l.take k) lo hi ++ [l[k].v] else insideS (l.take k) lo hi := by
  unfold insideS
  rw [List.take_succ_eq_append_getElem hk, List.filter_append, List.map_append, List.filter_cons]
  split <;> simp

set_option maxHeartbeats 2000000 in
set_option maxRecDepth 100000 in
theorem inside_any (a : Option Addr) (len cap : Nat) (l : List Pt) (lo hi : Int) (w : World) (h : SlIs pCells 2 w a len l) (hm : l.length ≤ 4096) : Calls Try.prog 48 #[.slice a len cap, .int .i64 lo, .int .i64 hi] w (InsPost w (insideS l lo hi)) := by
  obtain ⟨hl, hcell⟩ := h
  have Hcell := Lib.hid hcell
  clear hcell
  go_enter Try.func48, Try.ntmps48
  go_wp2_with fail
  go_loopw [7, 12] (fun o i wr => ∃ k : Nat, i = .int .i64 k ∧ k ≤ len ∧ RowOf ic 1 wr w.heap.size 3 o (insideS (l.take k) lo hi) ∧ Chg [] w wr) (fun _ i _ => len - (intOf i).toNat)
  case atStart => exact ⟨0, rfl, Nat.zero_le _, RowOf.nil _ _ _, Chg.refl _ _⟩
  case round =>
    obtain ⟨k, rfl, hkl, hrow, hch⟩ := hrel
    have Hrow := Lib.hid hrow
    have Hch := Lib.hid hch
    by_cases hlt : k < len
    · have hk2 : k < l.length := by omega
      obtain ⟨b, off, rfl, hbw, hcc⟩ := Hcell.out k hk2
      obtain ⟨x, hx⟩ : ∃ x, x = l[k] := ⟨_, rfl⟩
      have hst := ins_step l lo hi k hk2
      rw [← hx] at hcc hst
      have d0 := (World.cell?_of_block (w := w) (w' := wr) (a := ⟨b, off + k * 2 + 0, none⟩) (hch.block b hbw (by simp))).trans (hcc 0 (by omega))
      have d1 := (World.cell?_of_block (w := w) (w' := wr) (a := ⟨b, off + k * 2 + 1, none⟩) (hch.block b hbw (by simp))).trans (hcc 1 (by omega))
      simp only [pCells, List.getElem?_cons_zero, List.getElem?_cons_succ, Nat.add_zero] at d0 d1
      have hbr := hch.lt hbw
      have hws := hch.size
      have hk0 : (0 : Int) ≤ (k : Int) := by omega
      have hk1 : (k : Int) < (len : Int) := by omega
      have hlen : (insideS (l.take k) lo hi).length ≤ 4096 := by
        unfold insideS
        rw [List.length_map]
        refine Nat.le_trans (List.length_filter_le _ _) ?_
        rw [List.length_take]; omega
      have Hst := Lib.hid hst
      clear hx hcc hch hst hrow
      by_cases hin : inW lo hi x = true
      · rw [if_pos hin] at Hst
        simp only [inW, Bool.and_eq_true, decide_eq_true_eq] at hin
        obtain ⟨i1, i2⟩ := hin
        go_wp2_with (first | (at_builtin; refine wpl_append rfl _ _ 54 rfl w.heap.size 3 _ 8 Try.underlying54 iInfo rfl (by decide) iLen iOne u7 _ rfl (RowOf.kept Hrow.out (((Chg.refl [] _).alloc _).alloc _) (by simp)) (wr.heap.size + 1) _ x.v _ _ _ rfl (by rw [← heap_size_alloc1 wr]; exact heap_alloc_new _ _) rfl ?c1 ?c2 ?c3 ?_; rotate_left 3; intro v' w3 hrow3 hg3) | fail)
        case c1 => unfold maxLen; omega
        case c2 => omega
        case c3 => simp; omega
        have hch3 : Chg [] w w3 := ((Hch.out.alloc _).alloc _).then (Chg.ofRow (v := u7) hg3) (by intro y hy hl; have := (Hrow.out.block y (by simpa using hy)).1; omega)
        refine ⟨⟨k + 1, by go_num, by omega, ?_, hch3⟩, by simp [intOf]; omega⟩
        rw [Hst.out]; exact hrow3
      · rw [if_neg hin] at Hst
        have hin' : x.t < lo ∨ hi ≤ x.t := by simp [inW] at hin; omega
        have Hin := Lib.hid hin'
        clear hin hin'
        go_wp2_with fail
        all_goals first
          | (refine ⟨⟨k + 1, by go_num, by omega, ?_, Hch.out.alloc _⟩, by simp [intOf]; omega⟩
             rw [Hst.out]; exact RowOf.kept Hrow.out ((Chg.refl [] _).alloc _) (by simp))
          | (exfalso; have := Hin.out; omega)
    · go_wp2_with fail
      go_ret
      refine ⟨_, rfl, ?_, Hch.out⟩
      have := Hrow.out
      rw [List.take_of_length_le (by omega)] at this
      exact this

set_option maxHeartbeats 2000000 in
set_option maxRecDepth 100000 in
theorem values_any (a : Option Addr) (len cap : Nat) (l : List Pt) (lo hi : Int) (w : World) (h : SlIs pCells 2 w a len l) (hm : l.length ≤ 4096) : Calls Try.prog 51 #[.slice a len cap, .int .i64 lo, .int .i64 hi] w (InsPost w (insideS l lo hi)) := by
  obtain ⟨hl, hcell⟩ := h
  have Hcell := Lib.hid hcell
  clear hcell
  go_enter Try.func51, Try.ntmps51
  go_wp2_with fail
  go_loopw [7, 8] (fun o i wr => ∃ k : Nat, i = .int .i64 k ∧ k ≤ len ∧ RowOf ic 1 wr w.heap.size 3 o (insideS (l.take k) lo hi) ∧ Chg [] w wr) (fun _ i _ => len - (intOf i).toNat)
  case atStart => exact ⟨0, rfl, Nat.zero_le _, RowOf.nil _ _ _, Chg.refl _ _⟩
  case round =>
    obtain ⟨k, rfl, hkl, hrow, hch⟩ := hrel
    have Hrow := Lib.hid hrow
    have Hch := Lib.hid hch
    by_cases hlt : k < len
    · have hk2 : k < l.length := by omega
      obtain ⟨b, off, rfl, hbw, hcc⟩ := Hcell.out k hk2
      obtain ⟨x, hx⟩ : ∃ x, x = l[k] := ⟨_, rfl⟩
      have hst := ins_step l lo hi k hk2
      rw [← hx] at hcc hst
      have d0 := (World.cell?_of_block (w := w) (w' := wr) (a := ⟨b, off + k * 2 + 0, none⟩) (hch.block b hbw (by simp))).trans (hcc 0 (by omega))
      have d1 := (World.cell?_of_block (w := w) (w' := wr) (a := ⟨b, off + k * 2 + 1, none⟩) (hch.block b hbw (by simp))).trans (hcc 1 (by omega))
      simp only [pCells, List.getElem?_cons_zero, List.getElem?_cons_succ, Nat.add_zero] at d0 d1
      have hbr := hch.lt hbw
      have hws := hch.size
      have hk0 : (0 : Int) ≤ (k : Int) := by omega
      have hk1 : (k : Int) < (len : Int) := by omega
      have hlen : (insideS (l.take k) lo hi).length ≤ 4096 := by
        unfold insideS
        rw [List.length_map]
        refine Nat.le_trans (List.length_filter_le _ _) ?_
        rw [List.length_take]; omega
      have Hst := Lib.hid hst
      clear hx hcc hch hst hrow
      by_cases hin : inW lo hi x = true
      · rw [if_pos hin] at Hst
        simp only [inW, Bool.and_eq_true, decide_eq_true_eq] at hin
        obtain ⟨i1, i2⟩ := hin
        go_wp2_with (first | (at_builtin; refine wpl_append rfl _ _ 54 rfl w.heap.size 3 _ 8 Try.underlying54 iInfo rfl (by decide) iLen iOne u7 _ rfl (RowOf.kept Hrow.out ((Chg.refl [] _).alloc _) (by simp)) wr.heap.size _ x.v _ _ _ rfl (heap_alloc_new wr _) rfl ?c1 ?c2 ?c3 ?_; rotate_left 3; intro v' w3 hrow3 hg3) | fail)
        case c1 => unfold maxLen; omega
        case c2 => omega
        case c3 => simp; omega
        have hch3 : Chg [] w w3 := (Hch.out.alloc _).then (Chg.ofRow (v := u7) hg3) (by intro y hy hl; have := (Hrow.out.block y (by simpa using hy)).1; omega)
        refine ⟨⟨k + 1, by go_num, by omega, ?_, hch3⟩, by simp [intOf]; omega⟩
        rw [Hst.out]; exact hrow3
      · rw [if_neg hin] at Hst
        have hin' : x.t < lo ∨ hi ≤ x.t := by simp [inW] at hin; omega
        have Hin := Lib.hid hin'
        clear hin hin'
        go_wp2_with fail
        all_goals first
          | (refine ⟨⟨k + 1, by go_num, by omega, ?_, Hch.out⟩, by simp [intOf]; omega⟩
             rw [Hst.out]; exact Hrow.out)
          | (exfalso; have := Hin.out; omega)
    · go_wp2_with fail
      go_ret
      refine ⟨_, rfl, ?_, Hch.out⟩
      have := Hrow.out
      rw [List.take_of_length_le (by omega)] at this
      exact this
end Go.Proofs.Ytmmhcacpehpjdaa
