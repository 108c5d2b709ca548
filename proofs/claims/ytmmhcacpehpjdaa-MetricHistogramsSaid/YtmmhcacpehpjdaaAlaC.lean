/- Chapter 19: contracts: State, of both. No condition. -/
import Derived.Test.YtmmhcacpehpjdaaAlaB
import Derived.Test.YtmmhcacpehpjdaaMetI
import Derived.Lib.MinMax
namespace Go.Proofs.Ytmmhcacpehpjdaa
set_option linter.unusedVariables false
set_option linter.unusedSimpArgs false
open Go.RowKit

def tailS (r : Rd) (l : List Sd) : List Sd := l.drop (l.length - r.n.toNat)
def badS (r : Rd) (l : List Sd) : Nat := l.countP (fun x => (breachS r x).1)
def unkS (r : Rd) (l : List Sd) : Nat := l.countP (fun x => !(breachS r x).1 && !(breachS r x).2)
def stateS (r : Rd) (l : List Sd) : Int × Int :=
  if ruleB r = true then (if r.m ≤ (badS r (tailS r l) : Int) then (2, 0) else if r.n - ((tailS r l).length : Int) + (unkS r (tailS r l) : Int) = 0 then (1, 0) else (0, 0)) else (0, 2)
def StPost (w : World) (r : Int × Int) (e : Ending) (w' : World) : Prop := e = .returned (.tuple #[.int .i64 r.1, .int .i64 r.2]) ∧ Chg [] w w'

theorem bad_step (r : Rd) (l : List Sd) (k : Nat) (hk : k < l.length) : badS r (l.take (k + 1)) = badS r (l.take k) + if (breachS r l[k]).1 = true then 1 else 0 := by
  unfold badS
  rw [List.take_succ_eq_append_getElem hk, List.countP_append, List.countP_cons, List.countP_nil, Nat.zero_add]
theorem unk_step (r : Rd) (l : List Sd) (k : Nat) (hk : k < l.length) : unkS r (l.take (k + 1)) = unkS r (l.take k) + if (!(breachS r l[k]).1 && !(breachS r l[k]).2) = true then 1 else 0 := by
  unfold unkS
  rw [List.take_succ_eq_append_getElem hk, List.countP_append, List.countP_cons, List.countP_nil, Nat.zero_add]
theorem bad_le (r : Rd) (l : List Sd) : badS r l ≤ l.length := List.countP_le_length
theorem unk_le (r : Rd) (l : List Sd) : unkS r l ≤ l.length := List.countP_le_length
theorem statElem : Try.prog.underlying 33 = some (.slice (Try.prog.elem 33)) := by kernel_rfl
theorem statSize (w : World) : (sizeOf (Try.prog.elem 33)).run Try.prog w = .ok 4 w := by kernel_rfl

def rCells (r : Rd) : Array Value := #[.int .i64 r.st, .bool r.ab, .int .i64 r.th, .int .i64 r.wd, .int .i64 r.m, .int .i64 r.n, .bool r.ms]

set_option maxHeartbeats 2000000 in
set_option maxRecDepth 100000 in
theorem state_any (r : Rd) (a : Option Addr) (len cap : Nat) (l : List Sd) (w : World) (h : SlIs sCells 4 w a len l) (hm : len ≤ maxLen) (hcap : len ≤ cap) : Calls Try.prog 19 #[.agg #[.int .i64 r.st, .bool r.ab, .int .i64 r.th, .int .i64 r.wd, .int .i64 r.m, .int .i64 r.n, .bool r.ms], .slice a len cap] w (StPost w (stateS r l)) := by
  have hlen := h.1
  have Hch := Lib.hid (acheck_any r (w.alloc (.cells #[.int .i64 r.st, .bool r.ab, .int .i64 r.th, .int .i64 r.wd, .int .i64 r.m, .int .i64 r.n, .bool r.ms] 24)))
  have hblk := heap_alloc_new w (.cells #[.int .i64 r.st, .bool r.ab, .int .i64 r.th, .int .i64 r.wd, .int .i64 r.m, .int .i64 r.n, .bool r.ms] 24)
  have H := Lib.hid (h.kept (((Chg.refl [] w).alloc (.cells #[.int .i64 r.st, .bool r.ab, .int .i64 r.th, .int .i64 r.wd, .int .i64 r.m, .int .i64 r.n, .bool r.ms] 24))))
  have Hblk := Lib.hid hblk
  unfold maxLen at hm
  clear h hblk
  by_cases hr : ruleB r = true
  · obtain ⟨_, _, _, ⟨n0, n1⟩, m0, m1⟩ := rule_in hr
    rw [show checkR r = 0 by unfold checkR; rw [if_pos hr]] at Hch
    obtain ⟨N, hN⟩ : ∃ N : Nat, r.n = (N : Int) := ⟨r.n.toNat, by omega⟩
    have Hs : Hid (stateS r l = if r.m ≤ (badS r (l.drop (len - N)) : Int) then (2, 0) else if (N : Int) - ((len - (len - N) : Nat) : Int) + (unkS r (l.drop (len - N)) : Int) = 0 then (1, 0) else (0, 0)) := by
      have e1 : r.n.toNat = N := by omega
      have e2 : tailS r l = l.drop (len - N) := by unfold tailS; rw [e1, hlen]
      show stateS r l = _
      unfold stateS
      rw [if_pos hr, e2, List.length_drop, hlen, hN]
    have hbr := fun x w => breach_any r x w
    have Hbr := Lib.hid hbr
    rw [hN] at n0 n1 m1
    have HN := Lib.hid hN
    clear hbr hr hN
    have Hlen := Lib.hid hlen
    clear hlen
    have hn0 : (0 : Int) ≤ (len : Int) := by omega
    go_enter Try.func19, Try.ntmps19
    go_wp2_with fail
    refine Hch.out.mono ?_; rintro e w1 ⟨rfl, hc1⟩
    have hb1 := hc1.at (by simp) Hblk.out
    have p := blk_cell hb1
    have p5 := p 5
    simp only [List.getElem?_toArray, List.getElem?_cons_zero, List.getElem?_cons_succ] at p5
    have H1 := Lib.hid (H.out.kept hc1)
    have Hc1 := Lib.hid (((Chg.refl [] w).alloc _).thenSame hc1)
    have Hb1 := Lib.hid hb1
    rw [HN.out] at p5
    clear p hc1 hb1
    obtain ⟨m, hm2⟩ : ∃ m, m = len - N := ⟨_, rfl⟩
    rw [← hm2] at Hs
    have hml : m ≤ len := by omega
    have Hm2 := Lib.hid hm2
    clear hm2
    go_wp2_with (first | (refine wpl_slice_lo rfl _ _ _ rfl statElem (statSize _) a len cap m l rfl (congrArg (Value.int .i64) (by have := Hm2.out; omega)) hml hcap H1.out ?_; intro a2 hsl2; have H2 := Lib.hid hsl2; clear hsl2) | fail)
    obtain ⟨L, hL⟩ : ∃ L, L = l.drop m := ⟨_, rfl⟩
    rw [← hL] at H2 Hs
    obtain ⟨n2, hn2⟩ : ∃ n2, n2 = len - m := ⟨_, rfl⟩
    rw [← hn2] at H2 Hs ⊢
    have hLl : L.length = n2 := H2.out.1
    have hn3 : n2 ≤ len := by omega
    have hn4 : n2 ≤ N := by have := Hm2.out; omega
    have HLl := Lib.hid hLl
    have hbl := bad_le r L
    have hul := unk_le r L
    have Hbl := Lib.hid hbl
    have Hul := Lib.hid hul
    clear hL hn2 hml hLl hbl hul
    go_quiet (fail)
    go_wp2_with fail

    go_loopw [7, 8, 33] (fun b u i wr => ∃ k : Nat, i = .int .i64 k ∧ k ≤ n2 ∧ b = .int .i64 (badS r (L.take k) : Nat) ∧ u = .int .i64 ((N : Int) - n2 + (unkS r (L.take k) : Nat)) ∧ Chg [] w1 wr) (fun _ _ i _ => n2 - (intOf i).toNat)
    case atStart => exact ⟨0, rfl, Nat.zero_le _, rfl, by simp [unkS], (Chg.refl _ _).drewN _⟩
    case round =>
      obtain ⟨k, rfl, hkl, rfl, rfl, hC⟩ := hrel
      have HC := Lib.hid hC
      have r0 := blk_cell (hC.at (by simp) Hb1.out)
      have hw1 := lt_of_heap (hC.at (by simp) Hb1.out)
      clear hC
      have Hbk := Lib.hid (bad_le r (L.take k))
      have Huk := Lib.hid (unk_le r (L.take k))
      by_cases hk : k < n2
      · have hk2 : k < L.length := by rw [HLl.out]; exact hk
        have hs1 := bad_step r L k hk2
        have hs2 := unk_step r L k hk2
        obtain ⟨y, hy⟩ : ∃ y, y = L[k] := ⟨_, rfl⟩
        obtain ⟨b, off, rfl, -, hbr, hcc⟩ := H2.out.elem HC.out k hk2
        rw [← hy] at hs1 hs2 hcc
        have c0 := hcc 0 (by omega)
        have c1 := hcc 1 (by omega)
        have c2 := hcc 2 (by omega)
        have c3 := hcc 3 (by omega)
        simp only [sCells, List.getElem?_cons_zero, List.getElem?_cons_succ, Nat.add_zero] at c0 c1 c2 c3
        have Hb := Lib.hid (Hbr.out y)
        obtain ⟨⟨ba, bb⟩, hp⟩ : ∃ p, p = breachS r y := ⟨_, rfl⟩
        rw [← hp] at hs1 hs2 Hb
        have hk0 : (0 : Int) ≤ (k : Int) := by omega
        have hk1 : (k : Int) < (n2 : Int) := by omega
        have B1 : ((badS r (L.take k) : Nat) : Int) ≤ 32 := by have := Hbk.out; have := List.length_take_le k L; omega
        have B2 : ((unkS r (L.take k) : Nat) : Int) ≤ 32 := by have := Huk.out; have := List.length_take_le k L; omega
        have B3 : (0 : Int) ≤ ((badS r (L.take k) : Nat) : Int) := by omega
        have B4 : (0 : Int) ≤ ((unkS r (L.take k) : Nat) : Int) := by omega
        generalize badS r (L.take k) = p at *
        generalize unkS r (L.take k) = q at *
        have S1 := Lib.hid hs1
        have S2 := Lib.hid hs2
        clear hy hcc hp hs1 hs2
        rcases ba with _ | _
        · rcases bb with _ | _
          all_goals
            go_wp2_with fail
            refine (Hb.out _).mono ?_; rintro e w3 ⟨rfl, hc3⟩
            have Hc3 := Lib.hid hc3
            clear hc3
            simp only []
            go_wp2_with fail
            refine ⟨⟨k + 1, by go_num, by omega, by rw [S1.out]; simp, by rw [S2.out]; simp; try omega, (HC.out.alloc _).thenSame Hc3.out⟩, by simp [intOf]; omega⟩
        · go_wp2_with fail
          refine (Hb.out _).mono ?_; rintro e w3 ⟨rfl, hc3⟩
          have Hc3 := Lib.hid hc3
          clear hc3
          simp only []
          go_wp2_with fail
          refine ⟨⟨k + 1, by go_num, by omega, by rw [S1.out]; simp, by rw [S2.out]; simp, (HC.out.alloc _).thenSame Hc3.out⟩, by simp [intOf]; omega⟩
      · have ht : L.take k = L := List.take_of_length_le (by rw [HLl.out]; omega)
        rw [ht] at Hbk Huk
        simp only [ht]
        have B1 : ((badS r L : Nat) : Int) ≤ 32 := by have := Hbk.out; have := HLl.out; omega
        have B2 : ((unkS r L : Nat) : Int) ≤ 32 := by have := Huk.out; have := HLl.out; omega
        have B3 : (0 : Int) ≤ ((badS r L : Nat) : Int) := by omega
        have B4 : (0 : Int) ≤ ((unkS r L : Nat) : Int) := by omega
        generalize badS r L = p at *
        generalize unkS r L = q at *
        clear ht
        go_wp2_with fail
        all_goals go_ret2
        all_goals
          refine ⟨?_, Hc1.out.thenSame HC.out⟩
          rw [Hs.out]
          simp only [beq_iff_eq, beq_eq_false_iff_ne, ne_eq] at *
          (repeat' split) <;> first | rfl | (exfalso; omega)
  · have hs : stateS r l = (0, 2) := by unfold stateS; rw [if_neg hr]
    rw [hs]
    rw [show checkR r = 2 by unfold checkR; rw [if_neg hr]] at Hch
    clear hr hs hlen
    go_enter Try.func19, Try.ntmps19
    go_wp2_with fail
    refine Hch.out.mono ?_; rintro e w1 ⟨rfl, hc1⟩
    have Hc1 := Lib.hid (((Chg.refl [] w).alloc _).thenSame hc1)
    clear hc1
    go_wp2_with fail
    go_ret2
    exact ⟨rfl, Hc1.out⟩
end Go.Proofs.Ytmmhcacpehpjdaa
