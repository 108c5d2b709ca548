/- Chapter 9: StaticChecks: the walk. Condition: the table of Itoa lies as the program lays it; the form's own bound on texts. Chapter 9: the reference's Sorted and Has (lines of XUrs). No condition. Chapter 9: the reference's Slots, Locals. Condition: the form's own bound on texts. Chapter 9: the reference's Ops. Condition: the form's own bound on texts. Chapter 9: StaticSlots: the walk. Condition: the table of Itoa lies as the program lays it; the form's own bound on texts. -/
import Derived.Test.YtolidiafomceiaaGreatDoorStuF
import Derived.Test.YtolidiafomceiaaGreatDoorMSttM
import Derived.Test.YtolidiafomceiaaGreatDoorStwH
import Derived.Test.YtolidiafomceiaaGreatDoorProg
import Derived.Deep.DeepCutAuto
import Derived.Test.YtolidiafomceiaaGreatDoorLex
import Derived.Test.YtolidiafomceiaaGreatDoorApp
import Derived.Test.YtolidiafomceiaaGreatDoorInl
namespace Go.Proofs.YtolidiafomceiaaGreatDoor
set_option linter.unusedVariables false
set_option linter.unusedSimpArgs false
open Go.RowKit
theorem rcheck8c_any (x : Pr) (w : World) (h : PrIn w x) (hz : szPr x) : Calls Tryz.prog 29 #[.agg (prC x).toArray] w fun e w' => e = .returned (.int .i64 (scheckZ x.p)) ∧ Chg [] w w' := by
  have := rcheck8_of x w h (fun h1 h2 w' hc => rmeasure_any x w' (h.kept hc) hz h1 h2)
  rw [rvalid_eq] at this
  exact this
theorem rcheck9_any (x : Pr) (w : World) (h : PrIn w x) (hz : szPr x) : Calls Tryz.prog 11 #[.agg (prC x).toArray] w fun e w' => e = .returned (.tuple #[.int .i64 (studyZ x.p).2.2.1, .int .i64 (studyZ x.p).2.2.2]) ∧ Chg [] w w' := by
  have := rcheck9_of x w h (fun w' hc => rcheck8c_any x w' (h.kept hc) hz)
  rw [rcheck_eq] at this
  exact this
set_option maxHeartbeats 16000000 in
set_option maxRecDepth 100000 in
theorem checks_walk (x : Pr) (w : World) (h : (PrIn w x ∧ goodPr x) ∧ szPr x) (ht : TabW w) : Calls Tryz.prog 3 #[.agg (prC x).toArray] w fun e w' => e = .returned (.bool true) ∧ Below w.heap.size w w' := by
  obtain ⟨⟨hp, hg⟩, hz⟩ := h
  obtain ⟨W1, hW1⟩ : ∃ W1, W1 = w.alloc (prO x) := ⟨_, rfl⟩
  have C1 := Lib.hid (show Chg [] w W1 by rw [hW1]; exact (Chg.refl _ _).alloc _)
  have B1 := Lib.hid (show W1.heap[w.heap.size]? = some (prO x) by rw [hW1]; exact heap_alloc_new _ _)
  have SM := Lib.hid (small_any x W1 (hp.kept C1.out))
  have CK := Lib.hid (fun w' (hc : Chg [] w w') => check_any x w' (hp.kept hc) hg (ht.kept hc))
  have RC := Lib.hid (fun w' (hc : Chg [] w w') => rcheck9_any x w' (hp.kept hc) hz)
  have AW := Lib.hid (fun w' (hc : Chg [] w w') => stawake_any w' (ht.kept hc))
  unfold prO at hW1 B1
  have k1 := blk_cell B1.out
  simp only [prC] at SM CK RC ⊢
  generalize (studyZ x.p).2.2.2 = er at *
  generalize (studyZ x.p).2.2.1 = ea at *
  generalize smallN x = sm at *
  clear hp hg ht hz
  cases sm
  · go_enter Tryz.func3, Tryz.ntmps3
    go_upto_region 1 with fail
    rw [← hW1]
    clear hW1
    go_wp2_with (first | (go_at_call 8; (with_reducible refine Calls.mono SM.out ?_); rintro e w2 ⟨rfl, hc⟩; have C2 := Lib.hid (C1.out.thenSame hc); clear k1 hc) | (go_at_call 9; (with_reducible refine Calls.mono (AW.out _ C2.out) ?_); rintro e w3 ⟨rfl, hc⟩; have C3 := Lib.hid (C2.out.thenSame hc); clear hc))
    go_ret
    exact ⟨rfl, C3.out.toBelow (Nat.le_refl _) (by simp)⟩
  · go_enter Tryz.func3, Tryz.ntmps3
    go_upto_region 1 with fail
    rw [← hW1]
    clear hW1
    go_wp2_with (first | (go_at_call 8; (with_reducible refine Calls.mono SM.out ?_); rintro e w2 ⟨rfl, hc⟩; have C2 := Lib.hid (C1.out.thenSame hc); have B2 := Lib.hid (hc.at (by simp) B1.out); have k2 := blk_cell B2.out; clear k1 hc) | (go_at_call 10; (with_reducible refine Calls.mono (CK.out _ C2.out) ?_); rintro e w3 ⟨rfl, hc⟩; have C3 := Lib.hid (C2.out.thenSame hc); have B3 := Lib.hid (hc.at (by simp) B2.out); have k3 := blk_cell B3.out; clear k2 hc) | (go_at_call 11; (with_reducible refine Calls.mono (RC.out _ C3.out) ?_); rintro e w4 ⟨rfl, hc⟩; have C4 := Lib.hid (C3.out.thenSame hc); clear k3 hc) | (go_at_call 9; (with_reducible refine Calls.mono (AW.out _ C4.out) ?_); rintro e w5 ⟨rfl, hc⟩; have C5 := Lib.hid (C4.out.thenSame hc); clear hc))
    go_ret
    exact ⟨rfl, C5.out.toBelow (Nat.le_refl _) (by simp)⟩
end Go.Proofs.YtolidiafomceiaaGreatDoor
namespace Go.Proofs.YtolidiafomceiaaGreatDoor
set_option linter.unusedVariables false
set_option linter.unusedSimpArgs false
open Go.RowKit
theorem toL (b : List UInt8) : (⟨b.toArray⟩ : ByteArray).toList = b := by rw [ByteArray.toList_eq]
theorem sInfo : (Tryz.prog.info? 9).map (fun i => (i.zero, i.size, i.bytes)) = some (some (.string ⟨#[]⟩), 1, 16) := by kernel_rfl
/-- One step of the reference's insertion. -/
def insS (out : List (List UInt8)) (x : List UInt8) : List (List UInt8) :=
  if out.dropWhile (fun y => decide (y < x)) = [] ∨ (out.dropWhile (fun y => decide (y < x))).head? ≠ some x then out.takeWhile (fun y => decide (y < x)) ++ x :: out.dropWhile (fun y => decide (y < x)) else out
def sortedS (l : List (List UInt8)) : List (List UInt8) := l.foldl insS []

theorem sElem : Tryz.prog.underlying 36 = some (.slice (Tryz.prog.elem 36)) := by kernel_rfl
theorem sSize (w : World) : (sizeOf (Tryz.prog.elem 36)).run Tryz.prog w = .ok 1 w := by kernel_rfl
theorem lessB (x y : List UInt8) : Op.bytesLess x y = decide (x < y) := bless_eq x y
theorem tw_take (p : List UInt8 → Bool) (O : List (List UInt8)) : O.takeWhile p = O.take (O.takeWhile p).length ∧ O.dropWhile p = O.drop (O.takeWhile p).length := by
  induction O with
  | nil => simp
  | cons y O ih =>
    by_cases hy : p y = true
    · simp only [List.takeWhile_cons, List.dropWhile_cons, hy, if_true, List.length_cons, List.take_succ_cons, List.drop_succ_cons]
      exact ⟨by rw [← ih.1], ih.2⟩
    · simp [hy]
theorem tw_lt (p : List UInt8 → Bool) (O : List (List UInt8)) {m : Nat} (hm : m ≤ (O.takeWhile p).length) (h : m < O.length) : m < (O.takeWhile p).length ↔ p O[m] = true := by
  induction O generalizing m with
  | nil => simp at h
  | cons y O ih =>
    by_cases hy : p y = true
    · simp only [List.takeWhile_cons, hy, if_true, List.length_cons] at hm ⊢
      cases m with
      | zero => simp [hy]
      | succ m => simpa using ih (by omega) (by simpa using h)
    · simp [hy] at hm ⊢
      subst hm
      simpa using hy
theorem ins_at {O : List (List UInt8)} {x : List UInt8} {m : Nat} (hm : m ≤ (O.takeWhile (fun y => decide (y < x))).length) (h : m = O.length ∨ ∃ h : m < O.length, Op.bytesLess O[m] x = false ∧ O[m] ≠ x) : insS O x = O.take m ++ x :: O.drop m := by
  have hle : (O.takeWhile (fun y => decide (y < x))).length ≤ O.length := (List.takeWhile_sublist _).length_le
  obtain ⟨h1, h2⟩ := tw_take (fun y => decide (y < x)) O
  have hT : (O.takeWhile (fun y => decide (y < x))).length = m := by
    rcases h with h | ⟨h, h3, _⟩
    · omega
    · have := tw_lt _ O hm h
      rw [lessB] at h3
      rw [h3] at this
      simp at this; omega
  rw [hT] at h1 h2
  unfold insS
  rw [if_pos, h1, h2]
  rw [h2]
  rcases h with h | ⟨h, _, h3⟩
  · left; subst h; simp
  · right; rw [List.head?_drop, List.getElem?_eq_getElem h]; simpa using h3
theorem ins_same {O : List (List UInt8)} {x : List UInt8} {m : Nat} (hm : m ≤ (O.takeWhile (fun y => decide (y < x))).length) (h : m < O.length) (hx : O[m] = x) : insS O x = O := by
  obtain ⟨h1, h2⟩ := tw_take (fun y => decide (y < x)) O
  have hT : (O.takeWhile (fun y => decide (y < x))).length = m := by
    have := tw_lt _ O hm h
    rw [hx] at this
    have hn : ¬ x < x := List.lt_irrefl x
    simp [hn] at this; omega
  rw [hT] at h2
  unfold insS
  rw [if_neg]
  rw [h2]
  simp only [List.drop_eq_nil_iff, List.head?_drop, List.getElem?_eq_getElem h, hx]
  simp; omega
theorem ins_step {O : List (List UInt8)} {x : List UInt8} {m : Nat} (hm : m ≤ (O.takeWhile (fun y => decide (y < x))).length) (h : m < O.length) (hx : Op.bytesLess O[m] x = true) : m + 1 ≤ (O.takeWhile (fun y => decide (y < x))).length := by
  have := tw_lt _ O hm h
  rw [lessB] at hx
  exact this.2 hx
theorem sorted_step (l : List (List UInt8)) (k : Nat) (hk : k < l.length) : sortedS (l.take (k + 1)) = insS (sortedS (l.take k)) l[k] := by
  unfold sortedS
  rw [List.take_succ_eq_append_getElem hk, List.foldl_append]; rfl

set_option maxHeartbeats 3200000 in
set_option maxRecDepth 100000 in
theorem sorted_any {w : World} {b1 : Nat} {v1 : Value} {l : List (List UInt8)} (h1 : RowOf kc 1 w b1 9 v1 l) (hl1 : l.length ≤ 4096) :
    Calls Tryz.prog 37 #[v1] w fun e w' => ∃ v, e = .returned v ∧ RowOf kc 1 w' w.heap.size 9 v (sortedS l) ∧ Chg [] w w' := by
  obtain ⟨a1, c1, hv1⟩ := RowOf.shape h1
  subst hv1
  have H1 := Lib.hid h1
  clear h1
  go_enter Tryz.func37, Tryz.ntmps37
  go_wp2_with fail
  go_loopw [3, 4] (fun o i wr => ∃ (k g c : Nat), i = .int .i64 k ∧ k ≤ l.length ∧ o = .slice (some ⟨g, 0, none⟩) (sortedS (l.take k)).length c ∧ RowOf kc 1 wr w.heap.size 9 (.slice (some ⟨g, 0, none⟩) (sortedS (l.take k)).length c) (sortedS (l.take k)) ∧ (sortedS (l.take k)).length ≤ k ∧ Chg [] w wr) (fun _ i _ => l.length - (intOf i).toNat)
  case atStart =>
    refine ⟨0, w.heap.size, 0, rfl, Nat.zero_le _, rfl, ?_, Nat.le_refl _, (Chg.refl _ _).alloc _⟩
    exact RowOf.empty (Nat.le_refl _) (heap_alloc_new _ _) rfl
  case round =>
    obtain ⟨k, g, c, rfl, hkl, rfl, hrow, hle, hch⟩ := hrel
    have Hst := Lib.hid (congrArg (fun z => sortedS z) (rfl : l.take (k + 1) = l.take (k + 1)))
    generalize hO : sortedS (l.take k) = O at *
    have HO := Lib.hid hO
    have Hrow := Lib.hid hrow
    have Hch := Lib.hid hch
    clear hO hrow hch
    by_cases hk : k < l.length
    · have hk0 : (0 : Int) ≤ (k : Int) := by omega
      have hk1 : (k : Int) < (l.length : Int) := by omega
      obtain ⟨x, hx⟩ : ∃ x, x = l[k] := ⟨_, rfl⟩
      have Hx := Lib.hid hx
      clear hx
      go_wp2_with fail
      go_loopw [5] (fun j wi => ∃ m : Nat, j = .int .i64 m ∧ m ≤ (O.takeWhile (fun y => decide (y < x))).length ∧ Chg [] w wi ∧ RowOf kc 1 wi w.heap.size 9 (.slice (some ⟨g, 0, none⟩) O.length c) O) (fun j _ => O.length - (intOf j).toNat)
      case atStart => exact ⟨0, rfl, Nat.zero_le _, Hch.out, Hrow.out⟩
      case round =>
        obtain ⟨m, rfl, hm, hchi, hri⟩ := hrel
        have Hchi := Lib.hid hchi
        have Hri := Lib.hid hri
        clear hchi hri
        have hTO : (O.takeWhile (fun y => decide (y < x))).length ≤ O.length := (List.takeWhile_sublist _).length_le
        rcases RowOf.at (RowOf.kept H1.out Hchi.out (by simp)) kLen with ⟨_, hl⟩ | ⟨g1, cp1, hv1, _, _, hcell1, _, _, hg1w⟩
        · rw [hl] at hk; simp at hk
        cases hv1
        have hoc : O.length ≤ c := by
          have hc := (RowOf.at Hri.out kLen).resolve_left (fun h => by cases h.1)
          obtain ⟨g5, c5, hv5, h5, _⟩ := hc
          cases hv5; exact h5
        have x1 := hcell1 k hk 0 (by omega)
        simp only [kc, List.getElem?_cons_zero, Nat.add_zero, Nat.mul_one, encStr] at x1
        rw [← Hx.out] at x1
        have tx := toL x
        clear hcell1
        have hm0 : (0 : Int) ≤ (m : Int) := by omega
        by_cases hmO : m < O.length
        · have hmO' : (m : Int) < (O.length : Int) := by omega
          have hmb : ((m : Int) == (O.length : Int)) = false := by simp; omega
          rcases RowOf.at Hri.out kLen with ⟨hh, _⟩ | ⟨g2, cp2, hv2, _, _, hcell2, _, _, _⟩
          · cases hh
          cases hv2
          have x2 := hcell2 m hmO 0 (by omega)
          simp only [kc, List.getElem?_cons_zero, Nat.add_zero, Nat.mul_one, encStr] at x2
          obtain ⟨y, hy⟩ : ∃ y, y = O[m] := ⟨_, rfl⟩
          rw [← hy] at x2
          have Hy := Lib.hid hy
          clear hy hcell2
          have ty := toL y
          go_wp2_with fail
          go_quiet (fail)
          go_wp2_with fail
          · have hbl : Op.bytesLess y x = true := by assumption
            have hs := ins_step hm hmO (by rw [← Hy.out]; exact hbl)
            refine ⟨⟨m + 1, by go_num, hs, Hchi.out.drewN nq, RowOf.kept Hri.out ((Chg.refl [] _).drewN nq) (by simp)⟩, by simp [intOf]; omega⟩
          · have hbl : Op.bytesLess y x = false := by assumption
            by_cases hyx : y = x
            · have hyb : (!y == x) = false := by simp [hyx]
              go_quiet (fail)
              go_wp2_with fail
              have hsame := ins_same hm hmO (by rw [← Hy.out]; exact hyx)
              have hlist : O = sortedS (l.take (k + 1)) := by rw [sorted_step l k hk, HO.out, ← Hx.out, hsame]
              refine ⟨⟨k + 1, g, c, by go_num, by omega, by rw [← hlist], ?_, by rw [← hlist]; omega, Hchi.out.drewN _⟩, by simp [intOf]; omega⟩
              rw [← hlist]; exact RowOf.kept Hri.out ((Chg.refl [] _).drewN _) (by simp)
            · have hyb : (!y == x) = true := by simp [hyx]
              go_quiet (fail)
              have hia : insS O x = O.take m ++ x :: O.drop m := ins_at hm (.inr ⟨hmO, by rw [← Hy.out]; exact hbl, by rw [← Hy.out]; exact hyx⟩)
              have hws : w.heap.size ≤ wr.heap.size := Hchi.out.size
              have hol : O.length ≤ 4096 := by omega
              have hmc : m ≤ c := by omega
              have hmle : m ≤ O.length := by omega
              have HA : Hid (∀ n : Nat, Chg [] wr ((wr.drewN n).alloc (.cells #[] 9))) := fun n => ((Chg.refl [] _).drewN n).alloc _
              have HC : Hid (∀ w' : World, Chg [] wr w' → ∀ q (hq : q < O.length), w'.cell? ⟨g, q, none⟩ = (kc O[q])[0]?) := by
                intro w' hw' q hq
                obtain ⟨g5, c5, hv5, _, _, h5, _⟩ := (RowOf.at (RowOf.kept Hri.out hw' (by simp)) kLen).resolve_left (fun h => by cases h.1)
                cases hv5
                simpa using h5 q hq 0 (by omega)
              have hown0 : ∀ y ∈ (Value.slice (some ⟨wr.heap.size, 0, none⟩) 0 0).ownBlock.toList, y = wr.heap.size := by intro y hy; simpa [Value.ownBlock, eq_comm] using hy
              have Hia := Lib.hid hia
              have Hss := Lib.hid (sorted_step l k hk)
              clear hia
              go_wp2_with (first
                | (refine wpl_slice_h rfl _ _ _ rfl sElem (sSize _) g 0 _ c m rfl rfl hmc ?_)
                | (refine wpl_slice_l rfl _ _ _ rfl sElem (sSize _) g 0 O.length c m rfl rfl hmle hoc ?_; intro off' hoff)
                | (at_builtin; refine wpl_appends rfl _ _ 36 rfl wr.heap.size 9 _ 16 Tryz.underlying36 sInfo rfl (by decide) kLen kOne _ [] rfl (RowOf.empty (g := wr.heap.size) (Nat.le_refl _) (heap_alloc_new _ _) rfl) g 0 _ m (O.take m) rfl ?c1 ?c2 ?c3 ?c4 ?c5 ?_; rotate_left 5; intro v2 w2 hrow2 hg2 hn2; have hch2 : Chg [] wr w2 := (HA.out _).then (Chg.ofRow hg2) (by intro y hy hl; have := hown0 y hy; omega); have y1 := (World.cell?_of_block (w := wr) (w' := w2) (a := ⟨g1, k, none⟩) (hch2.block g1 hg1w (by simp))).trans x1; have hs2 := hch2.size)
                | (at_builtin; (refine wpl_append rfl _ _ 36 rfl wr.heap.size 9 _ 16 Tryz.underlying36 sInfo rfl (by decide) kLen kOne v2 ([] ++ O.take m) rfl (RowOf.kept hrow2 ((Chg.refl [] _).alloc _) (by simp)) w2.heap.size _ x _ _ _ rfl (heap_alloc_new w2 _) rfl ?d1 ?d2 ?d3 ?_; rotate_left 3; intro v3 w3 hrow3 hg3; have hch3 : Chg [] wr w3 := (hch2.alloc _).then (Chg.ofRow (v := v2) hg3) (by intro y hy hl; have := (hrow2.block y (by simpa using hy)).1; omega); have hs3 := hch3.size))
                | (at_builtin; (refine wpl_appends rfl _ _ 36 rfl wr.heap.size 9 _ 16 Tryz.underlying36 sInfo rfl (by decide) kLen kOne v3 ([] ++ O.take m ++ [x]) rfl hrow3 g off' _ (O.length - m) (O.drop m) rfl ?e1 ?e2 ?e3 ?e4 ?e5 ?_; rotate_left 5; intro v4 w4 hrow4 hg4 hn4; have hch4 : Chg [] wr w4 := hch3.then (Chg.ofRow (v := v3) hg4) (by intro y hy hl; have := (hrow3.block y (by simpa using hy)).1; omega)))
                | fail)
              case c1 => simp; omega
              case c2 =>
                intro q hq j hj
                have hq' : q < m := by simp at hq; omega
                obtain rfl : j = 0 := by omega
                simp only [Nat.zero_add, Nat.mul_one, Nat.add_zero, List.getElem_take]
                exact HC.out _ (HA.out _) q (by omega)
              case c3 => simp; unfold maxLen; omega
              case c4 => simp; omega
              case c5 => exact (HA.out _).size
              case d1 => (try simp); unfold maxLen; omega
              case d2 => (try simp); omega
              case d3 => (try simp); omega
              case e2 =>
                intro q hq
                rcases hoff with hoff | hoff
                · have := HC.out _ hch3 (m + q) (by omega)
                  simp only [hoff, Nat.mul_one, Nat.zero_add]
                  exact this
                · omega
              case e3 => unfold maxLen; omega
              case e4 => omega
              obtain ⟨g6, c6, hv6, _⟩ := (RowOf.at hrow4 kLen).resolve_left (fun h => by simp at h)
              have hlist : [] ++ O.take m ++ [x] ++ O.drop m = sortedS (l.take (k + 1)) := by rw [Hss.out, HO.out, ← Hx.out, Hia.out]; simp
              have hll : (sortedS (l.take (k + 1))).length ≤ k + 1 := by rw [← hlist]; simp; omega
              rw [hlist] at hv6 hrow4
              subst hv6
              exact ⟨⟨k + 1, g6, c6, by go_num, by omega, rfl, hrow4.mono hws, hll, Hchi.out.thenSame hch4⟩, by simp [intOf]; omega⟩
        · have hmO' : (O.length : Int) ≤ (m : Int) := by omega
          have hmb : ((m : Int) == (O.length : Int)) = true := by simp; omega
          have hia : insS O x = O.take m ++ x :: O.drop m := ins_at hm (.inl (by omega))
          go_wp2_with fail
          go_quiet (fail)
          go_wp2_with fail
          go_quiet (fail)
          have hws : w.heap.size ≤ wr.heap.size := Hchi.out.size
          have hol : O.length ≤ 4096 := by omega
          have hmc : m ≤ c := by omega
          have hmle : m ≤ O.length := by omega
          have HA : Hid (∀ n : Nat, Chg [] wr ((wr.drewN n).alloc (.cells #[] 9))) := fun n => ((Chg.refl [] _).drewN n).alloc _
          have HC : Hid (∀ w' : World, Chg [] wr w' → ∀ q (hq : q < O.length), w'.cell? ⟨g, q, none⟩ = (kc O[q])[0]?) := by
            intro w' hw' q hq
            obtain ⟨g5, c5, hv5, _, _, h5, _⟩ := (RowOf.at (RowOf.kept Hri.out hw' (by simp)) kLen).resolve_left (fun h => by cases h.1)
            cases hv5
            simpa using h5 q hq 0 (by omega)
          have hown0 : ∀ y ∈ (Value.slice (some ⟨wr.heap.size, 0, none⟩) 0 0).ownBlock.toList, y = wr.heap.size := by intro y hy; simpa [Value.ownBlock, eq_comm] using hy
          have Hia := Lib.hid hia
          have Hss := Lib.hid (sorted_step l k hk)
          clear hia
          go_wp2_with (first
            | (refine wpl_slice_h rfl _ _ _ rfl sElem (sSize _) g 0 _ c m rfl rfl hmc ?_)
            | (refine wpl_slice_l rfl _ _ _ rfl sElem (sSize _) g 0 O.length c m rfl rfl hmle hoc ?_; intro off' hoff)
            | (at_builtin; refine wpl_appends rfl _ _ 36 rfl wr.heap.size 9 _ 16 Tryz.underlying36 sInfo rfl (by decide) kLen kOne _ [] rfl (RowOf.empty (g := wr.heap.size) (Nat.le_refl _) (heap_alloc_new _ _) rfl) g 0 _ m (O.take m) rfl ?c1 ?c2 ?c3 ?c4 ?c5 ?_; rotate_left 5; intro v2 w2 hrow2 hg2 hn2; have hch2 : Chg [] wr w2 := (HA.out _).then (Chg.ofRow hg2) (by intro y hy hl; have := hown0 y hy; omega); have y1 := (World.cell?_of_block (w := wr) (w' := w2) (a := ⟨g1, k, none⟩) (hch2.block g1 hg1w (by simp))).trans x1; have hs2 := hch2.size)
            | (at_builtin; (refine wpl_append rfl _ _ 36 rfl wr.heap.size 9 _ 16 Tryz.underlying36 sInfo rfl (by decide) kLen kOne v2 ([] ++ O.take m) rfl (RowOf.kept hrow2 ((Chg.refl [] _).alloc _) (by simp)) w2.heap.size _ x _ _ _ rfl (heap_alloc_new w2 _) rfl ?d1 ?d2 ?d3 ?_; rotate_left 3; intro v3 w3 hrow3 hg3; have hch3 : Chg [] wr w3 := (hch2.alloc _).then (Chg.ofRow (v := v2) hg3) (by intro y hy hl; have := (hrow2.block y (by simpa using hy)).1; omega); have hs3 := hch3.size))
            | (at_builtin; (refine wpl_appends rfl _ _ 36 rfl wr.heap.size 9 _ 16 Tryz.underlying36 sInfo rfl (by decide) kLen kOne v3 ([] ++ O.take m ++ [x]) rfl hrow3 g off' _ (O.length - m) (O.drop m) rfl ?ee1 ?ee2 ?ee3 ?ee4 ?ee5 ?_; rotate_left 5; intro v4 w4 hrow4 hg4 hn4; have hch4 : Chg [] wr w4 := hch3.then (Chg.ofRow (v := v3) hg4) (by intro y hy hl; have := (hrow3.block y (by simpa using hy)).1; omega)))
            | fail)
          case c1 => simp; omega
          case c2 =>
            intro q hq j hj
            have hq' : q < m := by simp at hq; omega
            obtain rfl : j = 0 := by omega
            simp only [Nat.zero_add, Nat.mul_one, Nat.add_zero, List.getElem_take]
            exact HC.out _ (HA.out _) q (by omega)
          case c3 => simp; unfold maxLen; omega
          case c4 => simp; omega
          case c5 => exact (HA.out _).size
          case d1 => (try simp); unfold maxLen; omega
          case d2 => (try simp); omega
          case d3 => (try simp); omega
          case ee2 =>
            intro q hq
            rcases hoff with hoff | hoff
            · have := HC.out _ hch3 (m + q) (by omega)
              simp only [hoff, Nat.mul_one, Nat.zero_add]
              exact this
            · omega
          case ee3 => unfold maxLen; omega
          case ee4 => omega
          obtain ⟨g6, c6, hv6, _⟩ := (RowOf.at hrow4 kLen).resolve_left (fun h => by simp at h)
          have hlist : [] ++ O.take m ++ [x] ++ O.drop m = sortedS (l.take (k + 1)) := by rw [Hss.out, HO.out, ← Hx.out, Hia.out]; simp
          have hll : (sortedS (l.take (k + 1))).length ≤ k + 1 := by rw [← hlist]; simp; omega
          rw [hlist] at hv6 hrow4
          subst hv6
          exact ⟨⟨k + 1, g6, c6, by go_num, by omega, rfl, hrow4.mono hws, hll, Hchi.out.thenSame hch4⟩, by simp [intOf]; omega⟩
    · go_wp2_with fail
      go_ret
      refine ⟨_, rfl, ?_, Hch.out⟩
      have := HO.out
      rw [List.take_of_length_le (by omega)] at this
      rw [this]; exact Hrow.out
/-! insertion is the sort -/
theorem lt_le {a b : List UInt8} (h : a < b) : a ≤ b := List.le_of_lt h
theorem nlt {a b : List UInt8} (h : ¬ a < b) (hn : a ≠ b) : b < a := by
  have h1 : b ≤ a := List.not_lt.1 h
  by_cases h2 : b < a
  · exact h2
  · exact absurd (List.le_antisymm (List.not_lt.1 h2) h1) hn

theorem ins_new {O : List (List UInt8)} {x : List UInt8} (hp : O.Pairwise (· < ·)) (hx : x ∉ O) : (insS O x).Pairwise (· < ·) ∧ (insS O x).Perm (x :: O) := by
  have hsplit : O.takeWhile (fun y => decide (y < x)) ++ O.dropWhile (fun y => decide (y < x)) = O := List.takeWhile_append_dropWhile
  have hA : ∀ y ∈ O.takeWhile (fun y => decide (y < x)), y < x := by
    intro y hy
    have := List.all_eq_true.1 (List.all_takeWhile (p := fun y => decide (y < x)) (l := O)) y hy
    simpa using this
  have hB : ∀ y ∈ O.dropWhile (fun y => decide (y < x)), x < y := by
    intro y hy
    have hpB : (O.dropWhile (fun y => decide (y < x))).Pairwise (· < ·) := List.Pairwise.sublist (List.dropWhile_sublist _) hp
    have hxB : x ∉ O.dropWhile (fun y => decide (y < x)) := fun h => hx ((List.dropWhile_sublist _).subset h)
    cases hD : O.dropWhile (fun y => decide (y < x)) with
    | nil => rw [hD] at hy; cases hy
    | cons z D =>
      have hz : ¬ z < x := by
        have := List.head_dropWhile_not (fun y => decide (y < x)) (l := O) (by rw [hD]; simp)
        simp only [hD, List.head_cons] at this
        simpa using this
      rw [hD] at hy hpB hxB
      have hzx : x < z := nlt hz (fun e => hxB (by rw [e]; exact List.mem_cons_self))
      rcases List.mem_cons.1 hy with rfl | hy'
      · exact hzx
      · exact List.lt_trans hzx ((List.pairwise_cons.1 hpB).1 y hy')
  have hins : insS O x = O.takeWhile (fun y => decide (y < x)) ++ x :: O.dropWhile (fun y => decide (y < x)) := by
    unfold insS
    rw [if_pos]
    cases hD : O.dropWhile (fun y => decide (y < x)) with
    | nil => exact .inl rfl
    | cons z D =>
      right
      intro e
      simp only [List.head?_cons, Option.some.injEq] at e
      subst e
      exact hx ((List.dropWhile_sublist _).subset (by rw [hD]; exact List.mem_cons_self))
  rw [hins]
  constructor
  · rw [← hsplit] at hp
    obtain ⟨p1, p2, p3⟩ := List.pairwise_append.1 hp
    refine List.pairwise_append.2 ⟨p1, List.pairwise_cons.2 ⟨hB, p2⟩, fun a ha b hb => ?_⟩
    rcases List.mem_cons.1 hb with rfl | hb'
    · exact hA a ha
    · exact p3 a ha b hb'
  · exact List.perm_middle.trans (by rw [hsplit])

theorem sorted_fold (l O : List (List UInt8)) (hp : O.Pairwise (· < ·)) (hd : (O ++ l).Nodup) : (l.foldl insS O).Pairwise (· < ·) ∧ (l.foldl insS O).Perm (O ++ l) := by
  induction l generalizing O with
  | nil => exact ⟨hp, by simp⟩
  | cons x l ih =>
    have hx : x ∉ O := by
      intro h
      have := (List.nodup_append.1 hd).2.2
      exact this x h x List.mem_cons_self rfl
    obtain ⟨h1, h2⟩ := ins_new hp hx
    have hpm : (insS O x ++ l).Perm (O ++ x :: l) := (h2.append_right l).trans (by
      rw [List.cons_append]; exact List.perm_middle.symm)
    obtain ⟨h3, h4⟩ := ih (insS O x) h1 (hpm.nodup_iff.2 hd)
    exact ⟨h3, h4.trans hpm⟩

theorem sorted_merge (l : List (List UInt8)) (hd : l.Nodup) : sortedS l = l.mergeSort leB := by
  obtain ⟨h1, h2⟩ := sorted_fold l [] List.Pairwise.nil (by simpa using hd)
  have tr : ∀ a b c : List UInt8, leB a b = true → leB b c = true → leB a c = true := fun a b c h1 h2 => by simp only [leB, decide_eq_true_eq] at *; exact List.le_trans h1 h2
  have tto : ∀ a b : List UInt8, (leB a b || leB b a) = true := fun a b => by simp only [leB, Bool.or_eq_true, decide_eq_true_eq]; exact List.le_total a b
  refine List.Perm.eq_of_pairwise (le := fun a b => leB a b = true) (fun a b _ _ h1 h2 => ?_) (h1.imp fun h => ?_) (List.pairwise_mergeSort tr tto l) ((show (sortedS l).Perm ([] ++ l) from h2).trans (List.mergeSort_perm l leB).symm)
  · simp only [leB, decide_eq_true_eq] at h1 h2
    exact List.le_antisymm h1 h2
  · simpa [leB] using lt_le h

theorem mem_step (l : List (List UInt8)) (x : List UInt8) (k : Nat) (hk : k < l.length) : (l.take (k + 1)).contains x = ((l.take k).contains x || l[k] == x) := by
  rw [List.take_succ_eq_append_getElem hk, Bool.eq_iff_iff]
  simp only [List.contains_iff_mem, List.mem_append, List.mem_singleton, Bool.or_eq_true, beq_iff_eq]
  exact ⟨fun h => h.imp id Eq.symm, fun h => h.imp id Eq.symm⟩
theorem str_eq (x : List UInt8) (s : ByteArray) : ((⟨x.toArray⟩ : ByteArray).toList == s.toList) = (x == bs s) := by
  rw [ByteArray.toList_eq, ByteArray.toList_eq]
  simp [bs]
set_option maxHeartbeats 4000000 in
set_option maxRecDepth 100000 in
theorem rhas_any (a : Option Addr) (c : Nat) (l : List (List UInt8)) (s : ByteArray) (w : World) (h : SlIs kc 1 w a l.length l) (hl : l.length ≤ 4096) : Calls Tryz.prog 36 #[.slice a l.length c, .string s] w fun e w' => e = .returned (.bool (l.contains (bs s))) ∧ Chg [] w w' := by
  have H := Lib.hid h
  obtain ⟨R, hR⟩ : ∃ R, R = l.contains (bs s) := ⟨_, rfl⟩
  rw [← hR]
  have HR := Lib.hid hR
  clear h hR
  go_enter Tryz.func36, Tryz.ntmps36
  go_wp2_with fail
  go_loopw [5] (fun i wr => ∃ k : Nat, i = .int .i64 k ∧ k ≤ l.length ∧ Hid ((l.take k).contains (bs s) = false) ∧ Hid (Chg [] w wr)) (fun i _ => l.length - (intOf i).toNat)
  case atStart => exact ⟨0, rfl, Nat.zero_le _, Lib.hid (by simp), Lib.hid (Chg.refl _ _)⟩
  case round =>
    obtain ⟨k, rfl, hkl, HA, D⟩ := hrel
    by_cases hk : k < l.length
    · obtain ⟨g1, o1, rfl, -, hbr1, hcc⟩ := H.out.elem D.out k hk
      have d1 := hcc 0 (by omega)
      simp only [kc, encStr, List.getElem?_cons_zero, Nat.add_zero, Nat.mul_one] at d1
      have hst := mem_step l (bs s) k hk
      rw [HA.out, Bool.false_or] at hst
      have hse := str_eq l[k] s
      have hyes : (l[k] == bs s) = true → R = true := fun h => by
        rw [HR.out, List.contains_iff_mem]
        have : l[k] = bs s := by simpa using h
        rw [← this]
        exact List.getElem_mem hk
      generalize l[k] = x at *
      obtain ⟨y, hy⟩ : ∃ y : ByteArray, y = ⟨x.toArray⟩ := ⟨_, rfl⟩
      rw [← hy] at d1 hse
      clear hy
      have hk0 : (0 : Int) ≤ (k : Int) := by omega
      have hk1 : (k : Int) < (l.length : Int) := by omega
      have HSt := Lib.hid hst
      clear hcc hst
      cases hq : x == bs s
      · rw [hq] at hse HSt
        have HS := Lib.hid HSt.out
        clear hyes hq HSt
        go_wp2_with fail
        exact ⟨⟨k + 1, by go_num, by omega, HS, D⟩, by simp [intOf]; omega⟩
      · rw [hq] at hse
        have HY := Lib.hid (hyes hq)
        clear hyes hq HSt
        go_wp2_with fail
        go_ret
        exact ⟨by rw [HY.out]; rfl, D.out⟩
    · have hks : k = l.length := by omega
      subst hks
      have HE : Hid (R = false) := Lib.hid (by rw [HR.out]; have := HA.out; rwa [List.take_length] at this)
      go_wp2_with fail
      go_ret
      exact ⟨by rw [HE.out]; rfl, D.out⟩
set_option maxHeartbeats 16000000 in
set_option maxRecDepth 100000 in
/-- The law's texts, of two rows of the same strings. -/
theorem ltexts_same {a1 a2 : Option Addr} {c1 c2 : Nat} {l : List (List UInt8)} {w : World} (h1 : InIs kc 1 w a1 c1 l) (h2 : InIs kc 1 w a2 c2 l) : Calls Tryz.prog 19 #[.slice a1 l.length c1, .slice a2 l.length c2] w fun e w' => e = .returned (.bool true) ∧ Chg [] w w' := by
  have H1 := Lib.hid h1
  have H2 := Lib.hid h2
  have hm : (l.length : Int) ≤ 9223372036854775807 := by have h1 := h1.2.1; have h2 := H1.out.2.2.1; unfold maxLen at h2; omega
  clear h1 h2
  go_enter Tryz.func19, Tryz.ntmps19
  go_wp2_with fail
  go_loopw [13] (fun v wr => ∃ k : Nat, v = .int .i64 k ∧ k ≤ l.length ∧ Hid (Chg [] w wr)) (fun v _ => l.length - (intOf v).toNat)
  case atStart => exact ⟨0, rfl, Nat.zero_le _, Lib.hid (Chg.refl _ _)⟩
  case round =>
    obtain ⟨k, rfl, hk, D⟩ := hrel
    have hk0 : (0 : Int) ≤ (k : Int) := by omega
    by_cases hkl : k < l.length
    · have hkl' : (k : Int) < (l.length : Int) := by omega
      obtain ⟨b1, o1, rfl, -, -, g1⟩ := H1.out.1.elem D.out k hkl
      obtain ⟨b2, o2, rfl, -, -, g2⟩ := H2.out.1.elem D.out k hkl
      have u1 := g1 0 (by omega)
      have u2 := g2 0 (by omega)
      simp only [kc, encStr, List.getElem?_cons_zero, Nat.add_zero, Nat.mul_one] at u1 u2
      have qk : IntKind.i64.wrap ((k : Int) + 1) = (k : Int) + 1 := IntWalk.i64_in _ (by omega)
      generalize (⟨(l[k]).toArray⟩ : ByteArray) = p at *
      clear g1 g2
      have hpq : (p.toList != p.toList) = false := by simp
      go_upto_region 6 with fail
      go_quiet (fail)
      have E := Lib.hid (D.out.drewN nq)
      go_wp2_with fail
      exact ⟨⟨k + 1, rfl, by omega, E⟩, by simp [intOf]; omega⟩
    · have hkl' : ¬ (k : Int) < (l.length : Int) := by omega
      go_wp2_with fail
      go_ret
      exact ⟨rfl, D.out⟩
end Go.Proofs.YtolidiafomceiaaGreatDoor
namespace Go.Proofs.YtolidiafomceiaaGreatDoor
set_option linter.unusedVariables false
set_option linter.unusedSimpArgs false
open Go.RowKit
theorem study_nil1 {p : PPr} (h : (studyZ p).2.2.2 ≠ 0) : (studyZ p).1 = [] := by
  unfold studyZ at h ⊢
  split
  · rename_i hc
    rw [if_pos hc] at h
    split
    · rename_i hf
      rw [if_pos hf] at h
      unfold studyEnd at h ⊢
      split
      · rfl
      · rename_i hE
        rw [hE] at h
        exact absurd rfl h
    · rfl
  · rfl
theorem studyZ_eq2 {p : PPr} (h : (studyZ p).2.2.2 = 0) : studyZ p = ((studyZ p).1, (studyZ p).2.1, (studyZ p).2.2.1, 0) := by
  rw [← h]
theorem study_lens {p : PPr} (h : (studyZ p).2.2.2 = 0) : (studyZ p).1.length = p.nodes.length ∧ (studyZ p).2.1.length = p.funcs.length := (study_right (studyZ_eq2 h)).2
set_option maxHeartbeats 16000000 in
set_option maxRecDepth 100000 in
theorem rslots_any (x : Pr) (w : World) (h : PrIn w x) (hz : szPr x) : Calls Tryz.prog 16 #[.agg (prC x).toArray] w (SlotsPost w ((studyZ x.p).1, (studyZ x.p).2.2.2)) := by
  obtain ⟨W1, hW1⟩ : ∃ W1, W1 = w.alloc (prO x) := ⟨_, rfl⟩
  have C1 := Lib.hid (show Chg [] w W1 by rw [hW1]; exact (Chg.refl _ _).alloc _)
  have B1 := Lib.hid (show W1.heap[w.heap.size]? = some (prO x) by rw [hW1]; exact heap_alloc_new _ _)
  have CK := Lib.hid (fun w' (hc : Chg [] w w') => rcheck9_any x w' (h.kept hc) hz)
  unfold prO at hW1 B1
  have k1 := blk_cell B1.out
  by_cases he : (studyZ x.p).2.2.2 = 0
  · have hsc := (study_zero he).1
    have AL := Lib.hid (fun w' (hc : Chg [] w w') => rall_any x w' (h.kept hc) hsc)
    have HS := Lib.hid (rslots_eq he).1
    have HL := Lib.hid (show (studyZ x.p).1.length = x.nodes.length from by rw [(study_lens he).1]; exact List.length_map _)
    rw [he] at CK ⊢
    simp only [prC] at CK AL ⊢
    generalize (studyZ x.p).1 = sl at *
    generalize (studyZ x.p).2.2.1 = ea at *
    generalize allR x.p = R at *
    clear h hz he hsc
    go_enter Tryz.func16, Tryz.ntmps16
    go_upto_region 1 with fail
    rw [← hW1]
    clear hW1
    go_upto_region 5 with (first | (go_at_call 11; (with_reducible refine Calls.mono (CK.out _ C1.out) ?_); rintro e w2 ⟨rfl, hc⟩; have C2 := Lib.hid (C1.out.thenSame hc); have B2 := Lib.hid (hc.at (by simp) B1.out); have k2 := blk_cell B2.out; clear k1 hc) | (go_at_call 33; (with_reducible refine Calls.mono (AL.out _ C2.out) ?_); rintro e w5 ⟨na5, nn5, nc5, va5, vn5, vc5, sb5, rfl, hr, hc⟩; have R5 := Lib.hid (hr.mono C2.out.size); have C5 := Lib.hid (C2.out.thenSame hc); clear hc hr k2))
    obtain ⟨W6, hW6⟩ : ∃ W6, W6 = w5.alloc (.cells #[.slice x.na x.nodes.length x.nc, .slice x.fa x.funcs.length x.fc, .slice na5 nn5 nc5, .slice va5 vn5 vc5, .int .i64 R.next, .slice (some ⟨sb5, 0, none⟩) x.nodes.length x.nodes.length, .int .i64 R.node, .int .i64 R.err] 58) := ⟨_, rfl⟩
    have N6 := Lib.hid (show W6.heap[w5.heap.size]? = some _ by rw [hW6]; exact heap_alloc_new _ _)
    have D6 := Lib.hid (show Chg [] w5 W6 by rw [hW6]; exact (Chg.refl _ _).alloc _)
    have k6 := blk_cell N6.out
    rw [← hW6]
    clear hW6
    go_wp2_with fail
    go_ret2
    exact ⟨some ⟨sb5, 0, none⟩, x.nodes.length, by rw [HL.out]; rfl, by rw [HL.out, ← HS.out]; exact R5.out.kept D6.out (by simp), C5.out.thenSame D6.out⟩
  · have HN := Lib.hid (study_nil1 he)
    have heb : ((studyZ x.p).2.2.2 != 0) = true := bne_iff_ne.2 he
    simp only [prC] at CK ⊢
    generalize (studyZ x.p).1 = sl at *
    generalize (studyZ x.p).2.2.1 = ea at *
    generalize (studyZ x.p).2.2.2 = er at *
    clear h hz he
    go_enter Tryz.func16, Tryz.ntmps16
    go_upto_region 1 with fail
    rw [← hW1]
    clear hW1
    go_wp2_with (go_at_call 11; (with_reducible refine Calls.mono (CK.out _ C1.out) ?_); rintro e w2 ⟨rfl, hc⟩; have C2 := Lib.hid (C1.out.thenSame hc); clear k1 hc)
    go_ret2
    exact ⟨none, 0, by rw [HN.out]; rfl, by rw [HN.out]; exact ⟨rfl, .inl ⟨rfl, rfl⟩⟩, C2.out⟩
set_option maxHeartbeats 16000000 in
set_option maxRecDepth 100000 in
theorem rlocals_any (x : Pr) (f : Int) (w : World) (h : PrIn w x) (hz : szPr x) : Calls Tryz.prog 17 #[.agg (prC x).toArray, .int .i64 f] w fun e w' => e = .returned (.tuple #[.int .i64 (localsZ x.p f).1, .int .i64 (localsZ x.p f).2]) ∧ Chg [] w w' := by
  obtain ⟨R2, hR2⟩ : ∃ R2, R2 = localsZ x.p f := ⟨_, rfl⟩
  rw [← hR2]
  unfold localsZ at hR2
  obtain ⟨W1, hW1⟩ : ∃ W1, W1 = w.alloc (prO x) := ⟨_, rfl⟩
  have C1 := Lib.hid (show Chg [] w W1 by rw [hW1]; exact (Chg.refl _ _).alloc _)
  have B1 := Lib.hid (show W1.heap[w.heap.size]? = some (prO x) by rw [hW1]; exact heap_alloc_new _ _)
  have CK := Lib.hid (fun w' (hc : Chg [] w w') => rcheck9_any x w' (h.kept hc) hz)
  unfold prO at hW1 B1
  have k1 := blk_cell B1.out
  by_cases he : (studyZ x.p).2.2.2 = 0
  · obtain ⟨hn6, hf16⟩ := study_nodes he
    have hsc := (study_zero he).1
    have hn6i : (x.nodes.length : Int) ≤ 600 := by omega
    have hn0 : (0 : Int) ≤ (x.nodes.length : Int) := by omega
    have hfl0 : (0 : Int) ≤ (x.funcs.length : Int) := by omega
    have hlo := (rslots_eq he).2 ⟨[], 0, List.replicate x.nodes.length 0, 0, 0⟩
    have hll : (studyZ x.p).2.1.length = x.funcs.length := by rw [(study_lens he).2]; exact List.length_map _
    rw [if_pos he, hll] at hR2
    rw [he] at CK
    by_cases hf : 0 ≤ f ∧ f.toNat < x.funcs.length
    · rw [if_pos hf] at hR2
      obtain ⟨m, rfl⟩ : ∃ m : Nat, f = (m : Int) := ⟨f.toNat, by omega⟩
      rw [Int.toNat_natCast] at hf hR2
      have hml := hf.2
      have HR := Lib.hid (show R2 = ((runR x.p ⟨[], 0, List.replicate x.nodes.length 0, 0, 0⟩ (x.funcs[m]).p).next, 0) from by
        rw [hR2, hlo, List.getElem?_map]
        rw [show x.p.funcs[m]? = some (x.funcs[m]).p from by
          show (x.funcs.map Fn'.p)[m]? = _
          rw [List.getElem?_map, List.getElem?_eq_getElem hml]
          rfl]
        rfl)
      have RN := Lib.hid (fun (w' : World) (hc : Chg [] w w') {B b sb : Nat} (hB : w.heap.size ≤ B) {S : RfS} {L : List Nat} (hj : RfJ x B b sb S L w') => show Calls Tryz.prog 34 #[.pointer (some ⟨b, 0, none⟩), .int .i64 m] w' fun e w2 => e = .returned (.tuple #[]) ∧ RfTo x B b sb L w' (runR x.p S (x.funcs[m]).p) w2 from by
        obtain ⟨q, s, h1, h2, h3⟩ := scheck_body hsc m hml
        exact rrunf_any h hB hn6 hf16 hc hj m hml (scheck_params hsc (x.funcs[m]).p (List.mem_map_of_mem (List.getElem_mem hml))) q s h1 h2 h3)
      have hm0 : ¬ (m : Int) < 0 := by omega
      have hm1 : ¬ (m : Int) ≥ (x.funcs.length : Int) := by omega
      simp only [prC] at CK ⊢
      obtain ⟨RR, hRR⟩ : ∃ RR, RR = runR x.p ⟨[], 0, List.replicate x.nodes.length 0, 0, 0⟩ (x.funcs[m]).p := ⟨_, rfl⟩
      rw [← hRR] at HR
      have HRR := Lib.hid hRR
      clear hRR
      generalize (studyZ x.p).2.2.1 = ea at *
      clear h hz he hsc hlo hll hR2 hf
      go_enter Tryz.func17, Tryz.ntmps17
      go_upto_region 1 with fail
      rw [← hW1]
      clear hW1
      go_upto_region 6 with (go_at_call 11; (with_reducible refine Calls.mono (CK.out _ C1.out) ?_); rintro e w2 ⟨rfl, hc⟩; have C2 := Lib.hid (C1.out.thenSame hc); have B2 := Lib.hid (hc.at (by simp) B1.out); have k2 := blk_cell B2.out; clear k1 hc)
      clear k2
      go_cut [8] (fun v8 wx => ∃ b sb : Nat, v8 = .pointer (some ⟨b, 0, none⟩) ∧ Hid (∃ L, RfJ x w2.heap.size b sb ⟨[], 0, List.replicate x.nodes.length 0, 0, 0⟩ L wx) ∧ Hid (Chg [] w2 wx))
      case first =>
        have VK := Lib.hid (fun (w' : World) (hc : Chg [] w2 w') => show w'.cell? ⟨w.heap.size, 0, none⟩ = some (.slice x.na x.nodes.length x.nc) ∧ w'.cell? ⟨w.heap.size, 1, none⟩ = some (.slice x.fa x.funcs.length x.fc) from by
          have h := blk_cell (hc.at (by simp) B2.out)
          exact ⟨h 0, h 1⟩)
        obtain ⟨wd, hwd⟩ : ∃ wd, wd = w2.drew := ⟨_, rfl⟩
        have D0 := Lib.hid (show Chg [] w2 wd by rw [hwd]; exact (Chg.refl _ _).drew)
        have KA := Lib.hid (D0.out.alloc (.cells #[.slice none 0 0, .slice none 0 0, .slice none 0 0, .slice none 0 0, .int .i64 0, .slice none 0 0, .int .i64 0, .int .i64 0] 58))
        refine wp_region_noPanic ?_
        refine wp_region_held_drew (S := (fun w' => w'.cell? ⟨w.heap.size, 0, none⟩ = some (.slice x.na x.nodes.length x.nc) ∧ w'.cell? ⟨w.heap.size, 1, none⟩ = some (.slice x.fa x.funcs.length x.fc))) (by kernel_rfl) (by rw [← hwd]; exact VK.out _ D0.out) (fun hHeld => ?_)
        rw [← hwd] at hHeld ⊢
        clear hwd
        refine wpAnyH_take (i := 0) (oi := _) (v := ?vA_0) rfl (by kernel_rfl) (by kernel_rfl) (by kernel_rfl) (fun _ _ _ h => h) (Or.inl ⟨by rfl, ?yA_0⟩) hHeld ?rA_0
        case yA_0 => (intro w hSw; (try dsimp only at hSw); (try simp only [List.getElem_toArray, List.getElem_cons_zero, List.getElem_cons_succ]); go_simp <;> with_reducible rfl)
        (try simp only [List.getElem_toArray, List.getElem_cons_zero, List.getElem_cons_succ, Act.put, List.setIfInBounds_toArray, List.set_cons_zero, List.set_cons_succ])
        refine wpAnyH_take (i := 1) (oi := _) (v := ?vA_1) rfl (by kernel_rfl) (by kernel_rfl) (by kernel_rfl) (fun _ _ _ h => h) (Or.inl ⟨by rfl, ?yA_1⟩) hHeld ?rA_1
        case yA_1 => (intro w hSw; (try dsimp only at hSw); (try simp only [List.getElem_toArray, List.getElem_cons_zero, List.getElem_cons_succ]); go_simp <;> with_reducible rfl)
        (try simp only [List.getElem_toArray, List.getElem_cons_zero, List.getElem_cons_succ, Act.put, List.setIfInBounds_toArray, List.set_cons_zero, List.set_cons_succ])
        refine wpAnyH_take (i := 2) (oi := _) (v := ?vA_2) rfl (by kernel_rfl) (by kernel_rfl) (by kernel_rfl) (fun _ _ _ h => h) (Or.inl ⟨by rfl, ?yA_2⟩) hHeld ?rA_2
        case yA_2 => (intro w hSw; (try dsimp only at hSw); (try simp only [List.getElem_toArray, List.getElem_cons_zero, List.getElem_cons_succ]); go_simp <;> with_reducible rfl)
        (try simp only [List.getElem_toArray, List.getElem_cons_zero, List.getElem_cons_succ, Act.put, List.setIfInBounds_toArray, List.set_cons_zero, List.set_cons_succ])
        refine wpAnyH_take (i := 3) (oi := _) (v := ?vA_3) rfl (by kernel_rfl) (by kernel_rfl) (by kernel_rfl) (fun _ _ _ h => h) (Or.inl ⟨by rfl, ?yA_3⟩) hHeld ?rA_3
        case yA_3 => (intro w hSw; (try dsimp only at hSw); (try simp only [List.getElem_toArray, List.getElem_cons_zero, List.getElem_cons_succ]); go_simp <;> with_reducible rfl)
        (try simp only [List.getElem_toArray, List.getElem_cons_zero, List.getElem_cons_succ, Act.put, List.setIfInBounds_toArray, List.set_cons_zero, List.set_cons_succ])
        refine wpAnyH_ready (rs := [4, 6]) (by kernel_rfl) (by simp) ?_
        refine AllReadyH.cons (o := _) rfl (fun K hK => ?_) (AllReadyH.cons (o := _) rfl (fun K hK => ?_) AllReadyH.nil)
        ·
          (try simp only [List.getElem_toArray, List.getElem_cons_zero, List.getElem_cons_succ])
          refine step_list rfl ?_
          (refine wpl_make (cf := icI) rfl _ _ 32 rfl w2.heap.size 3 _ 8 Tryz.underlying32 intInfoS 0 rfl rfl x.nodes.length rfl rfl (by omega) (by unfold maxLen; omega) D0.out.size ?_; intro w6 hr6 hc6 hl6; have KC := Lib.hid (D0.out.thenSame hc6); have R6 := Lib.hid hr6; have L6 := Lib.hid hl6; clear hr6 hl6)
          refine ⟨rfl, hK.out _ _ ?_ (fun hHeld => ?_)⟩
          exact VK.out _ KC.out
          clear hK K
          (try simp only [List.getElem_toArray, List.getElem_cons_zero, List.getElem_cons_succ, Act.put, List.setIfInBounds_toArray, List.set_cons_zero, List.set_cons_succ])
          refine wpAnyH_take (i := 5) (oi := _) (v := ?vA_5) rfl (by kernel_rfl) (by kernel_rfl) (by kernel_rfl) (fun _ _ _ h => h) (Or.inl ⟨by rfl, ?yA_5⟩) hHeld ?rA_5
          case yA_5 => (intro w hSw; (try dsimp only at hSw); (try simp only [List.getElem_toArray, List.getElem_cons_zero, List.getElem_cons_succ]); go_simp <;> with_reducible rfl)
          (try simp only [List.getElem_toArray, List.getElem_cons_zero, List.getElem_cons_succ, Act.put, List.setIfInBounds_toArray, List.set_cons_zero, List.set_cons_succ])
          refine wpAnyH_ready (rs := [6]) (by kernel_rfl) (by simp) ?_
          refine AllReadyH.cons (o := _) rfl (fun K hK => ?_) AllReadyH.nil
          (try simp only [List.getElem_toArray, List.getElem_cons_zero, List.getElem_cons_succ])
          go_simp
          skip
          refine hK.out _ _ ?_ (fun hHeld => ?_)
          exact VK.out _ (KC.out.alloc _)
          clear hK K
          (try simp only [List.getElem_toArray, List.getElem_cons_zero, List.getElem_cons_succ, Act.put, List.setIfInBounds_toArray, List.set_cons_zero, List.set_cons_succ])
          refine wpAnyH_ready (rs := [7]) (by kernel_rfl) (by simp) ?_
          refine AllReadyH.cons (o := _) rfl (fun K hK => ?_) AllReadyH.nil
          (try simp only [List.getElem_toArray, List.getElem_cons_zero, List.getElem_cons_succ])
          go_simp
          skip
          refine hK.out _ _ ?_ (fun hHeld => ?_)
          exact VK.out _ (KC.out.alloc _)
          clear hK K
          (try simp only [List.getElem_toArray, List.getElem_cons_zero, List.getElem_cons_succ, Act.put, List.setIfInBounds_toArray, List.set_cons_zero, List.set_cons_succ])
          refine wpAnyH_done (by kernel_rfl) ?_ _
          refine NoPanic.normal ?_
          go_wp2_with fail
          go_meet
          have NA := heap_alloc_new w6 (.cells #[.slice x.na x.nodes.length x.nc, .slice x.fa x.funcs.length x.fc, .slice none 0 0, .slice none 0 0, .int .i64 0, .slice (some ⟨wd.heap.size, 0, none⟩) x.nodes.length x.nodes.length, .int .i64 0, .int .i64 0] 58 (0, 0))
          have zz := D0.out.size
          have l6 := L6.out
          exact ⟨w6.heap.size, wd.heap.size, rfl, Lib.hid ⟨_, none, 0, none, 0, ⟨NA, ⟨rfl, .inl ⟨rfl, rfl⟩⟩, ⟨rfl, .inl ⟨rfl, rfl⟩⟩, R6.out.kept ((Chg.refl [] w6).alloc _) (by simp), by omega, by omega, (by intro h; cases h), (by intro h; cases h), (by intro h; cases h), (by intro h; cases h), (by intro g h; cases h)⟩, rfl⟩, Lib.hid (KC.out.alloc _)⟩
        ·
          (try simp only [List.getElem_toArray, List.getElem_cons_zero, List.getElem_cons_succ])
          go_simp
          skip
          refine hK.out _ _ ?_ (fun hHeld => ?_)
          exact VK.out _ KA.out
          clear hK K
          (try simp only [List.getElem_toArray, List.getElem_cons_zero, List.getElem_cons_succ, Act.put, List.setIfInBounds_toArray, List.set_cons_zero, List.set_cons_succ])
          refine wpAnyH_ready (rs := [4]) (by kernel_rfl) (by simp) ?_
          refine AllReadyH.cons (o := _) rfl (fun K hK => ?_) AllReadyH.nil
          (try simp only [List.getElem_toArray, List.getElem_cons_zero, List.getElem_cons_succ])
          refine step_list rfl ?_
          (refine wpl_make (cf := icI) rfl _ _ 32 rfl w2.heap.size 3 _ 8 Tryz.underlying32 intInfoS 0 rfl rfl x.nodes.length rfl rfl (by omega) (by unfold maxLen; omega) KA.out.size ?_; intro w6 hr6 hc6 hl6; have KC := Lib.hid (KA.out.thenSame hc6); have L6Z := Lib.hid (hc6.at (by simp) (heap_alloc_new wd _)); have R6 := Lib.hid hr6; have L6 := Lib.hid hl6; clear hr6 hl6)
          refine ⟨rfl, hK.out _ _ ?_ (fun hHeld => ?_)⟩
          exact VK.out _ KC.out
          clear hK K
          (try simp only [List.getElem_toArray, List.getElem_cons_zero, List.getElem_cons_succ, Act.put, List.setIfInBounds_toArray, List.set_cons_zero, List.set_cons_succ])
          have NB := Lib.hid (show w6.heap[wd.heap.size]? = some (.cells #[.slice none 0 0, .slice none 0 0, .slice none 0 0, .slice none 0 0, .int .i64 0, .slice none 0 0, .int .i64 0, .int .i64 0] 58 (0, 0)) from L6Z.out)
          have kb := blk_cell NB.out
          have fb := blk_free NB.out
          obtain ⟨WF, hWF⟩ : ∃ WF, WF = ((((((((w6.setCell ⟨wd.heap.size, 0, none⟩ (.slice x.na x.nodes.length x.nc)).setCell ⟨wd.heap.size, 1, none⟩ (.slice x.fa x.funcs.length x.fc)).setCell ⟨wd.heap.size, 2, none⟩ (.slice none 0 0)).setCell ⟨wd.heap.size, 3, none⟩ (.slice none 0 0)).setCell ⟨wd.heap.size, 4, none⟩ (.int .i64 0)).setCell ⟨wd.heap.size, 5, none⟩ (.slice (some ⟨wd.heap.size + 1, 0, none⟩) x.nodes.length x.nodes.length)).setCell ⟨wd.heap.size, 6, none⟩ (.int .i64 0)).setCell ⟨wd.heap.size, 7, none⟩ (.int .i64 0)) := ⟨_, rfl⟩
          have zz := D0.out.size
          have CF := Lib.hid (show Chg [] w2 WF from by
            have hc : Chg [wd.heap.size] w6 WF := by
              rw [hWF]
              exact ((((((((Chg.refl _ _).setCell _ _ (by simp)).setCell _ _ (by simp)).setCell _ _ (by simp)).setCell _ _ (by simp)).setCell _ _ (by simp)).setCell _ _ (by simp)).setCell _ _ (by simp)).setCell _ _ (by simp)
            exact KC.out.then hc (fun y hy hlt => by simp at hy; omega))
          have HWF := Lib.hid hWF
          clear hWF
          refine wpAnyH_take (i := 5) (oi := _) (v := ?vB_5) rfl (by kernel_rfl) (by kernel_rfl) (by kernel_rfl) (fun _ _ _ h => h) (Or.inl ⟨by rfl, ?yB_5⟩) hHeld ?rB_5
          case yB_5 => (intro w hSw; (try dsimp only at hSw); (try simp only [List.getElem_toArray, List.getElem_cons_zero, List.getElem_cons_succ]); go_simp <;> with_reducible rfl)
          (try simp only [List.getElem_toArray, List.getElem_cons_zero, List.getElem_cons_succ, Act.put, List.setIfInBounds_toArray, List.set_cons_zero, List.set_cons_succ])
          refine wpAnyH_ready (rs := [7]) (by kernel_rfl) (by simp) ?_
          refine AllReadyH.cons (o := _) rfl (fun K hK => ?_) AllReadyH.nil
          (try simp only [List.getElem_toArray, List.getElem_cons_zero, List.getElem_cons_succ])
          go_simp
          skip
          refine hK.out _ _ ?_ (fun hHeld => ?_)
          exact (by rw [← HWF.out]; exact VK.out _ CF.out)
          clear hK K
          (try simp only [List.getElem_toArray, List.getElem_cons_zero, List.getElem_cons_succ, Act.put, List.setIfInBounds_toArray, List.set_cons_zero, List.set_cons_succ])
          refine wpAnyH_done (by kernel_rfl) ?_ _
          refine NoPanic.normal ?_
          rw [← HWF.out]
          go_wp2_with fail
          go_meet
          have NF : WF.heap[wd.heap.size]? = some (.cells #[.slice x.na x.nodes.length x.nc, .slice x.fa x.funcs.length x.fc, .slice none 0 0, .slice none 0 0, .int .i64 0, .slice (some ⟨wd.heap.size + 1, 0, none⟩) x.nodes.length x.nodes.length, .int .i64 0, .int .i64 0] 58 (0, 0)) := by
            rw [HWF.out]
            exact (blk_set (blk_set (blk_set (blk_set (blk_set (blk_set (blk_set (blk_set NB.out 0 _) 1 _) 2 _) 3 _) 4 _) 5 _) 6 _) 7 _).trans rfl
          have hcF : Chg [wd.heap.size] w6 WF := by
            rw [HWF.out]
            exact ((((((((Chg.refl _ _).setCell _ _ (by simp)).setCell _ _ (by simp)).setCell _ _ (by simp)).setCell _ _ (by simp)).setCell _ _ (by simp)).setCell _ _ (by simp)).setCell _ _ (by simp)).setCell _ _ (by simp)
          have R7 : RowOf icI 1 w6 w2.heap.size 3 (.slice (some ⟨wd.heap.size + 1, 0, none⟩) x.nodes.length x.nodes.length) (List.replicate x.nodes.length 0) := by
            have := R6.out
            rw [World.size_alloc] at this
            exact this
          have RF : RowOf icI 1 WF w2.heap.size 3 (.slice (some ⟨wd.heap.size + 1, 0, none⟩) x.nodes.length x.nodes.length) (List.replicate x.nodes.length 0) := by
            exact R7.kept hcF (by intro g hg; simp [Value.ownBlock] at hg; simp; omega)
          exact ⟨wd.heap.size, wd.heap.size + 1, rfl, Lib.hid ⟨_, none, 0, none, 0, ⟨NF, ⟨rfl, .inl ⟨rfl, rfl⟩⟩, ⟨rfl, .inl ⟨rfl, rfl⟩⟩, RF, by omega, by omega, (by intro h; cases h), (by intro h; cases h), (by intro h; cases h), (by intro h; cases h), (by intro g h; cases h)⟩, rfl⟩, CF⟩
      case rest =>
        obtain ⟨b, sb, rfl, HJ, D3⟩ := hcut
        obtain ⟨L3, J3'⟩ := HJ.out
        have J3 := Lib.hid J3'
        clear J3'
        have RA := Lib.hid (RN.out _ (C2.out.thenSame D3.out) C2.out.size J3.out)
        go_upto_region 8 with (go_at_call 34; (with_reducible refine Calls.mono RA.out ?_); rintro e w7 ⟨rfl, ht⟩; have D7 := Lib.hid (ht.chg D3.out (fun y hy => (J3.out.lt y hy).1)); have J7 := Lib.hid (show ∃ L, RfJ x w2.heap.size b sb RR L w7 from by rw [HRR.out]; obtain ⟨L7, j7, -, -⟩ := ht; exact ⟨L7, j7⟩); clear ht)
        obtain ⟨L7, na7, nc7, va7, vc7, A7', hL7⟩ := J7.out
        have k7 := blk_cell (by have := A7'.box; unfold rfO at this; exact this)
        clear A7' hL7
        go_wp2_with fail
        go_ret2
        exact ⟨ret2P HR.out, C2.out.thenSame D7.out⟩
    · rw [if_neg hf] at hR2
      have HE := Lib.hid hR2
      simp only [prC] at CK ⊢
      generalize (studyZ x.p).2.2.1 = ea at *
      clear h hz he hsc hlo hll hR2
      by_cases h0 : f < 0
      · go_enter Tryz.func17, Tryz.ntmps17
        go_upto_region 1 with fail
        rw [← hW1]
        clear hW1
        go_wp2_with (go_at_call 11; (with_reducible refine Calls.mono (CK.out _ C1.out) ?_); rintro e w2 ⟨rfl, hc⟩; have C2 := Lib.hid (C1.out.thenSame hc); have B2 := Lib.hid (hc.at (by simp) B1.out); have k2 := blk_cell B2.out; clear k1 hc)
        go_ret2
        exact ⟨ret2P HE.out, C2.out⟩
      · have h1 : f ≥ (x.funcs.length : Int) := by omega
        go_enter Tryz.func17, Tryz.ntmps17
        go_upto_region 1 with fail
        rw [← hW1]
        clear hW1
        go_wp2_with (go_at_call 11; (with_reducible refine Calls.mono (CK.out _ C1.out) ?_); rintro e w2 ⟨rfl, hc⟩; have C2 := Lib.hid (C1.out.thenSame hc); have B2 := Lib.hid (hc.at (by simp) B1.out); have k2 := blk_cell B2.out; clear k1 hc)
        go_ret2
        exact ⟨ret2P HE.out, C2.out⟩
  · rw [if_neg he] at hR2
    have HE := Lib.hid hR2
    have heb : ((studyZ x.p).2.2.2 != 0) = true := bne_iff_ne.2 he
    simp only [prC] at CK ⊢
    generalize (studyZ x.p).2.2.1 = ea at *
    generalize (studyZ x.p).2.2.2 = er at *
    clear h hz he hR2
    go_enter Tryz.func17, Tryz.ntmps17
    go_upto_region 1 with fail
    rw [← hW1]
    clear hW1
    go_wp2_with (go_at_call 11; (with_reducible refine Calls.mono (CK.out _ C1.out) ?_); rintro e w2 ⟨rfl, hc⟩; have C2 := Lib.hid (C1.out.thenSame hc); clear k1 hc)
    go_ret2
    exact ⟨ret2P HE.out, C2.out⟩
end Go.Proofs.YtolidiafomceiaaGreatDoor
namespace Go.Proofs.YtolidiafomceiaaGreatDoor
set_option linter.unusedVariables false
set_option linter.unusedSimpArgs false
open Go.RowKit
def opsF (out : List (List UInt8)) (n : PNd) : List (List UInt8) := if (n.kind == 12 && !out.contains (bs n.text)) = true then sortedS (out ++ [bs n.text]) else out
theorem opsF_step (out : List (List UInt8)) (n : PNd) (h : out.Pairwise (· < ·)) : (opsF out n).Pairwise (· < ·) ∧ (∀ t, t ∈ opsF out n ↔ t ∈ out ∨ (n.kind = 12 ∧ bs n.text = t)) ∧ (opsF out n).length ≤ out.length + 1 := by
  unfold opsF
  by_cases hq : (n.kind == 12 && !out.contains (bs n.text)) = true
  · rw [if_pos hq]
    simp only [Bool.and_eq_true, Bool.not_eq_true'] at hq
    have hn : bs n.text ∉ out := fun hm => by
      rw [List.contains_iff_mem.2 hm] at hq; cases hq.2
    have hk : n.kind = 12 := by simpa using hq.1
    have hd : (out ++ [bs n.text]).Nodup := List.nodup_append.2 ⟨nodup_lt h, by simp, fun a ha b hb => by simp at hb; subst hb; rintro rfl; exact hn ha⟩
    obtain ⟨h1, h2⟩ := sorted_fold (out ++ [bs n.text]) [] List.Pairwise.nil (by simpa using hd)
    refine ⟨h1, fun t => ?_, ?_⟩
    · have := h2.mem_iff (a := t)
      unfold sortedS
      rw [this]
      simp only [List.nil_append, List.mem_append, List.mem_singleton, hk, true_and]
      exact ⟨fun h => h.imp id Eq.symm, fun h => h.imp id Eq.symm⟩
    · have := h2.length_eq
      unfold sortedS
      rw [this]
      simp
  · rw [if_neg hq]
    refine ⟨h, fun t => ⟨.inl, fun hx => hx.elim id fun ⟨h1, h2⟩ => ?_⟩, by omega⟩
    rw [← h2]
    rw [h1] at hq
    simp at hq
    exact hq
theorem opsF_facts : ∀ (l : List PNd) (out : List (List UInt8)), out.Pairwise (· < ·) → (l.foldl opsF out).Pairwise (· < ·) ∧ (∀ t, t ∈ l.foldl opsF out ↔ t ∈ out ∨ ∃ x ∈ l, x.kind = 12 ∧ bs x.text = t)
  | [], out, h => ⟨h, fun t => by simp⟩
  | c :: l, out, h => by
    obtain ⟨h1, h2, -⟩ := opsF_step out c h
    obtain ⟨k1, k2⟩ := opsF_facts l (opsF out c) h1
    refine ⟨k1, fun t => ?_⟩
    rw [List.foldl_cons, k2, h2]
    simp only [List.mem_cons, exists_eq_or_imp, or_assoc]
theorem lt_same {a b : List (List UInt8)} (h1 : a.Pairwise (· < ·)) (h2 : b.Pairwise (· < ·)) (hm : ∀ t, t ∈ a ↔ t ∈ b) : a = b := by
  refine List.Perm.eq_of_pairwise (le := fun a b => leB a b = true) (fun a b _ _ h1 h2 => ?_) (h1.imp fun h => ?_) (h2.imp fun h => ?_) ((List.perm_ext_iff_of_nodup (nodup_lt h1) (nodup_lt h2)).2 hm)
  · simp only [leB, decide_eq_true_eq] at h1 h2
    exact List.le_antisymm h1 h2
  · simpa [leB] using lt_le h
  · simpa [leB] using lt_le h
theorem opsF_eq (l : List PNd) : l.foldl opsF [] = textsZ 12 l := by
  obtain ⟨h1, h2⟩ := opsF_facts l [] List.Pairwise.nil
  refine lt_same h1 (compact_facts (leB_sorted _)).1 (fun t => ?_)
  rw [h2, textsZ_mem]
  simp
set_option maxHeartbeats 16000000 in
set_option maxRecDepth 100000 in
theorem rops_any (x : Pr) (w : World) (h : PrIn w x) (hz : szPr x) : Calls Tryz.prog 21 #[.agg (prC x).toArray] w (TextsPost w (opsZ x.p)) := by
  obtain ⟨W1, hW1⟩ : ∃ W1, W1 = w.alloc (prO x) := ⟨_, rfl⟩
  have C1 := Lib.hid (show Chg [] w W1 by rw [hW1]; exact (Chg.refl _ _).alloc _)
  have B1 := Lib.hid (show W1.heap[w.heap.size]? = some (prO x) by rw [hW1]; exact heap_alloc_new _ _)
  have ZZ1 := Lib.hid (show W1.heap.size = w.heap.size + 1 by rw [hW1]; exact Array.size_push _)
  have CK := Lib.hid (fun w' (hc : Chg [] w w') => rcheck9_any x w' (h.kept hc) hz)
  obtain ⟨R, hR⟩ : ∃ R, R = opsZ x.p := ⟨_, rfl⟩
  rw [← hR]
  unfold opsZ at hR
  unfold prO at hW1 B1
  have k1 := blk_cell B1.out
  by_cases he : (studyZ x.p).2.2.2 = 0
  · rw [if_pos he, ← opsF_eq] at hR
    have HR := Lib.hid (show R = ((x.nodes.drop 0).map Nd.p).foldl opsF [] from hR)
    obtain ⟨hn6, -⟩ := study_nodes he
    have hn6i : (x.nodes.length : Int) ≤ 600 := by omega
    have HN := Lib.hid (fun w' (hc : Chg [] w w') => (h.kept hc).1.1.1)
    rw [he] at CK
    simp only [prC] at CK ⊢
    generalize (studyZ x.p).2.2.1 = ea at *
    clear h hz he hR
    go_enter Tryz.func21, Tryz.ntmps21
    go_upto_region 1 with fail
    rw [← hW1]
    clear hW1
    go_wp2_with (go_at_call 11; (with_reducible refine Calls.mono (CK.out _ C1.out) ?_); rintro e w2 ⟨rfl, hc⟩; have C2 := Lib.hid (C1.out.thenSame hc); have B2 := Lib.hid (hc.at (by simp) B1.out); clear k1 hc)
    go_loopw [3, 6] (fun u i wr => ∃ (k : Nat) (a : Option Addr) (c : Nat) (out : List (List UInt8)), u = .slice a out.length c ∧ i = .int .i64 k ∧ k ≤ x.nodes.length ∧ Hid (R = ((x.nodes.drop k).map Nd.p).foldl opsF out) ∧ Hid (out.Pairwise (· < ·)) ∧ Hid (out.length ≤ k) ∧ Hid (RowOf kc 1 wr W1.heap.size 9 (.slice a out.length c) out) ∧ Hid (Chg [] w wr) ∧ Hid (wr.heap[w.heap.size]? = some (.cells #[.slice x.na x.nodes.length x.nc, .slice x.fa x.funcs.length x.fc] 25 (0, 0)))) (fun _ i _ => x.nodes.length - (intOf i).toNat)
    case atStart => exact ⟨0, none, 0, [], rfl, rfl, Nat.zero_le _, HR, Lib.hid List.Pairwise.nil, Lib.hid (Nat.le_refl _), Lib.hid ⟨rfl, .inl ⟨rfl, rfl⟩⟩, C2, B2⟩
    case round =>
      obtain ⟨k, a, c, out, rfl, rfl, hk, HQ, HPw, HLn, RO, D, B⟩ := hrel
      have hk0 : (0 : Int) ≤ (k : Int) := by omega
      by_cases hkl : k < x.nodes.length
      · have hkl' : (k : Int) < (x.nodes.length : Int) := by omega
        obtain ⟨b3, o3, e3, -, -, hc3⟩ := (HN.out _ D.out).elem (Chg.refl [] _) k hkl
        have v0 := hc3 0 (by omega)
        have v1 := hc3 1 (by omega)
        simp only [ndC, List.getElem?_cons_zero, List.getElem?_cons_succ, Nat.add_zero] at v0 v1
        have HQ2 := HQ.out
        rw [List.drop_eq_getElem_cons hkl, List.map_cons, List.foldl_cons] at HQ2
        have UN := Lib.hid (fun w' (hc : Chg [] w w') => show w'.cell? ⟨b3, o3 + k * 5 + 1, none⟩ = some (.string (x.nodes[k]).text) from by
          obtain ⟨b7, o7, e7, -, -, hc7⟩ := (HN.out w' hc).elem (Chg.refl [] _) k hkl
          have e8 := e3.symm.trans e7
          simp only [Option.some.injEq, Addr.mk.injEq, and_true] at e8
          obtain ⟨rfl, rfl⟩ := e8
          have g1 := hc7 1 (by omega)
          simp only [ndC, List.getElem?_cons_zero, List.getElem?_cons_succ, Nat.add_zero] at g1
          exact g1)
        generalize x.nodes[k] = d at *
        obtain ⟨s1, s2, s3⟩ := opsF_step out d.p HPw.out
        have HS1 := Lib.hid s1
        have HS3 := Lib.hid (show (opsF out d.p).length ≤ k + 1 by have := HLn.out; omega)
        have HQ3 := Lib.hid HQ2
        have hrf : opsF out d.p = if (d.kind == 12 && !out.contains (bs d.text)) = true then sortedS (out ++ [bs d.text]) else out := rfl
        have HRF := Lib.hid hrf
        generalize opsF out d.p = out' at *
        have q1 : IntKind.i64.wrap ((k : Int) + 1) = (k : Int) + 1 := IntWalk.i64_in _ (by omega)
        have hl600 : out.length ≤ 600 := by have := HLn.out; omega
        have AH := Lib.hid (rhas_any a c out d.text _ (RowOf.sl RO.out kLen).1 (by omega))
        have E3 := Lib.hid e3
        have k3 := blk_cell (by have := B.out; rw [e3] at this; exact this)
        clear hc3 s1 s2 s3 hrf HQ2
        rw [e3]
        cases hq1 : (d.kind == 12)
        case false =>
          have HE := Lib.hid (show out' = out by rw [HRF.out, hq1]; rfl)
          go_wp2_with fail
          exact ⟨⟨k + 1, a, c, out, rfl, rfl, by omega, Lib.hid (by rw [← HE.out]; exact HQ3.out), HPw, Lib.hid (by have := HLn.out; omega), RO, D, (by first | exact B | exact Lib.hid (by have := B.out; rw [E3.out] at this; exact this))⟩, by simp [intOf]; omega⟩
        case true =>
          cases hq2 : out.contains (bs d.text)
          case true =>
            have HE := Lib.hid (show out' = out by rw [HRF.out, hq1, hq2]; rfl)
            have AH2' := AH.out
            rw [hq2] at AH2'
            have AH2 := Lib.hid AH2'
            clear AH2' AH
            go_wp2_with (go_at_call 36; (with_reducible refine Calls.mono AH2.out ?_); rintro e w4 ⟨rfl, hc⟩; have D4 := Lib.hid (D.out.thenSame hc); have B4 := Lib.hid (hc.at (by simp) B.out); have R4 := Lib.hid (RO.out.kept hc (by simp)); clear k3 v0 v1 hc)
            exact ⟨⟨k + 1, a, c, out, rfl, rfl, by omega, Lib.hid (by rw [← HE.out]; exact HQ3.out), HPw, Lib.hid (by have := HLn.out; omega), R4, D4, (by first | exact B4 | exact Lib.hid (by have := B4.out; rw [E3.out] at this; exact this))⟩, by simp [intOf]; omega⟩
          case false =>
            have HE := Lib.hid (show out' = sortedS (out ++ [bs d.text]) by rw [HRF.out, hq1, hq2]; rfl)
            have AH2' := AH.out
            rw [hq2] at AH2'
            have AH2 := Lib.hid AH2'
            clear AH2' AH
            go_wp2_with (first | (go_at_call 36; (with_reducible refine Calls.mono AH2.out ?_); rintro e w4 ⟨rfl, hc⟩; have D4 := Lib.hid (D.out.thenSame hc); have B4 := Lib.hid (hc.at (by simp) B.out); have R4 := Lib.hid (RO.out.kept (hc.alloc (.cells #[.string d.text] 9 (0, 0))) (by simp)); have k4 := blk_cell (by have := B4.out; rw [E3.out] at this; exact this); have u4 := UN.out _ D4.out; clear k3 v0 v1 hc) | (at_builtin; refine wpl_append rfl _ _ 36 rfl W1.heap.size 9 _ 16 Tryz.underlying36 sInfo rfl (by decide) kLen kOne (.slice a out.length c) out rfl R4.out w4.heap.size _ (bs d.text) _ _ _ rfl (heap_alloc_new w4 _) (by simp [kc, enc_bs]) (by unfold maxLen; omega) (by omega) (by have h1 := lt_of_heap B4.out; have h2 := ZZ1.out; simp; omega) ?_; intro v5 w5 hr5 hg5; have R5 := Lib.hid hr5; have H5 := Lib.hid (show ∀ y ∈ (Value.slice a out.length c).ownBlock.toList, w.heap.size ≤ y ∧ y ≠ w.heap.size from fun y hy => by have h1 := (R4.out.block y (by simpa using hy)).1; have h2 := ZZ1.out; exact ⟨by omega, by omega⟩); have C5 := Lib.hid ((D4.out.alloc _).then (Chg.ofRow (v := .slice a out.length c) hg5) (fun y hy hlt => by have := (H5.out y hy).1; omega)); have B5 := Lib.hid ((Chg.ofRow (v := .slice a out.length c) hg5).at (fun hm => (H5.out _ hm).2 rfl) (blk_alloc B4.out)); clear hr5 hg5) | (go_at_call 37; (with_reducible refine Calls.mono (sorted_any R5.out (by rw [List.length_append]; simp; omega)) ?_); rintro e w6 ⟨v6, rfl, hr6, hc6⟩; have R6 := Lib.hid (hr6.mono (show W1.heap.size ≤ w5.heap.size by have h1 := lt_of_heap B5.out; have h2 := ZZ1.out; omega)); have C6 := Lib.hid (C5.out.thenSame hc6); have B6 := Lib.hid (hc6.at (by simp) B5.out); clear hr6 hc6 k4 u4))
            obtain ⟨a6, c6, hv6⟩ := RowOf.shape R6.out
            rw [← HE.out] at hv6
            have R7 := Lib.hid (show RowOf kc 1 w6 W1.heap.size 9 (.slice a6 out'.length c6) out' from by rw [← hv6, HE.out]; exact R6.out)
            rw [hv6]
            clear hv6 R6
            exact ⟨⟨k + 1, a6, c6, out', rfl, rfl, by omega, HQ3, HS1, HS3, R7, C6, (by first | exact B6 | exact Lib.hid (by have := B6.out; rw [E3.out] at this; exact this))⟩, by simp [intOf]; omega⟩
      · have hke : k = x.nodes.length := by omega
        have hkl' : ¬ (k : Int) < (x.nodes.length : Int) := by omega
        have HQ2 := HQ.out
        rw [hke, List.drop_length, List.map_nil, List.foldl_nil] at HQ2
        have HE := Lib.hid HQ2
        have k3 := blk_cell B.out
        clear HQ2 hke
        go_wp2_with fail
        go_ret
        exact ⟨a, c, by rw [HE.out]; rfl, by rw [HE.out]; exact RO.out.mono (by have := ZZ1.out; omega), D.out⟩
  · rw [if_neg he] at hR
    have heb : ((studyZ x.p).2.2.2 != 0) = true := bne_iff_ne.2 he
    have HE := Lib.hid hR
    simp only [prC] at CK ⊢
    generalize (studyZ x.p).2.2.1 = ea at *
    generalize (studyZ x.p).2.2.2 = er at *
    clear h hz he hR
    go_enter Tryz.func21, Tryz.ntmps21
    go_upto_region 1 with fail
    rw [← hW1]
    clear hW1
    go_wp2_with (go_at_call 11; (with_reducible refine Calls.mono (CK.out _ C1.out) ?_); rintro e w2 ⟨rfl, hc⟩; have C2 := Lib.hid (C1.out.thenSame hc); clear k1 hc)
    go_ret
    rw [HE.out]
    exact texts_nil C2.out
end Go.Proofs.YtolidiafomceiaaGreatDoor
namespace Go.Proofs.YtolidiafomceiaaGreatDoor
set_option linter.unusedVariables false
set_option linter.unusedSimpArgs false
open Go.RowKit
set_option maxHeartbeats 16000000 in
set_option maxRecDepth 100000 in
theorem slots_walk (x : Pr) (f : Int) (w : World) (h : (PrIn w x ∧ goodPr x) ∧ szPr x) (hf : (Lit.int .i64 f).wf = true) (ht : TabW w) : Calls Tryz.prog 5 #[.agg (prC x).toArray, .int .i64 f] w fun e w' => e = .returned (.bool true) ∧ Below w.heap.size w w' := by
  obtain ⟨⟨hp, hg⟩, hz⟩ := h
  obtain ⟨W1, hW1⟩ : ∃ W1, W1 = w.alloc (prO x) := ⟨_, rfl⟩
  have C1 := Lib.hid (show Chg [] w W1 by rw [hW1]; exact (Chg.refl _ _).alloc _)
  have B1 := Lib.hid (show W1.heap[w.heap.size]? = some (prO x) by rw [hW1]; exact heap_alloc_new _ _)
  have SM := Lib.hid (small_any x W1 (hp.kept C1.out))
  have SL := Lib.hid (fun w' (hc : Chg [] w w') => slots_any x w' (hp.kept hc) hg (ht.kept hc))
  have RS := Lib.hid (fun w' (hc : Chg [] w w') => rslots_any x w' (hp.kept hc) hz)
  have LO := Lib.hid (fun w' (hc : Chg [] w w') => locals_any x f w' (hp.kept hc) hg (ht.kept hc))
  have RL := Lib.hid (fun w' (hc : Chg [] w w') => rlocals_any x f w' (hp.kept hc) hz)
  have OP := Lib.hid (fun w' (hc : Chg [] w w') => ops_any x w' (hp.kept hc) hg (ht.kept hc))
  have RO := Lib.hid (fun w' (hc : Chg [] w w') => rops_any x w' (hp.kept hc) hz)
  have AW := Lib.hid (fun w' (hc : Chg [] w w') => stawake_any w' (ht.kept hc))
  unfold prO at hW1 B1
  have k1 := blk_cell B1.out
  simp only [prC] at SM SL RS LO RL OP RO ⊢
  generalize (studyZ x.p).2.2.2 = er at *
  generalize (studyZ x.p).1 = sl at *
  generalize localsZ x.p f = lz at *
  generalize opsZ x.p = oz at *
  generalize smallN x = sm at *
  clear hp hg ht hz hf
  cases sm
  · go_enter Tryz.func5, Tryz.ntmps5
    go_upto_region 1 with fail
    rw [← hW1]
    clear hW1
    go_wp2_with (first | (go_at_call 8; (with_reducible refine Calls.mono SM.out ?_); rintro e w2 ⟨rfl, hc⟩; have C2 := Lib.hid (C1.out.thenSame hc); clear k1 hc) | (go_at_call 9; (with_reducible refine Calls.mono (AW.out _ C2.out) ?_); rintro e w3 ⟨rfl, hc⟩; have C3 := Lib.hid (C2.out.thenSame hc); clear hc))
    go_ret
    exact ⟨rfl, C3.out.toBelow (Nat.le_refl _) (by simp)⟩
  · go_enter Tryz.func5, Tryz.ntmps5
    go_upto_region 1 with fail
    rw [← hW1]
    clear hW1
    go_upto_region 7 with (first
      | (go_at_call 8; (with_reducible refine Calls.mono SM.out ?_); rintro e w2 ⟨rfl, hc⟩; have C2 := Lib.hid (C1.out.thenSame hc); have B2 := Lib.hid (hc.at (by simp) B1.out); have k2 := blk_cell B2.out; clear k1 hc)
      | (go_at_call 13; (with_reducible refine Calls.mono (SL.out _ C2.out) ?_); rintro e w3 ⟨sa, sc, rfl, hr, hc⟩; have C3 := Lib.hid (C2.out.thenSame hc); have B3 := Lib.hid (hc.at (by simp) B2.out); have I3 := Lib.hid (InIs.ofRow hr icI_len1).2; have k3 := blk_cell B3.out; clear k2 hc hr)
      | (go_at_call 16; (with_reducible refine Calls.mono (RS.out _ C3.out) ?_); rintro e w4 ⟨ra, rc, rfl, hr, hc⟩; have C4 := Lib.hid (C3.out.thenSame hc); have B4 := Lib.hid (hc.at (by simp) B3.out); have I4 := Lib.hid (I3.out.kept hc); have J4 := Lib.hid (InIs.ofRow hr icI_len1).2; have k4 := blk_cell B4.out; clear k3 hc hr)
      | (go_at_call 14; (with_reducible refine Calls.mono (LO.out _ C4.out) ?_); rintro e w5 ⟨rfl, hc⟩; have D5 := Lib.hid hc; have C5 := Lib.hid (C4.out.thenSame hc); have B5 := Lib.hid (hc.at (by simp) B4.out); have k5 := blk_cell B5.out; clear k4 hc)
      | (go_at_call 17; (with_reducible refine Calls.mono (RL.out _ C5.out) ?_); rintro e w6 ⟨rfl, hc⟩; have D6 := Lib.hid (D5.out.thenSame hc); have C6 := Lib.hid (C5.out.thenSame hc); have B6 := Lib.hid (hc.at (by simp) B5.out); clear k5 hc))
    have EQ := Lib.hid (fun w' (hc : Chg [] w6 w') => equal_any (I4.out.kept (D6.out.thenSame hc)) (J4.out.kept (D6.out.thenSame hc)))
    have hself : (sl == sl) = true := beq_self_eq_true sl
    rw [hself] at EQ
    have VK := Lib.hid (fun (w' : World) (hc : Chg [] w6 w') => show w'.cell? ⟨w.heap.size, 0, none⟩ = some (.slice x.na x.nodes.length x.nc) ∧ w'.cell? ⟨w.heap.size, 1, none⟩ = some (.slice x.fa x.funcs.length x.fc) from by
      have h1 := blk_cell (hc.at (by simp) B6.out)
      exact ⟨h1 0, h1 1⟩)
    go_region_held3 (fun w' => w'.cell? ⟨w.heap.size, 0, none⟩ = some (.slice x.na x.nodes.length x.nc) ∧ w'.cell? ⟨w.heap.size, 1, none⟩ = some (.slice x.fa x.funcs.length x.fc))
      (first | exact VK.out _ ((Chg.refl _ _).drew) | exact VK.out _ K11.out | exact VK.out _ K10.out | exact VK.out _ K9.out | exact VK.out _ K8.out | exact VK.out _ K7.out)
      (first
        | (go_at_call 18; (with_reducible refine Calls.mono (EQ.out _ ((Chg.refl _ _).drew)) ?_); rintro e w7 ⟨rfl, hc⟩; have K7 := Lib.hid (show Chg [] w6 w7 from ((Chg.refl _ _).drew).thenSame hc); clear hc)
        | (go_at_call 20; (with_reducible refine Calls.mono (OP.out _ (C6.out.thenSame K7.out)) ?_); rintro e w8 ⟨oa, oc, rfl, hr, hc⟩; have K8 := Lib.hid (K7.out.thenSame hc); have I8 := Lib.hid (InIs.ofRow hr kLen).2; clear hc hr)
        | (go_at_call 21; (with_reducible refine Calls.mono (RO.out _ (C6.out.thenSame K8.out)) ?_); rintro e w9 ⟨pa, pc, rfl, hr, hc⟩; have K9 := Lib.hid (K8.out.thenSame hc); have I9 := Lib.hid (I8.out.kept hc); have J9 := Lib.hid (InIs.ofRow hr kLen).2; clear hc hr)
        | (go_at_call 19; (with_reducible refine Calls.mono (ltexts_same I9.out J9.out) ?_); rintro e w10 ⟨rfl, hc⟩; have K10 := Lib.hid (K9.out.thenSame hc); clear hc)
        | (go_at_call 9; (with_reducible refine Calls.mono (AW.out _ (C6.out.thenSame K10.out)) ?_); rintro e w11 ⟨rfl, hc⟩; have K11 := Lib.hid (K10.out.thenSame hc); clear hc)
        | fail)
    go_wp2_with fail
    go_ret
    exact ⟨rfl, (C6.out.thenSame K11.out).toBelow (Nat.le_refl _) (by simp)⟩
end Go.Proofs.YtolidiafomceiaaGreatDoor
