/- Chapter 30: contract: event.Check. Conditions: a body of at most 1048576 cells; the table of Itoa lies as the program lays it. -/
import Derived.Test.YtmichbpfmachcaaDoorStmA
import Derived.Test.YtmichbpfmachcaaDoorId
import Derived.Test.YtmichbpfmachcaaDoorInl
namespace Go.Proofs.YtmichbpfmachcaaDoor
set_option linter.unusedVariables false
set_option linter.unusedSimpArgs false
open Go.RowKit
structure PEv where
  id : ByteArray
  tn : ByteArray
  src : ByteArray
  key : ByteArray
  at_ : Int
  cause : ByteArray
  body : List Ce
/-- An event with the place of its body. -/
structure Ev where
  p : PEv
  ba : Option Addr
  bc : Nat
def evC (e : Ev) : List Value := [.string e.p.id, .string e.p.tn, .string e.p.src, .string e.p.key, .int .i64 e.p.at_, .string e.p.cause, .slice e.ba e.p.body.length e.bc]
theorem evC_len (e : Ev) : (evC e).length = 7 := rfl
theorem evC_one (e : Ev) : ∀ u ∈ evC e, u.oneCell' = true := by intro u hu; simp [evC] at hu; rcases hu with rfl | rfl | rfl | rfl | rfl | rfl | rfl <;> rfl
def PEv.good (e : PEv) : Prop := e.id.size ≤ maxLen ∧ e.tn.size ≤ maxLen ∧ e.src.size ≤ maxLen ∧ e.key.size ≤ maxLen ∧ e.cause.size ≤ maxLen ∧ e.body.length ≤ 1048576 ∧ ∀ x ∈ e.body, x.good
def namesB (e : PEv) : Bool := idB e.id && idB e.tn && idB e.src && (e.key.toList.isEmpty || idB e.key) && (e.cause.toList.isEmpty || idB e.cause)
def evZ (e : PEv) : Int := if namesB e = false then 4 else if e.at_ < 0 then 2 else if 1073741824 < e.at_ then 2 else checkZ e.body
set_option maxHeartbeats 4000000 in
set_option maxRecDepth 100000 in
theorem echeck_any (e : Ev) (w : World) (hi : InIs ceC 4 w e.ba e.bc e.p.body) (hg : e.p.good) (ht : TabW w) :
    Calls Tryd.prog 26 #[.agg (evC e).toArray] w fun x w' => x = .returned (.int .i64 (evZ e.p)) ∧ Chg [] w w' := by
  obtain ⟨⟨id, tn, src, key, at_, cause, body⟩, ba, bc⟩ := e
  obtain ⟨R, hR⟩ : ∃ R, R = evZ ⟨id, tn, src, key, at_, cause, body⟩ := ⟨_, rfl⟩
  rw [← hR]
  simp only [evZ, namesB] at hR
  obtain ⟨g1, g2, g3, g4, g5, g6, g7⟩ := hg
  simp only at g1 g2 g3 g4 g5 g6 g7 hi
  have A1 := Lib.hid (fun w' => ID_any id w' g1)
  have A2 := Lib.hid (fun w' => ID_any tn w' g2)
  have A3 := Lib.hid (fun w' => ID_any src w' g3)
  have A4 := Lib.hid (fun w' => ID_any key w' g4)
  have A5 := Lib.hid (fun w' => ID_any cause w' g5)
  have A6 := Lib.hid (fun w' (hc : Chg [] w w') => vcheck_any ba bc body w' (hi.1.kept hc) g6 g7 (ht.kept hc))
  simp only [evC]
  obtain ⟨W1, hW1⟩ : ∃ W1, W1 = w.alloc (.cells #[.string id, .string tn, .string src, .string key, .int .i64 at_, .string cause, .slice ba body.length bc] 25) := ⟨_, rfl⟩
  have C := Lib.hid (show Chg [] w W1 by rw [hW1]; exact (Chg.refl _ _).alloc _)
  have B := Lib.hid (show W1.heap[w.heap.size]? = some (.cells #[.string id, .string tn, .string src, .string key, .int .i64 at_, .string cause, .slice ba body.length bc] 25 (0, 0)) by rw [hW1]; exact heap_alloc_new _ _)
  have k := blk_cell B.out
  have HW1 := Lib.hid hW1
  clear hW1 g1 g2 g3 g4 g5 g6 g7 hi ht
  generalize idB id = q1 at *
  generalize idB tn = q2 at *
  generalize idB src = q3 at *
  generalize idB key = q4 at *
  generalize idB cause = q5 at *
  generalize hk : key.toList.isEmpty = z4 at *
  generalize hk5 : cause.toList.isEmpty = z5 at *
  cases q1
  · have HF := Lib.hid (hR.trans (if_pos rfl))
    clear hR
    go_enter Tryd.func26, Tryd.ntmps26
    go_wp2_with fail
    rw [← HW1.out]
    go_wp2_with (first | (go_at_call 40; (with_reducible refine (A1.out _).mono ?_); rintro e wn ⟨rfl, hcn⟩; have C := Lib.hid (C.out.thenSame (Chg.ofBelow hcn)); have B := Lib.hid ((Chg.ofBelow (S := []) hcn).at (by simp) B.out); have k := blk_cell B.out; clear hcn) | (go_at_call 40; (with_reducible refine (A2.out _).mono ?_); rintro e wn ⟨rfl, hcn⟩; have C := Lib.hid (C.out.thenSame (Chg.ofBelow hcn)); have B := Lib.hid ((Chg.ofBelow (S := []) hcn).at (by simp) B.out); have k := blk_cell B.out; clear hcn) | (go_at_call 40; (with_reducible refine (A3.out _).mono ?_); rintro e wn ⟨rfl, hcn⟩; have C := Lib.hid (C.out.thenSame (Chg.ofBelow hcn)); have B := Lib.hid ((Chg.ofBelow (S := []) hcn).at (by simp) B.out); have k := blk_cell B.out; clear hcn) | (go_at_call 40; (with_reducible refine (A4.out _).mono ?_); rintro e wn ⟨rfl, hcn⟩; have C := Lib.hid (C.out.thenSame (Chg.ofBelow hcn)); have B := Lib.hid ((Chg.ofBelow (S := []) hcn).at (by simp) B.out); have k := blk_cell B.out; clear hcn) | (go_at_call 40; (with_reducible refine (A5.out _).mono ?_); rintro e wn ⟨rfl, hcn⟩; have C := Lib.hid (C.out.thenSame (Chg.ofBelow hcn)); have B := Lib.hid ((Chg.ofBelow (S := []) hcn).at (by simp) B.out); have k := blk_cell B.out; clear hcn) | (go_at_call 41; refine (A6.out _ C.out).mono ?_; rintro e wn ⟨rfl, hcn⟩; have C := Lib.hid (C.out.thenSame hcn); clear hcn))
    go_ret
    exact ⟨retI HF.out.symm, C.out⟩
  cases q2
  · have HF := Lib.hid (hR.trans (if_pos rfl))
    clear hR
    go_enter Tryd.func26, Tryd.ntmps26
    go_wp2_with fail
    rw [← HW1.out]
    go_wp2_with (first | (go_at_call 40; (with_reducible refine (A1.out _).mono ?_); rintro e wn ⟨rfl, hcn⟩; have C := Lib.hid (C.out.thenSame (Chg.ofBelow hcn)); have B := Lib.hid ((Chg.ofBelow (S := []) hcn).at (by simp) B.out); have k := blk_cell B.out; clear hcn) | (go_at_call 40; (with_reducible refine (A2.out _).mono ?_); rintro e wn ⟨rfl, hcn⟩; have C := Lib.hid (C.out.thenSame (Chg.ofBelow hcn)); have B := Lib.hid ((Chg.ofBelow (S := []) hcn).at (by simp) B.out); have k := blk_cell B.out; clear hcn) | (go_at_call 40; (with_reducible refine (A3.out _).mono ?_); rintro e wn ⟨rfl, hcn⟩; have C := Lib.hid (C.out.thenSame (Chg.ofBelow hcn)); have B := Lib.hid ((Chg.ofBelow (S := []) hcn).at (by simp) B.out); have k := blk_cell B.out; clear hcn) | (go_at_call 40; (with_reducible refine (A4.out _).mono ?_); rintro e wn ⟨rfl, hcn⟩; have C := Lib.hid (C.out.thenSame (Chg.ofBelow hcn)); have B := Lib.hid ((Chg.ofBelow (S := []) hcn).at (by simp) B.out); have k := blk_cell B.out; clear hcn) | (go_at_call 40; (with_reducible refine (A5.out _).mono ?_); rintro e wn ⟨rfl, hcn⟩; have C := Lib.hid (C.out.thenSame (Chg.ofBelow hcn)); have B := Lib.hid ((Chg.ofBelow (S := []) hcn).at (by simp) B.out); have k := blk_cell B.out; clear hcn) | (go_at_call 41; refine (A6.out _ C.out).mono ?_; rintro e wn ⟨rfl, hcn⟩; have C := Lib.hid (C.out.thenSame hcn); clear hcn))
    go_ret
    exact ⟨retI HF.out.symm, C.out⟩
  cases q3
  · have HF := Lib.hid (hR.trans (if_pos rfl))
    clear hR
    go_enter Tryd.func26, Tryd.ntmps26
    go_wp2_with fail
    rw [← HW1.out]
    go_wp2_with (first | (go_at_call 40; (with_reducible refine (A1.out _).mono ?_); rintro e wn ⟨rfl, hcn⟩; have C := Lib.hid (C.out.thenSame (Chg.ofBelow hcn)); have B := Lib.hid ((Chg.ofBelow (S := []) hcn).at (by simp) B.out); have k := blk_cell B.out; clear hcn) | (go_at_call 40; (with_reducible refine (A2.out _).mono ?_); rintro e wn ⟨rfl, hcn⟩; have C := Lib.hid (C.out.thenSame (Chg.ofBelow hcn)); have B := Lib.hid ((Chg.ofBelow (S := []) hcn).at (by simp) B.out); have k := blk_cell B.out; clear hcn) | (go_at_call 40; (with_reducible refine (A3.out _).mono ?_); rintro e wn ⟨rfl, hcn⟩; have C := Lib.hid (C.out.thenSame (Chg.ofBelow hcn)); have B := Lib.hid ((Chg.ofBelow (S := []) hcn).at (by simp) B.out); have k := blk_cell B.out; clear hcn) | (go_at_call 40; (with_reducible refine (A4.out _).mono ?_); rintro e wn ⟨rfl, hcn⟩; have C := Lib.hid (C.out.thenSame (Chg.ofBelow hcn)); have B := Lib.hid ((Chg.ofBelow (S := []) hcn).at (by simp) B.out); have k := blk_cell B.out; clear hcn) | (go_at_call 40; (with_reducible refine (A5.out _).mono ?_); rintro e wn ⟨rfl, hcn⟩; have C := Lib.hid (C.out.thenSame (Chg.ofBelow hcn)); have B := Lib.hid ((Chg.ofBelow (S := []) hcn).at (by simp) B.out); have k := blk_cell B.out; clear hcn) | (go_at_call 41; refine (A6.out _ C.out).mono ?_; rintro e wn ⟨rfl, hcn⟩; have C := Lib.hid (C.out.thenSame hcn); clear hcn))
    go_ret
    exact ⟨retI HF.out.symm, C.out⟩
  cases z4
  · cases q4
    · have HF := Lib.hid (hR.trans (if_pos rfl))
      clear hR
      go_enter Tryd.func26, Tryd.ntmps26
      go_wp2_with fail
      rw [← HW1.out]
      go_wp2_with (first | (go_at_call 40; (with_reducible refine (A1.out _).mono ?_); rintro e wn ⟨rfl, hcn⟩; have C := Lib.hid (C.out.thenSame (Chg.ofBelow hcn)); have B := Lib.hid ((Chg.ofBelow (S := []) hcn).at (by simp) B.out); have k := blk_cell B.out; clear hcn) | (go_at_call 40; (with_reducible refine (A2.out _).mono ?_); rintro e wn ⟨rfl, hcn⟩; have C := Lib.hid (C.out.thenSame (Chg.ofBelow hcn)); have B := Lib.hid ((Chg.ofBelow (S := []) hcn).at (by simp) B.out); have k := blk_cell B.out; clear hcn) | (go_at_call 40; (with_reducible refine (A3.out _).mono ?_); rintro e wn ⟨rfl, hcn⟩; have C := Lib.hid (C.out.thenSame (Chg.ofBelow hcn)); have B := Lib.hid ((Chg.ofBelow (S := []) hcn).at (by simp) B.out); have k := blk_cell B.out; clear hcn) | (go_at_call 40; (with_reducible refine (A4.out _).mono ?_); rintro e wn ⟨rfl, hcn⟩; have C := Lib.hid (C.out.thenSame (Chg.ofBelow hcn)); have B := Lib.hid ((Chg.ofBelow (S := []) hcn).at (by simp) B.out); have k := blk_cell B.out; clear hcn) | (go_at_call 40; (with_reducible refine (A5.out _).mono ?_); rintro e wn ⟨rfl, hcn⟩; have C := Lib.hid (C.out.thenSame (Chg.ofBelow hcn)); have B := Lib.hid ((Chg.ofBelow (S := []) hcn).at (by simp) B.out); have k := blk_cell B.out; clear hcn) | (go_at_call 41; refine (A6.out _ C.out).mono ?_; rintro e wn ⟨rfl, hcn⟩; have C := Lib.hid (C.out.thenSame hcn); clear hcn))
      go_ret
      exact ⟨retI HF.out.symm, C.out⟩
    cases z5
    · cases q5
      · have HF := Lib.hid (hR.trans (if_pos rfl))
        clear hR
        go_enter Tryd.func26, Tryd.ntmps26
        go_wp2_with fail
        rw [← HW1.out]
        go_wp2_with (first | (go_at_call 40; (with_reducible refine (A1.out _).mono ?_); rintro e wn ⟨rfl, hcn⟩; have C := Lib.hid (C.out.thenSame (Chg.ofBelow hcn)); have B := Lib.hid ((Chg.ofBelow (S := []) hcn).at (by simp) B.out); have k := blk_cell B.out; clear hcn) | (go_at_call 40; (with_reducible refine (A2.out _).mono ?_); rintro e wn ⟨rfl, hcn⟩; have C := Lib.hid (C.out.thenSame (Chg.ofBelow hcn)); have B := Lib.hid ((Chg.ofBelow (S := []) hcn).at (by simp) B.out); have k := blk_cell B.out; clear hcn) | (go_at_call 40; (with_reducible refine (A3.out _).mono ?_); rintro e wn ⟨rfl, hcn⟩; have C := Lib.hid (C.out.thenSame (Chg.ofBelow hcn)); have B := Lib.hid ((Chg.ofBelow (S := []) hcn).at (by simp) B.out); have k := blk_cell B.out; clear hcn) | (go_at_call 40; (with_reducible refine (A4.out _).mono ?_); rintro e wn ⟨rfl, hcn⟩; have C := Lib.hid (C.out.thenSame (Chg.ofBelow hcn)); have B := Lib.hid ((Chg.ofBelow (S := []) hcn).at (by simp) B.out); have k := blk_cell B.out; clear hcn) | (go_at_call 40; (with_reducible refine (A5.out _).mono ?_); rintro e wn ⟨rfl, hcn⟩; have C := Lib.hid (C.out.thenSame (Chg.ofBelow hcn)); have B := Lib.hid ((Chg.ofBelow (S := []) hcn).at (by simp) B.out); have k := blk_cell B.out; clear hcn) | (go_at_call 41; refine (A6.out _ C.out).mono ?_; rintro e wn ⟨rfl, hcn⟩; have C := Lib.hid (C.out.thenSame hcn); clear hcn))
        go_ret
        exact ⟨retI HF.out.symm, C.out⟩
      rw [if_neg (by simp)] at hR
      by_cases h1 : at_ < 0
      · have HF := Lib.hid (hR.trans (if_pos h1))
        clear hR
        go_enter Tryd.func26, Tryd.ntmps26
        go_wp2_with fail
        rw [← HW1.out]
        go_wp2_with (first | (go_at_call 40; (with_reducible refine (A1.out _).mono ?_); rintro e wn ⟨rfl, hcn⟩; have C := Lib.hid (C.out.thenSame (Chg.ofBelow hcn)); have B := Lib.hid ((Chg.ofBelow (S := []) hcn).at (by simp) B.out); have k := blk_cell B.out; clear hcn) | (go_at_call 40; (with_reducible refine (A2.out _).mono ?_); rintro e wn ⟨rfl, hcn⟩; have C := Lib.hid (C.out.thenSame (Chg.ofBelow hcn)); have B := Lib.hid ((Chg.ofBelow (S := []) hcn).at (by simp) B.out); have k := blk_cell B.out; clear hcn) | (go_at_call 40; (with_reducible refine (A3.out _).mono ?_); rintro e wn ⟨rfl, hcn⟩; have C := Lib.hid (C.out.thenSame (Chg.ofBelow hcn)); have B := Lib.hid ((Chg.ofBelow (S := []) hcn).at (by simp) B.out); have k := blk_cell B.out; clear hcn) | (go_at_call 40; (with_reducible refine (A4.out _).mono ?_); rintro e wn ⟨rfl, hcn⟩; have C := Lib.hid (C.out.thenSame (Chg.ofBelow hcn)); have B := Lib.hid ((Chg.ofBelow (S := []) hcn).at (by simp) B.out); have k := blk_cell B.out; clear hcn) | (go_at_call 40; (with_reducible refine (A5.out _).mono ?_); rintro e wn ⟨rfl, hcn⟩; have C := Lib.hid (C.out.thenSame (Chg.ofBelow hcn)); have B := Lib.hid ((Chg.ofBelow (S := []) hcn).at (by simp) B.out); have k := blk_cell B.out; clear hcn) | (go_at_call 41; refine (A6.out _ C.out).mono ?_; rintro e wn ⟨rfl, hcn⟩; have C := Lib.hid (C.out.thenSame hcn); clear hcn))
        go_ret
        exact ⟨retI HF.out.symm, C.out⟩
      rw [if_neg h1] at hR
      by_cases h2 : 1073741824 < at_
      · have HF := Lib.hid (hR.trans (if_pos h2))
        clear hR
        go_enter Tryd.func26, Tryd.ntmps26
        go_wp2_with fail
        rw [← HW1.out]
        go_wp2_with (first | (go_at_call 40; (with_reducible refine (A1.out _).mono ?_); rintro e wn ⟨rfl, hcn⟩; have C := Lib.hid (C.out.thenSame (Chg.ofBelow hcn)); have B := Lib.hid ((Chg.ofBelow (S := []) hcn).at (by simp) B.out); have k := blk_cell B.out; clear hcn) | (go_at_call 40; (with_reducible refine (A2.out _).mono ?_); rintro e wn ⟨rfl, hcn⟩; have C := Lib.hid (C.out.thenSame (Chg.ofBelow hcn)); have B := Lib.hid ((Chg.ofBelow (S := []) hcn).at (by simp) B.out); have k := blk_cell B.out; clear hcn) | (go_at_call 40; (with_reducible refine (A3.out _).mono ?_); rintro e wn ⟨rfl, hcn⟩; have C := Lib.hid (C.out.thenSame (Chg.ofBelow hcn)); have B := Lib.hid ((Chg.ofBelow (S := []) hcn).at (by simp) B.out); have k := blk_cell B.out; clear hcn) | (go_at_call 40; (with_reducible refine (A4.out _).mono ?_); rintro e wn ⟨rfl, hcn⟩; have C := Lib.hid (C.out.thenSame (Chg.ofBelow hcn)); have B := Lib.hid ((Chg.ofBelow (S := []) hcn).at (by simp) B.out); have k := blk_cell B.out; clear hcn) | (go_at_call 40; (with_reducible refine (A5.out _).mono ?_); rintro e wn ⟨rfl, hcn⟩; have C := Lib.hid (C.out.thenSame (Chg.ofBelow hcn)); have B := Lib.hid ((Chg.ofBelow (S := []) hcn).at (by simp) B.out); have k := blk_cell B.out; clear hcn) | (go_at_call 41; refine (A6.out _ C.out).mono ?_; rintro e wn ⟨rfl, hcn⟩; have C := Lib.hid (C.out.thenSame hcn); clear hcn))
        go_ret
        exact ⟨retI HF.out.symm, C.out⟩
      have HF := Lib.hid (hR.trans (if_neg h2))
      clear hR
      go_enter Tryd.func26, Tryd.ntmps26
      go_wp2_with fail
      rw [← HW1.out]
      go_wp2_with (first | (go_at_call 40; (with_reducible refine (A1.out _).mono ?_); rintro e wn ⟨rfl, hcn⟩; have C := Lib.hid (C.out.thenSame (Chg.ofBelow hcn)); have B := Lib.hid ((Chg.ofBelow (S := []) hcn).at (by simp) B.out); have k := blk_cell B.out; clear hcn) | (go_at_call 40; (with_reducible refine (A2.out _).mono ?_); rintro e wn ⟨rfl, hcn⟩; have C := Lib.hid (C.out.thenSame (Chg.ofBelow hcn)); have B := Lib.hid ((Chg.ofBelow (S := []) hcn).at (by simp) B.out); have k := blk_cell B.out; clear hcn) | (go_at_call 40; (with_reducible refine (A3.out _).mono ?_); rintro e wn ⟨rfl, hcn⟩; have C := Lib.hid (C.out.thenSame (Chg.ofBelow hcn)); have B := Lib.hid ((Chg.ofBelow (S := []) hcn).at (by simp) B.out); have k := blk_cell B.out; clear hcn) | (go_at_call 40; (with_reducible refine (A4.out _).mono ?_); rintro e wn ⟨rfl, hcn⟩; have C := Lib.hid (C.out.thenSame (Chg.ofBelow hcn)); have B := Lib.hid ((Chg.ofBelow (S := []) hcn).at (by simp) B.out); have k := blk_cell B.out; clear hcn) | (go_at_call 40; (with_reducible refine (A5.out _).mono ?_); rintro e wn ⟨rfl, hcn⟩; have C := Lib.hid (C.out.thenSame (Chg.ofBelow hcn)); have B := Lib.hid ((Chg.ofBelow (S := []) hcn).at (by simp) B.out); have k := blk_cell B.out; clear hcn) | (go_at_call 41; refine (A6.out _ C.out).mono ?_; rintro e wn ⟨rfl, hcn⟩; have C := Lib.hid (C.out.thenSame hcn); clear hcn))
      go_ret
      exact ⟨retI HF.out.symm, C.out⟩
    · rw [if_neg (by simp)] at hR
      by_cases h1 : at_ < 0
      · have HF := Lib.hid (hR.trans (if_pos h1))
        clear hR
        go_enter Tryd.func26, Tryd.ntmps26
        go_wp2_with fail
        rw [← HW1.out]
        go_wp2_with (first | (go_at_call 40; (with_reducible refine (A1.out _).mono ?_); rintro e wn ⟨rfl, hcn⟩; have C := Lib.hid (C.out.thenSame (Chg.ofBelow hcn)); have B := Lib.hid ((Chg.ofBelow (S := []) hcn).at (by simp) B.out); have k := blk_cell B.out; clear hcn) | (go_at_call 40; (with_reducible refine (A2.out _).mono ?_); rintro e wn ⟨rfl, hcn⟩; have C := Lib.hid (C.out.thenSame (Chg.ofBelow hcn)); have B := Lib.hid ((Chg.ofBelow (S := []) hcn).at (by simp) B.out); have k := blk_cell B.out; clear hcn) | (go_at_call 40; (with_reducible refine (A3.out _).mono ?_); rintro e wn ⟨rfl, hcn⟩; have C := Lib.hid (C.out.thenSame (Chg.ofBelow hcn)); have B := Lib.hid ((Chg.ofBelow (S := []) hcn).at (by simp) B.out); have k := blk_cell B.out; clear hcn) | (go_at_call 40; (with_reducible refine (A4.out _).mono ?_); rintro e wn ⟨rfl, hcn⟩; have C := Lib.hid (C.out.thenSame (Chg.ofBelow hcn)); have B := Lib.hid ((Chg.ofBelow (S := []) hcn).at (by simp) B.out); have k := blk_cell B.out; clear hcn) | (go_at_call 40; (with_reducible refine (A5.out _).mono ?_); rintro e wn ⟨rfl, hcn⟩; have C := Lib.hid (C.out.thenSame (Chg.ofBelow hcn)); have B := Lib.hid ((Chg.ofBelow (S := []) hcn).at (by simp) B.out); have k := blk_cell B.out; clear hcn) | (go_at_call 41; refine (A6.out _ C.out).mono ?_; rintro e wn ⟨rfl, hcn⟩; have C := Lib.hid (C.out.thenSame hcn); clear hcn))
        go_ret
        exact ⟨retI HF.out.symm, C.out⟩
      rw [if_neg h1] at hR
      by_cases h2 : 1073741824 < at_
      · have HF := Lib.hid (hR.trans (if_pos h2))
        clear hR
        go_enter Tryd.func26, Tryd.ntmps26
        go_wp2_with fail
        rw [← HW1.out]
        go_wp2_with (first | (go_at_call 40; (with_reducible refine (A1.out _).mono ?_); rintro e wn ⟨rfl, hcn⟩; have C := Lib.hid (C.out.thenSame (Chg.ofBelow hcn)); have B := Lib.hid ((Chg.ofBelow (S := []) hcn).at (by simp) B.out); have k := blk_cell B.out; clear hcn) | (go_at_call 40; (with_reducible refine (A2.out _).mono ?_); rintro e wn ⟨rfl, hcn⟩; have C := Lib.hid (C.out.thenSame (Chg.ofBelow hcn)); have B := Lib.hid ((Chg.ofBelow (S := []) hcn).at (by simp) B.out); have k := blk_cell B.out; clear hcn) | (go_at_call 40; (with_reducible refine (A3.out _).mono ?_); rintro e wn ⟨rfl, hcn⟩; have C := Lib.hid (C.out.thenSame (Chg.ofBelow hcn)); have B := Lib.hid ((Chg.ofBelow (S := []) hcn).at (by simp) B.out); have k := blk_cell B.out; clear hcn) | (go_at_call 40; (with_reducible refine (A4.out _).mono ?_); rintro e wn ⟨rfl, hcn⟩; have C := Lib.hid (C.out.thenSame (Chg.ofBelow hcn)); have B := Lib.hid ((Chg.ofBelow (S := []) hcn).at (by simp) B.out); have k := blk_cell B.out; clear hcn) | (go_at_call 40; (with_reducible refine (A5.out _).mono ?_); rintro e wn ⟨rfl, hcn⟩; have C := Lib.hid (C.out.thenSame (Chg.ofBelow hcn)); have B := Lib.hid ((Chg.ofBelow (S := []) hcn).at (by simp) B.out); have k := blk_cell B.out; clear hcn) | (go_at_call 41; refine (A6.out _ C.out).mono ?_; rintro e wn ⟨rfl, hcn⟩; have C := Lib.hid (C.out.thenSame hcn); clear hcn))
        go_ret
        exact ⟨retI HF.out.symm, C.out⟩
      have HF := Lib.hid (hR.trans (if_neg h2))
      clear hR
      go_enter Tryd.func26, Tryd.ntmps26
      go_wp2_with fail
      rw [← HW1.out]
      go_wp2_with (first | (go_at_call 40; (with_reducible refine (A1.out _).mono ?_); rintro e wn ⟨rfl, hcn⟩; have C := Lib.hid (C.out.thenSame (Chg.ofBelow hcn)); have B := Lib.hid ((Chg.ofBelow (S := []) hcn).at (by simp) B.out); have k := blk_cell B.out; clear hcn) | (go_at_call 40; (with_reducible refine (A2.out _).mono ?_); rintro e wn ⟨rfl, hcn⟩; have C := Lib.hid (C.out.thenSame (Chg.ofBelow hcn)); have B := Lib.hid ((Chg.ofBelow (S := []) hcn).at (by simp) B.out); have k := blk_cell B.out; clear hcn) | (go_at_call 40; (with_reducible refine (A3.out _).mono ?_); rintro e wn ⟨rfl, hcn⟩; have C := Lib.hid (C.out.thenSame (Chg.ofBelow hcn)); have B := Lib.hid ((Chg.ofBelow (S := []) hcn).at (by simp) B.out); have k := blk_cell B.out; clear hcn) | (go_at_call 40; (with_reducible refine (A4.out _).mono ?_); rintro e wn ⟨rfl, hcn⟩; have C := Lib.hid (C.out.thenSame (Chg.ofBelow hcn)); have B := Lib.hid ((Chg.ofBelow (S := []) hcn).at (by simp) B.out); have k := blk_cell B.out; clear hcn) | (go_at_call 40; (with_reducible refine (A5.out _).mono ?_); rintro e wn ⟨rfl, hcn⟩; have C := Lib.hid (C.out.thenSame (Chg.ofBelow hcn)); have B := Lib.hid ((Chg.ofBelow (S := []) hcn).at (by simp) B.out); have k := blk_cell B.out; clear hcn) | (go_at_call 41; refine (A6.out _ C.out).mono ?_; rintro e wn ⟨rfl, hcn⟩; have C := Lib.hid (C.out.thenSame hcn); clear hcn))
      go_ret
      exact ⟨retI HF.out.symm, C.out⟩
  · cases z5
    · cases q5
      · have HF := Lib.hid (hR.trans (if_pos rfl))
        clear hR
        go_enter Tryd.func26, Tryd.ntmps26
        go_wp2_with fail
        rw [← HW1.out]
        go_wp2_with (first | (go_at_call 40; (with_reducible refine (A1.out _).mono ?_); rintro e wn ⟨rfl, hcn⟩; have C := Lib.hid (C.out.thenSame (Chg.ofBelow hcn)); have B := Lib.hid ((Chg.ofBelow (S := []) hcn).at (by simp) B.out); have k := blk_cell B.out; clear hcn) | (go_at_call 40; (with_reducible refine (A2.out _).mono ?_); rintro e wn ⟨rfl, hcn⟩; have C := Lib.hid (C.out.thenSame (Chg.ofBelow hcn)); have B := Lib.hid ((Chg.ofBelow (S := []) hcn).at (by simp) B.out); have k := blk_cell B.out; clear hcn) | (go_at_call 40; (with_reducible refine (A3.out _).mono ?_); rintro e wn ⟨rfl, hcn⟩; have C := Lib.hid (C.out.thenSame (Chg.ofBelow hcn)); have B := Lib.hid ((Chg.ofBelow (S := []) hcn).at (by simp) B.out); have k := blk_cell B.out; clear hcn) | (go_at_call 40; (with_reducible refine (A4.out _).mono ?_); rintro e wn ⟨rfl, hcn⟩; have C := Lib.hid (C.out.thenSame (Chg.ofBelow hcn)); have B := Lib.hid ((Chg.ofBelow (S := []) hcn).at (by simp) B.out); have k := blk_cell B.out; clear hcn) | (go_at_call 40; (with_reducible refine (A5.out _).mono ?_); rintro e wn ⟨rfl, hcn⟩; have C := Lib.hid (C.out.thenSame (Chg.ofBelow hcn)); have B := Lib.hid ((Chg.ofBelow (S := []) hcn).at (by simp) B.out); have k := blk_cell B.out; clear hcn) | (go_at_call 41; refine (A6.out _ C.out).mono ?_; rintro e wn ⟨rfl, hcn⟩; have C := Lib.hid (C.out.thenSame hcn); clear hcn))
        go_ret
        exact ⟨retI HF.out.symm, C.out⟩
      rw [if_neg (by simp)] at hR
      by_cases h1 : at_ < 0
      · have HF := Lib.hid (hR.trans (if_pos h1))
        clear hR
        go_enter Tryd.func26, Tryd.ntmps26
        go_wp2_with fail
        rw [← HW1.out]
        go_wp2_with (first | (go_at_call 40; (with_reducible refine (A1.out _).mono ?_); rintro e wn ⟨rfl, hcn⟩; have C := Lib.hid (C.out.thenSame (Chg.ofBelow hcn)); have B := Lib.hid ((Chg.ofBelow (S := []) hcn).at (by simp) B.out); have k := blk_cell B.out; clear hcn) | (go_at_call 40; (with_reducible refine (A2.out _).mono ?_); rintro e wn ⟨rfl, hcn⟩; have C := Lib.hid (C.out.thenSame (Chg.ofBelow hcn)); have B := Lib.hid ((Chg.ofBelow (S := []) hcn).at (by simp) B.out); have k := blk_cell B.out; clear hcn) | (go_at_call 40; (with_reducible refine (A3.out _).mono ?_); rintro e wn ⟨rfl, hcn⟩; have C := Lib.hid (C.out.thenSame (Chg.ofBelow hcn)); have B := Lib.hid ((Chg.ofBelow (S := []) hcn).at (by simp) B.out); have k := blk_cell B.out; clear hcn) | (go_at_call 40; (with_reducible refine (A4.out _).mono ?_); rintro e wn ⟨rfl, hcn⟩; have C := Lib.hid (C.out.thenSame (Chg.ofBelow hcn)); have B := Lib.hid ((Chg.ofBelow (S := []) hcn).at (by simp) B.out); have k := blk_cell B.out; clear hcn) | (go_at_call 40; (with_reducible refine (A5.out _).mono ?_); rintro e wn ⟨rfl, hcn⟩; have C := Lib.hid (C.out.thenSame (Chg.ofBelow hcn)); have B := Lib.hid ((Chg.ofBelow (S := []) hcn).at (by simp) B.out); have k := blk_cell B.out; clear hcn) | (go_at_call 41; refine (A6.out _ C.out).mono ?_; rintro e wn ⟨rfl, hcn⟩; have C := Lib.hid (C.out.thenSame hcn); clear hcn))
        go_ret
        exact ⟨retI HF.out.symm, C.out⟩
      rw [if_neg h1] at hR
      by_cases h2 : 1073741824 < at_
      · have HF := Lib.hid (hR.trans (if_pos h2))
        clear hR
        go_enter Tryd.func26, Tryd.ntmps26
        go_wp2_with fail
        rw [← HW1.out]
        go_wp2_with (first | (go_at_call 40; (with_reducible refine (A1.out _).mono ?_); rintro e wn ⟨rfl, hcn⟩; have C := Lib.hid (C.out.thenSame (Chg.ofBelow hcn)); have B := Lib.hid ((Chg.ofBelow (S := []) hcn).at (by simp) B.out); have k := blk_cell B.out; clear hcn) | (go_at_call 40; (with_reducible refine (A2.out _).mono ?_); rintro e wn ⟨rfl, hcn⟩; have C := Lib.hid (C.out.thenSame (Chg.ofBelow hcn)); have B := Lib.hid ((Chg.ofBelow (S := []) hcn).at (by simp) B.out); have k := blk_cell B.out; clear hcn) | (go_at_call 40; (with_reducible refine (A3.out _).mono ?_); rintro e wn ⟨rfl, hcn⟩; have C := Lib.hid (C.out.thenSame (Chg.ofBelow hcn)); have B := Lib.hid ((Chg.ofBelow (S := []) hcn).at (by simp) B.out); have k := blk_cell B.out; clear hcn) | (go_at_call 40; (with_reducible refine (A4.out _).mono ?_); rintro e wn ⟨rfl, hcn⟩; have C := Lib.hid (C.out.thenSame (Chg.ofBelow hcn)); have B := Lib.hid ((Chg.ofBelow (S := []) hcn).at (by simp) B.out); have k := blk_cell B.out; clear hcn) | (go_at_call 40; (with_reducible refine (A5.out _).mono ?_); rintro e wn ⟨rfl, hcn⟩; have C := Lib.hid (C.out.thenSame (Chg.ofBelow hcn)); have B := Lib.hid ((Chg.ofBelow (S := []) hcn).at (by simp) B.out); have k := blk_cell B.out; clear hcn) | (go_at_call 41; refine (A6.out _ C.out).mono ?_; rintro e wn ⟨rfl, hcn⟩; have C := Lib.hid (C.out.thenSame hcn); clear hcn))
        go_ret
        exact ⟨retI HF.out.symm, C.out⟩
      have HF := Lib.hid (hR.trans (if_neg h2))
      clear hR
      go_enter Tryd.func26, Tryd.ntmps26
      go_wp2_with fail
      rw [← HW1.out]
      go_wp2_with (first | (go_at_call 40; (with_reducible refine (A1.out _).mono ?_); rintro e wn ⟨rfl, hcn⟩; have C := Lib.hid (C.out.thenSame (Chg.ofBelow hcn)); have B := Lib.hid ((Chg.ofBelow (S := []) hcn).at (by simp) B.out); have k := blk_cell B.out; clear hcn) | (go_at_call 40; (with_reducible refine (A2.out _).mono ?_); rintro e wn ⟨rfl, hcn⟩; have C := Lib.hid (C.out.thenSame (Chg.ofBelow hcn)); have B := Lib.hid ((Chg.ofBelow (S := []) hcn).at (by simp) B.out); have k := blk_cell B.out; clear hcn) | (go_at_call 40; (with_reducible refine (A3.out _).mono ?_); rintro e wn ⟨rfl, hcn⟩; have C := Lib.hid (C.out.thenSame (Chg.ofBelow hcn)); have B := Lib.hid ((Chg.ofBelow (S := []) hcn).at (by simp) B.out); have k := blk_cell B.out; clear hcn) | (go_at_call 40; (with_reducible refine (A4.out _).mono ?_); rintro e wn ⟨rfl, hcn⟩; have C := Lib.hid (C.out.thenSame (Chg.ofBelow hcn)); have B := Lib.hid ((Chg.ofBelow (S := []) hcn).at (by simp) B.out); have k := blk_cell B.out; clear hcn) | (go_at_call 40; (with_reducible refine (A5.out _).mono ?_); rintro e wn ⟨rfl, hcn⟩; have C := Lib.hid (C.out.thenSame (Chg.ofBelow hcn)); have B := Lib.hid ((Chg.ofBelow (S := []) hcn).at (by simp) B.out); have k := blk_cell B.out; clear hcn) | (go_at_call 41; refine (A6.out _ C.out).mono ?_; rintro e wn ⟨rfl, hcn⟩; have C := Lib.hid (C.out.thenSame hcn); clear hcn))
      go_ret
      exact ⟨retI HF.out.symm, C.out⟩
    · rw [if_neg (by simp)] at hR
      by_cases h1 : at_ < 0
      · have HF := Lib.hid (hR.trans (if_pos h1))
        clear hR
        go_enter Tryd.func26, Tryd.ntmps26
        go_wp2_with fail
        rw [← HW1.out]
        go_wp2_with (first | (go_at_call 40; (with_reducible refine (A1.out _).mono ?_); rintro e wn ⟨rfl, hcn⟩; have C := Lib.hid (C.out.thenSame (Chg.ofBelow hcn)); have B := Lib.hid ((Chg.ofBelow (S := []) hcn).at (by simp) B.out); have k := blk_cell B.out; clear hcn) | (go_at_call 40; (with_reducible refine (A2.out _).mono ?_); rintro e wn ⟨rfl, hcn⟩; have C := Lib.hid (C.out.thenSame (Chg.ofBelow hcn)); have B := Lib.hid ((Chg.ofBelow (S := []) hcn).at (by simp) B.out); have k := blk_cell B.out; clear hcn) | (go_at_call 40; (with_reducible refine (A3.out _).mono ?_); rintro e wn ⟨rfl, hcn⟩; have C := Lib.hid (C.out.thenSame (Chg.ofBelow hcn)); have B := Lib.hid ((Chg.ofBelow (S := []) hcn).at (by simp) B.out); have k := blk_cell B.out; clear hcn) | (go_at_call 40; (with_reducible refine (A4.out _).mono ?_); rintro e wn ⟨rfl, hcn⟩; have C := Lib.hid (C.out.thenSame (Chg.ofBelow hcn)); have B := Lib.hid ((Chg.ofBelow (S := []) hcn).at (by simp) B.out); have k := blk_cell B.out; clear hcn) | (go_at_call 40; (with_reducible refine (A5.out _).mono ?_); rintro e wn ⟨rfl, hcn⟩; have C := Lib.hid (C.out.thenSame (Chg.ofBelow hcn)); have B := Lib.hid ((Chg.ofBelow (S := []) hcn).at (by simp) B.out); have k := blk_cell B.out; clear hcn) | (go_at_call 41; refine (A6.out _ C.out).mono ?_; rintro e wn ⟨rfl, hcn⟩; have C := Lib.hid (C.out.thenSame hcn); clear hcn))
        go_ret
        exact ⟨retI HF.out.symm, C.out⟩
      rw [if_neg h1] at hR
      by_cases h2 : 1073741824 < at_
      · have HF := Lib.hid (hR.trans (if_pos h2))
        clear hR
        go_enter Tryd.func26, Tryd.ntmps26
        go_wp2_with fail
        rw [← HW1.out]
        go_wp2_with (first | (go_at_call 40; (with_reducible refine (A1.out _).mono ?_); rintro e wn ⟨rfl, hcn⟩; have C := Lib.hid (C.out.thenSame (Chg.ofBelow hcn)); have B := Lib.hid ((Chg.ofBelow (S := []) hcn).at (by simp) B.out); have k := blk_cell B.out; clear hcn) | (go_at_call 40; (with_reducible refine (A2.out _).mono ?_); rintro e wn ⟨rfl, hcn⟩; have C := Lib.hid (C.out.thenSame (Chg.ofBelow hcn)); have B := Lib.hid ((Chg.ofBelow (S := []) hcn).at (by simp) B.out); have k := blk_cell B.out; clear hcn) | (go_at_call 40; (with_reducible refine (A3.out _).mono ?_); rintro e wn ⟨rfl, hcn⟩; have C := Lib.hid (C.out.thenSame (Chg.ofBelow hcn)); have B := Lib.hid ((Chg.ofBelow (S := []) hcn).at (by simp) B.out); have k := blk_cell B.out; clear hcn) | (go_at_call 40; (with_reducible refine (A4.out _).mono ?_); rintro e wn ⟨rfl, hcn⟩; have C := Lib.hid (C.out.thenSame (Chg.ofBelow hcn)); have B := Lib.hid ((Chg.ofBelow (S := []) hcn).at (by simp) B.out); have k := blk_cell B.out; clear hcn) | (go_at_call 40; (with_reducible refine (A5.out _).mono ?_); rintro e wn ⟨rfl, hcn⟩; have C := Lib.hid (C.out.thenSame (Chg.ofBelow hcn)); have B := Lib.hid ((Chg.ofBelow (S := []) hcn).at (by simp) B.out); have k := blk_cell B.out; clear hcn) | (go_at_call 41; refine (A6.out _ C.out).mono ?_; rintro e wn ⟨rfl, hcn⟩; have C := Lib.hid (C.out.thenSame hcn); clear hcn))
        go_ret
        exact ⟨retI HF.out.symm, C.out⟩
      have HF := Lib.hid (hR.trans (if_neg h2))
      clear hR
      go_enter Tryd.func26, Tryd.ntmps26
      go_wp2_with fail
      rw [← HW1.out]
      go_wp2_with (first | (go_at_call 40; (with_reducible refine (A1.out _).mono ?_); rintro e wn ⟨rfl, hcn⟩; have C := Lib.hid (C.out.thenSame (Chg.ofBelow hcn)); have B := Lib.hid ((Chg.ofBelow (S := []) hcn).at (by simp) B.out); have k := blk_cell B.out; clear hcn) | (go_at_call 40; (with_reducible refine (A2.out _).mono ?_); rintro e wn ⟨rfl, hcn⟩; have C := Lib.hid (C.out.thenSame (Chg.ofBelow hcn)); have B := Lib.hid ((Chg.ofBelow (S := []) hcn).at (by simp) B.out); have k := blk_cell B.out; clear hcn) | (go_at_call 40; (with_reducible refine (A3.out _).mono ?_); rintro e wn ⟨rfl, hcn⟩; have C := Lib.hid (C.out.thenSame (Chg.ofBelow hcn)); have B := Lib.hid ((Chg.ofBelow (S := []) hcn).at (by simp) B.out); have k := blk_cell B.out; clear hcn) | (go_at_call 40; (with_reducible refine (A4.out _).mono ?_); rintro e wn ⟨rfl, hcn⟩; have C := Lib.hid (C.out.thenSame (Chg.ofBelow hcn)); have B := Lib.hid ((Chg.ofBelow (S := []) hcn).at (by simp) B.out); have k := blk_cell B.out; clear hcn) | (go_at_call 40; (with_reducible refine (A5.out _).mono ?_); rintro e wn ⟨rfl, hcn⟩; have C := Lib.hid (C.out.thenSame (Chg.ofBelow hcn)); have B := Lib.hid ((Chg.ofBelow (S := []) hcn).at (by simp) B.out); have k := blk_cell B.out; clear hcn) | (go_at_call 41; refine (A6.out _ C.out).mono ?_; rintro e wn ⟨rfl, hcn⟩; have C := Lib.hid (C.out.thenSame hcn); clear hcn))
      go_ret
      exact ⟨retI HF.out.symm, C.out⟩
end Go.Proofs.YtmichbpfmachcaaDoor
