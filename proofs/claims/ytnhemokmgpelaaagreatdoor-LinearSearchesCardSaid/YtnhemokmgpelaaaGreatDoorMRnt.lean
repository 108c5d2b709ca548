/- Chapter 48, the reference: contracts: arguments, Null, Bool, Int, the check of an operation. Condition: the table of Itoa lies as the program lays it. Chapter 48, the reference: contract: the check of an operation. Condition: the table of Itoa lies as the program lays it. Chapter 48, the reference: contract: add. Condition: the table of Itoa lies as the program lays it. Chapter 48, the reference: contract: Do. Condition: the table of Itoa lies as the program lays it. Chapter 50, the reference: contract: the check of a history. Condition: the table of Itoa lies as the program lays it. -/
import Derived.Test.YtnhemokmgpelaaaGreatDoorLinF
import Derived.Test.YtnhemokmgpelaaaGreatDoorMRvF
import Derived.Test.YtnhemokmgpelaaaGreatDoorRId
import Derived.Test.YtnhemokmgpelaaaGreatDoorLinD
namespace Go.Proofs.YtnhemokmgpelaaaGreatDoor
set_option linter.unusedVariables false
set_option linter.unusedSimpArgs false
open Go.RowKit
def rariZ (k : Nat) : Int := if k = 0 then -1 else (ariN k : Nat)
theorem rargs_any (s : ByteArray) (w : World) : Calls Tryz.prog 54 #[.string s] w fun e w' => e = .returned (.int .i64 (rariZ (opN s))) ∧ w = w' := by
  rcases opN_cases s with ⟨rfl, e⟩ | ⟨rfl, e⟩ | ⟨rfl, e⟩ | ⟨rfl, e⟩ | ⟨⟨h1, h2, h3, h4⟩, e⟩
  · rw [e]
    unfold opRead
    go_enter Tryz.func54, Tryz.ntmps54
    go_wp2_with fail
    go_ret
    exact ⟨rfl, rfl⟩
  · rw [e]
    unfold opWrite
    go_enter Tryz.func54, Tryz.ntmps54
    go_wp2_with fail
    go_ret
    exact ⟨rfl, rfl⟩
  · rw [e]
    unfold opAdd
    go_enter Tryz.func54, Tryz.ntmps54
    go_wp2_with fail
    go_ret
    exact ⟨rfl, rfl⟩
  · rw [e]
    unfold opCas
    go_enter Tryz.func54, Tryz.ntmps54
    go_wp2_with fail
    go_ret
    exact ⟨rfl, rfl⟩
  · rw [e]
    have s1 : (s == opRead) = false := by simpa using h1
    have s2 : (s == opWrite) = false := by simpa using h2
    have s3 : (s == opAdd) = false := by simpa using h3
    have s4 : (s == opCas) = false := by simpa using h4
    have t1 : (s.toList == [114, 101, 97, 100]) = false := (show (s.toList == [114, 101, 97, 100]) = (s.toList == opRead.toList) from by rw [show opRead.toList = [114, 101, 97, 100] from by kernel_rfl]).trans ((beq_toListBytes s opRead).symm.trans s1)
    have t2 : (s.toList == [119, 114, 105, 116, 101]) = false := (show (s.toList == [119, 114, 105, 116, 101]) = (s.toList == opWrite.toList) from by rw [show opWrite.toList = [119, 114, 105, 116, 101] from by kernel_rfl]).trans ((beq_toListBytes s opWrite).symm.trans s2)
    have t3 : (s.toList == [97, 100, 100]) = false := (show (s.toList == [97, 100, 100]) = (s.toList == opAdd.toList) from by rw [show opAdd.toList = [97, 100, 100] from by kernel_rfl]).trans ((beq_toListBytes s opAdd).symm.trans s3)
    have t4 : (s.toList == [99, 97, 115]) = false := (show (s.toList == [99, 97, 115]) = (s.toList == opCas.toList) from by rw [show opCas.toList = [99, 97, 115] from by kernel_rfl]).trans ((beq_toListBytes s opCas).symm.trans s4)
    clear s1 s2 s3 s4
    clear h1 h2 h3 h4
    go_enter Tryz.func54, Tryz.ntmps54
    go_wp2_with fail
    go_ret
    exact ⟨rfl, rfl⟩
theorem rnull_fr (w : World) : Calls Tryz.prog 17 #[] w fun e w' => ∃ a c, e = .returned (.slice a 1 c) ∧ InIs ceC 4 w' a c [nullC] ∧ (∀ x, a = some x → w.heap.size ≤ x.block) ∧ Chg [] w w' := by
  go_enter Tryz.func17, Tryz.ntmps17
  go_wp2_with fail
  go_ret
  exact ⟨_, _, rfl, one_in (x := nullC) (heap_alloc_new _ _), fun x hx => by (cases hx; exact Nat.le_refl _), (Chg.refl _ _).alloc _⟩
theorem rnull_any (w : World) : Calls Tryz.prog 17 #[] w fun e w' => ∃ a c, e = .returned (.slice a 1 c) ∧ InIs ceC 4 w' a c [nullC] ∧ Chg [] w w' :=
  (rnull_fr w).mono fun _ _ ⟨a, c, h1, h2, _, h3⟩ => ⟨a, c, h1, h2, h3⟩
theorem rbool_fr (b : Bool) (w : World) : Calls Tryz.prog 37 #[.bool b] w fun e w' => ∃ a c, e = .returned (.slice a 1 c) ∧ InIs ceC 4 w' a c [boolC b] ∧ (∀ x, a = some x → w.heap.size ≤ x.block) ∧ Chg [] w w' := by
  cases b
  · go_enter Tryz.func37, Tryz.ntmps37
    go_wp2_with fail
    go_ret
    exact ⟨_, _, rfl, one_in (x := boolC false) (heap_alloc_new _ _), fun x hx => by (cases hx; exact Nat.le_refl _), (Chg.refl _ _).alloc _⟩
  · go_enter Tryz.func37, Tryz.ntmps37
    go_wp2_with fail
    go_ret
    exact ⟨_, _, rfl, one_in (x := boolC true) (heap_alloc_new _ _), fun x hx => by (cases hx; exact Nat.le_refl _), (Chg.refl _ _).alloc _⟩
/-- The cells of an integer's value. -/
theorem intG_good {n : Int} (h0 : (Lit.int .i64 n).wf = true) : ∀ x ∈ [intC n], x.good := fun x hx => by
  simp at hx
  subst hx
  exact ⟨(by decide : (Lit.int .i64 3).wf = true), h0, (show (⟨#[]⟩ : ByteArray).size ≤ maxLen from Nat.zero_le _), (by decide : (Lit.int .i64 0).wf = true)⟩
set_option maxRecDepth 100000 in
theorem rint_ok (n : Int) (h0 : (Lit.int .i64 n).wf = true) (hz : checkZ [intC n] = 0) (w : World) (ht : TabW w) : Calls Tryz.prog 55 #[.int .i64 n] w fun e w' => ∃ a c, e = .returned (.tuple #[.slice a 1 c, .int .i64 0]) ∧ InIs ceC 4 w' a c [intC n] ∧ (∀ x, a = some x → w.heap.size ≤ x.block) ∧ Chg [] w w' := by
  have N1 := Lib.hid (heap_alloc_new w (.cells #[.int .i64 3, .int .i64 n, .string ⟨#[]⟩, .int .i64 0] 74))
  have I1 := Lib.hid (one_in (x := intC n) N1.out)
  have K1 := Lib.hid ((Chg.refl [] w).alloc (.cells #[.int .i64 3, .int .i64 n, .string ⟨#[]⟩, .int .i64 0] 74))
  have V := Lib.hid (rcheck_any _ 1 [intC n] _ I1.out.1 (by simp) (intG_good h0) (ht.kept K1.out))
  have B : Hid (Calls Tryz.prog 72 #[.slice (some ⟨w.heap.size, 0, none⟩) 1 1] (w.alloc (.cells #[.int .i64 3, .int .i64 n, .string ⟨#[]⟩, .int .i64 0] 74)) (fun e w' => ∃ a c, e = .returned (.tuple #[.slice a 1 c, .int .i64 0]) ∧ InIs ceC 4 w' a c [intC n] ∧ (∀ x, a = some x → w.heap.size ≤ x.block) ∧ Chg [] w w')) := Lib.hid (by
    rw [hz] at V
    clear hz h0 ht
    go_enter Tryz.func72, Tryz.ntmps72
    go_wp2_with fail
    refine V.out.mono ?_; rintro e w2 ⟨rfl, hc⟩
    have C := Lib.hid (K1.out.thenSame hc)
    have I2 := Lib.hid (I1.out.kept hc)
    clear hc
    go_wp2_with fail
    go_ret2
    exact ⟨_, _, rfl, I2.out, fun x hx => by (cases hx; exact Nat.le_refl _), C.out⟩)
  clear V h0 ht hz
  go_enter Tryz.func55, Tryz.ntmps55
  go_wp2_with fail
  refine B.out.mono ?_; rintro e w2 ⟨a, c, rfl, hi, hfr, hc⟩
  have FR := Lib.hid hfr
  have C := Lib.hid hc
  have I := Lib.hid hi
  clear hi hc hfr
  go_wp2_with fail
  go_ret2
  exact ⟨a, c, rfl, I.out, FR.out, C.out⟩
set_option maxRecDepth 100000 in
theorem rint_bad (n : Int) (h0 : (Lit.int .i64 n).wf = true) (hz : checkZ [intC n] ≠ 0) (w : World) (ht : TabW w) : Calls Tryz.prog 55 #[.int .i64 n] w fun e w' => e = .returned (.tuple #[.slice none 0 0, .int .i64 (checkZ [intC n])]) ∧ Chg [] w w' := by
  have N1 := Lib.hid (heap_alloc_new w (.cells #[.int .i64 3, .int .i64 n, .string ⟨#[]⟩, .int .i64 0] 74))
  have I1 := Lib.hid (one_in (x := intC n) N1.out)
  have K1 := Lib.hid ((Chg.refl [] w).alloc (.cells #[.int .i64 3, .int .i64 n, .string ⟨#[]⟩, .int .i64 0] 74))
  have V := Lib.hid (rcheck_any _ 1 [intC n] _ I1.out.1 (by simp) (intG_good h0) (ht.kept K1.out))
  have hzb : (checkZ [intC n] != 0) = true := by simpa using hz
  generalize checkZ [intC n] = z at *
  have B : Hid (Calls Tryz.prog 72 #[.slice (some ⟨w.heap.size, 0, none⟩) 1 1] (w.alloc (.cells #[.int .i64 3, .int .i64 n, .string ⟨#[]⟩, .int .i64 0] 74)) (fun e w' => e = .returned (.tuple #[.slice none 0 0, .int .i64 z]) ∧ Chg [] w w')) := Lib.hid (by
    clear hz h0 ht
    go_enter Tryz.func72, Tryz.ntmps72
    go_wp2_with fail
    refine V.out.mono ?_; rintro e w2 ⟨rfl, hc⟩
    have C := Lib.hid (K1.out.thenSame hc)
    clear hc
    go_wp2_with fail
    go_ret2
    exact ⟨rfl, C.out⟩)
  clear V h0 ht hz hzb
  go_enter Tryz.func55, Tryz.ntmps55
  go_wp2_with fail
  refine B.out.mono ?_; rintro e w2 ⟨rfl, hc⟩
  have C := Lib.hid hc
  clear hc
  go_wp2_with fail
  go_ret2
  exact ⟨rfl, C.out⟩
end Go.Proofs.YtnhemokmgpelaaaGreatDoor
namespace Go.Proofs.YtnhemokmgpelaaaGreatDoor
set_option linter.unusedVariables false
set_option linter.unusedSimpArgs false
open Go.RowKit
set_option maxHeartbeats 4000000 in
set_option maxRecDepth 100000 in
theorem rechk_any (o : EOp) (w : World) (ha : ArgsIn w o.aa o.ac o.args) (hg : o.good) (ht : TabW w) :
    Calls Tryz.prog 34 #[.agg (eoC o).toArray] w fun e w' => e = .returned (.int .i64 (chkZ o.p)) ∧ Chg [] w w' := by
  obtain ⟨ent, id, op, aa, ac, args⟩ := o
  obtain ⟨R, hR⟩ : ∃ R, R = chkZ (EOp.p ⟨ent, id, op, aa, ac, args⟩) := ⟨_, rfl⟩
  rw [← hR]
  simp only [chkZ, EOp.p, List.length_map] at hR
  obtain ⟨g1, g2, g3, g4, g5⟩ := hg
  simp only at g1 g2 g3 g4 g5 ha
  have A0 := Lib.hid (fun w' => rargs_any op w')
  have A1 := Lib.hid (fun w' => RID_any ent w' g1)
  have A2 := Lib.hid (fun w' => RID_any id w' g2)
  have HA := Lib.hid ha
  have HG := Lib.hid g5
  have HT := Lib.hid ht
  simp only [eoC]
  obtain ⟨W1, hW1⟩ : ∃ W1, W1 = w.alloc (eoO ⟨ent, id, op, aa, ac, args⟩) := ⟨_, rfl⟩
  have C := Lib.hid (show Chg [] w W1 by rw [hW1]; exact (Chg.refl _ _).alloc _)
  have B := Lib.hid (show W1.heap[w.heap.size]? = some (eoO ⟨ent, id, op, aa, ac, args⟩) by rw [hW1]; exact heap_alloc_new _ _)
  unfold eoO at hW1 B
  have k := blk_cell B.out
  have HW1 := Lib.hid hW1
  clear hW1 g1 g2 g3 g5 ha ht
  generalize idB ent = q1 at *
  generalize idB id = q2 at *
  generalize hk : opN op = K at *
  clear hk
  by_cases hK : K = 0
  · have hN : rariZ K = -1 := by rw [hK]; rfl
    rw [hN] at A0
    clear hN
    cases q1
    · have HF := Lib.hid (hR.trans (if_pos rfl))
      clear hR
      go_enter Tryz.func34, Tryz.ntmps34
      go_upto_region 1 with fail
      rw [← HW1.out]
      go_wp2_with (first | (go_at_call 54; (with_reducible refine (A0.out _).mono ?_); rintro e wn ⟨rfl, rfl⟩) | (go_at_call 15; (with_reducible refine (A1.out _).mono ?_); rintro e wn ⟨rfl, rfl⟩) | (go_at_call 15; (with_reducible refine (A2.out _).mono ?_); rintro e wn ⟨rfl, rfl⟩))
      go_ret
      exact ⟨retI HF.out.symm, C.out⟩
    cases q2
    · have HF := Lib.hid (hR.trans (if_pos rfl))
      clear hR
      go_enter Tryz.func34, Tryz.ntmps34
      go_upto_region 1 with fail
      rw [← HW1.out]
      go_wp2_with (first | (go_at_call 54; (with_reducible refine (A0.out _).mono ?_); rintro e wn ⟨rfl, rfl⟩) | (go_at_call 15; (with_reducible refine (A1.out _).mono ?_); rintro e wn ⟨rfl, rfl⟩) | (go_at_call 15; (with_reducible refine (A2.out _).mono ?_); rintro e wn ⟨rfl, rfl⟩))
      go_ret
      exact ⟨retI HF.out.symm, C.out⟩
    rw [if_neg (by decide)] at hR
    have HF := Lib.hid (hR.trans (if_pos hK))
    clear hR
    go_enter Tryz.func34, Tryz.ntmps34
    go_upto_region 1 with fail
    rw [← HW1.out]
    go_wp2_with (first | (go_at_call 54; (with_reducible refine (A0.out _).mono ?_); rintro e wn ⟨rfl, rfl⟩) | (go_at_call 15; (with_reducible refine (A1.out _).mono ?_); rintro e wn ⟨rfl, rfl⟩) | (go_at_call 15; (with_reducible refine (A2.out _).mono ?_); rintro e wn ⟨rfl, rfl⟩))
    go_ret
    exact ⟨retI HF.out.symm, C.out⟩
  have hN : rariZ K = (ariN K : Nat) := by unfold rariZ; rw [if_neg hK]
  rw [hN] at A0
  clear hN
  obtain ⟨N, hN⟩ : ∃ N : Int, N = (ariN K : Nat) := ⟨_, rfl⟩
  rw [← hN] at A0
  have hN0 : ¬ N < 0 := by omega
  have hN0b : decide (N < 0) = false := decide_eq_false hN0
  cases q1
  · have HF := Lib.hid (hR.trans (if_pos rfl))
    clear hR
    go_enter Tryz.func34, Tryz.ntmps34
    go_upto_region 1 with fail
    rw [← HW1.out]
    go_wp2_with (first | (go_at_call 54; (with_reducible refine (A0.out _).mono ?_); rintro e wn ⟨rfl, rfl⟩) | (go_at_call 15; (with_reducible refine (A1.out _).mono ?_); rintro e wn ⟨rfl, rfl⟩) | (go_at_call 15; (with_reducible refine (A2.out _).mono ?_); rintro e wn ⟨rfl, rfl⟩))
    go_ret
    exact ⟨retI HF.out.symm, C.out⟩
  cases q2
  · have HF := Lib.hid (hR.trans (if_pos rfl))
    clear hR
    go_enter Tryz.func34, Tryz.ntmps34
    go_upto_region 1 with fail
    rw [← HW1.out]
    go_wp2_with (first | (go_at_call 54; (with_reducible refine (A0.out _).mono ?_); rintro e wn ⟨rfl, rfl⟩) | (go_at_call 15; (with_reducible refine (A1.out _).mono ?_); rintro e wn ⟨rfl, rfl⟩) | (go_at_call 15; (with_reducible refine (A2.out _).mono ?_); rintro e wn ⟨rfl, rfl⟩))
    go_ret
    exact ⟨retI HF.out.symm, C.out⟩
  rw [if_neg (by decide), if_neg hK] at hR
  by_cases hl : args.length = ariN K
  · rw [if_neg (by omega)] at hR
    have hlb : ((args.length : Int) == N) = true := beq_iff_eq.2 (by omega)
    have hlb2 : ((args.length : Int) != N) = false := by rw [bne, hlb]; rfl
    have HL := Lib.hid hl
    have HR := Lib.hid hR
    clear hl hR hK hN
    go_enter Tryz.func34, Tryz.ntmps34
    go_upto_region 1 with fail
    rw [← HW1.out]
    go_wp2_with (first | (go_at_call 54; (with_reducible refine (A0.out _).mono ?_); rintro e wn ⟨rfl, rfl⟩) | (go_at_call 15; (with_reducible refine (A1.out _).mono ?_); rintro e wn ⟨rfl, rfl⟩) | (go_at_call 15; (with_reducible refine (A2.out _).mono ?_); rintro e wn ⟨rfl, rfl⟩))
    go_loopw [4] (fun i wr => ∃ j : Nat, i = .int .i64 j ∧ j ≤ args.length ∧ Hid (∀ m, m < j → ∀ u, (args.map Rr.L)[m]? = some u → checkZ u = 0) ∧ Hid (Chg [] w wr) ∧ Hid (wr.heap[w.heap.size]? = some (.cells #[.string ent, .string id, .string op, .slice aa args.length ac] 36 (0, 0)))) (fun i _ => args.length - (intOf i).toNat)
    case atStart => exact ⟨0, rfl, Nat.zero_le _, Lib.hid (fun m hm => by omega), C, B⟩
    case round =>
      obtain ⟨j, rfl, hj, HJ, D, BR⟩ := hrel
      have k1 := blk_cell BR.out
      have hj0 : (0 : Int) ≤ (j : Int) := by omega
      by_cases hjl : j < args.length
      · obtain ⟨b1, o1, e1, -, hbr1, hcc1⟩ := HA.out.1.1.elem D.out j hjl
        subst e1
        have I1 := Lib.hid ((HA.out.2 _ (List.getElem_mem hjl)).kept D.out)
        have G1 := Lib.hid (HG.out _ (List.getElem_mem hjl))
        have HX := Lib.hid (show (args.map Rr.L)[j]? = some (args[j]).L by rw [List.getElem?_map, List.getElem?_eq_getElem hjl]; rfl)
        generalize args[j] = d at *
        obtain ⟨da, dc, dL⟩ := d
        have c0 := hcc1 0 (by omega)
        simp only [rrC, List.getElem?_cons_zero, Nat.add_zero, Nat.mul_one] at c0
        have V := Lib.hid (rcheck_any da dc dL wr I1.out.1 G1.out.1 G1.out.2 (HT.out.kept D.out))
        have hj1 : (j : Int) < (args.length : Int) := by omega
        have HY := Lib.hid (fun h => firstE_at HX.out HJ.out h)
        clear hcc1
        simp only at HX HY
        generalize hz : checkZ dL = z at *
        have HZ := Lib.hid hz
        clear hz
        by_cases hz0 : z = 0
        · subst hz0
          have HJ2 := Lib.hid (show ∀ m, m < j + 1 → ∀ u, (args.map Rr.L)[m]? = some u → checkZ u = 0 from fun m hm u hu => by
            by_cases hmj : m < j
            · exact HJ.out m hmj u hu
            · have : m = j := by omega
              subst this
              rw [HX.out] at hu
              cases hu
              exact HZ.out)
          go_wp2_with fail
          refine V.out.mono ?_; rintro e w2 ⟨rfl, hc2⟩
          have D2 := Lib.hid (D.out.thenSame hc2)
          have B2 := Lib.hid (hc2.at (by simp) BR.out)
          clear hc2
          go_wp2_with fail
          exact ⟨⟨j + 1, by go_num, by omega, HJ2, D2, B2⟩, by simp [intOf]; omega⟩
        · have hzb : (z != 0) = true := by simpa using hz0
          have HF := Lib.hid (HR.out.trans (HY.out hz0))
          clear hz0
          go_wp2_with fail
          refine V.out.mono ?_; rintro e w2 ⟨rfl, hc2⟩
          have D2 := Lib.hid (D.out.thenSame hc2)
          clear hc2
          go_wp2_with fail
          go_ret
          exact ⟨by rw [HF.out]; rfl, D2.out⟩
      · have hjs : j = args.length := by omega
        have HF := Lib.hid (show R = 0 by
          rw [HR.out]
          refine firstE_all (fun v hv => ?_)
          obtain ⟨m, hm, rfl⟩ := List.mem_iff_getElem.1 hv
          exact HJ.out m (by simpa [hjs] using hm) _ (List.getElem?_eq_getElem hm))
        clear hjs
        go_wp2_with fail
        go_ret
        exact ⟨by rw [HF.out]; rfl, D.out⟩
  · have hlb : ((args.length : Int) != N) = true := by rw [bne, beq_eq_false_iff_ne.2 (show (args.length : Int) ≠ N by omega)]; rfl
    have HF := Lib.hid (hR.trans (if_pos hl))
    clear hR
    go_enter Tryz.func34, Tryz.ntmps34
    go_upto_region 1 with fail
    rw [← HW1.out]
    go_wp2_with (first | (go_at_call 54; (with_reducible refine (A0.out _).mono ?_); rintro e wn ⟨rfl, rfl⟩) | (go_at_call 15; (with_reducible refine (A1.out _).mono ?_); rintro e wn ⟨rfl, rfl⟩) | (go_at_call 15; (with_reducible refine (A2.out _).mono ?_); rintro e wn ⟨rfl, rfl⟩))
    go_ret
    exact ⟨retI HF.out.symm, C.out⟩
end Go.Proofs.YtnhemokmgpelaaaGreatDoor
namespace Go.Proofs.YtnhemokmgpelaaaGreatDoor
set_option linter.unusedVariables false
set_option linter.unusedSimpArgs false
open Go.RowKit
/-- What is known of the first cell of a valid value. -/
theorem check_head {x : Ce} {r : List Ce} (h : checkZ (x :: r) = 0) : plainB x = true ∧ (x.kind = 3 → validB x.n = true) := by
  have hp : plainB x = true := by
    cases hp : plainB x with
    | true => rfl
    | false =>
      exfalso
      unfold checkZ at h
      rw [show lookS (x :: r) = (0, sh0, false) from look_fail (lookC_plain hp)] at h
      simp [checkQ] at h
  refine ⟨hp, fun hk => ?_⟩
  cases hv : validB x.n with
  | true => rfl
  | false =>
    exfalso
    have hcn : x.cn = 0 := by
      unfold plainB at hp
      rw [if_neg (by omega), if_neg (by omega), if_pos hk] at hp
      simp at hp
      exact hp.2
    have hd : lookS (x :: r) = (1, valSh x sh0 0, true) := by
      refine look_done ?_
      rw [lookC_val hp keyTop_nil]
      unfold valL
      rw [if_neg (by omega)]
      rfl
    unfold checkZ at h
    rw [hd] at h
    have ho : (valSh x sh0 0).outside = true := by
      unfold valSh
      simp [hk, hv]
    unfold checkQ at h
    simp only [Bool.true_eq_false, if_false] at h
    split at h <;> simp [ho] at h
theorem plain_null {n cn : Int} {str : ByteArray} (h : plainB ⟨1, n, str, cn⟩ = true) : n = 0 := by
  unfold plainB at h
  simp at h
  exact h.1.1
theorem check_int_bad {n : Int} (h : validB n = false) : checkZ [intC n] ≠ 0 := fun e => by
  have := (check_head e).2 rfl
  rw [show (intC n).n = n from rfl, h] at this
  simp at this
theorem calls_arg {f : Nat} {k : IntKind} {x y : Int} {w : World} {Q : Ending → World → Prop} (e : k.wrap x = y) (h : Calls Tryz.prog f #[.int k y] w Q) : Calls Tryz.prog f #[.int k (k.wrap x)] w Q := by rw [e]; exact h
def RStP (w : World) (sa : Option Addr) (r : List Ce × Int × List Ce) (e : Ending) (w' : World) : Prop :=
  ∃ na nc va vc, e = .returned (.tuple #[.slice na r.1.length nc, .agg #[.int .i64 r.2.1, .slice va r.2.2.length vc]]) ∧ InIs ceC 4 w' na nc r.1 ∧ InIs ceC 4 w' va vc r.2.2 ∧ (∀ x, na = some x ∨ va = some x → sa = some x ∨ w.heap.size ≤ x.block) ∧ Chg [] w w'
theorem rstP_end {w w1 : World} {b : Nat} {x y : Value} {r : List Ce × Int × List Ce} {sa na va : Option Addr} {nc vc : Nat} (hfr : ∀ x, na = some x ∨ va = some x → sa = some x ∨ w.heap.size ≤ x.block) (hb : w1.heap[b]? = some (.cells #[x, y] 38 (0, 0))) (hlt : w.heap.size ≤ b) (hc : Chg [] w w1)
    (hn : InIs ceC 4 w1 na nc r.1) (hv : InIs ceC 4 w1 va vc r.2.2) :
    RStP w sa r (.returned (.tuple #[.slice na r.1.length nc, .agg #[.int .i64 r.2.1, .slice va r.2.2.length vc]])) (ansW w1 b r.2.1 va r.2.2.length vc) := by
  have hz := (ans_two hb r.2.1 va r.2.2.length vc).2
  exact ⟨na, nc, va, vc, rfl, hn.keptAns hb hz, hv.keptAns hb hz, hfr, hc.then hz (by intro x hx hlt; simp at hx; omega)⟩
set_option maxHeartbeats 4000000 in
set_option maxRecDepth 100000 in
theorem radd_any (sa : Option Addr) (sc : Nat) (s : Ce) (r : List Ce) (da : Option Addr) (dc : Nat) (x : Ce) (rx : List Ce) (w : World) (h : InIs ceC 4 w sa sc (s :: r)) (hA : InIs ceC 4 w da dc (x :: rx)) (hcs : checkZ (s :: r) = 0) (hcx : checkZ (x :: rx) = 0) (ht : TabW w) :
    Calls Tryz.prog 35 #[.slice sa (s :: r).length sc, .slice da (x :: rx).length dc] w (RStP w sa (addF (s :: r) (x :: rx))) := by
  have C1 := Lib.hid ((Chg.refl [] w).alloc (.cells #[.int .i64 0, .slice none 0 0] 38))
  have B1 := Lib.hid (heap_alloc_new w (.cells #[.int .i64 0, .slice none 0 0] 38))
  obtain ⟨W1, hW1⟩ : ∃ W1, W1 = w.alloc (.cells #[.int .i64 0, .slice none 0 0] 38) := ⟨_, rfl⟩
  rw [← hW1] at C1 B1
  have H := Lib.hid h
  have HAA := Lib.hid hA
  have k := blk_cell B1.out
  have f := blk_free B1.out
  have HW1 := Lib.hid hW1
  have HT := Lib.hid ht
  obtain ⟨b1, o1, e1, -, hbr1, hcc1⟩ := H.out.1.elem C1.out 0 (by simp)
  obtain ⟨b3, o3, e3, -, hbr3, hcc3⟩ := HAA.out.1.elem C1.out 0 (by simp)
  subst e1
  subst e3
  have c0 := hcc1 0 (by omega)
  have c1 := hcc1 1 (by omega)
  have x0 := hcc3 0 (by omega)
  have x1 := hcc3 1 (by omega)
  simp only [ceC, List.getElem_cons_zero, List.getElem?_cons_zero, List.getElem?_cons_succ, Nat.add_zero, Nat.zero_mul, List.length_cons] at c0 c1 x0 x1
  have hs := check_head hcs
  have hx := check_head hcx
  have hr0 : (0 : Int) < ((r.length : Int) + 1) := by omega
  have hr1 : (0 : Int) < ((rx.length : Int) + 1) := by omega
  have hr2 : (r.length : Int) + 1 ≤ 9223372036854775807 := by have h1 := H.out.2.1; have h2 := H.out.2.2.1; unfold maxLen at h2; simp at h1; omega
  have hr3 : (rx.length : Int) + 1 ≤ 9223372036854775807 := by have h1 := HAA.out.2.1; have h2 := HAA.out.2.2.1; unfold maxLen at h2; simp at h1; omega
  obtain ⟨sk, sn, ss, sm⟩ := s
  obtain ⟨xk, xn, xs, xm⟩ := x
  simp only at c0 c1 x0 x1 hs hx
  simp only [List.length_cons] at *
  clear hcc1 hcc3 h hA hW1 ht hcs hcx
  by_cases hsk : sk = 3 ∨ sk = 1
  · by_cases hxk : xk = 3
    · subst hxk
      have hxv := validB_iff.1 (hx.2 rfl)
      have hsv : validB sn = true := by
        rcases hsk with rfl | rfl
        · exact hs.2 rfl
        · rw [plain_null hs.1]; decide
      have hsv' := validB_iff.1 hsv
      obtain ⟨v1, v2⟩ := hxv
      obtain ⟨u1, u2⟩ := hsv'
      have hw1 : sn + xn ≤ 9223372036854775807 := by omega
      have hw2 : -9223372036854775808 ≤ sn + xn := by omega
      have hwf : (Lit.int .i64 (sn + xn)).wf = true := by simp [Lit.wf, IntKind.min, IntKind.max, IntKind.bits, IntKind.signed]; omega
      have hwr : IntKind.i64.wrap (sn + xn) = sn + xn := by rw [IntKind.wrap_i64]; omega
      have HE : Hid (addF (⟨sk, sn, ss, sm⟩ :: r) (⟨3, xn, xs, xm⟩ :: rx) = if validB (sn + xn) = true then ([intC (sn + xn)], 0, [intC (sn + xn)]) else (⟨sk, sn, ss, sm⟩ :: r, 8, [])) := Lib.hid (by
        rw [addF_ok hsk rfl]
        have hk : (if sk = 3 then sn else 0) = sn := by
          rcases hsk with rfl | rfl
          · rfl
          · rw [plain_null hs.1]; rfl
        have ha : addZ sn xn = if validB (sn + xn) then (sn + xn, 0) else (0, 8) := by unfold addZ; exact if_pos ⟨hsv, hx.2 rfl⟩
        simp only [hk, ha]
        by_cases hv : validB (sn + xn) = true
        · rw [if_pos hv, if_pos hv]; rfl
        · rw [if_neg hv, if_neg hv]; rfl)
      have KP := Lib.hid (fun w' (hc : Chg [] w w') => show w'.cell? ⟨b1, o1 + 1, none⟩ = some (.int .i64 sn) ∧ w'.cell? ⟨b3, o3 + 1, none⟩ = some (.int .i64 xn) from by
        refine ⟨?_, ?_⟩
        · obtain ⟨b, o, e, -, -, hcc⟩ := H.out.1.elem hc 0 (by simp)
          cases e
          simpa [ceC] using hcc 1 (by omega)
        · obtain ⟨b, o, e, -, -, hcc⟩ := HAA.out.1.elem hc 0 (by simp)
          cases e
          simpa [ceC] using hcc 1 (by omega))
      clear hs hx hsv v1 v2 u1 u2
      rcases hsk with rfl | rfl
      · by_cases hv : validB (sn + xn) = true
        · have V := Lib.hid (fun w' (hc : Chg [] w w') => calls_arg hwr (rint_ok (sn + xn) hwf (check_int hv) w' (HT.out.kept hc)))
          rw [HE.out, if_pos hv]
          clear hv HE hwf hwr
          go_enter Tryz.func35, Tryz.ntmps35
          go_upto_region 1 with fail
          rw [← HW1.out]
          go_upto_region 3 with fail
          go_region_held3 (fun w' => w'.cell? ⟨b1, o1 + 1, none⟩ = some (.int .i64 sn) ∧ w'.cell? ⟨b3, o3 + 1, none⟩ = some (.int .i64 xn)) (with_reducible first | exact KP.out _ CC.out | exact KP.out _ C1.out | exact KP.out _ C1.out.drew)
            (first | ((with_reducible refine Calls.mono (V.out _ C1.out.drew) ?_); rintro e w2 ⟨na, nc, rfl, hi, hfr, hc⟩; have FR := Lib.hid hfr; have CC := Lib.hid (C1.out.drew.thenSame hc); have BB := Lib.hid (hc.at (by simp) (Chg.at ((Chg.refl [] _).drew) (by simp) B1.out)); have II := Lib.hid hi; have k := blk_cell BB.out; have f := blk_free BB.out; clear hi hc hfr))
          all_goals go_wp2_with fail
          all_goals
            have r1 := blk_cell (ans_two BB.out 0 na 1 nc).1
            unfold ansW at r1
            refine bodyPost_ret (v := .tuple #[.slice na 1 nc, .agg #[.int .i64 0, .slice na 1 nc]]) (by simp [results, Tryz.results35, go_sem, r1]) rfl ?_
            exact rstP_end (r := ([intC (sn + xn)], 0, [intC (sn + xn)])) (fun x hx => .inr (by rcases hx with hx | hx <;> exact Nat.le_trans C1.out.size (FR.out x hx))) BB.out (Nat.le_refl _) CC.out II.out II.out
        · have V := Lib.hid (fun w' (hc : Chg [] w w') => calls_arg hwr (rint_bad (sn + xn) hwf (check_int_bad (by simpa using hv)) w' (HT.out.kept hc)))
          have hzb : (checkZ [intC (sn + xn)] != 0) = true := by simpa using check_int_bad (n := sn + xn) (by simpa using hv)
          rw [HE.out, if_neg hv]
          generalize checkZ [intC (sn + xn)] = z at *
          clear hv HE hwf hwr
          go_enter Tryz.func35, Tryz.ntmps35
          go_upto_region 1 with fail
          rw [← HW1.out]
          go_upto_region 3 with fail
          go_region_held3 (fun w' => w'.cell? ⟨b1, o1 + 1, none⟩ = some (.int .i64 sn) ∧ w'.cell? ⟨b3, o3 + 1, none⟩ = some (.int .i64 xn)) (with_reducible first | exact KP.out _ CC.out | exact KP.out _ C1.out | exact KP.out _ C1.out.drew)
            (first | ((with_reducible refine Calls.mono (V.out _ C1.out.drew) ?_); rintro e w2 ⟨rfl, hc⟩; have CC := Lib.hid (C1.out.drew.thenSame hc); have BB := Lib.hid (hc.at (by simp) (Chg.at ((Chg.refl [] _).drew) (by simp) B1.out)); have k := blk_cell BB.out; have f := blk_free BB.out; clear hc))
          all_goals go_wp2_with fail
          all_goals
            have r1 := blk_cell (ans_two BB.out 8 none 0 0).1
            unfold ansW at r1
            refine bodyPost_ret (v := .tuple #[.slice (some ⟨b1, o1, none⟩) (r.length + 1) sc, .agg #[.int .i64 8, .slice none 0 0]]) (by simp [results, Tryz.results35, go_sem, r1]) rfl ?_
            exact rstP_end (r := (_ :: r, 8, [])) (fun x hx => by rcases hx with hx | hx; exact .inl hx; cases hx) BB.out (Nat.le_refl _) CC.out (H.out.kept CC.out) InIs.nil
      · by_cases hv : validB (sn + xn) = true
        · have V := Lib.hid (fun w' (hc : Chg [] w w') => calls_arg hwr (rint_ok (sn + xn) hwf (check_int hv) w' (HT.out.kept hc)))
          rw [HE.out, if_pos hv]
          clear hv HE hwf hwr
          go_enter Tryz.func35, Tryz.ntmps35
          go_upto_region 1 with fail
          rw [← HW1.out]
          go_upto_region 3 with fail
          go_region_held3 (fun w' => w'.cell? ⟨b1, o1 + 1, none⟩ = some (.int .i64 sn) ∧ w'.cell? ⟨b3, o3 + 1, none⟩ = some (.int .i64 xn)) (with_reducible first | exact KP.out _ CC.out | exact KP.out _ C1.out | exact KP.out _ C1.out.drew)
            (first | ((with_reducible refine Calls.mono (V.out _ C1.out.drew) ?_); rintro e w2 ⟨na, nc, rfl, hi, hfr, hc⟩; have FR := Lib.hid hfr; have CC := Lib.hid (C1.out.drew.thenSame hc); have BB := Lib.hid (hc.at (by simp) (Chg.at ((Chg.refl [] _).drew) (by simp) B1.out)); have II := Lib.hid hi; have k := blk_cell BB.out; have f := blk_free BB.out; clear hi hc hfr))
          all_goals go_wp2_with fail
          all_goals
            have r1 := blk_cell (ans_two BB.out 0 na 1 nc).1
            unfold ansW at r1
            refine bodyPost_ret (v := .tuple #[.slice na 1 nc, .agg #[.int .i64 0, .slice na 1 nc]]) (by simp [results, Tryz.results35, go_sem, r1]) rfl ?_
            exact rstP_end (r := ([intC (sn + xn)], 0, [intC (sn + xn)])) (fun x hx => .inr (by rcases hx with hx | hx <;> exact Nat.le_trans C1.out.size (FR.out x hx))) BB.out (Nat.le_refl _) CC.out II.out II.out
        · have V := Lib.hid (fun w' (hc : Chg [] w w') => calls_arg hwr (rint_bad (sn + xn) hwf (check_int_bad (by simpa using hv)) w' (HT.out.kept hc)))
          have hzb : (checkZ [intC (sn + xn)] != 0) = true := by simpa using check_int_bad (n := sn + xn) (by simpa using hv)
          rw [HE.out, if_neg hv]
          generalize checkZ [intC (sn + xn)] = z at *
          clear hv HE hwf hwr
          go_enter Tryz.func35, Tryz.ntmps35
          go_upto_region 1 with fail
          rw [← HW1.out]
          go_upto_region 3 with fail
          go_region_held3 (fun w' => w'.cell? ⟨b1, o1 + 1, none⟩ = some (.int .i64 sn) ∧ w'.cell? ⟨b3, o3 + 1, none⟩ = some (.int .i64 xn)) (with_reducible first | exact KP.out _ CC.out | exact KP.out _ C1.out | exact KP.out _ C1.out.drew)
            (first | ((with_reducible refine Calls.mono (V.out _ C1.out.drew) ?_); rintro e w2 ⟨rfl, hc⟩; have CC := Lib.hid (C1.out.drew.thenSame hc); have BB := Lib.hid (hc.at (by simp) (Chg.at ((Chg.refl [] _).drew) (by simp) B1.out)); have k := blk_cell BB.out; have f := blk_free BB.out; clear hc))
          all_goals go_wp2_with fail
          all_goals
            have r1 := blk_cell (ans_two BB.out 8 none 0 0).1
            unfold ansW at r1
            refine bodyPost_ret (v := .tuple #[.slice (some ⟨b1, o1, none⟩) (r.length + 1) sc, .agg #[.int .i64 8, .slice none 0 0]]) (by simp [results, Tryz.results35, go_sem, r1]) rfl ?_
            exact rstP_end (r := (_ :: r, 8, [])) (fun x hx => by rcases hx with hx | hx; exact .inl hx; cases hx) BB.out (Nat.le_refl _) CC.out (H.out.kept CC.out) InIs.nil
    · have HE := Lib.hid (addF_bad (s := ⟨sk, sn, ss, sm⟩) (x := ⟨xk, xn, xs, xm⟩) (r := r) (rx := rx) (.inr hxk))
      have hxb : (xk != 3) = true := by simpa using hxk
      rw [HE.out]
      clear hs hx hxk
      rcases hsk with rfl | rfl
      · go_enter Tryz.func35, Tryz.ntmps35
        go_upto_region 1 with fail
        rw [← HW1.out]
        go_wp2_with fail
        have r1 := blk_cell (ans_two B1.out 7 none 0 0).1
        unfold ansW at r1
        refine bodyPost_ret (v := .tuple #[.slice (some ⟨b1, o1, none⟩) (r.length + 1) sc, .agg #[.int .i64 7, .slice none 0 0]]) (by simp [results, Tryz.results35, go_sem, r1]) rfl ?_
        exact rstP_end (r := (_ :: r, 7, [])) (fun x hx => by rcases hx with hx | hx; exact .inl hx; cases hx) B1.out (Nat.le_refl _) C1.out (H.out.kept C1.out) InIs.nil
      · go_enter Tryz.func35, Tryz.ntmps35
        go_upto_region 1 with fail
        rw [← HW1.out]
        go_wp2_with fail
        have r1 := blk_cell (ans_two B1.out 7 none 0 0).1
        unfold ansW at r1
        refine bodyPost_ret (v := .tuple #[.slice (some ⟨b1, o1, none⟩) (r.length + 1) sc, .agg #[.int .i64 7, .slice none 0 0]]) (by simp [results, Tryz.results35, go_sem, r1]) rfl ?_
        exact rstP_end (r := (_ :: r, 7, [])) (fun x hx => by rcases hx with hx | hx; exact .inl hx; cases hx) B1.out (Nat.le_refl _) C1.out (H.out.kept C1.out) InIs.nil
  · have HE := Lib.hid (addF_bad (s := ⟨sk, sn, ss, sm⟩) (x := ⟨xk, xn, xs, xm⟩) (r := r) (rx := rx) (.inl ⟨fun e => hsk (.inl e), fun e => hsk (.inr e)⟩))
    have h1b : (sk != 1) = true := by simpa using fun e => hsk (.inr e)
    have h3b : (sk != 3) = true := by simpa using fun e => hsk (.inl e)
    rw [HE.out]
    clear hs hx hsk
    go_enter Tryz.func35, Tryz.ntmps35
    go_upto_region 1 with fail
    rw [← HW1.out]
    go_wp2_with fail
    have r1 := blk_cell (ans_two B1.out 7 none 0 0).1
    unfold ansW at r1
    refine bodyPost_ret (v := .tuple #[.slice (some ⟨b1, o1, none⟩) (r.length + 1) sc, .agg #[.int .i64 7, .slice none 0 0]]) (by simp [results, Tryz.results35, go_sem, r1]) rfl ?_
    exact rstP_end (r := (_ :: r, 7, [])) (fun x hx => by rcases hx with hx | hx; exact .inl hx; cases hx) B1.out (Nat.le_refl _) C1.out (H.out.kept C1.out) InIs.nil
end Go.Proofs.YtnhemokmgpelaaaGreatDoor
namespace Go.Proofs.YtnhemokmgpelaaaGreatDoor
set_option linter.unusedVariables false
set_option linter.unusedSimpArgs false
open Go.RowKit
def RDoP (w : World) (r : Int × List Ce × Int × List Ce) (e : Ending) (w' : World) : Prop :=
  ∃ na nc va vc, e = .returned (.tuple #[.slice na r.2.1.length nc, .agg #[.int .i64 r.2.2.1, .slice va r.2.2.2.length vc], .int .i64 r.1]) ∧ InIs ceC 4 w' na nc r.2.1 ∧ InIs ceC 4 w' va vc r.2.2.2 ∧ Chg [] w w'
/-- The same, with where the results lie: at F, or in new blocks. -/
def RDoO (w : World) (F : List (Option Addr)) (r : Int × List Ce × Int × List Ce) (e : Ending) (w' : World) : Prop :=
  ∃ na nc va vc, e = .returned (.tuple #[.slice na r.2.1.length nc, .agg #[.int .i64 r.2.2.1, .slice va r.2.2.2.length vc], .int .i64 r.1]) ∧ InIs ceC 4 w' na nc r.2.1 ∧ InIs ceC 4 w' va vc r.2.2.2 ∧ (∀ x, na = some x ∨ va = some x → some x ∈ F ∨ w.heap.size ≤ x.block) ∧ Chg [] w w'
theorem RDoO.p {w w' : World} {F : List (Option Addr)} {r : Int × List Ce × Int × List Ce} {e : Ending} (h : RDoO w F r e w') : RDoP w r e w' := by
  obtain ⟨na, nc, va, vc, h1, h2, h3, _, h4⟩ := h
  exact ⟨na, nc, va, vc, h1, h2, h3, h4⟩
theorem RDoO.drew {w w1 : World} {F : List (Option Addr)} {r : Int × List Ce × Int × List Ce} {e : Ending} (h : RDoO w F r e w1) : RDoO w F r e w1.drew := by
  obtain ⟨na, nc, va, vc, h1, h2, h3, h5, h4⟩ := h
  exact ⟨na, nc, va, vc, h1, h2.kept ((Chg.refl _ _).drew), h3.kept ((Chg.refl _ _).drew), h5, h4.drew⟩
theorem rdoO_end {w w1 : World} {F : List (Option Addr)} {b : Nat} {x y : Value} {r : Int × List Ce × Int × List Ce} {na va : Option Addr} {nc vc : Nat} (hfr : ∀ x, na = some x ∨ va = some x → some x ∈ F ∨ w.heap.size ≤ x.block) (hb : w1.heap[b]? = some (.cells #[x, y] 38 (0, 0))) (hlt : w.heap.size ≤ b) (hc : Chg [] w w1)
    (hn : InIs ceC 4 w1 na nc r.2.1) (hv : InIs ceC 4 w1 va vc r.2.2.2) :
    RDoO w F r (.returned (.tuple #[.slice na r.2.1.length nc, .agg #[.int .i64 r.2.2.1, .slice va r.2.2.2.length vc], .int .i64 r.1])) (ansW w1 b r.2.2.1 va r.2.2.2.length vc) := by
  have hz := (ans_two hb r.2.2.1 va r.2.2.2.length vc).2
  exact ⟨na, nc, va, vc, rfl, hn.keptAns hb hz, hv.keptAns hb hz, hfr, hc.then hz (by intro x hx hlt; simp at hx; omega)⟩
theorem rdoP_end {w w1 : World} {b : Nat} {x y : Value} {r : Int × List Ce × Int × List Ce} {na va : Option Addr} {nc vc : Nat} (hb : w1.heap[b]? = some (.cells #[x, y] 38 (0, 0))) (hlt : w.heap.size ≤ b) (hc : Chg [] w w1)
    (hn : InIs ceC 4 w1 na nc r.2.1) (hv : InIs ceC 4 w1 va vc r.2.2.2) :
    RDoP w r (.returned (.tuple #[.slice na r.2.1.length nc, .agg #[.int .i64 r.2.2.1, .slice va r.2.2.2.length vc], .int .i64 r.1])) (ansW w1 b r.2.2.1 va r.2.2.2.length vc) := by
  have hz := (ans_two hb r.2.2.1 va r.2.2.2.length vc).2
  exact ⟨na, nc, va, vc, rfl, hn.keptAns hb hz, hv.keptAns hb hz, hc.then hz (by intro x hx hlt; simp at hx; omega)⟩
theorem RDoP.drew {w w1 : World} {r : Int × List Ce × Int × List Ce} {e : Ending} (h : RDoP w r e w1) : RDoP w r e w1.drew := by
  obtain ⟨na, nc, va, vc, h1, h2, h3, h4⟩ := h
  exact ⟨na, nc, va, vc, h1, h2.kept ((Chg.refl _ _).drew), h3.kept ((Chg.refl _ _).drew), h4.drew⟩
set_option maxHeartbeats 4000000 in
set_option maxRecDepth 100000 in
theorem rdo_errO (F : List (Option Addr)) (sa : Option Addr) (sc : Nat) (st : List Ce) (o : EOp) (w : World) (h : InIs ceC 4 w sa sc st) (hg : goodL st) (ha : ArgsIn w o.aa o.ac o.args) (hog : o.good) (ht : TabW w) (hz : chkZ o.p ≠ 0 ∨ checkZ st ≠ 0) :
    Calls Tryz.prog 16 #[.slice sa st.length sc, .agg (eoC o).toArray] w (RDoO w F (doZ st o.p)) := by
  have A := Lib.hid (fun w' (hc : Chg [] w w') => rechk_any o w' (ha.kept hc) hog (ht.kept hc))
  have A2 := Lib.hid (fun w' (hc : Chg [] w w') => rcheck_any sa sc st w' (h.1.kept hc) hg.1 hg.2 (ht.kept hc))
  by_cases h1 : chkZ o.p = 0
  · have h2 : checkZ st ≠ 0 := hz.resolve_left (by simp [h1])
    have HZ : Hid (doZ st o.p = (checkZ st, [], 0, [])) := Lib.hid (by unfold doZ; rw [if_neg (by simp [h1]), if_pos h2])
    rw [HZ.out]
    rw [h1] at A
    have h2b : (checkZ st != 0) = true := by simpa using h2
    obtain ⟨ent, id, op, aa, ac, args⟩ := o
    simp only [eoC]
    clear hz ha hog ht hg h1 h2 h HZ
    generalize checkZ st = z at *
    have C1 := Lib.hid (((Chg.refl [] w).alloc (eoO ⟨ent, id, op, aa, ac, args⟩)).alloc (.cells #[.int .i64 0, .slice none 0 0] 38))
    have B1 := Lib.hid (blk_alloc (o' := .cells #[.int .i64 0, .slice none 0 0] 38) (heap_alloc_new w (eoO ⟨ent, id, op, aa, ac, args⟩)))
    have B5 := Lib.hid (heap_alloc_new (w.alloc (eoO ⟨ent, id, op, aa, ac, args⟩)) (.cells #[.int .i64 0, .slice none 0 0] 38))
    rw [World.size_alloc] at B5
    obtain ⟨W1, hW1⟩ : ∃ W1, W1 = (w.alloc (eoO ⟨ent, id, op, aa, ac, args⟩)).alloc (.cells #[.int .i64 0, .slice none 0 0] 38) := ⟨_, rfl⟩
    have hs : W1.heap.size = w.heap.size + 2 := by rw [hW1, World.size_alloc, World.size_alloc]
    rw [← hW1] at C1 B1 B5
    unfold eoO at hW1 B1
    have k := blk_cell B1.out
    have HS := Lib.hid hs
    have HW1 := Lib.hid hW1
    clear hW1 hs
    go_enter Tryz.func16, Tryz.ntmps16
    go_upto_region 1 with fail
    rw [← HW1.out]
    go_wp2_with fail
    refine (A.out _ C1.out).mono ?_; rintro e w2 ⟨rfl, hc⟩
    have C2 := Lib.hid (C1.out.thenSame hc)
    have E5 := Lib.hid (hc.at (by simp) B5.out)
    clear hc k
    go_wp2_with fail
    refine (A2.out _ C2.out).mono ?_; rintro e w3 ⟨rfl, hc⟩
    have C3 := Lib.hid (C2.out.thenSame hc)
    have F5 := Lib.hid (hc.at (by simp) E5.out)
    have k5 := blk_cell F5.out
    have f5 := blk_free F5.out
    clear hc
    go_wp2_with fail
    have r1 := blk_cell (ans_two F5.out 0 none 0 0).1
    unfold ansW at r1
    refine bodyPost_ret (v := .tuple #[.slice none 0 0, .agg #[.int .i64 0, .slice none 0 0], .int .i64 z]) (by simp [results, Tryz.results16, go_sem, r1]) rfl ?_
    exact rdoO_end (r := (z, [], 0, [])) (fun x hx => by rcases hx with hx | hx <;> cases hx) F5.out (by omega) C3.out InIs.nil InIs.nil
  · have HZ : Hid (doZ st o.p = (chkZ o.p, [], 0, [])) := Lib.hid (by unfold doZ; rw [if_pos h1])
    rw [HZ.out]
    have h2b : (chkZ o.p != 0) = true := by simpa using h1
    have h2c : (chkZ o.p == 0) = false := by simpa using h1
    obtain ⟨ent, id, op, aa, ac, args⟩ := o
    simp only [eoC]
    clear hz ha hog ht hg h1 h HZ A2
    generalize chkZ (EOp.p ⟨ent, id, op, aa, ac, args⟩) = z at *
    have C1 := Lib.hid (((Chg.refl [] w).alloc (eoO ⟨ent, id, op, aa, ac, args⟩)).alloc (.cells #[.int .i64 0, .slice none 0 0] 38))
    have B1 := Lib.hid (blk_alloc (o' := .cells #[.int .i64 0, .slice none 0 0] 38) (heap_alloc_new w (eoO ⟨ent, id, op, aa, ac, args⟩)))
    have B5 := Lib.hid (heap_alloc_new (w.alloc (eoO ⟨ent, id, op, aa, ac, args⟩)) (.cells #[.int .i64 0, .slice none 0 0] 38))
    rw [World.size_alloc] at B5
    obtain ⟨W1, hW1⟩ : ∃ W1, W1 = (w.alloc (eoO ⟨ent, id, op, aa, ac, args⟩)).alloc (.cells #[.int .i64 0, .slice none 0 0] 38) := ⟨_, rfl⟩
    have hs : W1.heap.size = w.heap.size + 2 := by rw [hW1, World.size_alloc, World.size_alloc]
    rw [← hW1] at C1 B1 B5
    unfold eoO at hW1 B1
    have k := blk_cell B1.out
    have HS := Lib.hid hs
    have HW1 := Lib.hid hW1
    clear hW1 hs
    go_enter Tryz.func16, Tryz.ntmps16
    go_upto_region 1 with fail
    rw [← HW1.out]
    go_wp2_with fail
    refine (A.out _ C1.out).mono ?_; rintro e w2 ⟨rfl, hc⟩
    have C2 := Lib.hid (C1.out.thenSame hc)
    have E5 := Lib.hid (hc.at (by simp) B5.out)
    have k5 := blk_cell E5.out
    have f5 := blk_free E5.out
    clear hc k
    go_wp2_with fail
    have r1 := blk_cell (ans_two E5.out 0 none 0 0).1
    unfold ansW at r1
    refine bodyPost_ret (v := .tuple #[.slice none 0 0, .agg #[.int .i64 0, .slice none 0 0], .int .i64 z]) (by simp [results, Tryz.results16, go_sem, r1]) rfl ?_
    exact rdoO_end (r := (z, [], 0, [])) (fun x hx => by rcases hx with hx | hx <;> cases hx) E5.out (by omega) C2.out InIs.nil InIs.nil
set_option maxHeartbeats 4000000 in
set_option maxRecDepth 100000 in
theorem rdo_1 (sa : Option Addr) (sc : Nat) (st : List Ce) (ent id : ByteArray) (aa : Option Addr) (ac : Nat) (args : List (Rr Ce)) (w : World) (h : InIs ceC 4 w sa sc st) (hg : goodL st) (ha : ArgsIn w aa ac args) (hog : EOp.good ⟨ent, id, opRead, aa, ac, args⟩) (ht : TabW w) (h1 : chkZ (EOp.p ⟨ent, id, opRead, aa, ac, args⟩) = 0) (h2 : checkZ st = 0) :
    Calls Tryz.prog 16 #[.slice sa st.length sc, .agg (eoC ⟨ent, id, opRead, aa, ac, args⟩).toArray] w (RDoO w (sa :: args.map Rr.a) (0, st, 0, st)) := by
  have A := Lib.hid (fun w' (hc : Chg [] w w') => rechk_any ⟨ent, id, opRead, aa, ac, args⟩ w' (ha.kept hc) hog (ht.kept hc))
  have A2 := Lib.hid (fun w' (hc : Chg [] w w') => rcheck_any sa sc st w' (h.1.kept hc) hg.1 hg.2 (ht.kept hc))
  rw [h1] at A
  rw [h2] at A2
  have H := Lib.hid h
  have HA := Lib.hid ha
  have HT := Lib.hid ht
  simp only [eoC]
  unfold opRead
  obtain ⟨W1, hW1⟩ : ∃ W1, W1 = (w.alloc (eoO ⟨ent, id, opRead, aa, ac, args⟩)).alloc (.cells #[.int .i64 0, .slice none 0 0] 38) := ⟨_, rfl⟩
  have C1 := Lib.hid (show Chg [] w W1 by rw [hW1]; exact ((Chg.refl [] w).alloc (eoO ⟨ent, id, opRead, aa, ac, args⟩)).alloc (.cells #[.int .i64 0, .slice none 0 0] 38))
  have B1 := Lib.hid (show W1.heap[w.heap.size]? = some (eoO ⟨ent, id, opRead, aa, ac, args⟩) by rw [hW1]; exact blk_alloc (heap_alloc_new w _))
  have B5 := Lib.hid (show W1.heap[w.heap.size + 1]? = some (.cells #[.int .i64 0, .slice none 0 0] 38) by have := heap_alloc_new (w.alloc (eoO ⟨ent, id, opRead, aa, ac, args⟩)) (.cells #[.int .i64 0, .slice none 0 0] 38); rw [World.size_alloc] at this; rw [hW1]; exact this)
  unfold eoO opRead at hW1 B1
  (try simp only [List.length_cons, List.length_nil, Nat.zero_add, Nat.reduceAdd] at hW1 B1)
  have k := blk_cell B1.out
  have HW1 := Lib.hid hW1
  clear hW1 ha hog ht hg h1 h2 h
  go_enter Tryz.func16, Tryz.ntmps16
  go_upto_region 1 with fail
  rw [← HW1.out]
  go_wp2_with fail
  refine (A.out _ C1.out).mono ?_; rintro e w2 ⟨rfl, hc⟩
  have C2 := Lib.hid (C1.out.thenSame hc)
  have E1 := Lib.hid (hc.at (by simp) B1.out)
  have E5 := Lib.hid (hc.at (by simp) B5.out)
  clear hc k
  go_wp2_with fail
  refine (A2.out _ C2.out).mono ?_; rintro e w3 ⟨rfl, hc⟩
  have C3 := Lib.hid (C2.out.thenSame hc)
  have F1 := Lib.hid (hc.at (by simp) E1.out)
  have F5 := Lib.hid (hc.at (by simp) E5.out)
  have k := blk_cell F1.out
  have k5 := blk_cell F5.out
  have f5 := blk_free F5.out
  clear hc
  go_wp2_with fail
  have r1 := blk_cell (ans_two F5.out 0 sa st.length sc).1
  unfold ansW at r1
  refine bodyPost_ret (v := .tuple #[.slice sa st.length sc, .agg #[.int .i64 0, .slice sa st.length sc], .int .i64 0]) (by simp [results, Tryz.results16, go_sem, r1]) rfl ?_
  exact rdoO_end (r := (0, st, 0, st)) (fun x hx => .inl (by rcases hx with hx | hx <;> rw [← hx] <;> simp)) F5.out (by omega) C3.out (H.out.kept C3.out) (H.out.kept C3.out)
set_option maxHeartbeats 4000000 in
set_option maxRecDepth 100000 in
theorem rdo_2 (sa : Option Addr) (sc : Nat) (st : List Ce) (ent id : ByteArray) (aa : Option Addr) (ac : Nat) (d : Rr Ce) (w : World) (h : InIs ceC 4 w sa sc st) (hg : goodL st) (ha : ArgsIn w aa ac [d]) (hog : EOp.good ⟨ent, id, opWrite, aa, ac, [d]⟩) (ht : TabW w) (h1 : chkZ (EOp.p ⟨ent, id, opWrite, aa, ac, [d]⟩) = 0) (h2 : checkZ st = 0) :
    Calls Tryz.prog 16 #[.slice sa st.length sc, .agg (eoC ⟨ent, id, opWrite, aa, ac, [d]⟩).toArray] w (RDoO w (sa :: [d].map Rr.a) (0, d.L, 0, [nullC])) := by
  have A := Lib.hid (fun w' (hc : Chg [] w w') => rechk_any ⟨ent, id, opWrite, aa, ac, [d]⟩ w' (ha.kept hc) hog (ht.kept hc))
  have A2 := Lib.hid (fun w' (hc : Chg [] w w') => rcheck_any sa sc st w' (h.1.kept hc) hg.1 hg.2 (ht.kept hc))
  rw [h1] at A
  rw [h2] at A2
  have H := Lib.hid h
  have HA := Lib.hid ha
  have HT := Lib.hid ht
  simp only [eoC]
  unfold opWrite
  obtain ⟨W1, hW1⟩ : ∃ W1, W1 = (w.alloc (eoO ⟨ent, id, opWrite, aa, ac, [d]⟩)).alloc (.cells #[.int .i64 0, .slice none 0 0] 38) := ⟨_, rfl⟩
  have C1 := Lib.hid (show Chg [] w W1 by rw [hW1]; exact ((Chg.refl [] w).alloc (eoO ⟨ent, id, opWrite, aa, ac, [d]⟩)).alloc (.cells #[.int .i64 0, .slice none 0 0] 38))
  have B1 := Lib.hid (show W1.heap[w.heap.size]? = some (eoO ⟨ent, id, opWrite, aa, ac, [d]⟩) by rw [hW1]; exact blk_alloc (heap_alloc_new w _))
  have B5 := Lib.hid (show W1.heap[w.heap.size + 1]? = some (.cells #[.int .i64 0, .slice none 0 0] 38) by have := heap_alloc_new (w.alloc (eoO ⟨ent, id, opWrite, aa, ac, [d]⟩)) (.cells #[.int .i64 0, .slice none 0 0] 38); rw [World.size_alloc] at this; rw [hW1]; exact this)
  unfold eoO opWrite at hW1 B1
  (try simp only [List.length_cons, List.length_nil, Nat.zero_add, Nat.reduceAdd] at hW1 B1)
  have k := blk_cell B1.out
  have HW1 := Lib.hid hW1
  clear hW1 ha hog ht hg h1 h2 h
  go_enter Tryz.func16, Tryz.ntmps16
  go_upto_region 1 with fail
  rw [← HW1.out]
  go_wp2_with fail
  refine (A.out _ C1.out).mono ?_; rintro e w2 ⟨rfl, hc⟩
  have C2 := Lib.hid (C1.out.thenSame hc)
  have E1 := Lib.hid (hc.at (by simp) B1.out)
  have E5 := Lib.hid (hc.at (by simp) B5.out)
  clear hc k
  go_wp2_with fail
  refine (A2.out _ C2.out).mono ?_; rintro e w3 ⟨rfl, hc⟩
  have C3 := Lib.hid (C2.out.thenSame hc)
  have F1 := Lib.hid (hc.at (by simp) E1.out)
  have F5 := Lib.hid (hc.at (by simp) E5.out)
  have k := blk_cell F1.out
  have k5 := blk_cell F5.out
  have f5 := blk_free F5.out
  clear hc
  obtain ⟨b2, o2, e2, -, hbr2, hcc2⟩ := HA.out.1.1.elem C3.out 0 (by simp)
  subst e2
  have x0 := hcc2 0 (by omega)
  simp only [rrC, List.getElem_cons_zero, List.getElem?_cons_zero, Nat.add_zero, Nat.zero_mul] at x0
  have KP := Lib.hid (fun w' (hc : Chg [w.heap.size + 1] w3 w') => show w'.cell? ⟨w.heap.size, 3, none⟩ = some (.slice (some ⟨b2, o2, none⟩) 1 ac) ∧ w'.cell? ⟨b2, o2, none⟩ = some (.slice d.a d.L.length d.c) from by
    refine ⟨blk_cell (hc.at (by simp) F1.out) 3, ?_⟩
    obtain ⟨b, o, e, -, -, hcc⟩ := HA.out.1.1.elem (C3.out.then hc (by intro x hx hlt; simp at hx; omega)) 0 (by simp)
    cases e
    simpa [rrC] using hcc 0 (by omega))
  have HD := Lib.hid (HA.out.2 d (by simp))
  obtain ⟨da, dc, dL⟩ := d
  simp only at x0 KP HD
  clear hcc2
  go_upto_region 8 with fail
  go_region_held3 (fun w' => w'.cell? ⟨w.heap.size, 3, none⟩ = some (.slice (some ⟨b2, o2, none⟩) 1 ac) ∧ w'.cell? ⟨b2, o2, none⟩ = some (.slice da dL.length dc)) (with_reducible first | exact KP.out _ (CC.out.mono (by simp)) | exact KP.out _ (Chg.refl _ _).drew | exact KP.out _ (Chg.refl _ _) | exact KP.out _ (((CC.out.mono (by simp)).setCell _ _ (by simp)).setCell _ _ (by simp)))
    (first | (go_at_call 17; (with_reducible refine Calls.mono (rnull_fr _) ?_); rintro e w4 ⟨a2, c2, rfl, hi, hfr, hc⟩; have FR := Lib.hid hfr; clear hfr; have CC := Lib.hid (((Chg.refl [] w3).drew).thenSame hc); have BB := Lib.hid (CC.out.at (by simp) F5.out); have II := Lib.hid hi; have k5 := blk_cell BB.out; have f5 := blk_free BB.out; clear hi hc))
  all_goals go_wp2_with fail
  all_goals
    have r1 := blk_cell (ans_two BB.out 0 a2 1 c2).1
    unfold ansW at r1
    refine bodyPost_ret (v := .tuple #[.slice da dL.length dc, .agg #[.int .i64 0, .slice a2 1 c2], .int .i64 0]) (by simp [results, Tryz.results16, go_sem, r1]) rfl ?_
    exact rdoO_end (r := (0, dL, 0, [nullC])) (fun x hx => by rcases hx with hx | hx; exact .inl (by rw [← hx]; simp); exact .inr (Nat.le_trans C3.out.size (FR.out x hx))) BB.out (by omega) (C3.out.thenSame CC.out) (HD.out.kept (C3.out.thenSame CC.out)) II.out
set_option maxHeartbeats 4000000 in
set_option maxRecDepth 100000 in
theorem rdo_3 (sa : Option Addr) (sc : Nat) (st : List Ce) (ent id : ByteArray) (aa : Option Addr) (ac : Nat) (d : Rr Ce) (R : List Ce × Int × List Ce) (w : World) (h : InIs ceC 4 w sa sc st) (hg : goodL st) (ha : ArgsIn w aa ac [d]) (hog : EOp.good ⟨ent, id, opAdd, aa, ac, [d]⟩) (ht : TabW w) (h1 : chkZ (EOp.p ⟨ent, id, opAdd, aa, ac, [d]⟩) = 0) (h2 : checkZ st = 0)
    (F : ∀ w' (_ : Chg [] w w'), Calls Tryz.prog 35 #[.slice sa st.length sc, .slice d.a d.L.length d.c] w' (RStP w' sa R)) :
    Calls Tryz.prog 16 #[.slice sa st.length sc, .agg (eoC ⟨ent, id, opAdd, aa, ac, [d]⟩).toArray] w (RDoO w (sa :: [d].map Rr.a) (0, R)) := by
  have F := Lib.hid F
  rename_i F0
  clear F0
  have A := Lib.hid (fun w' (hc : Chg [] w w') => rechk_any ⟨ent, id, opAdd, aa, ac, [d]⟩ w' (ha.kept hc) hog (ht.kept hc))
  have A2 := Lib.hid (fun w' (hc : Chg [] w w') => rcheck_any sa sc st w' (h.1.kept hc) hg.1 hg.2 (ht.kept hc))
  rw [h1] at A
  rw [h2] at A2
  have H := Lib.hid h
  have HA := Lib.hid ha
  have HT := Lib.hid ht
  simp only [eoC]
  unfold opAdd
  obtain ⟨W1, hW1⟩ : ∃ W1, W1 = (w.alloc (eoO ⟨ent, id, opAdd, aa, ac, [d]⟩)).alloc (.cells #[.int .i64 0, .slice none 0 0] 38) := ⟨_, rfl⟩
  have C1 := Lib.hid (show Chg [] w W1 by rw [hW1]; exact ((Chg.refl [] w).alloc (eoO ⟨ent, id, opAdd, aa, ac, [d]⟩)).alloc (.cells #[.int .i64 0, .slice none 0 0] 38))
  have B1 := Lib.hid (show W1.heap[w.heap.size]? = some (eoO ⟨ent, id, opAdd, aa, ac, [d]⟩) by rw [hW1]; exact blk_alloc (heap_alloc_new w _))
  have B5 := Lib.hid (show W1.heap[w.heap.size + 1]? = some (.cells #[.int .i64 0, .slice none 0 0] 38) by have := heap_alloc_new (w.alloc (eoO ⟨ent, id, opAdd, aa, ac, [d]⟩)) (.cells #[.int .i64 0, .slice none 0 0] 38); rw [World.size_alloc] at this; rw [hW1]; exact this)
  unfold eoO opAdd at hW1 B1
  (try simp only [List.length_cons, List.length_nil, Nat.zero_add, Nat.reduceAdd] at hW1 B1)
  have k := blk_cell B1.out
  have HW1 := Lib.hid hW1
  clear hW1 ha hog ht hg h1 h2 h
  go_enter Tryz.func16, Tryz.ntmps16
  go_upto_region 1 with fail
  rw [← HW1.out]
  go_wp2_with fail
  refine (A.out _ C1.out).mono ?_; rintro e w2 ⟨rfl, hc⟩
  have C2 := Lib.hid (C1.out.thenSame hc)
  have E1 := Lib.hid (hc.at (by simp) B1.out)
  have E5 := Lib.hid (hc.at (by simp) B5.out)
  clear hc k
  go_wp2_with fail
  refine (A2.out _ C2.out).mono ?_; rintro e w3 ⟨rfl, hc⟩
  have C3 := Lib.hid (C2.out.thenSame hc)
  have F1 := Lib.hid (hc.at (by simp) E1.out)
  have F5 := Lib.hid (hc.at (by simp) E5.out)
  have k := blk_cell F1.out
  have k5 := blk_cell F5.out
  have f5 := blk_free F5.out
  clear hc
  obtain ⟨b2, o2, e2, -, hbr2, hcc2⟩ := HA.out.1.1.elem C3.out 0 (by simp)
  subst e2
  have x0 := hcc2 0 (by omega)
  simp only [rrC, List.getElem_cons_zero, List.getElem?_cons_zero, Nat.add_zero, Nat.zero_mul] at x0
  have FV := Lib.hid (F.out w3 C3.out)
  obtain ⟨da, dc, dL⟩ := d
  simp only at x0 FV
  clear F hcc2
  go_wp2_with fail
  refine FV.out.mono ?_; rintro e w4 ⟨na, nc, va, vc, rfl, hn, hv, hfr, hc⟩
  have FR := Lib.hid hfr
  clear hfr
  have C4 := Lib.hid (C3.out.thenSame hc)
  have G5 := Lib.hid (hc.at (by simp) F5.out)
  have HN := Lib.hid hn
  have HV := Lib.hid hv
  have k5 := blk_cell G5.out
  have f5 := blk_free G5.out
  clear hn hv hc k
  go_upto_region 11 with fail
  obtain ⟨W5, hW5⟩ : ∃ W5, W5 = w4.alloc (.cells #[.int .i64 R.2.1, .slice va R.2.2.length vc] 38) := ⟨_, rfl⟩
  have C5 := Lib.hid (show Chg [] w4 W5 by rw [hW5]; exact (Chg.refl [] w4).alloc _)
  have N5 := Lib.hid (show W5.heap[w4.heap.size]? = some (.cells #[.int .i64 R.2.1, .slice va R.2.2.length vc] 38 (0, 0)) by rw [hW5]; exact heap_alloc_new _ _)
  have B6 := Lib.hid (C5.out.at (by simp) G5.out)
  have k6 := blk_cell B6.out
  have f6 := blk_free B6.out
  have k9 := blk_cell N5.out
  rw [← hW5]
  clear k5 f5 hW5
  go_region_law (fail)
  all_goals go_wp2_with fail
  all_goals
    have r1 := blk_cell (ans_two B6.out R.2.1 va R.2.2.length vc).1
    unfold ansW at r1
    refine bodyPost_ret (v := .tuple #[.slice na R.1.length nc, .agg #[.int .i64 R.2.1, .slice va R.2.2.length vc], .int .i64 0]) (by simp [results, Tryz.results16, go_sem, r1]) rfl ?_
    exact (rdoO_end (r := (0, R)) (fun x hx => by rcases FR.out x hx with h | h; exact .inl (by rw [← h]; simp); exact .inr (Nat.le_trans C3.out.size h)) B6.out (by omega) (C4.out.thenSame C5.out) (HN.out.kept C5.out) (HV.out.kept C5.out)).drew
set_option maxHeartbeats 4000000 in
set_option maxRecDepth 100000 in
theorem rdo_4 (sa : Option Addr) (sc : Nat) (st : List Ce) (ent id : ByteArray) (aa : Option Addr) (ac : Nat) (d d2 : Rr Ce) (w : World) (h : InIs ceC 4 w sa sc st) (hg : goodL st) (ha : ArgsIn w aa ac [d, d2]) (hog : EOp.good ⟨ent, id, opCas, aa, ac, [d, d2]⟩) (ht : TabW w) (h1 : chkZ (EOp.p ⟨ent, id, opCas, aa, ac, [d, d2]⟩) = 0) (h2 : checkZ st = 0) :
    Calls Tryz.prog 16 #[.slice sa st.length sc, .agg (eoC ⟨ent, id, opCas, aa, ac, [d, d2]⟩).toArray] w (RDoO w (sa :: [d, d2].map Rr.a) (0, if sameB ceE st d.L then (d2.L, 0, [boolC true]) else (st, 0, [boolC false]))) := by
  obtain ⟨R, hR⟩ : ∃ R, R = (if sameB ceE st d.L then (d2.L, 0, [boolC true]) else (st, 0, [boolC false]) : List Ce × Int × List Ce) := ⟨_, rfl⟩
  rw [← hR]
  have HR := Lib.hid hR
  have HG := Lib.hid hg
  have HOG := Lib.hid hog.2.2.2.2
  clear hR
  have A := Lib.hid (fun w' (hc : Chg [] w w') => rechk_any ⟨ent, id, opCas, aa, ac, [d, d2]⟩ w' (ha.kept hc) hog (ht.kept hc))
  have A2 := Lib.hid (fun w' (hc : Chg [] w w') => rcheck_any sa sc st w' (h.1.kept hc) hg.1 hg.2 (ht.kept hc))
  rw [h1] at A
  rw [h2] at A2
  have H := Lib.hid h
  have HA := Lib.hid ha
  have HT := Lib.hid ht
  simp only [eoC]
  unfold opCas
  obtain ⟨W1, hW1⟩ : ∃ W1, W1 = (w.alloc (eoO ⟨ent, id, opCas, aa, ac, [d, d2]⟩)).alloc (.cells #[.int .i64 0, .slice none 0 0] 38) := ⟨_, rfl⟩
  have C1 := Lib.hid (show Chg [] w W1 by rw [hW1]; exact ((Chg.refl [] w).alloc (eoO ⟨ent, id, opCas, aa, ac, [d, d2]⟩)).alloc (.cells #[.int .i64 0, .slice none 0 0] 38))
  have B1 := Lib.hid (show W1.heap[w.heap.size]? = some (eoO ⟨ent, id, opCas, aa, ac, [d, d2]⟩) by rw [hW1]; exact blk_alloc (heap_alloc_new w _))
  have B5 := Lib.hid (show W1.heap[w.heap.size + 1]? = some (.cells #[.int .i64 0, .slice none 0 0] 38) by have := heap_alloc_new (w.alloc (eoO ⟨ent, id, opCas, aa, ac, [d, d2]⟩)) (.cells #[.int .i64 0, .slice none 0 0] 38); rw [World.size_alloc] at this; rw [hW1]; exact this)
  unfold eoO opCas at hW1 B1
  (try simp only [List.length_cons, List.length_nil, Nat.zero_add, Nat.reduceAdd] at hW1 B1)
  have k := blk_cell B1.out
  have HW1 := Lib.hid hW1
  clear hW1 ha hog ht hg h1 h2 h
  go_enter Tryz.func16, Tryz.ntmps16
  go_upto_region 1 with fail
  rw [← HW1.out]
  go_wp2_with fail
  refine (A.out _ C1.out).mono ?_; rintro e w2 ⟨rfl, hc⟩
  have C2 := Lib.hid (C1.out.thenSame hc)
  have E1 := Lib.hid (hc.at (by simp) B1.out)
  have E5 := Lib.hid (hc.at (by simp) B5.out)
  clear hc k
  go_wp2_with fail
  refine (A2.out _ C2.out).mono ?_; rintro e w3 ⟨rfl, hc⟩
  have C3 := Lib.hid (C2.out.thenSame hc)
  have F1 := Lib.hid (hc.at (by simp) E1.out)
  have F5 := Lib.hid (hc.at (by simp) E5.out)
  have k := blk_cell F1.out
  have k5 := blk_cell F5.out
  have f5 := blk_free F5.out
  clear hc
  obtain ⟨b2, o2, e2, -, hbr2, hcc2⟩ := HA.out.1.1.elem C3.out 0 (by simp)
  obtain ⟨b3, o3, e3, -, hbr3, hcc3⟩ := HA.out.1.1.elem C3.out 1 (by simp)
  rw [e2] at e3
  cases e3
  subst e2
  have x0 := hcc2 0 (by omega)
  have x1 := hcc3 0 (by omega)
  simp only [rrC, List.getElem_cons_zero, List.getElem_cons_succ, List.getElem?_cons_zero, Nat.add_zero, Nat.zero_mul, Nat.one_mul] at x0 x1
  have KP := Lib.hid (fun w' (hc : Chg [w.heap.size + 1] w3 w') => show w'.cell? ⟨w.heap.size, 3, none⟩ = some (.slice (some ⟨b2, o2, none⟩) 2 ac) ∧ w'.cell? ⟨b2, o2 + 1, none⟩ = some (.slice d2.a d2.L.length d2.c) from by
    refine ⟨blk_cell (hc.at (by simp) F1.out) 3, ?_⟩
    obtain ⟨b, o, e, -, -, hcc⟩ := HA.out.1.1.elem (C3.out.then hc (by intro x hx hlt; simp at hx; omega)) 1 (by simp)
    cases e
    simpa [rrC] using hcc 0 (by omega))
  have HD := Lib.hid (HA.out.2 d (by simp))
  have HD2 := Lib.hid (HA.out.2 d2 (by simp))
  have S := Lib.hid (csame_any sa sc st d.a d.c d.L w3 (H.out.1.kept C3.out) (HD.out.1.kept C3.out) HG.out.1 (HOG.out d (by simp)).1)
  obtain ⟨da, dc, dL⟩ := d
  obtain ⟨d2a, d2c, d2L⟩ := d2
  simp only at x0 x1 KP HD HD2 S HR
  clear hcc2 hcc3
  cases hq : sameB ceE st dL
  · rw [hq] at S HR
    have HR2 := Lib.hid (HR.out.trans (if_neg (by decide)))
    clear hq
    go_wp2_with fail
    refine S.out.mono ?_; rintro e w4 ⟨rfl, hc⟩
    have C4 := Lib.hid (C3.out.thenSame hc)
    have G5 := Lib.hid (hc.at (by simp) F5.out)
    clear hc k k5 f5
    go_wp2_with fail
    refine (rbool_fr false _).mono ?_; rintro e w5 ⟨a2, c2, rfl, hi, hfr, hc⟩
    have FR := Lib.hid hfr
    clear hfr
    have C5 := Lib.hid (C4.out.thenSame hc)
    have B6 := Lib.hid (hc.at (by simp) G5.out)
    have II := Lib.hid hi
    have k6 := blk_cell B6.out
    have f6 := blk_free B6.out
    clear hc hi
    go_wp2_with fail
    rw [HR2.out]
    have r1 := blk_cell (ans_two B6.out 0 a2 1 c2).1
    unfold ansW at r1
    refine bodyPost_ret (v := .tuple #[.slice sa st.length sc, .agg #[.int .i64 0, .slice a2 1 c2], .int .i64 0]) (by simp [results, Tryz.results16, go_sem, r1]) rfl ?_
    exact rdoO_end (r := (0, st, 0, [boolC false])) (fun x hx => by rcases hx with hx | hx; exact .inl (by rw [← hx]; simp); exact .inr (Nat.le_trans C4.out.size (FR.out x hx))) B6.out (by omega) C5.out (H.out.kept C5.out) II.out
  · rw [hq] at S HR
    have HR2 := Lib.hid (HR.out.trans (if_pos rfl))
    clear hq
    go_wp2_with fail
    refine S.out.mono ?_; rintro e w4 ⟨rfl, hc⟩
    have C40 := Lib.hid hc
    have G5 := Lib.hid (hc.at (by simp) F5.out)
    clear hc k k5 f5
    go_upto_region 14 with fail
    go_region_held3 (fun w' => w'.cell? ⟨w.heap.size, 3, none⟩ = some (.slice (some ⟨b2, o2, none⟩) 2 ac) ∧ w'.cell? ⟨b2, o2 + 1, none⟩ = some (.slice d2a d2L.length d2c)) (with_reducible first | exact KP.out _ (CC.out.mono (by simp)) | exact KP.out _ (C40.out.drew.mono (by simp)) | exact KP.out _ (C40.out.mono (by simp)) | exact KP.out _ (((CC.out.mono (by simp)).setCell _ _ (by simp)).setCell _ _ (by simp)))
      (first | (go_at_call 37; (with_reducible refine Calls.mono (rbool_fr true _) ?_); rintro e w5 ⟨a2, c2, rfl, hi, hfr, hc⟩; have FR := Lib.hid hfr; clear hfr; have CC := Lib.hid ((C40.out.drew).thenSame hc); have BB := Lib.hid (CC.out.at (by simp) F5.out); have II := Lib.hid hi; have k5 := blk_cell BB.out; have f5 := blk_free BB.out; clear hi hc))
    all_goals go_wp2_with fail
    all_goals
      rw [HR2.out]
      have r1 := blk_cell (ans_two BB.out 0 a2 1 c2).1
      unfold ansW at r1
      refine bodyPost_ret (v := .tuple #[.slice d2a d2L.length d2c, .agg #[.int .i64 0, .slice a2 1 c2], .int .i64 0]) (by simp [results, Tryz.results16, go_sem, r1]) rfl ?_
      exact rdoO_end (r := (0, d2L, 0, [boolC true])) (fun x hx => by rcases hx with hx | hx; exact .inl (by rw [← hx]; simp); exact .inr (Nat.le_trans (C3.out.thenSame C40.out).size (FR.out x hx))) BB.out (by omega) (C3.out.thenSame CC.out) (HD2.out.kept (C3.out.thenSame CC.out)) II.out
set_option maxRecDepth 100000 in
theorem rdo_orig (sa : Option Addr) (sc : Nat) (st : List Ce) (o : EOp) (w : World) (h : InIs ceC 4 w sa sc st) (hg : goodL st) (ha : ArgsIn w o.aa o.ac o.args) (hog : o.good) (ht : TabW w) :
    Calls Tryz.prog 16 #[.slice sa st.length sc, .agg (eoC o).toArray] w (RDoO w (sa :: o.args.map Rr.a) (doZ st o.p)) := by
  by_cases h1 : chkZ o.p = 0
  case neg => exact rdo_errO _ sa sc st o w h hg ha hog ht (.inl h1)
  by_cases h2 : checkZ st = 0
  case neg => exact rdo_errO _ sa sc st o w h hg ha hog ht (.inr h2)
  have hz : doZ st o.p = (0, doF (opN o.op) st o.p.args) := by unfold doZ; rw [if_neg (by simp [h1]), if_neg (by simp [h2])]; rfl
  rw [hz]
  obtain ⟨hs1, hs2⟩ := check_zero h2
  obtain ⟨k0, k1, k2⟩ := chk_zero h1
  obtain ⟨ent, id, op, aa, ac, args⟩ := o
  simp only [EOp.p, List.length_map] at k0 k1 k2 ⊢
  simp only at ha
  have hv : ∀ d ∈ args, checkZ d.L = 0 := fun d hd => k2 _ (List.mem_map_of_mem hd)
  rcases opN_cases op with ⟨rfl, e⟩ | ⟨rfl, e⟩ | ⟨rfl, e⟩ | ⟨rfl, e⟩ | ⟨_, e⟩
  · rw [e]
    exact rdo_1 sa sc st ent id aa ac args w h hg ha hog ht h1 h2
  · rw [e] at k1 ⊢
    obtain ⟨d, rfl⟩ : ∃ d, args = [d] := List.length_eq_one_iff.1 k1
    exact rdo_2 sa sc st ent id aa ac d w h hg ha hog ht h1 h2
  · rw [e] at k1 ⊢
    obtain ⟨d, rfl⟩ : ∃ d, args = [d] := List.length_eq_one_iff.1 k1
    obtain ⟨da, dc, dL⟩ := d
    have hc := hv ⟨da, dc, dL⟩ (by simp)
    have hd := check_zero hc
    simp only at hd hc
    cases dL with
    | nil => exact absurd rfl hd.1
    | cons x rx =>
      cases st with
      | nil => exact absurd rfl hs1
      | cons s r => exact rdo_3 sa sc (s :: r) ent id aa ac ⟨da, dc, x :: rx⟩ (addF (s :: r) (x :: rx)) w h hg ha hog ht h1 h2 (fun w' hw => radd_any sa sc s r da dc x rx w' (h.kept hw) ((ha.2 ⟨da, dc, x :: rx⟩ (by simp)).kept hw) h2 hc (ht.kept hw))
  · rw [e] at k1 ⊢
    obtain ⟨d, d2, rfl⟩ : ∃ d d2, args = [d, d2] := by
      match args, k1 with
      | [d, d2], _ => exact ⟨d, d2, rfl⟩
    exact rdo_4 sa sc st ent id aa ac d d2 w h hg ha hog ht h1 h2
  · exact absurd e k0
theorem rdo_any (sa : Option Addr) (sc : Nat) (st : List Ce) (o : EOp) (w : World) (h : InIs ceC 4 w sa sc st) (hg : goodL st) (ha : ArgsIn w o.aa o.ac o.args) (hog : o.good) (ht : TabW w) :
    Calls Tryz.prog 16 #[.slice sa st.length sc, .agg (eoC o).toArray] w (RDoP w (doZ st o.p)) := (rdo_orig sa sc st o w h hg ha hog ht).mono fun _ _ h => h.p
end Go.Proofs.YtnhemokmgpelaaaGreatDoor
namespace Go.Proofs.YtnhemokmgpelaaaGreatDoor
set_option linter.unusedVariables false
set_option linter.unusedSimpArgs false
open Go.RowKit
theorem any_take_no {l : List Cl} {k : Nat} {id : ByteArray} (h : ∀ j (_ : j < k) (hl : j < l.length), ((l[j]).o.id == id) = false) : ((l.take k).map Cl.p).any (fun y => y.o.id == id) = false := by
  rw [List.any_eq_false]
  intro y hy
  obtain ⟨z, hz, rfl⟩ := List.mem_map.1 hy
  obtain ⟨j, hj, rfl⟩ := List.mem_iff_getElem.1 hz
  rw [List.length_take] at hj
  rw [List.getElem_take]
  have := h j (by omega) (by omega)
  simpa [Cl.p, EOp.p] using this
theorem any_take_yes {l : List Cl} {k j : Nat} {id : ByteArray} (hj : j < k) (hl : j < l.length) (h : ((l[j]).o.id == id) = true) : ((l.take k).map Cl.p).any (fun y => y.o.id == id) = true := by
  refine List.any_eq_true.2 ⟨(l[j]).p, List.mem_map.2 ⟨l[j], ?_, rfl⟩, h⟩
  exact List.mem_iff_getElem.2 ⟨j, by rw [List.length_take]; omega, List.getElem_take⟩
theorem any_stepR {l : List Cl} {m : Nat} {hml : m < l.length} {id : ByteArray} (h : ∀ j (_ : j < m) (hl : j < l.length), ((l[j]).o.id == id) = false) (h2 : ((l[m]).o.id == id) = false) : ∀ j (_ : j < m + 1) (hl : j < l.length), ((l[j]).o.id == id) = false := fun j hj hl => by
  by_cases hjm : j < m
  · exact h j hjm hl
  · have : j = m := by omega
    subst this
    exact h2
set_option maxHeartbeats 4000000 in
set_option maxRecDepth 100000 in
theorem rhcheck_any {a : Option Addr} {c : Nat} {l : List Cl} {w : World} (h : LIn w a c l) (hg : ∀ x ∈ l, goodCl x) (ht : TabW w) :
    Calls Tryz.prog 5 #[.slice a l.length c] w fun e w' => e = .returned (.int .i64 (hcheckZ (l.map Cl.p))) ∧ Chg [] w w' := by
  obtain ⟨R, hR⟩ : ∃ R, R = hcheckZ (l.map Cl.p) := ⟨_, rfl⟩
  rw [← hR]
  have HR := Lib.hid hR
  have H := Lib.hid h
  have HG := Lib.hid hg
  have HT := Lib.hid ht
  clear h hg ht hR
  by_cases h8 : 8 < l.length
  · have HE := Lib.hid (show R = 3 by rw [HR.out]; unfold hcheckZ; rw [List.length_map, if_pos h8])
    have h8' : (8 : Int) < (l.length : Int) := by omega
    go_enter Tryz.func5, Tryz.ntmps5
    go_wp2_with fail
    go_ret
    exact ⟨by rw [HE.out]; rfl, Chg.refl _ _⟩
  have h8' : (l.length : Int) ≤ 8 := by omega
  have H8 := Lib.hid (show (l.map Cl.p).length ≤ 8 by rw [List.length_map]; omega)
  clear h8
  go_enter Tryz.func5, Tryz.ntmps5
  go_wp2_with fail
  go_loopw [3] (fun i wr => ∃ k : Nat, i = .int .i64 k ∧ k ≤ l.length ∧ Hid (∀ j, j < k → chkAt (l.map Cl.p) j = 0) ∧ Hid (Chg [] w wr)) (fun i _ => l.length - (intOf i).toNat)
  case atStart => exact ⟨0, rfl, Nat.zero_le _, Lib.hid (fun j hj => by omega), Lib.hid (Chg.refl _ _)⟩
  case round =>
    obtain ⟨k, rfl, hkl, HS, D⟩ := hrel
    have hk0 : (0 : Int) ≤ (k : Int) := by omega
    by_cases hk : k < l.length
    · obtain ⟨b, off, rfl, -, hcc⟩ := H.out.at8 (w' := w) k hk
      obtain ⟨b', off', e, -, hcc0⟩ := H.out.at8 (w' := w) 0 (by omega)
      cases e
      have HX := Lib.hid (chkAt_cl hk)
      have hin := H.out.2 _ (List.getElem_mem hk)
      have hgx := HG.out _ (List.getElem_mem hk)
      have hge := HG.out _ (List.getElem_mem (show 0 < l.length by omega))
      obtain ⟨d0, d1, d2, d3, d4, d5, d6, d7⟩ := hcc _ D.out
      have HE0 := Lib.hid (fun w' hc => (hcc0 w' hc).1)
      have HAT := Lib.hid (fun (hz : chkAt (l.map Cl.p) k ≠ 0) => hcheck_at H8.out (by rw [List.length_map]; exact hk) HS.out hz)
      have HIDS := Lib.hid (fun (m : Nat) (hm : m < l.length) => show ∀ w', Chg [] w w' → w'.cell? ⟨b, off + m * 8 + 1, none⟩ = some (.string (l[m]).o.id) from by
        obtain ⟨b', off', e, -, hcc0⟩ := H.out.at8 (w' := w) m hm
        cases e
        exact fun w' hc => (hcc0 w' hc).2.1)
      have HAF := Lib.hid (fun id => any_take_no (l := l) (k := k) (id := id))
      have HAY := Lib.hid (fun j hj hl id => any_take_yes (l := l) (k := k) (j := j) (id := id) hj hl)
      generalize l[k] = x at *
      generalize (l[0]'(by omega)).o.ent = e0 at *
      have IN := Lib.hid hin
      have GX := Lib.hid hgx
      have hk1 : (k : Int) < (l.length : Int) := by omega
      have hk00 : 0 < l.length := by omega
      obtain ⟨W1, hW1⟩ : ∃ W1, W1 = wr.alloc (clO x) := ⟨_, rfl⟩
      have C1 := Lib.hid (show Chg [] w W1 by rw [hW1]; exact D.out.alloc _)
      have B1 := Lib.hid (show W1.heap[wr.heap.size]? = some (clO x) by rw [hW1]; exact heap_alloc_new _ _)
      unfold clO at hW1
      have HW1 := Lib.hid hW1
      have A1 := Lib.hid (fun w' => RID_any x.o.ent w' GX.out.1.1)
      have A2 := Lib.hid (fun w' => RID_any x.o.id w' GX.out.1.2.1)
      clear hcc hcc0 hin hgx hge hW1
      obtain ⟨q1, hq1⟩ : ∃ q, q = idB x.o.ent := ⟨_, rfl⟩
      obtain ⟨q2, hq2⟩ : ∃ q, q = idB x.o.id := ⟨_, rfl⟩
      obtain ⟨N, hN⟩ : ∃ N, N = (q1 && x.o.ent == e0 && q2) := ⟨_, rfl⟩
      have HN := Lib.hid hN
      have HNQ := Lib.hid (show N = (idB x.o.ent && x.o.ent == e0 && idB x.o.id) by rw [hN, hq1, hq2])
      rw [← hq1] at A1
      rw [← hq2] at A2
      clear hq1 hq2 hN
      go_upto_region 7 with fail
      rw [← HW1.out]
      clear d0 d1 d2 d3 d4 d5 d6 d7
      go_cut [44] (fun v wx => v = .bool (!N) ∧ Hid (wx.heap[wr.heap.size]? = some (clO x)) ∧ Hid (Chg [] w wx))
      case first =>
        obtain ⟨wd, hwd⟩ : ∃ wd, wd = W1.drew := ⟨_, rfl⟩
        have D0 := Lib.hid (show Chg [] w wd by rw [hwd]; exact C1.out.drew)
        have K0 := Lib.hid (show wd.heap[wr.heap.size]? = some (clO x) by rw [hwd]; exact ((Chg.refl [] W1).drew).at (by simp) B1.out)
        have CE := Lib.hid (fun w' (hc : Chg [] w w') (hb : w'.heap[wr.heap.size]? = some (clO x)) => And.intro (blk_cell (show w'.heap[wr.heap.size]? = some (.cells _ _ (0, 0)) from hb) 0) (And.intro (blk_cell (show w'.heap[wr.heap.size]? = some (.cells _ _ (0, 0)) from hb) 1) (HE0.out w' hc)))
        simp only [List.getElem?_toArray, List.getElem?_cons_zero, List.getElem?_cons_succ, Nat.zero_mul, Nat.add_zero] at CE
        refine wp_region_noPanic ?_
        refine wp_region_held_drew (S := (fun w' => w'.cell? ⟨wr.heap.size, 0, none⟩ = some (.string x.o.ent) ∧ w'.cell? ⟨wr.heap.size, 1, none⟩ = some (.string x.o.id) ∧ w'.cell? ⟨b, off, none⟩ = some (.string e0))) (by kernel_rfl) (by rw [← hwd]; exact CE.out _ D0.out K0.out) (fun hHeld => ?_)
        rw [← hwd] at hHeld ⊢
        clear hwd
        cases q1
        ·
          refine wpAnyH_take (i := 0) (oi := _) (v := ?vA_0) rfl (by kernel_rfl) (by kernel_rfl) (by kernel_rfl) (fun _ _ _ h => h) (Or.inl ⟨by rfl, ?yA_0⟩) hHeld ?rA_0
          case yA_0 => (intro w hSw; (try dsimp only at hSw); (try simp only [List.getElem_toArray, List.getElem_cons_zero, List.getElem_cons_succ]); go_simp <;> with_reducible rfl)
          (try simp only [List.getElem_toArray, List.getElem_cons_zero, List.getElem_cons_succ, Act.put, List.setIfInBounds_toArray, List.set_cons_zero, List.set_cons_succ])
          refine wpAnyH_take (i := 1) (oi := _) (v := ?vA_1) rfl (by kernel_rfl) (by kernel_rfl) (by kernel_rfl) (fun _ _ _ h => h) (Or.inl ⟨by rfl, ?yA_1⟩) hHeld ?rA_1
          case yA_1 => (intro w hSw; (try dsimp only at hSw); (try simp only [List.getElem_toArray, List.getElem_cons_zero, List.getElem_cons_succ]); go_simp <;> with_reducible rfl)
          (try simp only [List.getElem_toArray, List.getElem_cons_zero, List.getElem_cons_succ, Act.put, List.setIfInBounds_toArray, List.set_cons_zero, List.set_cons_succ])
          refine wpAnyH_take (i := 2) (oi := _) (v := ?vA_2) rfl (by kernel_rfl) (by kernel_rfl) (by kernel_rfl) (fun _ _ _ h => h) (Or.inl ⟨by rfl, ?yA_2⟩) hHeld ?rA_2
          case yA_2 => (intro w hSw; (try dsimp only at hSw); (try simp only [List.getElem_toArray, List.getElem_cons_zero, List.getElem_cons_succ]); go_simp <;> with_reducible rfl)
          (try simp only [List.getElem_toArray, List.getElem_cons_zero, List.getElem_cons_succ, Act.put, List.setIfInBounds_toArray, List.set_cons_zero, List.set_cons_succ])
          refine wpAnyH_ready (rs := [3]) (by kernel_rfl) (by simp) ?_
          refine AllReadyH.cons (o := _) rfl (fun K hK => ?_) AllReadyH.nil
          (try simp only [List.getElem_toArray, List.getElem_cons_zero, List.getElem_cons_succ])
          go_simp
          (refine Calls.mono (A1.out _) ?_; rintro e w2 ⟨rfl, rfl⟩; have D2 := D0; have K2 := K0)
          refine hK.out _ _ ?_ (fun hHeld => ?_)
          exact CE.out _ D2.out K2.out
          clear hK K
          (try simp only [List.getElem_toArray, List.getElem_cons_zero, List.getElem_cons_succ, Act.put, List.setIfInBounds_toArray, List.set_cons_zero, List.set_cons_succ])
          refine wpAnyH_take (i := 4) (oi := _) (v := ?vA_4) rfl (by kernel_rfl) (by kernel_rfl) (by kernel_rfl) (fun _ _ _ h => h) (Or.inl ⟨by rfl, ?yA_4⟩) hHeld ?rA_4
          case yA_4 => (intro w hSw; (try dsimp only at hSw); (try simp only [List.getElem_toArray, List.getElem_cons_zero, List.getElem_cons_succ]); go_simp <;> with_reducible rfl)
          (try simp only [List.getElem_toArray, List.getElem_cons_zero, List.getElem_cons_succ, Act.put, List.setIfInBounds_toArray, List.set_cons_zero, List.set_cons_succ])
          refine wpAnyH_take (i := 5) (oi := _) (v := ?vA_5) rfl (by kernel_rfl) (by kernel_rfl) (by kernel_rfl) (fun _ _ _ h => h) (Or.inl ⟨by rfl, ?yA_5⟩) hHeld ?rA_5
          case yA_5 => (intro w hSw; (try dsimp only at hSw); (try simp only [List.getElem_toArray, List.getElem_cons_zero, List.getElem_cons_succ]); go_simp <;> with_reducible rfl)
          (try simp only [List.getElem_toArray, List.getElem_cons_zero, List.getElem_cons_succ, Act.put, List.setIfInBounds_toArray, List.set_cons_zero, List.set_cons_succ])
          refine wpAnyH_take (i := 6) (oi := _) (v := _) rfl (by kernel_rfl) (by kernel_rfl) (by kernel_rfl) (fun _ _ _ h => h) (Or.inr ⟨by rfl, rfl⟩) hHeld ?_
          (try simp only [List.getElem_toArray, List.getElem_cons_zero, List.getElem_cons_succ, Act.put, List.setIfInBounds_toArray, List.set_cons_zero, List.set_cons_succ])
          refine wpAnyH_take (i := 7) (oi := _) (v := _) rfl (by kernel_rfl) (by kernel_rfl) (by kernel_rfl) (fun _ _ _ h => h) (Or.inr ⟨by rfl, rfl⟩) hHeld ?_
          (try simp only [List.getElem_toArray, List.getElem_cons_zero, List.getElem_cons_succ, Act.put, List.setIfInBounds_toArray, List.set_cons_zero, List.set_cons_succ])
          refine wpAnyH_take (i := 8) (oi := _) (v := _) rfl (by kernel_rfl) (by kernel_rfl) (by kernel_rfl) (fun _ _ _ h => h) (Or.inr ⟨by rfl, rfl⟩) hHeld ?_
          (try simp only [List.getElem_toArray, List.getElem_cons_zero, List.getElem_cons_succ, Act.put, List.setIfInBounds_toArray, List.set_cons_zero, List.set_cons_succ])
          refine wpAnyH_take (i := 9) (oi := _) (v := _) rfl (by kernel_rfl) (by kernel_rfl) (by kernel_rfl) (fun _ _ _ h => h) (Or.inr ⟨by rfl, rfl⟩) hHeld ?_
          (try simp only [List.getElem_toArray, List.getElem_cons_zero, List.getElem_cons_succ, Act.put, List.setIfInBounds_toArray, List.set_cons_zero, List.set_cons_succ])
          refine wpAnyH_take (i := 10) (oi := _) (v := _) rfl (by kernel_rfl) (by kernel_rfl) (by kernel_rfl) (fun _ _ _ h => h) (Or.inr ⟨by rfl, rfl⟩) hHeld ?_
          (try simp only [List.getElem_toArray, List.getElem_cons_zero, List.getElem_cons_succ, Act.put, List.setIfInBounds_toArray, List.set_cons_zero, List.set_cons_succ])
          refine wpAnyH_take (i := 11) (oi := _) (v := _) rfl (by kernel_rfl) (by kernel_rfl) (by kernel_rfl) (fun _ _ _ h => h) (Or.inr ⟨by rfl, rfl⟩) hHeld ?_
          (try simp only [List.getElem_toArray, List.getElem_cons_zero, List.getElem_cons_succ, Act.put, List.setIfInBounds_toArray, List.set_cons_zero, List.set_cons_succ])
          refine wpAnyH_take (i := 12) (oi := _) (v := _) rfl (by kernel_rfl) (by kernel_rfl) (by kernel_rfl) (fun _ _ _ h => h) (Or.inr ⟨by rfl, rfl⟩) hHeld ?_
          (try simp only [List.getElem_toArray, List.getElem_cons_zero, List.getElem_cons_succ, Act.put, List.setIfInBounds_toArray, List.set_cons_zero, List.set_cons_succ])
          refine wpAnyH_take (i := 13) (oi := _) (v := _) rfl (by kernel_rfl) (by kernel_rfl) (by kernel_rfl) (fun _ _ _ h => h) (Or.inr ⟨by rfl, rfl⟩) hHeld ?_
          (try simp only [List.getElem_toArray, List.getElem_cons_zero, List.getElem_cons_succ, Act.put, List.setIfInBounds_toArray, List.set_cons_zero, List.set_cons_succ])
          refine wpAnyH_take (i := 14) (oi := _) (v := _) rfl (by kernel_rfl) (by kernel_rfl) (by kernel_rfl) (fun _ _ _ h => h) (Or.inr ⟨by rfl, rfl⟩) hHeld ?_
          (try simp only [List.getElem_toArray, List.getElem_cons_zero, List.getElem_cons_succ, Act.put, List.setIfInBounds_toArray, List.set_cons_zero, List.set_cons_succ])
          refine wpAnyH_take (i := 15) (oi := _) (v := ?vA_15) rfl (by kernel_rfl) (by kernel_rfl) (by kernel_rfl) (fun _ _ _ h => h) (Or.inl ⟨by rfl, ?yA_15⟩) hHeld ?rA_15
          case yA_15 => (intro w hSw; (try dsimp only at hSw); (try simp only [List.getElem_toArray, List.getElem_cons_zero, List.getElem_cons_succ]); go_simp <;> with_reducible rfl)
          (try simp only [List.getElem_toArray, List.getElem_cons_zero, List.getElem_cons_succ, Act.put, List.setIfInBounds_toArray, List.set_cons_zero, List.set_cons_succ])
          refine wpAnyH_take (i := 16) (oi := _) (v := ?vA_16) rfl (by kernel_rfl) (by kernel_rfl) (by kernel_rfl) (fun _ _ _ h => h) (Or.inl ⟨by rfl, ?yA_16⟩) hHeld ?rA_16
          case yA_16 => (intro w hSw; (try dsimp only at hSw); (try simp only [List.getElem_toArray, List.getElem_cons_zero, List.getElem_cons_succ]); go_simp <;> with_reducible rfl)
          (try simp only [List.getElem_toArray, List.getElem_cons_zero, List.getElem_cons_succ, Act.put, List.setIfInBounds_toArray, List.set_cons_zero, List.set_cons_succ])
          refine wpAnyH_take (i := 17) (oi := _) (v := _) rfl (by kernel_rfl) (by kernel_rfl) (by kernel_rfl) (fun _ _ _ h => h) (Or.inr ⟨by rfl, rfl⟩) hHeld ?_
          (try simp only [List.getElem_toArray, List.getElem_cons_zero, List.getElem_cons_succ, Act.put, List.setIfInBounds_toArray, List.set_cons_zero, List.set_cons_succ])
          refine wpAnyH_take (i := 18) (oi := _) (v := _) rfl (by kernel_rfl) (by kernel_rfl) (by kernel_rfl) (fun _ _ _ h => h) (Or.inr ⟨by rfl, rfl⟩) hHeld ?_
          (try simp only [List.getElem_toArray, List.getElem_cons_zero, List.getElem_cons_succ, Act.put, List.setIfInBounds_toArray, List.set_cons_zero, List.set_cons_succ])
          refine wpAnyH_take (i := 19) (oi := _) (v := _) rfl (by kernel_rfl) (by kernel_rfl) (by kernel_rfl) (fun _ _ _ h => h) (Or.inr ⟨by rfl, rfl⟩) hHeld ?_
          (try simp only [List.getElem_toArray, List.getElem_cons_zero, List.getElem_cons_succ, Act.put, List.setIfInBounds_toArray, List.set_cons_zero, List.set_cons_succ])
          refine wpAnyH_take (i := 20) (oi := _) (v := _) rfl (by kernel_rfl) (by kernel_rfl) (by kernel_rfl) (fun _ _ _ h => h) (Or.inr ⟨by rfl, rfl⟩) hHeld ?_
          (try simp only [List.getElem_toArray, List.getElem_cons_zero, List.getElem_cons_succ, Act.put, List.setIfInBounds_toArray, List.set_cons_zero, List.set_cons_succ])
          refine wpAnyH_take (i := 21) (oi := _) (v := _) rfl (by kernel_rfl) (by kernel_rfl) (by kernel_rfl) (fun _ _ _ h => h) (Or.inr ⟨by rfl, rfl⟩) hHeld ?_
          (try simp only [List.getElem_toArray, List.getElem_cons_zero, List.getElem_cons_succ, Act.put, List.setIfInBounds_toArray, List.set_cons_zero, List.set_cons_succ])
          refine wpAnyH_take (i := 22) (oi := _) (v := ?vA_22) rfl (by kernel_rfl) (by kernel_rfl) (by kernel_rfl) (fun _ _ _ h => h) (Or.inl ⟨by rfl, ?yA_22⟩) hHeld ?rA_22
          case yA_22 => (intro w hSw; (try dsimp only at hSw); (try simp only [List.getElem_toArray, List.getElem_cons_zero, List.getElem_cons_succ]); go_simp <;> with_reducible rfl)
          (try simp only [List.getElem_toArray, List.getElem_cons_zero, List.getElem_cons_succ, Act.put, List.setIfInBounds_toArray, List.set_cons_zero, List.set_cons_succ])
          refine wpAnyH_done (by kernel_rfl) ?_ _
          refine NoPanic.normal ?_
          go_wp2_with fail
          go_meet
          exact ⟨by rw [HN.out]; rfl, K2, D2⟩
        cases q3 : (x.o.ent == e0)
        · have s1 : (x.o.ent != e0) = true := by rw [bne, q3]; rfl
          have s2 : (x.o.ent.toList != e0.toList) = true := by rw [bne, ← beq_toListBytes, q3]; rfl
          have HQ3 := Lib.hid q3
          have q4 := (beq_toListBytes x.o.ent e0).symm.trans q3
          have q5 : ¬ x.o.ent = e0 ∨ x.o.ent = e0 := (Classical.em _).symm
          clear q5
          refine wpAnyH_take (i := 0) (oi := _) (v := ?vB_0) rfl (by kernel_rfl) (by kernel_rfl) (by kernel_rfl) (fun _ _ _ h => h) (Or.inl ⟨by rfl, ?yB_0⟩) hHeld ?rB_0
          case yB_0 => (intro w hSw; (try dsimp only at hSw); (try simp only [List.getElem_toArray, List.getElem_cons_zero, List.getElem_cons_succ]); go_simp <;> with_reducible rfl)
          (try simp only [List.getElem_toArray, List.getElem_cons_zero, List.getElem_cons_succ, Act.put, List.setIfInBounds_toArray, List.set_cons_zero, List.set_cons_succ])
          refine wpAnyH_take (i := 1) (oi := _) (v := ?vB_1) rfl (by kernel_rfl) (by kernel_rfl) (by kernel_rfl) (fun _ _ _ h => h) (Or.inl ⟨by rfl, ?yB_1⟩) hHeld ?rB_1
          case yB_1 => (intro w hSw; (try dsimp only at hSw); (try simp only [List.getElem_toArray, List.getElem_cons_zero, List.getElem_cons_succ]); go_simp <;> with_reducible rfl)
          (try simp only [List.getElem_toArray, List.getElem_cons_zero, List.getElem_cons_succ, Act.put, List.setIfInBounds_toArray, List.set_cons_zero, List.set_cons_succ])
          refine wpAnyH_take (i := 2) (oi := _) (v := ?vB_2) rfl (by kernel_rfl) (by kernel_rfl) (by kernel_rfl) (fun _ _ _ h => h) (Or.inl ⟨by rfl, ?yB_2⟩) hHeld ?rB_2
          case yB_2 => (intro w hSw; (try dsimp only at hSw); (try simp only [List.getElem_toArray, List.getElem_cons_zero, List.getElem_cons_succ]); go_simp <;> with_reducible rfl)
          (try simp only [List.getElem_toArray, List.getElem_cons_zero, List.getElem_cons_succ, Act.put, List.setIfInBounds_toArray, List.set_cons_zero, List.set_cons_succ])
          refine wpAnyH_ready (rs := [3]) (by kernel_rfl) (by simp) ?_
          refine AllReadyH.cons (o := _) rfl (fun K hK => ?_) AllReadyH.nil
          (try simp only [List.getElem_toArray, List.getElem_cons_zero, List.getElem_cons_succ])
          go_simp
          (refine Calls.mono (A1.out _) ?_; rintro e w2 ⟨rfl, rfl⟩; have D2 := D0; have K2 := K0)
          refine hK.out _ _ ?_ (fun hHeld => ?_)
          exact CE.out _ D2.out K2.out
          clear hK K
          (try simp only [List.getElem_toArray, List.getElem_cons_zero, List.getElem_cons_succ, Act.put, List.setIfInBounds_toArray, List.set_cons_zero, List.set_cons_succ])
          refine wpAnyH_take (i := 4) (oi := _) (v := ?vB_4) rfl (by kernel_rfl) (by kernel_rfl) (by kernel_rfl) (fun _ _ _ h => h) (Or.inl ⟨by rfl, ?yB_4⟩) hHeld ?rB_4
          case yB_4 => (intro w hSw; (try dsimp only at hSw); (try simp only [List.getElem_toArray, List.getElem_cons_zero, List.getElem_cons_succ]); go_simp <;> with_reducible rfl)
          (try simp only [List.getElem_toArray, List.getElem_cons_zero, List.getElem_cons_succ, Act.put, List.setIfInBounds_toArray, List.set_cons_zero, List.set_cons_succ])
          refine wpAnyH_take (i := 5) (oi := _) (v := ?vB_5) rfl (by kernel_rfl) (by kernel_rfl) (by kernel_rfl) (fun _ _ _ h => h) (Or.inl ⟨by rfl, ?yB_5⟩) hHeld ?rB_5
          case yB_5 => (intro w hSw; (try dsimp only at hSw); (try simp only [List.getElem_toArray, List.getElem_cons_zero, List.getElem_cons_succ]); go_simp <;> with_reducible rfl)
          (try simp only [List.getElem_toArray, List.getElem_cons_zero, List.getElem_cons_succ, Act.put, List.setIfInBounds_toArray, List.set_cons_zero, List.set_cons_succ])
          refine wpAnyH_take (i := 6) (oi := _) (v := ?vB_6) rfl (by kernel_rfl) (by kernel_rfl) (by kernel_rfl) (fun _ _ _ h => h) (Or.inl ⟨by rfl, ?yB_6⟩) hHeld ?rB_6
          case yB_6 => (intro w hSw; (try dsimp only at hSw); (try simp only [List.getElem_toArray, List.getElem_cons_zero, List.getElem_cons_succ]); go_simp <;> with_reducible rfl)
          (try simp only [List.getElem_toArray, List.getElem_cons_zero, List.getElem_cons_succ, Act.put, List.setIfInBounds_toArray, List.set_cons_zero, List.set_cons_succ])
          refine wpAnyH_take (i := 7) (oi := _) (v := ?vB_7) rfl (by kernel_rfl) (by kernel_rfl) (by kernel_rfl) (fun _ _ _ h => h) (Or.inl ⟨by rfl, ?yB_7⟩) hHeld ?rB_7
          case yB_7 => (intro w hSw; (try dsimp only at hSw); (try simp only [List.getElem_toArray, List.getElem_cons_zero, List.getElem_cons_succ]); go_simp <;> with_reducible rfl)
          (try simp only [List.getElem_toArray, List.getElem_cons_zero, List.getElem_cons_succ, Act.put, List.setIfInBounds_toArray, List.set_cons_zero, List.set_cons_succ])
          refine wpAnyH_take (i := 8) (oi := _) (v := ?vB_8) rfl (by kernel_rfl) (by kernel_rfl) (by kernel_rfl) (fun _ _ _ h => h) (Or.inl ⟨by rfl, ?yB_8⟩) hHeld ?rB_8
          case yB_8 => (intro w hSw; (try dsimp only at hSw); (try simp only [List.getElem_toArray, List.getElem_cons_zero, List.getElem_cons_succ]); go_simp <;> with_reducible rfl)
          (try simp only [List.getElem_toArray, List.getElem_cons_zero, List.getElem_cons_succ, Act.put, List.setIfInBounds_toArray, List.set_cons_zero, List.set_cons_succ])
          refine wpAnyH_take (i := 9) (oi := _) (v := ?vB_9) rfl (by kernel_rfl) (by kernel_rfl) (by kernel_rfl) (fun _ _ _ h => h) (Or.inl ⟨by rfl, ?yB_9⟩) hHeld ?rB_9
          case yB_9 => (intro w hSw; (try dsimp only at hSw); (try simp only [List.getElem_toArray, List.getElem_cons_zero, List.getElem_cons_succ]); go_simp <;> with_reducible rfl)
          (try simp only [List.getElem_toArray, List.getElem_cons_zero, List.getElem_cons_succ, Act.put, List.setIfInBounds_toArray, List.set_cons_zero, List.set_cons_succ])
          refine wpAnyH_take (i := 10) (oi := _) (v := ?vB_10) rfl (by kernel_rfl) (by kernel_rfl) (by kernel_rfl) (fun _ _ _ h => h) (Or.inl ⟨by rfl, ?yB_10⟩) hHeld ?rB_10
          case yB_10 => (intro w hSw; (try dsimp only at hSw); (try simp only [List.getElem_toArray, List.getElem_cons_zero, List.getElem_cons_succ]); go_simp <;> with_reducible rfl)
          (try simp only [List.getElem_toArray, List.getElem_cons_zero, List.getElem_cons_succ, Act.put, List.setIfInBounds_toArray, List.set_cons_zero, List.set_cons_succ])
          refine wpAnyH_take (i := 11) (oi := _) (v := ?vB_11) rfl (by kernel_rfl) (by kernel_rfl) (by kernel_rfl) (fun _ _ _ h => h) (Or.inl ⟨by rfl, ?yB_11⟩) hHeld ?rB_11
          case yB_11 => (intro w hSw; (try dsimp only at hSw); (try simp only [List.getElem_toArray, List.getElem_cons_zero, List.getElem_cons_succ]); go_simp <;> with_reducible rfl)
          (try simp only [List.getElem_toArray, List.getElem_cons_zero, List.getElem_cons_succ, Act.put, List.setIfInBounds_toArray, List.set_cons_zero, List.set_cons_succ])
          refine wpAnyH_take (i := 12) (oi := _) (v := ?vB_12) rfl (by kernel_rfl) (by kernel_rfl) (by kernel_rfl) (fun _ _ _ h => h) (Or.inl ⟨by rfl, ?yB_12⟩) hHeld ?rB_12
          case yB_12 => (intro w hSw; (try dsimp only at hSw); (try simp only [List.getElem_toArray, List.getElem_cons_zero, List.getElem_cons_succ]); go_simp <;> with_reducible rfl)
          (try simp only [List.getElem_toArray, List.getElem_cons_zero, List.getElem_cons_succ, Act.put, List.setIfInBounds_toArray, List.set_cons_zero, List.set_cons_succ])
          refine wpAnyH_take (i := 13) (oi := _) (v := ?vB_13) rfl (by kernel_rfl) (by kernel_rfl) (by kernel_rfl) (fun _ _ _ h => h) (Or.inl ⟨by rfl, ?yB_13⟩) hHeld ?rB_13
          case yB_13 => (intro w hSw; (try dsimp only at hSw); (try simp only [List.getElem_toArray, List.getElem_cons_zero, List.getElem_cons_succ]); go_simp <;> with_reducible rfl)
          (try simp only [List.getElem_toArray, List.getElem_cons_zero, List.getElem_cons_succ, Act.put, List.setIfInBounds_toArray, List.set_cons_zero, List.set_cons_succ])
          refine wpAnyH_take (i := 14) (oi := _) (v := ?vB_14) rfl (by kernel_rfl) (by kernel_rfl) (by kernel_rfl) (fun _ _ _ h => h) (Or.inl ⟨by rfl, ?yB_14⟩) hHeld ?rB_14
          case yB_14 => (intro w hSw; (try dsimp only at hSw); (try simp only [List.getElem_toArray, List.getElem_cons_zero, List.getElem_cons_succ]); go_simp <;> with_reducible rfl)
          (try simp only [List.getElem_toArray, List.getElem_cons_zero, List.getElem_cons_succ, Act.put, List.setIfInBounds_toArray, List.set_cons_zero, List.set_cons_succ])
          refine wpAnyH_take (i := 15) (oi := _) (v := ?vB_15) rfl (by kernel_rfl) (by kernel_rfl) (by kernel_rfl) (fun _ _ _ h => h) (Or.inl ⟨by rfl, ?yB_15⟩) hHeld ?rB_15
          case yB_15 => (intro w hSw; (try dsimp only at hSw); (try simp only [List.getElem_toArray, List.getElem_cons_zero, List.getElem_cons_succ]); go_simp <;> with_reducible rfl)
          (try simp only [List.getElem_toArray, List.getElem_cons_zero, List.getElem_cons_succ, Act.put, List.setIfInBounds_toArray, List.set_cons_zero, List.set_cons_succ])
          refine wpAnyH_take (i := 16) (oi := _) (v := ?vB_16) rfl (by kernel_rfl) (by kernel_rfl) (by kernel_rfl) (fun _ _ _ h => h) (Or.inl ⟨by rfl, ?yB_16⟩) hHeld ?rB_16
          case yB_16 => (intro w hSw; (try dsimp only at hSw); (try simp only [List.getElem_toArray, List.getElem_cons_zero, List.getElem_cons_succ]); go_simp <;> with_reducible rfl)
          (try simp only [List.getElem_toArray, List.getElem_cons_zero, List.getElem_cons_succ, Act.put, List.setIfInBounds_toArray, List.set_cons_zero, List.set_cons_succ])
          refine wpAnyH_take (i := 17) (oi := _) (v := _) rfl (by kernel_rfl) (by kernel_rfl) (by kernel_rfl) (fun _ _ _ h => h) (Or.inr ⟨by rfl, rfl⟩) hHeld ?_
          (try simp only [List.getElem_toArray, List.getElem_cons_zero, List.getElem_cons_succ, Act.put, List.setIfInBounds_toArray, List.set_cons_zero, List.set_cons_succ])
          refine wpAnyH_take (i := 18) (oi := _) (v := _) rfl (by kernel_rfl) (by kernel_rfl) (by kernel_rfl) (fun _ _ _ h => h) (Or.inr ⟨by rfl, rfl⟩) hHeld ?_
          (try simp only [List.getElem_toArray, List.getElem_cons_zero, List.getElem_cons_succ, Act.put, List.setIfInBounds_toArray, List.set_cons_zero, List.set_cons_succ])
          refine wpAnyH_take (i := 19) (oi := _) (v := _) rfl (by kernel_rfl) (by kernel_rfl) (by kernel_rfl) (fun _ _ _ h => h) (Or.inr ⟨by rfl, rfl⟩) hHeld ?_
          (try simp only [List.getElem_toArray, List.getElem_cons_zero, List.getElem_cons_succ, Act.put, List.setIfInBounds_toArray, List.set_cons_zero, List.set_cons_succ])
          refine wpAnyH_take (i := 20) (oi := _) (v := _) rfl (by kernel_rfl) (by kernel_rfl) (by kernel_rfl) (fun _ _ _ h => h) (Or.inr ⟨by rfl, rfl⟩) hHeld ?_
          (try simp only [List.getElem_toArray, List.getElem_cons_zero, List.getElem_cons_succ, Act.put, List.setIfInBounds_toArray, List.set_cons_zero, List.set_cons_succ])
          refine wpAnyH_take (i := 21) (oi := _) (v := _) rfl (by kernel_rfl) (by kernel_rfl) (by kernel_rfl) (fun _ _ _ h => h) (Or.inr ⟨by rfl, rfl⟩) hHeld ?_
          (try simp only [List.getElem_toArray, List.getElem_cons_zero, List.getElem_cons_succ, Act.put, List.setIfInBounds_toArray, List.set_cons_zero, List.set_cons_succ])
          refine wpAnyH_take (i := 22) (oi := _) (v := ?vB_22) rfl (by kernel_rfl) (by kernel_rfl) (by kernel_rfl) (fun _ _ _ h => h) (Or.inl ⟨by rfl, ?yB_22⟩) hHeld ?rB_22
          case yB_22 => (intro w hSw; (try dsimp only at hSw); (try simp only [List.getElem_toArray, List.getElem_cons_zero, List.getElem_cons_succ]); go_simp <;> with_reducible rfl)
          (try simp only [List.getElem_toArray, List.getElem_cons_zero, List.getElem_cons_succ, Act.put, List.setIfInBounds_toArray, List.set_cons_zero, List.set_cons_succ])
          refine wpAnyH_done (by kernel_rfl) ?_ _
          refine NoPanic.normal ?_
          go_wp2_with fail
          go_meet
          exact ⟨by rw [HN.out, HQ3.out]; rfl, K2, D2⟩
        · have s1 : (x.o.ent != e0) = false := by rw [bne, q3]; rfl
          have s2 : (x.o.ent.toList != e0.toList) = false := by rw [bne, ← beq_toListBytes, q3]; rfl
          have HQ3 := Lib.hid q3
          have q4 := (beq_toListBytes x.o.ent e0).symm.trans q3
          have q5 : ¬ x.o.ent = e0 ∨ x.o.ent = e0 := (Classical.em _).symm
          clear q5
          refine wpAnyH_take (i := 0) (oi := _) (v := ?vC_0) rfl (by kernel_rfl) (by kernel_rfl) (by kernel_rfl) (fun _ _ _ h => h) (Or.inl ⟨by rfl, ?yC_0⟩) hHeld ?rC_0
          case yC_0 => (intro w hSw; (try dsimp only at hSw); (try simp only [List.getElem_toArray, List.getElem_cons_zero, List.getElem_cons_succ]); go_simp <;> with_reducible rfl)
          (try simp only [List.getElem_toArray, List.getElem_cons_zero, List.getElem_cons_succ, Act.put, List.setIfInBounds_toArray, List.set_cons_zero, List.set_cons_succ])
          refine wpAnyH_take (i := 1) (oi := _) (v := ?vC_1) rfl (by kernel_rfl) (by kernel_rfl) (by kernel_rfl) (fun _ _ _ h => h) (Or.inl ⟨by rfl, ?yC_1⟩) hHeld ?rC_1
          case yC_1 => (intro w hSw; (try dsimp only at hSw); (try simp only [List.getElem_toArray, List.getElem_cons_zero, List.getElem_cons_succ]); go_simp <;> with_reducible rfl)
          (try simp only [List.getElem_toArray, List.getElem_cons_zero, List.getElem_cons_succ, Act.put, List.setIfInBounds_toArray, List.set_cons_zero, List.set_cons_succ])
          refine wpAnyH_take (i := 2) (oi := _) (v := ?vC_2) rfl (by kernel_rfl) (by kernel_rfl) (by kernel_rfl) (fun _ _ _ h => h) (Or.inl ⟨by rfl, ?yC_2⟩) hHeld ?rC_2
          case yC_2 => (intro w hSw; (try dsimp only at hSw); (try simp only [List.getElem_toArray, List.getElem_cons_zero, List.getElem_cons_succ]); go_simp <;> with_reducible rfl)
          (try simp only [List.getElem_toArray, List.getElem_cons_zero, List.getElem_cons_succ, Act.put, List.setIfInBounds_toArray, List.set_cons_zero, List.set_cons_succ])
          refine wpAnyH_ready (rs := [3]) (by kernel_rfl) (by simp) ?_
          refine AllReadyH.cons (o := _) rfl (fun K hK => ?_) AllReadyH.nil
          (try simp only [List.getElem_toArray, List.getElem_cons_zero, List.getElem_cons_succ])
          go_simp
          (refine Calls.mono (A1.out _) ?_; rintro e w2 ⟨rfl, rfl⟩; have D2 := D0; have K2 := K0)
          refine hK.out _ _ ?_ (fun hHeld => ?_)
          exact CE.out _ D2.out K2.out
          clear hK K
          (try simp only [List.getElem_toArray, List.getElem_cons_zero, List.getElem_cons_succ, Act.put, List.setIfInBounds_toArray, List.set_cons_zero, List.set_cons_succ])
          refine wpAnyH_take (i := 4) (oi := _) (v := ?vC_4) rfl (by kernel_rfl) (by kernel_rfl) (by kernel_rfl) (fun _ _ _ h => h) (Or.inl ⟨by rfl, ?yC_4⟩) hHeld ?rC_4
          case yC_4 => (intro w hSw; (try dsimp only at hSw); (try simp only [List.getElem_toArray, List.getElem_cons_zero, List.getElem_cons_succ]); go_simp <;> with_reducible rfl)
          (try simp only [List.getElem_toArray, List.getElem_cons_zero, List.getElem_cons_succ, Act.put, List.setIfInBounds_toArray, List.set_cons_zero, List.set_cons_succ])
          refine wpAnyH_take (i := 5) (oi := _) (v := ?vC_5) rfl (by kernel_rfl) (by kernel_rfl) (by kernel_rfl) (fun _ _ _ h => h) (Or.inl ⟨by rfl, ?yC_5⟩) hHeld ?rC_5
          case yC_5 => (intro w hSw; (try dsimp only at hSw); (try simp only [List.getElem_toArray, List.getElem_cons_zero, List.getElem_cons_succ]); go_simp <;> with_reducible rfl)
          (try simp only [List.getElem_toArray, List.getElem_cons_zero, List.getElem_cons_succ, Act.put, List.setIfInBounds_toArray, List.set_cons_zero, List.set_cons_succ])
          refine wpAnyH_take (i := 6) (oi := _) (v := ?vC_6) rfl (by kernel_rfl) (by kernel_rfl) (by kernel_rfl) (fun _ _ _ h => h) (Or.inl ⟨by rfl, ?yC_6⟩) hHeld ?rC_6
          case yC_6 => (intro w hSw; (try dsimp only at hSw); (try simp only [List.getElem_toArray, List.getElem_cons_zero, List.getElem_cons_succ]); go_simp <;> with_reducible rfl)
          (try simp only [List.getElem_toArray, List.getElem_cons_zero, List.getElem_cons_succ, Act.put, List.setIfInBounds_toArray, List.set_cons_zero, List.set_cons_succ])
          refine wpAnyH_take (i := 7) (oi := _) (v := ?vC_7) rfl (by kernel_rfl) (by kernel_rfl) (by kernel_rfl) (fun _ _ _ h => h) (Or.inl ⟨by rfl, ?yC_7⟩) hHeld ?rC_7
          case yC_7 => (intro w hSw; (try dsimp only at hSw); (try simp only [List.getElem_toArray, List.getElem_cons_zero, List.getElem_cons_succ]); go_simp <;> with_reducible rfl)
          (try simp only [List.getElem_toArray, List.getElem_cons_zero, List.getElem_cons_succ, Act.put, List.setIfInBounds_toArray, List.set_cons_zero, List.set_cons_succ])
          refine wpAnyH_take (i := 8) (oi := _) (v := ?vC_8) rfl (by kernel_rfl) (by kernel_rfl) (by kernel_rfl) (fun _ _ _ h => h) (Or.inl ⟨by rfl, ?yC_8⟩) hHeld ?rC_8
          case yC_8 => (intro w hSw; (try dsimp only at hSw); (try simp only [List.getElem_toArray, List.getElem_cons_zero, List.getElem_cons_succ]); go_simp <;> with_reducible rfl)
          (try simp only [List.getElem_toArray, List.getElem_cons_zero, List.getElem_cons_succ, Act.put, List.setIfInBounds_toArray, List.set_cons_zero, List.set_cons_succ])
          refine wpAnyH_take (i := 9) (oi := _) (v := ?vC_9) rfl (by kernel_rfl) (by kernel_rfl) (by kernel_rfl) (fun _ _ _ h => h) (Or.inl ⟨by rfl, ?yC_9⟩) hHeld ?rC_9
          case yC_9 => (intro w hSw; (try dsimp only at hSw); (try simp only [List.getElem_toArray, List.getElem_cons_zero, List.getElem_cons_succ]); go_simp <;> with_reducible rfl)
          (try simp only [List.getElem_toArray, List.getElem_cons_zero, List.getElem_cons_succ, Act.put, List.setIfInBounds_toArray, List.set_cons_zero, List.set_cons_succ])
          refine wpAnyH_take (i := 10) (oi := _) (v := ?vC_10) rfl (by kernel_rfl) (by kernel_rfl) (by kernel_rfl) (fun _ _ _ h => h) (Or.inl ⟨by rfl, ?yC_10⟩) hHeld ?rC_10
          case yC_10 => (intro w hSw; (try dsimp only at hSw); (try simp only [List.getElem_toArray, List.getElem_cons_zero, List.getElem_cons_succ]); go_simp <;> with_reducible rfl)
          (try simp only [List.getElem_toArray, List.getElem_cons_zero, List.getElem_cons_succ, Act.put, List.setIfInBounds_toArray, List.set_cons_zero, List.set_cons_succ])
          refine wpAnyH_take (i := 11) (oi := _) (v := ?vC_11) rfl (by kernel_rfl) (by kernel_rfl) (by kernel_rfl) (fun _ _ _ h => h) (Or.inl ⟨by rfl, ?yC_11⟩) hHeld ?rC_11
          case yC_11 => (intro w hSw; (try dsimp only at hSw); (try simp only [List.getElem_toArray, List.getElem_cons_zero, List.getElem_cons_succ]); go_simp <;> with_reducible rfl)
          (try simp only [List.getElem_toArray, List.getElem_cons_zero, List.getElem_cons_succ, Act.put, List.setIfInBounds_toArray, List.set_cons_zero, List.set_cons_succ])
          refine wpAnyH_take (i := 12) (oi := _) (v := ?vC_12) rfl (by kernel_rfl) (by kernel_rfl) (by kernel_rfl) (fun _ _ _ h => h) (Or.inl ⟨by rfl, ?yC_12⟩) hHeld ?rC_12
          case yC_12 => (intro w hSw; (try dsimp only at hSw); (try simp only [List.getElem_toArray, List.getElem_cons_zero, List.getElem_cons_succ]); go_simp <;> with_reducible rfl)
          (try simp only [List.getElem_toArray, List.getElem_cons_zero, List.getElem_cons_succ, Act.put, List.setIfInBounds_toArray, List.set_cons_zero, List.set_cons_succ])
          refine wpAnyH_take (i := 13) (oi := _) (v := ?vC_13) rfl (by kernel_rfl) (by kernel_rfl) (by kernel_rfl) (fun _ _ _ h => h) (Or.inl ⟨by rfl, ?yC_13⟩) hHeld ?rC_13
          case yC_13 => (intro w hSw; (try dsimp only at hSw); (try simp only [List.getElem_toArray, List.getElem_cons_zero, List.getElem_cons_succ]); go_simp <;> with_reducible rfl)
          (try simp only [List.getElem_toArray, List.getElem_cons_zero, List.getElem_cons_succ, Act.put, List.setIfInBounds_toArray, List.set_cons_zero, List.set_cons_succ])
          refine wpAnyH_take (i := 14) (oi := _) (v := ?vC_14) rfl (by kernel_rfl) (by kernel_rfl) (by kernel_rfl) (fun _ _ _ h => h) (Or.inl ⟨by rfl, ?yC_14⟩) hHeld ?rC_14
          case yC_14 => (intro w hSw; (try dsimp only at hSw); (try simp only [List.getElem_toArray, List.getElem_cons_zero, List.getElem_cons_succ]); go_simp <;> with_reducible rfl)
          (try simp only [List.getElem_toArray, List.getElem_cons_zero, List.getElem_cons_succ, Act.put, List.setIfInBounds_toArray, List.set_cons_zero, List.set_cons_succ])
          refine wpAnyH_take (i := 15) (oi := _) (v := ?vC_15) rfl (by kernel_rfl) (by kernel_rfl) (by kernel_rfl) (fun _ _ _ h => h) (Or.inl ⟨by rfl, ?yC_15⟩) hHeld ?rC_15
          case yC_15 => (intro w hSw; (try dsimp only at hSw); (try simp only [List.getElem_toArray, List.getElem_cons_zero, List.getElem_cons_succ]); go_simp <;> with_reducible rfl)
          (try simp only [List.getElem_toArray, List.getElem_cons_zero, List.getElem_cons_succ, Act.put, List.setIfInBounds_toArray, List.set_cons_zero, List.set_cons_succ])
          refine wpAnyH_take (i := 16) (oi := _) (v := ?vC_16) rfl (by kernel_rfl) (by kernel_rfl) (by kernel_rfl) (fun _ _ _ h => h) (Or.inl ⟨by rfl, ?yC_16⟩) hHeld ?rC_16
          case yC_16 => (intro w hSw; (try dsimp only at hSw); (try simp only [List.getElem_toArray, List.getElem_cons_zero, List.getElem_cons_succ]); go_simp <;> with_reducible rfl)
          (try simp only [List.getElem_toArray, List.getElem_cons_zero, List.getElem_cons_succ, Act.put, List.setIfInBounds_toArray, List.set_cons_zero, List.set_cons_succ])
          refine wpAnyH_take (i := 17) (oi := _) (v := ?vC_17) rfl (by kernel_rfl) (by kernel_rfl) (by kernel_rfl) (fun _ _ _ h => h) (Or.inl ⟨by rfl, ?yC_17⟩) hHeld ?rC_17
          case yC_17 => (intro w hSw; (try dsimp only at hSw); (try simp only [List.getElem_toArray, List.getElem_cons_zero, List.getElem_cons_succ]); go_simp <;> with_reducible rfl)
          (try simp only [List.getElem_toArray, List.getElem_cons_zero, List.getElem_cons_succ, Act.put, List.setIfInBounds_toArray, List.set_cons_zero, List.set_cons_succ])
          refine wpAnyH_take (i := 18) (oi := _) (v := ?vC_18) rfl (by kernel_rfl) (by kernel_rfl) (by kernel_rfl) (fun _ _ _ h => h) (Or.inl ⟨by rfl, ?yC_18⟩) hHeld ?rC_18
          case yC_18 => (intro w hSw; (try dsimp only at hSw); (try simp only [List.getElem_toArray, List.getElem_cons_zero, List.getElem_cons_succ]); go_simp <;> with_reducible rfl)
          (try simp only [List.getElem_toArray, List.getElem_cons_zero, List.getElem_cons_succ, Act.put, List.setIfInBounds_toArray, List.set_cons_zero, List.set_cons_succ])
          refine wpAnyH_take (i := 19) (oi := _) (v := ?vC_19) rfl (by kernel_rfl) (by kernel_rfl) (by kernel_rfl) (fun _ _ _ h => h) (Or.inl ⟨by rfl, ?yC_19⟩) hHeld ?rC_19
          case yC_19 => (intro w hSw; (try dsimp only at hSw); (try simp only [List.getElem_toArray, List.getElem_cons_zero, List.getElem_cons_succ]); go_simp <;> with_reducible rfl)
          (try simp only [List.getElem_toArray, List.getElem_cons_zero, List.getElem_cons_succ, Act.put, List.setIfInBounds_toArray, List.set_cons_zero, List.set_cons_succ])
          refine wpAnyH_ready (rs := [20]) (by kernel_rfl) (by simp) ?_
          refine AllReadyH.cons (o := _) rfl (fun K hK => ?_) AllReadyH.nil
          (try simp only [List.getElem_toArray, List.getElem_cons_zero, List.getElem_cons_succ])
          go_simp
          (refine Calls.mono (A2.out _) ?_; rintro e w3 ⟨rfl, rfl⟩; have D3 := D2; have K3 := K2)
          refine hK.out _ _ ?_ (fun hHeld => ?_)
          exact CE.out _ D3.out K3.out
          clear hK K
          (try simp only [List.getElem_toArray, List.getElem_cons_zero, List.getElem_cons_succ, Act.put, List.setIfInBounds_toArray, List.set_cons_zero, List.set_cons_succ])
          refine wpAnyH_take (i := 21) (oi := _) (v := ?vC_21) rfl (by kernel_rfl) (by kernel_rfl) (by kernel_rfl) (fun _ _ _ h => h) (Or.inl ⟨by rfl, ?yC_21⟩) hHeld ?rC_21
          case yC_21 => (intro w hSw; (try dsimp only at hSw); (try simp only [List.getElem_toArray, List.getElem_cons_zero, List.getElem_cons_succ]); go_simp <;> with_reducible rfl)
          (try simp only [List.getElem_toArray, List.getElem_cons_zero, List.getElem_cons_succ, Act.put, List.setIfInBounds_toArray, List.set_cons_zero, List.set_cons_succ])
          refine wpAnyH_take (i := 22) (oi := _) (v := ?vC_22) rfl (by kernel_rfl) (by kernel_rfl) (by kernel_rfl) (fun _ _ _ h => h) (Or.inl ⟨by rfl, ?yC_22⟩) hHeld ?rC_22
          case yC_22 => (intro w hSw; (try dsimp only at hSw); (try simp only [List.getElem_toArray, List.getElem_cons_zero, List.getElem_cons_succ]); go_simp <;> with_reducible rfl)
          (try simp only [List.getElem_toArray, List.getElem_cons_zero, List.getElem_cons_succ, Act.put, List.setIfInBounds_toArray, List.set_cons_zero, List.set_cons_succ])
          refine wpAnyH_done (by kernel_rfl) ?_ _
          refine NoPanic.normal ?_
          go_wp2_with fail
          go_meet
          exact ⟨by rw [HN.out, HQ3.out]; simp, K3, D3⟩
      case rest =>
        obtain ⟨rfl, K6, D6⟩ := hcut
        cases N
        · have HZ := Lib.hid (show chkAt (l.map Cl.p) k = 4 from HX.out.trans (chk1_name HNQ.out))
          have HE := Lib.hid (show R = 4 by rw [HR.out, HAT.out (by rw [HZ.out]; decide), HZ.out])
          go_wp2_with fail
          go_ret
          exact ⟨by rw [HE.out]; rfl, D6.out⟩
        obtain ⟨g, hg⟩ : ∃ g, g = wr.heap.size := ⟨_, rfl⟩
        rw [← hg] at K6
        rw [← hg]
        clear HW1 B1 C1 hg
        go_wp2_with fail
        go_loopw [5] (fun i wq => ∃ m : Nat, i = .int .i64 m ∧ m ≤ k ∧ Hid (∀ j (hj : j < m) (hl : j < l.length), ((l[j]).o.id == x.o.id) = false) ∧ Hid (Chg [] w wq) ∧ Hid (wq.heap[g]? = some (clO x))) (fun i _ => k - (intOf i).toNat)
        case atStart => exact ⟨0, rfl, Nat.zero_le _, Lib.hid (fun j hj => by omega), D6, K6⟩
        case round =>
          obtain ⟨m, rfl, hmk, HM, D7, K7⟩ := hrel
          have hm0 : (0 : Int) ≤ (m : Int) := by omega
          have k7 := blk_cell (show wr.heap[g]? = some (.cells _ _ (0, 0)) from K7.out)
          by_cases hm : m < k
          · have hm1 : (m : Int) < (k : Int) := by omega
            have hml : m < l.length := by omega
            have y0 := HIDS.out m hml wr D7.out
            have HY := Lib.hid (fun h => HAY.out m hm hml x.o.id h)
            have HM2 := Lib.hid (fun (h : ((l[m]).o.id == x.o.id) = false) => any_stepR HM.out h)
            have hm2 : (m : Int) < (l.length : Int) := by omega
            have hll : (l.length : Int) ≤ 8 := h8'
            generalize hyy : (l[m]).o.id = y at *
            cases hq : (y == x.o.id)
            · have hq4 := (beq_toListBytes y x.o.id).symm.trans hq
              have HM3 := Lib.hid (HM2.out hq)
              clear hyy
              go_wp2_with fail
              go_quiet (fail)
              go_wp2_with fail
              exact ⟨⟨m + 1, by go_num, by omega, HM3, Lib.hid (D7.out.drewN _), Lib.hid (((Chg.refl [] _).drewN _).at (by simp) K7.out)⟩, by simp [intOf]; omega⟩
            · have hq4 := (beq_toListBytes y x.o.id).symm.trans hq
              have HZ := Lib.hid (show chkAt (l.map Cl.p) k = 6 from HX.out.trans (chk1_id HNQ.out (HY.out hq)))
              have HE := Lib.hid (show R = 6 by rw [HR.out, HAT.out (by rw [HZ.out]; decide), HZ.out])
              clear hyy hq
              go_wp2_with fail
              go_quiet (fail)
              go_wp2_with fail
              go_ret
              exact ⟨by rw [HE.out]; rfl, D7.out.drewN _⟩
          have hmk2 : m = k := by omega
          have hmz : ¬ (m : Int) < (k : Int) := by omega
          have HH := Lib.hid (HAF.out x.o.id (fun j hj hl => HM.out j (by omega) hl))
          clear hmk hm hmk2
          obtain ⟨BT, hBT⟩ : ∃ BT, BT = badT x.p := ⟨_, rfl⟩
          have HB := Lib.hid (show BT = (!timeB x.from_ || (!(x.to_ == -1) && (!timeB x.to_ || decide (x.to_ < x.from_)))) by rw [hBT]; rfl)
          have HBT := Lib.hid hBT
          clear hBT
          go_upto_region 14 with fail
          go_cut [84] (fun v wx => v = .bool BT ∧ Hid (wx.heap[g]? = some (clO x)) ∧ Hid (Chg [] w wx))
          case first =>
            unfold timeB at HB
            by_cases h1 : 0 ≤ x.from_
            case neg =>
              have e1 := decide_eq_false h1
              rw [e1] at HB
              have HE := Lib.hid (show BT = true from HB.out.trans (by first | rfl | simp [*]))
              go_wp2_with fail
              go_meet
              refine ⟨?_, K7, D7⟩
              refine congrArg Value.bool (Eq.trans ?_ HE.out.symm)
              first | rfl | (simp; done) | (simp; omega)
            have e1 := decide_eq_true h1
            rw [e1] at HB
            by_cases h2 : x.from_ ≤ 1073741824
            case neg =>
              have e2 := decide_eq_false h2
              rw [e2] at HB
              have HE := Lib.hid (show BT = true from HB.out.trans (by first | rfl | simp [*]))
              go_wp2_with fail
              go_meet
              refine ⟨?_, K7, D7⟩
              refine congrArg Value.bool (Eq.trans ?_ HE.out.symm)
              first | rfl | (simp; done) | (simp; omega)
            have e2 := decide_eq_true h2
            rw [e2] at HB
            cases e3 : (x.to_ == -1)
            · have e3b : (x.to_ != -1) = true := by rw [bne, e3]; rfl
              rw [e3] at HB
              by_cases h4 : x.to_ < x.from_
              · have e4 := decide_eq_true h4
                rw [e4] at HB
                have HE := Lib.hid (show BT = true from HB.out.trans (by first | rfl | simp [*]))
                go_wp2_with fail
                go_meet
                refine ⟨?_, K7, D7⟩
                refine congrArg Value.bool (Eq.trans ?_ HE.out.symm)
                first | rfl | (simp; done) | (simp; omega)
              · have e4 := decide_eq_false h4
                have h40 : 0 ≤ x.to_ := by omega
                have e40 := decide_eq_true h40
                rw [e4, e40] at HB
                by_cases h5 : x.to_ ≤ 1073741824
                · have e5 := decide_eq_true h5
                  rw [e5] at HB
                  have HE := Lib.hid (show BT = false from HB.out.trans (by first | rfl | simp [*]))
                  go_wp2_with fail
                  go_meet
                  refine ⟨?_, K7, D7⟩
                  refine congrArg Value.bool (Eq.trans ?_ HE.out.symm)
                  first | rfl | (simp; done) | (simp; omega)
                · have e5 := decide_eq_false h5
                  rw [e5] at HB
                  have HE := Lib.hid (show BT = true from HB.out.trans (by first | rfl | simp [*]))
                  go_wp2_with fail
                  go_meet
                  refine ⟨?_, K7, D7⟩
                  refine congrArg Value.bool (Eq.trans ?_ HE.out.symm)
                  first | rfl | (simp; done) | (simp; omega)
            · have e3b : (x.to_ != -1) = false := by rw [bne, e3]; rfl
              rw [e3] at HB
              have HE := Lib.hid (show BT = false from HB.out.trans (by first | rfl | simp [*]))
              go_wp2_with fail
              go_meet
              refine ⟨?_, K7, D7⟩
              refine congrArg Value.bool (Eq.trans ?_ HE.out.symm)
              first | rfl | (simp; done) | (simp; omega)
          case rest =>
            obtain ⟨rfl, K9, D9⟩ := hcut
            cases BT
            · have HC := Lib.hid (show chkAt (l.map Cl.p) k = (doZ [nullC] x.o.p).1 from HX.out.trans (chk1_do HNQ.out HH.out HBT.out.symm))
              have AD := Lib.hid (fun w' (hc : Chg [] w w') a c (hi : InIs ceC 4 w' a c [nullC]) => rdo_any a c [nullC] x.o w' hi nullGood (IN.out.1.kept hc) GX.out.1 (HT.out.kept hc))
              obtain ⟨Z, hZ⟩ : ∃ Z, Z = doZ [nullC] x.o.p := ⟨_, rfl⟩
              rw [← hZ] at HC AD
              clear hZ
              unfold eoC at AD
              have CC0 := D9
              have PP0 := K9
              go_upto_region 16 with fail
              have CC := Lib.hid (D9.out.drew)
              have PP := Lib.hid (((Chg.refl [] _).drew).at (by simp) K9.out)
              go_cut [8] (fun v wx => v = .int .i64 Z.1 ∧ Hid (Chg [] w wx))
              case first =>
                go_region_held3 (fun w' => w'.cell? ⟨g, 0, none⟩ = some (.string x.o.ent) ∧ w'.cell? ⟨g, 1, none⟩ = some (.string x.o.id) ∧ w'.cell? ⟨g, 2, none⟩ = some (.string x.o.op) ∧ w'.cell? ⟨g, 3, none⟩ = some (.slice x.o.aa x.o.args.length x.o.ac))
                  (with_reducible first | exact four_cells PP.out | exact four_cells (blk_alloc PP.out) | exact four_cells (((Chg.refl [] _).drew).at (by simp) (blk_alloc PP0.out)) | exact four_cells (far_blk PP.out TT.out) | exact four_cells (far_blk (blk_alloc PP.out) (heap_alloc_new _ _)))
                  (first
                    | (go_at_call 17; (with_reducible refine Calls.mono (rnull_any _) ?_); rintro e w9 ⟨ca, cc, rfl, hi, hc⟩; have TT := Lib.hid (hc.at (by simp) TT.out); have CC := Lib.hid (CC.out.thenSame hc); have PP := Lib.hid (hc.at (by simp) PP.out); have k10 := blk_cell TT.out; have f10 := blk_free TT.out; have II := Lib.hid hi; clear hi hc)
                    | (go_at_call 17; (with_reducible refine Calls.mono (rnull_any _) ?_); rintro e w9 ⟨ca, cc, rfl, hi, hc⟩; have CC := Lib.hid (CC.out.thenSame hc); have PP := Lib.hid (hc.at (by simp) PP.out); have II := Lib.hid hi; clear hi hc)
                    | (go_at_call 17; (with_reducible refine Calls.mono (rnull_any _) ?_); rintro e w9 ⟨ca, cc, rfl, hi, hc⟩; have LT := Lib.hid CC.out.size; have TT := Lib.hid (hc.at (by simp) (heap_alloc_new _ (.cells #[.int .i64 0, .slice none 0 0] 38))); have CC := Lib.hid ((CC.out.alloc _).thenSame hc); have PP := Lib.hid (hc.at (by simp) (blk_alloc PP.out)); have k10 := blk_cell TT.out; have f10 := blk_free TT.out; have II := Lib.hid hi; clear hi hc)
                    | (go_at_call 17; (with_reducible refine Calls.mono (rnull_any _) ?_); rintro e w9 ⟨ca, cc, rfl, hi, hc⟩; have LT := Lib.hid CC0.out.size; have TT := Lib.hid (hc.at (by simp) (((Chg.refl [] _).drew).at (by simp) (heap_alloc_new _ (.cells #[.int .i64 0, .slice none 0 0] 38)))); have CC := Lib.hid (((CC0.out.alloc _).drew).thenSame hc); have PP := Lib.hid (hc.at (by simp) (((Chg.refl [] _).drew).at (by simp) (blk_alloc PP0.out))); have k10 := blk_cell TT.out; have f10 := blk_free TT.out; have II := Lib.hid hi; clear hi hc)
                    | (go_at_call 16; (with_reducible refine Calls.mono (AD.out _ CC.out _ _ II.out) ?_); rintro e w9 ⟨na, nc, va, vc, rfl, -, -, hc⟩; have TT := Lib.hid (hc.at (by simp) TT.out); have CC := Lib.hid (CC.out.thenSame hc); have PP := Lib.hid (hc.at (by simp) PP.out); have k10 := blk_cell TT.out; have f10 := blk_free TT.out; clear hc)
                    | (go_at_call 16; (with_reducible refine Calls.mono (AD.out _ CC.out _ _ II.out) ?_); rintro e w9 ⟨na, nc, va, vc, rfl, -, -, hc⟩; have CC := Lib.hid (CC.out.thenSame hc); have PP := Lib.hid (hc.at (by simp) PP.out); clear hc)
                    | (go_at_call 16; (with_reducible refine Calls.mono (AD.out _ (CC.out.alloc _) _ _ (II.out.kept ((Chg.refl [] _).alloc _))) ?_); rintro e w9 ⟨na, nc, va, vc, rfl, -, -, hc⟩; have LT := Lib.hid CC.out.size; have TT := Lib.hid (hc.at (by simp) (heap_alloc_new _ (.cells #[.int .i64 0, .slice none 0 0] 38))); have CC := Lib.hid ((CC.out.alloc _).thenSame hc); have PP := Lib.hid (hc.at (by simp) (blk_alloc PP.out)); have k10 := blk_cell TT.out; have f10 := blk_free TT.out; clear hc))
                all_goals go_wp2_with fail
                all_goals go_meet
                all_goals first
                  | (with_reducible exact ⟨rfl, Lib.hid (CC.out.alloc _)⟩)
                  | exact ⟨rfl, Lib.hid (chg_two CC.out LT.out _ _)⟩
              case rest =>
                obtain ⟨rfl, D12⟩ := hcut
                generalize Z.1 = z at *
                by_cases hz : z = 0
                · have HS2 := Lib.hid (show ∀ j, j < k + 1 → chkAt (l.map Cl.p) j = 0 from fun j hj => by
                    by_cases hjk : j < k
                    · exact HS.out j hjk
                    · have : j = k := by omega
                      rw [this, HC.out, hz])
                  subst hz
                  go_wp2_with fail
                  exact ⟨⟨k + 1, by go_num, by omega, HS2, D12⟩, by simp [intOf]; omega⟩
                · have HE := Lib.hid (show R = z by rw [HR.out, HAT.out (by rw [HC.out]; exact hz), HC.out])
                  have hzb : (z != 0) = true := by simpa using hz
                  clear hz
                  go_wp2_with fail
                  go_ret
                  exact ⟨retI HE.out.symm, D12.out⟩
            · have HZ := Lib.hid (show chkAt (l.map Cl.p) k = 2 from HX.out.trans (chk1_bad HNQ.out HH.out HBT.out.symm))
              have HE := Lib.hid (show R = 2 by rw [HR.out, HAT.out (by rw [HZ.out]; decide), HZ.out])
              go_wp2_with fail
              go_ret
              exact ⟨by rw [HE.out]; rfl, D9.out⟩
    · have hks : k = l.length := by omega
      have HE := Lib.hid (show R = 0 by rw [HR.out]; exact hcheck_ok H8.out (fun j hj => HS.out j (by rw [List.length_map] at hj; omega)))
      clear hks
      go_wp2_with fail
      go_ret
      exact ⟨by rw [HE.out]; rfl, D.out⟩
end Go.Proofs.YtnhemokmgpelaaaGreatDoor
