/- Chapter 9: the reference's parts. Condition: the parts are indices of nodes. -/
import Derived.Test.YtolidiafomceiaaGreatDoorMStaK
import Derived.Test.YtolidiafomceiaaGreatDoorSttT
namespace Go.Proofs.YtolidiafomceiaaGreatDoor
set_option linter.unusedVariables false
set_option linter.unusedSimpArgs false
open Go.RowKit
def fitAt (l : List PNd) (x : PNd) (i : Nat) : Bool := match x.kids[i]? with | some k => fitsB x (i : Int) (kindAt l k.toNat) | none => true
def fitsTo (l : List PNd) (x : PNd) (k : Nat) : Bool := (List.range k).all (fitAt l x)
/-- The counts and the kinds of a node's parts. -/
def partsB (l : List PNd) (x : PNd) : Bool := countB x && fitsTo l x x.kids.length
theorem fitsTo_step {l : List PNd} {x : PNd} {k : Nat} : fitsTo l x (k + 1) = (fitsTo l x k && fitAt l x k) := by
  unfold fitsTo
  rw [List.range_succ, List.all_append, List.all_cons, List.all_nil, Bool.and_true]
theorem fitsTo_no {l : List PNd} {x : PNd} {k : Nat} (hk : k < x.kids.length) (h : fitAt l x k = false) : fitsTo l x x.kids.length = false := by
  unfold fitsTo
  rw [List.all_eq_false]
  exact ⟨k, by simpa using hk, by rw [h]; simp⟩
set_option maxHeartbeats 32000000 in
set_option maxRecDepth 100000 in
theorem rparts_any {na : Option Addr} {nc : Nat} {l : List Nd} (x : Nd) (w : World) (hl : InIs ndC 5 w na nc l) (hx : NdIn w x) (hk : ∀ i (h : i < x.kids.length), ∃ m : Nat, x.kids[i] = (m : Int) ∧ m < l.length) : Calls Tryz.prog 67 #[.slice na l.length nc, .agg (ndC x).toArray] w fun e w' => e = .returned (.bool (partsB (l.map Nd.p) x.p)) ∧ Chg [] w w' := by
  obtain ⟨R, hR⟩ : ∃ R, R = partsB (l.map Nd.p) x.p := ⟨_, rfl⟩
  rw [← hR]
  have HR := Lib.hid hR
  have HL := Lib.hid (fun w' (hc : Chg [] w w') => hl.kept hc)
  have HD := Lib.hid (fun w' (hc : Chg [] w w') => show InIs icI 1 w' x.da x.dc x.kids from (hx.kept hc).2)
  have HKK := Lib.hid hk
  have HLM := Lib.hid (fun m (hm : m < l.length) => show kindAt (l.map Nd.p) m = (l[m]).kind from by
    unfold kindAt
    rw [List.getElem?_map, List.getElem?_eq_getElem hm]
    rfl)
  have HKM := Lib.hid (show (x.kids.length : Int) ≤ 9223372036854775807 by have h1 := hx.2.2.1; have h2 := hx.2.2.2.1; unfold maxLen at h2; omega)
  generalize hL : l.map Nd.p = L at *
  obtain ⟨W1, hW1⟩ : ∃ W1, W1 = w.alloc (ndO x) := ⟨_, rfl⟩
  have C1 := Lib.hid (show Chg [] w W1 by rw [hW1]; exact (Chg.refl _ _).alloc _)
  have B1 := Lib.hid (show W1.heap[w.heap.size]? = some (ndO x) by rw [hW1]; exact heap_alloc_new _ _)
  clear hR hl hx hk hL
  obtain ⟨kind, text, n, ka, kc, keys, da, dc, kids⟩ := x
  unfold ndO at hW1 B1
  simp only at hW1 B1 HD HKK HKM
  have HW1 := Lib.hid hW1
  have k1 := blk_cell B1.out
  have HRR := Lib.hid (show R = partsB L ⟨kind, text, n, keys, kids⟩ from HR.out)
  simp only [ndC]
  clear hW1 HR
  by_cases hk1 : kind = 1
  · subst hk1
    by_cases hct : countB ⟨1, text, n, keys, kids⟩ = true
    · have hm : ((kids.length : Int) != 0) = false := by unfold countB at hct; simp at hct; simp [hct]
      have HRF := Lib.hid (show R = fitsTo L ⟨1, text, n, keys, kids⟩ kids.length by rw [HRR.out]; unfold partsB; rw [hct, Bool.true_and])
      clear HRR hct
      go_enter Tryz.func67, Tryz.ntmps67
      go_upto_region 1 with fail
      rw [← HW1.out]
      go_wp2_with fail
      go_loopw [7] (fun u wr => ∃ k : Nat, u = .int .i64 k ∧ k ≤ kids.length ∧ Hid (fitsTo L ⟨1, text, n, keys, kids⟩ k = true) ∧ Hid (Chg [] w wr) ∧ Hid (wr.heap[w.heap.size]? = some (.cells #[.int .i64 1, .string text, .int .i64 n, .slice ka keys.length kc, .slice da kids.length dc] 49 (0, 0)))) (fun u _ => kids.length - (intOf u).toNat)
      case atStart => exact ⟨0, rfl, Nat.zero_le _, Lib.hid rfl, C1, B1⟩
      case round =>
        obtain ⟨k, rfl, hk, HK, C, B⟩ := hrel
        have hk0 : (0 : Int) ≤ (k : Int) := by omega
        by_cases hkl : k < kids.length
        · have hkl' : (k : Int) < (kids.length : Int) := by omega
          obtain ⟨b1, o1, e1, -, -, hc1⟩ := (HD.out _ C.out).1.elem (Chg.refl [] _) k hkl
          have u1 := hc1 0 (by omega)
          simp only [icI, List.getElem?_cons_zero, Nat.add_zero, Nat.mul_one] at u1
          obtain ⟨m, hm1, hm2⟩ := HKK.out k hkl
          rw [hm1] at u1
          obtain ⟨b2, o2, e2, -, -, hc2⟩ := (HL.out _ C.out).1.elem (Chg.refl [] _) m hm2
          have y0 := hc2 0 (by omega)
          have y1 := hc2 1 (by omega)
          have y2 := hc2 2 (by omega)
          have y3 := hc2 3 (by omega)
          have y4 := hc2 4 (by omega)
          simp only [ndC, List.getElem?_cons_zero, List.getElem?_cons_succ, Nat.add_zero] at y0 y1 y2 y3 y4
          have HA : fitAt L ⟨1, text, n, keys, kids⟩ k = fitsB ⟨1, text, n, keys, kids⟩ (k : Int) (l[m]).kind := by
            unfold fitAt
            rw [show kids[k]? = some (m : Int) from by rw [List.getElem?_eq_getElem hkl, hm1]]
            show fitsB _ _ (kindAt L (m : Int).toNat) = _
            rw [Int.toNat_natCast, HLM.out m hm2]
          have HN := Lib.hid (fun (h : fitAt L ⟨1, text, n, keys, kids⟩ k = false) => show R = false by rw [HRF.out]; exact fitsTo_no hkl h)
          have HY := Lib.hid (fun (h : fitAt L ⟨1, text, n, keys, kids⟩ k = true) => show fitsTo L ⟨1, text, n, keys, kids⟩ (k + 1) = true by rw [fitsTo_step, HK.out, h]; rfl)
          have hm' : (m : Int) < (l.length : Int) := by omega
          have hm0 : (0 : Int) ≤ (m : Int) := by omega
          have qk : IntKind.i64.wrap ((k : Int) + 1) = (k : Int) + 1 := IntWalk.i64_in _ (by have := HKM.out; omega)
          have k3 := blk_cell (by have := B.out; rw [e1] at this; exact this)
          generalize l[m] = y at *
          obtain ⟨W6, hW6⟩ : ∃ W6, W6 = wr.alloc (ndO y) := ⟨_, rfl⟩
          have N6 := Lib.hid (show Chg [] wr W6 by rw [hW6]; exact (Chg.refl _ _).alloc _)
          have C6 := Lib.hid (C.out.thenSame N6.out)
          have B6 := Lib.hid (N6.out.at (by simp) B.out)
          have Y6 := Lib.hid (show W6.heap[wr.heap.size]? = some (ndO y) by rw [hW6]; exact heap_alloc_new _ _)
          unfold ndO at hW6 Y6
          have n6 := blk_cell Y6.out
          clear hc1 hc2 hm1
          rw [e1, e2]
          have HA : fitAt L ⟨1, text, n, keys, kids⟩ k = sExprB y.kind := by rw [HA]; unfold fitsB; simp
          have KC := Lib.hid (fun w' => by have := rexpression_any y w'; unfold ndC at this; exact this)
          generalize sExprB y.kind = q at *
          cases q
          · have HE := Lib.hid (HN.out HA)
            clear HA
            go_upto_region 11 with fail
            rw [← hW6]
            clear hW6 y0 y1 y2 y3 y4 k3 u1
            go_wp2_with (go_at_call 93; (with_reducible refine Calls.mono (KC.out _) ?_); rintro e w7 ⟨rfl, hc⟩; have C7 := Lib.hid (C6.out.thenSame hc); clear hc)
            go_ret
            exact ⟨retB HE.out.symm, C7.out⟩
          · have HS := Lib.hid (HY.out HA)
            clear HA
            go_upto_region 11 with fail
            rw [← hW6]
            clear hW6 y0 y1 y2 y3 y4 k3 u1
            go_wp2_with (go_at_call 93; (with_reducible refine Calls.mono (KC.out _) ?_); rintro e w7 ⟨rfl, hc⟩; have C7 := Lib.hid (C6.out.thenSame hc); have B7 := Lib.hid (hc.at (by simp) B6.out); clear hc)
            exact ⟨⟨k + 1, by go_num, by omega, HS, C7, (by first | exact B7 | (rw [e1] at B7; exact B7))⟩, by simp [intOf]; omega⟩
        · have hke : k = kids.length := by omega
          have HE := Lib.hid (show R = true by rw [HRF.out, ← hke]; exact HK.out)
          have hkl' : ¬ (k : Int) < (kids.length : Int) := by omega
          clear hke
          go_wp2_with fail
          go_ret
          exact ⟨retB HE.out.symm, C.out⟩
    · have HE := Lib.hid (show R = false by rw [HRR.out]; unfold partsB; rw [Bool.eq_false_iff.2 hct]; rfl)
      have hm : ((kids.length : Int) != 0) = true := by unfold countB at hct; simp at hct; simp; omega
      clear hct HRR
      go_enter Tryz.func67, Tryz.ntmps67
      go_upto_region 1 with fail
      rw [← HW1.out]
      go_wp2_with fail
      go_ret
      exact ⟨retB HE.out.symm, C1.out⟩
  by_cases hk2 : kind = 2
  · subst hk2
    by_cases hct : countB ⟨2, text, n, keys, kids⟩ = true
    · have hm : ((kids.length : Int) != 0) = false := by unfold countB at hct; simp at hct; simp [hct]
      have HRF := Lib.hid (show R = fitsTo L ⟨2, text, n, keys, kids⟩ kids.length by rw [HRR.out]; unfold partsB; rw [hct, Bool.true_and])
      clear HRR hct
      go_enter Tryz.func67, Tryz.ntmps67
      go_upto_region 1 with fail
      rw [← HW1.out]
      go_wp2_with fail
      go_loopw [7] (fun u wr => ∃ k : Nat, u = .int .i64 k ∧ k ≤ kids.length ∧ Hid (fitsTo L ⟨2, text, n, keys, kids⟩ k = true) ∧ Hid (Chg [] w wr) ∧ Hid (wr.heap[w.heap.size]? = some (.cells #[.int .i64 2, .string text, .int .i64 n, .slice ka keys.length kc, .slice da kids.length dc] 49 (0, 0)))) (fun u _ => kids.length - (intOf u).toNat)
      case atStart => exact ⟨0, rfl, Nat.zero_le _, Lib.hid rfl, C1, B1⟩
      case round =>
        obtain ⟨k, rfl, hk, HK, C, B⟩ := hrel
        have hk0 : (0 : Int) ≤ (k : Int) := by omega
        by_cases hkl : k < kids.length
        · have hkl' : (k : Int) < (kids.length : Int) := by omega
          obtain ⟨b1, o1, e1, -, -, hc1⟩ := (HD.out _ C.out).1.elem (Chg.refl [] _) k hkl
          have u1 := hc1 0 (by omega)
          simp only [icI, List.getElem?_cons_zero, Nat.add_zero, Nat.mul_one] at u1
          obtain ⟨m, hm1, hm2⟩ := HKK.out k hkl
          rw [hm1] at u1
          obtain ⟨b2, o2, e2, -, -, hc2⟩ := (HL.out _ C.out).1.elem (Chg.refl [] _) m hm2
          have y0 := hc2 0 (by omega)
          have y1 := hc2 1 (by omega)
          have y2 := hc2 2 (by omega)
          have y3 := hc2 3 (by omega)
          have y4 := hc2 4 (by omega)
          simp only [ndC, List.getElem?_cons_zero, List.getElem?_cons_succ, Nat.add_zero] at y0 y1 y2 y3 y4
          have HA : fitAt L ⟨2, text, n, keys, kids⟩ k = fitsB ⟨2, text, n, keys, kids⟩ (k : Int) (l[m]).kind := by
            unfold fitAt
            rw [show kids[k]? = some (m : Int) from by rw [List.getElem?_eq_getElem hkl, hm1]]
            show fitsB _ _ (kindAt L (m : Int).toNat) = _
            rw [Int.toNat_natCast, HLM.out m hm2]
          have HN := Lib.hid (fun (h : fitAt L ⟨2, text, n, keys, kids⟩ k = false) => show R = false by rw [HRF.out]; exact fitsTo_no hkl h)
          have HY := Lib.hid (fun (h : fitAt L ⟨2, text, n, keys, kids⟩ k = true) => show fitsTo L ⟨2, text, n, keys, kids⟩ (k + 1) = true by rw [fitsTo_step, HK.out, h]; rfl)
          have hm' : (m : Int) < (l.length : Int) := by omega
          have hm0 : (0 : Int) ≤ (m : Int) := by omega
          have qk : IntKind.i64.wrap ((k : Int) + 1) = (k : Int) + 1 := IntWalk.i64_in _ (by have := HKM.out; omega)
          have k3 := blk_cell (by have := B.out; rw [e1] at this; exact this)
          generalize l[m] = y at *
          obtain ⟨W6, hW6⟩ : ∃ W6, W6 = wr.alloc (ndO y) := ⟨_, rfl⟩
          have N6 := Lib.hid (show Chg [] wr W6 by rw [hW6]; exact (Chg.refl _ _).alloc _)
          have C6 := Lib.hid (C.out.thenSame N6.out)
          have B6 := Lib.hid (N6.out.at (by simp) B.out)
          have Y6 := Lib.hid (show W6.heap[wr.heap.size]? = some (ndO y) by rw [hW6]; exact heap_alloc_new _ _)
          unfold ndO at hW6 Y6
          have n6 := blk_cell Y6.out
          clear hc1 hc2 hm1
          rw [e1, e2]
          have HA : fitAt L ⟨2, text, n, keys, kids⟩ k = sExprB y.kind := by rw [HA]; unfold fitsB; simp
          have KC := Lib.hid (fun w' => by have := rexpression_any y w'; unfold ndC at this; exact this)
          generalize sExprB y.kind = q at *
          cases q
          · have HE := Lib.hid (HN.out HA)
            clear HA
            go_upto_region 11 with fail
            rw [← hW6]
            clear hW6 y0 y1 y2 y3 y4 k3 u1
            go_wp2_with (go_at_call 93; (with_reducible refine Calls.mono (KC.out _) ?_); rintro e w7 ⟨rfl, hc⟩; have C7 := Lib.hid (C6.out.thenSame hc); clear hc)
            go_ret
            exact ⟨retB HE.out.symm, C7.out⟩
          · have HS := Lib.hid (HY.out HA)
            clear HA
            go_upto_region 11 with fail
            rw [← hW6]
            clear hW6 y0 y1 y2 y3 y4 k3 u1
            go_wp2_with (go_at_call 93; (with_reducible refine Calls.mono (KC.out _) ?_); rintro e w7 ⟨rfl, hc⟩; have C7 := Lib.hid (C6.out.thenSame hc); have B7 := Lib.hid (hc.at (by simp) B6.out); clear hc)
            exact ⟨⟨k + 1, by go_num, by omega, HS, C7, (by first | exact B7 | (rw [e1] at B7; exact B7))⟩, by simp [intOf]; omega⟩
        · have hke : k = kids.length := by omega
          have HE := Lib.hid (show R = true by rw [HRF.out, ← hke]; exact HK.out)
          have hkl' : ¬ (k : Int) < (kids.length : Int) := by omega
          clear hke
          go_wp2_with fail
          go_ret
          exact ⟨retB HE.out.symm, C.out⟩
    · have HE := Lib.hid (show R = false by rw [HRR.out]; unfold partsB; rw [Bool.eq_false_iff.2 hct]; rfl)
      have hm : ((kids.length : Int) != 0) = true := by unfold countB at hct; simp at hct; simp; omega
      clear hct HRR
      go_enter Tryz.func67, Tryz.ntmps67
      go_upto_region 1 with fail
      rw [← HW1.out]
      go_wp2_with fail
      go_ret
      exact ⟨retB HE.out.symm, C1.out⟩
  by_cases hk3 : kind = 3
  · subst hk3
    by_cases hct : countB ⟨3, text, n, keys, kids⟩ = true
    · have hm : ((kids.length : Int) != 0) = false := by unfold countB at hct; simp at hct; simp [hct]
      have HRF := Lib.hid (show R = fitsTo L ⟨3, text, n, keys, kids⟩ kids.length by rw [HRR.out]; unfold partsB; rw [hct, Bool.true_and])
      clear HRR hct
      go_enter Tryz.func67, Tryz.ntmps67
      go_upto_region 1 with fail
      rw [← HW1.out]
      go_wp2_with fail
      go_loopw [7] (fun u wr => ∃ k : Nat, u = .int .i64 k ∧ k ≤ kids.length ∧ Hid (fitsTo L ⟨3, text, n, keys, kids⟩ k = true) ∧ Hid (Chg [] w wr) ∧ Hid (wr.heap[w.heap.size]? = some (.cells #[.int .i64 3, .string text, .int .i64 n, .slice ka keys.length kc, .slice da kids.length dc] 49 (0, 0)))) (fun u _ => kids.length - (intOf u).toNat)
      case atStart => exact ⟨0, rfl, Nat.zero_le _, Lib.hid rfl, C1, B1⟩
      case round =>
        obtain ⟨k, rfl, hk, HK, C, B⟩ := hrel
        have hk0 : (0 : Int) ≤ (k : Int) := by omega
        by_cases hkl : k < kids.length
        · have hkl' : (k : Int) < (kids.length : Int) := by omega
          obtain ⟨b1, o1, e1, -, -, hc1⟩ := (HD.out _ C.out).1.elem (Chg.refl [] _) k hkl
          have u1 := hc1 0 (by omega)
          simp only [icI, List.getElem?_cons_zero, Nat.add_zero, Nat.mul_one] at u1
          obtain ⟨m, hm1, hm2⟩ := HKK.out k hkl
          rw [hm1] at u1
          obtain ⟨b2, o2, e2, -, -, hc2⟩ := (HL.out _ C.out).1.elem (Chg.refl [] _) m hm2
          have y0 := hc2 0 (by omega)
          have y1 := hc2 1 (by omega)
          have y2 := hc2 2 (by omega)
          have y3 := hc2 3 (by omega)
          have y4 := hc2 4 (by omega)
          simp only [ndC, List.getElem?_cons_zero, List.getElem?_cons_succ, Nat.add_zero] at y0 y1 y2 y3 y4
          have HA : fitAt L ⟨3, text, n, keys, kids⟩ k = fitsB ⟨3, text, n, keys, kids⟩ (k : Int) (l[m]).kind := by
            unfold fitAt
            rw [show kids[k]? = some (m : Int) from by rw [List.getElem?_eq_getElem hkl, hm1]]
            show fitsB _ _ (kindAt L (m : Int).toNat) = _
            rw [Int.toNat_natCast, HLM.out m hm2]
          have HN := Lib.hid (fun (h : fitAt L ⟨3, text, n, keys, kids⟩ k = false) => show R = false by rw [HRF.out]; exact fitsTo_no hkl h)
          have HY := Lib.hid (fun (h : fitAt L ⟨3, text, n, keys, kids⟩ k = true) => show fitsTo L ⟨3, text, n, keys, kids⟩ (k + 1) = true by rw [fitsTo_step, HK.out, h]; rfl)
          have hm' : (m : Int) < (l.length : Int) := by omega
          have hm0 : (0 : Int) ≤ (m : Int) := by omega
          have qk : IntKind.i64.wrap ((k : Int) + 1) = (k : Int) + 1 := IntWalk.i64_in _ (by have := HKM.out; omega)
          have k3 := blk_cell (by have := B.out; rw [e1] at this; exact this)
          generalize l[m] = y at *
          obtain ⟨W6, hW6⟩ : ∃ W6, W6 = wr.alloc (ndO y) := ⟨_, rfl⟩
          have N6 := Lib.hid (show Chg [] wr W6 by rw [hW6]; exact (Chg.refl _ _).alloc _)
          have C6 := Lib.hid (C.out.thenSame N6.out)
          have B6 := Lib.hid (N6.out.at (by simp) B.out)
          have Y6 := Lib.hid (show W6.heap[wr.heap.size]? = some (ndO y) by rw [hW6]; exact heap_alloc_new _ _)
          unfold ndO at hW6 Y6
          have n6 := blk_cell Y6.out
          clear hc1 hc2 hm1
          rw [e1, e2]
          have HA : fitAt L ⟨3, text, n, keys, kids⟩ k = sExprB y.kind := by rw [HA]; unfold fitsB; simp
          have KC := Lib.hid (fun w' => by have := rexpression_any y w'; unfold ndC at this; exact this)
          generalize sExprB y.kind = q at *
          cases q
          · have HE := Lib.hid (HN.out HA)
            clear HA
            go_upto_region 11 with fail
            rw [← hW6]
            clear hW6 y0 y1 y2 y3 y4 k3 u1
            go_wp2_with (go_at_call 93; (with_reducible refine Calls.mono (KC.out _) ?_); rintro e w7 ⟨rfl, hc⟩; have C7 := Lib.hid (C6.out.thenSame hc); clear hc)
            go_ret
            exact ⟨retB HE.out.symm, C7.out⟩
          · have HS := Lib.hid (HY.out HA)
            clear HA
            go_upto_region 11 with fail
            rw [← hW6]
            clear hW6 y0 y1 y2 y3 y4 k3 u1
            go_wp2_with (go_at_call 93; (with_reducible refine Calls.mono (KC.out _) ?_); rintro e w7 ⟨rfl, hc⟩; have C7 := Lib.hid (C6.out.thenSame hc); have B7 := Lib.hid (hc.at (by simp) B6.out); clear hc)
            exact ⟨⟨k + 1, by go_num, by omega, HS, C7, (by first | exact B7 | (rw [e1] at B7; exact B7))⟩, by simp [intOf]; omega⟩
        · have hke : k = kids.length := by omega
          have HE := Lib.hid (show R = true by rw [HRF.out, ← hke]; exact HK.out)
          have hkl' : ¬ (k : Int) < (kids.length : Int) := by omega
          clear hke
          go_wp2_with fail
          go_ret
          exact ⟨retB HE.out.symm, C.out⟩
    · have HE := Lib.hid (show R = false by rw [HRR.out]; unfold partsB; rw [Bool.eq_false_iff.2 hct]; rfl)
      have hm : ((kids.length : Int) != 0) = true := by unfold countB at hct; simp at hct; simp; omega
      clear hct HRR
      go_enter Tryz.func67, Tryz.ntmps67
      go_upto_region 1 with fail
      rw [← HW1.out]
      go_wp2_with fail
      go_ret
      exact ⟨retB HE.out.symm, C1.out⟩
  by_cases hk4 : kind = 4
  · subst hk4
    by_cases hct : countB ⟨4, text, n, keys, kids⟩ = true
    · have hm : ((kids.length : Int) != 0) = false := by unfold countB at hct; simp at hct; simp [hct]
      have HRF := Lib.hid (show R = fitsTo L ⟨4, text, n, keys, kids⟩ kids.length by rw [HRR.out]; unfold partsB; rw [hct, Bool.true_and])
      clear HRR hct
      go_enter Tryz.func67, Tryz.ntmps67
      go_upto_region 1 with fail
      rw [← HW1.out]
      go_wp2_with fail
      go_loopw [7] (fun u wr => ∃ k : Nat, u = .int .i64 k ∧ k ≤ kids.length ∧ Hid (fitsTo L ⟨4, text, n, keys, kids⟩ k = true) ∧ Hid (Chg [] w wr) ∧ Hid (wr.heap[w.heap.size]? = some (.cells #[.int .i64 4, .string text, .int .i64 n, .slice ka keys.length kc, .slice da kids.length dc] 49 (0, 0)))) (fun u _ => kids.length - (intOf u).toNat)
      case atStart => exact ⟨0, rfl, Nat.zero_le _, Lib.hid rfl, C1, B1⟩
      case round =>
        obtain ⟨k, rfl, hk, HK, C, B⟩ := hrel
        have hk0 : (0 : Int) ≤ (k : Int) := by omega
        by_cases hkl : k < kids.length
        · have hkl' : (k : Int) < (kids.length : Int) := by omega
          obtain ⟨b1, o1, e1, -, -, hc1⟩ := (HD.out _ C.out).1.elem (Chg.refl [] _) k hkl
          have u1 := hc1 0 (by omega)
          simp only [icI, List.getElem?_cons_zero, Nat.add_zero, Nat.mul_one] at u1
          obtain ⟨m, hm1, hm2⟩ := HKK.out k hkl
          rw [hm1] at u1
          obtain ⟨b2, o2, e2, -, -, hc2⟩ := (HL.out _ C.out).1.elem (Chg.refl [] _) m hm2
          have y0 := hc2 0 (by omega)
          have y1 := hc2 1 (by omega)
          have y2 := hc2 2 (by omega)
          have y3 := hc2 3 (by omega)
          have y4 := hc2 4 (by omega)
          simp only [ndC, List.getElem?_cons_zero, List.getElem?_cons_succ, Nat.add_zero] at y0 y1 y2 y3 y4
          have HA : fitAt L ⟨4, text, n, keys, kids⟩ k = fitsB ⟨4, text, n, keys, kids⟩ (k : Int) (l[m]).kind := by
            unfold fitAt
            rw [show kids[k]? = some (m : Int) from by rw [List.getElem?_eq_getElem hkl, hm1]]
            show fitsB _ _ (kindAt L (m : Int).toNat) = _
            rw [Int.toNat_natCast, HLM.out m hm2]
          have HN := Lib.hid (fun (h : fitAt L ⟨4, text, n, keys, kids⟩ k = false) => show R = false by rw [HRF.out]; exact fitsTo_no hkl h)
          have HY := Lib.hid (fun (h : fitAt L ⟨4, text, n, keys, kids⟩ k = true) => show fitsTo L ⟨4, text, n, keys, kids⟩ (k + 1) = true by rw [fitsTo_step, HK.out, h]; rfl)
          have hm' : (m : Int) < (l.length : Int) := by omega
          have hm0 : (0 : Int) ≤ (m : Int) := by omega
          have qk : IntKind.i64.wrap ((k : Int) + 1) = (k : Int) + 1 := IntWalk.i64_in _ (by have := HKM.out; omega)
          have k3 := blk_cell (by have := B.out; rw [e1] at this; exact this)
          generalize l[m] = y at *
          obtain ⟨W6, hW6⟩ : ∃ W6, W6 = wr.alloc (ndO y) := ⟨_, rfl⟩
          have N6 := Lib.hid (show Chg [] wr W6 by rw [hW6]; exact (Chg.refl _ _).alloc _)
          have C6 := Lib.hid (C.out.thenSame N6.out)
          have B6 := Lib.hid (N6.out.at (by simp) B.out)
          have Y6 := Lib.hid (show W6.heap[wr.heap.size]? = some (ndO y) by rw [hW6]; exact heap_alloc_new _ _)
          unfold ndO at hW6 Y6
          have n6 := blk_cell Y6.out
          clear hc1 hc2 hm1
          rw [e1, e2]
          have HA : fitAt L ⟨4, text, n, keys, kids⟩ k = sExprB y.kind := by rw [HA]; unfold fitsB; simp
          have KC := Lib.hid (fun w' => by have := rexpression_any y w'; unfold ndC at this; exact this)
          generalize sExprB y.kind = q at *
          cases q
          · have HE := Lib.hid (HN.out HA)
            clear HA
            go_upto_region 11 with fail
            rw [← hW6]
            clear hW6 y0 y1 y2 y3 y4 k3 u1
            go_wp2_with (go_at_call 93; (with_reducible refine Calls.mono (KC.out _) ?_); rintro e w7 ⟨rfl, hc⟩; have C7 := Lib.hid (C6.out.thenSame hc); clear hc)
            go_ret
            exact ⟨retB HE.out.symm, C7.out⟩
          · have HS := Lib.hid (HY.out HA)
            clear HA
            go_upto_region 11 with fail
            rw [← hW6]
            clear hW6 y0 y1 y2 y3 y4 k3 u1
            go_wp2_with (go_at_call 93; (with_reducible refine Calls.mono (KC.out _) ?_); rintro e w7 ⟨rfl, hc⟩; have C7 := Lib.hid (C6.out.thenSame hc); have B7 := Lib.hid (hc.at (by simp) B6.out); clear hc)
            exact ⟨⟨k + 1, by go_num, by omega, HS, C7, (by first | exact B7 | (rw [e1] at B7; exact B7))⟩, by simp [intOf]; omega⟩
        · have hke : k = kids.length := by omega
          have HE := Lib.hid (show R = true by rw [HRF.out, ← hke]; exact HK.out)
          have hkl' : ¬ (k : Int) < (kids.length : Int) := by omega
          clear hke
          go_wp2_with fail
          go_ret
          exact ⟨retB HE.out.symm, C.out⟩
    · have HE := Lib.hid (show R = false by rw [HRR.out]; unfold partsB; rw [Bool.eq_false_iff.2 hct]; rfl)
      have hm : ((kids.length : Int) != 0) = true := by unfold countB at hct; simp at hct; simp; omega
      clear hct HRR
      go_enter Tryz.func67, Tryz.ntmps67
      go_upto_region 1 with fail
      rw [← HW1.out]
      go_wp2_with fail
      go_ret
      exact ⟨retB HE.out.symm, C1.out⟩
  by_cases hk5 : kind = 5
  · subst hk5
    by_cases hct : countB ⟨5, text, n, keys, kids⟩ = true
    · have hm : ((kids.length : Int) != 0) = false := by unfold countB at hct; simp at hct; simp [hct]
      have HRF := Lib.hid (show R = fitsTo L ⟨5, text, n, keys, kids⟩ kids.length by rw [HRR.out]; unfold partsB; rw [hct, Bool.true_and])
      clear HRR hct
      go_enter Tryz.func67, Tryz.ntmps67
      go_upto_region 1 with fail
      rw [← HW1.out]
      go_wp2_with fail
      go_loopw [7] (fun u wr => ∃ k : Nat, u = .int .i64 k ∧ k ≤ kids.length ∧ Hid (fitsTo L ⟨5, text, n, keys, kids⟩ k = true) ∧ Hid (Chg [] w wr) ∧ Hid (wr.heap[w.heap.size]? = some (.cells #[.int .i64 5, .string text, .int .i64 n, .slice ka keys.length kc, .slice da kids.length dc] 49 (0, 0)))) (fun u _ => kids.length - (intOf u).toNat)
      case atStart => exact ⟨0, rfl, Nat.zero_le _, Lib.hid rfl, C1, B1⟩
      case round =>
        obtain ⟨k, rfl, hk, HK, C, B⟩ := hrel
        have hk0 : (0 : Int) ≤ (k : Int) := by omega
        by_cases hkl : k < kids.length
        · have hkl' : (k : Int) < (kids.length : Int) := by omega
          obtain ⟨b1, o1, e1, -, -, hc1⟩ := (HD.out _ C.out).1.elem (Chg.refl [] _) k hkl
          have u1 := hc1 0 (by omega)
          simp only [icI, List.getElem?_cons_zero, Nat.add_zero, Nat.mul_one] at u1
          obtain ⟨m, hm1, hm2⟩ := HKK.out k hkl
          rw [hm1] at u1
          obtain ⟨b2, o2, e2, -, -, hc2⟩ := (HL.out _ C.out).1.elem (Chg.refl [] _) m hm2
          have y0 := hc2 0 (by omega)
          have y1 := hc2 1 (by omega)
          have y2 := hc2 2 (by omega)
          have y3 := hc2 3 (by omega)
          have y4 := hc2 4 (by omega)
          simp only [ndC, List.getElem?_cons_zero, List.getElem?_cons_succ, Nat.add_zero] at y0 y1 y2 y3 y4
          have HA : fitAt L ⟨5, text, n, keys, kids⟩ k = fitsB ⟨5, text, n, keys, kids⟩ (k : Int) (l[m]).kind := by
            unfold fitAt
            rw [show kids[k]? = some (m : Int) from by rw [List.getElem?_eq_getElem hkl, hm1]]
            show fitsB _ _ (kindAt L (m : Int).toNat) = _
            rw [Int.toNat_natCast, HLM.out m hm2]
          have HN := Lib.hid (fun (h : fitAt L ⟨5, text, n, keys, kids⟩ k = false) => show R = false by rw [HRF.out]; exact fitsTo_no hkl h)
          have HY := Lib.hid (fun (h : fitAt L ⟨5, text, n, keys, kids⟩ k = true) => show fitsTo L ⟨5, text, n, keys, kids⟩ (k + 1) = true by rw [fitsTo_step, HK.out, h]; rfl)
          have hm' : (m : Int) < (l.length : Int) := by omega
          have hm0 : (0 : Int) ≤ (m : Int) := by omega
          have qk : IntKind.i64.wrap ((k : Int) + 1) = (k : Int) + 1 := IntWalk.i64_in _ (by have := HKM.out; omega)
          have k3 := blk_cell (by have := B.out; rw [e1] at this; exact this)
          generalize l[m] = y at *
          obtain ⟨W6, hW6⟩ : ∃ W6, W6 = wr.alloc (ndO y) := ⟨_, rfl⟩
          have N6 := Lib.hid (show Chg [] wr W6 by rw [hW6]; exact (Chg.refl _ _).alloc _)
          have C6 := Lib.hid (C.out.thenSame N6.out)
          have B6 := Lib.hid (N6.out.at (by simp) B.out)
          have Y6 := Lib.hid (show W6.heap[wr.heap.size]? = some (ndO y) by rw [hW6]; exact heap_alloc_new _ _)
          unfold ndO at hW6 Y6
          have n6 := blk_cell Y6.out
          clear hc1 hc2 hm1
          rw [e1, e2]
          have HA : fitAt L ⟨5, text, n, keys, kids⟩ k = sExprB y.kind := by rw [HA]; unfold fitsB; simp
          have KC := Lib.hid (fun w' => by have := rexpression_any y w'; unfold ndC at this; exact this)
          generalize sExprB y.kind = q at *
          cases q
          · have HE := Lib.hid (HN.out HA)
            clear HA
            go_upto_region 11 with fail
            rw [← hW6]
            clear hW6 y0 y1 y2 y3 y4 k3 u1
            go_wp2_with (go_at_call 93; (with_reducible refine Calls.mono (KC.out _) ?_); rintro e w7 ⟨rfl, hc⟩; have C7 := Lib.hid (C6.out.thenSame hc); clear hc)
            go_ret
            exact ⟨retB HE.out.symm, C7.out⟩
          · have HS := Lib.hid (HY.out HA)
            clear HA
            go_upto_region 11 with fail
            rw [← hW6]
            clear hW6 y0 y1 y2 y3 y4 k3 u1
            go_wp2_with (go_at_call 93; (with_reducible refine Calls.mono (KC.out _) ?_); rintro e w7 ⟨rfl, hc⟩; have C7 := Lib.hid (C6.out.thenSame hc); have B7 := Lib.hid (hc.at (by simp) B6.out); clear hc)
            exact ⟨⟨k + 1, by go_num, by omega, HS, C7, (by first | exact B7 | (rw [e1] at B7; exact B7))⟩, by simp [intOf]; omega⟩
        · have hke : k = kids.length := by omega
          have HE := Lib.hid (show R = true by rw [HRF.out, ← hke]; exact HK.out)
          have hkl' : ¬ (k : Int) < (kids.length : Int) := by omega
          clear hke
          go_wp2_with fail
          go_ret
          exact ⟨retB HE.out.symm, C.out⟩
    · have HE := Lib.hid (show R = false by rw [HRR.out]; unfold partsB; rw [Bool.eq_false_iff.2 hct]; rfl)
      have hm : ((kids.length : Int) != 0) = true := by unfold countB at hct; simp at hct; simp; omega
      clear hct HRR
      go_enter Tryz.func67, Tryz.ntmps67
      go_upto_region 1 with fail
      rw [← HW1.out]
      go_wp2_with fail
      go_ret
      exact ⟨retB HE.out.symm, C1.out⟩
  by_cases hk6 : kind = 6
  · subst hk6
    have hct : countB ⟨6, text, n, keys, kids⟩ = true := by unfold countB; simp
    have HRF := Lib.hid (show R = fitsTo L ⟨6, text, n, keys, kids⟩ kids.length by rw [HRR.out]; unfold partsB; rw [hct, Bool.true_and])
    clear HRR hct
    go_enter Tryz.func67, Tryz.ntmps67
    go_upto_region 1 with fail
    rw [← HW1.out]
    go_wp2_with fail
    go_loopw [7] (fun u wr => ∃ k : Nat, u = .int .i64 k ∧ k ≤ kids.length ∧ Hid (fitsTo L ⟨6, text, n, keys, kids⟩ k = true) ∧ Hid (Chg [] w wr) ∧ Hid (wr.heap[w.heap.size]? = some (.cells #[.int .i64 6, .string text, .int .i64 n, .slice ka keys.length kc, .slice da kids.length dc] 49 (0, 0)))) (fun u _ => kids.length - (intOf u).toNat)
    case atStart => exact ⟨0, rfl, Nat.zero_le _, Lib.hid rfl, C1, B1⟩
    case round =>
      obtain ⟨k, rfl, hk, HK, C, B⟩ := hrel
      have hk0 : (0 : Int) ≤ (k : Int) := by omega
      by_cases hkl : k < kids.length
      · have hkl' : (k : Int) < (kids.length : Int) := by omega
        obtain ⟨b1, o1, e1, -, -, hc1⟩ := (HD.out _ C.out).1.elem (Chg.refl [] _) k hkl
        have u1 := hc1 0 (by omega)
        simp only [icI, List.getElem?_cons_zero, Nat.add_zero, Nat.mul_one] at u1
        obtain ⟨m, hm1, hm2⟩ := HKK.out k hkl
        rw [hm1] at u1
        obtain ⟨b2, o2, e2, -, -, hc2⟩ := (HL.out _ C.out).1.elem (Chg.refl [] _) m hm2
        have y0 := hc2 0 (by omega)
        have y1 := hc2 1 (by omega)
        have y2 := hc2 2 (by omega)
        have y3 := hc2 3 (by omega)
        have y4 := hc2 4 (by omega)
        simp only [ndC, List.getElem?_cons_zero, List.getElem?_cons_succ, Nat.add_zero] at y0 y1 y2 y3 y4
        have HA : fitAt L ⟨6, text, n, keys, kids⟩ k = fitsB ⟨6, text, n, keys, kids⟩ (k : Int) (l[m]).kind := by
          unfold fitAt
          rw [show kids[k]? = some (m : Int) from by rw [List.getElem?_eq_getElem hkl, hm1]]
          show fitsB _ _ (kindAt L (m : Int).toNat) = _
          rw [Int.toNat_natCast, HLM.out m hm2]
        have HN := Lib.hid (fun (h : fitAt L ⟨6, text, n, keys, kids⟩ k = false) => show R = false by rw [HRF.out]; exact fitsTo_no hkl h)
        have HY := Lib.hid (fun (h : fitAt L ⟨6, text, n, keys, kids⟩ k = true) => show fitsTo L ⟨6, text, n, keys, kids⟩ (k + 1) = true by rw [fitsTo_step, HK.out, h]; rfl)
        have hm' : (m : Int) < (l.length : Int) := by omega
        have hm0 : (0 : Int) ≤ (m : Int) := by omega
        have qk : IntKind.i64.wrap ((k : Int) + 1) = (k : Int) + 1 := IntWalk.i64_in _ (by have := HKM.out; omega)
        have k3 := blk_cell (by have := B.out; rw [e1] at this; exact this)
        generalize l[m] = y at *
        obtain ⟨W6, hW6⟩ : ∃ W6, W6 = wr.alloc (ndO y) := ⟨_, rfl⟩
        have N6 := Lib.hid (show Chg [] wr W6 by rw [hW6]; exact (Chg.refl _ _).alloc _)
        have C6 := Lib.hid (C.out.thenSame N6.out)
        have B6 := Lib.hid (N6.out.at (by simp) B.out)
        have Y6 := Lib.hid (show W6.heap[wr.heap.size]? = some (ndO y) by rw [hW6]; exact heap_alloc_new _ _)
        unfold ndO at hW6 Y6
        have n6 := blk_cell Y6.out
        clear hc1 hc2 hm1
        rw [e1, e2]
        have HA : fitAt L ⟨6, text, n, keys, kids⟩ k = sExprB y.kind := by rw [HA]; unfold fitsB; simp
        have KC := Lib.hid (fun w' => by have := rexpression_any y w'; unfold ndC at this; exact this)
        generalize sExprB y.kind = q at *
        cases q
        · have HE := Lib.hid (HN.out HA)
          clear HA
          go_upto_region 11 with fail
          rw [← hW6]
          clear hW6 y0 y1 y2 y3 y4 k3 u1
          go_wp2_with (go_at_call 93; (with_reducible refine Calls.mono (KC.out _) ?_); rintro e w7 ⟨rfl, hc⟩; have C7 := Lib.hid (C6.out.thenSame hc); clear hc)
          go_ret
          exact ⟨retB HE.out.symm, C7.out⟩
        · have HS := Lib.hid (HY.out HA)
          clear HA
          go_upto_region 11 with fail
          rw [← hW6]
          clear hW6 y0 y1 y2 y3 y4 k3 u1
          go_wp2_with (go_at_call 93; (with_reducible refine Calls.mono (KC.out _) ?_); rintro e w7 ⟨rfl, hc⟩; have C7 := Lib.hid (C6.out.thenSame hc); have B7 := Lib.hid (hc.at (by simp) B6.out); clear hc)
          exact ⟨⟨k + 1, by go_num, by omega, HS, C7, (by first | exact B7 | (rw [e1] at B7; exact B7))⟩, by simp [intOf]; omega⟩
      · have hke : k = kids.length := by omega
        have HE := Lib.hid (show R = true by rw [HRF.out, ← hke]; exact HK.out)
        have hkl' : ¬ (k : Int) < (kids.length : Int) := by omega
        clear hke
        go_wp2_with fail
        go_ret
        exact ⟨retB HE.out.symm, C.out⟩
  by_cases hk7 : kind = 7
  · subst hk7
    have hct : countB ⟨7, text, n, keys, kids⟩ = true := by unfold countB; simp
    have HRF := Lib.hid (show R = fitsTo L ⟨7, text, n, keys, kids⟩ kids.length by rw [HRR.out]; unfold partsB; rw [hct, Bool.true_and])
    clear HRR hct
    go_enter Tryz.func67, Tryz.ntmps67
    go_upto_region 1 with fail
    rw [← HW1.out]
    go_wp2_with fail
    go_loopw [7] (fun u wr => ∃ k : Nat, u = .int .i64 k ∧ k ≤ kids.length ∧ Hid (fitsTo L ⟨7, text, n, keys, kids⟩ k = true) ∧ Hid (Chg [] w wr) ∧ Hid (wr.heap[w.heap.size]? = some (.cells #[.int .i64 7, .string text, .int .i64 n, .slice ka keys.length kc, .slice da kids.length dc] 49 (0, 0)))) (fun u _ => kids.length - (intOf u).toNat)
    case atStart => exact ⟨0, rfl, Nat.zero_le _, Lib.hid rfl, C1, B1⟩
    case round =>
      obtain ⟨k, rfl, hk, HK, C, B⟩ := hrel
      have hk0 : (0 : Int) ≤ (k : Int) := by omega
      by_cases hkl : k < kids.length
      · have hkl' : (k : Int) < (kids.length : Int) := by omega
        obtain ⟨b1, o1, e1, -, -, hc1⟩ := (HD.out _ C.out).1.elem (Chg.refl [] _) k hkl
        have u1 := hc1 0 (by omega)
        simp only [icI, List.getElem?_cons_zero, Nat.add_zero, Nat.mul_one] at u1
        obtain ⟨m, hm1, hm2⟩ := HKK.out k hkl
        rw [hm1] at u1
        obtain ⟨b2, o2, e2, -, -, hc2⟩ := (HL.out _ C.out).1.elem (Chg.refl [] _) m hm2
        have y0 := hc2 0 (by omega)
        have y1 := hc2 1 (by omega)
        have y2 := hc2 2 (by omega)
        have y3 := hc2 3 (by omega)
        have y4 := hc2 4 (by omega)
        simp only [ndC, List.getElem?_cons_zero, List.getElem?_cons_succ, Nat.add_zero] at y0 y1 y2 y3 y4
        have HA : fitAt L ⟨7, text, n, keys, kids⟩ k = fitsB ⟨7, text, n, keys, kids⟩ (k : Int) (l[m]).kind := by
          unfold fitAt
          rw [show kids[k]? = some (m : Int) from by rw [List.getElem?_eq_getElem hkl, hm1]]
          show fitsB _ _ (kindAt L (m : Int).toNat) = _
          rw [Int.toNat_natCast, HLM.out m hm2]
        have HN := Lib.hid (fun (h : fitAt L ⟨7, text, n, keys, kids⟩ k = false) => show R = false by rw [HRF.out]; exact fitsTo_no hkl h)
        have HY := Lib.hid (fun (h : fitAt L ⟨7, text, n, keys, kids⟩ k = true) => show fitsTo L ⟨7, text, n, keys, kids⟩ (k + 1) = true by rw [fitsTo_step, HK.out, h]; rfl)
        have hm' : (m : Int) < (l.length : Int) := by omega
        have hm0 : (0 : Int) ≤ (m : Int) := by omega
        have qk : IntKind.i64.wrap ((k : Int) + 1) = (k : Int) + 1 := IntWalk.i64_in _ (by have := HKM.out; omega)
        have k3 := blk_cell (by have := B.out; rw [e1] at this; exact this)
        generalize l[m] = y at *
        obtain ⟨W6, hW6⟩ : ∃ W6, W6 = wr.alloc (ndO y) := ⟨_, rfl⟩
        have N6 := Lib.hid (show Chg [] wr W6 by rw [hW6]; exact (Chg.refl _ _).alloc _)
        have C6 := Lib.hid (C.out.thenSame N6.out)
        have B6 := Lib.hid (N6.out.at (by simp) B.out)
        have Y6 := Lib.hid (show W6.heap[wr.heap.size]? = some (ndO y) by rw [hW6]; exact heap_alloc_new _ _)
        unfold ndO at hW6 Y6
        have n6 := blk_cell Y6.out
        clear hc1 hc2 hm1
        rw [e1, e2]
        have HA : fitAt L ⟨7, text, n, keys, kids⟩ k = sExprB y.kind := by rw [HA]; unfold fitsB; simp
        have KC := Lib.hid (fun w' => by have := rexpression_any y w'; unfold ndC at this; exact this)
        generalize sExprB y.kind = q at *
        cases q
        · have HE := Lib.hid (HN.out HA)
          clear HA
          go_upto_region 11 with fail
          rw [← hW6]
          clear hW6 y0 y1 y2 y3 y4 k3 u1
          go_wp2_with (go_at_call 93; (with_reducible refine Calls.mono (KC.out _) ?_); rintro e w7 ⟨rfl, hc⟩; have C7 := Lib.hid (C6.out.thenSame hc); clear hc)
          go_ret
          exact ⟨retB HE.out.symm, C7.out⟩
        · have HS := Lib.hid (HY.out HA)
          clear HA
          go_upto_region 11 with fail
          rw [← hW6]
          clear hW6 y0 y1 y2 y3 y4 k3 u1
          go_wp2_with (go_at_call 93; (with_reducible refine Calls.mono (KC.out _) ?_); rintro e w7 ⟨rfl, hc⟩; have C7 := Lib.hid (C6.out.thenSame hc); have B7 := Lib.hid (hc.at (by simp) B6.out); clear hc)
          exact ⟨⟨k + 1, by go_num, by omega, HS, C7, (by first | exact B7 | (rw [e1] at B7; exact B7))⟩, by simp [intOf]; omega⟩
      · have hke : k = kids.length := by omega
        have HE := Lib.hid (show R = true by rw [HRF.out, ← hke]; exact HK.out)
        have hkl' : ¬ (k : Int) < (kids.length : Int) := by omega
        clear hke
        go_wp2_with fail
        go_ret
        exact ⟨retB HE.out.symm, C.out⟩
  by_cases hk8 : kind = 8
  · subst hk8
    by_cases hct : countB ⟨8, text, n, keys, kids⟩ = true
    · have hm : ((kids.length : Int) != 1) = false := by unfold countB at hct; simp at hct; simp [hct]
      have HRF := Lib.hid (show R = fitsTo L ⟨8, text, n, keys, kids⟩ kids.length by rw [HRR.out]; unfold partsB; rw [hct, Bool.true_and])
      clear HRR hct
      go_enter Tryz.func67, Tryz.ntmps67
      go_upto_region 1 with fail
      rw [← HW1.out]
      go_wp2_with fail
      go_loopw [7] (fun u wr => ∃ k : Nat, u = .int .i64 k ∧ k ≤ kids.length ∧ Hid (fitsTo L ⟨8, text, n, keys, kids⟩ k = true) ∧ Hid (Chg [] w wr) ∧ Hid (wr.heap[w.heap.size]? = some (.cells #[.int .i64 8, .string text, .int .i64 n, .slice ka keys.length kc, .slice da kids.length dc] 49 (0, 0)))) (fun u _ => kids.length - (intOf u).toNat)
      case atStart => exact ⟨0, rfl, Nat.zero_le _, Lib.hid rfl, C1, B1⟩
      case round =>
        obtain ⟨k, rfl, hk, HK, C, B⟩ := hrel
        have hk0 : (0 : Int) ≤ (k : Int) := by omega
        by_cases hkl : k < kids.length
        · have hkl' : (k : Int) < (kids.length : Int) := by omega
          obtain ⟨b1, o1, e1, -, -, hc1⟩ := (HD.out _ C.out).1.elem (Chg.refl [] _) k hkl
          have u1 := hc1 0 (by omega)
          simp only [icI, List.getElem?_cons_zero, Nat.add_zero, Nat.mul_one] at u1
          obtain ⟨m, hm1, hm2⟩ := HKK.out k hkl
          rw [hm1] at u1
          obtain ⟨b2, o2, e2, -, -, hc2⟩ := (HL.out _ C.out).1.elem (Chg.refl [] _) m hm2
          have y0 := hc2 0 (by omega)
          have y1 := hc2 1 (by omega)
          have y2 := hc2 2 (by omega)
          have y3 := hc2 3 (by omega)
          have y4 := hc2 4 (by omega)
          simp only [ndC, List.getElem?_cons_zero, List.getElem?_cons_succ, Nat.add_zero] at y0 y1 y2 y3 y4
          have HA : fitAt L ⟨8, text, n, keys, kids⟩ k = fitsB ⟨8, text, n, keys, kids⟩ (k : Int) (l[m]).kind := by
            unfold fitAt
            rw [show kids[k]? = some (m : Int) from by rw [List.getElem?_eq_getElem hkl, hm1]]
            show fitsB _ _ (kindAt L (m : Int).toNat) = _
            rw [Int.toNat_natCast, HLM.out m hm2]
          have HN := Lib.hid (fun (h : fitAt L ⟨8, text, n, keys, kids⟩ k = false) => show R = false by rw [HRF.out]; exact fitsTo_no hkl h)
          have HY := Lib.hid (fun (h : fitAt L ⟨8, text, n, keys, kids⟩ k = true) => show fitsTo L ⟨8, text, n, keys, kids⟩ (k + 1) = true by rw [fitsTo_step, HK.out, h]; rfl)
          have hm' : (m : Int) < (l.length : Int) := by omega
          have hm0 : (0 : Int) ≤ (m : Int) := by omega
          have qk : IntKind.i64.wrap ((k : Int) + 1) = (k : Int) + 1 := IntWalk.i64_in _ (by have := HKM.out; omega)
          have k3 := blk_cell (by have := B.out; rw [e1] at this; exact this)
          generalize l[m] = y at *
          obtain ⟨W6, hW6⟩ : ∃ W6, W6 = wr.alloc (ndO y) := ⟨_, rfl⟩
          have N6 := Lib.hid (show Chg [] wr W6 by rw [hW6]; exact (Chg.refl _ _).alloc _)
          have C6 := Lib.hid (C.out.thenSame N6.out)
          have B6 := Lib.hid (N6.out.at (by simp) B.out)
          have Y6 := Lib.hid (show W6.heap[wr.heap.size]? = some (ndO y) by rw [hW6]; exact heap_alloc_new _ _)
          unfold ndO at hW6 Y6
          have n6 := blk_cell Y6.out
          clear hc1 hc2 hm1
          rw [e1, e2]
          have HA : fitAt L ⟨8, text, n, keys, kids⟩ k = sExprB y.kind := by rw [HA]; unfold fitsB; simp
          have KC := Lib.hid (fun w' => by have := rexpression_any y w'; unfold ndC at this; exact this)
          generalize sExprB y.kind = q at *
          cases q
          · have HE := Lib.hid (HN.out HA)
            clear HA
            go_upto_region 11 with fail
            rw [← hW6]
            clear hW6 y0 y1 y2 y3 y4 k3 u1
            go_wp2_with (go_at_call 93; (with_reducible refine Calls.mono (KC.out _) ?_); rintro e w7 ⟨rfl, hc⟩; have C7 := Lib.hid (C6.out.thenSame hc); clear hc)
            go_ret
            exact ⟨retB HE.out.symm, C7.out⟩
          · have HS := Lib.hid (HY.out HA)
            clear HA
            go_upto_region 11 with fail
            rw [← hW6]
            clear hW6 y0 y1 y2 y3 y4 k3 u1
            go_wp2_with (go_at_call 93; (with_reducible refine Calls.mono (KC.out _) ?_); rintro e w7 ⟨rfl, hc⟩; have C7 := Lib.hid (C6.out.thenSame hc); have B7 := Lib.hid (hc.at (by simp) B6.out); clear hc)
            exact ⟨⟨k + 1, by go_num, by omega, HS, C7, (by first | exact B7 | (rw [e1] at B7; exact B7))⟩, by simp [intOf]; omega⟩
        · have hke : k = kids.length := by omega
          have HE := Lib.hid (show R = true by rw [HRF.out, ← hke]; exact HK.out)
          have hkl' : ¬ (k : Int) < (kids.length : Int) := by omega
          clear hke
          go_wp2_with fail
          go_ret
          exact ⟨retB HE.out.symm, C.out⟩
    · have HE := Lib.hid (show R = false by rw [HRR.out]; unfold partsB; rw [Bool.eq_false_iff.2 hct]; rfl)
      have hm : ((kids.length : Int) != 1) = true := by unfold countB at hct; simp at hct; simp; omega
      clear hct HRR
      go_enter Tryz.func67, Tryz.ntmps67
      go_upto_region 1 with fail
      rw [← HW1.out]
      go_wp2_with fail
      go_ret
      exact ⟨retB HE.out.symm, C1.out⟩
  by_cases hk9 : kind = 9
  · subst hk9
    by_cases hct : countB ⟨9, text, n, keys, kids⟩ = true
    · have hm : ((kids.length : Int) != 2) = false := by unfold countB at hct; simp at hct; simp [hct]
      have HRF := Lib.hid (show R = fitsTo L ⟨9, text, n, keys, kids⟩ kids.length by rw [HRR.out]; unfold partsB; rw [hct, Bool.true_and])
      clear HRR hct
      go_enter Tryz.func67, Tryz.ntmps67
      go_upto_region 1 with fail
      rw [← HW1.out]
      go_wp2_with fail
      go_loopw [7] (fun u wr => ∃ k : Nat, u = .int .i64 k ∧ k ≤ kids.length ∧ Hid (fitsTo L ⟨9, text, n, keys, kids⟩ k = true) ∧ Hid (Chg [] w wr) ∧ Hid (wr.heap[w.heap.size]? = some (.cells #[.int .i64 9, .string text, .int .i64 n, .slice ka keys.length kc, .slice da kids.length dc] 49 (0, 0)))) (fun u _ => kids.length - (intOf u).toNat)
      case atStart => exact ⟨0, rfl, Nat.zero_le _, Lib.hid rfl, C1, B1⟩
      case round =>
        obtain ⟨k, rfl, hk, HK, C, B⟩ := hrel
        have hk0 : (0 : Int) ≤ (k : Int) := by omega
        by_cases hkl : k < kids.length
        · have hkl' : (k : Int) < (kids.length : Int) := by omega
          obtain ⟨b1, o1, e1, -, -, hc1⟩ := (HD.out _ C.out).1.elem (Chg.refl [] _) k hkl
          have u1 := hc1 0 (by omega)
          simp only [icI, List.getElem?_cons_zero, Nat.add_zero, Nat.mul_one] at u1
          obtain ⟨m, hm1, hm2⟩ := HKK.out k hkl
          rw [hm1] at u1
          obtain ⟨b2, o2, e2, -, -, hc2⟩ := (HL.out _ C.out).1.elem (Chg.refl [] _) m hm2
          have y0 := hc2 0 (by omega)
          have y1 := hc2 1 (by omega)
          have y2 := hc2 2 (by omega)
          have y3 := hc2 3 (by omega)
          have y4 := hc2 4 (by omega)
          simp only [ndC, List.getElem?_cons_zero, List.getElem?_cons_succ, Nat.add_zero] at y0 y1 y2 y3 y4
          have HA : fitAt L ⟨9, text, n, keys, kids⟩ k = fitsB ⟨9, text, n, keys, kids⟩ (k : Int) (l[m]).kind := by
            unfold fitAt
            rw [show kids[k]? = some (m : Int) from by rw [List.getElem?_eq_getElem hkl, hm1]]
            show fitsB _ _ (kindAt L (m : Int).toNat) = _
            rw [Int.toNat_natCast, HLM.out m hm2]
          have HN := Lib.hid (fun (h : fitAt L ⟨9, text, n, keys, kids⟩ k = false) => show R = false by rw [HRF.out]; exact fitsTo_no hkl h)
          have HY := Lib.hid (fun (h : fitAt L ⟨9, text, n, keys, kids⟩ k = true) => show fitsTo L ⟨9, text, n, keys, kids⟩ (k + 1) = true by rw [fitsTo_step, HK.out, h]; rfl)
          have hm' : (m : Int) < (l.length : Int) := by omega
          have hm0 : (0 : Int) ≤ (m : Int) := by omega
          have qk : IntKind.i64.wrap ((k : Int) + 1) = (k : Int) + 1 := IntWalk.i64_in _ (by have := HKM.out; omega)
          have k3 := blk_cell (by have := B.out; rw [e1] at this; exact this)
          generalize l[m] = y at *
          obtain ⟨W6, hW6⟩ : ∃ W6, W6 = wr.alloc (ndO y) := ⟨_, rfl⟩
          have N6 := Lib.hid (show Chg [] wr W6 by rw [hW6]; exact (Chg.refl _ _).alloc _)
          have C6 := Lib.hid (C.out.thenSame N6.out)
          have B6 := Lib.hid (N6.out.at (by simp) B.out)
          have Y6 := Lib.hid (show W6.heap[wr.heap.size]? = some (ndO y) by rw [hW6]; exact heap_alloc_new _ _)
          unfold ndO at hW6 Y6
          have n6 := blk_cell Y6.out
          clear hc1 hc2 hm1
          rw [e1, e2]
          have HA : fitAt L ⟨9, text, n, keys, kids⟩ k = sExprB y.kind := by rw [HA]; unfold fitsB; simp
          have KC := Lib.hid (fun w' => by have := rexpression_any y w'; unfold ndC at this; exact this)
          generalize sExprB y.kind = q at *
          cases q
          · have HE := Lib.hid (HN.out HA)
            clear HA
            go_upto_region 11 with fail
            rw [← hW6]
            clear hW6 y0 y1 y2 y3 y4 k3 u1
            go_wp2_with (go_at_call 93; (with_reducible refine Calls.mono (KC.out _) ?_); rintro e w7 ⟨rfl, hc⟩; have C7 := Lib.hid (C6.out.thenSame hc); clear hc)
            go_ret
            exact ⟨retB HE.out.symm, C7.out⟩
          · have HS := Lib.hid (HY.out HA)
            clear HA
            go_upto_region 11 with fail
            rw [← hW6]
            clear hW6 y0 y1 y2 y3 y4 k3 u1
            go_wp2_with (go_at_call 93; (with_reducible refine Calls.mono (KC.out _) ?_); rintro e w7 ⟨rfl, hc⟩; have C7 := Lib.hid (C6.out.thenSame hc); have B7 := Lib.hid (hc.at (by simp) B6.out); clear hc)
            exact ⟨⟨k + 1, by go_num, by omega, HS, C7, (by first | exact B7 | (rw [e1] at B7; exact B7))⟩, by simp [intOf]; omega⟩
        · have hke : k = kids.length := by omega
          have HE := Lib.hid (show R = true by rw [HRF.out, ← hke]; exact HK.out)
          have hkl' : ¬ (k : Int) < (kids.length : Int) := by omega
          clear hke
          go_wp2_with fail
          go_ret
          exact ⟨retB HE.out.symm, C.out⟩
    · have HE := Lib.hid (show R = false by rw [HRR.out]; unfold partsB; rw [Bool.eq_false_iff.2 hct]; rfl)
      have hm : ((kids.length : Int) != 2) = true := by unfold countB at hct; simp at hct; simp; omega
      clear hct HRR
      go_enter Tryz.func67, Tryz.ntmps67
      go_upto_region 1 with fail
      rw [← HW1.out]
      go_wp2_with fail
      go_ret
      exact ⟨retB HE.out.symm, C1.out⟩
  by_cases hk10 : kind = 10
  · subst hk10
    by_cases hct : countB ⟨10, text, n, keys, kids⟩ = true
    · have hm : ((kids.length : Int) != 2) = false := by unfold countB at hct; simp at hct; simp [hct]
      have HRF := Lib.hid (show R = fitsTo L ⟨10, text, n, keys, kids⟩ kids.length by rw [HRR.out]; unfold partsB; rw [hct, Bool.true_and])
      clear HRR hct
      go_enter Tryz.func67, Tryz.ntmps67
      go_upto_region 1 with fail
      rw [← HW1.out]
      go_wp2_with fail
      go_loopw [7] (fun u wr => ∃ k : Nat, u = .int .i64 k ∧ k ≤ kids.length ∧ Hid (fitsTo L ⟨10, text, n, keys, kids⟩ k = true) ∧ Hid (Chg [] w wr) ∧ Hid (wr.heap[w.heap.size]? = some (.cells #[.int .i64 10, .string text, .int .i64 n, .slice ka keys.length kc, .slice da kids.length dc] 49 (0, 0)))) (fun u _ => kids.length - (intOf u).toNat)
      case atStart => exact ⟨0, rfl, Nat.zero_le _, Lib.hid rfl, C1, B1⟩
      case round =>
        obtain ⟨k, rfl, hk, HK, C, B⟩ := hrel
        have hk0 : (0 : Int) ≤ (k : Int) := by omega
        by_cases hkl : k < kids.length
        · have hkl' : (k : Int) < (kids.length : Int) := by omega
          obtain ⟨b1, o1, e1, -, -, hc1⟩ := (HD.out _ C.out).1.elem (Chg.refl [] _) k hkl
          have u1 := hc1 0 (by omega)
          simp only [icI, List.getElem?_cons_zero, Nat.add_zero, Nat.mul_one] at u1
          obtain ⟨m, hm1, hm2⟩ := HKK.out k hkl
          rw [hm1] at u1
          obtain ⟨b2, o2, e2, -, -, hc2⟩ := (HL.out _ C.out).1.elem (Chg.refl [] _) m hm2
          have y0 := hc2 0 (by omega)
          have y1 := hc2 1 (by omega)
          have y2 := hc2 2 (by omega)
          have y3 := hc2 3 (by omega)
          have y4 := hc2 4 (by omega)
          simp only [ndC, List.getElem?_cons_zero, List.getElem?_cons_succ, Nat.add_zero] at y0 y1 y2 y3 y4
          have HA : fitAt L ⟨10, text, n, keys, kids⟩ k = fitsB ⟨10, text, n, keys, kids⟩ (k : Int) (l[m]).kind := by
            unfold fitAt
            rw [show kids[k]? = some (m : Int) from by rw [List.getElem?_eq_getElem hkl, hm1]]
            show fitsB _ _ (kindAt L (m : Int).toNat) = _
            rw [Int.toNat_natCast, HLM.out m hm2]
          have HN := Lib.hid (fun (h : fitAt L ⟨10, text, n, keys, kids⟩ k = false) => show R = false by rw [HRF.out]; exact fitsTo_no hkl h)
          have HY := Lib.hid (fun (h : fitAt L ⟨10, text, n, keys, kids⟩ k = true) => show fitsTo L ⟨10, text, n, keys, kids⟩ (k + 1) = true by rw [fitsTo_step, HK.out, h]; rfl)
          have hm' : (m : Int) < (l.length : Int) := by omega
          have hm0 : (0 : Int) ≤ (m : Int) := by omega
          have qk : IntKind.i64.wrap ((k : Int) + 1) = (k : Int) + 1 := IntWalk.i64_in _ (by have := HKM.out; omega)
          have k3 := blk_cell (by have := B.out; rw [e1] at this; exact this)
          generalize l[m] = y at *
          obtain ⟨W6, hW6⟩ : ∃ W6, W6 = wr.alloc (ndO y) := ⟨_, rfl⟩
          have N6 := Lib.hid (show Chg [] wr W6 by rw [hW6]; exact (Chg.refl _ _).alloc _)
          have C6 := Lib.hid (C.out.thenSame N6.out)
          have B6 := Lib.hid (N6.out.at (by simp) B.out)
          have Y6 := Lib.hid (show W6.heap[wr.heap.size]? = some (ndO y) by rw [hW6]; exact heap_alloc_new _ _)
          unfold ndO at hW6 Y6
          have n6 := blk_cell Y6.out
          clear hc1 hc2 hm1
          rw [e1, e2]
          have HA : fitAt L ⟨10, text, n, keys, kids⟩ k = sExprB y.kind := by rw [HA]; unfold fitsB; simp
          have KC := Lib.hid (fun w' => by have := rexpression_any y w'; unfold ndC at this; exact this)
          generalize sExprB y.kind = q at *
          cases q
          · have HE := Lib.hid (HN.out HA)
            clear HA
            go_upto_region 11 with fail
            rw [← hW6]
            clear hW6 y0 y1 y2 y3 y4 k3 u1
            go_wp2_with (go_at_call 93; (with_reducible refine Calls.mono (KC.out _) ?_); rintro e w7 ⟨rfl, hc⟩; have C7 := Lib.hid (C6.out.thenSame hc); clear hc)
            go_ret
            exact ⟨retB HE.out.symm, C7.out⟩
          · have HS := Lib.hid (HY.out HA)
            clear HA
            go_upto_region 11 with fail
            rw [← hW6]
            clear hW6 y0 y1 y2 y3 y4 k3 u1
            go_wp2_with (go_at_call 93; (with_reducible refine Calls.mono (KC.out _) ?_); rintro e w7 ⟨rfl, hc⟩; have C7 := Lib.hid (C6.out.thenSame hc); have B7 := Lib.hid (hc.at (by simp) B6.out); clear hc)
            exact ⟨⟨k + 1, by go_num, by omega, HS, C7, (by first | exact B7 | (rw [e1] at B7; exact B7))⟩, by simp [intOf]; omega⟩
        · have hke : k = kids.length := by omega
          have HE := Lib.hid (show R = true by rw [HRF.out, ← hke]; exact HK.out)
          have hkl' : ¬ (k : Int) < (kids.length : Int) := by omega
          clear hke
          go_wp2_with fail
          go_ret
          exact ⟨retB HE.out.symm, C.out⟩
    · have HE := Lib.hid (show R = false by rw [HRR.out]; unfold partsB; rw [Bool.eq_false_iff.2 hct]; rfl)
      have hm : ((kids.length : Int) != 2) = true := by unfold countB at hct; simp at hct; simp; omega
      clear hct HRR
      go_enter Tryz.func67, Tryz.ntmps67
      go_upto_region 1 with fail
      rw [← HW1.out]
      go_wp2_with fail
      go_ret
      exact ⟨retB HE.out.symm, C1.out⟩
  by_cases hk11 : kind = 11
  · subst hk11
    have hct : countB ⟨11, text, n, keys, kids⟩ = true := by unfold countB; simp
    have HRF := Lib.hid (show R = fitsTo L ⟨11, text, n, keys, kids⟩ kids.length by rw [HRR.out]; unfold partsB; rw [hct, Bool.true_and])
    clear HRR hct
    go_enter Tryz.func67, Tryz.ntmps67
    go_upto_region 1 with fail
    rw [← HW1.out]
    go_wp2_with fail
    go_loopw [7] (fun u wr => ∃ k : Nat, u = .int .i64 k ∧ k ≤ kids.length ∧ Hid (fitsTo L ⟨11, text, n, keys, kids⟩ k = true) ∧ Hid (Chg [] w wr) ∧ Hid (wr.heap[w.heap.size]? = some (.cells #[.int .i64 11, .string text, .int .i64 n, .slice ka keys.length kc, .slice da kids.length dc] 49 (0, 0)))) (fun u _ => kids.length - (intOf u).toNat)
    case atStart => exact ⟨0, rfl, Nat.zero_le _, Lib.hid rfl, C1, B1⟩
    case round =>
      obtain ⟨k, rfl, hk, HK, C, B⟩ := hrel
      have hk0 : (0 : Int) ≤ (k : Int) := by omega
      by_cases hkl : k < kids.length
      · have hkl' : (k : Int) < (kids.length : Int) := by omega
        obtain ⟨b1, o1, e1, -, -, hc1⟩ := (HD.out _ C.out).1.elem (Chg.refl [] _) k hkl
        have u1 := hc1 0 (by omega)
        simp only [icI, List.getElem?_cons_zero, Nat.add_zero, Nat.mul_one] at u1
        obtain ⟨m, hm1, hm2⟩ := HKK.out k hkl
        rw [hm1] at u1
        obtain ⟨b2, o2, e2, -, -, hc2⟩ := (HL.out _ C.out).1.elem (Chg.refl [] _) m hm2
        have y0 := hc2 0 (by omega)
        have y1 := hc2 1 (by omega)
        have y2 := hc2 2 (by omega)
        have y3 := hc2 3 (by omega)
        have y4 := hc2 4 (by omega)
        simp only [ndC, List.getElem?_cons_zero, List.getElem?_cons_succ, Nat.add_zero] at y0 y1 y2 y3 y4
        have HA : fitAt L ⟨11, text, n, keys, kids⟩ k = fitsB ⟨11, text, n, keys, kids⟩ (k : Int) (l[m]).kind := by
          unfold fitAt
          rw [show kids[k]? = some (m : Int) from by rw [List.getElem?_eq_getElem hkl, hm1]]
          show fitsB _ _ (kindAt L (m : Int).toNat) = _
          rw [Int.toNat_natCast, HLM.out m hm2]
        have HN := Lib.hid (fun (h : fitAt L ⟨11, text, n, keys, kids⟩ k = false) => show R = false by rw [HRF.out]; exact fitsTo_no hkl h)
        have HY := Lib.hid (fun (h : fitAt L ⟨11, text, n, keys, kids⟩ k = true) => show fitsTo L ⟨11, text, n, keys, kids⟩ (k + 1) = true by rw [fitsTo_step, HK.out, h]; rfl)
        have hm' : (m : Int) < (l.length : Int) := by omega
        have hm0 : (0 : Int) ≤ (m : Int) := by omega
        have qk : IntKind.i64.wrap ((k : Int) + 1) = (k : Int) + 1 := IntWalk.i64_in _ (by have := HKM.out; omega)
        have k3 := blk_cell (by have := B.out; rw [e1] at this; exact this)
        generalize l[m] = y at *
        obtain ⟨W6, hW6⟩ : ∃ W6, W6 = wr.alloc (ndO y) := ⟨_, rfl⟩
        have N6 := Lib.hid (show Chg [] wr W6 by rw [hW6]; exact (Chg.refl _ _).alloc _)
        have C6 := Lib.hid (C.out.thenSame N6.out)
        have B6 := Lib.hid (N6.out.at (by simp) B.out)
        have Y6 := Lib.hid (show W6.heap[wr.heap.size]? = some (ndO y) by rw [hW6]; exact heap_alloc_new _ _)
        unfold ndO at hW6 Y6
        have n6 := blk_cell Y6.out
        clear hc1 hc2 hm1
        rw [e1, e2]
        have HA : fitAt L ⟨11, text, n, keys, kids⟩ k = sExprB y.kind := by rw [HA]; unfold fitsB; simp
        have KC := Lib.hid (fun w' => by have := rexpression_any y w'; unfold ndC at this; exact this)
        generalize sExprB y.kind = q at *
        cases q
        · have HE := Lib.hid (HN.out HA)
          clear HA
          go_upto_region 11 with fail
          rw [← hW6]
          clear hW6 y0 y1 y2 y3 y4 k3 u1
          go_wp2_with (go_at_call 93; (with_reducible refine Calls.mono (KC.out _) ?_); rintro e w7 ⟨rfl, hc⟩; have C7 := Lib.hid (C6.out.thenSame hc); clear hc)
          go_ret
          exact ⟨retB HE.out.symm, C7.out⟩
        · have HS := Lib.hid (HY.out HA)
          clear HA
          go_upto_region 11 with fail
          rw [← hW6]
          clear hW6 y0 y1 y2 y3 y4 k3 u1
          go_wp2_with (go_at_call 93; (with_reducible refine Calls.mono (KC.out _) ?_); rintro e w7 ⟨rfl, hc⟩; have C7 := Lib.hid (C6.out.thenSame hc); have B7 := Lib.hid (hc.at (by simp) B6.out); clear hc)
          exact ⟨⟨k + 1, by go_num, by omega, HS, C7, (by first | exact B7 | (rw [e1] at B7; exact B7))⟩, by simp [intOf]; omega⟩
      · have hke : k = kids.length := by omega
        have HE := Lib.hid (show R = true by rw [HRF.out, ← hke]; exact HK.out)
        have hkl' : ¬ (k : Int) < (kids.length : Int) := by omega
        clear hke
        go_wp2_with fail
        go_ret
        exact ⟨retB HE.out.symm, C.out⟩
  by_cases hk12 : kind = 12
  · subst hk12
    have hct : countB ⟨12, text, n, keys, kids⟩ = true := by unfold countB; simp
    have HRF := Lib.hid (show R = fitsTo L ⟨12, text, n, keys, kids⟩ kids.length by rw [HRR.out]; unfold partsB; rw [hct, Bool.true_and])
    clear HRR hct
    go_enter Tryz.func67, Tryz.ntmps67
    go_upto_region 1 with fail
    rw [← HW1.out]
    go_wp2_with fail
    go_loopw [7] (fun u wr => ∃ k : Nat, u = .int .i64 k ∧ k ≤ kids.length ∧ Hid (fitsTo L ⟨12, text, n, keys, kids⟩ k = true) ∧ Hid (Chg [] w wr) ∧ Hid (wr.heap[w.heap.size]? = some (.cells #[.int .i64 12, .string text, .int .i64 n, .slice ka keys.length kc, .slice da kids.length dc] 49 (0, 0)))) (fun u _ => kids.length - (intOf u).toNat)
    case atStart => exact ⟨0, rfl, Nat.zero_le _, Lib.hid rfl, C1, B1⟩
    case round =>
      obtain ⟨k, rfl, hk, HK, C, B⟩ := hrel
      have hk0 : (0 : Int) ≤ (k : Int) := by omega
      by_cases hkl : k < kids.length
      · have hkl' : (k : Int) < (kids.length : Int) := by omega
        obtain ⟨b1, o1, e1, -, -, hc1⟩ := (HD.out _ C.out).1.elem (Chg.refl [] _) k hkl
        have u1 := hc1 0 (by omega)
        simp only [icI, List.getElem?_cons_zero, Nat.add_zero, Nat.mul_one] at u1
        obtain ⟨m, hm1, hm2⟩ := HKK.out k hkl
        rw [hm1] at u1
        obtain ⟨b2, o2, e2, -, -, hc2⟩ := (HL.out _ C.out).1.elem (Chg.refl [] _) m hm2
        have y0 := hc2 0 (by omega)
        have y1 := hc2 1 (by omega)
        have y2 := hc2 2 (by omega)
        have y3 := hc2 3 (by omega)
        have y4 := hc2 4 (by omega)
        simp only [ndC, List.getElem?_cons_zero, List.getElem?_cons_succ, Nat.add_zero] at y0 y1 y2 y3 y4
        have HA : fitAt L ⟨12, text, n, keys, kids⟩ k = fitsB ⟨12, text, n, keys, kids⟩ (k : Int) (l[m]).kind := by
          unfold fitAt
          rw [show kids[k]? = some (m : Int) from by rw [List.getElem?_eq_getElem hkl, hm1]]
          show fitsB _ _ (kindAt L (m : Int).toNat) = _
          rw [Int.toNat_natCast, HLM.out m hm2]
        have HN := Lib.hid (fun (h : fitAt L ⟨12, text, n, keys, kids⟩ k = false) => show R = false by rw [HRF.out]; exact fitsTo_no hkl h)
        have HY := Lib.hid (fun (h : fitAt L ⟨12, text, n, keys, kids⟩ k = true) => show fitsTo L ⟨12, text, n, keys, kids⟩ (k + 1) = true by rw [fitsTo_step, HK.out, h]; rfl)
        have hm' : (m : Int) < (l.length : Int) := by omega
        have hm0 : (0 : Int) ≤ (m : Int) := by omega
        have qk : IntKind.i64.wrap ((k : Int) + 1) = (k : Int) + 1 := IntWalk.i64_in _ (by have := HKM.out; omega)
        have k3 := blk_cell (by have := B.out; rw [e1] at this; exact this)
        generalize l[m] = y at *
        obtain ⟨W6, hW6⟩ : ∃ W6, W6 = wr.alloc (ndO y) := ⟨_, rfl⟩
        have N6 := Lib.hid (show Chg [] wr W6 by rw [hW6]; exact (Chg.refl _ _).alloc _)
        have C6 := Lib.hid (C.out.thenSame N6.out)
        have B6 := Lib.hid (N6.out.at (by simp) B.out)
        have Y6 := Lib.hid (show W6.heap[wr.heap.size]? = some (ndO y) by rw [hW6]; exact heap_alloc_new _ _)
        unfold ndO at hW6 Y6
        have n6 := blk_cell Y6.out
        clear hc1 hc2 hm1
        rw [e1, e2]
        have HA : fitAt L ⟨12, text, n, keys, kids⟩ k = sExprB y.kind := by rw [HA]; unfold fitsB; simp
        have KC := Lib.hid (fun w' => by have := rexpression_any y w'; unfold ndC at this; exact this)
        generalize sExprB y.kind = q at *
        cases q
        · have HE := Lib.hid (HN.out HA)
          clear HA
          go_upto_region 11 with fail
          rw [← hW6]
          clear hW6 y0 y1 y2 y3 y4 k3 u1
          go_wp2_with (go_at_call 93; (with_reducible refine Calls.mono (KC.out _) ?_); rintro e w7 ⟨rfl, hc⟩; have C7 := Lib.hid (C6.out.thenSame hc); clear hc)
          go_ret
          exact ⟨retB HE.out.symm, C7.out⟩
        · have HS := Lib.hid (HY.out HA)
          clear HA
          go_upto_region 11 with fail
          rw [← hW6]
          clear hW6 y0 y1 y2 y3 y4 k3 u1
          go_wp2_with (go_at_call 93; (with_reducible refine Calls.mono (KC.out _) ?_); rintro e w7 ⟨rfl, hc⟩; have C7 := Lib.hid (C6.out.thenSame hc); have B7 := Lib.hid (hc.at (by simp) B6.out); clear hc)
          exact ⟨⟨k + 1, by go_num, by omega, HS, C7, (by first | exact B7 | (rw [e1] at B7; exact B7))⟩, by simp [intOf]; omega⟩
      · have hke : k = kids.length := by omega
        have HE := Lib.hid (show R = true by rw [HRF.out, ← hke]; exact HK.out)
        have hkl' : ¬ (k : Int) < (kids.length : Int) := by omega
        clear hke
        go_wp2_with fail
        go_ret
        exact ⟨retB HE.out.symm, C.out⟩
  by_cases hk13 : kind = 13
  · subst hk13
    by_cases hct : countB ⟨13, text, n, keys, kids⟩ = true
    · have hm : ((kids.length : Int) != 1) = false := by unfold countB at hct; simp at hct; simp [hct]
      have HRF := Lib.hid (show R = fitsTo L ⟨13, text, n, keys, kids⟩ kids.length by rw [HRR.out]; unfold partsB; rw [hct, Bool.true_and])
      clear HRR hct
      go_enter Tryz.func67, Tryz.ntmps67
      go_upto_region 1 with fail
      rw [← HW1.out]
      go_wp2_with fail
      go_loopw [7] (fun u wr => ∃ k : Nat, u = .int .i64 k ∧ k ≤ kids.length ∧ Hid (fitsTo L ⟨13, text, n, keys, kids⟩ k = true) ∧ Hid (Chg [] w wr) ∧ Hid (wr.heap[w.heap.size]? = some (.cells #[.int .i64 13, .string text, .int .i64 n, .slice ka keys.length kc, .slice da kids.length dc] 49 (0, 0)))) (fun u _ => kids.length - (intOf u).toNat)
      case atStart => exact ⟨0, rfl, Nat.zero_le _, Lib.hid rfl, C1, B1⟩
      case round =>
        obtain ⟨k, rfl, hk, HK, C, B⟩ := hrel
        have hk0 : (0 : Int) ≤ (k : Int) := by omega
        by_cases hkl : k < kids.length
        · have hkl' : (k : Int) < (kids.length : Int) := by omega
          obtain ⟨b1, o1, e1, -, -, hc1⟩ := (HD.out _ C.out).1.elem (Chg.refl [] _) k hkl
          have u1 := hc1 0 (by omega)
          simp only [icI, List.getElem?_cons_zero, Nat.add_zero, Nat.mul_one] at u1
          obtain ⟨m, hm1, hm2⟩ := HKK.out k hkl
          rw [hm1] at u1
          obtain ⟨b2, o2, e2, -, -, hc2⟩ := (HL.out _ C.out).1.elem (Chg.refl [] _) m hm2
          have y0 := hc2 0 (by omega)
          have y1 := hc2 1 (by omega)
          have y2 := hc2 2 (by omega)
          have y3 := hc2 3 (by omega)
          have y4 := hc2 4 (by omega)
          simp only [ndC, List.getElem?_cons_zero, List.getElem?_cons_succ, Nat.add_zero] at y0 y1 y2 y3 y4
          have HA : fitAt L ⟨13, text, n, keys, kids⟩ k = fitsB ⟨13, text, n, keys, kids⟩ (k : Int) (l[m]).kind := by
            unfold fitAt
            rw [show kids[k]? = some (m : Int) from by rw [List.getElem?_eq_getElem hkl, hm1]]
            show fitsB _ _ (kindAt L (m : Int).toNat) = _
            rw [Int.toNat_natCast, HLM.out m hm2]
          have HN := Lib.hid (fun (h : fitAt L ⟨13, text, n, keys, kids⟩ k = false) => show R = false by rw [HRF.out]; exact fitsTo_no hkl h)
          have HY := Lib.hid (fun (h : fitAt L ⟨13, text, n, keys, kids⟩ k = true) => show fitsTo L ⟨13, text, n, keys, kids⟩ (k + 1) = true by rw [fitsTo_step, HK.out, h]; rfl)
          have hm' : (m : Int) < (l.length : Int) := by omega
          have hm0 : (0 : Int) ≤ (m : Int) := by omega
          have qk : IntKind.i64.wrap ((k : Int) + 1) = (k : Int) + 1 := IntWalk.i64_in _ (by have := HKM.out; omega)
          have k3 := blk_cell (by have := B.out; rw [e1] at this; exact this)
          generalize l[m] = y at *
          obtain ⟨W6, hW6⟩ : ∃ W6, W6 = wr.alloc (ndO y) := ⟨_, rfl⟩
          have N6 := Lib.hid (show Chg [] wr W6 by rw [hW6]; exact (Chg.refl _ _).alloc _)
          have C6 := Lib.hid (C.out.thenSame N6.out)
          have B6 := Lib.hid (N6.out.at (by simp) B.out)
          have Y6 := Lib.hid (show W6.heap[wr.heap.size]? = some (ndO y) by rw [hW6]; exact heap_alloc_new _ _)
          unfold ndO at hW6 Y6
          have n6 := blk_cell Y6.out
          clear hc1 hc2 hm1
          rw [e1, e2]
          have HA : fitAt L ⟨13, text, n, keys, kids⟩ k = sExprB y.kind := by rw [HA]; unfold fitsB; simp
          have KC := Lib.hid (fun w' => by have := rexpression_any y w'; unfold ndC at this; exact this)
          generalize sExprB y.kind = q at *
          cases q
          · have HE := Lib.hid (HN.out HA)
            clear HA
            go_upto_region 11 with fail
            rw [← hW6]
            clear hW6 y0 y1 y2 y3 y4 k3 u1
            go_wp2_with (go_at_call 93; (with_reducible refine Calls.mono (KC.out _) ?_); rintro e w7 ⟨rfl, hc⟩; have C7 := Lib.hid (C6.out.thenSame hc); clear hc)
            go_ret
            exact ⟨retB HE.out.symm, C7.out⟩
          · have HS := Lib.hid (HY.out HA)
            clear HA
            go_upto_region 11 with fail
            rw [← hW6]
            clear hW6 y0 y1 y2 y3 y4 k3 u1
            go_wp2_with (go_at_call 93; (with_reducible refine Calls.mono (KC.out _) ?_); rintro e w7 ⟨rfl, hc⟩; have C7 := Lib.hid (C6.out.thenSame hc); have B7 := Lib.hid (hc.at (by simp) B6.out); clear hc)
            exact ⟨⟨k + 1, by go_num, by omega, HS, C7, (by first | exact B7 | (rw [e1] at B7; exact B7))⟩, by simp [intOf]; omega⟩
        · have hke : k = kids.length := by omega
          have HE := Lib.hid (show R = true by rw [HRF.out, ← hke]; exact HK.out)
          have hkl' : ¬ (k : Int) < (kids.length : Int) := by omega
          clear hke
          go_wp2_with fail
          go_ret
          exact ⟨retB HE.out.symm, C.out⟩
    · have HE := Lib.hid (show R = false by rw [HRR.out]; unfold partsB; rw [Bool.eq_false_iff.2 hct]; rfl)
      have hm : ((kids.length : Int) != 1) = true := by unfold countB at hct; simp at hct; simp; omega
      clear hct HRR
      go_enter Tryz.func67, Tryz.ntmps67
      go_upto_region 1 with fail
      rw [← HW1.out]
      go_wp2_with fail
      go_ret
      exact ⟨retB HE.out.symm, C1.out⟩
  by_cases hk14 : kind = 14
  · subst hk14
    by_cases hct : countB ⟨14, text, n, keys, kids⟩ = true
    · have hm : ((kids.length : Int) != 1) = false := by unfold countB at hct; simp at hct; simp [hct]
      have HRF := Lib.hid (show R = fitsTo L ⟨14, text, n, keys, kids⟩ kids.length by rw [HRR.out]; unfold partsB; rw [hct, Bool.true_and])
      clear HRR hct
      go_enter Tryz.func67, Tryz.ntmps67
      go_upto_region 1 with fail
      rw [← HW1.out]
      go_wp2_with fail
      go_loopw [7] (fun u wr => ∃ k : Nat, u = .int .i64 k ∧ k ≤ kids.length ∧ Hid (fitsTo L ⟨14, text, n, keys, kids⟩ k = true) ∧ Hid (Chg [] w wr) ∧ Hid (wr.heap[w.heap.size]? = some (.cells #[.int .i64 14, .string text, .int .i64 n, .slice ka keys.length kc, .slice da kids.length dc] 49 (0, 0)))) (fun u _ => kids.length - (intOf u).toNat)
      case atStart => exact ⟨0, rfl, Nat.zero_le _, Lib.hid rfl, C1, B1⟩
      case round =>
        obtain ⟨k, rfl, hk, HK, C, B⟩ := hrel
        have hk0 : (0 : Int) ≤ (k : Int) := by omega
        by_cases hkl : k < kids.length
        · have hkl' : (k : Int) < (kids.length : Int) := by omega
          obtain ⟨b1, o1, e1, -, -, hc1⟩ := (HD.out _ C.out).1.elem (Chg.refl [] _) k hkl
          have u1 := hc1 0 (by omega)
          simp only [icI, List.getElem?_cons_zero, Nat.add_zero, Nat.mul_one] at u1
          obtain ⟨m, hm1, hm2⟩ := HKK.out k hkl
          rw [hm1] at u1
          obtain ⟨b2, o2, e2, -, -, hc2⟩ := (HL.out _ C.out).1.elem (Chg.refl [] _) m hm2
          have y0 := hc2 0 (by omega)
          have y1 := hc2 1 (by omega)
          have y2 := hc2 2 (by omega)
          have y3 := hc2 3 (by omega)
          have y4 := hc2 4 (by omega)
          simp only [ndC, List.getElem?_cons_zero, List.getElem?_cons_succ, Nat.add_zero] at y0 y1 y2 y3 y4
          have HA : fitAt L ⟨14, text, n, keys, kids⟩ k = fitsB ⟨14, text, n, keys, kids⟩ (k : Int) (l[m]).kind := by
            unfold fitAt
            rw [show kids[k]? = some (m : Int) from by rw [List.getElem?_eq_getElem hkl, hm1]]
            show fitsB _ _ (kindAt L (m : Int).toNat) = _
            rw [Int.toNat_natCast, HLM.out m hm2]
          have HN := Lib.hid (fun (h : fitAt L ⟨14, text, n, keys, kids⟩ k = false) => show R = false by rw [HRF.out]; exact fitsTo_no hkl h)
          have HY := Lib.hid (fun (h : fitAt L ⟨14, text, n, keys, kids⟩ k = true) => show fitsTo L ⟨14, text, n, keys, kids⟩ (k + 1) = true by rw [fitsTo_step, HK.out, h]; rfl)
          have hm' : (m : Int) < (l.length : Int) := by omega
          have hm0 : (0 : Int) ≤ (m : Int) := by omega
          have qk : IntKind.i64.wrap ((k : Int) + 1) = (k : Int) + 1 := IntWalk.i64_in _ (by have := HKM.out; omega)
          have k3 := blk_cell (by have := B.out; rw [e1] at this; exact this)
          generalize l[m] = y at *
          obtain ⟨W6, hW6⟩ : ∃ W6, W6 = wr.alloc (ndO y) := ⟨_, rfl⟩
          have N6 := Lib.hid (show Chg [] wr W6 by rw [hW6]; exact (Chg.refl _ _).alloc _)
          have C6 := Lib.hid (C.out.thenSame N6.out)
          have B6 := Lib.hid (N6.out.at (by simp) B.out)
          have Y6 := Lib.hid (show W6.heap[wr.heap.size]? = some (ndO y) by rw [hW6]; exact heap_alloc_new _ _)
          unfold ndO at hW6 Y6
          have n6 := blk_cell Y6.out
          clear hc1 hc2 hm1
          rw [e1, e2]
          have HA : fitAt L ⟨14, text, n, keys, kids⟩ k = sExprB y.kind := by rw [HA]; unfold fitsB; simp
          have KC := Lib.hid (fun w' => by have := rexpression_any y w'; unfold ndC at this; exact this)
          generalize sExprB y.kind = q at *
          cases q
          · have HE := Lib.hid (HN.out HA)
            clear HA
            go_upto_region 11 with fail
            rw [← hW6]
            clear hW6 y0 y1 y2 y3 y4 k3 u1
            go_wp2_with (go_at_call 93; (with_reducible refine Calls.mono (KC.out _) ?_); rintro e w7 ⟨rfl, hc⟩; have C7 := Lib.hid (C6.out.thenSame hc); clear hc)
            go_ret
            exact ⟨retB HE.out.symm, C7.out⟩
          · have HS := Lib.hid (HY.out HA)
            clear HA
            go_upto_region 11 with fail
            rw [← hW6]
            clear hW6 y0 y1 y2 y3 y4 k3 u1
            go_wp2_with (go_at_call 93; (with_reducible refine Calls.mono (KC.out _) ?_); rintro e w7 ⟨rfl, hc⟩; have C7 := Lib.hid (C6.out.thenSame hc); have B7 := Lib.hid (hc.at (by simp) B6.out); clear hc)
            exact ⟨⟨k + 1, by go_num, by omega, HS, C7, (by first | exact B7 | (rw [e1] at B7; exact B7))⟩, by simp [intOf]; omega⟩
        · have hke : k = kids.length := by omega
          have HE := Lib.hid (show R = true by rw [HRF.out, ← hke]; exact HK.out)
          have hkl' : ¬ (k : Int) < (kids.length : Int) := by omega
          clear hke
          go_wp2_with fail
          go_ret
          exact ⟨retB HE.out.symm, C.out⟩
    · have HE := Lib.hid (show R = false by rw [HRR.out]; unfold partsB; rw [Bool.eq_false_iff.2 hct]; rfl)
      have hm : ((kids.length : Int) != 1) = true := by unfold countB at hct; simp at hct; simp; omega
      clear hct HRR
      go_enter Tryz.func67, Tryz.ntmps67
      go_upto_region 1 with fail
      rw [← HW1.out]
      go_wp2_with fail
      go_ret
      exact ⟨retB HE.out.symm, C1.out⟩
  by_cases hk15 : kind = 15
  · subst hk15
    by_cases hct : countB ⟨15, text, n, keys, kids⟩ = true
    · have hm : (((kids.length : Int) != 2) = false) ∨ (((kids.length : Int) != 2) = true ∧ ((kids.length : Int) != 3) = false) := by
        unfold countB at hct
        simp at hct
        by_cases h2 : kids.length = 2
        · exact .inl (by simp [h2])
        · exact .inr ⟨by simp; omega, by simp; omega⟩
      rcases hm with hm | ⟨hm, hm3⟩
      · have HRF := Lib.hid (show R = fitsTo L ⟨15, text, n, keys, kids⟩ kids.length by rw [HRR.out]; unfold partsB; rw [hct, Bool.true_and])
        clear HRR hct
        go_enter Tryz.func67, Tryz.ntmps67
        go_upto_region 1 with fail
        rw [← HW1.out]
        go_wp2_with fail
        go_loopw [7] (fun u wr => ∃ k : Nat, u = .int .i64 k ∧ k ≤ kids.length ∧ Hid (fitsTo L ⟨15, text, n, keys, kids⟩ k = true) ∧ Hid (Chg [] w wr) ∧ Hid (wr.heap[w.heap.size]? = some (.cells #[.int .i64 15, .string text, .int .i64 n, .slice ka keys.length kc, .slice da kids.length dc] 49 (0, 0)))) (fun u _ => kids.length - (intOf u).toNat)
        case atStart => exact ⟨0, rfl, Nat.zero_le _, Lib.hid rfl, C1, B1⟩
        case round =>
          obtain ⟨k, rfl, hk, HK, C, B⟩ := hrel
          have hk0 : (0 : Int) ≤ (k : Int) := by omega
          by_cases hkl : k < kids.length
          · have hkl' : (k : Int) < (kids.length : Int) := by omega
            by_cases hz : 0 < k
            · have hz' : (k : Int) > 0 := by omega
              obtain ⟨b1, o1, e1, -, -, hc1⟩ := (HD.out _ C.out).1.elem (Chg.refl [] _) k hkl
              have u1 := hc1 0 (by omega)
              simp only [icI, List.getElem?_cons_zero, Nat.add_zero, Nat.mul_one] at u1
              obtain ⟨m, hm1, hm2⟩ := HKK.out k hkl
              rw [hm1] at u1
              obtain ⟨b2, o2, e2, -, -, hc2⟩ := (HL.out _ C.out).1.elem (Chg.refl [] _) m hm2
              have y0 := hc2 0 (by omega)
              have y1 := hc2 1 (by omega)
              have y2 := hc2 2 (by omega)
              have y3 := hc2 3 (by omega)
              have y4 := hc2 4 (by omega)
              simp only [ndC, List.getElem?_cons_zero, List.getElem?_cons_succ, Nat.add_zero] at y0 y1 y2 y3 y4
              have HA : fitAt L ⟨15, text, n, keys, kids⟩ k = fitsB ⟨15, text, n, keys, kids⟩ (k : Int) (l[m]).kind := by
                unfold fitAt
                rw [show kids[k]? = some (m : Int) from by rw [List.getElem?_eq_getElem hkl, hm1]]
                show fitsB _ _ (kindAt L (m : Int).toNat) = _
                rw [Int.toNat_natCast, HLM.out m hm2]
              have HN := Lib.hid (fun (h : fitAt L ⟨15, text, n, keys, kids⟩ k = false) => show R = false by rw [HRF.out]; exact fitsTo_no hkl h)
              have HY := Lib.hid (fun (h : fitAt L ⟨15, text, n, keys, kids⟩ k = true) => show fitsTo L ⟨15, text, n, keys, kids⟩ (k + 1) = true by rw [fitsTo_step, HK.out, h]; rfl)
              have hm' : (m : Int) < (l.length : Int) := by omega
              have hm0 : (0 : Int) ≤ (m : Int) := by omega
              have qk : IntKind.i64.wrap ((k : Int) + 1) = (k : Int) + 1 := IntWalk.i64_in _ (by have := HKM.out; omega)
              have k3 := blk_cell (by have := B.out; rw [e1] at this; exact this)
              generalize l[m] = y at *
              obtain ⟨W6, hW6⟩ : ∃ W6, W6 = wr.alloc (ndO y) := ⟨_, rfl⟩
              have N6 := Lib.hid (show Chg [] wr W6 by rw [hW6]; exact (Chg.refl _ _).alloc _)
              have C6 := Lib.hid (C.out.thenSame N6.out)
              have B6 := Lib.hid (N6.out.at (by simp) B.out)
              have Y6 := Lib.hid (show W6.heap[wr.heap.size]? = some (ndO y) by rw [hW6]; exact heap_alloc_new _ _)
              unfold ndO at hW6 Y6
              have n6 := blk_cell Y6.out
              clear hc1 hc2 hm1
              rw [e1, e2]
              have HA : fitAt L ⟨15, text, n, keys, kids⟩ k = (y.kind == 19) := by rw [HA]; unfold fitsB; simp [hz]
              cases hq : (y.kind == 19)
              · rw [hq] at HA
                have HE := Lib.hid (HN.out HA)
                have hq2 : (y.kind != 19) = true := by rw [bne, hq]; rfl
                clear HA hq
                go_upto_region 11 with fail
                rw [← hW6]
                clear hW6 y0 y1 y2 y3 y4 k3 u1
                go_wp2_with fail
                go_ret
                exact ⟨retB HE.out.symm, C6.out⟩
              · rw [hq] at HA
                have HS := Lib.hid (HY.out HA)
                have hq2 : (y.kind != 19) = false := by rw [bne, hq]; rfl
                clear HA hq
                go_upto_region 11 with fail
                rw [← hW6]
                clear hW6 y0 y1 y2 y3 y4 k3 u1
                go_wp2_with fail
                exact ⟨⟨k + 1, by go_num, by omega, HS, C6, (by first | exact B6 | (rw [e1] at B6; exact B6))⟩, by simp [intOf]; omega⟩
            · have hz' : ¬ (k : Int) > 0 := by omega
              obtain ⟨b1, o1, e1, -, -, hc1⟩ := (HD.out _ C.out).1.elem (Chg.refl [] _) k hkl
              have u1 := hc1 0 (by omega)
              simp only [icI, List.getElem?_cons_zero, Nat.add_zero, Nat.mul_one] at u1
              obtain ⟨m, hm1, hm2⟩ := HKK.out k hkl
              rw [hm1] at u1
              obtain ⟨b2, o2, e2, -, -, hc2⟩ := (HL.out _ C.out).1.elem (Chg.refl [] _) m hm2
              have y0 := hc2 0 (by omega)
              have y1 := hc2 1 (by omega)
              have y2 := hc2 2 (by omega)
              have y3 := hc2 3 (by omega)
              have y4 := hc2 4 (by omega)
              simp only [ndC, List.getElem?_cons_zero, List.getElem?_cons_succ, Nat.add_zero] at y0 y1 y2 y3 y4
              have HA : fitAt L ⟨15, text, n, keys, kids⟩ k = fitsB ⟨15, text, n, keys, kids⟩ (k : Int) (l[m]).kind := by
                unfold fitAt
                rw [show kids[k]? = some (m : Int) from by rw [List.getElem?_eq_getElem hkl, hm1]]
                show fitsB _ _ (kindAt L (m : Int).toNat) = _
                rw [Int.toNat_natCast, HLM.out m hm2]
              have HN := Lib.hid (fun (h : fitAt L ⟨15, text, n, keys, kids⟩ k = false) => show R = false by rw [HRF.out]; exact fitsTo_no hkl h)
              have HY := Lib.hid (fun (h : fitAt L ⟨15, text, n, keys, kids⟩ k = true) => show fitsTo L ⟨15, text, n, keys, kids⟩ (k + 1) = true by rw [fitsTo_step, HK.out, h]; rfl)
              have hm' : (m : Int) < (l.length : Int) := by omega
              have hm0 : (0 : Int) ≤ (m : Int) := by omega
              have qk : IntKind.i64.wrap ((k : Int) + 1) = (k : Int) + 1 := IntWalk.i64_in _ (by have := HKM.out; omega)
              have k3 := blk_cell (by have := B.out; rw [e1] at this; exact this)
              generalize l[m] = y at *
              obtain ⟨W6, hW6⟩ : ∃ W6, W6 = wr.alloc (ndO y) := ⟨_, rfl⟩
              have N6 := Lib.hid (show Chg [] wr W6 by rw [hW6]; exact (Chg.refl _ _).alloc _)
              have C6 := Lib.hid (C.out.thenSame N6.out)
              have B6 := Lib.hid (N6.out.at (by simp) B.out)
              have Y6 := Lib.hid (show W6.heap[wr.heap.size]? = some (ndO y) by rw [hW6]; exact heap_alloc_new _ _)
              unfold ndO at hW6 Y6
              have n6 := blk_cell Y6.out
              clear hc1 hc2 hm1
              rw [e1, e2]
              have HA : fitAt L ⟨15, text, n, keys, kids⟩ k = sExprB y.kind := by rw [HA]; unfold fitsB; simp [hz]
              have KC := Lib.hid (fun w' => by have := rexpression_any y w'; unfold ndC at this; exact this)
              generalize sExprB y.kind = q at *
              cases q
              · have HE := Lib.hid (HN.out HA)
                clear HA
                go_upto_region 11 with fail
                rw [← hW6]
                clear hW6 y0 y1 y2 y3 y4 k3 u1
                go_wp2_with (go_at_call 93; (with_reducible refine Calls.mono (KC.out _) ?_); rintro e w7 ⟨rfl, hc⟩; have C7 := Lib.hid (C6.out.thenSame hc); clear hc)
                go_ret
                exact ⟨retB HE.out.symm, C7.out⟩
              · have HS := Lib.hid (HY.out HA)
                clear HA
                go_upto_region 11 with fail
                rw [← hW6]
                clear hW6 y0 y1 y2 y3 y4 k3 u1
                go_wp2_with (go_at_call 93; (with_reducible refine Calls.mono (KC.out _) ?_); rintro e w7 ⟨rfl, hc⟩; have C7 := Lib.hid (C6.out.thenSame hc); have B7 := Lib.hid (hc.at (by simp) B6.out); clear hc)
                exact ⟨⟨k + 1, by go_num, by omega, HS, C7, (by first | exact B7 | (rw [e1] at B7; exact B7))⟩, by simp [intOf]; omega⟩
          · have hke : k = kids.length := by omega
            have HE := Lib.hid (show R = true by rw [HRF.out, ← hke]; exact HK.out)
            have hkl' : ¬ (k : Int) < (kids.length : Int) := by omega
            clear hke
            go_wp2_with fail
            go_ret
            exact ⟨retB HE.out.symm, C.out⟩
      · have HRF := Lib.hid (show R = fitsTo L ⟨15, text, n, keys, kids⟩ kids.length by rw [HRR.out]; unfold partsB; rw [hct, Bool.true_and])
        clear HRR hct
        go_enter Tryz.func67, Tryz.ntmps67
        go_upto_region 1 with fail
        rw [← HW1.out]
        go_wp2_with fail
        go_loopw [7] (fun u wr => ∃ k : Nat, u = .int .i64 k ∧ k ≤ kids.length ∧ Hid (fitsTo L ⟨15, text, n, keys, kids⟩ k = true) ∧ Hid (Chg [] w wr) ∧ Hid (wr.heap[w.heap.size]? = some (.cells #[.int .i64 15, .string text, .int .i64 n, .slice ka keys.length kc, .slice da kids.length dc] 49 (0, 0)))) (fun u _ => kids.length - (intOf u).toNat)
        case atStart => exact ⟨0, rfl, Nat.zero_le _, Lib.hid rfl, C1, B1⟩
        case round =>
          obtain ⟨k, rfl, hk, HK, C, B⟩ := hrel
          have hk0 : (0 : Int) ≤ (k : Int) := by omega
          by_cases hkl : k < kids.length
          · have hkl' : (k : Int) < (kids.length : Int) := by omega
            by_cases hz : 0 < k
            · have hz' : (k : Int) > 0 := by omega
              obtain ⟨b1, o1, e1, -, -, hc1⟩ := (HD.out _ C.out).1.elem (Chg.refl [] _) k hkl
              have u1 := hc1 0 (by omega)
              simp only [icI, List.getElem?_cons_zero, Nat.add_zero, Nat.mul_one] at u1
              obtain ⟨m, hm1, hm2⟩ := HKK.out k hkl
              rw [hm1] at u1
              obtain ⟨b2, o2, e2, -, -, hc2⟩ := (HL.out _ C.out).1.elem (Chg.refl [] _) m hm2
              have y0 := hc2 0 (by omega)
              have y1 := hc2 1 (by omega)
              have y2 := hc2 2 (by omega)
              have y3 := hc2 3 (by omega)
              have y4 := hc2 4 (by omega)
              simp only [ndC, List.getElem?_cons_zero, List.getElem?_cons_succ, Nat.add_zero] at y0 y1 y2 y3 y4
              have HA : fitAt L ⟨15, text, n, keys, kids⟩ k = fitsB ⟨15, text, n, keys, kids⟩ (k : Int) (l[m]).kind := by
                unfold fitAt
                rw [show kids[k]? = some (m : Int) from by rw [List.getElem?_eq_getElem hkl, hm1]]
                show fitsB _ _ (kindAt L (m : Int).toNat) = _
                rw [Int.toNat_natCast, HLM.out m hm2]
              have HN := Lib.hid (fun (h : fitAt L ⟨15, text, n, keys, kids⟩ k = false) => show R = false by rw [HRF.out]; exact fitsTo_no hkl h)
              have HY := Lib.hid (fun (h : fitAt L ⟨15, text, n, keys, kids⟩ k = true) => show fitsTo L ⟨15, text, n, keys, kids⟩ (k + 1) = true by rw [fitsTo_step, HK.out, h]; rfl)
              have hm' : (m : Int) < (l.length : Int) := by omega
              have hm0 : (0 : Int) ≤ (m : Int) := by omega
              have qk : IntKind.i64.wrap ((k : Int) + 1) = (k : Int) + 1 := IntWalk.i64_in _ (by have := HKM.out; omega)
              have k3 := blk_cell (by have := B.out; rw [e1] at this; exact this)
              generalize l[m] = y at *
              obtain ⟨W6, hW6⟩ : ∃ W6, W6 = wr.alloc (ndO y) := ⟨_, rfl⟩
              have N6 := Lib.hid (show Chg [] wr W6 by rw [hW6]; exact (Chg.refl _ _).alloc _)
              have C6 := Lib.hid (C.out.thenSame N6.out)
              have B6 := Lib.hid (N6.out.at (by simp) B.out)
              have Y6 := Lib.hid (show W6.heap[wr.heap.size]? = some (ndO y) by rw [hW6]; exact heap_alloc_new _ _)
              unfold ndO at hW6 Y6
              have n6 := blk_cell Y6.out
              clear hc1 hc2 hm1
              rw [e1, e2]
              have HA : fitAt L ⟨15, text, n, keys, kids⟩ k = (y.kind == 19) := by rw [HA]; unfold fitsB; simp [hz]
              cases hq : (y.kind == 19)
              · rw [hq] at HA
                have HE := Lib.hid (HN.out HA)
                have hq2 : (y.kind != 19) = true := by rw [bne, hq]; rfl
                clear HA hq
                go_upto_region 11 with fail
                rw [← hW6]
                clear hW6 y0 y1 y2 y3 y4 k3 u1
                go_wp2_with fail
                go_ret
                exact ⟨retB HE.out.symm, C6.out⟩
              · rw [hq] at HA
                have HS := Lib.hid (HY.out HA)
                have hq2 : (y.kind != 19) = false := by rw [bne, hq]; rfl
                clear HA hq
                go_upto_region 11 with fail
                rw [← hW6]
                clear hW6 y0 y1 y2 y3 y4 k3 u1
                go_wp2_with fail
                exact ⟨⟨k + 1, by go_num, by omega, HS, C6, (by first | exact B6 | (rw [e1] at B6; exact B6))⟩, by simp [intOf]; omega⟩
            · have hz' : ¬ (k : Int) > 0 := by omega
              obtain ⟨b1, o1, e1, -, -, hc1⟩ := (HD.out _ C.out).1.elem (Chg.refl [] _) k hkl
              have u1 := hc1 0 (by omega)
              simp only [icI, List.getElem?_cons_zero, Nat.add_zero, Nat.mul_one] at u1
              obtain ⟨m, hm1, hm2⟩ := HKK.out k hkl
              rw [hm1] at u1
              obtain ⟨b2, o2, e2, -, -, hc2⟩ := (HL.out _ C.out).1.elem (Chg.refl [] _) m hm2
              have y0 := hc2 0 (by omega)
              have y1 := hc2 1 (by omega)
              have y2 := hc2 2 (by omega)
              have y3 := hc2 3 (by omega)
              have y4 := hc2 4 (by omega)
              simp only [ndC, List.getElem?_cons_zero, List.getElem?_cons_succ, Nat.add_zero] at y0 y1 y2 y3 y4
              have HA : fitAt L ⟨15, text, n, keys, kids⟩ k = fitsB ⟨15, text, n, keys, kids⟩ (k : Int) (l[m]).kind := by
                unfold fitAt
                rw [show kids[k]? = some (m : Int) from by rw [List.getElem?_eq_getElem hkl, hm1]]
                show fitsB _ _ (kindAt L (m : Int).toNat) = _
                rw [Int.toNat_natCast, HLM.out m hm2]
              have HN := Lib.hid (fun (h : fitAt L ⟨15, text, n, keys, kids⟩ k = false) => show R = false by rw [HRF.out]; exact fitsTo_no hkl h)
              have HY := Lib.hid (fun (h : fitAt L ⟨15, text, n, keys, kids⟩ k = true) => show fitsTo L ⟨15, text, n, keys, kids⟩ (k + 1) = true by rw [fitsTo_step, HK.out, h]; rfl)
              have hm' : (m : Int) < (l.length : Int) := by omega
              have hm0 : (0 : Int) ≤ (m : Int) := by omega
              have qk : IntKind.i64.wrap ((k : Int) + 1) = (k : Int) + 1 := IntWalk.i64_in _ (by have := HKM.out; omega)
              have k3 := blk_cell (by have := B.out; rw [e1] at this; exact this)
              generalize l[m] = y at *
              obtain ⟨W6, hW6⟩ : ∃ W6, W6 = wr.alloc (ndO y) := ⟨_, rfl⟩
              have N6 := Lib.hid (show Chg [] wr W6 by rw [hW6]; exact (Chg.refl _ _).alloc _)
              have C6 := Lib.hid (C.out.thenSame N6.out)
              have B6 := Lib.hid (N6.out.at (by simp) B.out)
              have Y6 := Lib.hid (show W6.heap[wr.heap.size]? = some (ndO y) by rw [hW6]; exact heap_alloc_new _ _)
              unfold ndO at hW6 Y6
              have n6 := blk_cell Y6.out
              clear hc1 hc2 hm1
              rw [e1, e2]
              have HA : fitAt L ⟨15, text, n, keys, kids⟩ k = sExprB y.kind := by rw [HA]; unfold fitsB; simp [hz]
              have KC := Lib.hid (fun w' => by have := rexpression_any y w'; unfold ndC at this; exact this)
              generalize sExprB y.kind = q at *
              cases q
              · have HE := Lib.hid (HN.out HA)
                clear HA
                go_upto_region 11 with fail
                rw [← hW6]
                clear hW6 y0 y1 y2 y3 y4 k3 u1
                go_wp2_with (go_at_call 93; (with_reducible refine Calls.mono (KC.out _) ?_); rintro e w7 ⟨rfl, hc⟩; have C7 := Lib.hid (C6.out.thenSame hc); clear hc)
                go_ret
                exact ⟨retB HE.out.symm, C7.out⟩
              · have HS := Lib.hid (HY.out HA)
                clear HA
                go_upto_region 11 with fail
                rw [← hW6]
                clear hW6 y0 y1 y2 y3 y4 k3 u1
                go_wp2_with (go_at_call 93; (with_reducible refine Calls.mono (KC.out _) ?_); rintro e w7 ⟨rfl, hc⟩; have C7 := Lib.hid (C6.out.thenSame hc); have B7 := Lib.hid (hc.at (by simp) B6.out); clear hc)
                exact ⟨⟨k + 1, by go_num, by omega, HS, C7, (by first | exact B7 | (rw [e1] at B7; exact B7))⟩, by simp [intOf]; omega⟩
          · have hke : k = kids.length := by omega
            have HE := Lib.hid (show R = true by rw [HRF.out, ← hke]; exact HK.out)
            have hkl' : ¬ (k : Int) < (kids.length : Int) := by omega
            clear hke
            go_wp2_with fail
            go_ret
            exact ⟨retB HE.out.symm, C.out⟩
    · have HE := Lib.hid (show R = false by rw [HRR.out]; unfold partsB; rw [Bool.eq_false_iff.2 hct]; rfl)
      have hm : ((kids.length : Int) != 2) = true := by unfold countB at hct; simp at hct; simp; omega
      have hm3 : ((kids.length : Int) != 3) = true := by unfold countB at hct; simp at hct; simp; omega
      clear hct HRR
      go_enter Tryz.func67, Tryz.ntmps67
      go_upto_region 1 with fail
      rw [← HW1.out]
      go_wp2_with fail
      go_ret
      exact ⟨retB HE.out.symm, C1.out⟩
  by_cases hk16 : kind = 16
  · subst hk16
    by_cases hct : countB ⟨16, text, n, keys, kids⟩ = true
    · have hm : ((kids.length : Int) != 2) = false := by unfold countB at hct; simp at hct; simp [hct]
      have HRF := Lib.hid (show R = fitsTo L ⟨16, text, n, keys, kids⟩ kids.length by rw [HRR.out]; unfold partsB; rw [hct, Bool.true_and])
      clear HRR hct
      go_enter Tryz.func67, Tryz.ntmps67
      go_upto_region 1 with fail
      rw [← HW1.out]
      go_wp2_with fail
      go_loopw [7] (fun u wr => ∃ k : Nat, u = .int .i64 k ∧ k ≤ kids.length ∧ Hid (fitsTo L ⟨16, text, n, keys, kids⟩ k = true) ∧ Hid (Chg [] w wr) ∧ Hid (wr.heap[w.heap.size]? = some (.cells #[.int .i64 16, .string text, .int .i64 n, .slice ka keys.length kc, .slice da kids.length dc] 49 (0, 0)))) (fun u _ => kids.length - (intOf u).toNat)
      case atStart => exact ⟨0, rfl, Nat.zero_le _, Lib.hid rfl, C1, B1⟩
      case round =>
        obtain ⟨k, rfl, hk, HK, C, B⟩ := hrel
        have hk0 : (0 : Int) ≤ (k : Int) := by omega
        by_cases hkl : k < kids.length
        · have hkl' : (k : Int) < (kids.length : Int) := by omega
          by_cases hz : 0 < k
          · have hz' : (k : Int) > 0 := by omega
            obtain ⟨b1, o1, e1, -, -, hc1⟩ := (HD.out _ C.out).1.elem (Chg.refl [] _) k hkl
            have u1 := hc1 0 (by omega)
            simp only [icI, List.getElem?_cons_zero, Nat.add_zero, Nat.mul_one] at u1
            obtain ⟨m, hm1, hm2⟩ := HKK.out k hkl
            rw [hm1] at u1
            obtain ⟨b2, o2, e2, -, -, hc2⟩ := (HL.out _ C.out).1.elem (Chg.refl [] _) m hm2
            have y0 := hc2 0 (by omega)
            have y1 := hc2 1 (by omega)
            have y2 := hc2 2 (by omega)
            have y3 := hc2 3 (by omega)
            have y4 := hc2 4 (by omega)
            simp only [ndC, List.getElem?_cons_zero, List.getElem?_cons_succ, Nat.add_zero] at y0 y1 y2 y3 y4
            have HA : fitAt L ⟨16, text, n, keys, kids⟩ k = fitsB ⟨16, text, n, keys, kids⟩ (k : Int) (l[m]).kind := by
              unfold fitAt
              rw [show kids[k]? = some (m : Int) from by rw [List.getElem?_eq_getElem hkl, hm1]]
              show fitsB _ _ (kindAt L (m : Int).toNat) = _
              rw [Int.toNat_natCast, HLM.out m hm2]
            have HN := Lib.hid (fun (h : fitAt L ⟨16, text, n, keys, kids⟩ k = false) => show R = false by rw [HRF.out]; exact fitsTo_no hkl h)
            have HY := Lib.hid (fun (h : fitAt L ⟨16, text, n, keys, kids⟩ k = true) => show fitsTo L ⟨16, text, n, keys, kids⟩ (k + 1) = true by rw [fitsTo_step, HK.out, h]; rfl)
            have hm' : (m : Int) < (l.length : Int) := by omega
            have hm0 : (0 : Int) ≤ (m : Int) := by omega
            have qk : IntKind.i64.wrap ((k : Int) + 1) = (k : Int) + 1 := IntWalk.i64_in _ (by have := HKM.out; omega)
            have k3 := blk_cell (by have := B.out; rw [e1] at this; exact this)
            generalize l[m] = y at *
            obtain ⟨W6, hW6⟩ : ∃ W6, W6 = wr.alloc (ndO y) := ⟨_, rfl⟩
            have N6 := Lib.hid (show Chg [] wr W6 by rw [hW6]; exact (Chg.refl _ _).alloc _)
            have C6 := Lib.hid (C.out.thenSame N6.out)
            have B6 := Lib.hid (N6.out.at (by simp) B.out)
            have Y6 := Lib.hid (show W6.heap[wr.heap.size]? = some (ndO y) by rw [hW6]; exact heap_alloc_new _ _)
            unfold ndO at hW6 Y6
            have n6 := blk_cell Y6.out
            clear hc1 hc2 hm1
            rw [e1, e2]
            have HA : fitAt L ⟨16, text, n, keys, kids⟩ k = (y.kind == 19) := by rw [HA]; unfold fitsB; simp [hz]
            cases hq : (y.kind == 19)
            · rw [hq] at HA
              have HE := Lib.hid (HN.out HA)
              have hq2 : (y.kind != 19) = true := by rw [bne, hq]; rfl
              clear HA hq
              go_upto_region 11 with fail
              rw [← hW6]
              clear hW6 y0 y1 y2 y3 y4 k3 u1
              go_wp2_with fail
              go_ret
              exact ⟨retB HE.out.symm, C6.out⟩
            · rw [hq] at HA
              have HS := Lib.hid (HY.out HA)
              have hq2 : (y.kind != 19) = false := by rw [bne, hq]; rfl
              clear HA hq
              go_upto_region 11 with fail
              rw [← hW6]
              clear hW6 y0 y1 y2 y3 y4 k3 u1
              go_wp2_with fail
              exact ⟨⟨k + 1, by go_num, by omega, HS, C6, (by first | exact B6 | (rw [e1] at B6; exact B6))⟩, by simp [intOf]; omega⟩
          · have hz' : ¬ (k : Int) > 0 := by omega
            obtain ⟨b1, o1, e1, -, -, hc1⟩ := (HD.out _ C.out).1.elem (Chg.refl [] _) k hkl
            have u1 := hc1 0 (by omega)
            simp only [icI, List.getElem?_cons_zero, Nat.add_zero, Nat.mul_one] at u1
            obtain ⟨m, hm1, hm2⟩ := HKK.out k hkl
            rw [hm1] at u1
            obtain ⟨b2, o2, e2, -, -, hc2⟩ := (HL.out _ C.out).1.elem (Chg.refl [] _) m hm2
            have y0 := hc2 0 (by omega)
            have y1 := hc2 1 (by omega)
            have y2 := hc2 2 (by omega)
            have y3 := hc2 3 (by omega)
            have y4 := hc2 4 (by omega)
            simp only [ndC, List.getElem?_cons_zero, List.getElem?_cons_succ, Nat.add_zero] at y0 y1 y2 y3 y4
            have HA : fitAt L ⟨16, text, n, keys, kids⟩ k = fitsB ⟨16, text, n, keys, kids⟩ (k : Int) (l[m]).kind := by
              unfold fitAt
              rw [show kids[k]? = some (m : Int) from by rw [List.getElem?_eq_getElem hkl, hm1]]
              show fitsB _ _ (kindAt L (m : Int).toNat) = _
              rw [Int.toNat_natCast, HLM.out m hm2]
            have HN := Lib.hid (fun (h : fitAt L ⟨16, text, n, keys, kids⟩ k = false) => show R = false by rw [HRF.out]; exact fitsTo_no hkl h)
            have HY := Lib.hid (fun (h : fitAt L ⟨16, text, n, keys, kids⟩ k = true) => show fitsTo L ⟨16, text, n, keys, kids⟩ (k + 1) = true by rw [fitsTo_step, HK.out, h]; rfl)
            have hm' : (m : Int) < (l.length : Int) := by omega
            have hm0 : (0 : Int) ≤ (m : Int) := by omega
            have qk : IntKind.i64.wrap ((k : Int) + 1) = (k : Int) + 1 := IntWalk.i64_in _ (by have := HKM.out; omega)
            have k3 := blk_cell (by have := B.out; rw [e1] at this; exact this)
            generalize l[m] = y at *
            obtain ⟨W6, hW6⟩ : ∃ W6, W6 = wr.alloc (ndO y) := ⟨_, rfl⟩
            have N6 := Lib.hid (show Chg [] wr W6 by rw [hW6]; exact (Chg.refl _ _).alloc _)
            have C6 := Lib.hid (C.out.thenSame N6.out)
            have B6 := Lib.hid (N6.out.at (by simp) B.out)
            have Y6 := Lib.hid (show W6.heap[wr.heap.size]? = some (ndO y) by rw [hW6]; exact heap_alloc_new _ _)
            unfold ndO at hW6 Y6
            have n6 := blk_cell Y6.out
            clear hc1 hc2 hm1
            rw [e1, e2]
            have HA : fitAt L ⟨16, text, n, keys, kids⟩ k = sExprB y.kind := by rw [HA]; unfold fitsB; simp [hz]
            have KC := Lib.hid (fun w' => by have := rexpression_any y w'; unfold ndC at this; exact this)
            generalize sExprB y.kind = q at *
            cases q
            · have HE := Lib.hid (HN.out HA)
              clear HA
              go_upto_region 11 with fail
              rw [← hW6]
              clear hW6 y0 y1 y2 y3 y4 k3 u1
              go_wp2_with (go_at_call 93; (with_reducible refine Calls.mono (KC.out _) ?_); rintro e w7 ⟨rfl, hc⟩; have C7 := Lib.hid (C6.out.thenSame hc); clear hc)
              go_ret
              exact ⟨retB HE.out.symm, C7.out⟩
            · have HS := Lib.hid (HY.out HA)
              clear HA
              go_upto_region 11 with fail
              rw [← hW6]
              clear hW6 y0 y1 y2 y3 y4 k3 u1
              go_wp2_with (go_at_call 93; (with_reducible refine Calls.mono (KC.out _) ?_); rintro e w7 ⟨rfl, hc⟩; have C7 := Lib.hid (C6.out.thenSame hc); have B7 := Lib.hid (hc.at (by simp) B6.out); clear hc)
              exact ⟨⟨k + 1, by go_num, by omega, HS, C7, (by first | exact B7 | (rw [e1] at B7; exact B7))⟩, by simp [intOf]; omega⟩
        · have hke : k = kids.length := by omega
          have HE := Lib.hid (show R = true by rw [HRF.out, ← hke]; exact HK.out)
          have hkl' : ¬ (k : Int) < (kids.length : Int) := by omega
          clear hke
          go_wp2_with fail
          go_ret
          exact ⟨retB HE.out.symm, C.out⟩
    · have HE := Lib.hid (show R = false by rw [HRR.out]; unfold partsB; rw [Bool.eq_false_iff.2 hct]; rfl)
      have hm : ((kids.length : Int) != 2) = true := by unfold countB at hct; simp at hct; simp; omega
      clear hct HRR
      go_enter Tryz.func67, Tryz.ntmps67
      go_upto_region 1 with fail
      rw [← HW1.out]
      go_wp2_with fail
      go_ret
      exact ⟨retB HE.out.symm, C1.out⟩
  by_cases hk17 : kind = 17
  · subst hk17
    by_cases hct : countB ⟨17, text, n, keys, kids⟩ = true
    · have hm : ((kids.length : Int) != 1) = false := by unfold countB at hct; simp at hct; simp [hct]
      have HRF := Lib.hid (show R = fitsTo L ⟨17, text, n, keys, kids⟩ kids.length by rw [HRR.out]; unfold partsB; rw [hct, Bool.true_and])
      clear HRR hct
      go_enter Tryz.func67, Tryz.ntmps67
      go_upto_region 1 with fail
      rw [← HW1.out]
      go_wp2_with fail
      go_loopw [7] (fun u wr => ∃ k : Nat, u = .int .i64 k ∧ k ≤ kids.length ∧ Hid (fitsTo L ⟨17, text, n, keys, kids⟩ k = true) ∧ Hid (Chg [] w wr) ∧ Hid (wr.heap[w.heap.size]? = some (.cells #[.int .i64 17, .string text, .int .i64 n, .slice ka keys.length kc, .slice da kids.length dc] 49 (0, 0)))) (fun u _ => kids.length - (intOf u).toNat)
      case atStart => exact ⟨0, rfl, Nat.zero_le _, Lib.hid rfl, C1, B1⟩
      case round =>
        obtain ⟨k, rfl, hk, HK, C, B⟩ := hrel
        have hk0 : (0 : Int) ≤ (k : Int) := by omega
        by_cases hkl : k < kids.length
        · have hkl' : (k : Int) < (kids.length : Int) := by omega
          obtain ⟨b1, o1, e1, -, -, hc1⟩ := (HD.out _ C.out).1.elem (Chg.refl [] _) k hkl
          have u1 := hc1 0 (by omega)
          simp only [icI, List.getElem?_cons_zero, Nat.add_zero, Nat.mul_one] at u1
          obtain ⟨m, hm1, hm2⟩ := HKK.out k hkl
          rw [hm1] at u1
          obtain ⟨b2, o2, e2, -, -, hc2⟩ := (HL.out _ C.out).1.elem (Chg.refl [] _) m hm2
          have y0 := hc2 0 (by omega)
          have y1 := hc2 1 (by omega)
          have y2 := hc2 2 (by omega)
          have y3 := hc2 3 (by omega)
          have y4 := hc2 4 (by omega)
          simp only [ndC, List.getElem?_cons_zero, List.getElem?_cons_succ, Nat.add_zero] at y0 y1 y2 y3 y4
          have HA : fitAt L ⟨17, text, n, keys, kids⟩ k = fitsB ⟨17, text, n, keys, kids⟩ (k : Int) (l[m]).kind := by
            unfold fitAt
            rw [show kids[k]? = some (m : Int) from by rw [List.getElem?_eq_getElem hkl, hm1]]
            show fitsB _ _ (kindAt L (m : Int).toNat) = _
            rw [Int.toNat_natCast, HLM.out m hm2]
          have HN := Lib.hid (fun (h : fitAt L ⟨17, text, n, keys, kids⟩ k = false) => show R = false by rw [HRF.out]; exact fitsTo_no hkl h)
          have HY := Lib.hid (fun (h : fitAt L ⟨17, text, n, keys, kids⟩ k = true) => show fitsTo L ⟨17, text, n, keys, kids⟩ (k + 1) = true by rw [fitsTo_step, HK.out, h]; rfl)
          have hm' : (m : Int) < (l.length : Int) := by omega
          have hm0 : (0 : Int) ≤ (m : Int) := by omega
          have qk : IntKind.i64.wrap ((k : Int) + 1) = (k : Int) + 1 := IntWalk.i64_in _ (by have := HKM.out; omega)
          have k3 := blk_cell (by have := B.out; rw [e1] at this; exact this)
          generalize l[m] = y at *
          obtain ⟨W6, hW6⟩ : ∃ W6, W6 = wr.alloc (ndO y) := ⟨_, rfl⟩
          have N6 := Lib.hid (show Chg [] wr W6 by rw [hW6]; exact (Chg.refl _ _).alloc _)
          have C6 := Lib.hid (C.out.thenSame N6.out)
          have B6 := Lib.hid (N6.out.at (by simp) B.out)
          have Y6 := Lib.hid (show W6.heap[wr.heap.size]? = some (ndO y) by rw [hW6]; exact heap_alloc_new _ _)
          unfold ndO at hW6 Y6
          have n6 := blk_cell Y6.out
          clear hc1 hc2 hm1
          rw [e1, e2]
          have HA : fitAt L ⟨17, text, n, keys, kids⟩ k = sExprB y.kind := by rw [HA]; unfold fitsB; simp
          have KC := Lib.hid (fun w' => by have := rexpression_any y w'; unfold ndC at this; exact this)
          generalize sExprB y.kind = q at *
          cases q
          · have HE := Lib.hid (HN.out HA)
            clear HA
            go_upto_region 11 with fail
            rw [← hW6]
            clear hW6 y0 y1 y2 y3 y4 k3 u1
            go_wp2_with (go_at_call 93; (with_reducible refine Calls.mono (KC.out _) ?_); rintro e w7 ⟨rfl, hc⟩; have C7 := Lib.hid (C6.out.thenSame hc); clear hc)
            go_ret
            exact ⟨retB HE.out.symm, C7.out⟩
          · have HS := Lib.hid (HY.out HA)
            clear HA
            go_upto_region 11 with fail
            rw [← hW6]
            clear hW6 y0 y1 y2 y3 y4 k3 u1
            go_wp2_with (go_at_call 93; (with_reducible refine Calls.mono (KC.out _) ?_); rintro e w7 ⟨rfl, hc⟩; have C7 := Lib.hid (C6.out.thenSame hc); have B7 := Lib.hid (hc.at (by simp) B6.out); clear hc)
            exact ⟨⟨k + 1, by go_num, by omega, HS, C7, (by first | exact B7 | (rw [e1] at B7; exact B7))⟩, by simp [intOf]; omega⟩
        · have hke : k = kids.length := by omega
          have HE := Lib.hid (show R = true by rw [HRF.out, ← hke]; exact HK.out)
          have hkl' : ¬ (k : Int) < (kids.length : Int) := by omega
          clear hke
          go_wp2_with fail
          go_ret
          exact ⟨retB HE.out.symm, C.out⟩
    · have HE := Lib.hid (show R = false by rw [HRR.out]; unfold partsB; rw [Bool.eq_false_iff.2 hct]; rfl)
      have hm : ((kids.length : Int) != 1) = true := by unfold countB at hct; simp at hct; simp; omega
      clear hct HRR
      go_enter Tryz.func67, Tryz.ntmps67
      go_upto_region 1 with fail
      rw [← HW1.out]
      go_wp2_with fail
      go_ret
      exact ⟨retB HE.out.symm, C1.out⟩
  by_cases hk18 : kind = 18
  · subst hk18
    by_cases hct : countB ⟨18, text, n, keys, kids⟩ = true
    · have hm : ((kids.length : Int) != 1) = false := by unfold countB at hct; simp at hct; simp [hct]
      have HRF := Lib.hid (show R = fitsTo L ⟨18, text, n, keys, kids⟩ kids.length by rw [HRR.out]; unfold partsB; rw [hct, Bool.true_and])
      clear HRR hct
      go_enter Tryz.func67, Tryz.ntmps67
      go_upto_region 1 with fail
      rw [← HW1.out]
      go_wp2_with fail
      go_loopw [7] (fun u wr => ∃ k : Nat, u = .int .i64 k ∧ k ≤ kids.length ∧ Hid (fitsTo L ⟨18, text, n, keys, kids⟩ k = true) ∧ Hid (Chg [] w wr) ∧ Hid (wr.heap[w.heap.size]? = some (.cells #[.int .i64 18, .string text, .int .i64 n, .slice ka keys.length kc, .slice da kids.length dc] 49 (0, 0)))) (fun u _ => kids.length - (intOf u).toNat)
      case atStart => exact ⟨0, rfl, Nat.zero_le _, Lib.hid rfl, C1, B1⟩
      case round =>
        obtain ⟨k, rfl, hk, HK, C, B⟩ := hrel
        have hk0 : (0 : Int) ≤ (k : Int) := by omega
        by_cases hkl : k < kids.length
        · have hkl' : (k : Int) < (kids.length : Int) := by omega
          obtain ⟨b1, o1, e1, -, -, hc1⟩ := (HD.out _ C.out).1.elem (Chg.refl [] _) k hkl
          have u1 := hc1 0 (by omega)
          simp only [icI, List.getElem?_cons_zero, Nat.add_zero, Nat.mul_one] at u1
          obtain ⟨m, hm1, hm2⟩ := HKK.out k hkl
          rw [hm1] at u1
          obtain ⟨b2, o2, e2, -, -, hc2⟩ := (HL.out _ C.out).1.elem (Chg.refl [] _) m hm2
          have y0 := hc2 0 (by omega)
          have y1 := hc2 1 (by omega)
          have y2 := hc2 2 (by omega)
          have y3 := hc2 3 (by omega)
          have y4 := hc2 4 (by omega)
          simp only [ndC, List.getElem?_cons_zero, List.getElem?_cons_succ, Nat.add_zero] at y0 y1 y2 y3 y4
          have HA : fitAt L ⟨18, text, n, keys, kids⟩ k = fitsB ⟨18, text, n, keys, kids⟩ (k : Int) (l[m]).kind := by
            unfold fitAt
            rw [show kids[k]? = some (m : Int) from by rw [List.getElem?_eq_getElem hkl, hm1]]
            show fitsB _ _ (kindAt L (m : Int).toNat) = _
            rw [Int.toNat_natCast, HLM.out m hm2]
          have HN := Lib.hid (fun (h : fitAt L ⟨18, text, n, keys, kids⟩ k = false) => show R = false by rw [HRF.out]; exact fitsTo_no hkl h)
          have HY := Lib.hid (fun (h : fitAt L ⟨18, text, n, keys, kids⟩ k = true) => show fitsTo L ⟨18, text, n, keys, kids⟩ (k + 1) = true by rw [fitsTo_step, HK.out, h]; rfl)
          have hm' : (m : Int) < (l.length : Int) := by omega
          have hm0 : (0 : Int) ≤ (m : Int) := by omega
          have qk : IntKind.i64.wrap ((k : Int) + 1) = (k : Int) + 1 := IntWalk.i64_in _ (by have := HKM.out; omega)
          have k3 := blk_cell (by have := B.out; rw [e1] at this; exact this)
          generalize l[m] = y at *
          obtain ⟨W6, hW6⟩ : ∃ W6, W6 = wr.alloc (ndO y) := ⟨_, rfl⟩
          have N6 := Lib.hid (show Chg [] wr W6 by rw [hW6]; exact (Chg.refl _ _).alloc _)
          have C6 := Lib.hid (C.out.thenSame N6.out)
          have B6 := Lib.hid (N6.out.at (by simp) B.out)
          have Y6 := Lib.hid (show W6.heap[wr.heap.size]? = some (ndO y) by rw [hW6]; exact heap_alloc_new _ _)
          unfold ndO at hW6 Y6
          have n6 := blk_cell Y6.out
          clear hc1 hc2 hm1
          rw [e1, e2]
          have HA : fitAt L ⟨18, text, n, keys, kids⟩ k = sExprB y.kind := by rw [HA]; unfold fitsB; simp
          have KC := Lib.hid (fun w' => by have := rexpression_any y w'; unfold ndC at this; exact this)
          generalize sExprB y.kind = q at *
          cases q
          · have HE := Lib.hid (HN.out HA)
            clear HA
            go_upto_region 11 with fail
            rw [← hW6]
            clear hW6 y0 y1 y2 y3 y4 k3 u1
            go_wp2_with (go_at_call 93; (with_reducible refine Calls.mono (KC.out _) ?_); rintro e w7 ⟨rfl, hc⟩; have C7 := Lib.hid (C6.out.thenSame hc); clear hc)
            go_ret
            exact ⟨retB HE.out.symm, C7.out⟩
          · have HS := Lib.hid (HY.out HA)
            clear HA
            go_upto_region 11 with fail
            rw [← hW6]
            clear hW6 y0 y1 y2 y3 y4 k3 u1
            go_wp2_with (go_at_call 93; (with_reducible refine Calls.mono (KC.out _) ?_); rintro e w7 ⟨rfl, hc⟩; have C7 := Lib.hid (C6.out.thenSame hc); have B7 := Lib.hid (hc.at (by simp) B6.out); clear hc)
            exact ⟨⟨k + 1, by go_num, by omega, HS, C7, (by first | exact B7 | (rw [e1] at B7; exact B7))⟩, by simp [intOf]; omega⟩
        · have hke : k = kids.length := by omega
          have HE := Lib.hid (show R = true by rw [HRF.out, ← hke]; exact HK.out)
          have hkl' : ¬ (k : Int) < (kids.length : Int) := by omega
          clear hke
          go_wp2_with fail
          go_ret
          exact ⟨retB HE.out.symm, C.out⟩
    · have HE := Lib.hid (show R = false by rw [HRR.out]; unfold partsB; rw [Bool.eq_false_iff.2 hct]; rfl)
      have hm : ((kids.length : Int) != 1) = true := by unfold countB at hct; simp at hct; simp; omega
      clear hct HRR
      go_enter Tryz.func67, Tryz.ntmps67
      go_upto_region 1 with fail
      rw [← HW1.out]
      go_wp2_with fail
      go_ret
      exact ⟨retB HE.out.symm, C1.out⟩
  by_cases hk19 : kind = 19
  · subst hk19
    have hct : countB ⟨19, text, n, keys, kids⟩ = true := by unfold countB; simp
    have HRF := Lib.hid (show R = fitsTo L ⟨19, text, n, keys, kids⟩ kids.length by rw [HRR.out]; unfold partsB; rw [hct, Bool.true_and])
    clear HRR hct
    go_enter Tryz.func67, Tryz.ntmps67
    go_upto_region 1 with fail
    rw [← HW1.out]
    go_wp2_with fail
    go_loopw [7] (fun u wr => ∃ k : Nat, u = .int .i64 k ∧ k ≤ kids.length ∧ Hid (fitsTo L ⟨19, text, n, keys, kids⟩ k = true) ∧ Hid (Chg [] w wr) ∧ Hid (wr.heap[w.heap.size]? = some (.cells #[.int .i64 19, .string text, .int .i64 n, .slice ka keys.length kc, .slice da kids.length dc] 49 (0, 0)))) (fun u _ => kids.length - (intOf u).toNat)
    case atStart => exact ⟨0, rfl, Nat.zero_le _, Lib.hid rfl, C1, B1⟩
    case round =>
      obtain ⟨k, rfl, hk, HK, C, B⟩ := hrel
      have hk0 : (0 : Int) ≤ (k : Int) := by omega
      by_cases hkl : k < kids.length
      · have hkl' : (k : Int) < (kids.length : Int) := by omega
        obtain ⟨b1, o1, e1, -, -, hc1⟩ := (HD.out _ C.out).1.elem (Chg.refl [] _) k hkl
        have u1 := hc1 0 (by omega)
        simp only [icI, List.getElem?_cons_zero, Nat.add_zero, Nat.mul_one] at u1
        obtain ⟨m, hm1, hm2⟩ := HKK.out k hkl
        rw [hm1] at u1
        obtain ⟨b2, o2, e2, -, -, hc2⟩ := (HL.out _ C.out).1.elem (Chg.refl [] _) m hm2
        have y0 := hc2 0 (by omega)
        have y1 := hc2 1 (by omega)
        have y2 := hc2 2 (by omega)
        have y3 := hc2 3 (by omega)
        have y4 := hc2 4 (by omega)
        simp only [ndC, List.getElem?_cons_zero, List.getElem?_cons_succ, Nat.add_zero] at y0 y1 y2 y3 y4
        have HA : fitAt L ⟨19, text, n, keys, kids⟩ k = fitsB ⟨19, text, n, keys, kids⟩ (k : Int) (l[m]).kind := by
          unfold fitAt
          rw [show kids[k]? = some (m : Int) from by rw [List.getElem?_eq_getElem hkl, hm1]]
          show fitsB _ _ (kindAt L (m : Int).toNat) = _
          rw [Int.toNat_natCast, HLM.out m hm2]
        have HN := Lib.hid (fun (h : fitAt L ⟨19, text, n, keys, kids⟩ k = false) => show R = false by rw [HRF.out]; exact fitsTo_no hkl h)
        have HY := Lib.hid (fun (h : fitAt L ⟨19, text, n, keys, kids⟩ k = true) => show fitsTo L ⟨19, text, n, keys, kids⟩ (k + 1) = true by rw [fitsTo_step, HK.out, h]; rfl)
        have hm' : (m : Int) < (l.length : Int) := by omega
        have hm0 : (0 : Int) ≤ (m : Int) := by omega
        have qk : IntKind.i64.wrap ((k : Int) + 1) = (k : Int) + 1 := IntWalk.i64_in _ (by have := HKM.out; omega)
        have k3 := blk_cell (by have := B.out; rw [e1] at this; exact this)
        generalize l[m] = y at *
        obtain ⟨W6, hW6⟩ : ∃ W6, W6 = wr.alloc (ndO y) := ⟨_, rfl⟩
        have N6 := Lib.hid (show Chg [] wr W6 by rw [hW6]; exact (Chg.refl _ _).alloc _)
        have C6 := Lib.hid (C.out.thenSame N6.out)
        have B6 := Lib.hid (N6.out.at (by simp) B.out)
        have Y6 := Lib.hid (show W6.heap[wr.heap.size]? = some (ndO y) by rw [hW6]; exact heap_alloc_new _ _)
        unfold ndO at hW6 Y6
        have n6 := blk_cell Y6.out
        clear hc1 hc2 hm1
        rw [e1, e2]
        have HA : fitAt L ⟨19, text, n, keys, kids⟩ k = sStatB y.kind := by rw [HA]; unfold fitsB; simp
        have KC := Lib.hid (fun w' => by have := rstatement_any y w'; unfold ndC at this; exact this)
        generalize sStatB y.kind = q at *
        cases q
        · have HE := Lib.hid (HN.out HA)
          clear HA
          go_upto_region 11 with fail
          rw [← hW6]
          clear hW6 y0 y1 y2 y3 y4 k3 u1
          go_wp2_with (go_at_call 92; (with_reducible refine Calls.mono (KC.out _) ?_); rintro e w7 ⟨rfl, hc⟩; have C7 := Lib.hid (C6.out.thenSame hc); clear hc)
          go_ret
          exact ⟨retB HE.out.symm, C7.out⟩
        · have HS := Lib.hid (HY.out HA)
          clear HA
          go_upto_region 11 with fail
          rw [← hW6]
          clear hW6 y0 y1 y2 y3 y4 k3 u1
          go_wp2_with (go_at_call 92; (with_reducible refine Calls.mono (KC.out _) ?_); rintro e w7 ⟨rfl, hc⟩; have C7 := Lib.hid (C6.out.thenSame hc); have B7 := Lib.hid (hc.at (by simp) B6.out); clear hc)
          exact ⟨⟨k + 1, by go_num, by omega, HS, C7, (by first | exact B7 | (rw [e1] at B7; exact B7))⟩, by simp [intOf]; omega⟩
      · have hke : k = kids.length := by omega
        have HE := Lib.hid (show R = true by rw [HRF.out, ← hke]; exact HK.out)
        have hkl' : ¬ (k : Int) < (kids.length : Int) := by omega
        clear hke
        go_wp2_with fail
        go_ret
        exact ⟨retB HE.out.symm, C.out⟩
  have HE := Lib.hid (show R = false by
    rw [HRR.out]
    unfold partsB countB
    simp [hk1, hk2, hk3, hk4, hk5, hk6, hk7, hk8, hk9, hk10, hk11, hk12, hk13, hk14, hk15, hk16, hk17, hk18, hk19])
  have hko : kind < 1 ∨ 1 ≤ kind ∧ kind > 19 := by omega
  clear HRR hk1 hk2 hk3 hk4 hk5 hk6 hk7 hk8 hk9 hk10 hk11 hk12 hk13 hk14 hk15 hk16 hk17 hk18 hk19
  rcases hko with h1 | ⟨h1, h2⟩
  · go_enter Tryz.func67, Tryz.ntmps67
    go_upto_region 1 with fail
    rw [← HW1.out]
    go_wp2_with fail
    go_ret
    exact ⟨retB HE.out.symm, C1.out⟩
  · go_enter Tryz.func67, Tryz.ntmps67
    go_upto_region 1 with fail
    rw [← HW1.out]
    go_wp2_with fail
    go_ret
    exact ⟨retB HE.out.symm, C1.out⟩
end Go.Proofs.YtolidiafomceiaaGreatDoor
