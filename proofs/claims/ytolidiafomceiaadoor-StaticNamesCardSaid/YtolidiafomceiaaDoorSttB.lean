/- Chapter 9: contracts: static.Check, Slots, Locals; equal. Condition: the program came in well; the table of Itoa lies as the program lays it. -/
import Derived.Test.YtolidiafomceiaaDoorSttA
namespace Go.Proofs.YtolidiafomceiaaDoor
set_option linter.unusedVariables false
set_option linter.unusedSimpArgs false
open Go.RowKit
set_option maxHeartbeats 16000000 in
set_option maxRecDepth 100000 in
theorem check_any (x : Pr) (w : World) (h : PrIn w x) (hg : goodPr x) (ht : TabW w) : Calls Tryd.prog 10 #[.agg (prC x).toArray] w fun e w' => e = .returned (.tuple #[.int .i64 (studyZ x.p).2.2.1, .int .i64 (studyZ x.p).2.2.2]) ∧ Chg [] w w' := by
  obtain ⟨W1, hW1⟩ : ∃ W1, W1 = w.alloc (prO x) := ⟨_, rfl⟩
  have C1 := Lib.hid (show Chg [] w W1 by rw [hW1]; exact (Chg.refl _ _).alloc _)
  have B1 := Lib.hid (show W1.heap[w.heap.size]? = some (prO x) by rw [hW1]; exact heap_alloc_new _ _)
  have A := Lib.hid (study_any x W1 (h.kept C1.out) hg (ht.kept C1.out))
  unfold prO at hW1 B1
  have k1 := blk_cell B1.out
  simp only [prC] at A ⊢
  generalize studyZ x.p = R at *
  clear h hg ht
  go_enter Tryd.func10, Tryd.ntmps10
  go_upto_region 1 with fail
  rw [← hW1]
  clear hW1
  go_wp2_with (go_at_call 15; (with_reducible refine Calls.mono A.out ?_); rintro e w2 ⟨sa, sc, la, lc, rfl, hs, hl, hc⟩; have C2 := Lib.hid (C1.out.thenSame hc); clear k1 hc hs hl)
  go_ret2
  exact ⟨rfl, C2.out⟩
/-- What Slots returns. -/
def SlotsPost (w : World) (R : List Int × Int) (e : Ending) (w' : World) : Prop := ∃ (sa : Option Addr) (sc : Nat), e = .returned (.tuple #[.slice sa R.1.length sc, .int .i64 R.2]) ∧ RowOf icI 1 w' w.heap.size 3 (.slice sa R.1.length sc) R.1 ∧ Chg [] w w'
set_option maxHeartbeats 16000000 in
set_option maxRecDepth 100000 in
theorem slots_any (x : Pr) (w : World) (h : PrIn w x) (hg : goodPr x) (ht : TabW w) : Calls Tryd.prog 12 #[.agg (prC x).toArray] w (SlotsPost w ((studyZ x.p).1, (studyZ x.p).2.2.2)) := by
  obtain ⟨W1, hW1⟩ : ∃ W1, W1 = w.alloc (prO x) := ⟨_, rfl⟩
  have C1 := Lib.hid (show Chg [] w W1 by rw [hW1]; exact (Chg.refl _ _).alloc _)
  have B1 := Lib.hid (show W1.heap[w.heap.size]? = some (prO x) by rw [hW1]; exact heap_alloc_new _ _)
  have A := Lib.hid (study_any x W1 (h.kept C1.out) hg (ht.kept C1.out))
  unfold prO at hW1 B1
  have k1 := blk_cell B1.out
  simp only [prC] at A ⊢
  generalize studyZ x.p = R at *
  clear h hg ht
  go_enter Tryd.func12, Tryd.ntmps12
  go_upto_region 1 with fail
  rw [← hW1]
  clear hW1
  go_wp2_with (go_at_call 15; (with_reducible refine Calls.mono A.out ?_); rintro e w2 ⟨sa, sc, la, lc, rfl, hs, hl, hc⟩; have C2 := Lib.hid (C1.out.thenSame hc); have S2 := Lib.hid (hs.mono C1.out.size); clear k1 hc hs hl)
  go_ret2
  exact ⟨_, _, rfl, S2.out, C2.out⟩
/-- What Locals returns. -/
def localsZ (p : PPr) (f : Int) : Int × Int := if (studyZ p).2.2.2 = 0 then (if 0 ≤ f ∧ f.toNat < (studyZ p).2.1.length then (((studyZ p).2.1[f.toNat]?).getD 0, 0) else (0, 2)) else (0, (studyZ p).2.2.2)
set_option maxHeartbeats 16000000 in
set_option maxRecDepth 100000 in
theorem locals_any (x : Pr) (f : Int) (w : World) (h : PrIn w x) (hg : goodPr x) (ht : TabW w) : Calls Tryd.prog 13 #[.agg (prC x).toArray, .int .i64 f] w fun e w' => e = .returned (.tuple #[.int .i64 (localsZ x.p f).1, .int .i64 (localsZ x.p f).2]) ∧ Chg [] w w' := by
  obtain ⟨R2, hR2⟩ : ∃ R2, R2 = localsZ x.p f := ⟨_, rfl⟩
  rw [← hR2]
  unfold localsZ at hR2
  obtain ⟨W1, hW1⟩ : ∃ W1, W1 = w.alloc (prO x) := ⟨_, rfl⟩
  have C1 := Lib.hid (show Chg [] w W1 by rw [hW1]; exact (Chg.refl _ _).alloc _)
  have B1 := Lib.hid (show W1.heap[w.heap.size]? = some (prO x) by rw [hW1]; exact heap_alloc_new _ _)
  have A := Lib.hid (study_any x W1 (h.kept C1.out) hg (ht.kept C1.out))
  unfold prO at hW1 B1
  have k1 := blk_cell B1.out
  simp only [prC] at A ⊢
  generalize studyZ x.p = R at *
  obtain ⟨sl, lo, at', er⟩ := R
  simp only at hR2
  clear h hg ht
  by_cases he : er = 0
  · rw [if_pos he] at hR2
    have heb : (er != 0) = false := by rw [he]; rfl
    by_cases hf : 0 ≤ f ∧ f.toNat < lo.length
    · rw [if_pos hf] at hR2
      obtain ⟨m, rfl⟩ : ∃ m : Nat, f = (m : Int) := ⟨f.toNat, by omega⟩
      obtain ⟨hf0, hf1⟩ := hf
      rw [Int.toNat_natCast] at hR2 hf1
      rw [List.getElem?_eq_getElem hf1] at hR2
      have HE := Lib.hid hR2
      have hf2 : ¬ (m : Int) ≥ (lo.length : Int) := by omega
      have hf2b : decide ((lo.length : Int) ≤ (m : Int)) = false := by simp; omega
      have hf3 : (m : Int) < (lo.length : Int) := by omega
      have hf4 : ¬ (m : Int) < 0 := by omega
      clear hR2 he
      go_enter Tryd.func13, Tryd.ntmps13
      go_upto_region 1 with fail
      rw [← hW1]
      clear hW1
      go_wp2_with (go_at_call 15; (with_reducible refine Calls.mono A.out ?_); rintro e w2 ⟨sa, sc, la, lc, rfl, hs, hl, hc⟩; have C2 := Lib.hid (C1.out.thenSame hc); obtain ⟨b3, o3, rfl, -, -, hc3⟩ := (RowOf.sl hl icI_len1).1.elem (Chg.refl [] _) m hf1; have c5 := hc3 0 (by omega); simp only [icI, List.getElem?_cons_zero, Nat.add_zero, Nat.mul_one] at c5; clear k1 hc hs hl hc3)
      go_ret2
      exact ⟨ret2P HE.out, C2.out⟩
    · rw [if_neg hf] at hR2
      have HE := Lib.hid hR2
      clear hR2 he
      by_cases hf0 : f < 0
      · go_enter Tryd.func13, Tryd.ntmps13
        go_upto_region 1 with fail
        rw [← hW1]
        clear hW1
        go_wp2_with (go_at_call 15; (with_reducible refine Calls.mono A.out ?_); rintro e w2 ⟨sa, sc, la, lc, rfl, hs, hl, hc⟩; have C2 := Lib.hid (C1.out.thenSame hc); clear k1 hc hs hl)
        go_ret2
        exact ⟨ret2P HE.out, C2.out⟩
      · have hf3 : (lo.length : Int) ≤ f := by omega
        clear hf
        go_enter Tryd.func13, Tryd.ntmps13
        go_upto_region 1 with fail
        rw [← hW1]
        clear hW1
        go_wp2_with (go_at_call 15; (with_reducible refine Calls.mono A.out ?_); rintro e w2 ⟨sa, sc, la, lc, rfl, hs, hl, hc⟩; have C2 := Lib.hid (C1.out.thenSame hc); clear k1 hc hs hl)
        go_ret2
        exact ⟨ret2P HE.out, C2.out⟩
  · rw [if_neg he] at hR2
    have HE := Lib.hid hR2
    have heb : (er != 0) = true := by simpa using he
    clear hR2 he
    go_enter Tryd.func13, Tryd.ntmps13
    go_upto_region 1 with fail
    rw [← hW1]
    clear hW1
    go_wp2_with (go_at_call 15; (with_reducible refine Calls.mono A.out ?_); rintro e w2 ⟨sa, sc, la, lc, rfl, hs, hl, hc⟩; have C2 := Lib.hid (C1.out.thenSame hc); clear k1 hc hs hl)
    go_ret2
    exact ⟨ret2P HE.out, C2.out⟩
set_option maxHeartbeats 16000000 in
set_option maxRecDepth 100000 in
theorem equal_any {a1 a2 : Option Addr} {c1 c2 : Nat} {l1 l2 : List Int} {w : World} (h1 : InIs icI 1 w a1 c1 l1) (h2 : InIs icI 1 w a2 c2 l2) : Calls Tryd.prog 14 #[.slice a1 l1.length c1, .slice a2 l2.length c2] w fun e w' => e = .returned (.bool (l1 == l2)) ∧ Chg [] w w' := by
  obtain ⟨R, hR⟩ : ∃ R, R = (l1 == l2) := ⟨_, rfl⟩
  rw [← hR]
  have HR := Lib.hid hR
  have H1 := Lib.hid h1
  have H2 := Lib.hid h2
  have hm : (l1.length : Int) ≤ 9223372036854775807 := by have h1 := h1.2.1; have h2 := H1.out.2.2.1; unfold maxLen at h2; omega
  clear h1 h2 hR
  by_cases hl : l1.length = l2.length
  · have hlb : ((l1.length : Int) != (l2.length : Int)) = false := by rw [hl]; simp
    have HL := Lib.hid hl
    clear hl
    go_enter Tryd.func14, Tryd.ntmps14
    go_wp2_with fail
    go_loopw [13] (fun v wr => ∃ k : Nat, v = .int .i64 k ∧ k ≤ l1.length ∧ Hid (R = (l1.drop k == l2.drop k)) ∧ Hid (Chg [] w wr)) (fun v _ => l1.length - (intOf v).toNat)
    case atStart => exact ⟨0, rfl, Nat.zero_le _, Lib.hid HR.out, Lib.hid (Chg.refl _ _)⟩
    case round =>
      obtain ⟨k, rfl, hk, HS, D⟩ := hrel
      have hk0 : (0 : Int) ≤ (k : Int) := by omega
      by_cases hkl : k < l1.length
      · have hkl' : (k : Int) < (l1.length : Int) := by omega
        have hkl2 : k < l2.length := by have := HL.out; omega
        have hkl2' : (k : Int) < (l2.length : Int) := by omega
        obtain ⟨b1, o1, rfl, -, -, g1⟩ := H1.out.1.elem D.out k hkl
        obtain ⟨b2, o2, rfl, -, -, g2⟩ := H2.out.1.elem D.out k hkl2
        have u1 := g1 0 (by omega)
        have u2 := g2 0 (by omega)
        simp only [icI, List.getElem?_cons_zero, Nat.add_zero, Nat.mul_one] at u1 u2
        have HS2 := HS.out
        rw [List.drop_eq_getElem_cons hkl, List.drop_eq_getElem_cons hkl2, List.cons_beq_cons] at HS2
        have qk : IntKind.i64.wrap ((k : Int) + 1) = (k : Int) + 1 := IntWalk.i64_in _ (by omega)
        generalize l1[k] = p at *
        generalize l2[k] = q at *
        clear g1 g2
        by_cases hpq : p = q
        · have HS3 := Lib.hid (by have := HS2; rw [hpq, beq_self_eq_true, Bool.true_and] at this; exact this)
          have hpqb : (p != q) = false := by rw [hpq]; simp
          clear HS2 hpq
          go_upto_region 6 with fail
          go_quiet (fail)
          have E := Lib.hid (D.out.drewN nq)
          go_wp2_with fail
          exact ⟨⟨k + 1, rfl, by omega, HS3, E⟩, by simp [intOf]; omega⟩
        · have HE := Lib.hid (show R = false by rw [HS2, beq_eq_false_iff_ne.2 hpq, Bool.false_and])
          have hpqb : (p != q) = true := by simpa using hpq
          clear HS2
          go_upto_region 6 with fail
          go_quiet (fail)
          have E := Lib.hid (D.out.drewN nq)
          go_wp2_with fail
          go_ret
          exact ⟨by rw [HE.out]; rfl, E.out⟩
      · have hke : k = l1.length := by omega
        have HE := Lib.hid (show R = true by
          rw [HS.out, hke, List.drop_length, HL.out, List.drop_length]
          rfl)
        have hkl' : ¬ (k : Int) < (l1.length : Int) := by omega
        clear hke
        go_wp2_with fail
        go_ret
        exact ⟨by rw [HE.out]; rfl, D.out⟩
  · have hlb : ((l1.length : Int) != (l2.length : Int)) = true := by simp; omega
    have HE := Lib.hid (show R = false by
      rw [HR.out]
      exact beq_eq_false_iff_ne.2 (fun e => hl (congrArg List.length e)))
    clear hl
    go_enter Tryd.func14, Tryd.ntmps14
    go_wp2_with fail
    go_ret
    exact ⟨by rw [HE.out]; rfl, Chg.refl _ _⟩
end Go.Proofs.YtolidiafomceiaaDoor
