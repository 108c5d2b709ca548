/- Chapter 9: contracts: static.Check, Slots, Locals; equal. Condition: the program came in well; the table of Itoa lies as the program lays it. Chapter 9: the example; awake. Condition: the table of Itoa lies as the program lays it. -/
import Derived.Test.YtolidiafomceiaaGreatDoorSttA
namespace Go.Proofs.YtolidiafomceiaaGreatDoor
set_option linter.unusedVariables false
set_option linter.unusedSimpArgs false
open Go.RowKit
set_option maxHeartbeats 16000000 in
set_option maxRecDepth 100000 in
theorem check_any (x : Pr) (w : World) (h : PrIn w x) (hg : goodPr x) (ht : TabW w) : Calls Tryz.prog 10 #[.agg (prC x).toArray] w fun e w' => e = .returned (.tuple #[.int .i64 (studyZ x.p).2.2.1, .int .i64 (studyZ x.p).2.2.2]) ∧ Chg [] w w' := by
  obtain ⟨W1, hW1⟩ : ∃ W1, W1 = w.alloc (prO x) := ⟨_, rfl⟩
  have C1 := Lib.hid (show Chg [] w W1 by rw [hW1]; exact (Chg.refl _ _).alloc _)
  have B1 := Lib.hid (show W1.heap[w.heap.size]? = some (prO x) by rw [hW1]; exact heap_alloc_new _ _)
  have A := Lib.hid (study_any x W1 (h.kept C1.out) hg (ht.kept C1.out))
  unfold prO at hW1 B1
  have k1 := blk_cell B1.out
  simp only [prC] at A ⊢
  generalize studyZ x.p = R at *
  clear h hg ht
  go_enter Tryz.func10, Tryz.ntmps10
  go_upto_region 1 with fail
  rw [← hW1]
  clear hW1
  go_wp2_with (go_at_call 28; (with_reducible refine Calls.mono A.out ?_); rintro e w2 ⟨sa, sc, la, lc, rfl, hs, hl, hc⟩; have C2 := Lib.hid (C1.out.thenSame hc); clear k1 hc hs hl)
  go_ret2
  exact ⟨rfl, C2.out⟩
/-- What Slots returns. -/
def SlotsPost (w : World) (R : List Int × Int) (e : Ending) (w' : World) : Prop := ∃ (sa : Option Addr) (sc : Nat), e = .returned (.tuple #[.slice sa R.1.length sc, .int .i64 R.2]) ∧ RowOf icI 1 w' w.heap.size 3 (.slice sa R.1.length sc) R.1 ∧ Chg [] w w'
set_option maxHeartbeats 16000000 in
set_option maxRecDepth 100000 in
theorem slots_any (x : Pr) (w : World) (h : PrIn w x) (hg : goodPr x) (ht : TabW w) : Calls Tryz.prog 13 #[.agg (prC x).toArray] w (SlotsPost w ((studyZ x.p).1, (studyZ x.p).2.2.2)) := by
  obtain ⟨W1, hW1⟩ : ∃ W1, W1 = w.alloc (prO x) := ⟨_, rfl⟩
  have C1 := Lib.hid (show Chg [] w W1 by rw [hW1]; exact (Chg.refl _ _).alloc _)
  have B1 := Lib.hid (show W1.heap[w.heap.size]? = some (prO x) by rw [hW1]; exact heap_alloc_new _ _)
  have A := Lib.hid (study_any x W1 (h.kept C1.out) hg (ht.kept C1.out))
  unfold prO at hW1 B1
  have k1 := blk_cell B1.out
  simp only [prC] at A ⊢
  generalize studyZ x.p = R at *
  clear h hg ht
  go_enter Tryz.func13, Tryz.ntmps13
  go_upto_region 1 with fail
  rw [← hW1]
  clear hW1
  go_wp2_with (go_at_call 28; (with_reducible refine Calls.mono A.out ?_); rintro e w2 ⟨sa, sc, la, lc, rfl, hs, hl, hc⟩; have C2 := Lib.hid (C1.out.thenSame hc); have S2 := Lib.hid (hs.mono C1.out.size); clear k1 hc hs hl)
  go_ret2
  exact ⟨_, _, rfl, S2.out, C2.out⟩
/-- What Locals returns. -/
def localsZ (p : PPr) (f : Int) : Int × Int := if (studyZ p).2.2.2 = 0 then (if 0 ≤ f ∧ f.toNat < (studyZ p).2.1.length then (((studyZ p).2.1[f.toNat]?).getD 0, 0) else (0, 2)) else (0, (studyZ p).2.2.2)
set_option maxHeartbeats 16000000 in
set_option maxRecDepth 100000 in
theorem locals_any (x : Pr) (f : Int) (w : World) (h : PrIn w x) (hg : goodPr x) (ht : TabW w) : Calls Tryz.prog 14 #[.agg (prC x).toArray, .int .i64 f] w fun e w' => e = .returned (.tuple #[.int .i64 (localsZ x.p f).1, .int .i64 (localsZ x.p f).2]) ∧ Chg [] w w' := by
  obtain ⟨R2, hR2⟩ : ∃ R2, R2 = localsZ x.p f := ⟨_, rfl⟩
  rw [← hR2]
  unfold localsZ at hR2
  obtain ⟨W1, hW1⟩ : ∃ W1, W1 = w.alloc (prO x) := ⟨_, rfl⟩
  have C1 := Lib.hid (show Chg [] w W1 by rw [hW1]; exact (Chg.refl _ _).alloc _)
  have B1 := Lib.hid (show W1.heap[w.heap.size]? = some (prO x) by rw [hW1]; exact heap_alloc_new _ _)
  have A := Lib.hid (study_any x W1 (h.kept C1.out) hg (ht.kept C1.out))
  unfold prO at hW1 B1
  have k1 := blk_cell B1.out
  simp only [prC] at A ⊢
  generalize studyZ x.p = R at *
  obtain ⟨sl, lo, at', er⟩ := R
  simp only at hR2
  clear h hg ht
  by_cases he : er = 0
  · rw [if_pos he] at hR2
    have heb : (er != 0) = false := by rw [he]; rfl
    by_cases hf : 0 ≤ f ∧ f.toNat < lo.length
    · rw [if_pos hf] at hR2
      obtain ⟨m, rfl⟩ : ∃ m : Nat, f = (m : Int) := ⟨f.toNat, by omega⟩
      obtain ⟨hf0, hf1⟩ := hf
      rw [Int.toNat_natCast] at hR2 hf1
      rw [List.getElem?_eq_getElem hf1] at hR2
      have HE := Lib.hid hR2
      have hf2 : ¬ (m : Int) ≥ (lo.length : Int) := by omega
      have hf2b : decide ((lo.length : Int) ≤ (m : Int)) = false := by simp; omega
      have hf3 : (m : Int) < (lo.length : Int) := by omega
      have hf4 : ¬ (m : Int) < 0 := by omega
      clear hR2 he
      go_enter Tryz.func14, Tryz.ntmps14
      go_upto_region 1 with fail
      rw [← hW1]
      clear hW1
      go_wp2_with (go_at_call 28; (with_reducible refine Calls.mono A.out ?_); rintro e w2 ⟨sa, sc, la, lc, rfl, hs, hl, hc⟩; have C2 := Lib.hid (C1.out.thenSame hc); obtain ⟨b3, o3, rfl, -, -, hc3⟩ := (RowOf.sl hl icI_len1).1.elem (Chg.refl [] _) m hf1; have c5 := hc3 0 (by omega); simp only [icI, List.getElem?_cons_zero, Nat.add_zero, Nat.mul_one] at c5; clear k1 hc hs hl hc3)
      go_ret2
      exact ⟨ret2P HE.out, C2.out⟩
    · rw [if_neg hf] at hR2
      have HE := Lib.hid hR2
      clear hR2 he
      by_cases hf0 : f < 0
      · go_enter Tryz.func14, Tryz.ntmps14
        go_upto_region 1 with fail
        rw [← hW1]
        clear hW1
        go_wp2_with (go_at_call 28; (with_reducible refine Calls.mono A.out ?_); rintro e w2 ⟨sa, sc, la, lc, rfl, hs, hl, hc⟩; have C2 := Lib.hid (C1.out.thenSame hc); clear k1 hc hs hl)
        go_ret2
        exact ⟨ret2P HE.out, C2.out⟩
      · have hf3 : (lo.length : Int) ≤ f := by omega
        clear hf
        go_enter Tryz.func14, Tryz.ntmps14
        go_upto_region 1 with fail
        rw [← hW1]
        clear hW1
        go_wp2_with (go_at_call 28; (with_reducible refine Calls.mono A.out ?_); rintro e w2 ⟨sa, sc, la, lc, rfl, hs, hl, hc⟩; have C2 := Lib.hid (C1.out.thenSame hc); clear k1 hc hs hl)
        go_ret2
        exact ⟨ret2P HE.out, C2.out⟩
  · rw [if_neg he] at hR2
    have HE := Lib.hid hR2
    have heb : (er != 0) = true := by simpa using he
    clear hR2 he
    go_enter Tryz.func14, Tryz.ntmps14
    go_upto_region 1 with fail
    rw [← hW1]
    clear hW1
    go_wp2_with (go_at_call 28; (with_reducible refine Calls.mono A.out ?_); rintro e w2 ⟨sa, sc, la, lc, rfl, hs, hl, hc⟩; have C2 := Lib.hid (C1.out.thenSame hc); clear k1 hc hs hl)
    go_ret2
    exact ⟨ret2P HE.out, C2.out⟩
set_option maxHeartbeats 16000000 in
set_option maxRecDepth 100000 in
theorem equal_any {a1 a2 : Option Addr} {c1 c2 : Nat} {l1 l2 : List Int} {w : World} (h1 : InIs icI 1 w a1 c1 l1) (h2 : InIs icI 1 w a2 c2 l2) : Calls Tryz.prog 18 #[.slice a1 l1.length c1, .slice a2 l2.length c2] w fun e w' => e = .returned (.bool (l1 == l2)) ∧ Chg [] w w' := by
  obtain ⟨R, hR⟩ : ∃ R, R = (l1 == l2) := ⟨_, rfl⟩
  rw [← hR]
  have HR := Lib.hid hR
  have H1 := Lib.hid h1
  have H2 := Lib.hid h2
  have hm : (l1.length : Int) ≤ 9223372036854775807 := by have h1 := h1.2.1; have h2 := H1.out.2.2.1; unfold maxLen at h2; omega
  clear h1 h2 hR
  by_cases hl : l1.length = l2.length
  · have hlb : ((l1.length : Int) != (l2.length : Int)) = false := by rw [hl]; simp
    have HL := Lib.hid hl
    clear hl
    go_enter Tryz.func18, Tryz.ntmps18
    go_wp2_with fail
    go_loopw [13] (fun v wr => ∃ k : Nat, v = .int .i64 k ∧ k ≤ l1.length ∧ Hid (R = (l1.drop k == l2.drop k)) ∧ Hid (Chg [] w wr)) (fun v _ => l1.length - (intOf v).toNat)
    case atStart => exact ⟨0, rfl, Nat.zero_le _, Lib.hid HR.out, Lib.hid (Chg.refl _ _)⟩
    case round =>
      obtain ⟨k, rfl, hk, HS, D⟩ := hrel
      have hk0 : (0 : Int) ≤ (k : Int) := by omega
      by_cases hkl : k < l1.length
      · have hkl' : (k : Int) < (l1.length : Int) := by omega
        have hkl2 : k < l2.length := by have := HL.out; omega
        have hkl2' : (k : Int) < (l2.length : Int) := by omega
        obtain ⟨b1, o1, rfl, -, -, g1⟩ := H1.out.1.elem D.out k hkl
        obtain ⟨b2, o2, rfl, -, -, g2⟩ := H2.out.1.elem D.out k hkl2
        have u1 := g1 0 (by omega)
        have u2 := g2 0 (by omega)
        simp only [icI, List.getElem?_cons_zero, Nat.add_zero, Nat.mul_one] at u1 u2
        have HS2 := HS.out
        rw [List.drop_eq_getElem_cons hkl, List.drop_eq_getElem_cons hkl2, List.cons_beq_cons] at HS2
        have qk : IntKind.i64.wrap ((k : Int) + 1) = (k : Int) + 1 := IntWalk.i64_in _ (by omega)
        generalize l1[k] = p at *
        generalize l2[k] = q at *
        clear g1 g2
        by_cases hpq : p = q
        · have HS3 := Lib.hid (by have := HS2; rw [hpq, beq_self_eq_true, Bool.true_and] at this; exact this)
          have hpqb : (p != q) = false := by rw [hpq]; simp
          clear HS2 hpq
          go_upto_region 6 with fail
          go_quiet (fail)
          have E := Lib.hid (D.out.drewN nq)
          go_wp2_with fail
          exact ⟨⟨k + 1, rfl, by omega, HS3, E⟩, by simp [intOf]; omega⟩
        · have HE := Lib.hid (show R = false by rw [HS2, beq_eq_false_iff_ne.2 hpq, Bool.false_and])
          have hpqb : (p != q) = true := by simpa using hpq
          clear HS2
          go_upto_region 6 with fail
          go_quiet (fail)
          have E := Lib.hid (D.out.drewN nq)
          go_wp2_with fail
          go_ret
          exact ⟨by rw [HE.out]; rfl, E.out⟩
      · have hke : k = l1.length := by omega
        have HE := Lib.hid (show R = true by
          rw [HS.out, hke, List.drop_length, HL.out, List.drop_length]
          rfl)
        have hkl' : ¬ (k : Int) < (l1.length : Int) := by omega
        clear hke
        go_wp2_with fail
        go_ret
        exact ⟨by rw [HE.out]; rfl, D.out⟩
  · have hlb : ((l1.length : Int) != (l2.length : Int)) = true := by simp; omega
    have HE := Lib.hid (show R = false by
      rw [HR.out]
      exact beq_eq_false_iff_ne.2 (fun e => hl (congrArg List.length e)))
    clear hl
    go_enter Tryz.func18, Tryz.ntmps18
    go_wp2_with fail
    go_ret
    exact ⟨by rw [HE.out]; rfl, Chg.refl _ _⟩
end Go.Proofs.YtolidiafomceiaaGreatDoor
namespace Go.Proofs.YtolidiafomceiaaGreatDoor
set_option linter.unusedVariables false
set_option linter.unusedSimpArgs false
open Go.RowKit
def exE : ByteArray := ⟨#[101]⟩
def exX : ByteArray := ⟨#[120]⟩
def exY : ByteArray := ⟨#[121]⟩
def exZ : ByteArray := ⟨#[]⟩
def exP (s : ByteArray) : PPr := ⟨[⟨5, exE, 0, [], []⟩, ⟨13, exX, 0, [], [0]⟩, ⟨5, s, 0, [], []⟩, ⟨17, exZ, 0, [], [2]⟩, ⟨19, exZ, 0, [], [1, 3]⟩], [⟨mainS, [exE], 4⟩]⟩
def exPr (z : Nat) (s : ByteArray) : Pr := ⟨some ⟨z + 4, 0, none⟩, 5, [⟨5, exE, 0, none, 0, [], none, 0, []⟩, ⟨13, exX, 0, none, 0, [], some ⟨z + 1, 0, none⟩, 1, [0]⟩, ⟨5, s, 0, none, 0, [], none, 0, []⟩, ⟨17, exZ, 0, none, 0, [], some ⟨z + 2, 0, none⟩, 1, [2]⟩, ⟨19, exZ, 0, none, 0, [], some ⟨z + 3, 0, none⟩, 2, [1, 3]⟩],
  some ⟨z + 6, 0, none⟩, 1, [⟨mainS, some ⟨z + 5, 0, none⟩, 1, [exE], 4⟩]⟩
theorem exPr_p (z : Nat) (s : ByteArray) : (exPr z s).p = exP s := rfl
theorem exP_good : studyZ (exP exX) = ([0, 1, 1, -1, -1], [2], 0, 0) := by kernel_rfl
theorem exP_bad : (studyZ (exP exY)).2.2 = (2, 4) := by kernel_rfl
/-- The example's blocks. -/
structure ExAt (w : World) (z : Nat) (s : ByteArray) : Prop where
  o1 : w.heap[z + 1]? = some (.cells #[.int .i64 0] 3 (0, 0))
  o2 : w.heap[z + 2]? = some (.cells #[.int .i64 2] 3 (0, 0))
  o3 : w.heap[z + 3]? = some (.cells #[.int .i64 1, .int .i64 3] 3 (0, 0))
  o4 : w.heap[z + 4]? = some (.cells #[.int .i64 5, .string exE, .int .i64 0, .slice none 0 0, .slice none 0 0, .int .i64 13, .string exX, .int .i64 0, .slice none 0 0, .slice (some ⟨z + 1, 0, none⟩) 1 1, .int .i64 5, .string s, .int .i64 0, .slice none 0 0, .slice none 0 0, .int .i64 17, .string exZ, .int .i64 0, .slice none 0 0, .slice (some ⟨z + 2, 0, none⟩) 1 1, .int .i64 19, .string exZ, .int .i64 0, .slice none 0 0, .slice (some ⟨z + 3, 0, none⟩) 2 2] 49 (0, 0))
  o5 : w.heap[z + 5]? = some (.cells #[.string exE] 9 (0, 0))
  o6 : w.heap[z + 6]? = some (.cells #[.string mainS, .slice (some ⟨z + 5, 0, none⟩) 1 1, .int .i64 4] 38 (0, 0))
theorem ExAt.kept {w w' : World} {z : Nat} {s : ByteArray} (h : ExAt w z s) (hc : Chg [] w w') : ExAt w' z s :=
  ⟨hc.at (by simp) h.o1, hc.at (by simp) h.o2, hc.at (by simp) h.o3, hc.at (by simp) h.o4, hc.at (by simp) h.o5, hc.at (by simp) h.o6⟩
theorem inIs_nil {α : Type} {cf : α → List Value} {sz : Nat} {w : World} : InIs cf sz w none 0 ([] : List α) := ⟨⟨rfl, fun k hk => by simp at hk⟩, Nat.le_refl _, by unfold maxLen; omega, fun _ => rfl⟩
theorem inIs_blk {α : Type} {cf : α → List Value} {sz : Nat} {w : World} {b n : Nat} {cur : Array Value} {t : TypeId} {fr : Nat × Nat} (l : List α) (h : w.heap[b]? = some (.cells cur t fr)) (hc : ∀ x, (cf x).length = sz) (hl : cur.toList = l.flatMap cf) (hn : l.length ≤ n) (hm : n ≤ maxLen) : InIs cf sz w (some ⟨b, 0, none⟩) n l :=
  ⟨SlIs.ofBlock l h hc hl, hn, hm, fun e => by cases e⟩
theorem ExAt.pr {w : World} {z : Nat} {s : ByteArray} (h : ExAt w z s) : PrIn w (exPr z s) := by
  refine ⟨⟨inIs_blk _ h.o4 ndC_len rfl (Nat.le_refl 5) (show 5 ≤ maxLen by unfold maxLen; omega), ?_⟩, ⟨inIs_blk _ h.o6 fnC_len rfl (Nat.le_refl 1) (show 1 ≤ maxLen by unfold maxLen; omega), ?_⟩⟩
  · intro d hd
    simp only [exPr, List.mem_cons, List.not_mem_nil, or_false] at hd
    rcases hd with rfl | rfl | rfl | rfl | rfl
    · exact ⟨inIs_nil, inIs_nil⟩
    · exact ⟨inIs_nil, inIs_blk _ h.o1 icI_len1 rfl (Nat.le_refl 1) (show 1 ≤ maxLen by unfold maxLen; omega)⟩
    · exact ⟨inIs_nil, inIs_nil⟩
    · exact ⟨inIs_nil, inIs_blk _ h.o2 icI_len1 rfl (Nat.le_refl 1) (show 1 ≤ maxLen by unfold maxLen; omega)⟩
    · exact ⟨inIs_nil, inIs_blk _ h.o3 icI_len1 rfl (Nat.le_refl 2) (show 2 ≤ maxLen by unfold maxLen; omega)⟩
  · intro d hd
    simp only [exPr, List.mem_cons, List.not_mem_nil, or_false] at hd
    subst hd
    exact inIs_blk _ h.o5 skC_lenS rfl (Nat.le_refl 1) (show 1 ≤ maxLen by unfold maxLen; omega)
theorem ExAt.set {w : World} {z : Nat} {s : ByteArray} (h : ExAt w z s) (s' : ByteArray) : ExAt (w.setCell ⟨z + 4, 11, none⟩ (.string s')) z s' := by
  have hc : Chg [z + 4] w (w.setCell ⟨z + 4, 11, none⟩ (.string s')) := (Chg.refl _ _).setCell _ _ (by simp)
  exact ⟨hc.at (by simp) h.o1, hc.at (by simp) h.o2, hc.at (by simp) h.o3, blk_set h.o4 11 _, hc.at (by simp) h.o5, hc.at (by simp) h.o6⟩
theorem exPr_ok (z : Nat) (s : ByteArray) (hs : s.size ≤ maxLen) : goodPr (exPr z s) := by
  have hE : exE.size ≤ maxLen := by unfold maxLen; decide
  have hX : exX.size ≤ maxLen := by unfold maxLen; decide
  have hZ : exZ.size ≤ maxLen := by unfold maxLen; decide
  have hM : mainS.size ≤ maxLen := by unfold maxLen; decide
  refine ⟨?_, ?_⟩
  · intro d hd
    simp only [exPr, List.mem_cons, List.not_mem_nil, or_false] at hd
    rcases hd with rfl | rfl | rfl | rfl | rfl
    · exact ⟨rfl, hE, rfl, by simp, by simp⟩
    · exact ⟨rfl, hX, rfl, by simp, by intro k hk; simp at hk; subst hk; rfl⟩
    · exact ⟨rfl, hs, rfl, by simp, by simp⟩
    · exact ⟨rfl, hZ, rfl, by simp, by intro k hk; simp at hk; subst hk; rfl⟩
    · exact ⟨rfl, hZ, rfl, by simp, by intro k hk; simp at hk; rcases hk with rfl | rfl <;> rfl⟩
  · intro d hd
    simp only [exPr, List.mem_cons, List.not_mem_nil, or_false] at hd
    subst hd
    exact ⟨hM, by intro k hk; simp at hk; subst hk; exact hE, rfl⟩
theorem al_at (w : World) (o : Obj) (k : Nat) : (w.alloc o).heap[k]? = if k = w.heap.size then some o else w.heap[k]? := by
  show (w.heap.push o)[k]? = _
  rw [Array.getElem?_push]
/-- The world behind the example. -/
def exW (w : World) : World :=
  ((((((w.alloc (.cells #[.slice (some ⟨w.heap.size + 4, 0, none⟩) 5 5, .slice (some ⟨w.heap.size + 6, 0, none⟩) 1 1] 25)).alloc (.cells #[.int .i64 0] 3)).alloc (.cells #[.int .i64 2] 3)).alloc (.cells #[.int .i64 1, .int .i64 3] 3)).alloc
    (.cells #[.int .i64 5, .string exE, .int .i64 0, .slice none 0 0, .slice none 0 0, .int .i64 13, .string exX, .int .i64 0, .slice none 0 0, .slice (some ⟨w.heap.size + 1, 0, none⟩) 1 1, .int .i64 5, .string exX, .int .i64 0, .slice none 0 0, .slice none 0 0, .int .i64 17, .string exZ, .int .i64 0, .slice none 0 0, .slice (some ⟨w.heap.size + 2, 0, none⟩) 1 1, .int .i64 19, .string exZ, .int .i64 0, .slice none 0 0, .slice (some ⟨w.heap.size + 3, 0, none⟩) 2 2] 49)).alloc
    (.cells #[.string exE] 9)).alloc (.cells #[.string mainS, .slice (some ⟨w.heap.size + 5, 0, none⟩) 1 1, .int .i64 4] 38)
theorem exW_at (w : World) : ExAt (exW w) w.heap.size exX ∧ Chg [] w (exW w) ∧ (exW w).heap[w.heap.size]? = some (.cells #[.slice (some ⟨w.heap.size + 4, 0, none⟩) 5 5, .slice (some ⟨w.heap.size + 6, 0, none⟩) 1 1] 25 (0, 0)) := by
  have hc : Chg [] w (exW w) := ((((((((Chg.refl [] w).alloc _).alloc _).alloc _).alloc _).alloc _).alloc _).alloc _)
  refine ⟨⟨?_, ?_, ?_, ?_, ?_, ?_⟩, hc, ?_⟩ <;> (unfold exW; simp only [al_at, World.size_alloc]; simp; try (repeat rw [if_neg (by omega)]))
set_option maxHeartbeats 16000000 in
set_option maxRecDepth 100000 in
theorem example_any (w : World) : Calls Tryz.prog 26 #[] w fun e w' => e = .returned (.agg #[.slice (some ⟨w.heap.size + 4, 0, none⟩) 5 5, .slice (some ⟨w.heap.size + 6, 0, none⟩) 1 1]) ∧ Chg [] w w' ∧ ExAt w' w.heap.size exX := by
  obtain ⟨h1, h2, h3⟩ := exW_at w
  have r1 := blk_cell h3
  have H1 := Lib.hid h1
  have H2 := Lib.hid h2
  clear h1 h2 h3
  go_enter Tryz.func26, Tryz.ntmps26
  go_wp2_with fail
  change bodyPost _ _ _ _ _ (exW w)
  exact bodyPost_ret (v := .agg #[.slice (some ⟨w.heap.size + 4, 0, none⟩) 5 5, .slice (some ⟨w.heap.size + 6, 0, none⟩) 1 1]) (by simp [results, Tryz.results26, go_sem, r1]) rfl ⟨rfl, H2.out, H1.out⟩
theorem exX_le : exX.size ≤ maxLen := by unfold maxLen; decide
theorem exY_le : exY.size ≤ maxLen := by unfold maxLen; decide
theorem ck_good {w : World} {z : Nat} (h : ExAt w z exX) (ht : TabW w) : Calls Tryz.prog 10 #[.agg #[.slice (some ⟨z + 4, 0, none⟩) 5 5, .slice (some ⟨z + 6, 0, none⟩) 1 1]] w fun e w' => e = .returned (.tuple #[.int .i64 0, .int .i64 0]) ∧ Chg [] w w' := by
  have := check_any (exPr z exX) w h.pr (exPr_ok z exX exX_le) ht
  rw [exPr_p, exP_good] at this
  exact this
theorem ck_bad {w : World} {z : Nat} (h : ExAt w z exY) (ht : TabW w) : Calls Tryz.prog 10 #[.agg #[.slice (some ⟨z + 4, 0, none⟩) 5 5, .slice (some ⟨z + 6, 0, none⟩) 1 1]] w fun e w' => e = .returned (.tuple #[.int .i64 2, .int .i64 4]) ∧ Chg [] w w' := by
  have := check_any (exPr z exY) w h.pr (exPr_ok z exY exY_le) ht
  rw [exPr_p, exP_bad] at this
  exact this
theorem sl_good {w : World} {z : Nat} (h : ExAt w z exX) (ht : TabW w) : Calls Tryz.prog 13 #[.agg #[.slice (some ⟨z + 4, 0, none⟩) 5 5, .slice (some ⟨z + 6, 0, none⟩) 1 1]] w fun e w' => ∃ sa sc, e = .returned (.tuple #[.slice sa 5 sc, .int .i64 0]) ∧ InIs icI 1 w' sa sc [0, 1, 1, -1, -1] ∧ Chg [] w w' := by
  have := slots_any (exPr z exX) w h.pr (exPr_ok z exX exX_le) ht
  rw [exPr_p, exP_good] at this
  refine Calls.mono this ?_
  rintro e w' ⟨sa, sc, rfl, hr, hc⟩
  exact ⟨sa, sc, rfl, (InIs.ofRow hr icI_len1).2, hc⟩
theorem lo_good {w : World} {z : Nat} (h : ExAt w z exX) (ht : TabW w) : Calls Tryz.prog 14 #[.agg #[.slice (some ⟨z + 4, 0, none⟩) 5 5, .slice (some ⟨z + 6, 0, none⟩) 1 1], .int .i64 0] w fun e w' => e = .returned (.tuple #[.int .i64 2, .int .i64 0]) ∧ Chg [] w w' := by
  have := locals_any (exPr z exX) 0 w h.pr (exPr_ok z exX exX_le) ht
  unfold localsZ at this
  rw [exPr_p, exP_good] at this
  exact this
theorem eq_good {a1 a2 : Option Addr} {c1 c2 : Nat} {w : World} (h1 : InIs icI 1 w a1 c1 [0, 1, 1, -1, -1]) (h2 : InIs icI 1 w a2 c2 [0, 1, 1, -1, -1]) : Calls Tryz.prog 18 #[.slice a1 5 c1, .slice a2 5 c2] w fun e w' => e = .returned (.bool true) ∧ Chg [] w w' := equal_any h1 h2
theorem bi_put (w : World) : Calls Tryz.prog 27 #[.string ⟨#[112, 117, 116]⟩] w fun e w' => e = .returned (.tuple #[.int .i64 3, .bool true]) ∧ Chg [] w w' := by
  have := builtin_any ⟨#[112, 117, 116]⟩ w
  rw [show lkZ biL ⟨#[112, 117, 116]⟩ = (3, true) from by kernel_rfl] at this
  exact this
set_option maxHeartbeats 16000000 in
set_option maxRecDepth 100000 in
theorem stawake_any (w : World) (ht : TabW w) : Calls Tryz.prog 9 #[] w fun e w' => e = .returned (.bool true) ∧ Chg [] w w' := by
  have HT := Lib.hid ht
  have CU := Lib.hid (Chg.refl [] w)
  have CS := Lib.hid (Chg.refl [] w)
  clear ht
  go_enter Tryz.func9, Tryz.ntmps9
  go_upto_region 5 with (first
    | (go_at_call 26; (with_reducible refine Calls.mono (example_any _) ?_); rintro e wE ⟨rfl, hc, hx⟩; have CU := Lib.hid (CU.out.thenSame hc); have CS := Lib.hid (CS.out.thenSame hc); have XE := Lib.hid hx; clear hc hx)
    | (go_at_call 10; (with_reducible refine Calls.mono (ck_good XE.out (HT.out.kept CU.out)) ?_); rintro e wC ⟨rfl, hc⟩; have CU := Lib.hid (CU.out.thenSame hc); have CS := Lib.hid (CS.out.thenSame hc); clear hc)
    | (go_at_call 13; (with_reducible refine Calls.mono (sl_good XE.out (HT.out.kept CU.out)) ?_); rintro e wS ⟨sa, sc, rfl, hi, hc⟩; have CU := Lib.hid (CU.out.thenSame hc); have CUS := Lib.hid CU.out.size; have CS := Lib.hid (Chg.refl [] wS); have SI := Lib.hid hi; clear hc hi)
    | (go_at_call 14; (with_reducible refine Calls.mono (lo_good XE.out (HT.out.kept CU.out)) ?_); rintro e wL ⟨rfl, hc⟩; have CU := Lib.hid (CU.out.thenSame hc); have CS := Lib.hid (CS.out.thenSame hc); clear hc)
    | (go_at_call 27; (with_reducible refine Calls.mono (bi_put _) ?_); rintro e wB ⟨rfl, hc⟩; have CU := Lib.hid (CU.out.thenSame hc); have CS := Lib.hid (CS.out.thenSame hc); clear hc))
  go_upto_region 6 with (go_at_call 26; (with_reducible refine Calls.mono (example_any _) ?_); rintro e wX ⟨rfl, hc, hx⟩; have CU := Lib.hid (CU.out.thenSame hc); have CS0 := Lib.hid CS.out.size; have CS := Lib.hid (CS.out.thenSame hc); have XE := Lib.hid hx; clear hc hx)
  generalize wB.heap.size = z at *
  obtain ⟨W5, hW5⟩ : ∃ W5, W5 = wX.alloc (.cells #[.slice (some ⟨z + 4, 0, none⟩) 5 5, .slice (some ⟨z + 6, 0, none⟩) 1 1] 25) := ⟨_, rfl⟩
  have N5 := Lib.hid (show Chg [] wX W5 by rw [hW5]; exact (Chg.refl _ _).alloc _)
  have X5 := Lib.hid (XE.out.kept N5.out)
  have K5 := Lib.hid (show W5.heap[wX.heap.size]? = some (.cells #[.slice (some ⟨z + 4, 0, none⟩) 5 5, .slice (some ⟨z + 6, 0, none⟩) 1 1] 25 (0, 0)) from by rw [hW5]; exact heap_alloc_new _ _)
  have k5 := blk_cell K5.out
  have y5 := blk_cell X5.out.o4
  have f5 := blk_free X5.out.o4
  have CU5 := Lib.hid (CU.out.thenSame N5.out)
  have CS5 := Lib.hid (CS.out.thenSame N5.out)
  have ZX := Lib.hid (lt_of_heap XE.out.o6)
  rw [← hW5]
  clear hW5
  go_upto_region 7 with fail
  obtain ⟨W6, hW6⟩ : ∃ W6, W6 = W5.setCell ⟨z + 4, 11, none⟩ (.string exY) := ⟨_, rfl⟩
  have X6 := Lib.hid (show ExAt W6 z exY by rw [hW6]; exact X5.out.set exY)
  have CS6 := Lib.hid (show Chg [] wS W6 by rw [hW6]; exact CS5.out.setCell _ _ (fun e => by have := CS0.out; simp at e; omega))
  have CU6 := Lib.hid (show Chg [] w W6 by rw [hW6]; exact CU5.out.setCell _ _ (fun e => by have := CS0.out; have := CUS.out; simp at e; omega))
  have K6 := Lib.hid (show W6.heap[wX.heap.size]? = some (.cells #[.slice (some ⟨z + 4, 0, none⟩) 5 5, .slice (some ⟨z + 6, 0, none⟩) 1 1] 25 (0, 0)) from by rw [hW6]; exact (blk_set_ne 11 _ (by have := ZX.out; omega)).trans K5.out)
  have k6 := blk_cell K6.out
  change Code.wp _ _ _ _ (W5.setCell ⟨z + 4, 11, none⟩ (.string exY))
  rw [← hW6]
  clear hW6 k5 y5 f5
  go_upto_region 8 with (go_at_call 10; (with_reducible refine Calls.mono (ck_bad X6.out (HT.out.kept CU6.out)) ?_); rintro e w7 ⟨rfl, hc⟩; have CU7 := Lib.hid (CU6.out.thenSame hc); have CS7 := Lib.hid (CS6.out.thenSame hc); clear hc k6)
  obtain ⟨W8, hW8⟩ : ∃ W8, W8 = w7.alloc (.cells #[.int .i64 0, .int .i64 1, .int .i64 1, .int .i64 (-1), .int .i64 (-1)] 3) := ⟨_, rfl⟩
  have N8 := Lib.hid (show Chg [] w7 W8 by rw [hW8]; exact (Chg.refl _ _).alloc _)
  have K8 := Lib.hid (show W8.heap[w7.heap.size]? = some (.cells #[.int .i64 0, .int .i64 1, .int .i64 1, .int .i64 (-1), .int .i64 (-1)] 3 (0, 0)) from by rw [hW8]; exact heap_alloc_new _ _)
  have EQ := Lib.hid (eq_good (SI.out.kept (CS7.out.thenSame N8.out)) (inIs_blk [0, 1, 1, -1, -1] K8.out icI_len1 rfl (Nat.le_refl 5) (show 5 ≤ maxLen by unfold maxLen; omega)))
  have HW8 := Lib.hid hW8
  clear hW8
  go_wp2_with (go_at_call 18; rw [← HW8.out]; (with_reducible refine Calls.mono EQ.out ?_); rintro e w8 ⟨rfl, hc⟩; have CU8 := Lib.hid ((CU7.out.thenSame N8.out).thenSame hc); clear hc)
  go_ret
  exact ⟨rfl, CU8.out⟩
end Go.Proofs.YtolidiafomceiaaGreatDoor
