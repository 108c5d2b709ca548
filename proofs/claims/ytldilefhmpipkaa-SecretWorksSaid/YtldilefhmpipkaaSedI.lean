/- Chapter 22: contracts of the reference: Read, Accepts, Names; of the law: same. No condition. -/
import Derived.Test.YtldilefhmpipkaaSedG
namespace Go.Proofs.Ytldilefhmpipkaa
set_option linter.unusedVariables false
set_option linter.unusedSimpArgs false
open Go.RowKit

set_option maxHeartbeats 8000000 in
set_option maxRecDepth 100000 in
theorem rread_any (rb : Nat) (sv : Value) (l : List RSec) (name fn : ByteArray) (w : World) (h : RVIs w rb sv l) (hll : l.length ≤ 4096) (hbl : ∀ x ∈ l, x.s.bound.length ≤ 4096) :
    Calls Try.prog 23 #[.pointer (some ⟨rb, 0, none⟩), .string name, .string fn] w fun e w' => e = .returned (.tuple #[.string (rreadS (l.map RSec.s) name fn).1, .int .i64 (rreadS (l.map RSec.s) name fn).2.1, .int .i64 (rreadS (l.map RSec.s) name fn).2.2]) ∧ Chg [] w w' := by
  have H := Lib.hid h
  obtain ⟨R, hR⟩ : ∃ R, R = rreadS (l.map RSec.s) name fn := ⟨_, rfl⟩
  rw [← hR]
  unfold rreadS at hR
  have A3 := fun w h => rfind_any rb sv l name w h hll
  rw [rnms_map] at A3
  have e1 : posOf (rnms (l.map RSec.s)) (byt name) = posR (l.map RSec.s) name := rfl
  have e2 : foundAt (rnms (l.map RSec.s)) (byt name) = foundR (l.map RSec.s) name := rfl
  rw [e1, e2] at A3
  have c0 := blk_cell h.1
  have hcs := rfind_cases l name
  clear e1 e2
  rcases hcs with ⟨b3, hlk⟩ | ⟨b3, hp, hlk, -⟩
  · rw [hlk] at hR
    simp only at hR
    subst hR
    rw [b3] at A3
    generalize posR (l.map RSec.s) name = p at *
    have A3 := Lib.hid A3
    rename_i A30
    clear h b3 hlk A30
    go_enter Try.func23, Try.ntmps23
    go_wp2_with fail
    refine (A3.out _ H.out).mono ?_; rintro e w4 ⟨rfl, hc4⟩
    have C4 := Lib.hid hc4
    clear hc4
    go_wp2_with fail
    go_ret3
    exact ⟨rfl, C4.out⟩
  rw [hlk] at hR
  simp only at hR
  rw [b3] at A3
  generalize posR (l.map RSec.s) name = p at *
  have A3 := Lib.hid A3
  rename_i A30
  have hb0 := hbl _ (List.getElem_mem hp)
  obtain ⟨g, sc, hsv, -, -, -, -, -⟩ := h.at hp
  subst hsv
  clear b3 hlk A30 h hbl
  have hA4 := fun (w : World) (v : Value) (hs : SrcIs kc 1 w v (l[p]).s.bound) => rplace_any v (l[p]).s.bound fn w hs hb0
  have hpk : (0 : Int) ≤ (p : Int) := by omega
  have hpl : (p : Int) < (l.length : Int) := by omega
  have HAT := Lib.hid (fun w' (V : RVIs w' rb (.slice (some ⟨g, 0, none⟩) l.length sc) l) => V.at hp)
  obtain ⟨x, hx⟩ : ∃ x, x = l[p] := ⟨_, rfl⟩
  rw [← hx] at hR hA4 HAT hb0
  generalize posOf x.s.bound (byt fn) = i at hA4
  clear hx
  cases b4 : foundAt x.s.bound (byt fn)
  · rw [b4] at hR hA4
    simp only [Bool.false_eq_true, if_false] at hR
    subst hR
    have A4 := Lib.hid hA4
    clear b4 hA4
    go_enter Try.func23, Try.ntmps23
    go_wp2_with fail
    refine (A3.out _ H.out).mono ?_; rintro e w4 ⟨rfl, hc4⟩
    have C4 := Lib.hid hc4
    have V4 := Lib.hid (H.out.keptN hc4)
    have c4 := blk_cell V4.out.1
    obtain ⟨g', c', hgc, hcell, -, hgl, hbn, hsrc⟩ := HAT.out _ V4.out
    cases hgc
    have q7 := hcell 7 (by omega)
    simp only [rsCells, List.getElem?_cons_zero, List.getElem?_cons_succ] at q7
    have Hsrc := Lib.hid hsrc
    clear hc4 hcell hsrc hbn
    go_wp2_with fail
    refine (A4.out _ _ Hsrc.out).mono ?_; rintro e w5 ⟨rfl, hc5⟩
    have C5 := Lib.hid (C4.out.thenSame hc5)
    clear hc5
    go_wp2_with fail
    go_ret3
    exact ⟨rfl, C5.out⟩
  · rw [b4] at hR hA4
    simp only [if_true] at hR
    subst hR
    have A4 := Lib.hid hA4
    clear b4 hA4
    go_enter Try.func23, Try.ntmps23
    go_wp2_with fail
    refine (A3.out _ H.out).mono ?_; rintro e w4 ⟨rfl, hc4⟩
    have C4 := Lib.hid hc4
    have V4 := Lib.hid (H.out.keptN hc4)
    have c4 := blk_cell V4.out.1
    obtain ⟨g', c', hgc, hcell, -, hgl, hbn, hsrc⟩ := HAT.out _ V4.out
    cases hgc
    have q7 := hcell 7 (by omega)
    simp only [rsCells, List.getElem?_cons_zero, List.getElem?_cons_succ] at q7
    have Hsrc := Lib.hid hsrc
    clear hc4 hcell hsrc hbn
    go_wp2_with fail
    refine (A4.out _ _ Hsrc.out).mono ?_; rintro e w5 ⟨rfl, hc5⟩
    have C5 := Lib.hid (C4.out.thenSame hc5)
    have V5 := V4.out.keptN hc5
    have c5 := blk_cell V5.1
    obtain ⟨g', c', hgc, hcell, -, hgl5, hbn, hsrc⟩ := HAT.out _ V5
    cases hgc
    have q0 := hcell 0 (by omega)
    have q1 := hcell 1 (by omega)
    have q2 := hcell 2 (by omega)
    have q3 := hcell 3 (by omega)
    have q4 := hcell 4 (by omega)
    have q5 := hcell 5 (by omega)
    have q6 := hcell 6 (by omega)
    have q7 := hcell 7 (by omega)
    simp only [rsCells, List.getElem?_cons_zero, List.getElem?_cons_succ, Nat.add_zero] at q0 q1 q2 q3 q4 q5 q6 q7
    clear hc5 hcell hsrc hbn V5 c4
    go_wp2_with fail
    go_quiet (fail)
    go_wp2_with fail
    go_ret3
    exact ⟨rfl, C5.out.drewN _⟩

set_option maxHeartbeats 8000000 in
set_option maxRecDepth 100000 in
theorem racc_any (rb : Nat) (sv : Value) (l : List RSec) (name text : ByteArray) (now : Int) (w : World) (h : RVIs w rb sv l) (hll : l.length ≤ 4096) :
    Calls Try.prog 24 #[.pointer (some ⟨rb, 0, none⟩), .string name, .string text, .int .i64 now] w fun e w' => e = .returned (.bool (raccB (l.map RSec.s) name text now)) ∧ Chg [] w w' := by
  have H := Lib.hid h
  obtain ⟨R, hR⟩ : ∃ R, R = raccB (l.map RSec.s) name text now := ⟨_, rfl⟩
  rw [← hR]
  unfold raccB at hR
  have A3 := fun w h => rfind_any rb sv l name w h hll
  rw [rnms_map] at A3
  have e1 : posOf (rnms (l.map RSec.s)) (byt name) = posR (l.map RSec.s) name := rfl
  have e2 : foundAt (rnms (l.map RSec.s)) (byt name) = foundR (l.map RSec.s) name := rfl
  rw [e1, e2] at A3
  have c0 := blk_cell h.1
  have hcs := rfind_cases l name
  clear e1 e2
  rcases hcs with ⟨b3, hlk⟩ | ⟨b3, hp, hlk, -⟩
  · rw [hlk] at hR
    simp only at hR
    subst hR
    rw [b3] at A3
    generalize posR (l.map RSec.s) name = p at *
    have A3 := Lib.hid A3
    rename_i A30
    clear h b3 hlk A30
    go_enter Try.func24, Try.ntmps24
    go_wp2_with fail
    refine (A3.out _ H.out).mono ?_; rintro e w4 ⟨rfl, hc4⟩
    have C4 := Lib.hid hc4
    clear hc4
    go_wp2_with fail
    go_ret
    exact ⟨rfl, C4.out⟩
  rw [hlk] at hR
  simp only at hR
  rw [b3] at A3
  generalize posR (l.map RSec.s) name = p at *
  have A3 := Lib.hid A3
  rename_i A30
  obtain ⟨g, sc, hsv, -, -, -, -, -⟩ := h.at hp
  subst hsv
  clear b3 hlk A30 h
  have hpk : (0 : Int) ≤ (p : Int) := by omega
  have hpl : (p : Int) < (l.length : Int) := by omega
  have HAT := Lib.hid (fun w' (V : RVIs w' rb (.slice (some ⟨g, 0, none⟩) l.length sc) l) => V.at hp)
  obtain ⟨x, hx⟩ : ∃ x, x = l[p] := ⟨_, rfl⟩
  rw [← hx] at hR HAT
  clear hx
  have hcs : (text = x.s.text ∧ R = true) ∨ ((text.toList == x.s.text.toList) = false ∧ x.s.rot = false ∧ R = false) ∨ ((text.toList == x.s.text.toList) = false ∧ x.s.rot = true ∧ (text.toList == x.s.prev.toList) = false ∧ R = false) ∨
      ((text.toList == x.s.text.toList) = false ∧ x.s.rot = true ∧ (text.toList == x.s.prev.toList) = true ∧ decide (now ≤ x.s.til) = false ∧ R = false) ∨ ((text.toList == x.s.text.toList) = false ∧ x.s.rot = true ∧ (text.toList == x.s.prev.toList) = true ∧ decide (now ≤ x.s.til) = true ∧ R = true) := by
    by_cases h1 : text = x.s.text
    · exact .inl ⟨h1, by rw [hR, h1]; simp⟩
    · have h1' : (text == x.s.text) = false := beq_eq_false_iff_ne.2 h1
      rw [h1'] at hR
      cases hr : x.s.rot
      · exact .inr (.inl ⟨bne_bytes h1, rfl, by rw [hR, hr]; rfl⟩)
      · by_cases h2 : text = x.s.prev
        · have h2' : (text.toList == x.s.prev.toList) = true := by rw [h2]; simp
          by_cases h3 : now ≤ x.s.til
          · exact .inr (.inr (.inr (.inr ⟨bne_bytes h1, rfl, h2', by simp [h3], by rw [hR, hr, h2]; simp [h3]⟩)))
          · exact .inr (.inr (.inr (.inl ⟨bne_bytes h1, rfl, h2', by simp [h3], by rw [hR, hr, h2]; simp [h3]⟩)))
        · have h2' : (text == x.s.prev) = false := beq_eq_false_iff_ne.2 h2
          exact .inr (.inr (.inl ⟨bne_bytes h1, rfl, bne_bytes h2, by rw [hR, hr, h2']; rfl⟩))
  obtain ⟨⟨nm, tx, pv, rot, til, since, ver, bd⟩, ba, bn, bc⟩ := x
  simp only at hcs
  clear hR
  rcases hcs with ⟨rfl, rfl⟩ | ⟨b1, rfl, rfl⟩ | ⟨b1, rfl, b2, rfl⟩ | ⟨b1, rfl, b2, b5, rfl⟩ | ⟨b1, rfl, b2, b5, rfl⟩
  all_goals
    go_enter Try.func24, Try.ntmps24
    go_wp2_with fail
    refine (A3.out _ H.out).mono ?_; rintro e w4 ⟨rfl, hc4⟩
    have C4 := Lib.hid hc4
    have V4 := Lib.hid (H.out.keptN hc4)
    have c4 := blk_cell V4.out.1
    obtain ⟨g', c', hgc, hcell, -, hgl, -, -⟩ := HAT.out _ V4.out
    cases hgc
    have q0 := hcell 0 (by omega)
    have q1 := hcell 1 (by omega)
    have q2 := hcell 2 (by omega)
    have q3 := hcell 3 (by omega)
    have q4 := hcell 4 (by omega)
    have q5 := hcell 5 (by omega)
    have q6 := hcell 6 (by omega)
    have q7 := hcell 7 (by omega)
    simp only [rsCells, List.getElem?_cons_zero, List.getElem?_cons_succ, Nat.add_zero] at q0 q1 q2 q3 q4 q5 q6 q7
    clear hc4 hcell
    go_wp2_with fail
    go_ret
    exact ⟨by first | rfl | simp [b5], C4.out.alloc _⟩

set_option maxHeartbeats 4000000 in
set_option maxRecDepth 100000 in
theorem same_any (a1 a2 : Option Addr) (c1 c2 : Nat) (l : List (List UInt8)) (w : World) (h1 : SlIs kc 1 w a1 l.length l) (h2 : SlIs kc 1 w a2 l.length l) (hl : l.length ≤ 4096) :
    Calls Try.prog 25 #[.slice a1 l.length c1, .slice a2 l.length c2] w fun e w' => e = .returned (.bool true) ∧ Chg [] w w' := by
  have H1 := Lib.hid h1
  have H2 := Lib.hid h2
  clear h1 h2
  go_enter Try.func25, Try.ntmps25
  go_wp2_with fail
  go_loopw [13] (fun i wr => ∃ k : Nat, i = .int .i64 k ∧ k ≤ l.length ∧ Chg [] w wr) (fun i _ => l.length - (intOf i).toNat)
  case atStart => exact ⟨0, rfl, Nat.zero_le _, Chg.refl _ _⟩
  case round =>
    obtain ⟨k, rfl, hkl, hch⟩ := hrel
    have HC := Lib.hid hch
    clear hch
    by_cases hk : k < l.length
    · obtain ⟨g1, o1, rfl, -, hbr1, hcc1⟩ := H1.out.elem HC.out k hk
      obtain ⟨g2, o2, rfl, -, hbr2, hcc2⟩ := H2.out.elem HC.out k hk
      have d1 := hcc1 0 (by omega)
      have d2 := hcc2 0 (by omega)
      simp only [kc, encStr, List.getElem?_cons_zero, Nat.add_zero, Nat.mul_one] at d1 d2
      have hk0 : (0 : Int) ≤ (k : Int) := by omega
      have hk1 : (k : Int) < (l.length : Int) := by omega
      generalize (⟨l[k].toArray⟩ : ByteArray) = s at *
      clear hcc1 hcc2
      go_wp2_with fail
      go_quiet (fail)
      go_wp2_with fail
      exact ⟨⟨k + 1, by go_num, by omega, HC.out.drewN _⟩, by simp [intOf]; omega⟩
    · have hkl2 : k = l.length := by omega
      subst hkl2
      go_wp2_with fail
      go_ret
      exact ⟨rfl, HC.out⟩
end Go.Proofs.Ytldilefhmpipkaa
