/- Chapter 50: contracts: fits, the check of a history and a state. Condition: the table of Itoa lies as the program lays it. -/
import Derived.Test.YtnhemokmgpelaaaGreatDoorLinD
namespace Go.Proofs.YtnhemokmgpelaaaGreatDoor
set_option linter.unusedVariables false
set_option linter.unusedSimpArgs false
open Go.RowKit
theorem addZ_valid {a b : Int} (h : (addZ a b).2 = 0) : validB (addZ a b).1 = true := by
  unfold addZ at h ⊢
  by_cases h1 : validB a = true ∧ validB b = true
  · rw [if_pos h1] at h ⊢
    by_cases h2 : validB (a + b) = true
    · rw [if_pos h2]; exact h2
    · rw [if_neg h2] at h; simp at h
  · rw [if_neg h1] at h; simp at h
theorem addF_ans {st a : List Ce} (h : st.length ≤ 200) : (addF st a).2.2.length ≤ 200 ∧ ((addF st a).1 = st ∨ ∃ n, (addF st a).1 = [intC n] ∧ validB n = true) := by
  cases st with
  | nil => exact ⟨by simp [addF], .inl rfl⟩
  | cons s r =>
    cases a with
    | nil => exact ⟨by simp [addF], .inl rfl⟩
    | cons x rx =>
      by_cases hs : s.kind = 3 ∨ s.kind = 1
      · by_cases hx : x.kind = 3
        · rw [addF_ok hs hx]
          have hv := addZ_valid (a := if s.kind = 3 then s.n else 0) (b := x.n)
          generalize addZ (if s.kind = 3 then s.n else 0) x.n = R at *
          by_cases h0 : R.2 = 0
          · rw [if_pos h0]; exact ⟨by simp, .inr ⟨_, rfl, hv h0⟩⟩
          · rw [if_neg h0]; exact ⟨by simp, .inl rfl⟩
        · rw [addF_bad (.inr hx)]; exact ⟨by simp, .inl rfl⟩
      · rw [addF_bad (.inl ⟨fun e => hs (.inl e), fun e => hs (.inr e)⟩)]; exact ⟨by simp, .inl rfl⟩
theorem doZ_zero {st : List Ce} {o : POp} (h : (doZ st o).1 = 0) : chkZ o = 0 ∧ checkZ st = 0 ∧ doZ st o = (0, doF (opN o.op) st o.args) := by
  unfold doZ at h ⊢
  split at h
  · rename_i h1; exact absurd h h1
  · rename_i h1
    split at h
    · rename_i h2; exact absurd h h2
    · rename_i h2
      have h1' : chkZ o = 0 := by simpa using h1
      have h2' : checkZ st = 0 := by simpa using h2
      exact ⟨h1', h2', by rw [if_neg (by simp [h1']), if_neg (by simp [h2'])]⟩
theorem doZ_ans {st : List Ce} {o : POp} (h : (doZ st o).1 = 0) : (doZ st o).2.2.2.length ≤ 200 := by
  obtain ⟨h1, h2, h3⟩ := doZ_zero h
  rw [h3]
  have hs := (check_zero h2).2
  unfold doF
  simp only
  split
  · exact hs
  · split
    · simp
    · split
      · exact (addF_ans hs).1
      · split <;> simp
/-- What fits says. -/
def fitsF (st : List Ce) (x : PCl) : Option (List Ce) :=
  if (doZ st x.o).1 ≠ 0 then none else if (openB x || ((doZ st x.o).2.2.1 == x.err && sameB ceE (doZ st x.o).2.2.2 x.ans)) = true then some (doZ st x.o).2.1 else none
def FitP (w : World) (r : Option (List Ce)) (e : Ending) (w' : World) : Prop :=
  ∃ na nc n, e = .returned (.tuple #[.slice na n nc, .bool r.isSome]) ∧ (∀ s, r = some s → n = s.length ∧ InIs ceC 4 w' na nc s ∧ ∀ x, na = some x → w.heap.size ≤ x.block) ∧ Chg [] w w'
set_option maxHeartbeats 4000000 in
set_option maxRecDepth 100000 in
theorem fits_any (sa : Option Addr) (sc : Nat) (st : List Ce) (x : Cl) (w : World) (h : InIs ceC 4 w sa sc st) (hg : goodL st) (hx : ClIn w x) (hgx : x.o.good) (ht : TabW w) :
    Calls Tryz.prog 30 #[.slice sa st.length sc, .agg (clC x).toArray] w (FitP w (fitsF st x.p)) := by
  obtain ⟨W1, hW1⟩ : ∃ W1, W1 = w.alloc (clO x) := ⟨_, rfl⟩
  have C1 := Lib.hid (show Chg [] w W1 by rw [hW1]; exact (Chg.refl _ _).alloc _)
  have B1 := Lib.hid (show W1.heap[w.heap.size]? = some (clO x) by rw [hW1]; exact heap_alloc_new _ _)
  have AD := Lib.hid (do_any sa sc st x.o W1 (h.kept C1.out) hg (hx.1.kept C1.out) hgx (ht.kept C1.out))
  have AO := fun w' => lopen_any x w'
  have HX := Lib.hid hx.2
  have HA := Lib.hid (fun (h0 : (doZ st x.p.o).1 = 0) => doZ_ans h0)
  obtain ⟨q, hq⟩ : ∃ q, q = openB x.p := ⟨_, rfl⟩
  obtain ⟨Z, hZ⟩ : ∃ Z, Z = doZ st x.p.o := ⟨_, rfl⟩
  obtain ⟨F, hF⟩ : ∃ F, F = fitsF st x.p := ⟨_, rfl⟩
  have HF := Lib.hid (show F = if Z.1 ≠ 0 then none else if (q || (Z.2.2.1 == x.err && sameB ceE Z.2.2.2 x.ans)) = true then some Z.2.1 else none by rw [hF, hZ, hq]; rfl)
  rw [← hF]
  rw [← hq] at AO
  have AD : Hid (Calls Tryz.prog 25 #[.slice sa st.length sc, .agg (eoC x.o).toArray] W1 (DoP W1 Z)) := Lib.hid (by rw [hZ]; exact AD.out)
  rw [← hZ] at HA
  have AO := Lib.hid AO
  rename_i AO0 AD0
  clear AO0 AD0 hq hZ hF h hg hx hgx ht
  obtain ⟨⟨ent, id, op, aa, ac, args⟩, err, va, vc, ans, fr, to_⟩ := x
  obtain ⟨ze, zs, zr, za⟩ := Z
  simp only [clO, clC, eoC] at *
  have k1 := blk_cell B1.out
  have HW1 := Lib.hid hW1
  clear hW1
  by_cases hz : ze = 0
  case neg =>
    have hzb : (ze != 0) = true := by simpa using hz
    have HE := Lib.hid (show F = none from HF.out.trans (if_pos hz))
    rw [HE.out]
    clear hz
    go_enter Tryz.func30, Tryz.ntmps30
    go_upto_region 1 with fail
    rw [← HW1.out]
    go_upto_region 2 with (go_at_call 25; (with_reducible refine Calls.mono AD.out ?_); rintro e w2 ⟨na, nc, va2, vc2, rfl, hn, hv, hfr, hc⟩; have HFR := Lib.hid (fun x (hx : na = some x) => Nat.le_trans C1.out.size (hfr x (.inl hx))); have C2 := Lib.hid (C1.out.thenSame hc); have K2 := Lib.hid (hc.at (by simp) B1.out); have HN := Lib.hid hn; have HV := Lib.hid hv; clear hn hv hfr hc)
    go_wp2_with fail
    go_ret2
    exact ⟨none, 0, 0, rfl, (fun s hs => by cases hs), C2.out.alloc _⟩
  subst hz
  have HF2 := Lib.hid (HF.out.trans (if_neg (by simp)))
  have HL := Lib.hid (show za.length ≤ 1048576 from Nat.le_trans (HA.out rfl) (by omega))
  cases q
  · cases hr : (zr == err)
    · have HE := Lib.hid (show F = none from HF2.out.trans (if_neg (by simp [hr])))
      rw [HE.out]
      go_enter Tryz.func30, Tryz.ntmps30
      go_upto_region 1 with fail
      rw [← HW1.out]
      go_upto_region 2 with (go_at_call 25; (with_reducible refine Calls.mono AD.out ?_); rintro e w2 ⟨na, nc, va2, vc2, rfl, hn, hv, hfr, hc⟩; have HFR := Lib.hid (fun x (hx : na = some x) => Nat.le_trans C1.out.size (hfr x (.inl hx))); have C2 := Lib.hid (C1.out.thenSame hc); have K2 := Lib.hid (hc.at (by simp) B1.out); have HN := Lib.hid hn; have HV := Lib.hid hv; clear hn hv hfr hc)
      obtain ⟨W3, hW3⟩ : ∃ W3, W3 = w2.alloc (.cells #[.int .i64 zr, .slice va2 za.length vc2] 38) := ⟨_, rfl⟩
      have K3 := Lib.hid (blk_alloc (o' := .cells #[.int .i64 zr, .slice va2 za.length vc2] 38) K2.out)
      have T3 := Lib.hid (heap_alloc_new w2 (.cells #[.int .i64 zr, .slice va2 za.length vc2] 38))
      rw [← hW3] at K3 T3
      have C3 := Lib.hid (show Chg [] w W3 by rw [hW3]; exact C2.out.alloc _)
      have N3 := Lib.hid (show InIs ceC 4 W3 na nc zs by rw [hW3]; exact HN.out.kept ((Chg.refl [] _).alloc _))
      have V3 := Lib.hid (show InIs ceC 4 W3 va2 vc2 za by rw [hW3]; exact HV.out.kept ((Chg.refl [] _).alloc _))
      have k3 := blk_cell K3.out
      rw [← hW3]
      clear hW3 k1
      go_wp2_with (first | (go_at_call 26; (with_reducible refine Calls.mono (AO.out _) ?_); rintro e w4 ⟨rfl, hc⟩; have C4 := Lib.hid (C3.out.thenSame hc); have N4 := Lib.hid (N3.out.kept hc); have V4 := Lib.hid (V3.out.kept hc); have k4 := blk_cell (hc.at (by simp) K3.out); have t4 := blk_cell (hc.at (by simp) T3.out); clear hc) | (go_at_call 49; go_loud (refine Calls.mono (vsame_any _ _ _ _ _ _ _ V4.out.1 (HX.out.kept C4.out).1 HL.out) ?_); rw [HS.out]; rintro e w5 ⟨rfl, hc⟩; have C4 := Lib.hid (C4.out.thenSame hc); have N4 := Lib.hid (N4.out.kept hc); clear hc))
      go_ret2
      exact ⟨_, _, _, rfl, (fun s hs => by cases hs), C4.out⟩
    · cases hs : sameB ceE za ans
      · have HE := Lib.hid (show F = none from HF2.out.trans (if_neg (by simp [hr, hs])))
        have HS := Lib.hid hs
        rw [HE.out]
        clear hs
        go_enter Tryz.func30, Tryz.ntmps30
        go_upto_region 1 with fail
        rw [← HW1.out]
        go_upto_region 2 with (go_at_call 25; (with_reducible refine Calls.mono AD.out ?_); rintro e w2 ⟨na, nc, va2, vc2, rfl, hn, hv, hfr, hc⟩; have HFR := Lib.hid (fun x (hx : na = some x) => Nat.le_trans C1.out.size (hfr x (.inl hx))); have C2 := Lib.hid (C1.out.thenSame hc); have K2 := Lib.hid (hc.at (by simp) B1.out); have HN := Lib.hid hn; have HV := Lib.hid hv; clear hn hv hfr hc)
        obtain ⟨W3, hW3⟩ : ∃ W3, W3 = w2.alloc (.cells #[.int .i64 zr, .slice va2 za.length vc2] 38) := ⟨_, rfl⟩
        have K3 := Lib.hid (blk_alloc (o' := .cells #[.int .i64 zr, .slice va2 za.length vc2] 38) K2.out)
        have T3 := Lib.hid (heap_alloc_new w2 (.cells #[.int .i64 zr, .slice va2 za.length vc2] 38))
        rw [← hW3] at K3 T3
        have C3 := Lib.hid (show Chg [] w W3 by rw [hW3]; exact C2.out.alloc _)
        have N3 := Lib.hid (show InIs ceC 4 W3 na nc zs by rw [hW3]; exact HN.out.kept ((Chg.refl [] _).alloc _))
        have V3 := Lib.hid (show InIs ceC 4 W3 va2 vc2 za by rw [hW3]; exact HV.out.kept ((Chg.refl [] _).alloc _))
        have k3 := blk_cell K3.out
        rw [← hW3]
        clear hW3 k1
        go_wp2_with (first | (go_at_call 26; (with_reducible refine Calls.mono (AO.out _) ?_); rintro e w4 ⟨rfl, hc⟩; have C4 := Lib.hid (C3.out.thenSame hc); have N4 := Lib.hid (N3.out.kept hc); have V4 := Lib.hid (V3.out.kept hc); have k4 := blk_cell (hc.at (by simp) K3.out); have t4 := blk_cell (hc.at (by simp) T3.out); clear hc) | (go_at_call 49; go_loud (refine Calls.mono (vsame_any _ _ _ _ _ _ _ V4.out.1 (HX.out.kept C4.out).1 HL.out) ?_); rw [HS.out]; rintro e w5 ⟨rfl, hc⟩; have C4 := Lib.hid (C4.out.thenSame hc); have N4 := Lib.hid (N4.out.kept hc); clear hc))
        go_ret2
        exact ⟨_, _, _, rfl, (fun s hs => by cases hs), C4.out⟩
      · have HE := Lib.hid (show F = some zs from HF2.out.trans (if_pos (by simp [hr, hs])))
        have HS := Lib.hid hs
        rw [HE.out]
        clear hs
        go_enter Tryz.func30, Tryz.ntmps30
        go_upto_region 1 with fail
        rw [← HW1.out]
        go_upto_region 2 with (go_at_call 25; (with_reducible refine Calls.mono AD.out ?_); rintro e w2 ⟨na, nc, va2, vc2, rfl, hn, hv, hfr, hc⟩; have HFR := Lib.hid (fun x (hx : na = some x) => Nat.le_trans C1.out.size (hfr x (.inl hx))); have C2 := Lib.hid (C1.out.thenSame hc); have K2 := Lib.hid (hc.at (by simp) B1.out); have HN := Lib.hid hn; have HV := Lib.hid hv; clear hn hv hfr hc)
        obtain ⟨W3, hW3⟩ : ∃ W3, W3 = w2.alloc (.cells #[.int .i64 zr, .slice va2 za.length vc2] 38) := ⟨_, rfl⟩
        have K3 := Lib.hid (blk_alloc (o' := .cells #[.int .i64 zr, .slice va2 za.length vc2] 38) K2.out)
        have T3 := Lib.hid (heap_alloc_new w2 (.cells #[.int .i64 zr, .slice va2 za.length vc2] 38))
        rw [← hW3] at K3 T3
        have C3 := Lib.hid (show Chg [] w W3 by rw [hW3]; exact C2.out.alloc _)
        have N3 := Lib.hid (show InIs ceC 4 W3 na nc zs by rw [hW3]; exact HN.out.kept ((Chg.refl [] _).alloc _))
        have V3 := Lib.hid (show InIs ceC 4 W3 va2 vc2 za by rw [hW3]; exact HV.out.kept ((Chg.refl [] _).alloc _))
        have k3 := blk_cell K3.out
        rw [← hW3]
        clear hW3 k1
        go_wp2_with (first | (go_at_call 26; (with_reducible refine Calls.mono (AO.out _) ?_); rintro e w4 ⟨rfl, hc⟩; have C4 := Lib.hid (C3.out.thenSame hc); have N4 := Lib.hid (N3.out.kept hc); have V4 := Lib.hid (V3.out.kept hc); have k4 := blk_cell (hc.at (by simp) K3.out); have t4 := blk_cell (hc.at (by simp) T3.out); clear hc) | (go_at_call 49; go_loud (refine Calls.mono (vsame_any _ _ _ _ _ _ _ V4.out.1 (HX.out.kept C4.out).1 HL.out) ?_); rw [HS.out]; rintro e w5 ⟨rfl, hc⟩; have C4 := Lib.hid (C4.out.thenSame hc); have N4 := Lib.hid (N4.out.kept hc); clear hc))
        go_ret2
        exact ⟨_, _, _, rfl, (fun s hs => by cases hs; exact ⟨rfl, N4.out, HFR.out⟩), C4.out⟩
  · have HE := Lib.hid (show F = some zs from HF2.out.trans (if_pos (by simp)))
    rw [HE.out]
    go_enter Tryz.func30, Tryz.ntmps30
    go_upto_region 1 with fail
    rw [← HW1.out]
    go_upto_region 2 with (go_at_call 25; (with_reducible refine Calls.mono AD.out ?_); rintro e w2 ⟨na, nc, va2, vc2, rfl, hn, hv, hfr, hc⟩; have HFR := Lib.hid (fun x (hx : na = some x) => Nat.le_trans C1.out.size (hfr x (.inl hx))); have C2 := Lib.hid (C1.out.thenSame hc); have K2 := Lib.hid (hc.at (by simp) B1.out); have HN := Lib.hid hn; have HV := Lib.hid hv; clear hn hv hfr hc)
    obtain ⟨W3, hW3⟩ : ∃ W3, W3 = w2.alloc (.cells #[.int .i64 zr, .slice va2 za.length vc2] 38) := ⟨_, rfl⟩
    have K3 := Lib.hid (blk_alloc (o' := .cells #[.int .i64 zr, .slice va2 za.length vc2] 38) K2.out)
    have T3 := Lib.hid (heap_alloc_new w2 (.cells #[.int .i64 zr, .slice va2 za.length vc2] 38))
    rw [← hW3] at K3 T3
    have C3 := Lib.hid (show Chg [] w W3 by rw [hW3]; exact C2.out.alloc _)
    have N3 := Lib.hid (show InIs ceC 4 W3 na nc zs by rw [hW3]; exact HN.out.kept ((Chg.refl [] _).alloc _))
    have V3 := Lib.hid (show InIs ceC 4 W3 va2 vc2 za by rw [hW3]; exact HV.out.kept ((Chg.refl [] _).alloc _))
    have k3 := blk_cell K3.out
    rw [← hW3]
    clear hW3 k1
    go_wp2_with (first | (go_at_call 26; (with_reducible refine Calls.mono (AO.out _) ?_); rintro e w4 ⟨rfl, hc⟩; have C4 := Lib.hid (C3.out.thenSame hc); have N4 := Lib.hid (N3.out.kept hc); have V4 := Lib.hid (V3.out.kept hc); have k4 := blk_cell (hc.at (by simp) K3.out); have t4 := blk_cell (hc.at (by simp) T3.out); clear hc) | (go_at_call 49; go_loud (refine Calls.mono (vsame_any _ _ _ _ _ _ _ V4.out.1 (HX.out.kept C4.out).1 HL.out) ?_); rw [HS.out]; rintro e w5 ⟨rfl, hc⟩; have C4 := Lib.hid (C4.out.thenSame hc); have N4 := Lib.hid (N4.out.kept hc); clear hc))
    go_ret2
    exact ⟨_, _, _, rfl, (fun s hs => by cases hs; exact ⟨rfl, N4.out, HFR.out⟩), C4.out⟩
end Go.Proofs.YtnhemokmgpelaaaGreatDoor
