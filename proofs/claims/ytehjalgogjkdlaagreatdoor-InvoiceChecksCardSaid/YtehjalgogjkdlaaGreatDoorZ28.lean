/- Chapter 54: contract of the reference: Make. No condition. Contracts: num.Format, the reference's Format. Condition (num.Format): the table of Itoa lies as the program lays it. Chapter 54: contract: the closure of Format: words joined, a line added. No condition. -/
import Derived.Lib.ItoaLen
import Derived.Test.YtehjalgogjkdlaaGreatDoorZ24
import Derived.Test.YtehjalgogjkdlaaGreatDoorZ26
import Derived.Test.YtehjalgogjkdlaaGreatDoorZ27
import Derived.Test.YtehjalgogjkdlaaGreatDoorZ23
import Derived.Test.YtehjalgogjkdlaaGreatDoorZ14
import Derived.Test.YtehjalgogjkdlaaGreatDoorZ17
import Derived.Test.YtehjalgogjkdlaaGreatDoorZ01
import Derived.Test.YtehjalgogjkdlaaGreatDoorZ07
import Derived.Test.YtehjalgogjkdlaaGreatDoorZ21
namespace Go.Proofs.YtehjalgogjkdlaaGreatDoor
set_option linter.unusedVariables false
set_option linter.unusedSimpArgs false
open Go.RowKit
def RMkPost (w : World) (R : Inv × Int) (e : Ending) (w' : World) : Prop := ∃ v, e = .returned (.tuple #[ivW R.1 v, .int .i64 R.2]) ∧ RowOf lnC 6 w' w.heap.size 74 v R.1.ls ∧ Chg [] w w'
set_option maxHeartbeats 16000000 in
set_option maxRecDepth 100000 in
/-- The region that adds a line. -/
theorem rmk_r16 {z0 z1 z2 z3 z4 z5 z6 z7 z8 z9 z10 z11 z12 z15 z18 z19 z20 z21 z22 z23 z24 z25 z26 z27 z28 z29 z30 z31 z32 z33 z34 z35 z36 z37 z38 z39 z40 z41 z42 z43 z44 z45 z46 z47 z48 z49 z50 z51 z52 z53 z54 z55 z56 z57 z58 z59 z60 z61 z62 z63 z64 z65 z66 z67 z68 z69 z70 z71 z72 z73 z74 z75 z76 z77 z78 z79 z80 z81 z82 z83 z84 z85 z86 z87 z88 z89 z90 z91 z92 z93 z94 z95 z96 z97 z98 z99 z100 z101 z102 z103 z104 z105 z106 z107 z108 z109 z110 z111 z112 z113 z114 z115 z116 : Value} {ops : Array Oper} (hops : ops = rgnF Tryz.f23 16) {W w5 : World} {ib k o gf ub fc vc m : Nat} {tn : ByteArray} {per g : Int} {va : Option Addr} {uv : Value} {fs : List (List UInt8)} {ls : List Ln} {us : List Int} {f : List UInt8} {x : Ln} {u1 u2 u3 u4 : Int}
    (HI : Hid (MkS W w5 ib tn per g (.slice (some ⟨gf, o, none⟩) fs.length fc) (.slice va m vc) uv fs ls us)) (hm : ls.length = m) (d0 : w5.cell? ⟨gf, o + k, none⟩ = some (.string ⟨f.toArray⟩)) (hu : w5.heap[ub]? = some (.cells #[.int .i64 u1, .int .i64 u2, .int .i64 u3, .int .i64 u4] 68)) (hx : lnC x = [.string ⟨f.toArray⟩, .int .i64 u1, .int .i64 u2, .int .i64 u3, .int .i64 u4, .int .i64 0])
    (hk0 : (0 : Int) ≤ (k : Int)) (hk1 : (k : Int) < (fs.length : Int)) (hm1 : m + 1 ≤ maxLen) (hm2 : (m + 1) * 56 ≤ 140737488355328) (hW : W.heap.size ≤ w5.heap.size)
    (Q : Exit → Act → World → Prop) (hQ : ∀ y75 y76 y77 y78 y79 y80 y81 y82 y83 y84 y85 (g6 c6 : Nat) (w6 wz : World), Hid (MkS W (w6.setCell ⟨ib, 2, none⟩ (.slice (some ⟨g6, 0, none⟩) (m + 1) c6)) ib tn per g (.slice (some ⟨gf, o, none⟩) fs.length fc) (.slice (some ⟨g6, 0, none⟩) (m + 1) c6) uv fs (ls ++ [x]) us) → wz = w6.setCell ⟨ib, 2, none⟩ (.slice (some ⟨g6, 0, none⟩) (m + 1) c6) → Hid (wz.heap[ub]? = some (.cells #[.int .i64 u1, .int .i64 u2, .int .i64 u3, .int .i64 u4] 68)) → Q .normal ⟨#[z0, z1, z2, z3, z4, z5, z6, z7, z8, z9, z10, z11, z12, .slice (some ⟨gf, o, none⟩) fs.length fc, .pointer (some ⟨ib, 0, none⟩), z15, .int .i64 k, .pointer (some ⟨ub, 0, none⟩), z18, z19, z20, z21, z22, z23, z24, z25, z26, z27, z28, z29, z30, z31, z32, z33, z34, z35, z36, z37, z38, z39, z40, z41, z42, z43, z44, z45, z46, z47, z48, z49, z50, z51, z52, z53, z54, z55, z56, z57, z58, z59, z60, z61, z62, z63, z64, z65, z66, z67, z68, z69, z70, z71, z72, z73, z74, y75, y76, y77, y78, y79, y80, y81, y82, y83, y84, y85, z86, z87, z88, z89, z90, z91, z92, z93, z94, z95, z96, z97, z98, z99, z100, z101, z102, z103, z104, z105, z106, z107, z108, z109, z110, z111, z112, z113, z114, z115, z116], []⟩ wz) :
    (Code.region 16 ops true).wp Tryz.prog Q ⟨#[z0, z1, z2, z3, z4, z5, z6, z7, z8, z9, z10, z11, z12, .slice (some ⟨gf, o, none⟩) fs.length fc, .pointer (some ⟨ib, 0, none⟩), z15, .int .i64 k, .pointer (some ⟨ub, 0, none⟩), z18, z19, z20, z21, z22, z23, z24, z25, z26, z27, z28, z29, z30, z31, z32, z33, z34, z35, z36, z37, z38, z39, z40, z41, z42, z43, z44, z45, z46, z47, z48, z49, z50, z51, z52, z53, z54, z55, z56, z57, z58, z59, z60, z61, z62, z63, z64, z65, z66, z67, z68, z69, z70, z71, z72, z73, z74, z75, z76, z77, z78, z79, z80, z81, z82, z83, z84, z85, z86, z87, z88, z89, z90, z91, z92, z93, z94, z95, z96, z97, z98, z99, z100, z101, z102, z103, z104, z105, z106, z107, z108, z109, z110, z111, z112, z113, z114, z115, z116], []⟩ w5 := by
  subst hops
  simp only [rgnF, Tryz.f23, Option.bind_some, rgn, Nat.reduceEqDiff, ↓reduceIte, Option.orElse_some, Option.orElse_none, Option.getD_some, Option.orElse]
  have HQ := Lib.hid hQ
  have HX := Lib.hid hx
  subst hm
  have k5 := blk_cell HI.out.bx
  have l5 := lt_of_heap HI.out.bx
  have ku := blk_cell hu
  have lu := lt_of_heap hu
  have lf : gf < w5.heap.size := (RowOf.block HI.out.rf gf rfl).2
  have IX := Lib.hid (HI.out.next (((Chg.refl [] w5).drew).alloc (.cells #[.string ⟨f.toArray⟩, .int .i64 u1, .int .i64 u2, .int .i64 u3, .int .i64 u4, .int .i64 0] 74)))
  have UX := Lib.hid (show (w5.drew.alloc (.cells #[.string ⟨f.toArray⟩, .int .i64 u1, .int .i64 u2, .int .i64 u3, .int .i64 u4, .int .i64 0] 74)).heap[ub]? = _ from blk_alloc (w := w5.drew) hu)
  have OL := Lib.hid (fun x (hx : x ∈ (Value.slice va ls.length vc).ownBlock.toList) => show x < w5.heap.size from (RowOf.block HI.out.rl x (by simpa using hx)).2)
  have NU := Lib.hid (show ub ∉ (Value.slice va ls.length vc).ownBlock.toList from fun q => by
    obtain ⟨cur, q1⟩ := row_block HI.out.rl (g := ub) (by simpa using q)
    rw [hu] at q1
    injection q1 with q1
    injection q1 with _ q3 _
    exact absurd q3 (by decide))
  have NI := Lib.hid (show ib ∉ (Value.slice va ls.length vc).ownBlock.toList from fun q => by have := (RowOf.block HI.out.rl ib (by simpa using q)).1; have := HI.out.lt; omega)
  have NB := Lib.hid (show ub ≠ ib from fun e => by
    have q1 := HI.out.bx
    rw [← e, hu] at q1
    injection q1 with q1
    injection q1 with _ q3 _
    exact absurd q3 (by decide))
  clear hQ hx hu
  refine wp_region_noPanic ?_
  go_region_law (first
    | (show (if _ then Oper.wp _ ⟨_, Op.call ⟨Callee.builtin Builtin.append, _, _⟩, _, _, _, _⟩ _ _ _ _ else _); refine step_appendR rfl _ _ 29 rfl W.heap.size 74 _ 56 Tryz.underlying29 lnInfo rfl (by decide) lnC_len lnC_one (.slice va ls.length vc) ls rfl IX.out.rl w5.heap.size 1 x _ 74 (0, 0) rfl (heap_alloc_new w5.drew _) HX.out.symm hm1 hm2 (Nat.le_trans hW (by simp)) ?_; intro g6 c6 w6 hr6 hg6 ho6 hl6; have hgc := Chg.ofRow (v := .slice va ls.length vc) hg6; have B6 := hgc.at NI.out IX.out.bx; have k6 := blk_cell B6; have f6 := blk_free B6; have l6 := lt_of_heap B6; have U6 := Lib.hid (hgc.at NU.out UX.out); have J6 := Lib.hid (IX.out.addL hr6 hgc); clear hr6 hg6 ho6 hl6 hgc B6)
    | fail)
  all_goals
    refine NoPanic.normal ?_
    exact HQ.out _ _ _ _ _ _ _ _ _ _ _ g6 c6 w6 _ J6 rfl (Lib.hid ((blk_set_ne 2 _ NB.out).trans U6.out))
set_option maxHeartbeats 16000000 in
set_option maxRecDepth 100000 in
theorem rmake_any {w : World} {b : Nat} {v : Value} {s : Led} (h : RIs w b v s) (hl : s.l.length ≤ 60) (p : Prc) (pa : Option Addr) (pc : Nat) (hp : SlIs trC 2 w pa p.ts.length p.ts) (hpm : p.ts.length ≤ maxLen) (tn : ByteArray) (hs : tn.size ≤ maxLen) (per : Int) (hF : ∀ f ∈ fnsU s tn per, (fB f).size ≤ maxLen) (hFl : (fnsU s tn per).length ≤ 4000) (O : List Int) (hO : (makeZ s p tn per O).2 = 0 → IsOrd (shR (mkG s p tn per).1 (mkW s tn per)) O) :
    Calls Tryz.prog 23 #[.pointer (some ⟨b, 0, none⟩), prV p pa pc, .string tn, .int .i64 per] w (RMkPost w (makeZ s p tn per O)) := by
  have HOR := Lib.hid hO
  clear hO
  have HT := Lib.hid (fun w' (hc : Chg [] w w') => rtotal_any tn per (h.keptN hc) hs (by omega))
  have HA := Lib.hid (fun w' (hc : Chg [] w w') => ramt53_any p (totU s tn per).1 pa pc w' (hp.kept hc) hpm)
  have HN := Lib.hid (fun w' (hc : Chg [] w w') => rfuncs_any tn per (h.keptN hc) hl)
  have HL := Lib.hid h
  obtain ⟨W1, hW1⟩ : ∃ W1, W1 = (w.alloc (prO p pa pc)).alloc zivO := ⟨_, rfl⟩
  have C1 := Lib.hid (show Chg [] w W1 from hW1 ▸ ((Chg.refl _ _).alloc _).alloc _)
  have X1 := Lib.hid (show W1.heap[w.heap.size]? = some (prO p pa pc) from hW1 ▸ blk_alloc (heap_alloc_new _ _))
  have Y1 := Lib.hid (show W1.heap[w.heap.size + 1]? = some zivO from by
    rw [hW1]
    have := heap_alloc_new (w.alloc (prO p pa pc)) zivO
    rwa [World.size_alloc] at this)
  have HW1 := Lib.hid hW1
  have lt1 := lt_of_heap Y1.out
  clear hW1 h hp
  unfold prO zivO at HW1
  unfold prV at HA ⊢
  unfold usV at HT HA
  obtain ⟨T, hT⟩ : ∃ T, T = totU s tn per := ⟨_, rfl⟩
  have HTE := Lib.hid hT
  rw [← hT] at HT HA
  obtain ⟨⟨t1, t2, t3, t4⟩, te⟩ := T
  simp only at HT HA
  have hG : mkG s p tn per = amtZ p ⟨t1, t2, t3, t4⟩ := by unfold mkG; rw [← hT]
  rw [← hG] at HA
  have hte : te = (totU s tn per).2 := by rw [← hT]
  obtain ⟨G, hGG⟩ : ∃ G, G = mkG s p tn per := ⟨_, rfl⟩
  rw [← hGG] at HA
  have HGE := Lib.hid hGG
  have HTT := Lib.hid hte
  clear hT hG hte hGG
  obtain ⟨g, ge⟩ := G
  simp only at HA
  by_cases h1 : te = 0
  · subst h1
    have E1 := Lib.hid HTT.out.symm
    by_cases h2 : ge = 0
    · subst h2
      have E2 := Lib.hid (show (mkG s p tn per).2 = 0 by rw [← HGE.out])
      have EG := Lib.hid (show (mkG s p tn per).1 = g by rw [← HGE.out])
      obtain ⟨fs, hfs⟩ : ∃ fs, fs = fnsU s tn per := ⟨_, rfl⟩
      rw [← hfs] at HN hF hFl
      have HFS := Lib.hid hfs
      have HF := Lib.hid hF
      clear hfs hF
      go_enter Tryz.func23, Tryz.ntmps23
      go_wp2_with fail
      rw [← HW1.out]
      go_wp2_with fail
      refine (HT.out _ C1.out).mono ?_; rintro e w2 ⟨rfl, hc2⟩
      have C2 := Lib.hid (C1.out.thenSame hc2)
      have X2 := Lib.hid (hc2.at (by simp) X1.out)
      have Y2 := Lib.hid (hc2.at (by simp) Y1.out)
      have k2 := blk_cell X2.out
      have lt2 := lt_of_heap Y2.out
      have lt2b := lt_of_heap X2.out
      unfold prO at k2
      clear hc2
      go_wp2_with fail
      refine (HA.out _ (C2.out.alloc _)).mono ?_; rintro e w3 ⟨rfl, hc3⟩
      have C3 := Lib.hid ((C2.out.alloc _).thenSame hc3)
      have Y3 := Lib.hid (hc3.at (by simp) (blk_alloc Y2.out))
      have k3 := blk_cell Y3.out
      have f3 := blk_free Y3.out
      have lt3 := lt_of_heap Y3.out
      clear hc3 k2
      clear k3 f3
      go_wp2_with fail
      refine (HN.out _ C3.out).mono ?_; rintro e w4 ⟨fv, rfl, hr4, hc4⟩
      obtain ⟨fa, fc, rfl⟩ := RowOf.shape hr4
      have C4 := Lib.hid (C3.out.thenSame hc4)
      have Y4 := Lib.hid (hc4.at (by simp) Y3.out)
      have R4 := Lib.hid hr4
      have hs4 := hc4.size
      clear hc4 hr4
      go_wp2_with fail
      obtain ⟨W7, hW7⟩ : ∃ W7, W7 = w4.alloc (.cells #[.string tn, .int .i64 per, .slice none 0 0, .int .i64 g, .int .i64 0, .int .i64 g] 31) := ⟨_, rfl⟩
      have C7 := Lib.hid (show Chg [] w W7 from hW7 ▸ C4.out.alloc _)
      have B7 := Lib.hid (show W7.heap[w4.heap.size]? = some (.cells #[.string tn, .int .i64 per, .slice none 0 0, .int .i64 g, .int .i64 0, .int .i64 g] 31) from hW7 ▸ heap_alloc_new _ _)
      have Y7 := Lib.hid (show W7.heap[w.heap.size + 1]? = some zivO from hW7 ▸ blk_alloc Y4.out)
      have R7 := Lib.hid (show RowOf kc 1 W7 w3.heap.size 9 (.slice fa fs.length fc) fs from hW7 ▸ R4.out.kept ((Chg.refl [] _).alloc _) (by simp))
      have hs7 : W7.heap.size = w4.heap.size + 1 := by rw [hW7, World.size_alloc]
      have HS7 := Lib.hid hs7
      rw [← hW7, ← hs7]
      clear hW7 hs7
      have HLT := Lib.hid (fun x (hx : x ∈ b :: v.ownBlock.toList) => show x < w.heap.size from by
        rcases List.mem_cons.1 hx with rfl | hx
        · exact lt_of_heap HL.out.1
        · exact (RowOf.block HL.out.2 x (by simpa using hx)).2)
      have S4 := Lib.hid (show MkS W7 (W7.alloc (.cells #[] 3)) w4.heap.size tn per g (.slice fa fs.length fc) (.slice none 0 0) (.slice (some ⟨W7.heap.size, 0, none⟩) 0 0) fs [] [] from ⟨blk_alloc B7.out, (R7.out.kept ((Chg.refl [] _).alloc _) (by simp)).mono (Nat.zero_le _), RowOf.nil _ _ _, RowOf.empty (g := W7.heap.size) (Nat.le_refl _) (heap_alloc_new _ _) rfl, by rw [HS7.out]; omega, (Chg.refl _ _).alloc _⟩)
      have LW := Lib.hid (fun w' (hc : Chg [w4.heap.size] W7 w') => show RIs w' b v s from (HL.out.keptN C7.out).kept hc (fun x hx => by have := HLT.out x hx; have := C4.out.size; simp; omega))
      have BYF := Lib.hid (fun f (hf : f ∈ fs) w' (hc : Chg [w4.heap.size] W7 w') => rbyf_any tn (fB f) per (LW.out w' hc) hs (HF.out f hf) (by omega))
      have YW := Lib.hid (fun w' (hc : Chg [w4.heap.size] W7 w') => show w'.heap[w.heap.size + 1]? = some zivO from hc.at (by simp; omega) Y7.out)
      have CW := Lib.hid (fun w' (hc : Chg [w4.heap.size] W7 w') => show Chg [] w w' from C7.out.trans hc (by simp) (fun x hx hlt => by have := C4.out.size; simp at hx; omega))
      go_loopw [15, 16] (fun uvv j wr => ∃ (k : Nat) (lv : Value), j = .int .i64 k ∧ k ≤ fs.length ∧ Hid (errs ((fs.map (mkErr s tn per)).take k) = 0) ∧ Hid (MkS W7 wr w4.heap.size tn per g (.slice fa fs.length fc) lv uvv fs ((fs.map (ln0 s tn per)).take k) ((fs.map (uW s tn per)).take k))) (fun _ j _ => fs.length - (intOf j).toNat)
      case atStart => exact ⟨0, .slice none 0 0, rfl, Nat.zero_le _, Lib.hid rfl, S4⟩
      case round =>
        obtain ⟨k, lv, rfl, hk, HER, HI⟩ := hrel
        clear S4
        have k3 := blk_cell HI.out.bx
        have f3 := blk_free HI.out.bx
        have l3 := lt_of_heap HI.out.bx
        have hlk : ((fs.map (ln0 s tn per)).take k).length = k := by simp; omega
        have huk : ((fs.map (uW s tn per)).take k).length = k := by simp; omega
        obtain ⟨va, vc, hlv⟩ := RowOf.shape HI.out.rl
        obtain ⟨ua, uc, huv⟩ := RowOf.shape HI.out.ru
        rw [hlk] at hlv
        rw [huk] at huv
        subst hlv huv
        have HLK := Lib.hid hlk
        have HUK := Lib.hid huk
        clear hlk huk
        by_cases hkn : k < fs.length
        · obtain ⟨gf, o, rfl, -, hbr, hcc⟩ := (RowOf.sl HI.out.rf kLen).1.elem (Chg.refl [] _) k hkn
          have d0 := hcc 0 (by omega)
          obtain ⟨f, hf1⟩ : ∃ f, fs[k]? = some f := ⟨fs[k], List.getElem?_eq_getElem hkn⟩
          have hfe := (List.getElem?_eq_some_iff.1 hf1).2
          rw [hfe] at d0
          simp only [kc, encStr, List.getElem?_cons_zero, Nat.add_zero, Nat.mul_one] at d0
          have B := BYF.out f (List.mem_of_getElem? hf1) wr HI.out.chg
          have hat : (fs.map (mkErr s tn per))[k]? = some (mkErr s tn per f) := by rw [List.getElem?_map, hf1]; rfl
          have HLT := Lib.hid (show (fs.map (ln0 s tn per)).take k ++ [ln0 s tn per f] = (fs.map (ln0 s tn per)).take (k + 1) from takeK (show (fs.map (ln0 s tn per))[k]? = some (ln0 s tn per f) by rw [List.getElem?_map, hf1]; rfl))
          have HUT := Lib.hid (show (fs.map (uW s tn per)).take k ++ [uW s tn per f] = (fs.map (uW s tn per)).take (k + 1) from takeK (show (fs.map (uW s tn per))[k]? = some (uW s tn per f) by rw [List.getElem?_map, hf1]; rfl))
          obtain ⟨U, hU⟩ : ∃ U, U = byU s tn (fB f) per := ⟨_, rfl⟩
          have hme : mkErr s tn per f = U.2.2 := by rw [hU]; rfl
          have huw : uW s tn per f = U.1.units := by rw [hU]; rfl
          have hl0 : lnC (ln0 s tn per f) = [.string ⟨f.toArray⟩, .int .i64 U.1.inv, .int .i64 U.1.steps, .int .i64 U.1.ticks, .int .i64 U.1.units, .int .i64 0] := by rw [hU]; rfl
          rw [← hU] at B
          rw [hme] at hat
          rw [huw] at HUT
          unfold fB usV at B
          obtain ⟨⟨u1, u2, u3, u4⟩, ⟨z1, z2, z3, z4⟩, be⟩ := U
          simp only at B hat hl0 HUT
          have B := Lib.hid B
          rename_i B0
          have HL0 := Lib.hid hl0
          have hk0 : (0 : Int) ≤ (k : Int) := by omega
          have hk1 : (k : Int) < (fs.length : Int) := by omega
          have hm1 : k + 1 ≤ maxLen := by unfold maxLen; omega
          have hm2 : (k + 1) * 56 ≤ 140737488355328 := by omega
          have hm3 : (k + 1) * 8 ≤ 140737488355328 := by omega
          have HK1 := Lib.hid (show k + 1 ≤ fs.length from hkn)
          clear B0 hcc hf1 hfe hme huw hl0 hU
          by_cases hbe : be = 0
          · subst hbe
            have HNE := Lib.hid (errs_next HER.out hat)
            clear hat
            go_wp2_with fail
            refine B.out.mono ?_; rintro e w5 ⟨rfl, hc5⟩
            have C5 := Lib.hid hc5
            have I5 := Lib.hid (HI.out.next hc5)
            have k5 := blk_cell I5.out.bx
            have f5 := blk_free I5.out.bx
            have l5 := lt_of_heap I5.out.bx
            have l7 := Lib.hid (show W7.heap.size ≤ w5.heap.size from I5.out.chg.size)
            clear hc5 k3 f3
            have IX := Lib.hid (I5.out.next (((Chg.refl [] w5).alloc (.cells #[.int .i64 u1, .int .i64 u2, .int .i64 u3, .int .i64 u4] 68)).alloc (.cells #[.int .i64 z1, .int .i64 z2, .int .i64 z3, .int .i64 z4] 68)))
            have UX := Lib.hid (blk_alloc (o' := .cells #[.int .i64 z1, .int .i64 z2, .int .i64 z3, .int .i64 z4] 68) (heap_alloc_new w5 (.cells #[.int .i64 u1, .int .i64 u2, .int .i64 u3, .int .i64 u4] 68)))
            have DX := Lib.hid (show ((w5.alloc (.cells #[.int .i64 u1, .int .i64 u2, .int .i64 u3, .int .i64 u4] 68)).alloc (.cells #[.int .i64 z1, .int .i64 z2, .int .i64 z3, .int .i64 z4] 68)).cell? ⟨gf, o + k, none⟩ = some (.string ⟨f.toArray⟩) from (World.cell?_of_block (a := ⟨gf, o + k, none⟩) (((C5.out.alloc (.cells #[.int .i64 u1, .int .i64 u2, .int .i64 u3, .int .i64 u4] 68)).alloc (.cells #[.int .i64 z1, .int .i64 z2, .int .i64 z3, .int .i64 z4] 68)).block gf hbr (by simp))).trans d0)
            have hm0 : k ≤ 4000 := by omega
            have hmk : k + 1 ≤ maxLen := hm1
            go_upto_region 16 with fail
            refine rmk_r16 (by kernel_rfl) IX HLK.out DX.out UX.out HL0.out hk0 hk1 hm1 hm2 (Nat.le_trans l7.out (by simp; omega)) _ (fun y75 y76 y77 y78 y79 y80 y81 y82 y83 y84 y85 g6 c6 w6 wz J6 hwz U6 => ?_)
            rw [← hwz] at J6
            rw [HLT.out] at J6
            have q6 := blk_cell U6.out
            have l8 := lt_of_heap U6.out
            have l9 := Lib.hid J6.out.chg.size
            clear hwz k5 f5 l5
            go_wp2_with (at_builtin; refine wpl_appendL rfl _ _ 22 rfl W7.heap.size 3 _ 8 Tryz.underlying22 iInfo rfl (by decide) icI_len icI_one (.slice ua k uc) ((fs.map (uW s tn per)).take k) rfl (J6.out.next ((Chg.refl [] _).alloc (.cells #[.int .i64 u4] 3))).ru _ _ u4 _ _ _ rfl (heap_alloc_new _ _) rfl (by rw [HUK.out]; exact hm1) (by rw [HUK.out]; exact hm3) (Nat.le_trans l9.out ((Chg.refl [] _).alloc _).size) ?_; intro g8 c8 w8 hr8 hg8 ho8 hl8; rw [HUK.out] at hr8; rw [HUK.out]; have hgc := Chg.ofRow (v := .slice ua k uc) hg8; rw [HUT.out] at hr8; have J8 := Lib.hid ((J6.out.next ((Chg.refl [] _).alloc (.cells #[.int .i64 u4] 3))).addU hr8 hgc); clear hr8 hg8 ho8 hl8 hgc)
            exact ⟨⟨k + 1, _, by go_num, HK1.out, HNE, J8⟩, by simp [intOf]; have := HK1.out; omega⟩
          · have hbb : (be != 0) = true := by rw [bne_iff_ne]; exact hbe
            have HEE := Lib.hid (errs_at HER.out hat hbe)
            have HR := Lib.hid (make_err3 (O := O) E1.out E2.out (show errs ((fnsU s tn per).map (mkErr s tn per)) ≠ 0 by rw [← HFS.out, HEE.out]; exact hbe))
            clear hat
            go_wp2_with fail
            refine B.out.mono ?_; rintro e w5 ⟨rfl, hc5⟩
            have I5 := Lib.hid (HI.out.next hc5)
            have Y5 := Lib.hid (blk_alloc (o' := .cells #[.int .i64 z1, .int .i64 z2, .int .i64 z3, .int .i64 z4] 68) (blk_alloc (o' := .cells #[.int .i64 u1, .int .i64 u2, .int .i64 u3, .int .i64 u4] 68) (YW.out _ I5.out.chg)))
            have C5 := Lib.hid (((CW.out _ I5.out.chg).alloc (.cells #[.int .i64 u1, .int .i64 u2, .int .i64 u3, .int .i64 u4] 68)).alloc (.cells #[.int .i64 z1, .int .i64 z2, .int .i64 z3, .int .i64 z4] 68))
            have k5 := blk_cell Y5.out
            have f5 := blk_free Y5.out
            have l5 := lt_of_heap Y5.out
            clear hc5 k3 f3 d0
            go_wp2_with fail
            have r1 := blk_cell (st6_at (.string ⟨#[]⟩) (.int .i64 0) (.slice none 0 0) (.int .i64 0) (.int .i64 0) (.int .i64 0) Y5.out)
            refine bodyPost_ret (v := .tuple #[.agg #[.string ⟨#[]⟩, .int .i64 0, .slice none 0 0, .int .i64 0, .int .i64 0, .int .i64 0], .int .i64 be]) (by simp [results, Tryz.results23, go_sem, r1]) rfl ?_
            refine ⟨.slice none 0 0, ?_, ?_, st6_chg _ _ _ _ _ _ (by omega) C5.out⟩
            · rw [HR.out, ← HFS.out, HEE.out]; rfl
            · rw [HR.out]; exact RowOf.nil _ _ _
        · have hke : k = fs.length := by omega
          have hkn2 : ¬ (k : Int) < (fs.length : Int) := by omega
          have HE3 := Lib.hid (show errs ((fnsU s tn per).map (mkErr s tn per)) = 0 by
            have h1 := HER.out
            rw [hke, List.take_of_length_le (by simp)] at h1
            rw [← HFS.out]; exact h1)
          have S9 := HI.out
          rw [hke, List.take_of_length_le (by simp), List.take_of_length_le (by simp)] at S9
          have hW : mkW s tn per = fs.map (uW s tn per) := by unfold mkW; rw [← HFS.out]; rfl
          have hLs : mkLs s tn per = fs.map (ln0 s tn per) := by unfold mkLs; rw [← HFS.out]
          obtain ⟨W, hWe⟩ : ∃ W, W = fs.map (uW s tn per) := ⟨_, rfl⟩
          obtain ⟨ls, hle⟩ : ∃ ls, ls = fs.map (ln0 s tn per) := ⟨_, rfl⟩
          rw [← hWe] at S9 hW
          rw [← hle] at S9 hLs
          have hWl : W.length = fs.length := by rw [hWe]; simp
          have hll : ls.length = fs.length := by rw [hle]; simp
          have S9 := Lib.hid S9
          rename_i S90
          have HW := Lib.hid hW
          have HLS := Lib.hid hLs
          have SWI := (InIs.ofRow S9.out.ru icI_len).2
          rw [hke, ← hWl]
          have hwm : W.length ≤ maxLen := by rw [hWl]; unfold maxLen; omega
          have HLL := Lib.hid hll
          have HWL := Lib.hid hWl
          have HKE := Lib.hid hke
          clear S90 HI k3 f3 l3 hke hW hLs hWe hle hll hWl HLK HUK HER
          by_cases h4 : (weighZ g W).2 = 0
          · have HR := Lib.hid (make_ok (O := O) E1.out E2.out HE3.out (show (weighZ (mkG s p tn per).1 (mkW s tn per)).2 = 0 by rw [EG.out, HW.out]; exact h4))
            have hO := HOR.out (by rw [HR.out])
            rw [EG.out, HW.out] at hO
            have SH := Lib.hid (rshare_any g ua uc W O wr SWI hwm (fun _ => hO))
            have HZ4 := Lib.hid h4
            clear SWI h4 hO
            clear hwm
            go_wp2_with fail
            refine SH.out.mono ?_; rintro e w5 ⟨hc5, hh⟩
            obtain ⟨sv, rfl, hIB⟩ : ∃ v, e = .returned (.tuple #[v, .int .i64 0]) ∧ RowOf icI 1 w5 wr.heap.size 3 v (shares g W O) := by
              rcases hh with ⟨q, _⟩ | ⟨_, q⟩
              · exact (q HZ4.out).elim
              · exact q
            have I5 := Lib.hid (S9.out.next hc5)
            obtain ⟨sh, hsh⟩ : ∃ sh, sh = shares g W O := ⟨_, rfl⟩
            rw [← hsh] at hIB
            have hsl : sh.length = W.length := by rw [hsh]; exact shares_len
            have HSE := Lib.hid hsh
            have HSL := Lib.hid hsl
            obtain ⟨sa, sc, rfl⟩ := RowOf.shape hIB
            rw [hsl] at hIB ⊢
            have HIB := Lib.hid hIB
            have HRO := HR
            have k5 := blk_cell I5.out.bx
            have l5 := lt_of_heap I5.out.bx
            clear SH HR hc5 hIB hsh hsl hh
            go_wp2_with fail
            clear k5
            go_loopw [21] (fun j wr' => ∃ k : Nat, j = .int .i64 k ∧ k ≤ fs.length ∧ Hid (MkS W7 wr' w4.heap.size tn per g (.slice fa fs.length fc) (.slice va fs.length vc) (.slice ua W.length uc) fs ((setMi ls sh).take k ++ ls.drop k) W) ∧ Hid (RowOf icI 1 wr' 0 3 (.slice sa W.length sc) sh)) (fun j _ => fs.length - (intOf j).toNat)
            case atStart => exact ⟨0, rfl, Nat.zero_le _, Lib.hid (by simpa [HWL.out] using I5.out), Lib.hid (HIB.out.mono (Nat.zero_le _))⟩
            case round =>
              clear hkn hkn2 hk HIB
              obtain ⟨k, rfl, hk, HI, HIB⟩ := hrel
              have k6 := blk_cell HI.out.bx
              have l6 := lt_of_heap HI.out.bx
              by_cases hkn : k < fs.length
              · have hkl : k < ls.length := by rw [HLL.out]; exact hkn
                obtain ⟨x, hx⟩ : ∃ x, ls[k]? = some x := ⟨ls[k], List.getElem?_eq_getElem hkl⟩
                obtain ⟨m, hm⟩ : ∃ m, sh[k]? = some m := ⟨sh[k]'(by rw [HSL.out, HWL.out]; exact hkn), List.getElem?_eq_getElem _⟩
                have hml := setMi_mlen ls sh (k := k) (by omega)
                obtain ⟨gl, rfl⟩ : ∃ gl, va = some ⟨gl, 0, none⟩ := by
                  rcases RowOf.at HI.out.rl lnC_len with ⟨_, h2⟩ | ⟨gl, cp, h1, _⟩
                  · exfalso; have := congrArg List.length h2; rw [hml, List.length_nil] at this; omega
                  · rw [hml, HLL.out] at h1; cases h1; exact ⟨gl, rfl⟩
                obtain ⟨s0, rfl⟩ : ∃ s0, sa = some ⟨s0, 0, none⟩ := by
                  rcases RowOf.at HIB.out icI_len with ⟨_, h2⟩ | ⟨s0, cp, h1, _⟩
                  · exfalso; rw [h2] at hm; simp at hm
                  · rw [HSL.out] at h1; cases h1; exact ⟨s0, rfl⟩
                have hne := row_ne HIB.out HI.out.rl (by decide) s0 rfl
                have cm := (row_cell HIB.out hm).1
                have ls0 := (row_cell HIB.out hm).2.2
                have HP := Lib.hid ((HI.out.next ((Chg.refl [] wr).drew)).putMi (m := m) (setMi_mid (sh := sh) hx))
                rw [setMi_step hx hm] at HP
                have HIB2 := Lib.hid (HIB.out.kept (S := [gl]) (((Chg.refl [gl] wr).drew).setCell ⟨gl, k * 6 + 5, none⟩ (.int .i64 m) (fun _ => by simp)) (fun x hx => by cases hx; simpa [Value.ownBlock] using hne))
                obtain ⟨b1, b2, b3, b4, b5, b6, b7⟩ := RowOf.atS HI.out.rl lnC_len
                have hmid := setMi_mid (sh := sh) hx
                obtain ⟨hmk, hme⟩ := List.getElem?_eq_some_iff.1 hmid
                have c5 := b4 k hmk 5 (by omega)
                rw [hme] at c5
                simp only [lnC, List.getElem?_cons_zero, List.getElem?_cons_succ] at c5 b5 b7
                have hk0 : (0 : Int) ≤ (k : Int) := by omega
                have hk1 : (k : Int) < (fs.length : Int) := by omega
                have hk2 : (k : Int) < (W.length : Int) := by rw [HWL.out]; exact hk1
                have HK1 := Lib.hid (show k + 1 ≤ fs.length from hkn)
                have f5 := b5 (k * 6 + 5)
                clear b1 b2 b3 b4 b5 b6 hmid hmk hme hml hx hm hne hkl
                go_wp2_with fail
                go_still_tail 9, (by kernel_rfl)
                change wpList _ _ _ _ _ wr.drew
                have c5d : wr.drew.cell? ⟨gl, k * 6 + 5, none⟩ = some (.int .i64 x.mi) := c5
                have f5d : wr.drew.frozen? ⟨gl, k * 6 + 5, none⟩ = false := f5
                have b7d : gl < wr.drew.heap.size := b7
                generalize wr.drew = wd at *
                clear c5 f5 b7 k6 l6 cm ls0
                go_wp2_with fail
                exact ⟨⟨k + 1, by go_num, HK1.out, HP, HIB2⟩, by simp [intOf]; have := HK1.out; omega⟩
              · have hke : k = fs.length := by omega
                have hkn2 : ¬ (k : Int) < (fs.length : Int) := by omega
                have hkn3 : ¬ (k : Int) < (W.length : Int) := by rw [HWL.out]; exact hkn2
                have S10 := HI.out
                rw [hke, ← HLL.out, List.take_of_length_le (by rw [setMi_len]; exact Nat.le_refl _), List.drop_length, List.append_nil, HLL.out] at S10
                have S10 := Lib.hid S10
                rename_i S100
                have Y9 := Lib.hid (YW.out _ S10.out.chg)
                have y9 := blk_cell Y9.out
                have g9 := blk_free Y9.out
                have m9 := lt_of_heap Y9.out
                have CF := Lib.hid (CW.out _ S10.out.chg)
                clear S100 HI hke
                go_wp2_with fail
                have r1 := blk_cell (st6_at (.string tn) (.int .i64 per) (.slice va fs.length vc) (.int .i64 g) (.int .i64 0) (.int .i64 g) Y9.out)
                refine bodyPost_ret (v := .tuple #[.agg #[.string tn, .int .i64 per, .slice va fs.length vc, .int .i64 g, .int .i64 0, .int .i64 g], .int .i64 0]) (by simp [results, Tryz.results23, go_sem, r1]) rfl ?_
                refine ⟨.slice va fs.length vc, ?_, ?_, st6_chg _ _ _ _ _ _ (by omega) CF.out⟩
                · rw [HRO.out, EG.out]; rfl
                · rw [HRO.out]
                  show RowOf lnC 6 _ _ _ _ (setMi (mkLs s tn per) (shares (mkG s p tn per).1 (mkW s tn per) O))
                  rw [EG.out, HW.out, HLS.out, ← HSE.out]
                  exact (S10.out.rl.kept (st6_self _ _ _ _ _ _) (fun x hx => by have := (RowOf.block S10.out.rl x hx).1; have := HS7.out; simp; omega)).mono (by have := HS7.out; omega)
          · have SH := Lib.hid (rshare_any g ua uc W O wr SWI hwm (fun q => (h4 q).elim))
            have HR := Lib.hid (make_err4 (O := O) E1.out E2.out HE3.out (show (weighZ (mkG s p tn per).1 (mkW s tn per)).2 ≠ 0 by rw [EG.out, HW.out]; exact h4))
            have HWZ := Lib.hid (show (weighZ (mkG s p tn per).1 (mkW s tn per)).2 = (weighZ g W).2 by rw [EG.out, HW.out])
            have hb4 : ((weighZ g W).2 != 0) = true := by rw [bne_iff_ne]; exact h4
            generalize weighZ g W = WZ at *
            unfold RShPost at SH
            obtain ⟨wz, we⟩ := WZ
            simp only at SH HWZ hb4 h4 HR
            have Y9 := Lib.hid (YW.out _ S9.out.chg)
            have k9 := blk_cell Y9.out
            have f9 := blk_free Y9.out
            have l9 := lt_of_heap Y9.out
            clear SWI
            go_wp2_with fail
            refine SH.out.mono ?_; rintro e w5 ⟨hc5, hh⟩
            obtain rfl : e = .returned (.tuple #[.slice none 0 0, .int .i64 we]) := by
              rcases hh with ⟨_, q⟩ | ⟨q, _⟩
              · exact q
              · exact (h4 q).elim
            have I5 := Lib.hid (S9.out.next hc5)
            have Y9 := Lib.hid (YW.out _ I5.out.chg)
            have k9 := blk_cell Y9.out
            have f9 := blk_free Y9.out
            have l9 := lt_of_heap Y9.out
            clear hc5 hh
            go_wp2_with fail
            have r1 := blk_cell (st6_at (.string ⟨#[]⟩) (.int .i64 0) (.slice none 0 0) (.int .i64 0) (.int .i64 0) (.int .i64 0) Y9.out)
            refine bodyPost_ret (v := .tuple #[.agg #[.string ⟨#[]⟩, .int .i64 0, .slice none 0 0, .int .i64 0, .int .i64 0, .int .i64 0], .int .i64 we]) (by simp [results, Tryz.results23, go_sem, r1]) rfl ?_
            refine ⟨.slice none 0 0, ?_, ?_, st6_chg _ _ _ _ _ _ (by omega) (CW.out _ I5.out.chg)⟩
            · rw [HR.out, HWZ.out]; rfl
            · rw [HR.out]; exact RowOf.nil _ _ _
    · have hb : (ge != 0) = true := by rw [bne_iff_ne]; exact h2
      have HR := Lib.hid (make_err2 (O := O) E1.out (show (mkG s p tn per).2 ≠ 0 by rw [← HGE.out]; exact h2))
      have HGX := Lib.hid (show (mkG s p tn per).2 = ge by rw [← HGE.out])
      go_enter Tryz.func23, Tryz.ntmps23
      go_wp2_with fail
      rw [← HW1.out]
      go_wp2_with fail
      refine (HT.out _ C1.out).mono ?_; rintro e w2 ⟨rfl, hc2⟩
      have C2 := Lib.hid (C1.out.thenSame hc2)
      have X2 := Lib.hid (hc2.at (by simp) X1.out)
      have Y2 := Lib.hid (hc2.at (by simp) Y1.out)
      have k2 := blk_cell X2.out
      have lt2 := lt_of_heap Y2.out
      have lt2b := lt_of_heap X2.out
      unfold prO at k2
      clear hc2
      go_wp2_with fail
      refine (HA.out _ (C2.out.alloc _)).mono ?_; rintro e w3 ⟨rfl, hc3⟩
      have C3 := Lib.hid ((C2.out.alloc _).thenSame hc3)
      have Y3 := Lib.hid (hc3.at (by simp) (blk_alloc Y2.out))
      have k3 := blk_cell Y3.out
      have f3 := blk_free Y3.out
      have lt3 := lt_of_heap Y3.out
      clear hc3 k2
      go_wp2_with fail
      have r1 := blk_cell (st6_at (.string ⟨#[]⟩) (.int .i64 0) (.slice none 0 0) (.int .i64 0) (.int .i64 0) (.int .i64 0) Y3.out)
      refine bodyPost_ret (v := .tuple #[.agg #[.string ⟨#[]⟩, .int .i64 0, .slice none 0 0, .int .i64 0, .int .i64 0, .int .i64 0], .int .i64 ge]) (by simp [results, Tryz.results23, go_sem, r1]) rfl ?_
      refine ⟨.slice none 0 0, ?_, ?_, st6_chg _ _ _ _ _ _ (by omega) C3.out⟩
      · rw [HR.out, HGX.out]; rfl
      · rw [HR.out]; exact RowOf.nil _ _ _
  · have hb : (te != 0) = true := by rw [bne_iff_ne]; exact h1
    have HR := Lib.hid (make_err1 (p := p) (O := O) (show (totU s tn per).2 ≠ 0 by rw [← HTT.out]; exact h1))
    go_enter Tryz.func23, Tryz.ntmps23
    go_wp2_with fail
    rw [← HW1.out]
    go_wp2_with fail
    refine (HT.out _ C1.out).mono ?_; rintro e w2 ⟨rfl, hc2⟩
    have C2 := Lib.hid ((C1.out.thenSame hc2).alloc (.cells #[.int .i64 t1, .int .i64 t2, .int .i64 t3, .int .i64 t4] 68))
    have Y2 := Lib.hid (blk_alloc (o' := .cells #[.int .i64 t1, .int .i64 t2, .int .i64 t3, .int .i64 t4] 68) (hc2.at (by simp) Y1.out))
    have k2 := blk_cell Y2.out
    have f2 := blk_free Y2.out
    have lt2 := lt_of_heap Y2.out
    clear hc2
    go_wp2_with fail
    have r1 := blk_cell (st6_at (.string ⟨#[]⟩) (.int .i64 0) (.slice none 0 0) (.int .i64 0) (.int .i64 0) (.int .i64 0) Y2.out)
    refine bodyPost_ret (v := .tuple #[.agg #[.string ⟨#[]⟩, .int .i64 0, .slice none 0 0, .int .i64 0, .int .i64 0, .int .i64 0], .int .i64 te]) (by simp [results, Tryz.results23, go_sem, r1]) rfl ?_
    refine ⟨.slice none 0 0, ?_, ?_, st6_chg _ _ _ _ _ _ (by omega) C2.out⟩
    · rw [HR.out, ← HTT.out]; rfl
    · rw [HR.out]; exact RowOf.nil _ _ _
end Go.Proofs.YtehjalgogjkdlaaGreatDoor

namespace Go.Proofs.YtehjalgogjkdlaaGreatDoor
set_option linter.unusedVariables false
set_option linter.unusedSimpArgs false
open Go.RowKit
def TabW (w : World) : Prop := Lib.TabIs Tryz.prog w "internal/strconv.uint64pow10" .u64 Lib.pow10Tab
theorem TabW.kept {w w' : World} (h : TabW w) (hc : Chg [] w w') : TabW w' := by
  unfold TabW Lib.TabIs World.var? at h ⊢
  cases hg : Tryz.prog.globalNamed "internal/strconv.uint64pow10" with
  | none => rw [hg] at h; simp at h
  | some g =>
    rw [hg] at h
    simp only [Option.bind_some] at h ⊢
    have hlt : g < w.heap.size := by
      rcases Nat.lt_or_ge g w.heap.size with h' | h'
      · exact h'
      · rw [Array.getElem?_eq_none h'] at h; simp at h
    rw [hc.block g hlt (by simp)]
    exact h
theorem format_any (n : Int) (h0 : -9223372036854775808 ≤ n) (h1 : n ≤ 9223372036854775807) (w : World) (ht : TabW w) : Calls Tryz.prog 41 #[.int .i64 n] w fun e w' => e = .returned (.string ⟨(Lib.itoa n).toArray⟩) ∧ Chg [] w w' := by
  have A1 := Lib.hid (Tryz.strconv_Itoa n h0 h1 w ht)
  go_enter Tryz.func41, Tryz.ntmps41
  go_wp2_with fail
  refine A1.out.mono ?_; rintro e w1 ⟨rfl, k, os, rfl⟩
  have C1 := Lib.hid (chg_regrown (w.drewN k) (w.drewN k).drawn os)
  go_wp2_with fail
  go_ret
  exact ⟨rfl, ((Chg.refl _ _).drewN k).thenSame C1.out⟩
theorem dig_at : ∀ d : Fin 10, (⟨#[48, 49, 50, 51, 52, 53, 54, 55, 56, 57]⟩ : ByteArray).extract d.val (d.val + 1) = ⟨#[UInt8.ofNat (48 + d.val)]⟩ := by decide +kernel
theorem one_cons (c : UInt8) (s : List UInt8) : (⟨#[c]⟩ : ByteArray) ++ ⟨s.toArray⟩ = ⟨(c :: s).toArray⟩ := by
  apply ByteArray.ext
  simp
def emptyN : Value → Nat
  | .string b => if b.data.toList.length = 0 then 1 else 0
  | _ => 0
theorem emptyN_cons (c : UInt8) (s : List UInt8) : emptyN (.string ⟨(c :: s).toArray⟩) = 0 := by simp [emptyN]
theorem emptyN_nil : emptyN (.string ⟨#[]⟩) = 1 := rfl
/-- What the reference's loop keeps: the number that is left, the digits so far. -/
def FmI (n m : Nat) (s : List UInt8) : Prop := (s = [] ∧ m = n) ∨ (s ≠ [] ∧ m = 0 ∧ s = Lib.decDigits n) ∨ (s ≠ [] ∧ m ≠ 0 ∧ Lib.decDigits m ++ s = Lib.decDigits n)
theorem FmI.step {n m : Nat} {s : List UInt8} (h : FmI n m s) (hg : s = [] ∨ m ≠ 0) : FmI n (m / 10) (UInt8.ofNat (48 + m % 10) :: s) := by
  have key : Lib.decDigits m ++ s = Lib.decDigits n := by
    rcases h with ⟨h1, h2⟩ | ⟨h1, h2, h3⟩ | ⟨h1, h2, h3⟩
    · rw [h1, h2, List.append_nil]
    · rcases hg with q | q
      · exact (h1 q).elim
      · exact (q h2).elim
    · exact h3
  by_cases hm : m < 10
  · refine .inr (.inl ⟨by simp, by omega, ?_⟩)
    rw [Lib.decDigits_one hm] at key
    rw [← key, Nat.mod_eq_of_lt hm]; rfl
  · refine .inr (.inr ⟨by simp, by omega, ?_⟩)
    rw [Lib.decDigits, dif_neg hm] at key
    rw [← key]; simp
set_option maxHeartbeats 2000000 in
set_option maxRecDepth 100000 in
theorem rfmt_any (n : Nat) (hn : n ≤ 1000000000000000000) (w : World) : Calls Tryz.prog 42 #[.int .i64 n] w fun e w' => e = .returned (.string ⟨(Lib.itoa n).toArray⟩) ∧ w = w' := by
  go_enter Tryz.func42, Tryz.ntmps42
  go_wp2_with fail
  go_loopw [4, 5] (fun sv mv wr => ∃ (m : Nat) (s : List UInt8), sv = .string ⟨s.toArray⟩ ∧ mv = .int .i64 m ∧ m ≤ n ∧ Hid (FmI n m s) ∧ wr = w) (fun sv mv _ => 2 * (intOf mv).toNat + emptyN sv)
  case atStart => exact ⟨n, [], rfl, rfl, Nat.le_refl _, Lib.hid (.inl ⟨rfl, rfl⟩), rfl⟩
  case round =>
    obtain ⟨m, s, rfl, rfl, hm, HI, rfl⟩ := hrel
    have hd : m % 10 < 10 := Nat.mod_lt _ (by decide)
    have hx : (⟨#[48, 49, 50, 51, 52, 53, 54, 55, 56, 57]⟩ : ByteArray).extract (m % 10) (m % 10 + 1) = ⟨#[UInt8.ofNat (48 + m % 10)]⟩ := dig_at ⟨m % 10, hd⟩
    have hsl : s.length ≤ 20 := by
      have h0 := Lib.nDigits_le20 n (by omega)
      rw [← Lib.decDigits_length] at h0
      rcases HI.out with ⟨h1, h2⟩ | ⟨h1, h2, h3⟩ | ⟨h1, h2, h3⟩
      · rw [h1]; simp
      · rw [h3]; exact h0
      · rw [← h3, List.length_append] at h0; omega
    have HN := Lib.hid (fun q => HI.out.step q)
    obtain ⟨c, hc⟩ : ∃ c, c = UInt8.ofNat (48 + m % 10) := ⟨_, rfl⟩
    rw [← hc] at hx HN
    have ONE := Lib.hid (one_cons c s)
    have HMD := Lib.hid (show ((m : Int) / 10) = ((m / 10 : Nat) : Int) by omega)
    clear hc
    by_cases hz : m = 0
    · by_cases hs : s = []
      · subst hs hz
        have HN := Lib.hid (HN.out (.inl rfl))
        go_wp2_with fail
        exact ⟨⟨0, [c], by rw [show (⟨#[c]⟩ : ByteArray) ++ ⟨#[]⟩ = ⟨[c].toArray⟩ from ONE.out], rfl, by omega, HN, trivial⟩, by rw [show (⟨#[c]⟩ : ByteArray) ++ ⟨#[]⟩ = ⟨[c].toArray⟩ from ONE.out, emptyN_cons, emptyN_nil]; decide⟩
      · have hz1 : ((m : Int) != 0) = false := by rw [bne_eq_false_iff_eq]; omega
        have HS : Hid (s = Lib.itoa n) := by
          rw [Lib.itoa_nonneg]
          rcases HI.out with ⟨h1, h2⟩ | ⟨h1, h2, h3⟩ | ⟨h1, h2, h3⟩
          · exact (hs h1).elim
          · exact Lib.hid h3
          · exact (h2 hz).elim
        have hn0 : ¬ (n : Int) < 0 := by omega
        have hse : s.isEmpty = false := by simpa using hs
        clear hz hs
        go_wp2_with fail
        go_ret
        exact ⟨by rw [HS.out]; rfl, rfl⟩
    · have HN := Lib.hid (HN.out (.inr hz))
      have hz1 : ((m : Int) != 0) = true := by rw [bne_iff_ne]; omega
      have HM0 := Lib.hid (show 0 < m by omega)
      clear hz
      go_wp2_with fail
      exact ⟨⟨m / 10, c :: s, by rw [ONE.out], by rw [HMD.out], by omega, HN, trivial⟩, by rw [ONE.out, emptyN_cons, HMD.out]; simp [intOf]; have := HM0.out; omega⟩
end Go.Proofs.YtehjalgogjkdlaaGreatDoor

namespace Go.Proofs.YtehjalgogjkdlaaGreatDoor
set_option linter.unusedVariables false
set_option linter.unusedSimpArgs false
open Go.RowKit
/-- Words with spaces between them. -/
def joinW : List (List UInt8) → List UInt8
  | [] => []
  | x :: l => x ++ l.flatMap (fun y => 32 :: y)
theorem joinW_take {l : List (List UInt8)} {k : Nat} {x : List UInt8} (h : l[k]? = some x) : joinW (l.take (k + 1)) = if k = 0 then x else joinW (l.take k) ++ [32] ++ x := by
  obtain ⟨hk, e⟩ := List.getElem?_eq_some_iff.1 h
  cases l with
  | nil => simp at hk
  | cons y l =>
    cases k with
    | zero => simp [joinW] at e ⊢; exact e
    | succ k =>
      simp only [List.take_succ_cons, joinW, Nat.succ_ne_zero, if_false]
      simp only [List.getElem_cons_succ] at e
      rw [List.take_succ_eq_append_getElem (by simpa using hk), e]
      simp
theorem joinW_len {l : List (List UInt8)} (k : Nat) : (joinW (l.take k)).length ≤ (joinW l).length := by
  cases l with
  | nil => simp
  | cons y l =>
    cases k with
    | zero => simp [joinW]
    | succ k =>
      simp only [List.take_succ_cons, joinW, List.length_append]
      have : ((l.take k).flatMap fun y => 32 :: y).length ≤ (l.flatMap fun y => (32 : UInt8) :: y).length := by
        conv => rhs; rw [← List.take_append_drop k l, List.flatMap_append, List.length_append]
        omega
      omega
/-- A box with a list of texts of the call's own. -/
def OutIs (w : World) (ob base : Nat) (v : Value) (L : List (List UInt8)) : Prop := base ≤ ob ∧ w.heap[ob]? = some (.cells #[v] 36) ∧ RowOf kc 1 w base 9 v L
theorem OutIs.kept {w w' : World} {ob base : Nat} {v : Value} {L : List (List UInt8)} (h : OutIs w ob base v L) (hc : Chg [] w w') : OutIs w' ob base v L := by
  obtain ⟨h0, h1, h2⟩ := h
  exact ⟨h0, hc.at (by simp) h1, h2.kept hc (by simp)⟩
theorem OutIs.base {w : World} {ob base : Nat} {v : Value} {L : List (List UInt8)} (h : OutIs w ob base v L) : ∀ x ∈ ob :: v.ownBlock.toList, base ≤ x ∧ x < w.heap.size := by
  intro x hx
  rcases List.mem_cons.1 hx with rfl | hx
  · exact ⟨h.1, lt_of_heap h.2.1⟩
  · exact RowOf.block h.2.2 x (by simpa using hx)
theorem OutIs.low {w : World} {ob base x : Nat} {v : Value} {L : List (List UInt8)} (h : OutIs w ob base v L) (hx : x < base) : x ∉ ob :: v.ownBlock.toList := fun q => by have := (h.base x q).1; omega
theorem OutIs.high {w : World} {ob base x : Nat} {v : Value} {L : List (List UInt8)} (h : OutIs w ob base v L) (hx : w.heap.size ≤ x) : x ∉ ob :: v.ownBlock.toList := fun q => by have := (h.base x q).2; omega
theorem str_cat (a b : List UInt8) : (⟨a.toArray⟩ : ByteArray) ++ ⟨b.toArray⟩ = ⟨(a ++ b).toArray⟩ := by
  apply ByteArray.ext
  simp
set_option maxHeartbeats 4000000 in
set_option maxRecDepth 100000 in
theorem addw_any (a : Option Addr) (c ob base : Nat) (v : Value) (ws L : List (List UInt8)) (w : World) (h : SlIs kc 1 w a ws.length ws) (ho : OutIs w ob base v L) (hj : (joinW ws).length ≤ 1000) (hl : ws.length ≤ 100) (hL : (L.length + 1) * 16 ≤ 140737488355328) (hb : base ≤ w.heap.size) :
    Calls Tryz.prog 40 #[.slice a ws.length c, .pointer (some ⟨ob, 0, none⟩)] w fun e w' => e = .returned (.tuple #[]) ∧ (∃ v', OutIs w' ob base v' (L ++ [joinW ws])) ∧ Chg (ob :: v.ownBlock.toList) w w' := by
  have H := Lib.hid h
  obtain ⟨hbo, hv, hr⟩ := ho
  have HV := Lib.hid hv
  have HR := Lib.hid hr
  have hne : v.ownBlock ≠ some ob := fun e => by
    obtain ⟨cur, hh⟩ := row_block hr e
    rw [hv] at hh; simp at hh
  obtain ⟨va, vc, rfl⟩ := RowOf.shape hr
  have k1 := blk_cell hv
  have f1 := blk_free hv
  have l1 := lt_of_heap hv
  have HNE := Lib.hid hne
  have HJ := Lib.hid hj
  have hml : L.length + 1 ≤ maxLen := by unfold maxLen; omega
  clear h hv hr hne hj
  go_enter Tryz.func40, Tryz.ntmps40
  go_wp2_with fail
  go_loopw [3, 8] (fun sv i wr => ∃ k : Nat, sv = .string ⟨(joinW (ws.take k)).toArray⟩ ∧ i = .int .i64 k ∧ k ≤ ws.length ∧ wr = w) (fun _ i _ => ws.length - (intOf i).toNat)
  case atStart => exact ⟨0, rfl, rfl, Nat.zero_le _, rfl⟩
  case round =>
    obtain ⟨k, rfl, rfl, hk, rfl⟩ := hrel
    by_cases hkn : k < ws.length
    · obtain ⟨g, o, rfl, -, hbr, hcc⟩ := H.out.elem (Chg.refl [] wr) k hkn
      have d0 := hcc 0 (by omega)
      obtain ⟨x, hx1⟩ : ∃ x, ws[k]? = some x := ⟨ws[k], List.getElem?_eq_getElem hkn⟩
      have hxe := (List.getElem?_eq_some_iff.1 hx1).2
      rw [hxe] at d0
      simp only [kc, encStr, List.getElem?_cons_zero, Nat.add_zero, Nat.mul_one] at d0
      have HJT := Lib.hid (joinW_take hx1)
      have hl1 := Nat.le_trans (joinW_len (l := ws) (k + 1)) HJ.out
      have hl2 := Nat.le_trans (joinW_len (l := ws) k) HJ.out
      rw [HJT.out] at hl1
      have hk0 : (0 : Int) ≤ (k : Int) := by omega
      have hk1 : (k : Int) < (ws.length : Int) := by omega
      by_cases hz : k = 0
      · have hz1 : ¬ (0 : Int) < (k : Int) := by omega
        have hz2 : ¬ 0 < k := by omega
        rw [if_pos hz] at HJT hl1
        have HJ0 := Lib.hid (show joinW (ws.take k) = [] by rw [hz]; rfl)
        have CT := Lib.hid (str_cat (joinW (ws.take k)) x)
        generalize joinW (ws.take k) = J at *
        clear hcc hx1 hxe hz
        go_wp2_with fail
        exact ⟨⟨k + 1, by rw [HJT.out, CT.out, HJ0.out]; rfl, by go_num, by omega, trivial⟩, by simp [intOf]; omega⟩
      · have hz1 : (0 : Int) < (k : Int) := by omega
        have hz2 : 0 < k := by omega
        rw [if_neg hz] at HJT hl1
        have CT1 := Lib.hid (str_cat (joinW (ws.take k)) [32])
        have CT2 := Lib.hid (str_cat (joinW (ws.take k) ++ [32]) x)
        generalize joinW (ws.take k) = J at *
        simp only [List.length_append, List.length_cons, List.length_nil] at hl1
        clear hcc hx1 hxe hz
        go_wp2_with fail
        exact ⟨⟨k + 1, by rw [HJT.out]; exact congrArg Value.string ((congrArg (fun q => q ++ (⟨x.toArray⟩ : ByteArray)) CT1.out).trans CT2.out), by go_num, by omega, trivial⟩, by simp [intOf]; omega⟩
    · have hke : k = ws.length := by omega
      have hkn2 : ¬ (k : Int) < (ws.length : Int) := by omega
      rw [hke, List.take_length]
      have HKE := Lib.hid hke
      clear hke H
      obtain ⟨J, hJ⟩ : ∃ J, J = joinW ws := ⟨_, rfl⟩
      rw [← hJ] at HJ ⊢
      have HJE := Lib.hid hJ
      clear hJ
      go_wp2_with (at_builtin; refine wpl_appendL rfl _ _ 36 rfl base 9 _ 16 Tryz.underlying36 stInfo rfl (by decide) kLen kOne (.slice va L.length vc) L rfl (HR.out.kept ((Chg.refl [] wr).alloc _) (by simp)) wr.heap.size _ J _ _ _ rfl (heap_alloc_new wr _) rfl hml hL (Nat.le_trans hb (by simp)) ?_; intro g4 c4 w4 hr4 hg4 ho4 hl4; have HR4 := Lib.hid hr4; have HC4 := Lib.hid (Chg.ofRow (v := .slice va L.length vc) hg4); have HV4 := Lib.hid (HC4.out.at (fun q => HNE.out (by simpa using q)) (blk_alloc HV.out)); have k4 := blk_cell HV4.out; have f4 := blk_free HV4.out; have l4 := lt_of_heap HV4.out; clear hr4 hg4 ho4 hl4 k1 f1 l1)
      go_end0
      have hb4 := RowOf.block HR4.out
      have hg4 := (hb4 g4 rfl).1
      have ng : g4 ≠ ob := fun e => by
        obtain ⟨cur, hh⟩ := row_block HR4.out (g := g4) rfl
        rw [e, HV4.out] at hh; simp at hh
      refine ⟨rfl, ⟨_, hbo, blk_set HV4.out 0 _, ?_⟩, ?_⟩
      · rw [← HJE.out]
        exact HR4.out.kept (S := [ob]) ((Chg.refl _ _).setCell _ _ (by simp)) (fun g hg => by cases hg; simpa using ng)
      · exact (((Chg.refl [] wr).alloc (.cells #[.string ⟨J.toArray⟩] 9)).trans HC4.out (T := ob :: (Value.slice va L.length vc).ownBlock.toList) (by simp) (fun x hx _ => List.mem_cons_of_mem _ hx)).setCell _ _ (fun _ => by simp)
end Go.Proofs.YtehjalgogjkdlaaGreatDoor
