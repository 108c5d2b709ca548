/- Chapter 53: contract of the reference: a tier. No condition. Chapter 53: contract of the reference: Check of a price. No condition. Chapter 53: contract of the reference: Billable. No condition. Over any program: the operations of a function's region, by its number. No condition. -/
import Derived.Test.YtehjalgogjkdlaaGreatDoorZ13
import Derived.Test.YtehjalgogjkdlaaGreatDoorZ03
import Derived.Test.YtehjalgogjkdlaaGreatDoorZ01
namespace Go.Proofs.YtehjalgogjkdlaaGreatDoor
set_option linter.unusedVariables false
set_option linter.unusedSimpArgs false
open Go.RowKit
set_option maxHeartbeats 4000000 in
set_option maxRecDepth 100000 in
theorem rtier_any (l : List Tr) (a : Option Addr) (cap k : Nat) (w : World) (h : SlIs trC 2 w a l.length l) (hm : l.length ≤ maxLen) (hk : k < l.length) : Calls Tryz.prog 124 #[.slice a l.length cap, .int .i64 k] w fun e w' => e = .returned (.int .i64 (tierE l k)) ∧ Chg [] w w' := by
  have HT := Lib.hid (tierE_eq l k)
  obtain ⟨g, o, rfl, -, hbr, hcc⟩ := h.elem (Chg.refl [] w) k hk
  have d0 := hcc 0 (by omega)
  have d1 := hcc 1 (by omega)
  obtain ⟨x, hx1⟩ : ∃ x, l[k]? = some x := ⟨l[k], List.getElem?_eq_getElem hk⟩
  have hxe := (List.getElem?_eq_some_iff.1 hx1).2
  rw [hxe] at d0 d1
  have hup : upAt l k = x.up := by unfold upAt; rw [hx1]; rfl
  have hmi : miAt l k = x.mi := by unfold miAt; rw [hx1]; rfl
  rw [hup, hmi] at HT
  obtain ⟨up, mi⟩ := x
  simp only [trC, List.getElem?_cons_zero, List.getElem?_cons_succ, Nat.add_zero] at d0 d1
  simp only at HT
  have HP := Lib.hid (show 0 < k → w.cell? { block := g, off := o + (k - 1) * 2 } = some (.int .i64 (upAt l (k - 1))) from fun q => by
    obtain ⟨g2, o2, hq, -, -, hc2⟩ := h.elem (Chg.refl [] w) (k - 1) (by omega)
    cases hq
    have z := hc2 0 (by omega)
    have hy : l[k - 1]? = some (l[k - 1]'(by omega)) := List.getElem?_eq_getElem (by omega)
    simp only [trC, List.getElem?_cons_zero, Nat.add_zero] at z
    rw [z]; unfold upAt; rw [hy]; rfl)
  generalize tierE l k = E at *
  generalize hpu : upAt l (k - 1) = pu at *
  unfold maxLen at hm
  have M1 := Lib.hid (fun w' => rpamt_any mi w')
  have M2 := Lib.hid (fun w' => rv01_any up w')
  have hk0 : (0 : Int) ≤ (k : Int) := by omega
  have hk1 : (k : Int) < (l.length : Int) := by omega
  have zl : IntKind.i64.wrap ((l.length : Int) - 1) = (l.length : Int) - 1 := by rw [IntKind.wrap_i64]; omega
  clear hxe hup hmi hx1 hcc
  cases hm1 : btw mi 0 1000000000
  · rw [hm1] at HT M1
    rw [if_pos rfl] at HT
    rw [HT.out]
    clear hm1 HP HT
    go_enter Tryz.func124, Tryz.ntmps124
    go_wp2_with (first | (go_at_call 123; (with_reducible refine (M1.out _).mono ?_); rintro e w1 ⟨rfl, rfl⟩) | (go_at_call 62; (with_reducible refine (M2.out _).mono ?_); rintro e w1 ⟨rfl, rfl⟩))
    go_ret
    exact ⟨rfl, Chg.refl _ _⟩
  rw [hm1] at HT M1
  rw [if_neg (by simp)] at HT
  clear hm1
  by_cases hl : k + 1 = l.length
  · rw [if_pos hl] at HT
    have e1 : ((k : Int) == (l.length : Int) - 1) = true := by rw [beq_iff_eq]; omega
    by_cases hu : up = 0
    · have e3 : (up != 0) = false := by rw [hu]; rfl
      rw [HT.out, if_neg (by simp [hu])]
      clear HP HT hu
      go_enter Tryz.func124, Tryz.ntmps124
      go_wp2_with (first | (go_at_call 123; (with_reducible refine (M1.out _).mono ?_); rintro e w1 ⟨rfl, rfl⟩) | (go_at_call 62; (with_reducible refine (M2.out _).mono ?_); rintro e w1 ⟨rfl, rfl⟩))
      go_ret
      exact ⟨rfl, Chg.refl _ _⟩
    · have e3 : (up != 0) = true := by rw [bne_iff_ne]; exact hu
      rw [HT.out, if_pos hu]
      clear HP HT hu
      go_enter Tryz.func124, Tryz.ntmps124
      go_wp2_with (first | (go_at_call 123; (with_reducible refine (M1.out _).mono ?_); rintro e w1 ⟨rfl, rfl⟩) | (go_at_call 62; (with_reducible refine (M2.out _).mono ?_); rintro e w1 ⟨rfl, rfl⟩))
      go_ret
      exact ⟨rfl, Chg.refl _ _⟩
  · rw [if_neg hl] at HT
    have e1 : ((k : Int) == (l.length : Int) - 1) = false := by rw [beq_eq_false_iff_ne]; omega
    by_cases h1 : up < 1
    · rw [show btw up 1 1000000000000 = false by rw [← Bool.not_eq_true, btw_iff]; omega, if_pos rfl] at HT
      rw [HT.out]
      clear HP HT hl
      go_enter Tryz.func124, Tryz.ntmps124
      go_wp2_with (first | (go_at_call 123; (with_reducible refine (M1.out _).mono ?_); rintro e w1 ⟨rfl, rfl⟩) | (go_at_call 62; (with_reducible refine (M2.out _).mono ?_); rintro e w1 ⟨rfl, rfl⟩))
      go_ret
      exact ⟨rfl, Chg.refl _ _⟩
    · have hvb : vldB up = btw up 1 1000000000000 := by
        rw [Bool.eq_iff_iff, btw_iff]; simp [vldB]; omega
      rw [← hvb] at HT
      cases hv : vldB up
      · rw [hv] at HT M2
        rw [if_pos rfl] at HT
        rw [HT.out]
        clear HP HT hl hv hvb
        go_enter Tryz.func124, Tryz.ntmps124
        go_wp2_with (first | (go_at_call 123; (with_reducible refine (M1.out _).mono ?_); rintro e w1 ⟨rfl, rfl⟩) | (go_at_call 62; (with_reducible refine (M2.out _).mono ?_); rintro e w1 ⟨rfl, rfl⟩))
        go_ret
        exact ⟨rfl, Chg.refl _ _⟩
      rw [hv] at HT M2
      rw [if_neg (by simp)] at HT
      clear hv hvb hl
      by_cases hk2 : 0 < k
      · have c2 := HP.out hk2
        obtain ⟨j, hj⟩ : ∃ j, j = k - 1 := ⟨_, rfl⟩
        rw [← hj] at c2
        have zj : IntKind.i64.wrap ((k : Int) - 1) = (j : Int) := by rw [IntKind.wrap_i64]; omega
        have hj0 : (0 : Int) ≤ (j : Int) := by omega
        have hj1 : (j : Int) < (l.length : Int) := by omega
        have hgt : (0 : Int) < (k : Int) := by omega
        clear hj hpu
        by_cases ho : up ≤ pu
        · rw [HT.out, if_pos ⟨hk2, ho⟩]
          clear HP HT
          go_enter Tryz.func124, Tryz.ntmps124
          go_wp2_with (first | (go_at_call 123; (with_reducible refine (M1.out _).mono ?_); rintro e w1 ⟨rfl, rfl⟩) | (go_at_call 62; (with_reducible refine (M2.out _).mono ?_); rintro e w1 ⟨rfl, rfl⟩))
          go_quiet (fail)
          go_wp2_with fail
          go_ret
          exact ⟨rfl, (Chg.refl [] w).drewN nq⟩
        · rw [HT.out, if_neg (by omega)]
          clear HP HT
          go_enter Tryz.func124, Tryz.ntmps124
          go_wp2_with (first | (go_at_call 123; (with_reducible refine (M1.out _).mono ?_); rintro e w1 ⟨rfl, rfl⟩) | (go_at_call 62; (with_reducible refine (M2.out _).mono ?_); rintro e w1 ⟨rfl, rfl⟩))
          go_quiet (fail)
          go_wp2_with fail
          go_ret
          exact ⟨rfl, (Chg.refl [] w).drewN nq⟩
      · rw [HT.out, if_neg (by omega)]
        have hk3 : ¬ (0 : Int) < (k : Int) := by omega
        clear HP HT
        go_enter Tryz.func124, Tryz.ntmps124
        go_wp2_with (first | (go_at_call 123; (with_reducible refine (M1.out _).mono ?_); rintro e w1 ⟨rfl, rfl⟩) | (go_at_call 62; (with_reducible refine (M2.out _).mono ?_); rintro e w1 ⟨rfl, rfl⟩))
        go_quiet (fail)
        go_wp2_with fail
        go_ret
        exact ⟨rfl, (Chg.refl [] w).drewN nq⟩
end Go.Proofs.YtehjalgogjkdlaaGreatDoor

namespace Go.Proofs.YtehjalgogjkdlaaGreatDoor
set_option linter.unusedVariables false
set_option linter.unusedSimpArgs false
open Go.RowKit
set_option maxHeartbeats 4000000 in
set_option maxRecDepth 100000 in
theorem rpcheck_any (p : Prc) (a : Option Addr) (cap : Nat) (w : World) (h : SlIs trC 2 w a p.ts.length p.ts) (hm : p.ts.length ≤ maxLen) : Calls Tryz.prog 105 #[prV p a cap] w fun e w' => e = .returned (.int .i64 (priceZ p)) ∧ Chg [] w w' := by
  obtain ⟨Z, hZ⟩ : ∃ Z, Z = priceZ p := ⟨_, rfl⟩
  rw [← hZ]
  unfold priceZ at hZ
  have HZ := Lib.hid hZ
  obtain ⟨fi, fu, iv, ts⟩ := p
  simp only at HZ h hm
  have hx := Lib.hid (heap_alloc_new w (prO ⟨fi, fu, iv, ts⟩ a cap))
  have hC0 := Lib.hid (show Chg [] w (w.alloc (prO ⟨fi, fu, iv, ts⟩ a cap)) from (Chg.refl _ _).alloc _)
  obtain ⟨W1, hW1⟩ : ∃ W1, W1 = w.alloc (prO ⟨fi, fu, iv, ts⟩ a cap) := ⟨_, rfl⟩
  rw [← hW1] at hx hC0
  have HW1 := Lib.hid hW1
  have k1 := blk_cell hx.out
  unfold prO at HW1 hx k1
  have H := Lib.hid (h.kept hC0.out)
  have lb := lt_of_heap hx.out
  have HMx := Lib.hid hm
  unfold maxLen at hm
  clear h hZ hW1
  unfold prV
  have hguard : (btw fi 0 1000000000 = false ∨ btw fu 0 1000000000 = false ∨ btw iv 0 1000000000 = false) ∨ (btw fi 0 1000000000 = true ∧ btw fu 0 1000000000 = true ∧ btw iv 0 1000000000 = true) := by
    cases btw fi 0 1000000000 <;> cases btw fu 0 1000000000 <;> cases btw iv 0 1000000000 <;> simp
  have P1 := Lib.hid (fun w' => rpamt_any fi w')
  have P2 := Lib.hid (fun w' => rpamt_any fu w')
  have P3 := Lib.hid (fun w' => rpamt_any iv w')
  rcases hguard with hg | ⟨g1, g2, g3⟩
  · have HE := Lib.hid (HZ.out.trans (if_pos hg))
    rw [HE.out]
    generalize btw fi 0 1000000000 = b1 at *
    generalize btw fu 0 1000000000 = b2 at *
    generalize btw iv 0 1000000000 = b3 at *
    cases b1 <;> cases b2 <;> cases b3
    all_goals first
      | (exfalso; simp at hg; done)
      | (clear hg HZ
         go_enter Tryz.func105, Tryz.ntmps105
         go_wp2_with fail
         rw [← HW1.out]
         go_wp2_with (first | (go_at_call 123; (with_reducible refine (P1.out _).mono ?_); rintro e w1 ⟨rfl, rfl⟩) | (go_at_call 123; (with_reducible refine (P2.out _).mono ?_); rintro e w1 ⟨rfl, rfl⟩) | (go_at_call 123; (with_reducible refine (P3.out _).mono ?_); rintro e w1 ⟨rfl, rfl⟩))
         go_ret
         exact ⟨rfl, hC0.out⟩)
  · have HZ1 := Lib.hid (HZ.out.trans (if_neg (by rw [g1, g2, g3]; simp)))
    rw [g1] at P1
    rw [g2] at P2
    rw [g3] at P3
    clear HZ g1 g2 g3
    by_cases hn : ts.length < 1 ∨ 8 < ts.length
    · have HE := Lib.hid (HZ1.out.trans (if_pos hn))
      rw [HE.out]
      rcases Nat.lt_or_ge ts.length 1 with hn1 | hn1
      · have q1 : (ts.length : Int) < 1 := by omega
        clear hn HZ1
        go_enter Tryz.func105, Tryz.ntmps105
        go_wp2_with fail
        rw [← HW1.out]
        go_wp2_with (first | (go_at_call 123; (with_reducible refine (P1.out _).mono ?_); rintro e w1 ⟨rfl, rfl⟩) | (go_at_call 123; (with_reducible refine (P2.out _).mono ?_); rintro e w1 ⟨rfl, rfl⟩) | (go_at_call 123; (with_reducible refine (P3.out _).mono ?_); rintro e w1 ⟨rfl, rfl⟩))
        go_ret
        exact ⟨rfl, hC0.out⟩
      · have q1 : ¬ (ts.length : Int) < 1 := by omega
        have q2 : (8 : Int) < (ts.length : Int) := by omega
        clear hn HZ1
        go_enter Tryz.func105, Tryz.ntmps105
        go_wp2_with fail
        rw [← HW1.out]
        go_wp2_with (first | (go_at_call 123; (with_reducible refine (P1.out _).mono ?_); rintro e w1 ⟨rfl, rfl⟩) | (go_at_call 123; (with_reducible refine (P2.out _).mono ?_); rintro e w1 ⟨rfl, rfl⟩) | (go_at_call 123; (with_reducible refine (P3.out _).mono ?_); rintro e w1 ⟨rfl, rfl⟩))
        go_ret
        exact ⟨rfl, hC0.out⟩
    · have HE := Lib.hid (show Z = errs (tierL ts) from HZ1.out.trans (if_neg hn))
      have q1 : ¬ (ts.length : Int) < 1 := by omega
      have q2 : ¬ (8 : Int) < (ts.length : Int) := by omega
      clear hn HZ1
      go_enter Tryz.func105, Tryz.ntmps105
      go_wp2_with fail
      rw [← HW1.out]
      go_wp2_with (first | (go_at_call 123; (with_reducible refine (P1.out _).mono ?_); rintro e w1 ⟨rfl, rfl⟩) | (go_at_call 123; (with_reducible refine (P2.out _).mono ?_); rintro e w1 ⟨rfl, rfl⟩) | (go_at_call 123; (with_reducible refine (P3.out _).mono ?_); rintro e w1 ⟨rfl, rfl⟩))
      go_loopw [34] (fun i wr => ∃ k : Nat, i = .int .i64 k ∧ k ≤ ts.length ∧ Hid (errs ((tierL ts).take k) = 0) ∧ Hid (Chg [] W1 wr)) (fun i _ => ts.length - (intOf i).toNat)
      case atStart => exact ⟨0, rfl, Nat.zero_le _, Lib.hid rfl, Lib.hid (Chg.refl _ _)⟩
      case round =>
        obtain ⟨k, rfl, hk, HF, HC⟩ := hrel
        have kk := blk_cell (HC.out.at (by simp) hx.out)
        by_cases hkn : k < ts.length
        · have HAt := Lib.hid (tierL_at hkn)
          have HT := Lib.hid (rtier_any ts a cap k wr (H.out.kept HC.out) HMx.out hkn)
          have HErr := Lib.hid (fun (hne : tierE ts k ≠ 0) => errs_at HF.out HAt.out hne)
          have HNx := Lib.hid (fun (he : tierE ts k = 0) => errs_next HF.out (HAt.out.trans (by rw [he])))
          generalize tierE ts k = E at *
          have hk1 : (k : Int) < (ts.length : Int) := by omega
          by_cases hE : E = 0
          · subst hE
            have HN := Lib.hid (HNx.out rfl)
            go_wp2_with fail
            refine HT.out.mono ?_
            rintro e w1 ⟨rfl, hc⟩
            have HC1 := Lib.hid (HC.out.thenSame hc)
            clear hc
            go_wp2_with fail
            exact ⟨⟨k + 1, by go_num, by omega, HN, HC1⟩, by simp [intOf]; omega⟩
          · have e3 : (E != 0) = true := by rw [bne_iff_ne]; exact hE
            have HE2 := Lib.hid (show Z = E by rw [HE.out]; exact HErr.out hE)
            go_wp2_with fail
            refine HT.out.mono ?_
            rintro e w1 ⟨rfl, hc⟩
            have HC1 := Lib.hid (HC.out.thenSame hc)
            clear hc
            go_wp2_with fail
            go_ret
            exact ⟨by rw [HE2.out]; rfl, hC0.out.thenSame HC1.out⟩
        · have hke : k = ts.length := by omega
          have HE2 := Lib.hid (show Z = 0 by rw [HE.out]; have := HF.out; rwa [hke, tierL_all] at this)
          have hkn2 : ¬ (k : Int) < (ts.length : Int) := by omega
          clear hke
          go_wp2_with fail
          go_ret
          exact ⟨by rw [HE2.out]; rfl, hC0.out.thenSame HC.out⟩
end Go.Proofs.YtehjalgogjkdlaaGreatDoor

namespace Go.Proofs.YtehjalgogjkdlaaGreatDoor
set_option linter.unusedVariables false
set_option linter.unusedSimpArgs false
open Go.RowKit
set_option maxHeartbeats 4000000 in
set_option maxRecDepth 100000 in
theorem rpbill_any (p : Prc) (u : Us) (a : Option Addr) (cap : Nat) (w : World) (h : SlIs trC 2 w a p.ts.length p.ts) (hm : p.ts.length ≤ maxLen) : Calls Tryz.prog 85 #[prV p a cap, usV u] w fun e w' => e = .returned (.tuple #[.int .i64 (billZ p u).1, .int .i64 (billZ p u).2.1, .int .i64 (billZ p u).2.2]) ∧ Chg [] w w' := by
  obtain ⟨Z, hZ⟩ : ∃ Z, Z = billZ p u := ⟨_, rfl⟩
  rw [← hZ]
  unfold billZ at hZ
  have HZ := Lib.hid hZ
  have A := Lib.hid (fun w' (hc : Chg [] w w') => rpcheck_any p a cap w' (h.kept hc) hm)
  have HPR := Lib.hid (fun h0 => price_ok (p := p) h0)
  have HUS := Lib.hid (fun h0 => usB_ok (u := u) h0)
  have M := Lib.hid (fun w' => rvalid_any u w')
  clear h hZ
  obtain ⟨W1, hW1⟩ : ∃ W1, W1 = (w.alloc (prO p a cap)).alloc (.cells #[.int .i64 u.inv, .int .i64 u.steps, .int .i64 u.ticks, .int .i64 u.units] 68) := ⟨_, rfl⟩
  have hC1 := Lib.hid (show Chg [] w W1 from hW1 ▸ ((Chg.refl _ _).alloc _).alloc _)
  have x1 := Lib.hid (show W1.heap[w.heap.size]? = some (prO p a cap) from hW1 ▸ blk_alloc (heap_alloc_new _ _))
  have x2 := Lib.hid (show W1.heap[w.heap.size + 1]? = some (.cells #[.int .i64 u.inv, .int .i64 u.steps, .int .i64 u.ticks, .int .i64 u.units] 68) from by
    rw [hW1]
    have := heap_alloc_new (w.alloc (prO p a cap)) (.cells #[.int .i64 u.inv, .int .i64 u.steps, .int .i64 u.ticks, .int .i64 u.units] 68)
    rwa [World.size_alloc] at this)
  have HW1 := Lib.hid hW1
  clear hW1
  obtain ⟨fi, fu, iv, ts⟩ := p
  obtain ⟨inv, steps, ticks, units⟩ := u
  unfold prO at HW1 x1
  unfold prV at A ⊢
  unfold usV at M ⊢
  simp only at HZ A HPR HUS M HW1 x1 x2 ⊢
  generalize priceZ ⟨fi, fu, iv, ts⟩ = pz at *
  generalize usB ⟨inv, steps, ticks, units⟩ = ub at *
  have k1 := blk_cell x1.out
  have k2 := blk_cell x2.out
  have lt2 := lt_of_heap x2.out
  by_cases hp : pz = 0
  · subst hp
    have HZ1 := Lib.hid (HZ.out.trans (if_neg (by simp)))
    cases ub
    · have HE := Lib.hid (HZ1.out.trans (if_pos rfl))
      rw [HE.out]
      go_enter Tryz.func85, Tryz.ntmps85
      go_wp2_with fail
      rw [← HW1.out]
      go_wp2_with fail
      refine (A.out _ hC1.out).mono ?_; rintro e w2 ⟨rfl, hc2⟩
      have C2 := Lib.hid (hC1.out.thenSame hc2)
      have k4 := blk_cell (hc2.at (by simp) x2.out)
      clear hc2 k1 k2
      go_wp2_with fail
      refine (M.out _).mono ?_; rintro e w3 ⟨rfl, hc3⟩
      have C3 := Lib.hid (C2.out.thenSame hc3)
      clear hc3
      go_wp2_with fail
      go_ret3
      exact ⟨rfl, C3.out⟩
    · have HE := Lib.hid (HZ1.out.trans (if_neg (by simp)))
      obtain ⟨⟨p1, p2⟩, ⟨p3, p4⟩, -⟩ := HPR.out rfl
      obtain ⟨⟨u1, u2⟩, ⟨u3, u4⟩⟩ := HUS.out rfl
      rw [HE.out]
      have z1 : IntKind.i64.wrap (inv - fi) = inv - fi := wrapJ (by omega) (by omega)
      have z2 : IntKind.i64.wrap (units - fu) = units - fu := wrapJ (by omega) (by omega)
      go_enter Tryz.func85, Tryz.ntmps85
      go_wp2_with fail
      rw [← HW1.out]
      go_wp2_with fail
      refine (A.out _ hC1.out).mono ?_; rintro e w2 ⟨rfl, hc2⟩
      have C2 := Lib.hid (hC1.out.thenSame hc2)
      have X3 := Lib.hid (hc2.at (by simp) x1.out)
      have X4 := Lib.hid (hc2.at (by simp) x2.out)
      have k4 := blk_cell X4.out
      clear hc2 k1 k2
      go_wp2_with fail
      refine (M.out _).mono ?_; rintro e w3 ⟨rfl, hc3⟩
      have C3 := Lib.hid (C2.out.thenSame hc3)
      have k5 := blk_cell (hc3.at (by simp) X3.out)
      have k6 := blk_cell (hc3.at (by simp) X4.out)
      clear hc3 k4
      go_wp2_with fail
      go_quiet (fail)
      go_wp2_with fail
      go_ret3
      rw [Int.max_comm (inv - fi), Int.max_comm (units - fu)]
      exact ⟨rfl, C3.out.drewN _⟩
  · have HE := Lib.hid (HZ.out.trans (if_pos hp))
    have hb : (pz != 0) = true := by rw [bne_iff_ne]; exact hp
    rw [HE.out]
    go_enter Tryz.func85, Tryz.ntmps85
    go_wp2_with fail
    rw [← HW1.out]
    go_wp2_with fail
    refine (A.out _ hC1.out).mono ?_; rintro e w2 ⟨rfl, hc2⟩
    have C2 := Lib.hid (hC1.out.thenSame hc2)
    clear hc2 k1 k2
    go_wp2_with fail
    go_ret3
    exact ⟨rfl, C2.out⟩
end Go.Proofs.YtehjalgogjkdlaaGreatDoor

namespace Go.Proofs.YtehjalgogjkdlaaGreatDoor
set_option linter.unusedVariables false
set_option linter.unusedSimpArgs false
/-- The operations of the region n. -/
def rgn (n : Nat) : Code → Option (Array Oper)
  | .region id ops _ => if id = n then some ops else none
  | .seq a b => (rgn n a).orElse fun _ => rgn n b
  | .cond _ a b => (rgn n a).orElse fun _ => rgn n b
  | .block _ c => rgn n c
  | .loop c => rgn n c
  | .scope c => rgn n c
  | _ => none
def rgnF (f : Func) (n : Nat) : Array Oper := ((f.body).bind (rgn n)).getD #[]
end Go.Proofs.YtehjalgogjkdlaaGreatDoor
