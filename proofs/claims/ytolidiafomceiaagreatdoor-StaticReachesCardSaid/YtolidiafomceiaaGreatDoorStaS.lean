/- Chapter 9: contract: functions. No condition. -/
import Derived.Test.YtolidiafomceiaaGreatDoorStaR
namespace Go.Proofs.YtolidiafomceiaaGreatDoor
set_option linter.unusedVariables false
set_option linter.unusedSimpArgs false
open Go.RowKit
theorem find_p (x : Pr) (s : ByteArray) : idxFrom (fun g : PFn => g.name == s) x.p.funcs 0 = idxFrom (fun f : Fn' => f.name == s) x.funcs 0 := idxFrom_map
theorem find_pos {x : Pr} {s : ByteArray} (h : 0 ≤ idxFrom (fun f : Fn' => f.name == s) x.funcs 0) : ∃ m : Nat, idxFrom (fun f : Fn' => f.name == s) x.funcs 0 = (m : Int) ∧ m < x.funcs.length := by
  rcases idxFrom_get (p := fun f : Fn' => f.name == s) (l := x.funcs) (k := 0) with e | ⟨m, e, h1, -⟩
  · omega
  · exact ⟨m, by omega, h1⟩
theorem funcs_p_at {x : Pr} {m : Nat} (h : m < x.funcs.length) : x.p.funcs[m]? = some (x.funcs[m]).p := by
  show (x.funcs.map Fn'.p)[m]? = _
  rw [List.getElem?_map, List.getElem?_eq_getElem h]
  rfl
theorem elemStrs : Tryz.prog.underlying 36 = some (.slice (Tryz.prog.elem 36)) := by kernel_rfl
theorem sizeStr (w : World) : (sizeOf (Tryz.prog.elem 36)).run Tryz.prog w = .ok 1 w := by kernel_rfl
theorem ret2I {a b c d : Int} (h : (a, b) = (c, d)) : Ending.returned (.tuple #[.int .i64 a, .int .i64 b]) = .returned (.tuple #[.int .i64 c, .int .i64 d]) := by
  rw [(Prod.mk.inj h).1, (Prod.mk.inj h).2]
theorem ret2P {a b : Int} {R : Int × Int} (h : R = (a, b)) : Ending.returned (.tuple #[.int .i64 a, .int .i64 b]) = .returned (.tuple #[.int .i64 R.1, .int .i64 R.2]) := by
  rw [h]
theorem dup_step {l : List ByteArray} {k : Nat} (h : k < l.length) : dupFrom (l.take k) (l.drop k) = ((l.take k).any (fun y => l[k] == y) || dupFrom (l.take (k + 1)) (l.drop (k + 1))) := by
  conv => lhs; rw [List.drop_eq_getElem_cons h]
  rw [dupFrom, List.take_append_getElem]
set_option maxHeartbeats 16000000 in
set_option maxRecDepth 100000 in
theorem functions_any (x : Pr) (w : World) (h : PrIn w x) : Calls Tryz.prog 44 #[.agg (prC x).toArray] w fun e w' => e = .returned (.tuple #[.int .i64 (funcsZ x.p).1, .int .i64 (funcsZ x.p).2]) ∧ Chg [] w w' := by
  obtain ⟨R, hR⟩ : ∃ R, R = funcsZ x.p := ⟨_, rfl⟩
  rw [← hR]
  have HP := Lib.hid h
  have HF := Lib.hid h.2.1
  have HPA := Lib.hid (fun w' (hc : Chg [] w w') (f : Fn') (hf : f ∈ x.funcs) => show InIs skC 1 w' f.pa f.pc f.params from (h.2.2 f hf).kept hc)
  have hfl : (x.funcs.length : Int) ≤ 9223372036854775807 := by have h1 := h.2.1.2.1; have h2 := h.2.1.2.2.1; unfold maxLen at h2; omega
  have hR2 : R = fEndZ x.p (funcsGo x.p (x.funcs.map Fn'.p) 0) := hR
  have HR := Lib.hid hR2
  obtain ⟨W1, hW1⟩ : ∃ W1, W1 = w.alloc (prO x) := ⟨_, rfl⟩
  have C1 := Lib.hid (show Chg [] w W1 by rw [hW1]; exact (Chg.refl _ _).alloc _)
  have B1 := Lib.hid (show W1.heap[w.heap.size]? = some (prO x) by rw [hW1]; exact heap_alloc_new _ _)
  unfold prO at hW1 B1
  have k1 := blk_cell B1.out
  have FA := Lib.hid (fun w' (hc : Chg [] w w') (s : ByteArray) => find_any x s w' (h.kept hc))
  simp only [prC] at FA ⊢
  clear hR hR2 h
  go_enter Tryz.func44, Tryz.ntmps44
  go_upto_region 1 with fail
  rw [← hW1]
  clear hW1
  go_wp2_with fail
  clear k1
  go_loopw [14] (fun v wr => ∃ (j : Nat), v = .int .i64 j ∧ j ≤ x.funcs.length ∧ Hid (R = fEndZ x.p (funcsGo x.p ((x.funcs.drop j).map Fn'.p) (j : Int))) ∧ Hid (Chg [] w wr) ∧ Hid (wr.heap[w.heap.size]? = some (.cells #[.slice x.na x.nodes.length x.nc, .slice x.fa x.funcs.length x.fc] 25 (0, 0)))) (fun v _ => x.funcs.length - (intOf v).toNat)
  case atStart => exact ⟨0, rfl, Nat.zero_le _, Lib.hid HR.out, C1, B1⟩
  case round =>
    obtain ⟨j, rfl, hj, HS, D, B⟩ := hrel
    have hj0 : (0 : Int) ≤ (j : Int) := by omega
    by_cases hjl : j < x.funcs.length
    · have hjl' : (j : Int) < (x.funcs.length : Int) := by omega
      obtain ⟨b2, o2, e2, -, -, hc2⟩ := HF.out.1.elem D.out j hjl
      have u0 := hc2 0 (by omega)
      have u1 := hc2 1 (by omega)
      have u2 := hc2 2 (by omega)
      simp only [fnC, List.getElem?_cons_zero, List.getElem?_cons_succ, Nat.add_zero] at u0 u1 u2
      have HS2 := HS.out
      rw [List.drop_eq_getElem_cons hjl, List.map_cons, funcsGo] at HS2
      have HPF := Lib.hid (fun w' (hc : Chg [] w w') => HPA.out w' hc _ (List.getElem_mem hjl))
      generalize hfe : x.funcs[j] = f at *
      have hfb : fBad x.p (j : Int) f.p = (((lkZ biL f.name).2 || decide (idxFrom (fun g : Fn' => g.name == f.name) x.funcs 0 < (j : Int))) || dupFrom [] f.params) := by
        unfold fBad
        rw [show f.p.name = f.name from rfl, show f.p.params = f.params from rfl, find_p]
      rw [hfb] at HS2
      have hpl : (f.params.length : Int) ≤ 9223372036854775807 := by have h0 := HPF.out _ D.out; have h1 := h0.2.1; have h2 := h0.2.2.1; unfold maxLen at h2; omega
      have qj : IntKind.i64.wrap ((j : Int) + 1) = (j : Int) + 1 := IntWalk.i64_in _ (by omega)
      obtain ⟨W2, hW2⟩ : ∃ W2, W2 = wr.alloc (.cells #[.string f.name, .slice f.pa f.params.length f.pc, .int .i64 f.body] 38) := ⟨_, rfl⟩
      have C2 := Lib.hid (show Chg [] wr W2 by rw [hW2]; exact (Chg.refl _ _).alloc _)
      have D2 := Lib.hid (D.out.thenSame C2.out)
      have G2 := Lib.hid (show W2.heap[wr.heap.size]? = some (.cells #[.string f.name, .slice f.pa f.params.length f.pc, .int .i64 f.body] 38 (0, 0)) from by rw [hW2]; exact heap_alloc_new _ _)
      have g2 := blk_cell G2.out
      have B2 := Lib.hid (C2.out.at (by simp) B.out)
      have AB := Lib.hid (fun w' => builtin_any f.name w')
      have AF := Lib.hid (fun w' (hc : Chg [] w w') => by have := FA.out w' hc f.name; rw [e2] at this; exact this)
      have HS3 := Lib.hid HS2
      generalize lkZ biL f.name = bq at *
      generalize idxFrom (fun g : Fn' => g.name == f.name) x.funcs 0 = v at *
      clear hc2 HS2 hfe hfb
      rw [e2]
      go_upto_region 4 with fail
      rw [← hW2]
      clear hW2 u0 u1 u2
      cases hbq : bq.2
      · have AB2 := Lib.hid (fun w' => by have := AB.out w'; rw [hbq] at this; exact this)
        have HS4 := HS3.out
        rw [hbq, Bool.false_or] at HS4
        clear HS3 hbq AB
        by_cases hv : v < (j : Int)
        · rw [decide_eq_true hv, Bool.true_or, if_pos rfl] at HS4
          have HE := Lib.hid (show R = (f.body, 6) from HS4)
          clear HS4
          go_wp2_with (first | (go_at_call 27; (with_reducible refine Calls.mono (AB2.out _) ?_); rintro e w3 ⟨rfl, hc⟩; have D3 := Lib.hid (D2.out.thenSame hc); have B3 := Lib.hid (hc.at (by simp) B2.out); have G3 := Lib.hid (hc.at (by simp) G2.out); have k3 := blk_cell B3.out; have g3 := blk_cell G3.out; clear hc g2) | (go_at_call 38; (with_reducible refine Calls.mono (AF.out _ D3.out) ?_); rintro e w4 ⟨rfl, hc⟩; have D4 := Lib.hid (D3.out.thenSame hc); have G4 := Lib.hid (hc.at (by simp) G3.out); have g4 := blk_cell G4.out; clear k3 g3 hc))
          go_ret2
          exact ⟨ret2P HE.out, D4.out⟩
        · rw [decide_eq_false hv, Bool.false_or] at HS4
          have HS5 := Lib.hid HS4
          clear HS4
          go_wp2_with (first | (go_at_call 27; (with_reducible refine Calls.mono (AB2.out _) ?_); rintro e w3 ⟨rfl, hc⟩; have D3 := Lib.hid (D2.out.thenSame hc); have B3 := Lib.hid (hc.at (by simp) B2.out); have G3 := Lib.hid (hc.at (by simp) G2.out); have k3 := blk_cell B3.out; have g3 := blk_cell G3.out; clear hc g2) | (go_at_call 38; (with_reducible refine Calls.mono (AF.out _ D3.out) ?_); rintro e w4 ⟨rfl, hc⟩; have D4 := Lib.hid (D3.out.thenSame hc); have B4 := Lib.hid (hc.at (by simp) B3.out); have G4 := Lib.hid (hc.at (by simp) G3.out); have g4 := blk_cell G4.out; clear k3 g3 hc))
          clear g4
          obtain ⟨dq, hdq⟩ : ∃ dq, dq = dupFrom [] f.params := ⟨_, rfl⟩
          have HDQ := Lib.hid hdq
          have HS6 := Lib.hid (by have := HS5.out; rw [← hdq] at this; exact this)
          clear HS5 hdq
          go_loopw [39] (fun v wi => ∃ k : Nat, v = .int .i64 k ∧ k ≤ f.params.length ∧ Hid (dq = dupFrom (f.params.take k) (f.params.drop k)) ∧ Hid (Chg [] w wi) ∧ Hid (wi.heap[w.heap.size]? = some (.cells #[.slice x.na x.nodes.length x.nc, .slice x.fa x.funcs.length x.fc] 25 (0, 0))) ∧ Hid (wi.heap[wr.heap.size]? = some (.cells #[.string f.name, .slice f.pa f.params.length f.pc, .int .i64 f.body] 38 (0, 0)))) (fun v _ => f.params.length - (intOf v).toNat)
          case atStart => exact ⟨0, rfl, Nat.zero_le _, Lib.hid HDQ.out, D4, B4, G4⟩
          case round =>
            obtain ⟨k, rfl, hkl, HK, D5, B5, G5⟩ := hrel
            have hk0 : (0 : Int) ≤ (k : Int) := by omega
            by_cases hk : k < f.params.length
            · have hk' : (k : Int) < (f.params.length : Int) := by omega
              obtain ⟨b3, o3, e3, -, -, hc3⟩ := (HPF.out _ D5.out).1.elem (Chg.refl [] _) k hk
              have c5 := hc3 0 (by omega)
              simp only [skC, List.getElem?_cons_zero, Nat.add_zero, Nat.mul_one] at c5
              have AC := Lib.hid (fun w' (hc : Chg [] w w') => by have := scont_any (f.params[k]) ((HPF.out w' hc).take (Nat.le_of_lt hk)); rw [List.length_take, Nat.min_eq_left (Nat.le_of_lt hk), e3] at this; exact this)
              have HK2 := HK.out
              rw [dup_step hk] at HK2
              have HK3 := Lib.hid HK2
              have hkc : k ≤ f.pc := by have h0 := HPF.out _ D5.out; have h1 := h0.2.1; omega
              have qk : IntKind.i64.wrap ((k : Int) + 1) = (k : Int) + 1 := IntWalk.i64_in _ (by omega)
              have g5 := blk_cell (by have := G5.out; rw [e3] at this; exact this)
              generalize f.params[k] = s at *
              generalize (f.params.take k).any (fun y => s == y) = q at *
              clear hc3 HK2
              rw [e3]
              cases q
              · have HK4 := Lib.hid (by have := HK3.out; rw [Bool.false_or] at this; exact this)
                clear HK3
                go_wp2_with (first | (refine wpl_slice_h rfl _ _ 36 rfl elemStrs (sizeStr _) b3 o3 _ _ k rfl rfl hkc ?_) | (go_at_call 60; (with_reducible refine Calls.mono (AC.out _ D5.out) ?_); rintro e w6 ⟨rfl, hc⟩; have D6 := Lib.hid (D5.out.thenSame hc); have B6 := Lib.hid (hc.at (by simp) B5.out); have G6 := Lib.hid (hc.at (by simp) G5.out); clear g5 hc))
                exact ⟨⟨k + 1, rfl, by omega, HK4, D6, (by first | exact B6 | (rw [e2] at B6; exact B6)), (by first | exact G6 | (rw [e3] at G6; exact G6))⟩, by simp [intOf]; omega⟩
              · have HK4 := HK3.out
                rw [Bool.true_or] at HK4
                have HS7 := HS6.out
                rw [HK4, if_pos rfl] at HS7
                have HE := Lib.hid (show R = (f.body, 6) from HS7)
                clear HK3 HK4 HS7
                go_wp2_with (first | (refine wpl_slice_h rfl _ _ 36 rfl elemStrs (sizeStr _) b3 o3 _ _ k rfl rfl hkc ?_) | (go_at_call 60; (with_reducible refine Calls.mono (AC.out _ D5.out) ?_); rintro e w6 ⟨rfl, hc⟩; have D6 := Lib.hid (D5.out.thenSame hc); have G6 := Lib.hid (hc.at (by simp) G5.out); have g6 := blk_cell (by have := G6.out; rw [e3] at this; exact this); clear g5 hc))
                go_ret2
                exact ⟨ret2P HE.out, D6.out⟩
            · have hke : k = f.params.length := by omega
              have HK2 := HK.out
              rw [hke, List.drop_length, dupFrom] at HK2
              have HS7 := HS6.out
              rw [HK2, if_neg (by simp)] at HS7
              have HE := Lib.hid HS7
              have hk' : ¬ (k : Int) < (f.params.length : Int) := by omega
              clear HK2 HS7 hke
              go_wp2_with fail
              exact ⟨⟨j + 1, rfl, by omega, HE, D5, (by rw [e2] at B5; exact B5)⟩, by simp [intOf]; omega⟩
      · have AB2 := Lib.hid (fun w' => by have := AB.out w'; rw [hbq] at this; exact this)
        have HS4 := HS3.out
        rw [hbq, Bool.true_or, Bool.true_or, if_pos rfl] at HS4
        have HE := Lib.hid (show R = (f.body, 6) from HS4)
        clear HS3 HS4 hbq AB
        go_wp2_with (first | (go_at_call 27; (with_reducible refine Calls.mono (AB2.out _) ?_); rintro e w3 ⟨rfl, hc⟩; have D3 := Lib.hid (D2.out.thenSame hc); have G3 := Lib.hid (hc.at (by simp) G2.out); have g3 := blk_cell G3.out; clear hc g2))
        go_ret2
        exact ⟨ret2P HE.out, D3.out⟩
    · have hje : j = x.funcs.length := by omega
      have HS2 := HS.out
      rw [hje, List.drop_length, List.map_nil, funcsGo] at HS2
      have HS3 := Lib.hid (show R = mainZ x.p from HS2)
      have hjl' : ¬ (j : Int) < (x.funcs.length : Int) := by omega
      have k1 := blk_cell B.out
      have AF := Lib.hid (FA.out _ D.out ⟨#[109, 97, 105, 110]⟩)
      clear HS2 hje
      rcases Int.lt_or_le (idxFrom (fun f : Fn' => f.name == ⟨#[109, 97, 105, 110]⟩) x.funcs 0) 0 with hm | hm
      · have HE := Lib.hid (show R = (-1, 5) from by rw [HS3.out]; unfold mainZ; rw [if_pos (by rw [find_p]; exact hm)])
        generalize idxFrom (fun f : Fn' => f.name == ⟨#[109, 97, 105, 110]⟩) x.funcs 0 = m at *
        go_wp2_with (go_at_call 38; (with_reducible refine Calls.mono AF.out ?_); rintro e w4 ⟨rfl, hc⟩; have D4 := Lib.hid (D.out.thenSame hc); clear k1 hc)
        go_ret2
        exact ⟨ret2P HE.out, D4.out⟩
      · obtain ⟨m, hm1, hm2⟩ := find_pos (s := ⟨#[109, 97, 105, 110]⟩) hm
        have hmz : mainZ x.p = if (x.funcs[m]).params.length = 1 then (0, 0) else ((x.funcs[m]).body, 7) := by
          unfold mainZ
          rw [find_p, show mainS = ⟨#[109, 97, 105, 110]⟩ from rfl, hm1, if_neg (by omega), Int.toNat_natCast, funcs_p_at hm2]
          rfl
        rw [hm1] at AF
        have HS4 := HS3.out
        rw [hmz] at HS4
        obtain ⟨b2, o2, e2, -, hb2, hc2⟩ := HF.out.1.elem D.out m hm2
        have hm' : (m : Int) < (x.funcs.length : Int) := by omega
        have hm0 : (0 : Int) ≤ (m : Int) := by omega
        have AF2 := Lib.hid (by have := AF.out; rw [e2] at this; exact this)
        have HC := Lib.hid (fun w' (hc : Chg [] wr w') i (hi : i < 3) => (World.cell?_of_block (w := wr) (hc.block b2 hb2 (by simp))).trans (hc2 i hi))
        generalize hfe : x.funcs[m] = f at *
        rw [e2] at k1
        rw [e2]
        clear AF HS3 hmz hm hm1 hfe hc2 hb2
        by_cases hp : f.params.length = 1
        · rw [if_pos hp] at HS4
          have HE := Lib.hid HS4
          have hpi : ((f.params.length : Int) != 1) = false := by rw [hp]; rfl
          clear HS4 hp
          go_wp2_with (go_at_call 38; (with_reducible refine Calls.mono AF2.out ?_); rintro e w4 ⟨rfl, hc⟩; have D4 := Lib.hid (D.out.thenSame hc); have B4 := Lib.hid (hc.at (by simp) B.out); have k4 := blk_cell (by have := B4.out; rw [e2] at this; exact this); have u1 := HC.out _ hc 1 (by omega); have u2 := HC.out _ hc 2 (by omega); simp only [fnC, List.getElem?_cons_zero, List.getElem?_cons_succ, Nat.add_zero] at u1 u2; clear k1 hc)
          go_ret2
          exact ⟨ret2P HE.out, D4.out⟩
        · rw [if_neg hp] at HS4
          have HE := Lib.hid HS4
          have hpi : ((f.params.length : Int) != 1) = true := by simp; omega
          clear HS4 hp
          go_wp2_with (go_at_call 38; (with_reducible refine Calls.mono AF2.out ?_); rintro e w4 ⟨rfl, hc⟩; have D4 := Lib.hid (D.out.thenSame hc); have B4 := Lib.hid (hc.at (by simp) B.out); have k4 := blk_cell (by have := B4.out; rw [e2] at this; exact this); have u1 := HC.out _ hc 1 (by omega); have u2 := HC.out _ hc 2 (by omega); simp only [fnC, List.getElem?_cons_zero, List.getElem?_cons_succ, Nat.add_zero] at u1 u2; clear k1 hc)
          go_ret2
          exact ⟨ret2P HE.out, D4.out⟩
end Go.Proofs.YtolidiafomceiaaGreatDoor
