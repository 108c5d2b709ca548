/- Chapter 9: the reference's Check, given Check of layer 8. Condition: that Check does as it should. -/
import Derived.Test.YtolidiafomceiaaGreatDoorMStwE
namespace Go.Proofs.YtolidiafomceiaaGreatDoor
set_option linter.unusedVariables false
set_option linter.unusedSimpArgs false
open Go.RowKit
set_option maxHeartbeats 16000000 in
set_option maxRecDepth 100000 in
theorem rcheck9_of (x : Pr) (w : World) (h : PrIn w x) (C8 : ∀ w', Chg [] w w' → Calls Tryz.prog 29 #[.agg (prC x).toArray] w' fun e w2 => e = .returned (.int .i64 (scheckZ x.p)) ∧ Chg [] w' w2) : Calls Tryz.prog 11 #[.agg (prC x).toArray] w fun e w' => e = .returned (.tuple #[.int .i64 (rcheckZ x.p).1, .int .i64 (rcheckZ x.p).2]) ∧ Chg [] w w' := by
  obtain ⟨R, hR⟩ : ∃ R, R = rcheckZ x.p := ⟨_, rfl⟩
  rw [← hR]
  unfold rcheckZ at hR
  have HP := Lib.hid (fun w' (hc : Chg [] w w') => h.kept hc)
  have HPA := Lib.hid (fun w' (hc : Chg [] w w') (f : Fn') (hf : f ∈ x.funcs) => show InIs skC 1 w' f.pa f.pc f.params from (h.2.2 f hf).kept hc)
  have hfl : (x.funcs.length : Int) ≤ 9223372036854775807 := by have h1 := h.2.1.2.1; have h2 := h.2.1.2.2.1; unfold maxLen at h2; omega
  obtain ⟨W1, hW1⟩ : ∃ W1, W1 = w.alloc (prO x) := ⟨_, rfl⟩
  have C1 := Lib.hid (show Chg [] w W1 by rw [hW1]; exact (Chg.refl _ _).alloc _)
  have B1 := Lib.hid (show W1.heap[w.heap.size]? = some (prO x) by rw [hW1]; exact heap_alloc_new _ _)
  unfold prO at hW1 B1
  have k1 := blk_cell B1.out
  have FA := Lib.hid (fun w' (hc : Chg [] w w') (s : ByteArray) => rfunction_any x w' (h.kept hc) s)
  have AC := Lib.hid (C8 W1 C1.out)
  have AL := Lib.hid (fun w' (hc : Chg [] w w') (hs : scheckZ x.p = 0) => rall_any x w' (h.kept hc) hs)
  simp only [prC] at FA AC AL ⊢
  by_cases hz : scheckZ x.p = 0
  · rw [if_pos hz] at hR
    have HZ := Lib.hid hz
    rw [hz] at AC
    have HR := Lib.hid hR
    have HFZ := Lib.hid (show funcsZ x.p = fEndZ x.p (funcsGo x.p (x.funcs.map Fn'.p) 0) from rfl)
    clear hR hz h C8
    go_enter Tryz.func11, Tryz.ntmps11
    go_upto_region 1 with fail
    rw [← hW1]
    clear hW1
    go_wp2_with (go_at_call 29; (with_reducible refine Calls.mono AC.out ?_); rintro e w2 ⟨rfl, hc⟩; have C2 := Lib.hid (C1.out.thenSame hc); have B2 := Lib.hid (hc.at (by simp) B1.out); clear hc k1)
    go_loopw [5] (fun v wr => ∃ (j : Nat), v = .int .i64 j ∧ j ≤ x.funcs.length ∧ Hid (funcsZ x.p = fEndZ x.p (funcsGo x.p ((x.funcs.drop j).map Fn'.p) (j : Int))) ∧ Hid (Chg [] w wr) ∧ Hid (wr.heap[w.heap.size]? = some (.cells #[.slice x.na x.nodes.length x.nc, .slice x.fa x.funcs.length x.fc] 25 (0, 0)))) (fun v _ => x.funcs.length - (intOf v).toNat)
    case atStart => exact ⟨0, rfl, Nat.zero_le _, HFZ, C2, B2⟩
    case round =>
      obtain ⟨j, rfl, hj, HS, D, B⟩ := hrel
      have hj0 : (0 : Int) ≤ (j : Int) := by omega
      by_cases hjl : j < x.funcs.length
      · have hjl' : (j : Int) < (x.funcs.length : Int) := by omega
        obtain ⟨b2, o2, e2, -, -, hc2⟩ := (HP.out _ D.out).2.1.1.elem (Chg.refl [] _) j hjl
        have u0 := hc2 0 (by omega)
        simp only [fnC, List.getElem?_cons_zero, List.getElem?_cons_succ, Nat.add_zero] at u0
        have HS2 := HS.out
        rw [List.drop_eq_getElem_cons hjl, List.map_cons, funcsGo] at HS2
        have HPF := Lib.hid (fun w' (hc : Chg [] w w') => HPA.out w' hc _ (List.getElem_mem hjl))
        have UF := Lib.hid (fun w' (hc : Chg [] w w') => show w'.cell? ⟨b2, o2 + j * 3, none⟩ = some (.string (x.funcs[j]).name) ∧ w'.cell? ⟨b2, o2 + j * 3 + 1, none⟩ = some (.slice (x.funcs[j]).pa (x.funcs[j]).params.length (x.funcs[j]).pc) ∧ w'.cell? ⟨b2, o2 + j * 3 + 2, none⟩ = some (.int .i64 (x.funcs[j]).body) from by
          obtain ⟨b7, o7, e7, -, -, hc7⟩ := (HP.out w' hc).2.1.1.elem (Chg.refl [] _) j hjl
          have e8 := e2.symm.trans e7
          simp only [Option.some.injEq, Addr.mk.injEq, and_true] at e8
          obtain ⟨rfl, rfl⟩ := e8
          have g0 := hc7 0 (by omega)
          have g1 := hc7 1 (by omega)
          have g2 := hc7 2 (by omega)
          simp only [fnC, List.getElem?_cons_zero, List.getElem?_cons_succ, Nat.add_zero] at g0 g1 g2
          exact ⟨g0, g1, g2⟩)
        generalize hfe : x.funcs[j] = f at *
        have hfb : fBad x.p (j : Int) f.p = (((lkZ biL f.name).2 || decide (idxFrom (fun g : PFn => g.name == f.name) x.p.funcs 0 < (j : Int))) || dupFrom [] f.params) := rfl
        rw [hfb] at HS2
        have qj : IntKind.i64.wrap ((j : Int) + 1) = (j : Int) + 1 := IntWalk.i64_in _ (by omega)
        have AB := Lib.hid (fun w' => rbuiltin_any f.name w')
        have AF := Lib.hid (fun w' (hc : Chg [] w w') => by have := FA.out w' hc f.name; rw [e2] at this; exact this)
        have RP := Lib.hid (fun w' (hc : Chg [] w w') => repeated_any (HPF.out w' hc))
        have E2 := Lib.hid e2
        have HS3 := Lib.hid HS2
        have k3 := blk_cell (by have := B.out; rw [e2] at this; exact this)
        generalize lkZ biL f.name = bq at *
        generalize idxFrom (fun g : PFn => g.name == f.name) x.p.funcs 0 = v at *
        generalize dupFrom [] f.params = dq at *
        obtain ⟨bn, bb⟩ := bq
        clear hc2 HS2 hfe hfb
        simp only at AB HS3
        rw [e2]
        go_upto_region 8 with (go_at_call 30; (with_reducible refine Calls.mono (AB.out _) ?_); rintro e w3 ⟨rfl, hc⟩; have D3 := Lib.hid (D.out.thenSame hc); have B3 := Lib.hid (hc.at (by simp) B.out); clear hc k3 u0)
        have VK := Lib.hid (fun (w' : World) (hc : Chg [] w3 w') => show w'.cell? ⟨w.heap.size, 0, none⟩ = some (.slice x.na x.nodes.length x.nc) ∧ w'.cell? ⟨w.heap.size, 1, none⟩ = some (.slice (some ⟨b2, o2, none⟩) x.funcs.length x.fc) ∧ w'.cell? ⟨b2, o2 + j * 3, none⟩ = some (.string f.name) ∧ w'.cell? ⟨b2, o2 + j * 3 + 1, none⟩ = some (.slice f.pa f.params.length f.pc) from by
          have h1 := blk_cell (by have := hc.at (by simp) B3.out; rw [E2.out] at this; exact this)
          obtain ⟨g0, g1, -⟩ := UF.out w' (D3.out.thenSame hc)
          exact ⟨h1 0, h1 1, g0, g1⟩)
        cases bb with
        | true =>
          have HE := Lib.hid (show funcsZ x.p = (f.body, 6) from HS3.out)
          obtain ⟨wd, hwd⟩ : ∃ wd, wd = w3.drew := ⟨_, rfl⟩
          have D0 := Lib.hid (show Chg [] w3 wd by rw [hwd]; exact (Chg.refl _ _).drew)
          have D4 := Lib.hid (D3.out.thenSame D0.out)
          refine wp_region_noPanic ?_
          refine wp_region_held_drew (S := (fun w' => w'.cell? ⟨w.heap.size, 0, none⟩ = some (.slice x.na x.nodes.length x.nc) ∧ w'.cell? ⟨w.heap.size, 1, none⟩ = some (.slice (some ⟨b2, o2, none⟩) x.funcs.length x.fc) ∧ w'.cell? ⟨b2, o2 + j * 3, none⟩ = some (.string f.name) ∧ w'.cell? ⟨b2, o2 + j * 3 + 1, none⟩ = some (.slice f.pa f.params.length f.pc))) (by kernel_rfl) (by rw [← hwd]; exact VK.out _ D0.out) (fun hHeld => ?_)
          rw [← hwd] at hHeld ⊢
          clear hwd
          refine wpAnyH_take (i := 0) (oi := _) (v := ?vA_0) rfl (by kernel_rfl) (by kernel_rfl) (by kernel_rfl) (fun _ _ _ h => h) (Or.inl ⟨by rfl, ?yA_0⟩) hHeld ?rA_0
          case yA_0 => (intro w hSw; (try dsimp only at hSw); (try simp only [List.getElem_toArray, List.getElem_cons_zero, List.getElem_cons_succ]); go_simp <;> with_reducible rfl)
          (try simp only [List.getElem_toArray, List.getElem_cons_zero, List.getElem_cons_succ, Act.put, List.setIfInBounds_toArray, List.set_cons_zero, List.set_cons_succ])
          refine wpAnyH_take (i := 1) (oi := _) (v := ?vA_1) rfl (by kernel_rfl) (by kernel_rfl) (by kernel_rfl) (fun _ _ _ h => h) (Or.inl ⟨by rfl, ?yA_1⟩) hHeld ?rA_1
          case yA_1 => (intro w hSw; (try dsimp only at hSw); (try simp only [List.getElem_toArray, List.getElem_cons_zero, List.getElem_cons_succ]); go_simp <;> with_reducible rfl)
          (try simp only [List.getElem_toArray, List.getElem_cons_zero, List.getElem_cons_succ, Act.put, List.setIfInBounds_toArray, List.set_cons_zero, List.set_cons_succ])
          refine wpAnyH_take (i := 2) (oi := _) (v := _) rfl (by kernel_rfl) (by kernel_rfl) (by kernel_rfl) (fun _ _ _ h => h) (Or.inr ⟨by rfl, rfl⟩) hHeld ?_
          (try simp only [List.getElem_toArray, List.getElem_cons_zero, List.getElem_cons_succ, Act.put, List.setIfInBounds_toArray, List.set_cons_zero, List.set_cons_succ])
          refine wpAnyH_take (i := 3) (oi := _) (v := _) rfl (by kernel_rfl) (by kernel_rfl) (by kernel_rfl) (fun _ _ _ h => h) (Or.inr ⟨by rfl, rfl⟩) hHeld ?_
          (try simp only [List.getElem_toArray, List.getElem_cons_zero, List.getElem_cons_succ, Act.put, List.setIfInBounds_toArray, List.set_cons_zero, List.set_cons_succ])
          refine wpAnyH_take (i := 4) (oi := _) (v := _) rfl (by kernel_rfl) (by kernel_rfl) (by kernel_rfl) (fun _ _ _ h => h) (Or.inr ⟨by rfl, rfl⟩) hHeld ?_
          (try simp only [List.getElem_toArray, List.getElem_cons_zero, List.getElem_cons_succ, Act.put, List.setIfInBounds_toArray, List.set_cons_zero, List.set_cons_succ])
          refine wpAnyH_take (i := 5) (oi := _) (v := _) rfl (by kernel_rfl) (by kernel_rfl) (by kernel_rfl) (fun _ _ _ h => h) (Or.inr ⟨by rfl, rfl⟩) hHeld ?_
          (try simp only [List.getElem_toArray, List.getElem_cons_zero, List.getElem_cons_succ, Act.put, List.setIfInBounds_toArray, List.set_cons_zero, List.set_cons_succ])
          refine wpAnyH_take (i := 6) (oi := _) (v := _) rfl (by kernel_rfl) (by kernel_rfl) (by kernel_rfl) (fun _ _ _ h => h) (Or.inr ⟨by rfl, rfl⟩) hHeld ?_
          (try simp only [List.getElem_toArray, List.getElem_cons_zero, List.getElem_cons_succ, Act.put, List.setIfInBounds_toArray, List.set_cons_zero, List.set_cons_succ])
          refine wpAnyH_take (i := 7) (oi := _) (v := _) rfl (by kernel_rfl) (by kernel_rfl) (by kernel_rfl) (fun _ _ _ h => h) (Or.inr ⟨by rfl, rfl⟩) hHeld ?_
          (try simp only [List.getElem_toArray, List.getElem_cons_zero, List.getElem_cons_succ, Act.put, List.setIfInBounds_toArray, List.set_cons_zero, List.set_cons_succ])
          refine wpAnyH_take (i := 8) (oi := _) (v := _) rfl (by kernel_rfl) (by kernel_rfl) (by kernel_rfl) (fun _ _ _ h => h) (Or.inr ⟨by rfl, rfl⟩) hHeld ?_
          (try simp only [List.getElem_toArray, List.getElem_cons_zero, List.getElem_cons_succ, Act.put, List.setIfInBounds_toArray, List.set_cons_zero, List.set_cons_succ])
          refine wpAnyH_take (i := 9) (oi := _) (v := _) rfl (by kernel_rfl) (by kernel_rfl) (by kernel_rfl) (fun _ _ _ h => h) (Or.inr ⟨by rfl, rfl⟩) hHeld ?_
          (try simp only [List.getElem_toArray, List.getElem_cons_zero, List.getElem_cons_succ, Act.put, List.setIfInBounds_toArray, List.set_cons_zero, List.set_cons_succ])
          refine wpAnyH_take (i := 10) (oi := _) (v := _) rfl (by kernel_rfl) (by kernel_rfl) (by kernel_rfl) (fun _ _ _ h => h) (Or.inr ⟨by rfl, rfl⟩) hHeld ?_
          (try simp only [List.getElem_toArray, List.getElem_cons_zero, List.getElem_cons_succ, Act.put, List.setIfInBounds_toArray, List.set_cons_zero, List.set_cons_succ])
          refine wpAnyH_take (i := 11) (oi := _) (v := _) rfl (by kernel_rfl) (by kernel_rfl) (by kernel_rfl) (fun _ _ _ h => h) (Or.inr ⟨by rfl, rfl⟩) hHeld ?_
          (try simp only [List.getElem_toArray, List.getElem_cons_zero, List.getElem_cons_succ, Act.put, List.setIfInBounds_toArray, List.set_cons_zero, List.set_cons_succ])
          refine wpAnyH_take (i := 12) (oi := _) (v := ?vA_12) rfl (by kernel_rfl) (by kernel_rfl) (by kernel_rfl) (fun _ _ _ h => h) (Or.inl ⟨by rfl, ?yA_12⟩) hHeld ?rA_12
          case yA_12 => (intro w hSw; (try dsimp only at hSw); (try simp only [List.getElem_toArray, List.getElem_cons_zero, List.getElem_cons_succ]); go_simp <;> with_reducible rfl)
          (try simp only [List.getElem_toArray, List.getElem_cons_zero, List.getElem_cons_succ, Act.put, List.setIfInBounds_toArray, List.set_cons_zero, List.set_cons_succ])
          refine wpAnyH_take (i := 13) (oi := _) (v := ?vA_13) rfl (by kernel_rfl) (by kernel_rfl) (by kernel_rfl) (fun _ _ _ h => h) (Or.inl ⟨by rfl, ?yA_13⟩) hHeld ?rA_13
          case yA_13 => (intro w hSw; (try dsimp only at hSw); (try simp only [List.getElem_toArray, List.getElem_cons_zero, List.getElem_cons_succ]); go_simp <;> with_reducible rfl)
          (try simp only [List.getElem_toArray, List.getElem_cons_zero, List.getElem_cons_succ, Act.put, List.setIfInBounds_toArray, List.set_cons_zero, List.set_cons_succ])
          refine wpAnyH_take (i := 14) (oi := _) (v := _) rfl (by kernel_rfl) (by kernel_rfl) (by kernel_rfl) (fun _ _ _ h => h) (Or.inr ⟨by rfl, rfl⟩) hHeld ?_
          (try simp only [List.getElem_toArray, List.getElem_cons_zero, List.getElem_cons_succ, Act.put, List.setIfInBounds_toArray, List.set_cons_zero, List.set_cons_succ])
          refine wpAnyH_take (i := 15) (oi := _) (v := _) rfl (by kernel_rfl) (by kernel_rfl) (by kernel_rfl) (fun _ _ _ h => h) (Or.inr ⟨by rfl, rfl⟩) hHeld ?_
          (try simp only [List.getElem_toArray, List.getElem_cons_zero, List.getElem_cons_succ, Act.put, List.setIfInBounds_toArray, List.set_cons_zero, List.set_cons_succ])
          refine wpAnyH_take (i := 16) (oi := _) (v := _) rfl (by kernel_rfl) (by kernel_rfl) (by kernel_rfl) (fun _ _ _ h => h) (Or.inr ⟨by rfl, rfl⟩) hHeld ?_
          (try simp only [List.getElem_toArray, List.getElem_cons_zero, List.getElem_cons_succ, Act.put, List.setIfInBounds_toArray, List.set_cons_zero, List.set_cons_succ])
          refine wpAnyH_take (i := 17) (oi := _) (v := _) rfl (by kernel_rfl) (by kernel_rfl) (by kernel_rfl) (fun _ _ _ h => h) (Or.inr ⟨by rfl, rfl⟩) hHeld ?_
          (try simp only [List.getElem_toArray, List.getElem_cons_zero, List.getElem_cons_succ, Act.put, List.setIfInBounds_toArray, List.set_cons_zero, List.set_cons_succ])
          refine wpAnyH_take (i := 18) (oi := _) (v := _) rfl (by kernel_rfl) (by kernel_rfl) (by kernel_rfl) (fun _ _ _ h => h) (Or.inr ⟨by rfl, rfl⟩) hHeld ?_
          (try simp only [List.getElem_toArray, List.getElem_cons_zero, List.getElem_cons_succ, Act.put, List.setIfInBounds_toArray, List.set_cons_zero, List.set_cons_succ])
          refine wpAnyH_take (i := 19) (oi := _) (v := _) rfl (by kernel_rfl) (by kernel_rfl) (by kernel_rfl) (fun _ _ _ h => h) (Or.inr ⟨by rfl, rfl⟩) hHeld ?_
          (try simp only [List.getElem_toArray, List.getElem_cons_zero, List.getElem_cons_succ, Act.put, List.setIfInBounds_toArray, List.set_cons_zero, List.set_cons_succ])
          refine wpAnyH_take (i := 20) (oi := _) (v := _) rfl (by kernel_rfl) (by kernel_rfl) (by kernel_rfl) (fun _ _ _ h => h) (Or.inr ⟨by rfl, rfl⟩) hHeld ?_
          (try simp only [List.getElem_toArray, List.getElem_cons_zero, List.getElem_cons_succ, Act.put, List.setIfInBounds_toArray, List.set_cons_zero, List.set_cons_succ])
          refine wpAnyH_take (i := 21) (oi := _) (v := ?vA_21) rfl (by kernel_rfl) (by kernel_rfl) (by kernel_rfl) (fun _ _ _ h => h) (Or.inl ⟨by rfl, ?yA_21⟩) hHeld ?rA_21
          case yA_21 => (intro w hSw; (try dsimp only at hSw); (try simp only [List.getElem_toArray, List.getElem_cons_zero, List.getElem_cons_succ]); go_simp <;> with_reducible rfl)
          (try simp only [List.getElem_toArray, List.getElem_cons_zero, List.getElem_cons_succ, Act.put, List.setIfInBounds_toArray, List.set_cons_zero, List.set_cons_succ])
          refine wpAnyH_done (by kernel_rfl) ?_ _
          refine NoPanic.normal ?_
          have B9 := Lib.hid (D0.out.at (by simp) B3.out)
          have k9 := blk_cell (by have := B9.out; rw [E2.out] at this; exact this)
          obtain ⟨-, -, u9⟩ := UF.out _ D4.out
          have HR9 := Lib.hid (show R = (f.body, 6) from by rw [HR.out, HE.out]; exact if_neg (show ¬ (6 : Int) = 0 by decide))
          go_wp2_with fail
          go_ret2
          exact ⟨ret2P HR9.out, D4.out⟩
        | false =>
          by_cases hv : v < (j : Int)
          · have HE := Lib.hid (show funcsZ x.p = (f.body, 6) from by rw [HS3.out, decide_eq_true hv]; rfl)
            obtain ⟨wd, hwd⟩ : ∃ wd, wd = w3.drew := ⟨_, rfl⟩
            have D0 := Lib.hid (show Chg [] w3 wd by rw [hwd]; exact (Chg.refl _ _).drew)
            have D4 := Lib.hid (D3.out.thenSame D0.out)
            refine wp_region_noPanic ?_
            refine wp_region_held_drew (S := (fun w' => w'.cell? ⟨w.heap.size, 0, none⟩ = some (.slice x.na x.nodes.length x.nc) ∧ w'.cell? ⟨w.heap.size, 1, none⟩ = some (.slice (some ⟨b2, o2, none⟩) x.funcs.length x.fc) ∧ w'.cell? ⟨b2, o2 + j * 3, none⟩ = some (.string f.name) ∧ w'.cell? ⟨b2, o2 + j * 3 + 1, none⟩ = some (.slice f.pa f.params.length f.pc))) (by kernel_rfl) (by rw [← hwd]; exact VK.out _ D0.out) (fun hHeld => ?_)
            rw [← hwd] at hHeld ⊢
            clear hwd
            refine wpAnyH_take (i := 0) (oi := _) (v := ?vB_0) rfl (by kernel_rfl) (by kernel_rfl) (by kernel_rfl) (fun _ _ _ h => h) (Or.inl ⟨by rfl, ?yB_0⟩) hHeld ?rB_0
            case yB_0 => (intro w hSw; (try dsimp only at hSw); (try simp only [List.getElem_toArray, List.getElem_cons_zero, List.getElem_cons_succ]); go_simp <;> with_reducible rfl)
            (try simp only [List.getElem_toArray, List.getElem_cons_zero, List.getElem_cons_succ, Act.put, List.setIfInBounds_toArray, List.set_cons_zero, List.set_cons_succ])
            refine wpAnyH_take (i := 1) (oi := _) (v := ?vB_1) rfl (by kernel_rfl) (by kernel_rfl) (by kernel_rfl) (fun _ _ _ h => h) (Or.inl ⟨by rfl, ?yB_1⟩) hHeld ?rB_1
            case yB_1 => (intro w hSw; (try dsimp only at hSw); (try simp only [List.getElem_toArray, List.getElem_cons_zero, List.getElem_cons_succ]); go_simp <;> with_reducible rfl)
            (try simp only [List.getElem_toArray, List.getElem_cons_zero, List.getElem_cons_succ, Act.put, List.setIfInBounds_toArray, List.set_cons_zero, List.set_cons_succ])
            refine wpAnyH_take (i := 2) (oi := _) (v := ?vB_2) rfl (by kernel_rfl) (by kernel_rfl) (by kernel_rfl) (fun _ _ _ h => h) (Or.inl ⟨by rfl, ?yB_2⟩) hHeld ?rB_2
            case yB_2 => (intro w hSw; (try dsimp only at hSw); (try simp only [List.getElem_toArray, List.getElem_cons_zero, List.getElem_cons_succ]); go_simp <;> with_reducible rfl)
            (try simp only [List.getElem_toArray, List.getElem_cons_zero, List.getElem_cons_succ, Act.put, List.setIfInBounds_toArray, List.set_cons_zero, List.set_cons_succ])
            refine wpAnyH_take (i := 3) (oi := _) (v := ?vB_3) rfl (by kernel_rfl) (by kernel_rfl) (by kernel_rfl) (fun _ _ _ h => h) (Or.inl ⟨by rfl, ?yB_3⟩) hHeld ?rB_3
            case yB_3 => (intro w hSw; (try dsimp only at hSw); (try simp only [List.getElem_toArray, List.getElem_cons_zero, List.getElem_cons_succ]); go_simp <;> with_reducible rfl)
            (try simp only [List.getElem_toArray, List.getElem_cons_zero, List.getElem_cons_succ, Act.put, List.setIfInBounds_toArray, List.set_cons_zero, List.set_cons_succ])
            refine wpAnyH_take (i := 4) (oi := _) (v := ?vB_4) rfl (by kernel_rfl) (by kernel_rfl) (by kernel_rfl) (fun _ _ _ h => h) (Or.inl ⟨by rfl, ?yB_4⟩) hHeld ?rB_4
            case yB_4 => (intro w hSw; (try dsimp only at hSw); (try simp only [List.getElem_toArray, List.getElem_cons_zero, List.getElem_cons_succ]); go_simp <;> with_reducible rfl)
            (try simp only [List.getElem_toArray, List.getElem_cons_zero, List.getElem_cons_succ, Act.put, List.setIfInBounds_toArray, List.set_cons_zero, List.set_cons_succ])
            refine wpAnyH_take (i := 5) (oi := _) (v := ?vB_5) rfl (by kernel_rfl) (by kernel_rfl) (by kernel_rfl) (fun _ _ _ h => h) (Or.inl ⟨by rfl, ?yB_5⟩) hHeld ?rB_5
            case yB_5 => (intro w hSw; (try dsimp only at hSw); (try simp only [List.getElem_toArray, List.getElem_cons_zero, List.getElem_cons_succ]); go_simp <;> with_reducible rfl)
            (try simp only [List.getElem_toArray, List.getElem_cons_zero, List.getElem_cons_succ, Act.put, List.setIfInBounds_toArray, List.set_cons_zero, List.set_cons_succ])
            refine wpAnyH_take (i := 6) (oi := _) (v := ?vB_6) rfl (by kernel_rfl) (by kernel_rfl) (by kernel_rfl) (fun _ _ _ h => h) (Or.inl ⟨by rfl, ?yB_6⟩) hHeld ?rB_6
            case yB_6 => (intro w hSw; (try dsimp only at hSw); (try simp only [List.getElem_toArray, List.getElem_cons_zero, List.getElem_cons_succ]); go_simp <;> with_reducible rfl)
            (try simp only [List.getElem_toArray, List.getElem_cons_zero, List.getElem_cons_succ, Act.put, List.setIfInBounds_toArray, List.set_cons_zero, List.set_cons_succ])
            refine wpAnyH_take (i := 7) (oi := _) (v := ?vB_7) rfl (by kernel_rfl) (by kernel_rfl) (by kernel_rfl) (fun _ _ _ h => h) (Or.inl ⟨by rfl, ?yB_7⟩) hHeld ?rB_7
            case yB_7 => (intro w hSw; (try dsimp only at hSw); (try simp only [List.getElem_toArray, List.getElem_cons_zero, List.getElem_cons_succ]); go_simp <;> with_reducible rfl)
            (try simp only [List.getElem_toArray, List.getElem_cons_zero, List.getElem_cons_succ, Act.put, List.setIfInBounds_toArray, List.set_cons_zero, List.set_cons_succ])
            refine wpAnyH_take (i := 8) (oi := _) (v := ?vB_8) rfl (by kernel_rfl) (by kernel_rfl) (by kernel_rfl) (fun _ _ _ h => h) (Or.inl ⟨by rfl, ?yB_8⟩) hHeld ?rB_8
            case yB_8 => (intro w hSw; (try dsimp only at hSw); (try simp only [List.getElem_toArray, List.getElem_cons_zero, List.getElem_cons_succ]); go_simp <;> with_reducible rfl)
            (try simp only [List.getElem_toArray, List.getElem_cons_zero, List.getElem_cons_succ, Act.put, List.setIfInBounds_toArray, List.set_cons_zero, List.set_cons_succ])
            refine wpAnyH_take (i := 10) (oi := _) (v := ?vB_10) rfl (by kernel_rfl) (by kernel_rfl) (by kernel_rfl) (fun _ _ _ h => h) (Or.inl ⟨by rfl, ?yB_10⟩) hHeld ?rB_10
            case yB_10 => (intro w hSw; (try dsimp only at hSw); (try simp only [List.getElem_toArray, List.getElem_cons_zero, List.getElem_cons_succ]); go_simp <;> with_reducible rfl)
            (try simp only [List.getElem_toArray, List.getElem_cons_zero, List.getElem_cons_succ, Act.put, List.setIfInBounds_toArray, List.set_cons_zero, List.set_cons_succ])
            refine wpAnyH_ready (rs := [9]) (by kernel_rfl) (by simp) ?_
            refine AllReadyH.cons (o := _) rfl (fun K hK => ?_) AllReadyH.nil
            (try simp only [List.getElem_toArray, List.getElem_cons_zero, List.getElem_cons_succ])
            go_simp
            (go_at_call 31; (with_reducible refine Calls.mono (AF.out _ D4.out) ?_); rintro e w5 ⟨rfl, hc5⟩; have D5 := Lib.hid (D4.out.thenSame hc5); have K5 := Lib.hid (D0.out.thenSame hc5); clear hc5)
            refine hK.out _ _ ?_ (fun hHeld => ?_)
            exact VK.out _ K5.out
            clear hK K
            (try simp only [List.getElem_toArray, List.getElem_cons_zero, List.getElem_cons_succ, Act.put, List.setIfInBounds_toArray, List.set_cons_zero, List.set_cons_succ])
            refine wpAnyH_take (i := 11) (oi := _) (v := ?vB_11) rfl (by kernel_rfl) (by kernel_rfl) (by kernel_rfl) (fun _ _ _ h => h) (Or.inl ⟨by rfl, ?yB_11⟩) hHeld ?rB_11
            case yB_11 => (intro w hSw; (try dsimp only at hSw); (try simp only [List.getElem_toArray, List.getElem_cons_zero, List.getElem_cons_succ]); go_simp <;> with_reducible rfl)
            (try simp only [List.getElem_toArray, List.getElem_cons_zero, List.getElem_cons_succ, Act.put, List.setIfInBounds_toArray, List.set_cons_zero, List.set_cons_succ])
            refine wpAnyH_take (i := 12) (oi := _) (v := ?vB_12) rfl (by kernel_rfl) (by kernel_rfl) (by kernel_rfl) (fun _ _ _ h => h) (Or.inl ⟨by rfl, ?yB_12⟩) hHeld ?rB_12
            case yB_12 => (intro w hSw; (try dsimp only at hSw); (try simp only [List.getElem_toArray, List.getElem_cons_zero, List.getElem_cons_succ]); go_simp <;> with_reducible rfl)
            (try simp only [List.getElem_toArray, List.getElem_cons_zero, List.getElem_cons_succ, Act.put, List.setIfInBounds_toArray, List.set_cons_zero, List.set_cons_succ])
            refine wpAnyH_take (i := 13) (oi := _) (v := ?vB_13) rfl (by kernel_rfl) (by kernel_rfl) (by kernel_rfl) (fun _ _ _ h => h) (Or.inl ⟨by rfl, ?yB_13⟩) hHeld ?rB_13
            case yB_13 => (intro w hSw; (try dsimp only at hSw); (try simp only [List.getElem_toArray, List.getElem_cons_zero, List.getElem_cons_succ]); go_simp <;> with_reducible rfl)
            (try simp only [List.getElem_toArray, List.getElem_cons_zero, List.getElem_cons_succ, Act.put, List.setIfInBounds_toArray, List.set_cons_zero, List.set_cons_succ])
            refine wpAnyH_take (i := 14) (oi := _) (v := _) rfl (by kernel_rfl) (by kernel_rfl) (by kernel_rfl) (fun _ _ _ h => h) (Or.inr ⟨by rfl, rfl⟩) hHeld ?_
            (try simp only [List.getElem_toArray, List.getElem_cons_zero, List.getElem_cons_succ, Act.put, List.setIfInBounds_toArray, List.set_cons_zero, List.set_cons_succ])
            refine wpAnyH_take (i := 15) (oi := _) (v := _) rfl (by kernel_rfl) (by kernel_rfl) (by kernel_rfl) (fun _ _ _ h => h) (Or.inr ⟨by rfl, rfl⟩) hHeld ?_
            (try simp only [List.getElem_toArray, List.getElem_cons_zero, List.getElem_cons_succ, Act.put, List.setIfInBounds_toArray, List.set_cons_zero, List.set_cons_succ])
            refine wpAnyH_take (i := 16) (oi := _) (v := _) rfl (by kernel_rfl) (by kernel_rfl) (by kernel_rfl) (fun _ _ _ h => h) (Or.inr ⟨by rfl, rfl⟩) hHeld ?_
            (try simp only [List.getElem_toArray, List.getElem_cons_zero, List.getElem_cons_succ, Act.put, List.setIfInBounds_toArray, List.set_cons_zero, List.set_cons_succ])
            refine wpAnyH_take (i := 17) (oi := _) (v := _) rfl (by kernel_rfl) (by kernel_rfl) (by kernel_rfl) (fun _ _ _ h => h) (Or.inr ⟨by rfl, rfl⟩) hHeld ?_
            (try simp only [List.getElem_toArray, List.getElem_cons_zero, List.getElem_cons_succ, Act.put, List.setIfInBounds_toArray, List.set_cons_zero, List.set_cons_succ])
            refine wpAnyH_take (i := 18) (oi := _) (v := _) rfl (by kernel_rfl) (by kernel_rfl) (by kernel_rfl) (fun _ _ _ h => h) (Or.inr ⟨by rfl, rfl⟩) hHeld ?_
            (try simp only [List.getElem_toArray, List.getElem_cons_zero, List.getElem_cons_succ, Act.put, List.setIfInBounds_toArray, List.set_cons_zero, List.set_cons_succ])
            refine wpAnyH_take (i := 19) (oi := _) (v := _) rfl (by kernel_rfl) (by kernel_rfl) (by kernel_rfl) (fun _ _ _ h => h) (Or.inr ⟨by rfl, rfl⟩) hHeld ?_
            (try simp only [List.getElem_toArray, List.getElem_cons_zero, List.getElem_cons_succ, Act.put, List.setIfInBounds_toArray, List.set_cons_zero, List.set_cons_succ])
            refine wpAnyH_take (i := 20) (oi := _) (v := _) rfl (by kernel_rfl) (by kernel_rfl) (by kernel_rfl) (fun _ _ _ h => h) (Or.inr ⟨by rfl, rfl⟩) hHeld ?_
            (try simp only [List.getElem_toArray, List.getElem_cons_zero, List.getElem_cons_succ, Act.put, List.setIfInBounds_toArray, List.set_cons_zero, List.set_cons_succ])
            refine wpAnyH_take (i := 21) (oi := _) (v := ?vB_21) rfl (by kernel_rfl) (by kernel_rfl) (by kernel_rfl) (fun _ _ _ h => h) (Or.inl ⟨by rfl, ?yB_21⟩) hHeld ?rB_21
            case yB_21 => (intro w hSw; (try dsimp only at hSw); (try simp only [List.getElem_toArray, List.getElem_cons_zero, List.getElem_cons_succ]); go_simp <;> with_reducible rfl)
            (try simp only [List.getElem_toArray, List.getElem_cons_zero, List.getElem_cons_succ, Act.put, List.setIfInBounds_toArray, List.set_cons_zero, List.set_cons_succ])
            refine wpAnyH_done (by kernel_rfl) ?_ _
            refine NoPanic.normal ?_
            have B9 := Lib.hid (K5.out.at (by simp) B3.out)
            have k9 := blk_cell (by have := B9.out; rw [E2.out] at this; exact this)
            obtain ⟨-, -, u9⟩ := UF.out _ D5.out
            have HR9 := Lib.hid (show R = (f.body, 6) from by rw [HR.out, HE.out]; exact if_neg (show ¬ (6 : Int) = 0 by decide))
            go_wp2_with fail
            go_ret2
            exact ⟨ret2P HR9.out, D5.out⟩
          · obtain ⟨wd, hwd⟩ : ∃ wd, wd = w3.drew := ⟨_, rfl⟩
            have D0 := Lib.hid (show Chg [] w3 wd by rw [hwd]; exact (Chg.refl _ _).drew)
            have D4 := Lib.hid (D3.out.thenSame D0.out)
            refine wp_region_noPanic ?_
            refine wp_region_held_drew (S := (fun w' => w'.cell? ⟨w.heap.size, 0, none⟩ = some (.slice x.na x.nodes.length x.nc) ∧ w'.cell? ⟨w.heap.size, 1, none⟩ = some (.slice (some ⟨b2, o2, none⟩) x.funcs.length x.fc) ∧ w'.cell? ⟨b2, o2 + j * 3, none⟩ = some (.string f.name) ∧ w'.cell? ⟨b2, o2 + j * 3 + 1, none⟩ = some (.slice f.pa f.params.length f.pc))) (by kernel_rfl) (by rw [← hwd]; exact VK.out _ D0.out) (fun hHeld => ?_)
            rw [← hwd] at hHeld ⊢
            clear hwd
            refine wpAnyH_take (i := 0) (oi := _) (v := ?vC_0) rfl (by kernel_rfl) (by kernel_rfl) (by kernel_rfl) (fun _ _ _ h => h) (Or.inl ⟨by rfl, ?yC_0⟩) hHeld ?rC_0
            case yC_0 => (intro w hSw; (try dsimp only at hSw); (try simp only [List.getElem_toArray, List.getElem_cons_zero, List.getElem_cons_succ]); go_simp <;> with_reducible rfl)
            (try simp only [List.getElem_toArray, List.getElem_cons_zero, List.getElem_cons_succ, Act.put, List.setIfInBounds_toArray, List.set_cons_zero, List.set_cons_succ])
            refine wpAnyH_take (i := 1) (oi := _) (v := ?vC_1) rfl (by kernel_rfl) (by kernel_rfl) (by kernel_rfl) (fun _ _ _ h => h) (Or.inl ⟨by rfl, ?yC_1⟩) hHeld ?rC_1
            case yC_1 => (intro w hSw; (try dsimp only at hSw); (try simp only [List.getElem_toArray, List.getElem_cons_zero, List.getElem_cons_succ]); go_simp <;> with_reducible rfl)
            (try simp only [List.getElem_toArray, List.getElem_cons_zero, List.getElem_cons_succ, Act.put, List.setIfInBounds_toArray, List.set_cons_zero, List.set_cons_succ])
            refine wpAnyH_take (i := 2) (oi := _) (v := ?vC_2) rfl (by kernel_rfl) (by kernel_rfl) (by kernel_rfl) (fun _ _ _ h => h) (Or.inl ⟨by rfl, ?yC_2⟩) hHeld ?rC_2
            case yC_2 => (intro w hSw; (try dsimp only at hSw); (try simp only [List.getElem_toArray, List.getElem_cons_zero, List.getElem_cons_succ]); go_simp <;> with_reducible rfl)
            (try simp only [List.getElem_toArray, List.getElem_cons_zero, List.getElem_cons_succ, Act.put, List.setIfInBounds_toArray, List.set_cons_zero, List.set_cons_succ])
            refine wpAnyH_take (i := 3) (oi := _) (v := ?vC_3) rfl (by kernel_rfl) (by kernel_rfl) (by kernel_rfl) (fun _ _ _ h => h) (Or.inl ⟨by rfl, ?yC_3⟩) hHeld ?rC_3
            case yC_3 => (intro w hSw; (try dsimp only at hSw); (try simp only [List.getElem_toArray, List.getElem_cons_zero, List.getElem_cons_succ]); go_simp <;> with_reducible rfl)
            (try simp only [List.getElem_toArray, List.getElem_cons_zero, List.getElem_cons_succ, Act.put, List.setIfInBounds_toArray, List.set_cons_zero, List.set_cons_succ])
            refine wpAnyH_take (i := 4) (oi := _) (v := ?vC_4) rfl (by kernel_rfl) (by kernel_rfl) (by kernel_rfl) (fun _ _ _ h => h) (Or.inl ⟨by rfl, ?yC_4⟩) hHeld ?rC_4
            case yC_4 => (intro w hSw; (try dsimp only at hSw); (try simp only [List.getElem_toArray, List.getElem_cons_zero, List.getElem_cons_succ]); go_simp <;> with_reducible rfl)
            (try simp only [List.getElem_toArray, List.getElem_cons_zero, List.getElem_cons_succ, Act.put, List.setIfInBounds_toArray, List.set_cons_zero, List.set_cons_succ])
            refine wpAnyH_take (i := 5) (oi := _) (v := ?vC_5) rfl (by kernel_rfl) (by kernel_rfl) (by kernel_rfl) (fun _ _ _ h => h) (Or.inl ⟨by rfl, ?yC_5⟩) hHeld ?rC_5
            case yC_5 => (intro w hSw; (try dsimp only at hSw); (try simp only [List.getElem_toArray, List.getElem_cons_zero, List.getElem_cons_succ]); go_simp <;> with_reducible rfl)
            (try simp only [List.getElem_toArray, List.getElem_cons_zero, List.getElem_cons_succ, Act.put, List.setIfInBounds_toArray, List.set_cons_zero, List.set_cons_succ])
            refine wpAnyH_take (i := 6) (oi := _) (v := ?vC_6) rfl (by kernel_rfl) (by kernel_rfl) (by kernel_rfl) (fun _ _ _ h => h) (Or.inl ⟨by rfl, ?yC_6⟩) hHeld ?rC_6
            case yC_6 => (intro w hSw; (try dsimp only at hSw); (try simp only [List.getElem_toArray, List.getElem_cons_zero, List.getElem_cons_succ]); go_simp <;> with_reducible rfl)
            (try simp only [List.getElem_toArray, List.getElem_cons_zero, List.getElem_cons_succ, Act.put, List.setIfInBounds_toArray, List.set_cons_zero, List.set_cons_succ])
            refine wpAnyH_take (i := 7) (oi := _) (v := ?vC_7) rfl (by kernel_rfl) (by kernel_rfl) (by kernel_rfl) (fun _ _ _ h => h) (Or.inl ⟨by rfl, ?yC_7⟩) hHeld ?rC_7
            case yC_7 => (intro w hSw; (try dsimp only at hSw); (try simp only [List.getElem_toArray, List.getElem_cons_zero, List.getElem_cons_succ]); go_simp <;> with_reducible rfl)
            (try simp only [List.getElem_toArray, List.getElem_cons_zero, List.getElem_cons_succ, Act.put, List.setIfInBounds_toArray, List.set_cons_zero, List.set_cons_succ])
            refine wpAnyH_take (i := 8) (oi := _) (v := ?vC_8) rfl (by kernel_rfl) (by kernel_rfl) (by kernel_rfl) (fun _ _ _ h => h) (Or.inl ⟨by rfl, ?yC_8⟩) hHeld ?rC_8
            case yC_8 => (intro w hSw; (try dsimp only at hSw); (try simp only [List.getElem_toArray, List.getElem_cons_zero, List.getElem_cons_succ]); go_simp <;> with_reducible rfl)
            (try simp only [List.getElem_toArray, List.getElem_cons_zero, List.getElem_cons_succ, Act.put, List.setIfInBounds_toArray, List.set_cons_zero, List.set_cons_succ])
            refine wpAnyH_take (i := 10) (oi := _) (v := ?vC_10) rfl (by kernel_rfl) (by kernel_rfl) (by kernel_rfl) (fun _ _ _ h => h) (Or.inl ⟨by rfl, ?yC_10⟩) hHeld ?rC_10
            case yC_10 => (intro w hSw; (try dsimp only at hSw); (try simp only [List.getElem_toArray, List.getElem_cons_zero, List.getElem_cons_succ]); go_simp <;> with_reducible rfl)
            (try simp only [List.getElem_toArray, List.getElem_cons_zero, List.getElem_cons_succ, Act.put, List.setIfInBounds_toArray, List.set_cons_zero, List.set_cons_succ])
            refine wpAnyH_ready (rs := [9]) (by kernel_rfl) (by simp) ?_
            refine AllReadyH.cons (o := _) rfl (fun K hK => ?_) AllReadyH.nil
            (try simp only [List.getElem_toArray, List.getElem_cons_zero, List.getElem_cons_succ])
            go_simp
            (go_at_call 31; (with_reducible refine Calls.mono (AF.out _ D4.out) ?_); rintro e w5 ⟨rfl, hc5⟩; have D5 := Lib.hid (D4.out.thenSame hc5); have K5 := Lib.hid (D0.out.thenSame hc5); clear hc5)
            refine hK.out _ _ ?_ (fun hHeld => ?_)
            exact VK.out _ K5.out
            clear hK K
            (try simp only [List.getElem_toArray, List.getElem_cons_zero, List.getElem_cons_succ, Act.put, List.setIfInBounds_toArray, List.set_cons_zero, List.set_cons_succ])
            refine wpAnyH_take (i := 11) (oi := _) (v := ?vC_11) rfl (by kernel_rfl) (by kernel_rfl) (by kernel_rfl) (fun _ _ _ h => h) (Or.inl ⟨by rfl, ?yC_11⟩) hHeld ?rC_11
            case yC_11 => (intro w hSw; (try dsimp only at hSw); (try simp only [List.getElem_toArray, List.getElem_cons_zero, List.getElem_cons_succ]); go_simp <;> with_reducible rfl)
            (try simp only [List.getElem_toArray, List.getElem_cons_zero, List.getElem_cons_succ, Act.put, List.setIfInBounds_toArray, List.set_cons_zero, List.set_cons_succ])
            refine wpAnyH_take (i := 12) (oi := _) (v := ?vC_12) rfl (by kernel_rfl) (by kernel_rfl) (by kernel_rfl) (fun _ _ _ h => h) (Or.inl ⟨by rfl, ?yC_12⟩) hHeld ?rC_12
            case yC_12 => (intro w hSw; (try dsimp only at hSw); (try simp only [List.getElem_toArray, List.getElem_cons_zero, List.getElem_cons_succ]); go_simp <;> with_reducible rfl)
            (try simp only [List.getElem_toArray, List.getElem_cons_zero, List.getElem_cons_succ, Act.put, List.setIfInBounds_toArray, List.set_cons_zero, List.set_cons_succ])
            refine wpAnyH_take (i := 13) (oi := _) (v := ?vC_13) rfl (by kernel_rfl) (by kernel_rfl) (by kernel_rfl) (fun _ _ _ h => h) (Or.inl ⟨by rfl, ?yC_13⟩) hHeld ?rC_13
            case yC_13 => (intro w hSw; (try dsimp only at hSw); (try simp only [List.getElem_toArray, List.getElem_cons_zero, List.getElem_cons_succ]); go_simp <;> with_reducible rfl)
            (try simp only [List.getElem_toArray, List.getElem_cons_zero, List.getElem_cons_succ, Act.put, List.setIfInBounds_toArray, List.set_cons_zero, List.set_cons_succ])
            refine wpAnyH_take (i := 14) (oi := _) (v := ?vC_14) rfl (by kernel_rfl) (by kernel_rfl) (by kernel_rfl) (fun _ _ _ h => h) (Or.inl ⟨by rfl, ?yC_14⟩) hHeld ?rC_14
            case yC_14 => (intro w hSw; (try dsimp only at hSw); (try simp only [List.getElem_toArray, List.getElem_cons_zero, List.getElem_cons_succ]); go_simp <;> with_reducible rfl)
            (try simp only [List.getElem_toArray, List.getElem_cons_zero, List.getElem_cons_succ, Act.put, List.setIfInBounds_toArray, List.set_cons_zero, List.set_cons_succ])
            refine wpAnyH_take (i := 15) (oi := _) (v := ?vC_15) rfl (by kernel_rfl) (by kernel_rfl) (by kernel_rfl) (fun _ _ _ h => h) (Or.inl ⟨by rfl, ?yC_15⟩) hHeld ?rC_15
            case yC_15 => (intro w hSw; (try dsimp only at hSw); (try simp only [List.getElem_toArray, List.getElem_cons_zero, List.getElem_cons_succ]); go_simp <;> with_reducible rfl)
            (try simp only [List.getElem_toArray, List.getElem_cons_zero, List.getElem_cons_succ, Act.put, List.setIfInBounds_toArray, List.set_cons_zero, List.set_cons_succ])
            refine wpAnyH_take (i := 16) (oi := _) (v := ?vC_16) rfl (by kernel_rfl) (by kernel_rfl) (by kernel_rfl) (fun _ _ _ h => h) (Or.inl ⟨by rfl, ?yC_16⟩) hHeld ?rC_16
            case yC_16 => (intro w hSw; (try dsimp only at hSw); (try simp only [List.getElem_toArray, List.getElem_cons_zero, List.getElem_cons_succ]); go_simp <;> with_reducible rfl)
            (try simp only [List.getElem_toArray, List.getElem_cons_zero, List.getElem_cons_succ, Act.put, List.setIfInBounds_toArray, List.set_cons_zero, List.set_cons_succ])
            refine wpAnyH_take (i := 17) (oi := _) (v := ?vC_17) rfl (by kernel_rfl) (by kernel_rfl) (by kernel_rfl) (fun _ _ _ h => h) (Or.inl ⟨by rfl, ?yC_17⟩) hHeld ?rC_17
            case yC_17 => (intro w hSw; (try dsimp only at hSw); (try simp only [List.getElem_toArray, List.getElem_cons_zero, List.getElem_cons_succ]); go_simp <;> with_reducible rfl)
            (try simp only [List.getElem_toArray, List.getElem_cons_zero, List.getElem_cons_succ, Act.put, List.setIfInBounds_toArray, List.set_cons_zero, List.set_cons_succ])
            refine wpAnyH_take (i := 18) (oi := _) (v := ?vC_18) rfl (by kernel_rfl) (by kernel_rfl) (by kernel_rfl) (fun _ _ _ h => h) (Or.inl ⟨by rfl, ?yC_18⟩) hHeld ?rC_18
            case yC_18 => (intro w hSw; (try dsimp only at hSw); (try simp only [List.getElem_toArray, List.getElem_cons_zero, List.getElem_cons_succ]); go_simp <;> with_reducible rfl)
            (try simp only [List.getElem_toArray, List.getElem_cons_zero, List.getElem_cons_succ, Act.put, List.setIfInBounds_toArray, List.set_cons_zero, List.set_cons_succ])
            refine wpAnyH_take (i := 19) (oi := _) (v := ?vC_19) rfl (by kernel_rfl) (by kernel_rfl) (by kernel_rfl) (fun _ _ _ h => h) (Or.inl ⟨by rfl, ?yC_19⟩) hHeld ?rC_19
            case yC_19 => (intro w hSw; (try dsimp only at hSw); (try simp only [List.getElem_toArray, List.getElem_cons_zero, List.getElem_cons_succ]); go_simp <;> with_reducible rfl)
            (try simp only [List.getElem_toArray, List.getElem_cons_zero, List.getElem_cons_succ, Act.put, List.setIfInBounds_toArray, List.set_cons_zero, List.set_cons_succ])
            refine wpAnyH_ready (rs := [20]) (by kernel_rfl) (by simp) ?_
            refine AllReadyH.cons (o := _) rfl (fun K hK => ?_) AllReadyH.nil
            (try simp only [List.getElem_toArray, List.getElem_cons_zero, List.getElem_cons_succ])
            go_simp
            (go_at_call 32; (with_reducible refine Calls.mono (RP.out _ D5.out) ?_); rintro e w6 ⟨rfl, hc6⟩; have D6 := Lib.hid (D5.out.thenSame hc6); have K6 := Lib.hid (K5.out.thenSame hc6); clear hc6)
            refine hK.out _ _ ?_ (fun hHeld => ?_)
            exact VK.out _ K6.out
            clear hK K
            (try simp only [List.getElem_toArray, List.getElem_cons_zero, List.getElem_cons_succ, Act.put, List.setIfInBounds_toArray, List.set_cons_zero, List.set_cons_succ])
            refine wpAnyH_take (i := 21) (oi := _) (v := ?vC_21) rfl (by kernel_rfl) (by kernel_rfl) (by kernel_rfl) (fun _ _ _ h => h) (Or.inl ⟨by rfl, ?yC_21⟩) hHeld ?rC_21
            case yC_21 => (intro w hSw; (try dsimp only at hSw); (try simp only [List.getElem_toArray, List.getElem_cons_zero, List.getElem_cons_succ]); go_simp <;> with_reducible rfl)
            (try simp only [List.getElem_toArray, List.getElem_cons_zero, List.getElem_cons_succ, Act.put, List.setIfInBounds_toArray, List.set_cons_zero, List.set_cons_succ])
            refine wpAnyH_done (by kernel_rfl) ?_ _
            refine NoPanic.normal ?_
            have B9 := Lib.hid (K6.out.at (by simp) B3.out)
            cases dq with
            | true =>
              have HE := Lib.hid (show funcsZ x.p = (f.body, 6) from by rw [HS3.out, decide_eq_false hv]; rfl)
              have k9 := blk_cell (by have := B9.out; rw [E2.out] at this; exact this)
              obtain ⟨-, -, u9⟩ := UF.out _ D6.out
              have HR9 := Lib.hid (show R = (f.body, 6) from by rw [HR.out, HE.out]; exact if_neg (show ¬ (6 : Int) = 0 by decide))
              go_wp2_with fail
              go_ret2
              exact ⟨ret2P HR9.out, D6.out⟩
            | false =>
              have HE := Lib.hid (show funcsZ x.p = fEndZ x.p (funcsGo x.p ((x.funcs.drop (j + 1)).map Fn'.p) ((j : Int) + 1)) from by rw [HS3.out, decide_eq_false hv]; rfl)
              go_wp2_with fail
              exact ⟨⟨j + 1, rfl, by omega, HE, D6, (by first | exact B9 | (rw [E2.out] at B9; exact B9))⟩, by simp [intOf]; omega⟩
      · have hje : j = x.funcs.length := by omega
        have HS2 := HS.out
        rw [hje, List.drop_length, List.map_nil, funcsGo] at HS2
        have HS3 := Lib.hid (show funcsZ x.p = mainZ x.p from HS2)
        have hjl' : ¬ (j : Int) < (x.funcs.length : Int) := by omega
        have k1 := blk_cell B.out
        have AF := Lib.hid (FA.out _ D.out ⟨#[109, 97, 105, 110]⟩)
        clear HS2 hje
        have hidx := idxFrom_get (p := fun g : PFn => g.name == mainS) (l := x.p.funcs) (k := 0)
        have hfe : x.p.funcs.length = x.funcs.length := List.length_map _
        have hmz : mainZ x.p = if idxFrom (fun g : PFn => g.name == mainS) x.p.funcs 0 < 0 then ((-1, 5) : Int × Int) else match x.p.funcs[(idxFrom (fun g : PFn => g.name == mainS) x.p.funcs 0).toNat]? with
          | none => (0, 0)
          | some f => if f.params.length = 1 then (0, 0) else (f.body, 7) := rfl
        have AF2 := Lib.hid (show Calls Tryz.prog 31 #[.agg #[.slice x.na x.nodes.length x.nc, .slice x.fa x.funcs.length x.fc], .string ⟨#[109, 97, 105, 110]⟩] wr fun e w' => e = .returned (.int .i64 (idxFrom (fun g : PFn => g.name == mainS) x.p.funcs 0)) ∧ Chg [] wr w' from AF.out)
        clear AF
        rcases hidx with hm | ⟨m, hm, hml, -⟩
        · have HE := Lib.hid (show R = (-1, 5) from by
            rw [HR.out, HS3.out, hmz, hm, if_pos (show (-1 : Int) < 0 by decide)]
            exact if_neg (by decide))
          have AF3 := Lib.hid (by have := AF2.out; rw [hm] at this; exact this)
          clear hmz hm AF2
          go_wp2_with (go_at_call 31; (with_reducible refine Calls.mono AF3.out ?_); rintro e w4 ⟨rfl, hc⟩; have D4 := Lib.hid (D.out.thenSame hc); clear k1 hc)
          go_ret2
          exact ⟨ret2P HE.out, D4.out⟩
        · rw [hfe] at hml
          have hm1 : idxFrom (fun g : PFn => g.name == mainS) x.p.funcs 0 = (m : Int) := by omega
          have hpm : x.p.funcs[m]? = some (x.funcs[m]).p := by
            show (x.funcs.map Fn'.p)[m]? = _
            rw [List.getElem?_map, List.getElem?_eq_getElem hml]
            rfl
          have hmz2 : funcsZ x.p = if (x.funcs[m]).params.length = 1 then (0, 0) else ((x.funcs[m]).body, 7) := by
            rw [HS3.out, hmz, hm1, if_neg (by omega), Int.toNat_natCast, hpm]
            rfl
          have AF3 := Lib.hid (by have := AF2.out; rw [hm1] at this; exact this)
          have HMZ := Lib.hid hmz2
          obtain ⟨b2, o2, e2, -, -, hc2⟩ := (HP.out _ D.out).2.1.1.elem (Chg.refl [] _) m hml
          have UF := Lib.hid (fun w' (hc : Chg [] w w') => show w'.cell? ⟨b2, o2 + m * 3 + 1, none⟩ = some (.slice (x.funcs[m]).pa (x.funcs[m]).params.length (x.funcs[m]).pc) ∧ w'.cell? ⟨b2, o2 + m * 3 + 2, none⟩ = some (.int .i64 (x.funcs[m]).body) from by
            obtain ⟨b7, o7, e7, -, -, hc7⟩ := (HP.out w' hc).2.1.1.elem (Chg.refl [] _) m hml
            have e8 := e2.symm.trans e7
            simp only [Option.some.injEq, Addr.mk.injEq, and_true] at e8
            obtain ⟨rfl, rfl⟩ := e8
            have g1 := hc7 1 (by omega)
            have g2 := hc7 2 (by omega)
            simp only [fnC, List.getElem?_cons_zero, List.getElem?_cons_succ, Nat.add_zero] at g1 g2
            exact ⟨g1, g2⟩)
          generalize x.funcs[m] = f at *
          have E2 := Lib.hid e2
          have hm' : (m : Int) < (x.funcs.length : Int) := by omega
          have hm0 : (0 : Int) ≤ (m : Int) := by omega
          have AF4 := Lib.hid (by have := AF3.out; rw [e2] at this; exact this)
          have AL2 := Lib.hid (fun w' (hc : Chg [] w w') => by have := AL.out w' hc HZ.out; rw [e2] at this; exact this)
          rw [e2] at k1
          rw [e2]
          clear hmz hm hm1 hmz2 hpm AF2 AF3 hc2 hfe
          by_cases hp : f.params.length = 1
          · have HE := Lib.hid (show R = ((allR x.p).node, (allR x.p).err) from by rw [HR.out, HMZ.out, if_pos hp]; exact if_pos rfl)
            have hpi : ((f.params.length : Int) != 1) = false := by rw [hp]; rfl
            clear hp
            go_upto_region 15 with (go_at_call 31; (with_reducible refine Calls.mono AF4.out ?_); rintro e w4 ⟨rfl, hc⟩; have D4 := Lib.hid (D.out.thenSame hc); have B4 := Lib.hid (hc.at (by simp) B.out); have k4 := blk_cell (by have := B4.out; rw [E2.out] at this; exact this); obtain ⟨u1, u2⟩ := UF.out _ D4.out; clear k1 hc)
            go_upto_region 16 with (go_at_call 33; (with_reducible refine Calls.mono (AL2.out _ D4.out) ?_); rintro e w5 ⟨na5, nn5, nc5, va5, vn5, vc5, sb5, rfl, -, hc⟩; (try rw [E2.out]); have D5 := Lib.hid (D4.out.thenSame hc); clear hc k4 u1 u2)
            obtain ⟨W6, hW6⟩ : ∃ W6, W6 = w5.alloc (.cells #[.slice x.na x.nodes.length x.nc, .slice (some ⟨b2, o2, none⟩) x.funcs.length x.fc, .slice na5 nn5 nc5, .slice va5 vn5 vc5, .int .i64 (allR x.p).next, .slice (some ⟨sb5, 0, none⟩) x.nodes.length x.nodes.length, .int .i64 (allR x.p).node, .int .i64 (allR x.p).err] 58) := ⟨_, rfl⟩
            have N6 := Lib.hid (show W6.heap[w5.heap.size]? = some _ by rw [hW6]; exact heap_alloc_new _ _)
            have D6 := Lib.hid (show Chg [] w W6 by rw [hW6]; exact D5.out.alloc _)
            have k6 := blk_cell N6.out
            rw [← hW6]
            clear hW6
            go_quiet (fail)
            have D7 := Lib.hid (D6.out.drewN nq)
            go_wp2_with fail
            go_ret2
            exact ⟨ret2P HE.out, D7.out⟩
          · have HE := Lib.hid (show R = (f.body, 7) from by rw [HR.out, HMZ.out, if_neg hp]; exact if_neg (show ¬ (7 : Int) = 0 by decide))
            have hpi : ((f.params.length : Int) != 1) = true := bne_iff_ne.2 (by omega)
            clear hp
            go_wp2_with (go_at_call 31; (with_reducible refine Calls.mono AF4.out ?_); rintro e w4 ⟨rfl, hc⟩; have D4 := Lib.hid (D.out.thenSame hc); have B4 := Lib.hid (hc.at (by simp) B.out); have k4 := blk_cell (by have := B4.out; rw [E2.out] at this; exact this); obtain ⟨u1, u2⟩ := UF.out _ D4.out; clear k1 hc)
            go_ret2
            exact ⟨ret2P HE.out, D4.out⟩
  · rw [if_neg hz] at hR
    have HE := Lib.hid hR
    have hzb : (scheckZ x.p != 0) = true := bne_iff_ne.2 hz
    generalize scheckZ x.p = sz at *
    clear hR hz h C8 AL
    go_enter Tryz.func11, Tryz.ntmps11
    go_upto_region 1 with fail
    rw [← hW1]
    clear hW1
    go_wp2_with (go_at_call 29; (with_reducible refine Calls.mono AC.out ?_); rintro e w2 ⟨rfl, hc⟩; have C2 := Lib.hid (C1.out.thenSame hc); clear hc k1)
    go_ret2
    exact ⟨ret2P HE.out, C2.out⟩
end Go.Proofs.YtolidiafomceiaaGreatDoor
