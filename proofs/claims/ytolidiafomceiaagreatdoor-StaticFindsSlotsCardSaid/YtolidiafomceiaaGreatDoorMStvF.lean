/- Chapter 9: the law's right. Condition: at most 600 nodes; the slot is right. Chapter 9: StaticFindsSlots: the walk. Condition: the table of Itoa lies as the program lays it; the form's own bound on texts. -/
import Derived.Test.YtolidiafomceiaaGreatDoorStvA
import Derived.Test.YtolidiafomceiaaGreatDoorSttA
import Derived.Test.YtolidiafomceiaaGreatDoorStuF
import Derived.Test.YtolidiafomceiaaGreatDoorMSttM
namespace Go.Proofs.YtolidiafomceiaaGreatDoor
set_option linter.unusedVariables false
set_option linter.unusedSimpArgs false
open Go.RowKit
set_option maxHeartbeats 16000000 in
set_option maxRecDepth 100000 in
theorem right_any (x : Pr) (w : World) (h : PrIn w x) {sa : Option Addr} {sc : Nat} {sl : List Int} (hs : InIs icI 1 w sa sc sl) (hl : sl.length = x.nodes.length) (hN : x.nodes.length ≤ 600) (f : Nat) (hf : f < x.funcs.length) (a i : Nat) (hai : a ≤ i) (hi : i < x.nodes.length) (n : Int) (hr : NodeR x.p (x.funcs[f]).params a i sl n) :
    Calls Tryz.prog 15 #[.agg (prC x).toArray, .slice sa sl.length sc, .int .i64 f, .int .i64 a, .int .i64 i, .int .i64 n] w fun e w' => e = .returned (.bool true) ∧ Chg [] w w' := by
  obtain ⟨y, v, hy, hv, c13, cvar, cno⟩ := hr
  obtain ⟨W1, hW1⟩ : ∃ W1, W1 = w.alloc (prO x) := ⟨_, rfl⟩
  have C1 := Lib.hid (show Chg [] w W1 by rw [hW1]; exact (Chg.refl _ _).alloc _)
  have B1 := Lib.hid (show W1.heap[w.heap.size]? = some (prO x) by rw [hW1]; exact heap_alloc_new _ _)
  have HP := Lib.hid (fun w' (hc : Chg [] w w') => h.kept hc)
  have HS := Lib.hid (fun w' (hc : Chg [] w w') => hs.kept hc)
  have HL := Lib.hid hl
  have hi0 : (0 : Int) ≤ (i : Int) := by omega
  have hi1 : (i : Int) < (x.nodes.length : Int) := by omega
  have hi2 : (i : Int) < (sl.length : Int) := by omega
  have his : i < sl.length := by omega
  have hf0 : (0 : Int) ≤ (f : Int) := by omega
  have hf1 : (f : Int) < (x.funcs.length : Int) := by omega
  have ha0 : (0 : Int) ≤ (a : Int) := by omega
  have hy2 : y = (x.nodes[i]).p := by
    have : x.p.nodes[i]? = some (x.nodes[i]).p := by
      show (x.nodes.map Nd.p)[i]? = _
      rw [List.getElem?_map, List.getElem?_eq_getElem hi]
      rfl
    rw [hy] at this
    injection this
  subst hy2
  have hv2 : sl[i] = v := (List.getElem?_eq_some_iff.1 hv).2
  obtain ⟨b6, o6, e6, hb6, hB6, hc6⟩ := hs.1.elem (Chg.refl [] w) i his
  subst e6
  have SE := Lib.hid (fun w' (hc : Chg [] w w') (k : Nat) (hk : k < sl.length) => show w'.cell? ⟨b6, o6 + k, none⟩ = some (.int .i64 sl[k]) from by
    obtain ⟨b7, o7, e7, -, -, hc7⟩ := (HS.out w' hc).1.elem (Chg.refl [] w') k hk
    simp only [Option.some.injEq, Addr.mk.injEq, and_true] at e7
    obtain ⟨rfl, rfl⟩ := e7
    have := hc7 0 (by omega)
    simpa [icI] using this)
  obtain ⟨b3, o3, e3, -, -, hc3⟩ := (h.1.1.1).elem C1.out i hi
  have NE := Lib.hid (fun w' (hc : Chg [] w w') (k : Nat) (hk : k < x.nodes.length) => show w'.cell? ⟨b3, o3 + k * 5, none⟩ = some (.int .i64 (x.nodes[k]).kind) ∧ w'.cell? ⟨b3, o3 + k * 5 + 1, none⟩ = some (.string (x.nodes[k]).text) from by
    obtain ⟨b7, o7, e7, -, -, hc7⟩ := ((HP.out w' hc).1.1.1).elem (Chg.refl [] w') k hk
    have e8 := e3.symm.trans e7
    simp only [Option.some.injEq, Addr.mk.injEq, and_true] at e8
    obtain ⟨rfl, rfl⟩ := e8
    have g0 := hc7 0 (by omega)
    have g1 := hc7 1 (by omega)
    simp only [ndC, List.getElem?_cons_zero, List.getElem?_cons_succ, Nat.add_zero] at g0 g1
    exact ⟨g0, g1⟩)
  have v0 := hc3 0 (by omega)
  have v1 := hc3 1 (by omega)
  have v2 := hc3 2 (by omega)
  have v3 := hc3 3 (by omega)
  have v4 := hc3 4 (by omega)
  simp only [ndC, List.getElem?_cons_zero, List.getElem?_cons_succ, Nat.add_zero] at v0 v1 v2 v3 v4
  have KN := Lib.hid (fun (k : Nat) (hk : k < x.nodes.length) => show x.p.nodes[k]? = some (x.nodes[k]).p from by
    show (x.nodes.map Nd.p)[k]? = _
    rw [List.getElem?_map, List.getElem?_eq_getElem hk]
    rfl)
  obtain ⟨b2, o2, e2, -, -, hc2⟩ := (h.2.1.1).elem (Chg.refl [] w) f hf
  have FE := Lib.hid (fun w' (hc : Chg [] w w') => show w'.cell? ⟨b2, o2 + f * 3 + 1, none⟩ = some (.slice (x.funcs[f]).pa (x.funcs[f]).params.length (x.funcs[f]).pc) from by
    obtain ⟨b7, o7, e7, -, -, hc7⟩ := ((HP.out w' hc).2.1.1).elem (Chg.refl [] w') f hf
    have e8 := e2.symm.trans e7
    simp only [Option.some.injEq, Addr.mk.injEq, and_true] at e8
    obtain ⟨rfl, rfl⟩ := e8
    have g1 := hc7 1 (by omega)
    simp only [fnC, List.getElem?_cons_zero, List.getElem?_cons_succ, Nat.add_zero] at g1
    exact g1)
  have PE := Lib.hid (fun w' (hc : Chg [] w w') => show InIs skC 1 w' (x.funcs[f]).pa (x.funcs[f]).pc (x.funcs[f]).params from (HP.out w' hc).2.2 _ (List.getElem_mem hf))
  generalize x.funcs[f] = fn at *
  generalize hd : x.nodes[i] = d at *
  have HDD := Lib.hid hd
  obtain ⟨W2, hW2⟩ : ∃ W2, W2 = W1.alloc (ndO d) := ⟨_, rfl⟩
  have C2 := Lib.hid (show Chg [] w W2 by rw [hW2]; exact C1.out.alloc _)
  have B2 := Lib.hid (show W2.heap[w.heap.size]? = some (prO x) by rw [hW2]; exact blk_alloc B1.out)
  have N2 := Lib.hid (show W2.heap[W1.heap.size]? = some (ndO d) by rw [hW2]; exact heap_alloc_new _ _)
  unfold prO at hW1 B1 B2
  unfold ndO at hW2 N2
  have k1 := blk_cell (by have := B1.out; rw [e2, e3] at this; exact this)
  have k2 := blk_cell (by have := B2.out; rw [e2, e3] at this; exact this)
  have n2 := blk_cell N2.out
  have f2 := FE.out _ C2.out
  have s2 := SE.out _ C2.out i his
  rw [hv2] at s2
  have HV := Lib.hid hv2
  have E2 := Lib.hid e2
  have E3 := Lib.hid e3
  simp only [prC, e2, e3] at hW1 ⊢
  clear h hs hl hy hv hv2 hc2 hc3 hb6 hB6 e2 e3 hd
  go_enter Tryz.func15, Tryz.ntmps15
  go_upto_region 1 with fail
  rw [← hW1]
  clear hW1
  go_upto_region 2 with fail
  rw [← hW2]
  clear hW2 v0 v1 v2 v3 v4 k1
  generalize W1.heap.size = nb at *
  generalize w.heap.size = pb at *
  by_cases h5 : d.kind = 5 ∨ d.kind = 14
  · obtain ⟨p1, p2, p3⟩ := cvar h5
    have g13 : (d.kind != 13) = true := bne_iff_ne.2 (by omega)
    have h13b : (d.kind == 13) = false := beq_eq_false_iff_ne.2 (by omega)
    have hv0 : ¬ v < 0 := by omega
    have hvn : ¬ v ≥ n := by omega
    rcases h5 with h5 | h14
    · have g5 : (d.kind != 5) = false := by rw [h5]; rfl
      clear c13 cvar cno h5
      rcases p3 with ⟨m, hm, hms⟩ | ⟨hvp, k0, hk0a, hk0i, y0, hy0, hy13, hyt, hys⟩
      · have hml := (List.getElem?_eq_some_iff.1 hms)
        obtain ⟨hml, hme⟩ := hml
        have hvp : v < (fn.params.length : Int) := by omega
        subst hm
        obtain ⟨b4, o4, e4, -, -, hc4⟩ := (PE.out _ C2.out).1.elem (Chg.refl [] _) m hml
        have u4 := hc4 0 (by omega)
        simp only [skC, List.getElem?_cons_zero, Nat.add_zero, Nat.mul_one] at u4
        rw [hme] at u4
        rw [e4] at f2
        have hm0 : (0 : Int) ≤ (m : Int) := by omega
        clear hc4 hme hms
        go_wp2_with fail
        go_quiet (fail)
        have D3 := Lib.hid (C2.out.drewN nq)
        go_wp2_with fail
        go_ret
        exact ⟨retB (show (d.p.text.toList == d.text.toList) = true from beq_self_eq_true _), D3.out⟩
      · have hvp2 : ¬ v < (fn.params.length : Int) := by omega
        have hy0' : k0 < x.nodes.length := by omega
        have hyk : y0 = (x.nodes[k0]).p := by
          have := KN.out k0 hy0'
          rw [hy0] at this
          injection this
        subst hyk
        have HY13 := Lib.hid (show (x.nodes[k0]).kind = 13 from hy13)
        have HYT := Lib.hid (show (x.nodes[k0]).text = d.text from hyt)
        have HYS := Lib.hid (show ∀ h : k0 < sl.length, sl[k0] = v from fun h => (List.getElem?_eq_some_iff.1 hys).2)
        clear hy0 hy13 hyt hys p1 p2
        go_wp2_with fail
        go_loopw [16] (fun u wi => ∃ k : Nat, u = .int .i64 k ∧ a ≤ k ∧ k ≤ k0 ∧ Hid (Chg [] W2 wi)) (fun u _ => i - (intOf u).toNat)
        case atStart => exact ⟨a, rfl, Nat.le_refl _, hk0a, Lib.hid (Chg.refl _ _)⟩
        case round =>
          obtain ⟨k, rfl, hka, hkk0, D⟩ := hrel
          have C5 := Lib.hid (C2.out.thenSame D.out)
          have k5 := blk_cell (D.out.at (by simp) N2.out)
          have k6 := blk_cell (by have := D.out.at (by simp) B2.out; rw [E2.out, E3.out] at this; exact this)
          have s5 := SE.out _ C5.out i his
          rw [HV.out] at s5
          have hk0 : (0 : Int) ≤ (k : Int) := by omega
          have hk : k < i := by omega
          have hk' : (k : Int) < (i : Int) := by omega
          have hkn : (k : Int) < (x.nodes.length : Int) := by omega
          have hks : (k : Int) < (sl.length : Int) := by omega
          have hksn : k < sl.length := by omega
          have hknn : k < x.nodes.length := by omega
          have sk := SE.out _ C5.out k hksn
          obtain ⟨nk, tk⟩ := NE.out _ C5.out k (by omega)
          have q1 : IntKind.i64.wrap ((k : Int) + 1) = (k : Int) + 1 := IntWalk.i64_in _ (by omega)
          have HGO := Lib.hid (show ((x.nodes[k]).kind = 13 ∧ sl[k] = v ∧ (x.nodes[k]).text = d.text) ∨ k < k0 from by
            by_cases e : k = k0
            · subst e
              exact .inl ⟨HY13.out, HYS.out hksn, HYT.out⟩
            · exact .inr (by omega))
          generalize (x.nodes[k]).kind = kk at *
          generalize (x.nodes[k]).text = kt at *
          generalize sl[k] = sv at *
          cases hb1 : (kk == 13)
          · have hlt : k < k0 := by
              rcases HGO.out with ⟨h, -⟩ | h
              · rw [h] at hb1; cases hb1
              · exact h
            go_wp2_with fail
            go_quiet (fail)
            have D3 := Lib.hid (D.out.drewN nq)
            go_wp2_with fail
            exact ⟨⟨k + 1, rfl, by omega, by omega, D3⟩, by simp [intOf]; omega⟩
          · cases hb2 : (sv == v)
            · have hlt : k < k0 := by
                rcases HGO.out with ⟨-, h, -⟩ | h
                · rw [h] at hb2; simp at hb2
                · exact h
              go_wp2_with fail
              go_quiet (fail)
              have D3 := Lib.hid (D.out.drewN nq)
              go_wp2_with fail
              exact ⟨⟨k + 1, rfl, by omega, by omega, D3⟩, by simp [intOf]; omega⟩
            · cases hb3 : (kt.toList == d.text.toList)
              · have hlt : k < k0 := by
                  rcases HGO.out with ⟨-, -, h⟩ | h
                  · rw [h] at hb3; simp at hb3
                  · exact h
                go_wp2_with fail
                go_quiet (fail)
                have D3 := Lib.hid (D.out.drewN nq)
                go_wp2_with fail
                exact ⟨⟨k + 1, rfl, by omega, by omega, D3⟩, by simp [intOf]; omega⟩
              · go_wp2_with fail
                go_quiet (fail)
                have D3 := Lib.hid (C5.out.drewN nq)
                go_wp2_with fail
                go_ret
                exact ⟨rfl, D3.out⟩
    · have g5 : (d.kind != 5) = true := bne_iff_ne.2 (by omega)
      have g14 : (d.kind != 14) = false := by rw [h14]; rfl
      clear c13 cvar cno h14
      rcases p3 with ⟨m, hm, hms⟩ | ⟨hvp, k0, hk0a, hk0i, y0, hy0, hy13, hyt, hys⟩
      · have hml := (List.getElem?_eq_some_iff.1 hms)
        obtain ⟨hml, hme⟩ := hml
        have hvp : v < (fn.params.length : Int) := by omega
        subst hm
        obtain ⟨b4, o4, e4, -, -, hc4⟩ := (PE.out _ C2.out).1.elem (Chg.refl [] _) m hml
        have u4 := hc4 0 (by omega)
        simp only [skC, List.getElem?_cons_zero, Nat.add_zero, Nat.mul_one] at u4
        rw [hme] at u4
        rw [e4] at f2
        have hm0 : (0 : Int) ≤ (m : Int) := by omega
        clear hc4 hme hms
        go_wp2_with fail
        go_quiet (fail)
        have D3 := Lib.hid (C2.out.drewN nq)
        go_wp2_with fail
        go_ret
        exact ⟨retB (show (d.p.text.toList == d.text.toList) = true from beq_self_eq_true _), D3.out⟩
      · have hvp2 : ¬ v < (fn.params.length : Int) := by omega
        have hy0' : k0 < x.nodes.length := by omega
        have hyk : y0 = (x.nodes[k0]).p := by
          have := KN.out k0 hy0'
          rw [hy0] at this
          injection this
        subst hyk
        have HY13 := Lib.hid (show (x.nodes[k0]).kind = 13 from hy13)
        have HYT := Lib.hid (show (x.nodes[k0]).text = d.text from hyt)
        have HYS := Lib.hid (show ∀ h : k0 < sl.length, sl[k0] = v from fun h => (List.getElem?_eq_some_iff.1 hys).2)
        clear hy0 hy13 hyt hys p1 p2
        go_wp2_with fail
        go_loopw [16] (fun u wi => ∃ k : Nat, u = .int .i64 k ∧ a ≤ k ∧ k ≤ k0 ∧ Hid (Chg [] W2 wi)) (fun u _ => i - (intOf u).toNat)
        case atStart => exact ⟨a, rfl, Nat.le_refl _, hk0a, Lib.hid (Chg.refl _ _)⟩
        case round =>
          obtain ⟨k, rfl, hka, hkk0, D⟩ := hrel
          have C5 := Lib.hid (C2.out.thenSame D.out)
          have k5 := blk_cell (D.out.at (by simp) N2.out)
          have k6 := blk_cell (by have := D.out.at (by simp) B2.out; rw [E2.out, E3.out] at this; exact this)
          have s5 := SE.out _ C5.out i his
          rw [HV.out] at s5
          have hk0 : (0 : Int) ≤ (k : Int) := by omega
          have hk : k < i := by omega
          have hk' : (k : Int) < (i : Int) := by omega
          have hkn : (k : Int) < (x.nodes.length : Int) := by omega
          have hks : (k : Int) < (sl.length : Int) := by omega
          have hksn : k < sl.length := by omega
          have hknn : k < x.nodes.length := by omega
          have sk := SE.out _ C5.out k hksn
          obtain ⟨nk, tk⟩ := NE.out _ C5.out k (by omega)
          have q1 : IntKind.i64.wrap ((k : Int) + 1) = (k : Int) + 1 := IntWalk.i64_in _ (by omega)
          have HGO := Lib.hid (show ((x.nodes[k]).kind = 13 ∧ sl[k] = v ∧ (x.nodes[k]).text = d.text) ∨ k < k0 from by
            by_cases e : k = k0
            · subst e
              exact .inl ⟨HY13.out, HYS.out hksn, HYT.out⟩
            · exact .inr (by omega))
          generalize (x.nodes[k]).kind = kk at *
          generalize (x.nodes[k]).text = kt at *
          generalize sl[k] = sv at *
          cases hb1 : (kk == 13)
          · have hlt : k < k0 := by
              rcases HGO.out with ⟨h, -⟩ | h
              · rw [h] at hb1; cases hb1
              · exact h
            go_wp2_with fail
            go_quiet (fail)
            have D3 := Lib.hid (D.out.drewN nq)
            go_wp2_with fail
            exact ⟨⟨k + 1, rfl, by omega, by omega, D3⟩, by simp [intOf]; omega⟩
          · cases hb2 : (sv == v)
            · have hlt : k < k0 := by
                rcases HGO.out with ⟨-, h, -⟩ | h
                · rw [h] at hb2; simp at hb2
                · exact h
              go_wp2_with fail
              go_quiet (fail)
              have D3 := Lib.hid (D.out.drewN nq)
              go_wp2_with fail
              exact ⟨⟨k + 1, rfl, by omega, by omega, D3⟩, by simp [intOf]; omega⟩
            · cases hb3 : (kt.toList == d.text.toList)
              · have hlt : k < k0 := by
                  rcases HGO.out with ⟨-, -, h⟩ | h
                  · rw [h] at hb3; simp at hb3
                  · exact h
                go_wp2_with fail
                go_quiet (fail)
                have D3 := Lib.hid (D.out.drewN nq)
                go_wp2_with fail
                exact ⟨⟨k + 1, rfl, by omega, by omega, D3⟩, by simp [intOf]; omega⟩
              · go_wp2_with fail
                go_quiet (fail)
                have D3 := Lib.hid (C5.out.drewN nq)
                go_wp2_with fail
                go_ret
                exact ⟨rfl, D3.out⟩
  · have g5 : (d.kind != 5) = true := bne_iff_ne.2 (fun e => h5 (.inl e))
    have g14 : (d.kind != 14) = true := bne_iff_ne.2 (fun e => h5 (.inr e))
    by_cases h13 : d.kind = 13
    · obtain ⟨p1, p2, p3⟩ := c13 h13
      have P3 := Lib.hid (fun (k : Nat) (hka : a ≤ k) (hki : k < i) (hk13 : (x.nodes[k]'(by omega)).kind = 13) => show ¬ sl[k]'(by have := HL.out; omega) = v from fun e => p3 k _ hka hki (KN.out k (by omega)) hk13 (by rw [List.getElem?_eq_getElem (by have := HL.out; omega), e]))
      have g13 : (d.kind != 13) = false := by rw [h13]; rfl
      have h13b : (d.kind == 13) = true := by rw [h13]; rfl
      have hpl : (0 : Int) ≤ (fn.params.length : Int) := Int.natCast_nonneg _
      have hv0 : ¬ v < 0 := by omega
      have hvn : ¬ v ≥ n := by omega
      have hvp : v ≥ (fn.params.length : Int) := p1
      clear c13 cvar cno h5 p1 p2 p3
      go_wp2_with fail
      go_loopw [15] (fun u wi => ∃ k : Nat, u = .int .i64 k ∧ a ≤ k ∧ k ≤ i ∧ Hid (Chg [] W2 wi)) (fun u _ => i - (intOf u).toNat)
      case atStart => exact ⟨a, rfl, Nat.le_refl _, hai, Lib.hid (Chg.refl _ _)⟩
      case round =>
        obtain ⟨k, rfl, hka, hki, D⟩ := hrel
        have C5 := Lib.hid (C2.out.thenSame D.out)
        have k5 := blk_cell (D.out.at (by simp) N2.out)
        have k6 := blk_cell (by have := D.out.at (by simp) B2.out; rw [E2.out, E3.out] at this; exact this)
        have s5 := SE.out _ C5.out i his
        rw [HV.out] at s5
        have hk0 : (0 : Int) ≤ (k : Int) := by omega
        by_cases hk : k < i
        · have hk' : (k : Int) < (i : Int) := by omega
          have hkn : (k : Int) < (x.nodes.length : Int) := by omega
          have hks : (k : Int) < (sl.length : Int) := by omega
          have hksn : k < sl.length := by omega
          have sk := SE.out _ C5.out k hksn
          obtain ⟨nk, -⟩ := NE.out _ C5.out k (by omega)
          have q1 : IntKind.i64.wrap ((k : Int) + 1) = (k : Int) + 1 := IntWalk.i64_in _ (by omega)
          by_cases hk13 : (x.nodes[k]'(by omega)).kind = 13
          · have hne := P3.out k hka hk hk13
            have hk13b : ((x.nodes[k]'(by omega)).kind == 13) = true := by rw [hk13]; rfl
            have hneb : (sl[k] == v) = false := beq_eq_false_iff_ne.2 hne
            clear hk13 hne
            generalize (x.nodes[k]).kind = kk at *
            generalize sl[k] = sv at *
            go_wp2_with fail
            go_quiet (fail)
            have D3 := Lib.hid (D.out.drewN nq)
            go_wp2_with fail
            exact ⟨⟨k + 1, rfl, by omega, by omega, D3⟩, by simp [intOf]; omega⟩
          · have hk13b : ((x.nodes[k]'(by omega)).kind == 13) = false := beq_eq_false_iff_ne.2 hk13
            clear hk13
            generalize (x.nodes[k]).kind = kk at *
            go_wp2_with fail
            go_quiet (fail)
            have D3 := Lib.hid (D.out.drewN nq)
            go_wp2_with fail
            exact ⟨⟨k + 1, rfl, by omega, by omega, D3⟩, by simp [intOf]; omega⟩
        · have hk' : ¬ (k : Int) < (i : Int) := by omega
          go_wp2_with fail
          go_ret
          exact ⟨by first | rfl | exact retB (decide_eq_true hvp) | simp, C5.out⟩
    · have g13 : (d.kind != 13) = true := bne_iff_ne.2 h13
      have hv1 : v = -1 := cno h13 (fun e => h5 (.inl e)) (fun e => h5 (.inr e))
      subst hv1
      clear c13 cvar cno h5
      go_wp2_with fail
      go_ret
      exact ⟨rfl, C2.out⟩
end Go.Proofs.YtolidiafomceiaaGreatDoor
namespace Go.Proofs.YtolidiafomceiaaGreatDoor
set_option linter.unusedVariables false
set_option linter.unusedSimpArgs false
open Go.RowKit
set_option maxHeartbeats 16000000 in
set_option maxRecDepth 100000 in
theorem rcheck8_any (x : Pr) (w : World) (h : PrIn w x) (hz : szPr x) : Calls Tryz.prog 29 #[.agg (prC x).toArray] w fun e w' => e = .returned (.int .i64 (scheckZ x.p)) ∧ Chg [] w w' := by
  have := rcheck8_of x w h (fun h1 h2 w' hc => rmeasure_any x w' (h.kept hc) hz h1 h2)
  rw [rvalid_eq] at this
  exact this
set_option maxHeartbeats 16000000 in
set_option maxRecDepth 100000 in
theorem rvalid_any (x : Pr) (w : World) (h : PrIn w x) (hz : szPr x) : Calls Tryz.prog 12 #[.agg (prC x).toArray] w fun e w' => e = .returned (.int .i64 (scheckZ x.p)) ∧ Chg [] w w' := by
  obtain ⟨W1, hW1⟩ : ∃ W1, W1 = w.alloc (prO x) := ⟨_, rfl⟩
  have C1 := Lib.hid (show Chg [] w W1 by rw [hW1]; exact (Chg.refl _ _).alloc _)
  have B1 := Lib.hid (show W1.heap[w.heap.size]? = some (prO x) by rw [hW1]; exact heap_alloc_new _ _)
  have A := Lib.hid (rcheck8_any x W1 (h.kept C1.out) hz)
  unfold prO at hW1 B1
  have k1 := blk_cell B1.out
  simp only [prC] at A ⊢
  generalize scheckZ x.p = R at *
  clear h hz
  go_enter Tryz.func12, Tryz.ntmps12
  go_upto_region 1 with fail
  rw [← hW1]
  clear hW1
  go_wp2_with (go_at_call 29; (with_reducible refine Calls.mono A.out ?_); rintro e w2 ⟨rfl, hc⟩; have C2 := Lib.hid (C1.out.thenSame hc); clear k1 hc)
  go_ret
  exact ⟨rfl, C2.out⟩
theorem localsZ_at {p : PPr} (h : (studyZ p).2.2.2 = 0) {f : Nat} {n : Int} (hn : (studyZ p).2.1[f]? = some n) : localsZ p f = (n, 0) := by
  unfold localsZ
  rw [if_pos h, if_pos ⟨by omega, by rw [Int.toNat_natCast]; exact (List.getElem?_eq_some_iff.1 hn).1⟩, Int.toNat_natCast, hn]
  rfl
theorem studyZ_eq {p : PPr} (h : (studyZ p).2.2.2 = 0) : studyZ p = ((studyZ p).1, (studyZ p).2.1, (studyZ p).2.2.1, 0) := by
  rw [← h]
theorem RunsR.step {p : PPr} {sl : List Int} {fs : List Fn'} {lo : List Int} {f a : Nat} (hf : f < fs.length) (h : RunsR p sl ((fs.drop f).map Fn'.p) a (lo.drop f)) : ∃ (b : Nat) (n : Int), lo[f]? = some n ∧ (fs[f]).body = (b : Int) ∧ a ≤ b ∧ b < p.nodes.length ∧ ((fs[f]).params.length : Int) ≤ n ∧ n ≤ ((fs[f]).params.length : Int) + 600 ∧ (∀ k, a ≤ k → k ≤ b → NodeR p (fs[f]).params a k sl n) ∧ RunsR p sl ((fs.drop (f + 1)).map Fn'.p) (b + 1) (lo.drop (f + 1)) := by
  rw [List.drop_eq_getElem_cons hf, List.map_cons, RunsR] at h
  obtain ⟨b, n, ns', h1, h2, h3, h4, h5, h6, h7, h8⟩ := h
  have hlt : f < lo.length := by
    rcases Nat.lt_or_ge f lo.length with h | h
    · exact h
    · rw [List.drop_of_length_le h] at h1
      cases h1
  rw [List.drop_eq_getElem_cons hlt] at h1
  injection h1 with e1 e2
  exact ⟨b, n, by rw [List.getElem?_eq_getElem hlt, e1], h2, h3, h4, h5, h6, h7, by rw [e2]; exact h8⟩
set_option maxHeartbeats 16000000 in
set_option maxRecDepth 100000 in
theorem finds_walk (x : Pr) (w : World) (h : (PrIn w x ∧ goodPr x) ∧ szPr x) (ht : TabW w) : Calls Tryz.prog 4 #[.agg (prC x).toArray] w fun e w' => e = .returned (.bool true) ∧ Below w.heap.size w w' := by
  obtain ⟨⟨hp, hg⟩, hz⟩ := h
  obtain ⟨W1, hW1⟩ : ∃ W1, W1 = w.alloc (prO x) := ⟨_, rfl⟩
  have C1 := Lib.hid (show Chg [] w W1 by rw [hW1]; exact (Chg.refl _ _).alloc _)
  have B1 := Lib.hid (show W1.heap[w.heap.size]? = some (prO x) by rw [hW1]; exact heap_alloc_new _ _)
  have SM := Lib.hid (small_any x W1 (hp.kept C1.out))
  have RV := Lib.hid (fun w' (hc : Chg [] w w') => rvalid_any x w' (hp.kept hc) hz)
  have CK := Lib.hid (fun w' (hc : Chg [] w w') => check_any x w' (hp.kept hc) hg (ht.kept hc))
  have SL := Lib.hid (fun w' (hc : Chg [] w w') => slots_any x w' (hp.kept hc) hg (ht.kept hc))
  have LO := Lib.hid (fun w' (hc : Chg [] w w') (f : Int) => locals_any x f w' (hp.kept hc) hg (ht.kept hc))
  have AW := Lib.hid (fun w' (hc : Chg [] w w') => stawake_any w' (ht.kept hc))
  have HP := Lib.hid (fun w' (hc : Chg [] w w') => hp.kept hc)
  obtain ⟨ha1, ha2⟩ := study_at x.p
  rw [show x.p.nodes.length = x.nodes.length from List.length_map _] at ha2
  unfold prO at hW1 B1
  have k1 := blk_cell B1.out
  by_cases he : (studyZ x.p).2.2.2 = 0
  · have HE := Lib.hid he
    have hsc := (study_zero he).1
    obtain ⟨hn6, hf16⟩ := study_nodes he
    obtain ⟨hrr, hsl, hll⟩ := study_right (studyZ_eq he)
    have HLO := Lib.hid (fun (f : Nat) (n : Int) (hn : (studyZ x.p).2.1[f]? = some n) => localsZ_at he hn)
    rw [hsc] at RV
    rw [he] at CK SL
    simp only [prC] at SM CK SL LO RV ⊢
    have HRR := Lib.hid (show RunsR x.p (studyZ x.p).1 ((x.funcs.drop 0).map Fn'.p) 0 ((studyZ x.p).2.1.drop 0) from hrr)
    have HSL := Lib.hid (show (studyZ x.p).1.length = x.nodes.length from by rw [hsl]; exact List.length_map _)
    have hsl6 : (studyZ x.p).1.length ≤ 600 := by rw [HSL.out]; exact hn6
    generalize (studyZ x.p).1 = sl at *
    generalize hlo : (studyZ x.p).2.1 = lo at *
    generalize (studyZ x.p).2.2.1 = ea at *
    generalize smallN x = sm at *
    have hn6i : (x.nodes.length : Int) ≤ 600 := by omega
    have hf16i : (x.funcs.length : Int) ≤ 16 := by omega
    clear hp hg ht he hsc hrr hsl hll ha1 ha2 hlo
    cases sm
    · go_enter Tryz.func4, Tryz.ntmps4
      go_upto_region 1 with fail
      rw [← hW1]
      clear hW1
      go_wp2_with (first
        | (go_at_call 8; (with_reducible refine Calls.mono SM.out ?_); rintro e w2 ⟨rfl, hc⟩; have C2 := Lib.hid (C1.out.thenSame hc); have B2 := Lib.hid (hc.at (by simp) B1.out); have k2 := blk_cell B2.out; clear k1 hc)
        | (go_at_call 12; (with_reducible refine Calls.mono (RV.out _ C2.out) ?_); rintro e w3 ⟨rfl, hc⟩; have C3 := Lib.hid (C2.out.thenSame hc); have B3 := Lib.hid (hc.at (by simp) B2.out); have k3 := blk_cell B3.out; clear k2 hc)
        | (go_at_call 9; (with_reducible refine Calls.mono (AW.out _ C2.out) ?_); rintro e w4 ⟨rfl, hc⟩; have C4 := Lib.hid (C2.out.thenSame hc); clear hc))
      go_ret
      exact ⟨rfl, C4.out.toBelow (Nat.le_refl _) (by simp)⟩
    · have hlb : ((sl.length : Int) != (x.nodes.length : Int)) = false := by rw [HSL.out]; simp
      go_enter Tryz.func4, Tryz.ntmps4
      go_upto_region 1 with fail
      rw [← hW1]
      clear hW1
      go_wp2_with (first
        | (go_at_call 8; (with_reducible refine Calls.mono SM.out ?_); rintro e w2 ⟨rfl, hc⟩; have C2 := Lib.hid (C1.out.thenSame hc); have B2 := Lib.hid (hc.at (by simp) B1.out); have k2 := blk_cell B2.out; clear k1 hc)
        | (go_at_call 12; (with_reducible refine Calls.mono (RV.out _ C2.out) ?_); rintro e w3 ⟨rfl, hc⟩; have C3 := Lib.hid (C2.out.thenSame hc); have B3 := Lib.hid (hc.at (by simp) B2.out); have k3 := blk_cell B3.out; clear k2 hc)
        | (go_at_call 10; (with_reducible refine Calls.mono (CK.out _ C3.out) ?_); rintro e w4 ⟨rfl, hc⟩; have C4 := Lib.hid (C3.out.thenSame hc); have B4 := Lib.hid (hc.at (by simp) B3.out); have k4 := blk_cell B4.out; clear k3 hc) | (go_at_call 13; (with_reducible refine Calls.mono (SL.out _ C4.out) ?_); rintro e w5 ⟨sa, sc, rfl, hr, hc⟩; have C5 := Lib.hid (C4.out.thenSame hc); have B5 := Lib.hid (hc.at (by simp) B4.out); have S5 := Lib.hid (InIs.ofRow hr icI_len1).2; have k5 := blk_cell B5.out; clear k4 hc hr))
      clear k5
      go_loopw [7, 58] (fun u7 u58 wi => ∃ (f a : Nat), u7 = .int .i64 a ∧ u58 = .int .i64 f ∧ f ≤ x.funcs.length ∧ a ≤ x.nodes.length ∧ Hid (RunsR x.p sl ((x.funcs.drop f).map Fn'.p) a (lo.drop f)) ∧ Hid (Chg [] w5 wi)) (fun _ v _ => x.funcs.length - (intOf v).toNat)
      case atStart => exact ⟨0, 0, rfl, rfl, Nat.zero_le _, Nat.zero_le _, HRR, Lib.hid (Chg.refl _ _)⟩
      case round =>
        obtain ⟨f, a, rfl, rfl, hf, ha, HR, D⟩ := hrel
        have C6 := Lib.hid (C5.out.thenSame D.out)
        have B6 := Lib.hid (D.out.at (by simp) B5.out)
        have hf0 : (0 : Int) ≤ (f : Int) := by omega
        have ha0 : (0 : Int) ≤ (a : Int) := by omega
        by_cases hfl : f < x.funcs.length
        · have hfl' : (f : Int) < (x.funcs.length : Int) := by omega
          obtain ⟨b, n, hn, hb, hab, hbl, hn1, hn2, hnr, hrr⟩ := RunsR.step hfl HR.out
          rw [show x.p.nodes.length = x.nodes.length from List.length_map _] at hbl
          have HNR := Lib.hid hnr
          have HR7 := Lib.hid hrr
          have LF := Lib.hid (fun w' (hc : Chg [] w w') => by have := LO.out w' hc f; rw [HLO.out f n hn] at this; exact this)
          have RG := Lib.hid (fun w' (hc : Chg [] w5 w') (i : Nat) (h1 : a ≤ i) (h2 : i ≤ b) => by have := right_any x w' (HP.out _ (C5.out.thenSame hc)) (S5.out.kept hc) HSL.out hn6 f hfl a i h1 (by omega) n (HNR.out i h1 h2); simp only [prC] at this; exact this)
          have FE := Lib.hid (fun w' (hc : Chg [] w w') => (HP.out w' hc).2.1.1.elem (Chg.refl [] w') f hfl)
          have hpl : (0 : Int) ≤ ((x.funcs[f]).params.length : Int) := Int.natCast_nonneg _
          generalize x.funcs[f] = fn at *
          have hnp : ¬ n < (fn.params.length : Int) := by omega
          clear hnr hrr hn HR
          have qf : IntKind.i64.wrap ((f : Int) + 1) = (f : Int) + 1 := IntWalk.i64_in _ (by omega)
          have qb : IntKind.i64.wrap ((b : Int) + 1) = (b : Int) + 1 := IntWalk.i64_in _ (by omega)
          obtain ⟨b2, o2, e2, -, -, -⟩ := FE.out _ C6.out
          have UF := Lib.hid (fun w' (hc : Chg [] w w') => show w'.cell? ⟨b2, o2 + f * 3 + 1, none⟩ = some (.slice fn.pa fn.params.length fn.pc) ∧ w'.cell? ⟨b2, o2 + f * 3 + 2, none⟩ = some (.int .i64 (b : Int)) from by
            obtain ⟨b7, o7, e7, -, -, hc7⟩ := FE.out w' hc
            have e8 := e2.symm.trans e7
            simp only [Option.some.injEq, Addr.mk.injEq, and_true] at e8
            obtain ⟨rfl, rfl⟩ := e8
            have g1 := hc7 1 (by omega)
            have g2 := hc7 2 (by omega)
            simp only [fnC, List.getElem?_cons_zero, List.getElem?_cons_succ, Nat.add_zero] at g1 g2
            rw [hb] at g2
            exact ⟨g1, g2⟩)
          have LF2 := Lib.hid (fun w' (hc : Chg [] w w') => by have := LF.out w' hc; rw [e2] at this; exact this)
          have RG2 := Lib.hid (fun w' (hc : Chg [] w5 w') (i : Nat) (h1 : a ≤ i) (h2 : i ≤ b) => by have := RG.out w' hc i h1 h2; rw [e2] at this; exact this)
          have E2 := Lib.hid e2
          have k6 := blk_cell (by have := B6.out; rw [e2] at this; exact this)
          clear LF RG FE hb e2
          go_wp2_with (go_at_call 14; (with_reducible refine Calls.mono (LF2.out _ C6.out) ?_); rintro e w7 ⟨rfl, hc⟩; have D7 := Lib.hid (D.out.thenSame hc); have C7 := Lib.hid (C6.out.thenSame hc); have B7 := Lib.hid (hc.at (by simp) B6.out); have k7 := blk_cell (by have := B7.out; rw [E2.out] at this; exact this); obtain ⟨u71, u72⟩ := UF.out _ C7.out; clear k6 hc)
          go_loopw [11] (fun u wi => ∃ i : Nat, u = .int .i64 i ∧ a ≤ i ∧ i ≤ b + 1 ∧ Hid (Chg [] w5 wi)) (fun u _ => b + 1 - (intOf u).toNat)
          case atStart => exact ⟨a, rfl, Nat.le_refl _, by omega, D7⟩
          case round =>
            obtain ⟨i, rfl, hia, hib, D8⟩ := hrel
            have C8 := Lib.hid (C5.out.thenSame D8.out)
            have B8 := Lib.hid (D8.out.at (by simp) B5.out)
            have k8 := blk_cell (by have := B8.out; rw [E2.out] at this; exact this)
            obtain ⟨u81, u82⟩ := UF.out _ C8.out
            have hi0 : (0 : Int) ≤ (i : Int) := by omega
            by_cases hi : i ≤ b
            · have hi' : (i : Int) ≤ (b : Int) := by omega
              have qi : IntKind.i64.wrap ((i : Int) + 1) = (i : Int) + 1 := IntWalk.i64_in _ (by omega)
              have RG3 := Lib.hid (RG2.out _ D8.out i hia hi)
              go_wp2_with (go_at_call 15; (with_reducible refine Calls.mono RG3.out ?_); rintro e w9 ⟨rfl, hc⟩; have D9 := Lib.hid (D8.out.thenSame hc); clear k8 u81 u82 hc)
              exact ⟨⟨i + 1, rfl, by omega, by omega, D9⟩, by simp [intOf]; omega⟩
            · have hi' : ¬ (i : Int) ≤ (b : Int) := by omega
              go_wp2_with fail
              exact ⟨⟨f + 1, b + 1, by simp, rfl, by omega, by omega, HR7, D8⟩, by simp [intOf]; omega⟩
        · have hfl' : ¬ (f : Int) < (x.funcs.length : Int) := by omega
          go_wp2_with (go_at_call 9; (with_reducible refine Calls.mono (AW.out _ C6.out) ?_); rintro e w9 ⟨rfl, hc⟩; have C9 := Lib.hid (C6.out.thenSame hc); clear hc)
          go_ret
          exact ⟨rfl, C9.out.toBelow (Nat.le_refl _) (by simp)⟩
  · have ha3 := ha2 he
    have heb : ((studyZ x.p).2.2.2 != 0) = true := bne_iff_ne.2 he
    have hge : (studyZ x.p).2.2.1 ≥ -1 := ha1
    simp only [prC] at SM CK RV ⊢
    generalize (studyZ x.p).2.2.2 = er at *
    generalize (studyZ x.p).2.2.1 = ea at *
    generalize smallN x = sm at *
    generalize hsz : scheckZ x.p = sz at *
    clear hp hg ht he SL LO ha1 ha2 hsz
    cases sm
    · clear RV CK
      go_enter Tryz.func4, Tryz.ntmps4
      go_upto_region 1 with fail
      rw [← hW1]
      clear hW1
      go_wp2_with (first
        | (go_at_call 8; (with_reducible refine Calls.mono SM.out ?_); rintro e w2 ⟨rfl, hc⟩; have C2 := Lib.hid (C1.out.thenSame hc); have B2 := Lib.hid (hc.at (by simp) B1.out); have k2 := blk_cell B2.out; clear k1 hc)
        | (go_at_call 12; (with_reducible refine Calls.mono (RV.out _ C2.out) ?_); rintro e w3 ⟨rfl, hc⟩; have C3 := Lib.hid (C2.out.thenSame hc); have B3 := Lib.hid (hc.at (by simp) B2.out); have k3 := blk_cell B3.out; clear k2 hc)
        | (go_at_call 9; (with_reducible refine Calls.mono (AW.out _ C2.out) ?_); rintro e w4 ⟨rfl, hc⟩; have C4 := Lib.hid (C2.out.thenSame hc); clear hc))
      go_ret
      exact ⟨rfl, C4.out.toBelow (Nat.le_refl _) (by simp)⟩
    · by_cases hz0 : sz = 0
      · subst hz0
        go_enter Tryz.func4, Tryz.ntmps4
        go_upto_region 1 with fail
        rw [← hW1]
        clear hW1
        go_wp2_with (first
          | (go_at_call 8; (with_reducible refine Calls.mono SM.out ?_); rintro e w2 ⟨rfl, hc⟩; have C2 := Lib.hid (C1.out.thenSame hc); have B2 := Lib.hid (hc.at (by simp) B1.out); have k2 := blk_cell B2.out; clear k1 hc)
          | (go_at_call 12; (with_reducible refine Calls.mono (RV.out _ C2.out) ?_); rintro e w3 ⟨rfl, hc⟩; have C3 := Lib.hid (C2.out.thenSame hc); have B3 := Lib.hid (hc.at (by simp) B2.out); have k3 := blk_cell B3.out; clear k2 hc)
          | (go_at_call 10; (with_reducible refine Calls.mono (CK.out _ C3.out) ?_); rintro e w4 ⟨rfl, hc⟩; have C4 := Lib.hid (C3.out.thenSame hc); have B4 := Lib.hid (hc.at (by simp) B3.out); have k4 := blk_cell B4.out; clear k3 hc) | (go_at_call 9; (with_reducible refine Calls.mono (AW.out _ C4.out) ?_); rintro e w5 ⟨rfl, hc⟩; have C5 := Lib.hid (C4.out.thenSame hc); clear hc))
        go_ret
        exact ⟨rfl, C5.out.toBelow (Nat.le_refl _) (by simp)⟩
      · have hzb : (sz != 0) = true := bne_iff_ne.2 hz0
        go_enter Tryz.func4, Tryz.ntmps4
        go_upto_region 1 with fail
        rw [← hW1]
        clear hW1
        go_wp2_with (first
          | (go_at_call 8; (with_reducible refine Calls.mono SM.out ?_); rintro e w2 ⟨rfl, hc⟩; have C2 := Lib.hid (C1.out.thenSame hc); have B2 := Lib.hid (hc.at (by simp) B1.out); have k2 := blk_cell B2.out; clear k1 hc)
          | (go_at_call 12; (with_reducible refine Calls.mono (RV.out _ C2.out) ?_); rintro e w3 ⟨rfl, hc⟩; have C3 := Lib.hid (C2.out.thenSame hc); have B3 := Lib.hid (hc.at (by simp) B2.out); have k3 := blk_cell B3.out; clear k2 hc)
          | (go_at_call 9; (with_reducible refine Calls.mono (AW.out _ C3.out) ?_); rintro e w4 ⟨rfl, hc⟩; have C4 := Lib.hid (C3.out.thenSame hc); clear hc))
        go_ret
        exact ⟨rfl, C4.out.toBelow (Nat.le_refl _) (by simp)⟩
end Go.Proofs.YtolidiafomceiaaGreatDoor
