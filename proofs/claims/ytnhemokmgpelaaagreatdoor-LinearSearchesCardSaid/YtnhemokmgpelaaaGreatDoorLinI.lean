/- Chapter 50: contract: find. Condition: the table of Itoa lies as the program lays it. -/
import Derived.WalkMore
import Derived.Deep.LoopGhost
import Derived.Test.YtnhemokmgpelaaaGreatDoorLinH
namespace Go.Proofs.YtnhemokmgpelaaaGreatDoor
set_option linter.unusedVariables false
set_option linter.unusedSimpArgs false
open Go.RowKit
variable {W w w' : World} {sb pg : Nat} {la : Option Addr} {lc : Nat} {l : List Cl} {lv : Value} {pl : List Bool} {oa oa' : Option Addr} {oc oc' : Nat} {od : List Int} {sa : Option Addr} {sc : Nat} {st : List Ce}
theorem FH.next (h : FH W w sb la lc l pg pl oa oc od sa sc st) (hs : SeAt w' sb (.slice la l.length lc) pg pl oa' oc' od) (hc : Chg (seF sb pg oa) w w') (ho : ∀ x, ob oa' = some x → ob oa = some x ∨ w.heap.size ≤ x) : FH W w' sb la lc l pg pl oa' oc' od sa sc st :=
  { se := hs, cls := h.cls, good := h.good, tab := h.tab, len := h.len, plen := h.plen, room := h.room, stg := h.stg
    base := h.base.then hc (fun x hx hlt => absurd hlt (Nat.not_lt.2 (h.far x hx)))
    far := fun x hx => by
      simp only [seF, List.mem_cons] at hx
      rcases hx with rfl | rfl | hx
      · exact h.far _ (by simp [seF])
      · exact h.far _ (by simp [seF])
      · rcases ho x (by simpa using hx) with e | e
        · exact h.far _ (by simp [seF, e])
        · exact Nat.le_trans h.base.size e
    stin := h.stin.keptN hc (fun x hx => (h.apart x hx).1)
    apart := fun x hx => by
      obtain ⟨h1, h2⟩ := h.apart x hx
      refine ⟨fun hm => ?_, Nat.lt_of_lt_of_le h2 hc.size⟩
      simp only [seF, List.mem_cons] at hm
      rcases hm with e | e | e
      · exact h1 (by simp [seF, e])
      · exact h1 (by simp [seF, e])
      · rcases ho x.block (by simpa using e) with e | e
        · exact h1 (by simp [seF, e])
        · omega }
theorem FH.keptN (h : FH W w sb la lc l pg pl oa oc od sa sc st) (hc : Chg [] w w') : FH W w' sb la lc l pg pl oa oc od sa sc st := h.next (h.se.keptN hc) (hc.mono (by simp)) (fun _ hx => .inl hx)
theorem FP.back {r : Option (List Int)} {e : Ending} {W1 : World} (h : FP w sb lv pg pl oa' od r e w') (hc : Chg (seF sb pg oa) W1 w) (ho : ∀ x, ob oa' = some x → ob oa = some x ∨ W1.heap.size ≤ x) : FP W1 sb lv pg pl oa od r e w' := by
  obtain ⟨p, a, c, o, h1, h2, h3, h4, h5, h6⟩ := h
  refine ⟨p, a, c, o, h1, h2, h3, h4, hc.then h5 (fun x hx hlt => ?_), fun x hx => ?_⟩
  · simp only [seF, List.mem_cons] at hx
    rcases hx with rfl | rfl | hx
    · simp [seF]
    · simp [seF]
    · rcases ho x (by simpa using hx) with e | e
      · simp [seF, e]
      · omega
  · rcases h6 x hx with e | e
    · exact ho x e
    · exact .inr (Nat.le_trans hc.size e)
theorem seF_box {p : Nat} (h : SeAt w sb lv pg pl oa oc od) (hp : w.heap.size ≤ p) : p ∉ seF sb pg oa := fun hm => by have := h.lt p hm; omega
set_option maxHeartbeats 4000000 in
set_option maxRecDepth 100000 in
theorem find_done (h : FH W w sb la lc l pg pl oa oc od sa sc st) (hd : doneB (l.map Cl.p) pl = true) : Calls Tryz.prog 21 #[.pointer (some ⟨sb, 0, none⟩), .slice sa st.length sc] w (FP w sb (.slice la l.length lc) pg pl oa od (some od)) := by
  obtain ⟨W1, hW1⟩ : ∃ W1, W1 = (w.alloc (.cells #[.pointer (some ⟨sb, 0, none⟩)] 52)).alloc (.cells #[.slice sa st.length sc] 22) := ⟨_, rfl⟩
  have C1 := Lib.hid (show Chg [] w W1 by rw [hW1]; exact ((Chg.refl _ _).alloc _).alloc _)
  have X2 := Lib.hid (show Box1 W1 w.heap.size (.pointer (some ⟨sb, 0, none⟩)) 52 by unfold Box1; rw [hW1]; exact blk_alloc (heap_alloc_new _ _))
  have A := done_any (h.se.keptN C1.out) (h.cls.kept (h.base.thenSame C1.out)) h.plen h.len
  rw [hd] at A
  have A := Lib.hid A
  rename_i A0
  have SE := Lib.hid h.se
  have k2 := blk_cell (show W1.heap[w.heap.size]? = some (.cells _ _ (0, 0)) from X2.out)
  have HW1 := Lib.hid hW1
  clear hW1 A0 h hd
  go_enter Tryz.func21, Tryz.ntmps21
  go_wp2
  go_step3
  rw [← HW1.out]
  go_wp2_with (go_at_call 40; (with_reducible refine Calls.mono A.out ?_); rintro e w2 ⟨rfl, hc⟩; have C2 := Lib.hid (C1.out.thenSame hc); clear hc)
  rw [Exit.noGoto_ret]
  go_ret
  exact ⟨pl, oa, oc, od, rfl, SE.out.keptN C2.out, (fun h => by cases h), (fun x hx => by cases hx; rfl), C2.out.mono (by simp), fun x hx => .inl hx⟩
theorem tryF_placed {P : List PCl} {F : List Ce → List Bool → List Int → Option (List Int)} {k : Nat} (h : pl[k]? = some true) : tryF P F st pl od k = none := by
  unfold tryF
  rw [h]
  cases P[k]? <;> rfl
theorem tryF_block {P : List PCl} {F : List Ce → List Bool → List Int → Option (List Int)} {k : Nat} {x : PCl} (hx : P[k]? = some x) (h : blockB P pl x = true) : tryF P F st pl od k = none := by
  unfold tryF
  rw [hx]
  cases pl[k]? with
  | none => rfl
  | some b => cases b <;> simp [h]
theorem tryF_go {P : List PCl} {F : List Ce → List Bool → List Int → Option (List Int)} {k : Nat} {x : PCl} (hx : P[k]? = some x) (hp : pl[k]? = some false) (h : blockB P pl x = false) : tryF P F st pl od k = goF F st pl od k x := by
  unfold tryF
  rw [hx, hp]
  show (if blockB P pl x = true then none else _) = _
  rw [if_neg (by rw [h]; simp)]
set_option maxHeartbeats 8000000 in
set_option maxRecDepth 100000 in
theorem find_step (n : Nat) (F : FindC n) (h : FH W w sb la lc l pg pl oa oc od sa sc st) (hn : pl.count false ≤ n + 1) (hd : doneB (l.map Cl.p) pl = false) :
    Calls Tryz.prog 21 #[.pointer (some ⟨sb, 0, none⟩), .slice sa st.length sc] w (FP w sb (.slice la l.length lc) pg pl oa od (firstO (tryF (l.map Cl.p) (findF (l.map Cl.p) n) st pl od) 0 l.length)) := by
  obtain ⟨W1, hW1⟩ : ∃ W1, W1 = (w.alloc (.cells #[.pointer (some ⟨sb, 0, none⟩)] 52)).alloc (.cells #[.slice sa st.length sc] 22) := ⟨_, rfl⟩
  have C1 := Lib.hid (show Chg [] w W1 by rw [hW1]; exact ((Chg.refl _ _).alloc _).alloc _)
  have X2 := Lib.hid (show Box1 W1 w.heap.size (.pointer (some ⟨sb, 0, none⟩)) 52 by unfold Box1; rw [hW1]; exact blk_alloc (heap_alloc_new _ _))
  have X3 := Lib.hid (show Box1 W1 (w.heap.size + 1) (.slice sa st.length sc) 22 by unfold Box1; rw [hW1]; have := heap_alloc_new (w.alloc (.cells #[.pointer (some ⟨sb, 0, none⟩)] 52)) (.cells #[.slice sa st.length sc] 22); rwa [World.size_alloc] at this)
  have A := done_any (h.se.keptN C1.out) (h.cls.kept (h.base.thenSame C1.out)) h.plen h.len
  rw [hd] at A
  have A := Lib.hid A
  rename_i A0
  have H := Lib.hid h
  have FF := Lib.hid F
  have HN := Lib.hid hn
  obtain ⟨T, hT⟩ : ∃ T, T = tryF (l.map Cl.p) (findF (l.map Cl.p) n) st pl od := ⟨_, rfl⟩
  obtain ⟨R, hR⟩ : ∃ R, R = firstO T 0 l.length := ⟨_, rfl⟩
  have HT := Lib.hid hT
  have HR := Lib.hid hR
  rw [← hT, ← hR]
  have h8 := h.len
  have hpl := h.plen
  have h8' : (l.length : Int) ≤ 8 := by omega
  have k2 := blk_cell (show W1.heap[w.heap.size]? = some (.cells _ _ (0, 0)) from X2.out)
  have HW1 := Lib.hid hW1
  clear hW1 A0 h hd hT hR F hn
  go_enter Tryz.func21, Tryz.ntmps21
  go_wp2
  go_step3
  rw [← HW1.out]
  go_wp2_with (go_at_call 40; (with_reducible refine Calls.mono A.out ?_); rintro e w2 ⟨rfl, hc⟩; have K2 := Lib.hid hc; clear hc)
  go_step3
  have H2 := Lib.hid (H.out.keptN (C1.out.thenSame K2.out))
  have Y2 := Lib.hid (show Box1 w2 w.heap.size (.pointer (some ⟨sb, 0, none⟩)) 52 from K2.out.at (by simp) X2.out)
  have Y3 := Lib.hid (show Box1 w2 (w.heap.size + 1) (.slice sa st.length sc) 22 from K2.out.at (by simp) X3.out)
  have NB2 := Lib.hid (show w.heap.size ∉ seF sb pg oa from seF_box H.out.se (Nat.le_refl _))
  have NB3 := Lib.hid (show w.heap.size + 1 ∉ seF sb pg oa from seF_box H.out.se (by omega))
  have CW := Lib.hid (C1.out.thenSame K2.out)
  have hsz : w.heap.size + 2 ≤ w2.heap.size := by have := lt_of_heap Y3.out; omega
  have z2 := blk_cell (show w2.heap[w.heap.size]? = some (.cells _ _ (0, 0)) from Y2.out)
  have zs := blk_cell H2.out.se.blk
  clear k2
  go_wp2_with fail
  clear z2 zs
  go_loopg [18] l.length (fun g i wr => ∃ (k : Nat) (oa1 : Option Addr) (oc1 : Nat), k + g = l.length ∧ i = .int .i64 (k : Int) ∧ Hid (FH W wr sb la lc l pg pl oa1 oc1 od sa sc st) ∧ Hid (Chg (seF sb pg oa) w2 wr) ∧ Hid (∀ x, ob oa1 = some x → ob oa = some x ∨ w2.heap.size ≤ x) ∧ Hid (∀ j, j < k → T j = none))
  case atStart => exact ⟨0, oa, oc, by omega, rfl, H2, Lib.hid (Chg.refl _ _), Lib.hid (fun x hx => .inl hx), Lib.hid (fun j hj => by omega)⟩
  case round =>
    obtain ⟨k, oa1, oc1, hkg, rfl, HK, DK, OK, NK⟩ := hrel
    have hk0 : (0 : Int) ≤ (k : Int) := by omega
    by_cases hk : k < l.length
    · have hkp : k < pl.length := by omega
      have hk1 : (k : Int) < (l.length : Int) := by omega
      have hk2 : (k : Int) < (pl.length : Int) := by omega
      obtain ⟨b, off, ela, hbW, hcc⟩ := HK.out.cls.at8 (w' := wr) k hk
      subst ela
      obtain ⟨d0, d1, d2, d3, d4, d5, d6, d7⟩ := hcc _ HK.out.base
      have HPK := Lib.hid (show (l.map Cl.p)[k]? = some (l[k]).p by rw [List.getElem?_map, List.getElem?_eq_getElem hk]; rfl)
      have AT := Lib.hid (fun wq oa9 oc9 (hq : FH W wq sb (some ⟨b, off, none⟩) lc l pg pl oa9 oc9 od sa sc st) p1 p2 h1 h2 h3 h4 hkf => try_any n FF.out hq p1 p2 h1 h2 h3 h4 k hk hkf HN.out)
      generalize l[k] = x at *
      have AB := Lib.hid (fun y w' => lbef_any y x w')
      obtain ⟨W5, hW5⟩ : ∃ W5, W5 = wr.alloc (clO x) := ⟨_, rfl⟩
      have E5 := Lib.hid (show Chg [] wr W5 by rw [hW5]; exact (Chg.refl _ _).alloc _)
      have B5 := Lib.hid (show W5.heap[wr.heap.size]? = some (clO x) by rw [hW5]; exact heap_alloc_new _ _)
      unfold clO at hW5
      have HW5 := Lib.hid hW5
      have Z2 := Lib.hid (show Box1 wr w.heap.size (.pointer (some ⟨sb, 0, none⟩)) 52 from DK.out.at NB2.out Y2.out)
      have Z3 := Lib.hid (show Box1 wr (w.heap.size + 1) (.slice sa st.length sc) 22 from DK.out.at NB3.out Y3.out)
      have M2 := Lib.hid (fun w' (hc : Chg [] wr w') => blk_cell (show w'.heap[w.heap.size]? = some (.cells _ _ (0, 0)) from hc.at (by simp) Z2.out))
      have MS := Lib.hid (fun w' (hc : Chg [] wr w') => blk_cell (hc.at (by simp) HK.out.se.blk))
      have MP := Lib.hid (fun w' (hc : Chg [] wr w') j hj => (SeAt.pcell (HK.out.se.keptN hc) j hj).1)
      obtain ⟨bp, hbp⟩ : ∃ bp, bp = pl[k] := ⟨_, rfl⟩
      have HBP := Lib.hid (show pl[k]? = some bp by rw [List.getElem?_eq_getElem hkp, hbp])
      have p5 := MP.out _ E5.out k hkp
      rw [← hbp] at p5
      have k5 := M2.out _ E5.out
      have s5 := MS.out _ E5.out
      clear hbp hcc hbW hW5
      go_upto_region 7 with fail
      rw [← HW5.out]
      clear d0 d1 d2 d3 d4 d5 d6 d7
      obtain ⟨G, rfl⟩ : ∃ G, gk = G + 1 := ⟨gk - 1, by omega⟩
      have NX := Lib.hid (fun wz (hc : Chg [] wr wz) (hTk : T k = none) => And.intro (HK.out.keptN hc) (And.intro (DK.out.thenSame (hc.mono (T := seF sb pg oa) (by simp))) (fun j (hj : j < k + 1) => (Nat.lt_or_eq_of_le (Nat.le_of_lt_succ hj)).elim (fun h => NK.out j h) (fun h => by rw [h]; exact hTk))))
      have hw2r := DK.out.size
      have NC2 := Lib.hid (show w.heap.size ∉ seF sb pg oa1 from fun hm => by
        simp only [seF, List.mem_cons] at hm
        rcases hm with e | e | e
        · exact NB2.out (by simp [seF, ← e])
        · exact NB2.out (by simp [seF, ← e])
        · rcases OK.out _ (by simpa using e) with h | h
          · exact NB2.out (by simp [seF, h])
          · omega)
      have NC3 := Lib.hid (show w.heap.size + 1 ∉ seF sb pg oa1 from fun hm => by
        simp only [seF, List.mem_cons] at hm
        rcases hm with e | e | e
        · exact NB3.out (by simp [seF, ← e])
        · exact NB3.out (by simp [seF, ← e])
        · rcases OK.out _ (by simpa using e) with h | h
          · exact NB3.out (by simp [seF, h])
          · omega)
      cases bp
      · go_upto_region 8 with fail
        go_wp2_with fail
        obtain ⟨wo, hwo⟩ : ∃ wo, wo = wr := ⟨_, rfl⟩
        subst hwo
        go_loopg [35] l.length (fun g2 i2 wy => ∃ j : Nat, j + g2 = l.length ∧ i2 = .int .i64 (j : Int) ∧ Hid (Chg [] W5 wy) ∧ Hid (blockTo (l.map Cl.p) pl x.p j = false))
        case atStart => exact ⟨0, by omega, rfl, Lib.hid (Chg.refl _ _), Lib.hid rfl⟩
        case round =>
          obtain ⟨j, hjg, rfl, DJ, NJ⟩ := hrel
          have hj0 : (0 : Int) ≤ (j : Int) := by omega
          have RJ := Lib.hid (E5.out.thenSame DJ.out)
          by_cases hj : j < l.length
          · have hjp : j < pl.length := by omega
            have hj1 : (j : Int) < (l.length : Int) := by omega
            have hj2 : (j : Int) < (pl.length : Int) := by omega
            obtain ⟨b', off', e', -, hcj⟩ := HK.out.cls.at8 (w' := wo) j hj
            cases e'
            obtain ⟨d0, d1, d2, d3, d4, d5, d6, d7⟩ := hcj _ (HK.out.base.thenSame RJ.out)
            have hst := blockTo_step (l := l.map Cl.p) (pl := pl) (x := x.p) (k := j) (by rw [List.length_map]; exact hj) hjp
            have hyes := blockB_yes (l := l.map Cl.p) (pl := pl) (x := x.p) (k := j) (by rw [List.length_map]; exact hj) hjp
            rw [NJ.out, Bool.false_or] at hst
            simp only [List.getElem_map] at hst hyes
            obtain ⟨W9, hW9⟩ : ∃ W9, W9 = wr.alloc (clO l[j]) := ⟨_, rfl⟩
            have E9 := Lib.hid (show Chg [] wr W9 by rw [hW9]; exact (Chg.refl _ _).alloc _)
            have B9 := Lib.hid (show W9.heap[wr.heap.size]? = some (clO l[j]) by rw [hW9]; exact heap_alloc_new _ _)
            have C9 := Lib.hid (E9.out.at (by simp) (DJ.out.at (by simp) B5.out))
            have R9 := Lib.hid (RJ.out.thenSame E9.out)
            have p9 := MP.out _ R9.out j hjp
            have k9 := M2.out _ R9.out
            have s9 := MS.out _ R9.out
            have AB9 := AB.out l[j]
            generalize l[j] = y at *
            generalize pl[j] = bj at *
            have c9 := blk_cell (show W9.heap[wo.heap.size]? = some (.cells _ _ (0, 0)) from C9.out)
            have b9 := blk_cell (show W9.heap[wr.heap.size]? = some (.cells _ _ (0, 0)) from B9.out)
            generalize befB y.p x.p = bb at *
            unfold clO at hW9
            unfold clC at AB9
            have HW9 := Lib.hid hW9
            have AB9 := Lib.hid AB9
            rename_i AB90
            clear AB90 hW9 hcj k5 s5 p5
            go_upto_region 11 with fail
            rw [← HW9.out]
            clear d0 d1 d2 d3 d4 d5 d6 d7
            cases bj
            · cases bb
              · have HST := Lib.hid hst
                clear hst hyes
                go_wp2_with (go_at_call 29; (with_reducible refine Calls.mono (AB9.out _) ?_); rintro e w10 ⟨rfl, hc⟩; have D10 := Lib.hid ((DJ.out.thenSame E9.out).thenSame hc); clear hc)
                obtain ⟨G2, rfl⟩ : ∃ G2, gk = G2 + 1 := ⟨gk - 1, by omega⟩
                go_roundg G2
                case measure => omega
                case rel => exact ⟨j + 1, by omega, by go_num, D10, HST⟩
              · have HTK := Lib.hid (show T k = none by rw [HT.out]; exact tryF_block HPK.out (hyes rfl))
                clear hst hyes
                go_wp2_with (go_at_call 29; (with_reducible refine Calls.mono (AB9.out _) ?_); rintro e w10 ⟨rfl, hc⟩; have D10 := Lib.hid (R9.out.thenSame hc); clear hc)
                go_roundg G
                case measure => omega
                case rel =>
                  obtain ⟨n1, n2, n3⟩ := NX.out _ D10.out HTK.out
                  exact ⟨k + 1, oa1, oc1, by omega, by go_num, Lib.hid n1, Lib.hid n2, OK, Lib.hid n3⟩
            · have HST := Lib.hid hst
              clear hst hyes
              go_wp2_with fail
              obtain ⟨G2, rfl⟩ : ∃ G2, gk = G2 + 1 := ⟨gk - 1, by omega⟩
              go_roundg G2
              case measure => omega
              case rel => exact ⟨j + 1, by omega, by go_num, Lib.hid (DJ.out.thenSame E9.out), HST⟩
          · have hjs : j = l.length := by omega
            have HBL := Lib.hid (show blockB (l.map Cl.p) pl x.p = false by unfold blockB; rw [List.length_map, ← hjs]; exact NJ.out)
            have FHy := Lib.hid (HK.out.keptN RJ.out)
            have ATy := AT.out wr oa1 oc1 FHy.out (w.heap.size + 1) w.heap.size (show wr.heap[_]? = _ from RJ.out.at (by simp) Z3.out) (show wr.heap[_]? = _ from RJ.out.at (by simp) Z2.out) NC3.out NC2.out HBP.out
            have htk : goF (findF (l.map Cl.p) n) st pl od k x.p = T k := by rw [HT.out]; exact (tryF_go HPK.out HBP.out HBL.out).symm
            rw [htk] at ATy
            obtain ⟨tk, htk2⟩ : ∃ tk, tk = T k := ⟨_, rfl⟩
            rw [← htk2] at ATy
            have HTK := Lib.hid htk2
            have ATy := Lib.hid ATy
            rename_i AT0
            clear AT0 htk htk2 hjs k5 s5 p5
            cases tk with
            | some r =>
              have HE := Lib.hid (show R = some r by rw [HR.out]; exact firstO_at (Nat.zero_le _) (by omega) (fun j _ hj => NK.out j hj) HTK.out.symm)
              go_wp2_with (first | (with_reducible refine Calls.mono ATy.out ?_); intro e w10 hfp; have FP10 := Lib.hid hfp; obtain ⟨-, -, -, -, rfl, -⟩ := hfp)
              (try rw [Exit.noGoto_ret])
              go_ret
              rw [HE.out]
              exact ((FP10.out.back ((DK.out.thenSame (RJ.out.mono (by simp)))) OK.out)).back (CW.out.mono (by simp)) (fun _ hx => .inl hx)
            | none =>
              go_wp2_with (first | (with_reducible refine Calls.mono ATy.out ?_); rintro e w10 ⟨pl9, oa9, oc9, od9, rfl, hse, hno, -, hc, ho⟩; have SE9 := Lib.hid hse; have HNO := Lib.hid (hno rfl); have K9 := Lib.hid hc; have O9 := Lib.hid ho; clear hse hno hc ho)
              obtain ⟨e1, e2⟩ := HNO.out
              subst e1
              subst e2
              go_roundg G
              case measure => omega
              case rel =>
                refine ⟨k + 1, oa9, oc9, by omega, by go_num, Lib.hid (FHy.out.next SE9.out K9.out O9.out), Lib.hid ((DK.out.thenSame (RJ.out.mono (by simp))).then K9.out (fun y hy hlt => ?_)), Lib.hid (fun y hy => ?_), Lib.hid (NX.out _ RJ.out HTK.out.symm).2.2⟩
                · simp only [seF, List.mem_cons] at hy
                  rcases hy with rfl | rfl | hy
                  · simp [seF]
                  · simp [seF]
                  · rcases OK.out y (by simpa using hy) with h | h
                    · simp [seF, h]
                    · omega
                · rcases O9.out y hy with h | h
                  · exact OK.out y h
                  · have := RJ.out.size; exact .inr (by omega)
      · have HTK := Lib.hid (show T k = none by rw [HT.out]; exact tryF_placed HBP.out)
        go_wp2_with fail
        go_roundg G
        case measure => omega
        case rel =>
          obtain ⟨n1, n2, n3⟩ := NX.out _ E5.out HTK.out
          exact ⟨k + 1, oa1, oc1, by omega, by go_num, Lib.hid n1, Lib.hid n2, OK, Lib.hid n3⟩
    · have hks : k = l.length := by omega
      have HE := Lib.hid (show R = none by rw [HR.out]; exact firstO_none (fun j _ hj => NK.out j (by omega)))
      clear hks
      go_wp2_with fail
      (try rw [Exit.noGoto_ret])
      go_ret
      rw [HE.out]
      exact ⟨pl, oa1, oc1, od, rfl, HK.out.se, (fun _ => ⟨rfl, rfl⟩), (fun x hx => by cases hx), (CW.out.mono (T := seF sb pg oa) (by simp)).thenSame DK.out, fun x hx => (OK.out x hx).elim .inl (fun h => .inr (by omega))⟩
theorem find_all : ∀ n, FindC n := by
  intro n
  induction n with
  | zero =>
    intro W w sb la lc l pg pl oa oc od sa sc st h hn
    have hd := done_count (l := l.map Cl.p) (by rw [List.length_map]; exact h.plen) (Nat.le_zero.1 hn)
    have := find_done h hd
    rwa [show findF (l.map Cl.p) 0 st pl od = some od by unfold findF; rw [if_pos hd]]
  | succ n ih =>
    intro W w sb la lc l pg pl oa oc od sa sc st h hn
    by_cases hd : doneB (l.map Cl.p) pl = true
    · have := find_done h hd
      rwa [show findF (l.map Cl.p) (n + 1) st pl od = some od by unfold findF; rw [if_pos hd]]
    · have := find_step n ih h hn (by simpa using hd)
      rwa [show findF (l.map Cl.p) (n + 1) st pl od = firstO (tryF (l.map Cl.p) (findF (l.map Cl.p) n) st pl od) 0 l.length by rw [findF, if_neg hd, List.length_map]]
end Go.Proofs.YtnhemokmgpelaaaGreatDoor
