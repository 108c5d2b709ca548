/- Chapter 9: contract: ordered. Condition: the table of Itoa lies as the program lays it. Chapter 9: contract: syntax.Check. Condition: the table of Itoa lies as the program lays it. Chapter 9: contracts: slices.Index, Contains on strings; the closure of Find. No condition. Chapter 9: contract: syntax.Find. No condition. Chapter 9: contract: syntax.Find. No condition. Chapter 9: the first elements of a slice that came in. No condition. -/
import Derived.Test.YtolidiafomceiaaGreatDoorMStaG
namespace Go.Proofs.YtolidiafomceiaaGreatDoor
set_option linter.unusedVariables false
set_option linter.unusedSimpArgs false
open Go.RowKit
def kindAt (l : List PNd) (i : Nat) : Int := match l[i]? with | some y => y.kind | none => 0
def ordGo (l : List PNd) : List PFn → Int → Bool
  | [], s => s == (l.length : Int)
  | f :: r, s => if sNameB f.name = false then false else if f.params.any (fun s => !sNameB s) = true then false else if f.body < s then false else if (l.length : Int) ≤ f.body then false else if (kindAt l f.body.toNat != 19) = true then false else if (firstF l l.length f.body.toNat != s) = true then false else ordGo l r (f.body + 1)
def ordB (p : PPr) : Bool := ordGo p.nodes p.funcs 0
theorem ordGo_ok {l : List PNd} : ∀ {r : List PFn} {s : Int}, 0 ≤ s → ordGo l r s = true → ∀ f ∈ r, BodyOk l f.body := by
  intro r
  induction r with
  | nil => intro s _ _ f hf; cases hf
  | cons g r ih =>
    intro s hs h f hf
    rw [ordGo] at h
    split at h
    · cases h
    · split at h
      · cases h
      · split at h
        · cases h
        · split at h
          · cases h
          · split at h
            · cases h
            · split at h
              · cases h
              · rename_i h3 h4 h5 h6
                rcases List.mem_cons.1 hf with rfl | hf
                · have e : firstF l l.length f.body.toNat = s := by simpa using h6
                  exact ⟨f.body.toNat, by omega, by omega, by omega⟩
                · exact ih (by omega) h f hf
set_option maxHeartbeats 16000000 in
set_option maxRecDepth 100000 in
theorem ordered_any (x : Pr) (w : World) (h : PrIn w x) (hg : goodPr x) (ht : TabW w) : Calls Tryz.prog 56 #[.agg (prC x).toArray] w fun e w' => e = .returned (.bool (ordB x.p)) ∧ Chg [] w w' := by
  obtain ⟨R, hR⟩ : ∃ R, R = ordB x.p := ⟨_, rfl⟩
  rw [← hR]
  have HF := Lib.hid h.2
  have HN := Lib.hid h.1.1
  have FI0 := Lib.hid (fun w' (hc : Chg [] w w') (m : Nat) (hm : m < x.nodes.length) => first_all (na := x.na) (nc := x.nc) (l := x.nodes) x.nodes.length w' (h.1.1.kept hc) (fun d hd => (h.1.2 d hd).kept hc) hg.1 (ht.kept hc) m hm hm)
  have hnl : (x.nodes.length : Int) ≤ 9223372036854775807 := by have h1 := h.1.1.2.1; have h2 := h.1.1.2.2.1; unfold maxLen at h2; omega
  have hfl : (x.funcs.length : Int) ≤ 9223372036854775807 := by have h1 := h.2.1.2.1; have h2 := h.2.1.2.2.1; unfold maxLen at h2; omega
  have HR := Lib.hid (show R = ordGo (x.nodes.map Nd.p) (x.funcs.map Fn'.p) 0 from hR)
  obtain ⟨W1, hW1⟩ : ∃ W1, W1 = w.alloc (prO x) := ⟨_, rfl⟩
  have C1 := Lib.hid (show Chg [] w W1 by rw [hW1]; exact (Chg.refl _ _).alloc _)
  have B1 := Lib.hid (show W1.heap[w.heap.size]? = some (prO x) by rw [hW1]; exact heap_alloc_new _ _)
  unfold prO at hW1 B1
  have k1 := blk_cell B1.out
  simp only [prC]
  clear hR h hg ht
  go_enter Tryz.func56, Tryz.ntmps56
  go_upto_region 1 with fail
  rw [← hW1]
  clear hW1
  go_wp2_with fail
  clear k1
  go_loopw [3, 9] (fun u v wr => ∃ (j : Nat) (s : Int), u = .int .i64 s ∧ v = .int .i64 j ∧ j ≤ x.funcs.length ∧ (0 ≤ s ∧ s ≤ (x.nodes.length : Int)) ∧ Hid (R = ordGo (x.nodes.map Nd.p) ((x.funcs.drop j).map Fn'.p) s) ∧ Hid (Chg [] w wr) ∧ Hid (wr.heap[w.heap.size]? = some (.cells #[.slice x.na x.nodes.length x.nc, .slice x.fa x.funcs.length x.fc] 25 (0, 0)))) (fun _ v _ => x.funcs.length - (intOf v).toNat)
  case atStart => exact ⟨0, 0, rfl, rfl, Nat.zero_le _, ⟨Int.le_refl _, by omega⟩, Lib.hid HR.out, C1, B1⟩
  case round =>
    obtain ⟨j, s, rfl, rfl, hj, ⟨hs0, hsn⟩, HS, D, B⟩ := hrel
    have hj0 : (0 : Int) ≤ (j : Int) := by omega
    by_cases hjl : j < x.funcs.length
    · have hjl' : (j : Int) < (x.funcs.length : Int) := by omega
      obtain ⟨b2, o2, e2, -, -, hc2⟩ := HF.out.1.1.elem D.out j hjl
      have hfi := HF.out.2 _ (List.getElem_mem hjl)
      have u0 := hc2 0 (by omega)
      have u1 := hc2 1 (by omega)
      have u2 := hc2 2 (by omega)
      simp only [fnC, List.getElem?_cons_zero, List.getElem?_cons_succ, Nat.add_zero] at u0 u1 u2
      have HS2 := HS.out
      rw [List.drop_eq_getElem_cons hjl, List.map_cons, ordGo] at HS2
      generalize x.funcs[j] = f at *
      have qj : IntKind.i64.wrap ((j : Int) + 1) = (j : Int) + 1 := IntWalk.i64_in _ (by omega)
      obtain ⟨W2, hW2⟩ : ∃ W2, W2 = wr.alloc (.cells #[.string f.name, .slice f.pa f.params.length f.pc, .int .i64 f.body] 38) := ⟨_, rfl⟩
      have C2 := Lib.hid (show Chg [] wr W2 by rw [hW2]; exact (Chg.refl _ _).alloc _)
      have D2 := Lib.hid (D.out.thenSame C2.out)
      have K2 := Lib.hid (show W2.heap[wr.heap.size]? = some (.cells #[.string f.name, .slice f.pa f.params.length f.pc, .int .i64 f.body] 38 (0, 0)) from by rw [hW2]; exact heap_alloc_new _ _)
      have k2 := blk_cell K2.out
      have B2 := Lib.hid (C2.out.at (by simp) B.out)
      have k1 := blk_cell B2.out
      have AN := Lib.hid (fun w' => sname_any f.name w')
      have AS := Lib.hid (scontf_any (hfi.kept D2.out))
      have p1 : f.p.name = f.name := rfl
      have p2 : f.p.params = f.params := rfl
      have p3 : f.p.body = f.body := rfl
      rw [p1, p2, p3, List.length_map] at HS2
      generalize sNameB f.name = qa at *
      generalize f.params.any (fun s => !sNameB s) = qb at *
      clear hc2 p1 p2 p3 hfi
      cases qa
      · have HE := Lib.hid (show R = false by rw [HS2]; rfl)
        clear HS2
        rw [e2]
        go_upto_region 5 with fail
        rw [← hW2]
        clear hW2 u0 u1 u2
        go_wp2_with (first | (go_at_call 83; (with_reducible refine Calls.mono (AN.out _) ?_); rintro e w4 ⟨rfl, rfl⟩))
        go_ret
        exact ⟨retB HE.out.symm, D2.out⟩
      cases qb
      case true =>
        have HE := Lib.hid (show R = false by rw [HS2]; rfl)
        clear HS2
        rw [e2]
        go_upto_region 5 with fail
        rw [← hW2]
        clear hW2 u0 u1 u2
        go_wp2_with (first | (go_at_call 83; (with_reducible refine Calls.mono (AN.out _) ?_); rintro e w4 ⟨rfl, rfl⟩) | (go_at_call 84; (with_reducible refine Calls.mono AS.out ?_); rintro e w5 ⟨rfl, hc⟩; have D5 := Lib.hid (D2.out.thenSame hc); clear hc))
        go_ret
        exact ⟨retB HE.out.symm, D5.out⟩
      rw [if_neg (by simp), if_neg (by simp)] at HS2
      generalize f.body = bd at *
      by_cases h1 : bd < s
      case pos =>
        have HE := Lib.hid (show R = false by rw [HS2, if_pos h1])
        have E5 := Lib.hid (fun (w' : World) (hb : w'.heap[w.heap.size]? = some (.cells #[.slice x.na x.nodes.length x.nc, .slice x.fa x.funcs.length x.fc] 25 (0, 0))) => blk_cell hb)
        have KD := Lib.hid (fun (w' : World) (_ : Chg [] w w') => True.intro)
        clear HS2
        rw [e2]
        go_upto_region 5 with fail
        rw [← hW2]
        clear hW2 u0 u1 u2
        go_wp2_with (first | (go_at_call 83; (with_reducible refine Calls.mono (AN.out _) ?_); rintro e w4 ⟨rfl, rfl⟩) | (go_at_call 84; (with_reducible refine Calls.mono AS.out ?_); rintro e w5 ⟨rfl, hc⟩; have D5 := Lib.hid (D2.out.thenSame hc); have B5 := Lib.hid (hc.at (by simp) B2.out); have K5 := Lib.hid (hc.at (by simp) K2.out); have k5 := E5.out _ B5.out; have k6 := blk_cell K5.out; have k7 := KD.out _ D5.out; clear hc k1 k2) | (go_at_call 86; (with_reducible refine Calls.mono (FI.out _ D5.out) ?_); rintro e w6 ⟨rfl, hc⟩; have D6 := Lib.hid (D5.out.thenSame hc); have B6 := Lib.hid (hc.at (by simp) B5.out); have K6 := Lib.hid (hc.at (by simp) K5.out); have k8 := blk_cell B6.out; have k9 := blk_cell K6.out; clear hc k5 k6 k7))
        go_ret
        exact ⟨retB HE.out.symm, D5.out⟩
      rw [if_neg h1] at HS2
      by_cases h2 : (x.nodes.length : Int) ≤ bd
      case pos =>
        have HE := Lib.hid (show R = false by rw [HS2, if_pos h2])
        have E5 := Lib.hid (fun (w' : World) (hb : w'.heap[w.heap.size]? = some (.cells #[.slice x.na x.nodes.length x.nc, .slice x.fa x.funcs.length x.fc] 25 (0, 0))) => blk_cell hb)
        have KD := Lib.hid (fun (w' : World) (_ : Chg [] w w') => True.intro)
        clear HS2
        rw [e2]
        go_upto_region 5 with fail
        rw [← hW2]
        clear hW2 u0 u1 u2
        go_wp2_with (first | (go_at_call 83; (with_reducible refine Calls.mono (AN.out _) ?_); rintro e w4 ⟨rfl, rfl⟩) | (go_at_call 84; (with_reducible refine Calls.mono AS.out ?_); rintro e w5 ⟨rfl, hc⟩; have D5 := Lib.hid (D2.out.thenSame hc); have B5 := Lib.hid (hc.at (by simp) B2.out); have K5 := Lib.hid (hc.at (by simp) K2.out); have k5 := E5.out _ B5.out; have k6 := blk_cell K5.out; have k7 := KD.out _ D5.out; clear hc k1 k2) | (go_at_call 86; (with_reducible refine Calls.mono (FI.out _ D5.out) ?_); rintro e w6 ⟨rfl, hc⟩; have D6 := Lib.hid (D5.out.thenSame hc); have B6 := Lib.hid (hc.at (by simp) B5.out); have K6 := Lib.hid (hc.at (by simp) K5.out); have k8 := blk_cell B6.out; have k9 := blk_cell K6.out; clear hc k5 k6 k7))
        go_ret
        exact ⟨retB HE.out.symm, D5.out⟩
      rw [if_neg h2] at HS2
      obtain ⟨m, rfl⟩ : ∃ m : Nat, bd = (m : Int) := ⟨bd.toNat, by omega⟩
      have hm : m < x.nodes.length := by omega
      have hm0 : (0 : Int) ≤ (m : Int) := by omega
      have hml : (m : Int) < (x.nodes.length : Int) := by omega
      obtain ⟨b3, o3, e3, -, -, -⟩ := HN.out.1.elem (Chg.refl [] w) m hm
      have KD := Lib.hid (fun w' (hc : Chg [] w w') => show w'.cell? ⟨b3, o3 + m * 5, none⟩ = some (.int .i64 (x.nodes[m]).kind) from by
        obtain ⟨b4, o4, e4, -, -, hcc⟩ := HN.out.1.elem hc m hm
        rw [e3] at e4
        cases e4
        have e := hcc 0 (by omega)
        simp only [ndC, List.getElem?_cons_zero, Nat.add_zero] at e
        exact e)
      have E5 := Lib.hid (fun (w' : World) (hb : w'.heap[w.heap.size]? = some (.cells #[.slice x.na x.nodes.length x.nc, .slice x.fa x.funcs.length x.fc] 25 (0, 0))) => show ∀ i, w'.cell? ⟨w.heap.size, i, none⟩ = (#[Value.slice (some ⟨b3, o3, none⟩) x.nodes.length x.nc, .slice x.fa x.funcs.length x.fc])[i]? from by
        have k := blk_cell hb
        rw [e3] at k
        exact k)
      have FI1 := fun w' (hc : Chg [] w w') => FI0.out w' hc m hm
      rw [e3] at FI1
      have hkk : kindAt (x.nodes.map Nd.p) ((m : Int).toNat) = (x.nodes[m]).kind := by rw [Int.toNat_natCast, kindAt, List.getElem?_map, List.getElem?_eq_getElem hm]; rfl
      rw [hkk, Int.toNat_natCast] at HS2
      generalize (x.nodes[m]).kind = pk at *
      generalize firstF (x.nodes.map Nd.p) x.nodes.length m = r at *
      have FI := Lib.hid FI1
      clear FI1 hkk e3
      by_cases hv : pk = 19
      case neg =>
        have hvb : (pk != 19) = true := bne_iff_ne.2 hv
        have HE := Lib.hid (show R = false by rw [HS2, if_pos hvb])
        clear HS2 hv
        rw [e2]
        go_upto_region 5 with fail
        rw [← hW2]
        clear hW2 u0 u1 u2
        go_wp2_with (first | (go_at_call 83; (with_reducible refine Calls.mono (AN.out _) ?_); rintro e w4 ⟨rfl, rfl⟩) | (go_at_call 84; (with_reducible refine Calls.mono AS.out ?_); rintro e w5 ⟨rfl, hc⟩; have D5 := Lib.hid (D2.out.thenSame hc); have B5 := Lib.hid (hc.at (by simp) B2.out); have K5 := Lib.hid (hc.at (by simp) K2.out); have k5 := E5.out _ B5.out; have k6 := blk_cell K5.out; have k7 := KD.out _ D5.out; clear hc k1 k2) | (go_at_call 86; (with_reducible refine Calls.mono (FI.out _ D5.out) ?_); rintro e w6 ⟨rfl, hc⟩; have D6 := Lib.hid (D5.out.thenSame hc); have B6 := Lib.hid (hc.at (by simp) B5.out); have K6 := Lib.hid (hc.at (by simp) K5.out); have k8 := blk_cell B6.out; have k9 := blk_cell K6.out; clear hc k5 k6 k7))
        go_ret
        exact ⟨retB HE.out.symm, D5.out⟩
      subst hv
      rw [if_neg (by simp)] at HS2
      by_cases hr : r = s
      case neg =>
        have hvb : (r != s) = true := bne_iff_ne.2 hr
        have HE := Lib.hid (show R = false by rw [HS2, if_pos hvb])
        clear HS2 hr
        rw [e2]
        go_upto_region 5 with fail
        rw [← hW2]
        clear hW2 u0 u1 u2
        go_wp2_with (first | (go_at_call 83; (with_reducible refine Calls.mono (AN.out _) ?_); rintro e w4 ⟨rfl, rfl⟩) | (go_at_call 84; (with_reducible refine Calls.mono AS.out ?_); rintro e w5 ⟨rfl, hc⟩; have D5 := Lib.hid (D2.out.thenSame hc); have B5 := Lib.hid (hc.at (by simp) B2.out); have K5 := Lib.hid (hc.at (by simp) K2.out); have k5 := E5.out _ B5.out; have k6 := blk_cell K5.out; have k7 := KD.out _ D5.out; clear hc k1 k2) | (go_at_call 86; (with_reducible refine Calls.mono (FI.out _ D5.out) ?_); rintro e w6 ⟨rfl, hc⟩; have D6 := Lib.hid (D5.out.thenSame hc); have B6 := Lib.hid (hc.at (by simp) B5.out); have K6 := Lib.hid (hc.at (by simp) K5.out); have k8 := blk_cell B6.out; have k9 := blk_cell K6.out; clear hc k5 k6 k7))
        go_ret
        exact ⟨retB HE.out.symm, D6.out⟩
      have hvb : (r != s) = false := by rw [hr]; simp
      have HS3 := Lib.hid (show R = ordGo (x.nodes.map Nd.p) ((x.funcs.drop (j + 1)).map Fn'.p) ((m : Int) + 1) by rw [HS2, if_neg (by rw [hvb]; simp)])
      have qm : IntKind.i64.wrap ((m : Int) + 1) = (m : Int) + 1 := IntWalk.i64_in _ (by omega)
      clear HS2 hr
      rw [e2]
      go_upto_region 5 with fail
      rw [← hW2]
      clear hW2 u0 u1 u2
      go_wp2_with (first | (go_at_call 83; (with_reducible refine Calls.mono (AN.out _) ?_); rintro e w4 ⟨rfl, rfl⟩) | (go_at_call 84; (with_reducible refine Calls.mono AS.out ?_); rintro e w5 ⟨rfl, hc⟩; have D5 := Lib.hid (D2.out.thenSame hc); have B5 := Lib.hid (hc.at (by simp) B2.out); have K5 := Lib.hid (hc.at (by simp) K2.out); have k5 := E5.out _ B5.out; have k6 := blk_cell K5.out; have k7 := KD.out _ D5.out; clear hc k1 k2) | (go_at_call 86; (with_reducible refine Calls.mono (FI.out _ D5.out) ?_); rintro e w6 ⟨rfl, hc⟩; have D6 := Lib.hid (D5.out.thenSame hc); have B6 := Lib.hid (hc.at (by simp) B5.out); have K6 := Lib.hid (hc.at (by simp) K5.out); have k8 := blk_cell B6.out; have k9 := blk_cell K6.out; clear hc k5 k6 k7))
      exact ⟨⟨j + 1, (m : Int) + 1, rfl, rfl, by omega, ⟨by omega, by omega⟩, HS3, D6, (by rw [e2] at B6; exact B6)⟩, by simp [intOf]; omega⟩
    · have hje : j = x.funcs.length := by omega
      have HS2 := HS.out
      rw [hje, List.drop_length, List.map_nil, ordGo, List.length_map] at HS2
      have HE := Lib.hid HS2
      have hjl' : ¬ (j : Int) < (x.funcs.length : Int) := by omega
      have k1 := blk_cell B.out
      clear HS2 hje
      go_wp2_with fail
      go_ret
      exact ⟨retB HE.out.symm, D.out⟩
end Go.Proofs.YtolidiafomceiaaGreatDoor
namespace Go.Proofs.YtolidiafomceiaaGreatDoor
set_option linter.unusedVariables false
set_option linter.unusedSimpArgs false
open Go.RowKit
def scheckZ (p : PPr) : Int := if 600 < p.nodes.length then 3 else if 16 < p.funcs.length then 3 else if ordB p = false then 1 else if p.funcs.any (fun f => decide (8 < f.params.length)) = true then 3 else if 32 < deepF p then 3 else 0
set_option maxHeartbeats 16000000 in
set_option maxRecDepth 100000 in
theorem scheck_any (x : Pr) (w : World) (h : PrIn w x) (hg : goodPr x) (ht : TabW w) : Calls Tryz.prog 43 #[.agg (prC x).toArray] w fun e w' => e = .returned (.int .i64 (scheckZ x.p)) ∧ Chg [] w w' := by
  obtain ⟨R, hR⟩ : ∃ R, R = scheckZ x.p := ⟨_, rfl⟩
  rw [← hR]
  have q1 : x.p.nodes.length = x.nodes.length := List.length_map _
  have q2 : x.p.funcs.length = x.funcs.length := List.length_map _
  have q3 : x.p.funcs.any (fun f => decide (8 < f.params.length)) = x.funcs.any (fun f => decide (8 < f.params.length)) := by
    show (x.funcs.map Fn'.p).any _ = _
    rw [List.any_map]
    rfl
  rw [scheckZ, q1, q2, q3] at hR
  obtain ⟨W1, hW1⟩ : ∃ W1, W1 = w.alloc (prO x) := ⟨_, rfl⟩
  have C1 := Lib.hid (show Chg [] w W1 by rw [hW1]; exact (Chg.refl _ _).alloc _)
  have B1 := Lib.hid (show W1.heap[w.heap.size]? = some (prO x) by rw [hW1]; exact heap_alloc_new _ _)
  have AO := ordered_any x W1 (h.kept C1.out) hg (ht.kept C1.out)
  have AF := Lib.hid (fun w' (hc : Chg [] w w') => fcontf_any (w := w') (h.2.1.kept hc))
  have AD0 := fun (ho : ordB x.p = true) w' (hc : Chg [] w w') => deepest_any x w' (h.kept hc) (by
    have e := ordGo_ok (Int.le_refl 0) ho
    intro f hf
    exact e f.p (List.mem_map_of_mem hf))
  unfold prO at hW1 B1
  simp only [prC] at AO AD0 ⊢
  have k1 := blk_cell B1.out
  generalize ordB x.p = qo at *
  generalize x.funcs.any (fun f => decide (8 < f.params.length)) = qf at *
  generalize deepF x.p = d at *
  have AO := Lib.hid AO
  rename_i AO0
  clear q1 q2 q3 AO0 h hg ht
  by_cases h1 : 600 < x.nodes.length
  · have h1' : (600 : Int) < (x.nodes.length : Int) := by omega
    have HE := Lib.hid (show R = 3 by rw [hR, if_pos h1])
    clear hR h1 AD0
    go_enter Tryz.func43, Tryz.ntmps43
    go_upto_region 1 with fail
    rw [← hW1]
    clear hW1
    go_wp2_with (first | (go_at_call 56; (with_reducible refine Calls.mono (AO.out) ?_); rintro e w2 ⟨rfl, hc⟩; have C2 := Lib.hid (C1.out.thenSame hc); have B2 := Lib.hid (hc.at (by simp) B1.out); have k2 := blk_cell B2.out; clear hc k1) | (go_at_call 57; (with_reducible refine Calls.mono (AF.out _ C2.out) ?_); rintro e w3 ⟨rfl, hc⟩; have C3 := Lib.hid (C2.out.thenSame hc); have B3 := Lib.hid (hc.at (by simp) B2.out); have k3 := blk_cell B3.out; clear hc k2) | (go_at_call 59; (with_reducible refine Calls.mono (AD.out _ C3.out) ?_); rintro e w4 ⟨rfl, hc⟩; have C4 := Lib.hid (C3.out.thenSame hc); clear hc))
    go_ret
    exact ⟨retI HE.out.symm, C1.out⟩
  have h1' : ¬ (600 : Int) < (x.nodes.length : Int) := by omega
  rw [if_neg h1] at hR
  by_cases h2 : 16 < x.funcs.length
  · have h2' : (16 : Int) < (x.funcs.length : Int) := by omega
    have HE := Lib.hid (show R = 3 by rw [hR, if_pos h2])
    clear hR h2 AD0
    go_enter Tryz.func43, Tryz.ntmps43
    go_upto_region 1 with fail
    rw [← hW1]
    clear hW1
    go_wp2_with (first | (go_at_call 56; (with_reducible refine Calls.mono (AO.out) ?_); rintro e w2 ⟨rfl, hc⟩; have C2 := Lib.hid (C1.out.thenSame hc); have B2 := Lib.hid (hc.at (by simp) B1.out); have k2 := blk_cell B2.out; clear hc k1) | (go_at_call 57; (with_reducible refine Calls.mono (AF.out _ C2.out) ?_); rintro e w3 ⟨rfl, hc⟩; have C3 := Lib.hid (C2.out.thenSame hc); have B3 := Lib.hid (hc.at (by simp) B2.out); have k3 := blk_cell B3.out; clear hc k2) | (go_at_call 59; (with_reducible refine Calls.mono (AD.out _ C3.out) ?_); rintro e w4 ⟨rfl, hc⟩; have C4 := Lib.hid (C3.out.thenSame hc); clear hc))
    go_ret
    exact ⟨retI HE.out.symm, C1.out⟩
  have h2' : ¬ (16 : Int) < (x.funcs.length : Int) := by omega
  rw [if_neg h2] at hR
  clear h1 h2
  cases qo
  · have HE := Lib.hid (show R = 1 by rw [hR]; rfl)
    clear hR AD0
    go_enter Tryz.func43, Tryz.ntmps43
    go_upto_region 1 with fail
    rw [← hW1]
    clear hW1
    go_wp2_with (first | (go_at_call 56; (with_reducible refine Calls.mono (AO.out) ?_); rintro e w2 ⟨rfl, hc⟩; have C2 := Lib.hid (C1.out.thenSame hc); have B2 := Lib.hid (hc.at (by simp) B1.out); have k2 := blk_cell B2.out; clear hc k1) | (go_at_call 57; (with_reducible refine Calls.mono (AF.out _ C2.out) ?_); rintro e w3 ⟨rfl, hc⟩; have C3 := Lib.hid (C2.out.thenSame hc); have B3 := Lib.hid (hc.at (by simp) B2.out); have k3 := blk_cell B3.out; clear hc k2) | (go_at_call 59; (with_reducible refine Calls.mono (AD.out _ C3.out) ?_); rintro e w4 ⟨rfl, hc⟩; have C4 := Lib.hid (C3.out.thenSame hc); clear hc))
    go_ret
    exact ⟨retI HE.out.symm, C2.out⟩
  have AD := Lib.hid (AD0 rfl)
  rw [if_neg (by simp)] at hR
  clear AD0
  cases qf
  case true =>
    have HE := Lib.hid (show R = 3 by rw [hR]; rfl)
    clear hR
    go_enter Tryz.func43, Tryz.ntmps43
    go_upto_region 1 with fail
    rw [← hW1]
    clear hW1
    go_wp2_with (first | (go_at_call 56; (with_reducible refine Calls.mono (AO.out) ?_); rintro e w2 ⟨rfl, hc⟩; have C2 := Lib.hid (C1.out.thenSame hc); have B2 := Lib.hid (hc.at (by simp) B1.out); have k2 := blk_cell B2.out; clear hc k1) | (go_at_call 57; (with_reducible refine Calls.mono (AF.out _ C2.out) ?_); rintro e w3 ⟨rfl, hc⟩; have C3 := Lib.hid (C2.out.thenSame hc); have B3 := Lib.hid (hc.at (by simp) B2.out); have k3 := blk_cell B3.out; clear hc k2) | (go_at_call 59; (with_reducible refine Calls.mono (AD.out _ C3.out) ?_); rintro e w4 ⟨rfl, hc⟩; have C4 := Lib.hid (C3.out.thenSame hc); clear hc))
    go_ret
    exact ⟨retI HE.out.symm, C3.out⟩
  rw [if_neg (by simp)] at hR
  by_cases h3 : 32 < d
  · have HE := Lib.hid (show R = 3 by rw [hR, if_pos h3])
    clear hR
    go_enter Tryz.func43, Tryz.ntmps43
    go_upto_region 1 with fail
    rw [← hW1]
    clear hW1
    go_wp2_with (first | (go_at_call 56; (with_reducible refine Calls.mono (AO.out) ?_); rintro e w2 ⟨rfl, hc⟩; have C2 := Lib.hid (C1.out.thenSame hc); have B2 := Lib.hid (hc.at (by simp) B1.out); have k2 := blk_cell B2.out; clear hc k1) | (go_at_call 57; (with_reducible refine Calls.mono (AF.out _ C2.out) ?_); rintro e w3 ⟨rfl, hc⟩; have C3 := Lib.hid (C2.out.thenSame hc); have B3 := Lib.hid (hc.at (by simp) B2.out); have k3 := blk_cell B3.out; clear hc k2) | (go_at_call 59; (with_reducible refine Calls.mono (AD.out _ C3.out) ?_); rintro e w4 ⟨rfl, hc⟩; have C4 := Lib.hid (C3.out.thenSame hc); clear hc))
    go_ret
    exact ⟨retI HE.out.symm, C4.out⟩
  · have HE := Lib.hid (show R = 0 by rw [hR, if_neg h3])
    clear hR
    go_enter Tryz.func43, Tryz.ntmps43
    go_upto_region 1 with fail
    rw [← hW1]
    clear hW1
    go_wp2_with (first | (go_at_call 56; (with_reducible refine Calls.mono (AO.out) ?_); rintro e w2 ⟨rfl, hc⟩; have C2 := Lib.hid (C1.out.thenSame hc); have B2 := Lib.hid (hc.at (by simp) B1.out); have k2 := blk_cell B2.out; clear hc k1) | (go_at_call 57; (with_reducible refine Calls.mono (AF.out _ C2.out) ?_); rintro e w3 ⟨rfl, hc⟩; have C3 := Lib.hid (C2.out.thenSame hc); have B3 := Lib.hid (hc.at (by simp) B2.out); have k3 := blk_cell B3.out; clear hc k2) | (go_at_call 59; (with_reducible refine Calls.mono (AD.out _ C3.out) ?_); rintro e w4 ⟨rfl, hc⟩; have C4 := Lib.hid (C3.out.thenSame hc); clear hc))
    go_ret
    exact ⟨retI HE.out.symm, C4.out⟩
end Go.Proofs.YtolidiafomceiaaGreatDoor
namespace Go.Proofs.YtolidiafomceiaaGreatDoor
set_option linter.unusedVariables false
set_option linter.unusedSimpArgs false
open Go.RowKit
def idxFrom {α : Type} (p : α → Bool) : List α → Int → Int
  | [], _ => -1
  | x :: r, k => if p x = true then k else idxFrom p r (k + 1)
theorem idxFrom_any {α : Type} {p : α → Bool} : ∀ {l : List α} {k : Int}, 0 ≤ k → decide (0 ≤ idxFrom p l k) = l.any p := by
  intro l
  induction l with
  | nil => intro k _; rfl
  | cons x r ih =>
    intro k hk
    rw [idxFrom, List.any_cons]
    split
    · rename_i h; rw [h]; simpa using hk
    · rename_i h; rw [ih (by omega)]; simp [h]
set_option maxHeartbeats 4000000 in
set_option maxRecDepth 100000 in
theorem sindex_any {a : Option Addr} {c : Nat} {l : List ByteArray} (s : ByteArray) {w : World} (h : InIs skC 1 w a c l) :
    Calls Tryz.prog 88 #[.slice a l.length c, .string s] w fun e w' => e = .returned (.int .i64 (idxFrom (fun x => s == x) l 0)) ∧ Chg [] w w' := by
  obtain ⟨R, hR⟩ : ∃ R, R = idxFrom (fun x => s == x) l 0 := ⟨_, rfl⟩
  rw [← hR]
  have HR := Lib.hid hR
  have H := Lib.hid h
  have hm : (l.length : Int) ≤ 9223372036854775807 := by have h1 := h.2.1; have h2 := h.2.2.1; unfold maxLen at h2; omega
  clear h hR
  go_enter Tryz.func88, Tryz.ntmps88
  go_wp2_with fail
  go_loopw [8] (fun i wr => ∃ k : Nat, i = .int .i64 k ∧ k ≤ l.length ∧ Hid (R = idxFrom (fun x => s == x) (l.drop k) (k : Int)) ∧ Hid (Chg [] w wr)) (fun i _ => l.length - (intOf i).toNat)
  case atStart => exact ⟨0, rfl, Nat.zero_le _, Lib.hid HR.out, Lib.hid (Chg.refl _ _)⟩
  case round =>
    obtain ⟨k, rfl, hkl, HS, D⟩ := hrel
    by_cases hk : k < l.length
    · obtain ⟨b, off, rfl, -, -, hcc⟩ := H.out.1.elem D.out k hk
      have u1 := hcc 0 (by omega)
      simp only [skC, List.getElem?_cons_zero, Nat.add_zero, Nat.mul_one] at u1
      have HS2 := HS.out
      rw [List.drop_eq_getElem_cons hk, idxFrom] at HS2
      generalize l[k] = x at *
      have hk0 : (0 : Int) ≤ (k : Int) := by omega
      have hk1 : (k : Int) < (l.length : Int) := by omega
      have qs : (s == x) = (s.toList == x.toList) := beq_toListBytes s x
      rw [qs] at HS2
      clear hcc qs
      cases hq : (s.toList == x.toList)
      · rw [hq, if_neg (by simp)] at HS2
        have HS3 := Lib.hid HS2
        clear HS2
        go_wp2_with fail
        exact ⟨⟨k + 1, by go_num, by omega, Lib.hid (by rw [HS3.out]; rfl), D⟩, by simp [intOf]; omega⟩
      · rw [hq, if_pos rfl] at HS2
        have HE := Lib.hid HS2
        clear HS2
        go_wp2_with fail
        go_ret
        exact ⟨retI HE.out.symm, D.out⟩
    · have hks : k = l.length := by omega
      have HS2 := HS.out
      rw [hks, List.drop_length, idxFrom] at HS2
      have HE := Lib.hid HS2
      clear hks HS2
      go_wp2_with fail
      go_ret
      exact ⟨retI HE.out.symm, D.out⟩
set_option maxHeartbeats 4000000 in
set_option maxRecDepth 100000 in
theorem scont_any {a : Option Addr} {c : Nat} {l : List ByteArray} (s : ByteArray) {w : World} (h : InIs skC 1 w a c l) :
    Calls Tryz.prog 60 #[.slice a l.length c, .string s] w fun e w' => e = .returned (.bool (l.any (fun x => s == x))) ∧ Chg [] w w' := by
  have A := Lib.hid (sindex_any s h)
  have hn := idxFrom_any (p := fun x => s == x) (l := l) (Int.le_refl 0)
  generalize l.any (fun x => s == x) = q at *
  generalize idxFrom (fun x => s == x) l 0 = n at *
  have HN := Lib.hid hn
  clear hn
  go_enter Tryz.func60, Tryz.ntmps60
  go_wp2_with (go_at_call 88; (with_reducible refine Calls.mono A.out ?_); rintro e w2 ⟨rfl, hc⟩)
  go_ret
  exact ⟨by rw [← HN.out]; rfl, hc⟩
end Go.Proofs.YtolidiafomceiaaGreatDoor
namespace Go.Proofs.YtolidiafomceiaaGreatDoor
set_option linter.unusedVariables false
set_option linter.unusedSimpArgs false
open Go.RowKit
set_option maxHeartbeats 4000000 in
set_option maxRecDepth 100000 in
theorem find1_any (x : Fn') (p : Nat) (s : ByteArray) (w : World) (h : w.cell? ⟨p, 0, none⟩ = some (.string s)) (hp : p < w.heap.size) : Calls Tryz.prog 52 #[.agg (fnC x).toArray, .pointer (some ⟨p, 0, none⟩)] w fun e w' => e = .returned (.bool (x.name == s)) ∧ Chg [] w w' := by
  have qs : (x.name == s) = (x.name.toList == s.toList) := beq_toListBytes x.name s
  have hk := World.cell?_of_block (w := w) (w' := w.alloc (fnO x)) (a := ⟨p, 0, none⟩) (heap_alloc_old _ _ hp)
  rw [h] at hk
  simp only [fnC]
  unfold fnO at hk
  go_enter Tryz.func52, Tryz.ntmps52
  go_wp2_with fail
  go_ret
  exact ⟨by rw [qs]; rfl, (Chg.refl _ _).alloc _⟩
set_option maxHeartbeats 4000000 in
set_option maxRecDepth 100000 in
theorem findexn_any {a : Option Addr} {c : Nat} {l : List Fn'} {w : World} (h : InIs fnC 3 w a c l) (p : Nat) (s : ByteArray) (hp : w.cell? ⟨p, 0, none⟩ = some (.string s)) (hpl : p < w.heap.size) :
    Calls Tryz.prog 51 #[.slice a l.length c, .func (.func 52) #[] #[.pointer (some ⟨p, 0, none⟩)]] w fun e w' => e = .returned (.int .i64 (idxFrom (fun f : Fn' => f.name == s) l 0)) ∧ Chg [] w w' := by
  obtain ⟨R, hR⟩ : ∃ R, R = idxFrom (fun f : Fn' => f.name == s) l 0 := ⟨_, rfl⟩
  rw [← hR]
  have HR := Lib.hid hR
  have H := Lib.hid h
  have HP := Lib.hid (fun w' (hc : Chg [] w w') => And.intro ((World.cell?_of_block (w := w) (hc.block p hpl (by simp))).trans hp) (hc.lt hpl))
  have hm : (l.length : Int) ≤ 9223372036854775807 := by have h1 := h.2.1; have h2 := h.2.2.1; unfold maxLen at h2; omega
  clear h hR hp hpl
  go_enter Tryz.func51, Tryz.ntmps51
  go_wp2_with fail
  go_loopw [8] (fun i wr => ∃ k : Nat, i = .int .i64 k ∧ k ≤ l.length ∧ Hid (R = idxFrom (fun f : Fn' => f.name == s) (l.drop k) (k : Int)) ∧ Hid (Chg [] w wr)) (fun i _ => l.length - (intOf i).toNat)
  case atStart => exact ⟨0, rfl, Nat.zero_le _, Lib.hid HR.out, Lib.hid (Chg.refl _ _)⟩
  case round =>
    obtain ⟨k, rfl, hkl, HS, D⟩ := hrel
    by_cases hk : k < l.length
    · obtain ⟨b, off, rfl, -, -, hcc⟩ := H.out.1.elem D.out k hk
      have u0 := hcc 0 (by omega)
      have u1 := hcc 1 (by omega)
      have u2 := hcc 2 (by omega)
      simp only [fnC, List.getElem?_cons_zero, List.getElem?_cons_succ, Nat.add_zero] at u0 u1 u2
      have HS2 := HS.out
      rw [List.drop_eq_getElem_cons hk, idxFrom] at HS2
      generalize l[k] = x at *
      obtain ⟨hp1, hp2⟩ := HP.out _ D.out
      have A := find1_any x p s wr hp1 hp2
      unfold fnC at A
      have A := Lib.hid A
      rename_i A0
      have hk0 : (0 : Int) ≤ (k : Int) := by omega
      have hk1 : (k : Int) < (l.length : Int) := by omega
      clear hcc A0 hp1 hp2
      generalize (x.name == s) = q at *
      cases q
      · rw [if_neg (by simp)] at HS2
        have HS3 := Lib.hid HS2
        clear HS2
        go_wp2_with (first | (with_reducible refine Calls.mono A.out ?_); rintro e w2 ⟨rfl, hc⟩; have D2 := Lib.hid (D.out.thenSame hc); clear hc)
        exact ⟨⟨k + 1, by go_num, by omega, Lib.hid (by rw [HS3.out]; rfl), D2⟩, by simp [intOf]; omega⟩
      · rw [if_pos rfl] at HS2
        have HE := Lib.hid HS2
        clear HS2
        go_wp2_with (first | (with_reducible refine Calls.mono A.out ?_); rintro e w2 ⟨rfl, hc⟩; have D2 := Lib.hid (D.out.thenSame hc); clear hc)
        go_ret
        exact ⟨retI HE.out.symm, D2.out⟩
    · have hks : k = l.length := by omega
      have HS2 := HS.out
      rw [hks, List.drop_length, idxFrom] at HS2
      have HE := Lib.hid HS2
      clear hks HS2
      go_wp2_with fail
      go_ret
      exact ⟨retI HE.out.symm, D.out⟩
end Go.Proofs.YtolidiafomceiaaGreatDoor
namespace Go.Proofs.YtolidiafomceiaaGreatDoor
set_option linter.unusedVariables false
set_option linter.unusedSimpArgs false
open Go.RowKit
set_option maxHeartbeats 4000000 in
set_option maxRecDepth 100000 in
theorem find_any (x : Pr) (s : ByteArray) (w : World) (h : PrIn w x) : Calls Tryz.prog 38 #[.agg (prC x).toArray, .string s] w fun e w' => e = .returned (.int .i64 (idxFrom (fun f : Fn' => f.name == s) x.funcs 0)) ∧ Chg [] w w' := by
  obtain ⟨W1, hW1⟩ : ∃ W1, W1 = w.alloc (prO x) := ⟨_, rfl⟩
  have C1 := Lib.hid (show Chg [] w W1 by rw [hW1]; exact (Chg.refl _ _).alloc _)
  have B1 := Lib.hid (show W1.heap[w.heap.size]? = some (prO x) by rw [hW1]; exact heap_alloc_new _ _)
  have S1 : W1.heap.size = w.heap.size + 1 := by rw [hW1]; exact Array.size_push _
  obtain ⟨W2, hW2⟩ : ∃ W2, W2 = W1.alloc (.cells #[.string s] 9) := ⟨_, rfl⟩
  have C2 := Lib.hid (show Chg [] w W2 by rw [hW2]; exact C1.out.alloc _)
  have B2 := Lib.hid (show W2.heap[w.heap.size]? = some (prO x) by rw [hW2]; exact (heap_alloc_old _ _ (by omega)).trans B1.out)
  have K2 := Lib.hid (show W2.heap[w.heap.size + 1]? = some (.cells #[.string s] 9) by rw [hW2, ← S1]; exact heap_alloc_new _ _)
  have L2 : w.heap.size + 1 < W2.heap.size := (Array.getElem?_eq_some_iff.1 K2.out).1
  have k2 := blk_cell K2.out
  have A := Lib.hid (findexn_any (w := W2) (h.2.1.kept C2.out) (w.heap.size + 1) s (k2 0) L2)
  unfold prO at hW1 B2
  have k1 := blk_cell B2.out
  simp only [prC]
  generalize idxFrom (fun f : Fn' => f.name == s) x.funcs 0 = R at *
  clear h B1 L2
  go_enter Tryz.func38, Tryz.ntmps38
  go_upto_region 1 with fail
  rw [← hW1]
  try rw [S1]
  rw [← hW2]
  clear hW1 hW2 S1
  go_wp2_with (go_at_call 51; (with_reducible refine Calls.mono A.out ?_); rintro e w3 ⟨rfl, hc⟩)
  go_ret
  exact ⟨rfl, C2.out.thenSame hc⟩
end Go.Proofs.YtolidiafomceiaaGreatDoor
namespace Go.Proofs.YtolidiafomceiaaGreatDoor
set_option linter.unusedVariables false
set_option linter.unusedSimpArgs false
open Go.RowKit
theorem InIs.take {α : Type} {cf : α → List Value} {sz : Nat} {w : World} {a : Option Addr} {c : Nat} {l : List α} (h : InIs cf sz w a c l) {k : Nat} (hk : k ≤ l.length) : InIs cf sz w a c (l.take k) := by
  refine ⟨⟨rfl, fun j hj => ?_⟩, ?_, h.2.2.1, h.2.2.2⟩
  · rw [List.length_take] at hj
    obtain ⟨b, off, h1, h2, h3⟩ := h.1.2 j (by omega)
    exact ⟨b, off, h1, h2, fun i hi => by rw [h3 i hi, List.getElem_take]⟩
  · rw [List.length_take]
    have := h.2.1
    omega
end Go.Proofs.YtolidiafomceiaaGreatDoor
