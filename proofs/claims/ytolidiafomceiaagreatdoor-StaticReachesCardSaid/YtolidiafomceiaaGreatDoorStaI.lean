/- Chapter 9: contract: deepest. Condition: each body's node was found well. -/
import Derived.Test.YtolidiafomceiaaGreatDoorStaH
namespace Go.Proofs.YtolidiafomceiaaGreatDoor
set_option linter.unusedVariables false
set_option linter.unusedSimpArgs false
open Go.RowKit
def deepF (p : PPr) : Int := p.funcs.foldl (fun q f => max q (nestF p.nodes p.nodes.length f.body.toNat)) 0
def prO (x : Pr) : Obj := .cells #[.slice x.na x.nodes.length x.nc, .slice x.fa x.funcs.length x.fc] 25
def fnO (x : Fn') : Obj := .cells #[.string x.name, .slice x.pa x.params.length x.pc, .int .i64 x.body] 38
/-- A body that has been found well. -/
def BodyOk (l : List PNd) (b : Int) : Prop := ∃ m : Nat, b = (m : Int) ∧ m < l.length ∧ 0 ≤ firstF l l.length m
set_option maxHeartbeats 16000000 in
set_option maxRecDepth 100000 in
theorem deepest_any (x : Pr) (w : World) (h : PrIn w x) (hb : ∀ f ∈ x.funcs, BodyOk x.p.nodes f.body) : Calls Tryz.prog 59 #[.agg (prC x).toArray] w fun e w' => e = .returned (.int .i64 (deepF x.p)) ∧ Chg [] w w' := by
  obtain ⟨R, hR⟩ : ∃ R, R = deepF x.p := ⟨_, rfl⟩
  rw [← hR]
  have HF := Lib.hid h.2.1
  have NE := Lib.hid (fun w' (hc : Chg [] w w') (m : Nat) (hm : m < x.nodes.length) (hf : 0 ≤ firstF (x.nodes.map Nd.p) x.nodes.length m) => nest_all (na := x.na) (nc := x.nc) (l := x.nodes) x.nodes.length w' (h.1.1.kept hc) (fun d hd => (h.1.2 d hd).kept hc) (Nat.le_refl _) m hm hm hf)
  have HB := Lib.hid (fun m => nestF_bound (l := x.nodes.map Nd.p) x.nodes.length m)
  have hnl : (x.nodes.length : Int) ≤ 9223372036854775807 := by have h1 := h.1.1.2.1; have h2 := h.1.1.2.2.1; unfold maxLen at h2; omega
  have hfl : (x.funcs.length : Int) ≤ 9223372036854775807 := by have h1 := h.2.1.2.1; have h2 := h.2.1.2.2.1; unfold maxLen at h2; omega
  have hR2 : R = x.funcs.foldl (fun q f => max q (nestF (x.nodes.map Nd.p) x.nodes.length f.body.toNat)) 0 := by
    rw [hR]
    show (x.funcs.map Fn'.p).foldl (fun q f => max q (nestF (x.nodes.map Nd.p) (x.nodes.map Nd.p).length f.body.toNat)) 0 = _
    rw [List.foldl_map, List.length_map]
    rfl
  have hb2 : ∀ f ∈ x.funcs, ∃ m : Nat, f.body = (m : Int) ∧ m < x.nodes.length ∧ 0 ≤ firstF (x.nodes.map Nd.p) x.nodes.length m := by
    intro f hf
    obtain ⟨m, h1, h2, h3⟩ := hb f hf
    have e : x.p.nodes = x.nodes.map Nd.p := rfl
    rw [e] at h2 h3
    rw [List.length_map] at h2 h3
    exact ⟨m, h1, h2, h3⟩
  have HBO := Lib.hid hb2
  have HR := Lib.hid hR2
  obtain ⟨W1, hW1⟩ : ∃ W1, W1 = w.alloc (prO x) := ⟨_, rfl⟩
  have C1 := Lib.hid (show Chg [] w W1 by rw [hW1]; exact (Chg.refl _ _).alloc _)
  have B1 := Lib.hid (show W1.heap[w.heap.size]? = some (prO x) by rw [hW1]; exact heap_alloc_new _ _)
  unfold prO at hW1 B1
  have k1 := blk_cell B1.out
  simp only [prC]
  clear hR hR2 hb hb2 h
  go_enter Tryz.func59, Tryz.ntmps59
  go_upto_region 1 with fail
  rw [← hW1]
  clear hW1
  go_wp2_with fail
  clear k1
  go_loopw [3, 9] (fun u v wr => ∃ (j : Nat) (q : Int), u = .int .i64 q ∧ v = .int .i64 j ∧ j ≤ x.funcs.length ∧ (0 ≤ q ∧ q ≤ (x.nodes.length : Int)) ∧ Hid (R = (x.funcs.drop j).foldl (fun q f => max q (nestF (x.nodes.map Nd.p) x.nodes.length f.body.toNat)) q) ∧ Hid (Chg [] w wr) ∧ Hid (wr.heap[w.heap.size]? = some (.cells #[.slice x.na x.nodes.length x.nc, .slice x.fa x.funcs.length x.fc] 25 (0, 0)))) (fun _ v _ => x.funcs.length - (intOf v).toNat)
  case atStart => exact ⟨0, 0, rfl, rfl, Nat.zero_le _, ⟨Int.le_refl _, by omega⟩, Lib.hid HR.out, C1, B1⟩
  case round =>
    obtain ⟨j, q, rfl, rfl, hj, ⟨hq0, hqn⟩, HS, D, B⟩ := hrel
    have hj0 : (0 : Int) ≤ (j : Int) := by omega
    by_cases hjl : j < x.funcs.length
    · have hjl' : (j : Int) < (x.funcs.length : Int) := by omega
      obtain ⟨b2, o2, e2, -, -, hc2⟩ := HF.out.1.elem D.out j hjl
      obtain ⟨m, hm1, hm2, hm3⟩ := HBO.out _ (List.getElem_mem hjl)
      have u0 := hc2 0 (by omega)
      have u1 := hc2 1 (by omega)
      have u2 := hc2 2 (by omega)
      simp only [fnC, List.getElem?_cons_zero, List.getElem?_cons_succ, Nat.add_zero] at u0 u1 u2
      rw [hm1] at u2
      have hb := HB.out m
      have HS2 := HS.out
      rw [List.drop_eq_getElem_cons hjl, List.foldl_cons, hm1, Int.toNat_natCast] at HS2
      have HS3 := Lib.hid HS2
      generalize hfe : x.funcs[j] = f at *
      have qj : IntKind.i64.wrap ((j : Int) + 1) = (j : Int) + 1 := IntWalk.i64_in _ (by omega)
      obtain ⟨W2, hW2⟩ : ∃ W2, W2 = wr.alloc (.cells #[.string f.name, .slice f.pa f.params.length f.pc, .int .i64 (m : Int)] 38) := ⟨_, rfl⟩
      have C2 := Lib.hid (show Chg [] wr W2 by rw [hW2]; exact (Chg.refl _ _).alloc _)
      have D2 := Lib.hid (D.out.thenSame C2.out)
      have k2 := blk_cell (show W2.heap[wr.heap.size]? = some (.cells _ _ (0, 0)) from by rw [hW2]; exact heap_alloc_new _ _)
      have B2 := Lib.hid (C2.out.at (by simp) B.out)
      have k1 := blk_cell B2.out
      have A := Lib.hid (NE.out _ D2.out m hm2 hm3)
      generalize hr : nestF (x.nodes.map Nd.p) x.nodes.length m = r at *
      clear hc2 hm1 hr HS2 hfe
      rw [e2]
      go_upto_region 5 with fail
      rw [← hW2]
      clear hW2 u0 u1 u2
      go_wp2_with (go_at_call 87; (with_reducible refine Calls.mono A.out ?_); rintro e w2 ⟨rfl, hc⟩; have D3 := Lib.hid (D2.out.thenSame hc); have B3 := Lib.hid (hc.at (by simp) B2.out); clear hc)
      exact ⟨⟨j + 1, max q r, rfl, rfl, by omega, ⟨by omega, by omega⟩, HS3, D3, (by rw [e2] at B3; exact B3)⟩, by simp [intOf]; omega⟩
    · have hje : j = x.funcs.length := by omega
      have HS2 := HS.out
      rw [hje, List.drop_length, List.foldl_nil] at HS2
      have HE := Lib.hid HS2
      have hjl' : ¬ (j : Int) < (x.funcs.length : Int) := by omega
      clear HS2 hje
      go_wp2_with fail
      go_ret
      exact ⟨retI HE.out.symm, D.out⟩
end Go.Proofs.YtolidiafomceiaaGreatDoor
