/- Chapter 9: contract: syntax.Check. Condition: the table of Itoa lies as the program lays it. -/
import Derived.Test.YtolidiafomceiaaGreatDoorStaK
namespace Go.Proofs.YtolidiafomceiaaGreatDoor
set_option linter.unusedVariables false
set_option linter.unusedSimpArgs false
open Go.RowKit
def scheckZ (p : PPr) : Int := if 600 < p.nodes.length then 3 else if 16 < p.funcs.length then 3 else if ordB p = false then 1 else if p.funcs.any (fun f => decide (8 < f.params.length)) = true then 3 else if 32 < deepF p then 3 else 0
set_option maxHeartbeats 16000000 in
set_option maxRecDepth 100000 in
theorem scheck_any (x : Pr) (w : World) (h : PrIn w x) (hg : goodPr x) (ht : TabW w) : Calls Tryz.prog 43 #[.agg (prC x).toArray] w fun e w' => e = .returned (.int .i64 (scheckZ x.p)) ∧ Chg [] w w' := by
  obtain ⟨R, hR⟩ : ∃ R, R = scheckZ x.p := ⟨_, rfl⟩
  rw [← hR]
  have q1 : x.p.nodes.length = x.nodes.length := List.length_map _
  have q2 : x.p.funcs.length = x.funcs.length := List.length_map _
  have q3 : x.p.funcs.any (fun f => decide (8 < f.params.length)) = x.funcs.any (fun f => decide (8 < f.params.length)) := by
    show (x.funcs.map Fn'.p).any _ = _
    rw [List.any_map]
    rfl
  rw [scheckZ, q1, q2, q3] at hR
  obtain ⟨W1, hW1⟩ : ∃ W1, W1 = w.alloc (prO x) := ⟨_, rfl⟩
  have C1 := Lib.hid (show Chg [] w W1 by rw [hW1]; exact (Chg.refl _ _).alloc _)
  have B1 := Lib.hid (show W1.heap[w.heap.size]? = some (prO x) by rw [hW1]; exact heap_alloc_new _ _)
  have AO := ordered_any x W1 (h.kept C1.out) hg (ht.kept C1.out)
  have AF := Lib.hid (fun w' (hc : Chg [] w w') => fcontf_any (w := w') (h.2.1.kept hc))
  have AD0 := fun (ho : ordB x.p = true) w' (hc : Chg [] w w') => deepest_any x w' (h.kept hc) (by
    have e := ordGo_ok (Int.le_refl 0) ho
    intro f hf
    exact e f.p (List.mem_map_of_mem hf))
  unfold prO at hW1 B1
  simp only [prC] at AO AD0 ⊢
  have k1 := blk_cell B1.out
  generalize ordB x.p = qo at *
  generalize x.funcs.any (fun f => decide (8 < f.params.length)) = qf at *
  generalize deepF x.p = d at *
  have AO := Lib.hid AO
  rename_i AO0
  clear q1 q2 q3 AO0 h hg ht
  by_cases h1 : 600 < x.nodes.length
  · have h1' : (600 : Int) < (x.nodes.length : Int) := by omega
    have HE := Lib.hid (show R = 3 by rw [hR, if_pos h1])
    clear hR h1 AD0
    go_enter Tryz.func43, Tryz.ntmps43
    go_upto_region 1 with fail
    rw [← hW1]
    clear hW1
    go_wp2_with (first | (go_at_call 56; (with_reducible refine Calls.mono (AO.out) ?_); rintro e w2 ⟨rfl, hc⟩; have C2 := Lib.hid (C1.out.thenSame hc); have B2 := Lib.hid (hc.at (by simp) B1.out); have k2 := blk_cell B2.out; clear hc k1) | (go_at_call 57; (with_reducible refine Calls.mono (AF.out _ C2.out) ?_); rintro e w3 ⟨rfl, hc⟩; have C3 := Lib.hid (C2.out.thenSame hc); have B3 := Lib.hid (hc.at (by simp) B2.out); have k3 := blk_cell B3.out; clear hc k2) | (go_at_call 59; (with_reducible refine Calls.mono (AD.out _ C3.out) ?_); rintro e w4 ⟨rfl, hc⟩; have C4 := Lib.hid (C3.out.thenSame hc); clear hc))
    go_ret
    exact ⟨retI HE.out.symm, C1.out⟩
  have h1' : ¬ (600 : Int) < (x.nodes.length : Int) := by omega
  rw [if_neg h1] at hR
  by_cases h2 : 16 < x.funcs.length
  · have h2' : (16 : Int) < (x.funcs.length : Int) := by omega
    have HE := Lib.hid (show R = 3 by rw [hR, if_pos h2])
    clear hR h2 AD0
    go_enter Tryz.func43, Tryz.ntmps43
    go_upto_region 1 with fail
    rw [← hW1]
    clear hW1
    go_wp2_with (first | (go_at_call 56; (with_reducible refine Calls.mono (AO.out) ?_); rintro e w2 ⟨rfl, hc⟩; have C2 := Lib.hid (C1.out.thenSame hc); have B2 := Lib.hid (hc.at (by simp) B1.out); have k2 := blk_cell B2.out; clear hc k1) | (go_at_call 57; (with_reducible refine Calls.mono (AF.out _ C2.out) ?_); rintro e w3 ⟨rfl, hc⟩; have C3 := Lib.hid (C2.out.thenSame hc); have B3 := Lib.hid (hc.at (by simp) B2.out); have k3 := blk_cell B3.out; clear hc k2) | (go_at_call 59; (with_reducible refine Calls.mono (AD.out _ C3.out) ?_); rintro e w4 ⟨rfl, hc⟩; have C4 := Lib.hid (C3.out.thenSame hc); clear hc))
    go_ret
    exact ⟨retI HE.out.symm, C1.out⟩
  have h2' : ¬ (16 : Int) < (x.funcs.length : Int) := by omega
  rw [if_neg h2] at hR
  clear h1 h2
  cases qo
  · have HE := Lib.hid (show R = 1 by rw [hR]; rfl)
    clear hR AD0
    go_enter Tryz.func43, Tryz.ntmps43
    go_upto_region 1 with fail
    rw [← hW1]
    clear hW1
    go_wp2_with (first | (go_at_call 56; (with_reducible refine Calls.mono (AO.out) ?_); rintro e w2 ⟨rfl, hc⟩; have C2 := Lib.hid (C1.out.thenSame hc); have B2 := Lib.hid (hc.at (by simp) B1.out); have k2 := blk_cell B2.out; clear hc k1) | (go_at_call 57; (with_reducible refine Calls.mono (AF.out _ C2.out) ?_); rintro e w3 ⟨rfl, hc⟩; have C3 := Lib.hid (C2.out.thenSame hc); have B3 := Lib.hid (hc.at (by simp) B2.out); have k3 := blk_cell B3.out; clear hc k2) | (go_at_call 59; (with_reducible refine Calls.mono (AD.out _ C3.out) ?_); rintro e w4 ⟨rfl, hc⟩; have C4 := Lib.hid (C3.out.thenSame hc); clear hc))
    go_ret
    exact ⟨retI HE.out.symm, C2.out⟩
  have AD := Lib.hid (AD0 rfl)
  rw [if_neg (by simp)] at hR
  clear AD0
  cases qf
  case true =>
    have HE := Lib.hid (show R = 3 by rw [hR]; rfl)
    clear hR
    go_enter Tryz.func43, Tryz.ntmps43
    go_upto_region 1 with fail
    rw [← hW1]
    clear hW1
    go_wp2_with (first | (go_at_call 56; (with_reducible refine Calls.mono (AO.out) ?_); rintro e w2 ⟨rfl, hc⟩; have C2 := Lib.hid (C1.out.thenSame hc); have B2 := Lib.hid (hc.at (by simp) B1.out); have k2 := blk_cell B2.out; clear hc k1) | (go_at_call 57; (with_reducible refine Calls.mono (AF.out _ C2.out) ?_); rintro e w3 ⟨rfl, hc⟩; have C3 := Lib.hid (C2.out.thenSame hc); have B3 := Lib.hid (hc.at (by simp) B2.out); have k3 := blk_cell B3.out; clear hc k2) | (go_at_call 59; (with_reducible refine Calls.mono (AD.out _ C3.out) ?_); rintro e w4 ⟨rfl, hc⟩; have C4 := Lib.hid (C3.out.thenSame hc); clear hc))
    go_ret
    exact ⟨retI HE.out.symm, C3.out⟩
  rw [if_neg (by simp)] at hR
  by_cases h3 : 32 < d
  · have HE := Lib.hid (show R = 3 by rw [hR, if_pos h3])
    clear hR
    go_enter Tryz.func43, Tryz.ntmps43
    go_upto_region 1 with fail
    rw [← hW1]
    clear hW1
    go_wp2_with (first | (go_at_call 56; (with_reducible refine Calls.mono (AO.out) ?_); rintro e w2 ⟨rfl, hc⟩; have C2 := Lib.hid (C1.out.thenSame hc); have B2 := Lib.hid (hc.at (by simp) B1.out); have k2 := blk_cell B2.out; clear hc k1) | (go_at_call 57; (with_reducible refine Calls.mono (AF.out _ C2.out) ?_); rintro e w3 ⟨rfl, hc⟩; have C3 := Lib.hid (C2.out.thenSame hc); have B3 := Lib.hid (hc.at (by simp) B2.out); have k3 := blk_cell B3.out; clear hc k2) | (go_at_call 59; (with_reducible refine Calls.mono (AD.out _ C3.out) ?_); rintro e w4 ⟨rfl, hc⟩; have C4 := Lib.hid (C3.out.thenSame hc); clear hc))
    go_ret
    exact ⟨retI HE.out.symm, C4.out⟩
  · have HE := Lib.hid (show R = 0 by rw [hR, if_neg h3])
    clear hR
    go_enter Tryz.func43, Tryz.ntmps43
    go_upto_region 1 with fail
    rw [← hW1]
    clear hW1
    go_wp2_with (first | (go_at_call 56; (with_reducible refine Calls.mono (AO.out) ?_); rintro e w2 ⟨rfl, hc⟩; have C2 := Lib.hid (C1.out.thenSame hc); have B2 := Lib.hid (hc.at (by simp) B1.out); have k2 := blk_cell B2.out; clear hc k1) | (go_at_call 57; (with_reducible refine Calls.mono (AF.out _ C2.out) ?_); rintro e w3 ⟨rfl, hc⟩; have C3 := Lib.hid (C2.out.thenSame hc); have B3 := Lib.hid (hc.at (by simp) B2.out); have k3 := blk_cell B3.out; clear hc k2) | (go_at_call 59; (with_reducible refine Calls.mono (AD.out _ C3.out) ?_); rintro e w4 ⟨rfl, hc⟩; have C4 := Lib.hid (C3.out.thenSame hc); clear hc))
    go_ret
    exact ⟨retI HE.out.symm, C4.out⟩
end Go.Proofs.YtolidiafomceiaaGreatDoor
