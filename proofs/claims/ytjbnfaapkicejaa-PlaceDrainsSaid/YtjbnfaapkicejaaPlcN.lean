/- Chapter 43: contract: Add. No condition. -/
import Derived.Test.YtjbnfaapkicejaaPlcM
namespace Go.Proofs.Ytjbnfaapkicejaa
set_option linter.unusedVariables false
set_option linter.unusedSimpArgs false
open Go.RowKit
def withW (q : Pl) (s : ByteArray) : Pl := { q with wk := s }
def addP (ws : List Wk) (l : List Pl) (q : Pl) : List Pl × Int := if (choosePX ws l q).2 = 0 then (if 256 ≤ l.length then ([], 3) else (l ++ [withW q (choosePX ws l q).1], 0)) else ([], (choosePX ws l q).2)
set_option maxHeartbeats 8000000 in
set_option maxRecDepth 100000 in
theorem add_any (aw : Option Addr) (cw : Nat) (ws : List Wk) (a : Option Addr) (c : Nat) (l : List Pl) (q : Pl) (w : World) (hw : SlIs wkC 3 w aw ws.length ws) (hwl : ws.length ≤ 4096) (hwc : ws.length ≤ cw) (hwg : ∀ x ∈ ws, x.good)
    (h : InIs plC 4 w a c l) (hl : l.length ≤ 4096) (hg : ∀ x ∈ l, x.good) (hq : q.good) :
    Calls Try.prog 12 #[.slice aw ws.length cw, .slice a l.length c, plV q] w fun e w' => ∃ v, e = .returned (.tuple #[v, .int .i64 (addP ws l q).2]) ∧ RowOf plC 4 w' w.heap.size 25 v (addP ws l q).1 ∧ Chg [] w w' := by
  obtain ⟨W1, hW1⟩ : ∃ W1, W1 = w.alloc (plO q) := ⟨_, rfl⟩
  have C1 := Lib.hid (show Chg [] w W1 by rw [hW1]; exact (Chg.refl _ _).alloc _)
  have X1 := Lib.hid (show W1.heap[w.heap.size]? = some (plO q) by rw [hW1]; exact heap_alloc_new _ _)
  have x0 := blk_cell X1.out
  have l0 := lt_of_heap X1.out
  have A1 := Lib.hid (choosex_any aw cw ws a c l q W1 (hw.kept C1.out) hwl hwc hwg (h.1.kept C1.out) hl h.2.1 hg hq)
  have A2 := Lib.hid (fun w' (hc : Chg [] w w') => clonep_any a c l w' (h.kept hc) hl)
  obtain ⟨R, hR⟩ : ∃ R, R = addP ws l q := ⟨_, rfl⟩
  rw [← hR]
  unfold addP at hR
  obtain ⟨V, hV⟩ : ∃ V, V = choosePX ws l q := ⟨_, rfl⟩
  rw [← hV] at hR A1
  obtain ⟨nm, E⟩ := V
  simp only at hR A1
  unfold plV at A1 ⊢
  unfold plO at hW1 X1
  have HW1 := Lib.hid hW1
  clear hw h hwg hg hW1 hq hV
  by_cases hE : E = 0
  case neg =>
    rw [if_neg hE] at hR
    subst hR
    have hE' : (E == 0) = false := by simpa using hE
    go_enter Try.func12, Try.ntmps12
    go_wp2_with fail
    rw [← HW1.out]
    go_wp2_with (refine A1.out.mono ?_; rintro e w1 ⟨rfl, hc1⟩; have C2 := Lib.hid (C1.out.thenSame hc1); clear hc1)
    go_ret2
    exact ⟨_, rfl, RowOf.nil _ _ _, C2.out⟩
  rw [if_pos hE] at hR
  subst hE
  by_cases h256 : 256 ≤ l.length
  · rw [if_pos h256] at hR
    subst hR
    have h256' : (256 : Int) ≤ (l.length : Int) := by omega
    go_enter Try.func12, Try.ntmps12
    go_wp2_with fail
    rw [← HW1.out]
    go_wp2_with (refine A1.out.mono ?_; rintro e w1 ⟨rfl, hc1⟩; have C2 := Lib.hid (C1.out.thenSame hc1); clear hc1)
    go_ret2
    exact ⟨_, rfl, RowOf.nil _ _ _, C2.out⟩
  rw [if_neg h256] at hR
  subst hR
  have h256' : (l.length : Int) < 256 := by omega
  go_enter Try.func12, Try.ntmps12
  go_wp2_with fail
  rw [← HW1.out]
  refine A1.out.mono ?_; rintro e w1 ⟨rfl, hc1⟩
  have C2 := Lib.hid (C1.out.thenSame hc1)
  have X2 := Lib.hid (hc1.at (by simp) X1.out)
  have x2 := blk_cell X2.out
  have f2 := blk_free X2.out
  have l2 := lt_of_heap X2.out
  obtain ⟨W2, hW2⟩ : ∃ W2, W2 = w1.setCell ⟨w.heap.size, 3, none⟩ (.string nm) := ⟨_, rfl⟩
  have C3 := Lib.hid (show Chg [] w W2 by rw [hW2]; exact C2.out.setCell _ _ (by simp))
  have X3 := Lib.hid (show W2.heap[w.heap.size]? = some (plO (withW q nm)) by rw [hW2]; exact blk_set X2.out 3 _)
  have HW2 := Lib.hid hW2
  have HO := Lib.hid (show ∀ w', Chg [] W2 w' → w'.cell? ⟨w.heap.size, 0, none⟩ = some (.string q.id) ∧ w'.cell? ⟨w.heap.size, 1, none⟩ = some (.string q.tn) ∧ w'.cell? ⟨w.heap.size, 2, none⟩ = some (.int .i64 q.mem) ∧ w'.cell? ⟨w.heap.size, 3, none⟩ = some (.string nm) from fun w' hc => by
    have x1 := blk_cell (hc.at (by simp) X3.out)
    exact ⟨x1 0, x1 1, x1 2, x1 3⟩)
  clear hc1 hW2 x0 l0
  go_wp2_with fail
  rw [← HW2.out]
  refine wp_region_noPanic ?_
  have K0 := Lib.hid (show Chg [] W2 W2.drew from (Chg.refl _ _).drew)
  refine wp_region_held_drew (S := (fun w' => w'.cell? ⟨w.heap.size, 0, none⟩ = some (.string q.id) ∧ w'.cell? ⟨w.heap.size, 1, none⟩ = some (.string q.tn) ∧ w'.cell? ⟨w.heap.size, 2, none⟩ = some (.int .i64 q.mem) ∧ w'.cell? ⟨w.heap.size, 3, none⟩ = some (.string nm))) (by kernel_rfl) (HO.out _ K0.out) (fun hHeld => ?_)
  refine wpAnyH_take (i := 0) (oi := _) (v := ?vA_0) rfl (by kernel_rfl) (by kernel_rfl) (by kernel_rfl) (fun _ _ _ h => h) (Or.inl ⟨by rfl, ?yA_0⟩) hHeld ?rA_0
  case yA_0 => (intro w hSw; (try dsimp only at hSw); (try simp only [List.getElem_toArray, List.getElem_cons_zero, List.getElem_cons_succ]); go_simp <;> with_reducible rfl)
  (try simp only [List.getElem_toArray, List.getElem_cons_zero, List.getElem_cons_succ, Act.put, List.setIfInBounds_toArray, List.set_cons_zero, List.set_cons_succ])
  refine wpAnyH_take (i := 2) (oi := _) (v := ?vA_2) rfl (by kernel_rfl) (by kernel_rfl) (by kernel_rfl) (fun _ _ _ h => h) (Or.inl ⟨by rfl, ?yA_2⟩) hHeld ?rA_2
  case yA_2 => (intro w hSw; (try dsimp only at hSw); (try simp only [List.getElem_toArray, List.getElem_cons_zero, List.getElem_cons_succ]); go_simp <;> with_reducible rfl)
  (try simp only [List.getElem_toArray, List.getElem_cons_zero, List.getElem_cons_succ, Act.put, List.setIfInBounds_toArray, List.set_cons_zero, List.set_cons_succ])
  refine wpAnyH_ready (rs := [1, 3]) (by kernel_rfl) (by simp) ?_
  refine AllReadyH.cons (o := _) rfl (fun K hK => ?_) (AllReadyH.cons (o := _) rfl (fun K hK => ?_) AllReadyH.nil)
  ·
    (try simp only [List.getElem_toArray, List.getElem_cons_zero, List.getElem_cons_succ])
    go_simp
    (refine Calls.mono (A2.out _ (C3.out.thenSame K0.out)) ?_; rintro e w4 ⟨v1, rfl, hr4, hc4⟩; have K1 := Lib.hid (K0.out.thenSame hc4); have R1 := Lib.hid hr4; clear hr4 hc4)
    refine hK.out _ _ ?_ (fun hHeld => ?_)
    exact HO.out _ K1.out
    clear hK K
    (try simp only [List.getElem_toArray, List.getElem_cons_zero, List.getElem_cons_succ, Act.put, List.setIfInBounds_toArray, List.set_cons_zero, List.set_cons_succ])
    have N1 := Lib.hid (heap_alloc_new w4 (plO (withW q nm)))
    have K2 := Lib.hid (K1.out.alloc (plO (withW q nm)))
    have R2 := Lib.hid (R1.out.kept (S := []) ((Chg.refl _ _).alloc (plO (withW q nm))) (by simp))
    have B2 := Lib.hid (World.size_alloc w4 (plO (withW q nm)))
    refine wpAnyH_ready (rs := [3]) (by kernel_rfl) (by simp) ?_
    refine AllReadyH.cons (o := _) rfl (fun K hK => ?_) AllReadyH.nil
    (try simp only [List.getElem_toArray, List.getElem_cons_zero, List.getElem_cons_succ])
    go_simp
    skip
    refine hK.out _ _ ?_ (fun hHeld => ?_)
    exact HO.out _ K2.out
    clear hK K
    (try simp only [List.getElem_toArray, List.getElem_cons_zero, List.getElem_cons_succ, Act.put, List.setIfInBounds_toArray, List.set_cons_zero, List.set_cons_succ])
    refine wpAnyH_ready (rs := [4]) (by kernel_rfl) (by simp) ?_
    refine AllReadyH.cons (o := _) rfl (fun K hK => ?_) AllReadyH.nil
    (try simp only [List.getElem_toArray, List.getElem_cons_zero, List.getElem_cons_succ])
    refine step_list rfl ?_
    (refine wpl_append rfl _ _ 23 rfl W2.drew.heap.size 25 _ 56 Try.underlying23 plInfo rfl (by decide) plC_len plC_one v1 l rfl R2.out w4.heap.size 1 (withW q nm) _ _ _ rfl N1.out rfl (by unfold maxLen; omega) (by omega) K2.out.size ?_; intro v6 w6 hr6 hg6; have R6 := Lib.hid hr6; have K6 := Lib.hid (K2.out.then (Chg.ofRow hg6) (by intro y hy hl; have := (R2.out.block y (by simpa using hy)).1; have := K0.out.size; omega)); clear hr6 hg6)
    refine ⟨rfl, hK.out _ _ ?_ (fun hHeld => ?_)⟩
    exact HO.out _ K6.out
    clear hK K
    (try simp only [List.getElem_toArray, List.getElem_cons_zero, List.getElem_cons_succ, Act.put, List.setIfInBounds_toArray, List.set_cons_zero, List.set_cons_succ])
    refine wpAnyH_take (i := 5) (oi := _) (v := ?vB_5) rfl (by kernel_rfl) (by kernel_rfl) (by kernel_rfl) (fun _ _ _ h => h) (Or.inl ⟨by rfl, ?yB_5⟩) hHeld ?rB_5
    case yB_5 => (intro w hSw; (try dsimp only at hSw); (try simp only [List.getElem_toArray, List.getElem_cons_zero, List.getElem_cons_succ]); go_simp <;> with_reducible rfl)
    (try simp only [List.getElem_toArray, List.getElem_cons_zero, List.getElem_cons_succ, Act.put, List.setIfInBounds_toArray, List.set_cons_zero, List.set_cons_succ])
    refine wpAnyH_take (i := 6) (oi := _) (v := ?vB_6) rfl (by kernel_rfl) (by kernel_rfl) (by kernel_rfl) (fun _ _ _ h => h) (Or.inl ⟨by rfl, ?yB_6⟩) hHeld ?rB_6
    case yB_6 => (intro w hSw; (try dsimp only at hSw); (try simp only [List.getElem_toArray, List.getElem_cons_zero, List.getElem_cons_succ]); go_simp <;> with_reducible rfl)
    (try simp only [List.getElem_toArray, List.getElem_cons_zero, List.getElem_cons_succ, Act.put, List.setIfInBounds_toArray, List.set_cons_zero, List.set_cons_succ])
    refine wpAnyH_done (by kernel_rfl) ?_ _
    refine NoPanic.normal ?_
    go_wp2_with fail
    go_ret2
    exact ⟨v6, rfl, R6.out.mono (C3.out.thenSame K0.out).size, C3.out.thenSame K6.out⟩
  ·
    have N1 := Lib.hid (heap_alloc_new W2.drew (plO (withW q nm)))
    have K1 := Lib.hid (K0.out.alloc (plO (withW q nm)))
    (try simp only [List.getElem_toArray, List.getElem_cons_zero, List.getElem_cons_succ])
    go_simp
    skip
    refine hK.out _ _ ?_ (fun hHeld => ?_)
    exact HO.out _ K1.out
    clear hK K
    (try simp only [List.getElem_toArray, List.getElem_cons_zero, List.getElem_cons_succ, Act.put, List.setIfInBounds_toArray, List.set_cons_zero, List.set_cons_succ])
    refine wpAnyH_ready (rs := [1]) (by kernel_rfl) (by simp) ?_
    refine AllReadyH.cons (o := _) rfl (fun K hK => ?_) AllReadyH.nil
    (try simp only [List.getElem_toArray, List.getElem_cons_zero, List.getElem_cons_succ])
    go_simp
    (refine Calls.mono (A2.out _ (C3.out.thenSame K1.out)) ?_; rintro e w4 ⟨v1, rfl, hr4, hc4⟩; have K2 := Lib.hid (K1.out.thenSame hc4); have N2 := Lib.hid (hc4.at (by simp) N1.out); have R2 := Lib.hid (show RowOf plC 4 w4 (W2.drew.alloc (plO (withW q nm))).heap.size 25 v1 l from hr4); have Z2 := Lib.hid hc4.size; clear hr4 hc4)
    refine hK.out _ _ ?_ (fun hHeld => ?_)
    exact HO.out _ K2.out
    clear hK K
    (try simp only [List.getElem_toArray, List.getElem_cons_zero, List.getElem_cons_succ, Act.put, List.setIfInBounds_toArray, List.set_cons_zero, List.set_cons_succ])
    refine wpAnyH_ready (rs := [4]) (by kernel_rfl) (by simp) ?_
    refine AllReadyH.cons (o := _) rfl (fun K hK => ?_) AllReadyH.nil
    (try simp only [List.getElem_toArray, List.getElem_cons_zero, List.getElem_cons_succ])
    refine step_list rfl ?_
    (refine wpl_append rfl _ _ 23 rfl _ 25 _ 56 Try.underlying23 plInfo rfl (by decide) plC_len plC_one v1 l rfl R2.out W2.drew.heap.size 1 (withW q nm) _ _ _ rfl N2.out rfl (by unfold maxLen; omega) (by omega) Z2.out ?_; intro v6 w6 hr6 hg6; have R6 := Lib.hid hr6; have K6 := Lib.hid (K2.out.then (Chg.ofRow hg6) (by intro y hy hl; have := (R2.out.block y (by simpa using hy)).1; have := K1.out.size; omega)); clear hr6 hg6)
    refine ⟨rfl, hK.out _ _ ?_ (fun hHeld => ?_)⟩
    exact HO.out _ K6.out
    clear hK K
    (try simp only [List.getElem_toArray, List.getElem_cons_zero, List.getElem_cons_succ, Act.put, List.setIfInBounds_toArray, List.set_cons_zero, List.set_cons_succ])
    refine wpAnyH_take (i := 5) (oi := _) (v := ?vD_5) rfl (by kernel_rfl) (by kernel_rfl) (by kernel_rfl) (fun _ _ _ h => h) (Or.inl ⟨by rfl, ?yD_5⟩) hHeld ?rD_5
    case yD_5 => (intro w hSw; (try dsimp only at hSw); (try simp only [List.getElem_toArray, List.getElem_cons_zero, List.getElem_cons_succ]); go_simp <;> with_reducible rfl)
    (try simp only [List.getElem_toArray, List.getElem_cons_zero, List.getElem_cons_succ, Act.put, List.setIfInBounds_toArray, List.set_cons_zero, List.set_cons_succ])
    refine wpAnyH_take (i := 6) (oi := _) (v := ?vD_6) rfl (by kernel_rfl) (by kernel_rfl) (by kernel_rfl) (fun _ _ _ h => h) (Or.inl ⟨by rfl, ?yD_6⟩) hHeld ?rD_6
    case yD_6 => (intro w hSw; (try dsimp only at hSw); (try simp only [List.getElem_toArray, List.getElem_cons_zero, List.getElem_cons_succ]); go_simp <;> with_reducible rfl)
    (try simp only [List.getElem_toArray, List.getElem_cons_zero, List.getElem_cons_succ, Act.put, List.setIfInBounds_toArray, List.set_cons_zero, List.set_cons_succ])
    refine wpAnyH_done (by kernel_rfl) ?_ _
    refine NoPanic.normal ?_
    go_wp2_with fail
    go_ret2
    exact ⟨v6, rfl, R6.out.mono (C3.out.thenSame K1.out).size, C3.out.thenSame K6.out⟩
end Go.Proofs.Ytjbnfaapkicejaa
