/- Chapter 43: contract of the reference: Add. No condition. -/
import Derived.Test.YtjbnfaapkicejaaPlcX
namespace Go.Proofs.Ytjbnfaapkicejaa
set_option linter.unusedVariables false
set_option linter.unusedSimpArgs false
open Go.RowKit
set_option maxHeartbeats 8000000 in
set_option maxRecDepth 100000 in
theorem radd_any (aw : Option Addr) (cw : Nat) (ws : List Wk) (a : Option Addr) (c : Nat) (l : List Pl) (q : Pl) (w : World) (hw : SlIs wkC 3 w aw ws.length ws) (hwl : ws.length ≤ 4096) (hwc : ws.length ≤ cw) (hwg : ∀ x ∈ ws, x.good)
    (h : InIs plC 4 w a c l) (hl : l.length ≤ 4096) (hg : ∀ x ∈ l, x.good) (hq : q.good) :
    Calls Try.prog 13 #[.slice aw ws.length cw, .slice a l.length c, plV q] w fun e w' => ∃ v, e = .returned (.tuple #[v, .int .i64 (addP ws l q).2]) ∧ RowOf plC 4 w' w.heap.size 25 v (addP ws l q).1 ∧ Chg [] w w' := by
  obtain ⟨W1, hW1⟩ : ∃ W1, W1 = w.alloc (plO q) := ⟨_, rfl⟩
  have C1 := Lib.hid (show Chg [] w W1 by rw [hW1]; exact (Chg.refl _ _).alloc _)
  have X1 := Lib.hid (show W1.heap[w.heap.size]? = some (plO q) by rw [hW1]; exact heap_alloc_new _ _)
  have x0 := blk_cell X1.out
  have l0 := lt_of_heap X1.out
  have A1 := Lib.hid (rchoose_any aw cw ws a c l q W1 (hw.kept C1.out) hwl hwc hwg (h.1.kept C1.out) hl h.2.1 hg hq)
  have H := Lib.hid h
  obtain ⟨R, hR⟩ : ∃ R, R = addP ws l q := ⟨_, rfl⟩
  rw [← hR]
  unfold addP at hR
  have h256a : (choosePX ws l q).2 = 0 → l.length ≤ 256 := fun he => by
    unfold choosePX at he
    split at he
    · rename_i h0; exact (check_zero h0).2.1
    · rename_i h0; exact absurd he h0
  obtain ⟨V, hV⟩ : ∃ V, V = choosePX ws l q := ⟨_, rfl⟩
  rw [← hV] at hR A1 h256a
  obtain ⟨nm, E⟩ := V
  simp only at hR A1 h256a
  unfold plV at A1 ⊢
  unfold plO at hW1 X1
  have HW1 := Lib.hid hW1
  clear hw h hwg hg hW1 hq hV
  by_cases hE : E = 0
  case neg =>
    rw [if_neg hE] at hR
    subst hR
    have hE' : (E == 0) = false := by simpa using hE
    go_enter Try.func13, Try.ntmps13
    go_wp2_with fail
    rw [← HW1.out]
    go_wp2_with (refine A1.out.mono ?_; rintro e w1 ⟨rfl, hc1⟩; have C2 := Lib.hid (C1.out.thenSame hc1); clear hc1)
    go_ret2
    exact ⟨_, rfl, RowOf.nil _ _ _, C2.out⟩
  rw [if_pos hE] at hR
  have h256b := h256a hE
  subst hE
  clear h256a
  by_cases h256 : 256 ≤ l.length
  · rw [if_pos h256] at hR
    have h256c : ((l.length : Int) == 256) = true := beq_iff_eq.2 (by omega)
    clear h256 h256b
    subst hR
    go_enter Try.func13, Try.ntmps13
    go_wp2_with fail
    rw [← HW1.out]
    go_wp2_with (refine A1.out.mono ?_; rintro e w1 ⟨rfl, hc1⟩; have C2 := Lib.hid (C1.out.thenSame hc1); clear hc1)
    go_ret2
    exact ⟨_, rfl, RowOf.nil _ _ _, C2.out⟩
  rw [if_neg h256] at hR
  subst hR
  have h256' : (l.length : Int) < 256 := by omega
  have h256c : ((l.length : Int) == 256) = false := beq_eq_false_iff_ne.2 (by omega)
  go_enter Try.func13, Try.ntmps13
  go_wp2_with fail
  rw [← HW1.out]
  refine A1.out.mono ?_; rintro e w1 ⟨rfl, hc1⟩
  have C2 := Lib.hid (C1.out.thenSame hc1)
  have X2 := Lib.hid (hc1.at (by simp) X1.out)
  have x2 := blk_cell X2.out
  have f2 := blk_free X2.out
  have l2 := lt_of_heap X2.out
  obtain ⟨W2, hW2⟩ : ∃ W2, W2 = w1.setCell ⟨w.heap.size, 3, none⟩ (.string nm) := ⟨_, rfl⟩
  have C3 := Lib.hid (show Chg [] w W2 by rw [hW2]; exact C2.out.setCell _ _ (by simp))
  have X3 := Lib.hid (show W2.heap[w.heap.size]? = some (plO (withW q nm)) by rw [hW2]; exact blk_set X2.out 3 _)
  have HW2 := Lib.hid hW2
  have HO := Lib.hid (show ∀ w', Chg [] W2 w' → w'.cell? ⟨w.heap.size, 0, none⟩ = some (.string q.id) ∧ w'.cell? ⟨w.heap.size, 1, none⟩ = some (.string q.tn) ∧ w'.cell? ⟨w.heap.size, 2, none⟩ = some (.int .i64 q.mem) ∧ w'.cell? ⟨w.heap.size, 3, none⟩ = some (.string nm) from fun w' hc => by
    have x1 := blk_cell (hc.at (by simp) X3.out)
    exact ⟨x1 0, x1 1, x1 2, x1 3⟩)
  clear hc1 hW2 x0 l0
  go_wp2_with fail
  rw [← HW2.out]
  refine wp_region_noPanic ?_
  have K0 := Lib.hid (show Chg [] W2 W2.drew from (Chg.refl _ _).drew)
  refine wp_region_held_drew (S := (fun w' => w'.cell? ⟨w.heap.size, 0, none⟩ = some (.string q.id) ∧ w'.cell? ⟨w.heap.size, 1, none⟩ = some (.string q.tn) ∧ w'.cell? ⟨w.heap.size, 2, none⟩ = some (.int .i64 q.mem) ∧ w'.cell? ⟨w.heap.size, 3, none⟩ = some (.string nm))) (by kernel_rfl) (HO.out _ K0.out) (fun hHeld => ?_)
  refine wpAnyH_take (i := 1) (oi := _) (v := ?vA_1) rfl (by kernel_rfl) (by kernel_rfl) (by kernel_rfl) (fun _ _ _ h => h) (Or.inl ⟨by rfl, ?yA_1⟩) hHeld ?rA_1
  case yA_1 => (intro w hSw; (try dsimp only at hSw); (try simp only [List.getElem_toArray, List.getElem_cons_zero, List.getElem_cons_succ]); go_simp <;> with_reducible rfl)
  (try simp only [List.getElem_toArray, List.getElem_cons_zero, List.getElem_cons_succ, Act.put, List.setIfInBounds_toArray, List.set_cons_zero, List.set_cons_succ])
  refine wpAnyH_take (i := 3) (oi := _) (v := ?vA_3) rfl (by kernel_rfl) (by kernel_rfl) (by kernel_rfl) (fun _ _ _ h => h) (Or.inl ⟨by rfl, ?yA_3⟩) hHeld ?rA_3
  case yA_3 => (intro w hSw; (try dsimp only at hSw); (try simp only [List.getElem_toArray, List.getElem_cons_zero, List.getElem_cons_succ]); go_simp <;> with_reducible rfl)
  (try simp only [List.getElem_toArray, List.getElem_cons_zero, List.getElem_cons_succ, Act.put, List.setIfInBounds_toArray, List.set_cons_zero, List.set_cons_succ])
  refine wpAnyH_ready (rs := [0, 4]) (by kernel_rfl) (by simp) ?_
  refine AllReadyH.cons (o := _) rfl (fun K hK => ?_) (AllReadyH.cons (o := _) rfl (fun K hK => ?_) AllReadyH.nil)
  ·
    have K1 := Lib.hid (K0.out.alloc (.cells #[] 25))
    have N1 := Lib.hid (RowOf.empty (cf := plC) (sz := 4) (Nat.le_refl _) (heap_alloc_new W2.drew (.cells #[] 25)) rfl)
    (try simp only [List.getElem_toArray, List.getElem_cons_zero, List.getElem_cons_succ])
    go_simp
    skip
    refine hK.out _ _ ?_ (fun hHeld => ?_)
    exact HO.out _ K1.out
    clear hK K
    (try simp only [List.getElem_toArray, List.getElem_cons_zero, List.getElem_cons_succ, Act.put, List.setIfInBounds_toArray, List.set_cons_zero, List.set_cons_succ])
    refine wpAnyH_ready (rs := [2, 4]) (by kernel_rfl) (by simp) ?_
    refine AllReadyH.cons (o := _) rfl (fun K hK => ?_) (AllReadyH.cons (o := _) rfl (fun K hK => ?_) AllReadyH.nil)
    ·
      (try simp only [List.getElem_toArray, List.getElem_cons_zero, List.getElem_cons_succ])
      refine step_list rfl ?_
      (refine wpl_appendsI rfl _ _ 23 rfl W2.drew.heap.size 25 _ 56 Try.underlying23 plInfo rfl (by decide) plC_len plC_one (.slice (some ⟨W2.drew.heap.size, 0, none⟩) 0 0) [] rfl N1.out a c l rfl (H.out.kept (C3.out.thenSame K1.out)) (by unfold maxLen; simp; omega) (by simp; omega) K1.out.size ?_; intro v5 w5 hr5 hc5; have R5 := Lib.hid (show RowOf plC 4 w5 W2.drew.heap.size 25 v5 l from hr5); have K5 := Lib.hid (K1.out.then hc5 (by intro y hy hl; have := (N1.out.block y (by simpa using hy)).1; have := K0.out.size; omega)); clear hr5 hc5)
      refine ⟨rfl, hK.out _ _ ?_ (fun hHeld => ?_)⟩
      exact HO.out _ K5.out
      clear hK K
      (try simp only [List.getElem_toArray, List.getElem_cons_zero, List.getElem_cons_succ, Act.put, List.setIfInBounds_toArray, List.set_cons_zero, List.set_cons_succ])
      have N5 := Lib.hid (heap_alloc_new w5 (plO (withW q nm)))
      have K6 := Lib.hid (K5.out.alloc (plO (withW q nm)))
      have R6 := Lib.hid (R5.out.kept (S := []) ((Chg.refl _ _).alloc (plO (withW q nm))) (by simp))
      refine wpAnyH_ready (rs := [4]) (by kernel_rfl) (by simp) ?_
      refine AllReadyH.cons (o := _) rfl (fun K hK => ?_) AllReadyH.nil
      (try simp only [List.getElem_toArray, List.getElem_cons_zero, List.getElem_cons_succ])
      go_simp
      skip
      refine hK.out _ _ ?_ (fun hHeld => ?_)
      exact HO.out _ K6.out
      clear hK K
      (try simp only [List.getElem_toArray, List.getElem_cons_zero, List.getElem_cons_succ, Act.put, List.setIfInBounds_toArray, List.set_cons_zero, List.set_cons_succ])
      refine wpAnyH_ready (rs := [5]) (by kernel_rfl) (by simp) ?_
      refine AllReadyH.cons (o := _) rfl (fun K hK => ?_) AllReadyH.nil
      (try simp only [List.getElem_toArray, List.getElem_cons_zero, List.getElem_cons_succ])
      refine step_list rfl ?_
      (refine wpl_append rfl _ _ 23 rfl W2.drew.heap.size 25 _ 56 Try.underlying23 plInfo rfl (by decide) plC_len plC_one v5 l rfl R6.out w5.heap.size 1 (withW q nm) _ _ _ rfl N5.out rfl (by unfold maxLen; omega) (by omega) K6.out.size ?_; intro v7 w7 hr7 hg7; have R7 := Lib.hid hr7; have K7 := Lib.hid (K6.out.then (Chg.ofRow hg7) (by intro y hy hl; have := (R6.out.block y (by simpa using hy)).1; have := K0.out.size; omega)); clear hr7 hg7)
      refine ⟨rfl, hK.out _ _ ?_ (fun hHeld => ?_)⟩
      exact HO.out _ K7.out
      clear hK K
      (try simp only [List.getElem_toArray, List.getElem_cons_zero, List.getElem_cons_succ, Act.put, List.setIfInBounds_toArray, List.set_cons_zero, List.set_cons_succ])
      refine wpAnyH_take (i := 6) (oi := _) (v := ?vB_6) rfl (by kernel_rfl) (by kernel_rfl) (by kernel_rfl) (fun _ _ _ h => h) (Or.inl ⟨by rfl, ?yB_6⟩) hHeld ?rB_6
      case yB_6 => (intro w hSw; (try dsimp only at hSw); (try simp only [List.getElem_toArray, List.getElem_cons_zero, List.getElem_cons_succ]); go_simp <;> with_reducible rfl)
      (try simp only [List.getElem_toArray, List.getElem_cons_zero, List.getElem_cons_succ, Act.put, List.setIfInBounds_toArray, List.set_cons_zero, List.set_cons_succ])
      refine wpAnyH_take (i := 7) (oi := _) (v := ?vB_7) rfl (by kernel_rfl) (by kernel_rfl) (by kernel_rfl) (fun _ _ _ h => h) (Or.inl ⟨by rfl, ?yB_7⟩) hHeld ?rB_7
      case yB_7 => (intro w hSw; (try dsimp only at hSw); (try simp only [List.getElem_toArray, List.getElem_cons_zero, List.getElem_cons_succ]); go_simp <;> with_reducible rfl)
      (try simp only [List.getElem_toArray, List.getElem_cons_zero, List.getElem_cons_succ, Act.put, List.setIfInBounds_toArray, List.set_cons_zero, List.set_cons_succ])
      refine wpAnyH_done (by kernel_rfl) ?_ _
      refine NoPanic.normal ?_
      go_wp2_with fail
      go_ret2
      exact ⟨v7, rfl, R7.out.mono (C3.out.thenSame K0.out).size, C3.out.thenSame K7.out⟩
    ·
      have N4 := Lib.hid (heap_alloc_new (W2.drew.alloc (.cells #[] 25)) (plO (withW q nm)))
      have K4 := Lib.hid (K1.out.alloc (plO (withW q nm)))
      have M4 := Lib.hid (N1.out.kept (S := []) ((Chg.refl _ _).alloc (plO (withW q nm))) (by simp))
      have n4 := World.size_alloc W2.drew (.cells #[] 25)
      (try simp only [List.getElem_toArray, List.getElem_cons_zero, List.getElem_cons_succ])
      go_simp
      skip
      refine hK.out _ _ ?_ (fun hHeld => ?_)
      exact HO.out _ K4.out
      clear hK K
      (try simp only [List.getElem_toArray, List.getElem_cons_zero, List.getElem_cons_succ, Act.put, List.setIfInBounds_toArray, List.set_cons_zero, List.set_cons_succ])
      refine wpAnyH_ready (rs := [2]) (by kernel_rfl) (by simp) ?_
      refine AllReadyH.cons (o := _) rfl (fun K hK => ?_) AllReadyH.nil
      (try simp only [List.getElem_toArray, List.getElem_cons_zero, List.getElem_cons_succ])
      refine step_list rfl ?_
      (refine wpl_appendsI rfl _ _ 23 rfl W2.drew.heap.size 25 _ 56 Try.underlying23 plInfo rfl (by decide) plC_len plC_one (.slice (some ⟨W2.drew.heap.size, 0, none⟩) 0 0) [] rfl M4.out a c l rfl (H.out.kept (C3.out.thenSame K4.out)) (by unfold maxLen; simp; omega) (by simp; omega) K4.out.size ?_; intro v5 w5 hr5 hc5; have R5 := Lib.hid (show RowOf plC 4 w5 W2.drew.heap.size 25 v5 l from hr5); have K5 := Lib.hid (K4.out.then hc5 (by intro y hy hl; have := (M4.out.block y (by simpa using hy)).1; have := K0.out.size; omega)); have N5 := Lib.hid (hc5.at (show W2.drew.heap.size + 1 ∉ _ by simp [Value.ownBlock]) (by rw [← n4]; exact N4.out)); clear hr5 hc5)
      refine ⟨rfl, hK.out _ _ ?_ (fun hHeld => ?_)⟩
      exact HO.out _ K5.out
      clear hK K
      (try simp only [List.getElem_toArray, List.getElem_cons_zero, List.getElem_cons_succ, Act.put, List.setIfInBounds_toArray, List.set_cons_zero, List.set_cons_succ])
      refine wpAnyH_ready (rs := [5]) (by kernel_rfl) (by simp) ?_
      refine AllReadyH.cons (o := _) rfl (fun K hK => ?_) AllReadyH.nil
      (try simp only [List.getElem_toArray, List.getElem_cons_zero, List.getElem_cons_succ])
      refine step_list rfl ?_
      (refine wpl_append rfl _ _ 23 rfl W2.drew.heap.size 25 _ 56 Try.underlying23 plInfo rfl (by decide) plC_len plC_one v5 l rfl R5.out (W2.drew.heap.size + 1) 1 (withW q nm) _ _ _ rfl N5.out rfl (by unfold maxLen; omega) (by omega) K5.out.size ?_; intro v7 w7 hr7 hg7; have R7 := Lib.hid hr7; have K7 := Lib.hid (K5.out.then (Chg.ofRow hg7) (by intro y hy hl; have := (R5.out.block y (by simpa using hy)).1; have := K0.out.size; omega)); clear hr7 hg7)
      refine ⟨rfl, hK.out _ _ ?_ (fun hHeld => ?_)⟩
      exact HO.out _ K7.out
      clear hK K
      (try simp only [List.getElem_toArray, List.getElem_cons_zero, List.getElem_cons_succ, Act.put, List.setIfInBounds_toArray, List.set_cons_zero, List.set_cons_succ])
      refine wpAnyH_take (i := 6) (oi := _) (v := ?vD_6) rfl (by kernel_rfl) (by kernel_rfl) (by kernel_rfl) (fun _ _ _ h => h) (Or.inl ⟨by rfl, ?yD_6⟩) hHeld ?rD_6
      case yD_6 => (intro w hSw; (try dsimp only at hSw); (try simp only [List.getElem_toArray, List.getElem_cons_zero, List.getElem_cons_succ]); go_simp <;> with_reducible rfl)
      (try simp only [List.getElem_toArray, List.getElem_cons_zero, List.getElem_cons_succ, Act.put, List.setIfInBounds_toArray, List.set_cons_zero, List.set_cons_succ])
      refine wpAnyH_take (i := 7) (oi := _) (v := ?vD_7) rfl (by kernel_rfl) (by kernel_rfl) (by kernel_rfl) (fun _ _ _ h => h) (Or.inl ⟨by rfl, ?yD_7⟩) hHeld ?rD_7
      case yD_7 => (intro w hSw; (try dsimp only at hSw); (try simp only [List.getElem_toArray, List.getElem_cons_zero, List.getElem_cons_succ]); go_simp <;> with_reducible rfl)
      (try simp only [List.getElem_toArray, List.getElem_cons_zero, List.getElem_cons_succ, Act.put, List.setIfInBounds_toArray, List.set_cons_zero, List.set_cons_succ])
      refine wpAnyH_done (by kernel_rfl) ?_ _
      refine NoPanic.normal ?_
      go_wp2_with fail
      go_ret2
      exact ⟨v7, rfl, R7.out.mono (C3.out.thenSame K0.out).size, C3.out.thenSame K7.out⟩
  ·
    have N4 := Lib.hid (heap_alloc_new W2.drew (plO (withW q nm)))
    have K4 := Lib.hid (K0.out.alloc (plO (withW q nm)))
    have n4 := World.size_alloc W2.drew (plO (withW q nm))
    (try simp only [List.getElem_toArray, List.getElem_cons_zero, List.getElem_cons_succ])
    go_simp
    skip
    refine hK.out _ _ ?_ (fun hHeld => ?_)
    exact HO.out _ K4.out
    clear hK K
    (try simp only [List.getElem_toArray, List.getElem_cons_zero, List.getElem_cons_succ, Act.put, List.setIfInBounds_toArray, List.set_cons_zero, List.set_cons_succ])
    have K1 := Lib.hid (K4.out.alloc (.cells #[] 25))
    have N1 := Lib.hid (RowOf.empty (cf := plC) (sz := 4) (Nat.le_refl _) (heap_alloc_new (W2.drew.alloc (plO (withW q nm))) (.cells #[] 25)) rfl)
    have M4 := Lib.hid (blk_alloc (o' := .cells #[] 25) N4.out)
    refine wpAnyH_ready (rs := [0]) (by kernel_rfl) (by simp) ?_
    refine AllReadyH.cons (o := _) rfl (fun K hK => ?_) AllReadyH.nil
    (try simp only [List.getElem_toArray, List.getElem_cons_zero, List.getElem_cons_succ])
    go_simp
    skip
    refine hK.out _ _ ?_ (fun hHeld => ?_)
    exact HO.out _ K1.out
    clear hK K
    (try simp only [List.getElem_toArray, List.getElem_cons_zero, List.getElem_cons_succ, Act.put, List.setIfInBounds_toArray, List.set_cons_zero, List.set_cons_succ])
    refine wpAnyH_ready (rs := [2]) (by kernel_rfl) (by simp) ?_
    refine AllReadyH.cons (o := _) rfl (fun K hK => ?_) AllReadyH.nil
    (try simp only [List.getElem_toArray, List.getElem_cons_zero, List.getElem_cons_succ])
    refine step_list rfl ?_
    (refine wpl_appendsI rfl _ _ 23 rfl (W2.drew.alloc (plO (withW q nm))).heap.size 25 _ 56 Try.underlying23 plInfo rfl (by decide) plC_len plC_one (.slice (some ⟨W2.drew.heap.size + 1, 0, none⟩) 0 0) [] rfl (by rw [← n4]; exact N1.out) a c l rfl (H.out.kept (C3.out.thenSame K1.out)) (by unfold maxLen; simp; omega) (by simp; omega) ((Chg.refl [] _).alloc (.cells #[] 25)).size ?_; intro v5 w5 hr5 hc5; have R5 := Lib.hid (show RowOf plC 4 w5 (W2.drew.alloc (plO (withW q nm))).heap.size 25 v5 l from hr5); have K5 := Lib.hid (K1.out.then hc5 (by intro y hy hl; simp [Value.ownBlock] at hy; have := K0.out.size; omega)); have N5 := Lib.hid (hc5.at (show W2.drew.heap.size ∉ _ by simp [Value.ownBlock]) M4.out); have Z5 := Lib.hid (Nat.le_trans ((Chg.refl [] (W2.drew.alloc (plO (withW q nm)))).alloc (.cells #[] 25)).size hc5.size); clear hr5 hc5)
    refine ⟨rfl, hK.out _ _ ?_ (fun hHeld => ?_)⟩
    exact HO.out _ K5.out
    clear hK K
    (try simp only [List.getElem_toArray, List.getElem_cons_zero, List.getElem_cons_succ, Act.put, List.setIfInBounds_toArray, List.set_cons_zero, List.set_cons_succ])
    refine wpAnyH_ready (rs := [5]) (by kernel_rfl) (by simp) ?_
    refine AllReadyH.cons (o := _) rfl (fun K hK => ?_) AllReadyH.nil
    (try simp only [List.getElem_toArray, List.getElem_cons_zero, List.getElem_cons_succ])
    refine step_list rfl ?_
    (refine wpl_append rfl _ _ 23 rfl (W2.drew.alloc (plO (withW q nm))).heap.size 25 _ 56 Try.underlying23 plInfo rfl (by decide) plC_len plC_one v5 l rfl R5.out W2.drew.heap.size 1 (withW q nm) _ _ _ rfl N5.out rfl (by unfold maxLen; omega) (by omega) Z5.out ?_; intro v7 w7 hr7 hg7; have R7 := Lib.hid hr7; have K7 := Lib.hid (K5.out.then (Chg.ofRow hg7) (by intro y hy hl; have := (R5.out.block y (by simpa using hy)).1; have := K4.out.size; omega)); clear hr7 hg7)
    refine ⟨rfl, hK.out _ _ ?_ (fun hHeld => ?_)⟩
    exact HO.out _ K7.out
    clear hK K
    (try simp only [List.getElem_toArray, List.getElem_cons_zero, List.getElem_cons_succ, Act.put, List.setIfInBounds_toArray, List.set_cons_zero, List.set_cons_succ])
    refine wpAnyH_take (i := 6) (oi := _) (v := ?vF_6) rfl (by kernel_rfl) (by kernel_rfl) (by kernel_rfl) (fun _ _ _ h => h) (Or.inl ⟨by rfl, ?yF_6⟩) hHeld ?rF_6
    case yF_6 => (intro w hSw; (try dsimp only at hSw); (try simp only [List.getElem_toArray, List.getElem_cons_zero, List.getElem_cons_succ]); go_simp <;> with_reducible rfl)
    (try simp only [List.getElem_toArray, List.getElem_cons_zero, List.getElem_cons_succ, Act.put, List.setIfInBounds_toArray, List.set_cons_zero, List.set_cons_succ])
    refine wpAnyH_take (i := 7) (oi := _) (v := ?vF_7) rfl (by kernel_rfl) (by kernel_rfl) (by kernel_rfl) (fun _ _ _ h => h) (Or.inl ⟨by rfl, ?yF_7⟩) hHeld ?rF_7
    case yF_7 => (intro w hSw; (try dsimp only at hSw); (try simp only [List.getElem_toArray, List.getElem_cons_zero, List.getElem_cons_succ]); go_simp <;> with_reducible rfl)
    (try simp only [List.getElem_toArray, List.getElem_cons_zero, List.getElem_cons_succ, Act.put, List.setIfInBounds_toArray, List.set_cons_zero, List.set_cons_succ])
    refine wpAnyH_done (by kernel_rfl) ?_ _
    refine NoPanic.normal ?_
    go_wp2_with fail
    go_ret2
    exact ⟨v7, rfl, R7.out.mono (C3.out.thenSame K4.out).size, C3.out.thenSame K7.out⟩
end Go.Proofs.Ytjbnfaapkicejaa
