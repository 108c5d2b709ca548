/- Chapter 43: contract: which of two workers is better for a placement. Conditions: memories are permitted. -/
import Derived.Lib.QuietBelow
import Derived.Test.YtjbnfaapkicejaaStepA
import Derived.Test.YtjbnfaapkicejaaPlcI
namespace Go.Proofs.Ytjbnfaapkicejaa
set_option linter.unusedVariables false
set_option linter.unusedSimpArgs false
open Go.RowKit
def betB (l : List Pl) (q : Pl) (x y : Wk) : Bool := decide ((if cmpI (crowdS l q x : Nat) (crowdS l q y : Nat) = 0 then cmpI (freeS y l) (freeS x l) else cmpI (crowdS l q x : Nat) (crowdS l q y : Nat)) < 0)
def fnO (t1 t2 : Nat) : Obj := .cells #[.func (.func 52) #[] #[.pointer (some ⟨t1, 0, none⟩), .pointer (some ⟨t2, 0, none⟩)]] 66 (0, 0)
set_option maxHeartbeats 8000000 in
set_option maxRecDepth 100000 in
theorem better_any (a : Option Addr) (c : Nat) (l : List Pl) (q : Pl) (x y : Wk) (t0 t1 t2 : Nat) (w : World) (h : SlIs plC 4 w a l.length l) (hl : l.length ≤ 4096) (hm : ∀ q ∈ l, memB q.mem = true) (hx : memB x.mem = true) (hy : memB y.mem = true)
    (h0 : w.heap[t0]? = some (fnO t1 t2)) (h1 : w.heap[t1]? = some (.cells #[.slice a l.length c] 23 (0, 0))) (h2 : w.heap[t2]? = some (plO q)) : Calls Try.prog 54 #[wkV x, wkV y, .pointer (some ⟨t0, 0, none⟩), .pointer (some ⟨t1, 0, none⟩)] w fun e w' => e = .returned (.bool (betB l q x y)) ∧ Chg [] w w' := by
  obtain ⟨W1, hW1⟩ : ∃ W1, W1 = (w.alloc (wkO x)).alloc (wkO y) := ⟨_, rfl⟩
  have C0 := Lib.hid (show Chg [] w (w.alloc (wkO x)) from (Chg.refl _ _).alloc _)
  have C1 := Lib.hid (show Chg [] w W1 by rw [hW1]; exact C0.out.alloc _)
  have X1 := Lib.hid (show W1.heap[w.heap.size]? = some (wkO x) by rw [hW1]; exact ((Chg.refl [] _).alloc _).at (by simp) (heap_alloc_new _ _))
  have Y1 := Lib.hid (show W1.heap[w.heap.size + 1]? = some (wkO y) by rw [hW1]; have := heap_alloc_new (w.alloc (wkO x)) (wkO y); rw [show (w.alloc (wkO x)).heap.size = w.heap.size + 1 from World.size_alloc _ _] at this; exact this)
  have Z0 := Lib.hid (C1.out.at (by simp) h0)
  have Z1 := Lib.hid (C1.out.at (by simp) h1)
  have Z2 := Lib.hid (C1.out.at (by simp) h2)
  have A1 := Lib.hid (fun w' (hc : Chg [] W1 w') => crowd_any a c l q x t1 t2 w' (h.kept (C1.out.thenSame hc)) hl (hc.at (by simp) Z1.out) (hc.at (by simp) Z2.out))
  have A2 := Lib.hid (fun w' (hc : Chg [] W1 w') => crowd_any a c l q y t1 t2 w' (h.kept (C1.out.thenSame hc)) hl (hc.at (by simp) Z1.out) (hc.at (by simp) Z2.out))
  have A3 := Lib.hid (fun w' (hc : Chg [] W1 w') => free_any a c l x w' (h.kept (C1.out.thenSame hc)) hl hm hx)
  have A4 := Lib.hid (fun w' (hc : Chg [] W1 w') => free_any a c l y w' (h.kept (C1.out.thenSame hc)) hl hm hy)
  have HO := Lib.hid (show ∀ w', Chg [] W1 w' → w'.cell? ⟨w.heap.size, 0, none⟩ = some (.string x.name) ∧ w'.cell? ⟨w.heap.size, 1, none⟩ = some (.int .i64 x.mem) ∧ w'.cell? ⟨w.heap.size, 2, none⟩ = some (.bool x.dr) ∧ w'.cell? ⟨w.heap.size + 1, 0, none⟩ = some (.string y.name) ∧ w'.cell? ⟨w.heap.size + 1, 1, none⟩ = some (.int .i64 y.mem) ∧ w'.cell? ⟨w.heap.size + 1, 2, none⟩ = some (.bool y.dr)
      ∧ w'.cell? ⟨t0, 0, none⟩ = some (.func (.func 52) #[] #[.pointer (some ⟨t1, 0, none⟩), .pointer (some ⟨t2, 0, none⟩)]) ∧ w'.cell? ⟨t1, 0, none⟩ = some (.slice a l.length c) from fun w' hc => by
    have x1 := blk_cell (hc.at (by simp) X1.out)
    have y1 := blk_cell (hc.at (by simp) Y1.out)
    have z0 := blk_cell (hc.at (by simp) Z0.out)
    have z1 := blk_cell (hc.at (by simp) Z1.out)
    exact ⟨x1 0, x1 1, x1 2, y1 0, y1 1, y1 2, z0 0, z1 0⟩)
  have HS := Lib.hid (World.size_alloc w (wkO x))
  obtain ⟨R, hR⟩ : ∃ R, R = betB l q x y := ⟨_, rfl⟩
  rw [← hR]
  unfold betB at hR
  generalize freeS x l = fx at *
  generalize freeS y l = fy at *
  generalize crowdS l q x = cx at *
  generalize crowdS l q y = cy at *
  unfold wkV at A1 A2 A3 A4 ⊢
  unfold wkO at hW1 HS
  have HW1 := Lib.hid hW1
  obtain ⟨V, hV⟩ : ∃ V, V = if cmpI cx cy = 0 then cmpI fy fx else cmpI cx cy := ⟨_, rfl⟩
  rw [← hV] at hR
  have HR := Lib.hid hR
  have HV := Lib.hid hV
  clear h h0 h1 h2 hW1 hR hV C0
  go_enter Try.func54, Try.ntmps54
  go_wp2_with fail
  (try rw [HS.out])
  rw [← HW1.out]
  refine wp_region_noPanic ?_
  refine wp_region_held_drew (S := (fun w' => w'.cell? ⟨w.heap.size, 0, none⟩ = some (.string x.name) ∧ w'.cell? ⟨w.heap.size, 1, none⟩ = some (.int .i64 x.mem) ∧ w'.cell? ⟨w.heap.size, 2, none⟩ = some (.bool x.dr) ∧ w'.cell? ⟨w.heap.size + 1, 0, none⟩ = some (.string y.name) ∧ w'.cell? ⟨w.heap.size + 1, 1, none⟩ = some (.int .i64 y.mem) ∧ w'.cell? ⟨w.heap.size + 1, 2, none⟩ = some (.bool y.dr)
      ∧ w'.cell? ⟨t0, 0, none⟩ = some (.func (.func 52) #[] #[.pointer (some ⟨t1, 0, none⟩), .pointer (some ⟨t2, 0, none⟩)]) ∧ w'.cell? ⟨t1, 0, none⟩ = some (.slice a l.length c))) (by kernel_rfl) (HO.out _ (Chg.refl _ _).drew) (fun hHeld => ?_)
  have K0 := Lib.hid (show Chg [] W1 W1.drew from (Chg.refl _ _).drew)
  refine wpAnyH_take (i := 0) (oi := _) (v := ?vA_0) rfl (by kernel_rfl) (by kernel_rfl) (by kernel_rfl) (fun _ _ _ h => h) (Or.inl ⟨by rfl, ?yA_0⟩) hHeld ?rA_0
  case yA_0 => (intro w hSw; (try dsimp only at hSw); (try simp only [List.getElem_toArray, List.getElem_cons_zero, List.getElem_cons_succ]); go_simp <;> with_reducible rfl)
  (try simp only [List.getElem_toArray, List.getElem_cons_zero, List.getElem_cons_succ, Act.put, List.setIfInBounds_toArray, List.set_cons_zero, List.set_cons_succ])
  refine wpAnyH_take (i := 1) (oi := _) (v := ?vA_1) rfl (by kernel_rfl) (by kernel_rfl) (by kernel_rfl) (fun _ _ _ h => h) (Or.inl ⟨by rfl, ?yA_1⟩) hHeld ?rA_1
  case yA_1 => (intro w hSw; (try dsimp only at hSw); (try simp only [List.getElem_toArray, List.getElem_cons_zero, List.getElem_cons_succ]); go_simp <;> with_reducible rfl)
  (try simp only [List.getElem_toArray, List.getElem_cons_zero, List.getElem_cons_succ, Act.put, List.setIfInBounds_toArray, List.set_cons_zero, List.set_cons_succ])
  refine wpAnyH_take (i := 3) (oi := _) (v := ?vA_3) rfl (by kernel_rfl) (by kernel_rfl) (by kernel_rfl) (fun _ _ _ h => h) (Or.inl ⟨by rfl, ?yA_3⟩) hHeld ?rA_3
  case yA_3 => (intro w hSw; (try dsimp only at hSw); (try simp only [List.getElem_toArray, List.getElem_cons_zero, List.getElem_cons_succ]); go_simp <;> with_reducible rfl)
  (try simp only [List.getElem_toArray, List.getElem_cons_zero, List.getElem_cons_succ, Act.put, List.setIfInBounds_toArray, List.set_cons_zero, List.set_cons_succ])
  refine wpAnyH_take (i := 4) (oi := _) (v := ?vA_4) rfl (by kernel_rfl) (by kernel_rfl) (by kernel_rfl) (fun _ _ _ h => h) (Or.inl ⟨by rfl, ?yA_4⟩) hHeld ?rA_4
  case yA_4 => (intro w hSw; (try dsimp only at hSw); (try simp only [List.getElem_toArray, List.getElem_cons_zero, List.getElem_cons_succ]); go_simp <;> with_reducible rfl)
  (try simp only [List.getElem_toArray, List.getElem_cons_zero, List.getElem_cons_succ, Act.put, List.setIfInBounds_toArray, List.set_cons_zero, List.set_cons_succ])
  refine wpAnyH_take (i := 7) (oi := _) (v := ?vA_7) rfl (by kernel_rfl) (by kernel_rfl) (by kernel_rfl) (fun _ _ _ h => h) (Or.inl ⟨by rfl, ?yA_7⟩) hHeld ?rA_7
  case yA_7 => (intro w hSw; (try dsimp only at hSw); (try simp only [List.getElem_toArray, List.getElem_cons_zero, List.getElem_cons_succ]); go_simp <;> with_reducible rfl)
  (try simp only [List.getElem_toArray, List.getElem_cons_zero, List.getElem_cons_succ, Act.put, List.setIfInBounds_toArray, List.set_cons_zero, List.set_cons_succ])
  refine wpAnyH_take (i := 8) (oi := _) (v := ?vA_8) rfl (by kernel_rfl) (by kernel_rfl) (by kernel_rfl) (fun _ _ _ h => h) (Or.inl ⟨by rfl, ?yA_8⟩) hHeld ?rA_8
  case yA_8 => (intro w hSw; (try dsimp only at hSw); (try simp only [List.getElem_toArray, List.getElem_cons_zero, List.getElem_cons_succ]); go_simp <;> with_reducible rfl)
  (try simp only [List.getElem_toArray, List.getElem_cons_zero, List.getElem_cons_succ, Act.put, List.setIfInBounds_toArray, List.set_cons_zero, List.set_cons_succ])
  refine wpAnyH_take (i := 10) (oi := _) (v := ?vA_10) rfl (by kernel_rfl) (by kernel_rfl) (by kernel_rfl) (fun _ _ _ h => h) (Or.inl ⟨by rfl, ?yA_10⟩) hHeld ?rA_10
  case yA_10 => (intro w hSw; (try dsimp only at hSw); (try simp only [List.getElem_toArray, List.getElem_cons_zero, List.getElem_cons_succ]); go_simp <;> with_reducible rfl)
  (try simp only [List.getElem_toArray, List.getElem_cons_zero, List.getElem_cons_succ, Act.put, List.setIfInBounds_toArray, List.set_cons_zero, List.set_cons_succ])
  refine wpAnyH_take (i := 11) (oi := _) (v := ?vA_11) rfl (by kernel_rfl) (by kernel_rfl) (by kernel_rfl) (fun _ _ _ h => h) (Or.inl ⟨by rfl, ?yA_11⟩) hHeld ?rA_11
  case yA_11 => (intro w hSw; (try dsimp only at hSw); (try simp only [List.getElem_toArray, List.getElem_cons_zero, List.getElem_cons_succ]); go_simp <;> with_reducible rfl)
  (try simp only [List.getElem_toArray, List.getElem_cons_zero, List.getElem_cons_succ, Act.put, List.setIfInBounds_toArray, List.set_cons_zero, List.set_cons_succ])
  refine wpAnyH_ready (rs := [2]) (by kernel_rfl) (by simp) ?_
  refine AllReadyH.cons (o := _) rfl (fun K hK => ?_) AllReadyH.nil
  (try simp only [List.getElem_toArray, List.getElem_cons_zero, List.getElem_cons_succ])
  go_simp
  (refine Calls.mono (A1.out _ K0.out) ?_; rintro e w1 ⟨rfl, hc1⟩; have K1 := Lib.hid (K0.out.thenSame hc1); clear hc1)
  refine hK.out _ _ ?_ (fun hHeld => ?_)
  exact HO.out _ K1.out
  clear hK K
  (try simp only [List.getElem_toArray, List.getElem_cons_zero, List.getElem_cons_succ, Act.put, List.setIfInBounds_toArray, List.set_cons_zero, List.set_cons_succ])
  refine wpAnyH_ready (rs := [5]) (by kernel_rfl) (by simp) ?_
  refine AllReadyH.cons (o := _) rfl (fun K hK => ?_) AllReadyH.nil
  (try simp only [List.getElem_toArray, List.getElem_cons_zero, List.getElem_cons_succ])
  go_simp
  (refine Calls.mono (A2.out _ K1.out) ?_; rintro e w2 ⟨rfl, hc2⟩; have K2 := Lib.hid (K1.out.thenSame hc2); clear hc2)
  refine hK.out _ _ ?_ (fun hHeld => ?_)
  exact HO.out _ K2.out
  clear hK K
  (try simp only [List.getElem_toArray, List.getElem_cons_zero, List.getElem_cons_succ, Act.put, List.setIfInBounds_toArray, List.set_cons_zero, List.set_cons_succ])
  refine wpAnyH_ready (rs := [6]) (by kernel_rfl) (by simp) ?_
  refine AllReadyH.cons (o := _) rfl (fun K hK => ?_) AllReadyH.nil
  (try simp only [List.getElem_toArray, List.getElem_cons_zero, List.getElem_cons_succ])
  go_simp
  (refine Calls.mono (cmpi_any _ _ _) ?_; rintro e w3 ⟨rfl, rfl⟩)
  refine hK.out _ _ ?_ (fun hHeld => ?_)
  exact HO.out _ K2.out
  clear hK K
  (try simp only [List.getElem_toArray, List.getElem_cons_zero, List.getElem_cons_succ, Act.put, List.setIfInBounds_toArray, List.set_cons_zero, List.set_cons_succ])
  refine wpAnyH_ready (rs := [9]) (by kernel_rfl) (by simp) ?_
  refine AllReadyH.cons (o := _) rfl (fun K hK => ?_) AllReadyH.nil
  (try simp only [List.getElem_toArray, List.getElem_cons_zero, List.getElem_cons_succ])
  go_simp
  (refine Calls.mono (A4.out _ K2.out) ?_; rintro e w4 ⟨rfl, hc4⟩; have K4 := Lib.hid (K2.out.thenSame hc4); clear hc4)
  refine hK.out _ _ ?_ (fun hHeld => ?_)
  exact HO.out _ K4.out
  clear hK K
  (try simp only [List.getElem_toArray, List.getElem_cons_zero, List.getElem_cons_succ, Act.put, List.setIfInBounds_toArray, List.set_cons_zero, List.set_cons_succ])
  refine wpAnyH_ready (rs := [12]) (by kernel_rfl) (by simp) ?_
  refine AllReadyH.cons (o := _) rfl (fun K hK => ?_) AllReadyH.nil
  (try simp only [List.getElem_toArray, List.getElem_cons_zero, List.getElem_cons_succ])
  go_simp
  (refine Calls.mono (A3.out _ K4.out) ?_; rintro e w5 ⟨rfl, hc5⟩; have K5 := Lib.hid (K4.out.thenSame hc5); clear hc5)
  refine hK.out _ _ ?_ (fun hHeld => ?_)
  exact HO.out _ K5.out
  clear hK K
  (try simp only [List.getElem_toArray, List.getElem_cons_zero, List.getElem_cons_succ, Act.put, List.setIfInBounds_toArray, List.set_cons_zero, List.set_cons_succ])
  refine wpAnyH_ready (rs := [13]) (by kernel_rfl) (by simp) ?_
  refine AllReadyH.cons (o := _) rfl (fun K hK => ?_) AllReadyH.nil
  (try simp only [List.getElem_toArray, List.getElem_cons_zero, List.getElem_cons_succ])
  go_simp
  (refine Calls.mono (cmpi_any _ _ _) ?_; rintro e w6 ⟨rfl, rfl⟩)
  refine hK.out _ _ ?_ (fun hHeld => ?_)
  exact HO.out _ K5.out
  clear hK K
  (try simp only [List.getElem_toArray, List.getElem_cons_zero, List.getElem_cons_succ, Act.put, List.setIfInBounds_toArray, List.set_cons_zero, List.set_cons_succ])
  have K6 := Lib.hid (K5.out.alloc (.cells #[.int .i64 (cmpI cx cy), .int .i64 (cmpI fy fx)] 3))
  have N6 := Lib.hid (heap_alloc_new w5 (.cells #[.int .i64 (cmpI cx cy), .int .i64 (cmpI fy fx)] 3))
  have A6 := Lib.hid (fun c => by have := ori_any (cmpI cx cy) (cmpI fy fx) w5.heap.size c _ N6.out; rw [← HV.out] at this; exact this)
  refine wpAnyH_ready (rs := [14]) (by kernel_rfl) (by simp) ?_
  refine AllReadyH.cons (o := _) rfl (fun K hK => ?_) AllReadyH.nil
  (try simp only [List.getElem_toArray, List.getElem_cons_zero, List.getElem_cons_succ])
  go_simp
  skip
  refine hK.out _ _ ?_ (fun hHeld => ?_)
  exact HO.out _ K6.out
  clear hK K
  (try simp only [List.getElem_toArray, List.getElem_cons_zero, List.getElem_cons_succ, Act.put, List.setIfInBounds_toArray, List.set_cons_zero, List.set_cons_succ])
  refine wpAnyH_ready (rs := [15]) (by kernel_rfl) (by simp) ?_
  refine AllReadyH.cons (o := _) rfl (fun K hK => ?_) AllReadyH.nil
  (try simp only [List.getElem_toArray, List.getElem_cons_zero, List.getElem_cons_succ])
  go_simp
  (refine Calls.mono (A6.out _) ?_; rintro e w7 ⟨rfl, rfl⟩)
  refine hK.out _ _ ?_ (fun hHeld => ?_)
  exact HO.out _ K6.out
  clear hK K
  (try simp only [List.getElem_toArray, List.getElem_cons_zero, List.getElem_cons_succ, Act.put, List.setIfInBounds_toArray, List.set_cons_zero, List.set_cons_succ])
  refine wpAnyH_take (i := 16) (oi := _) (v := ?vA_16) rfl (by kernel_rfl) (by kernel_rfl) (by kernel_rfl) (fun _ _ _ h => h) (Or.inl ⟨by rfl, ?yA_16⟩) hHeld ?rA_16
  case yA_16 => (intro w hSw; (try dsimp only at hSw); (try simp only [List.getElem_toArray, List.getElem_cons_zero, List.getElem_cons_succ]); go_simp <;> with_reducible rfl)
  (try simp only [List.getElem_toArray, List.getElem_cons_zero, List.getElem_cons_succ, Act.put, List.setIfInBounds_toArray, List.set_cons_zero, List.set_cons_succ])
  refine wpAnyH_take (i := 17) (oi := _) (v := ?vA_17) rfl (by kernel_rfl) (by kernel_rfl) (by kernel_rfl) (fun _ _ _ h => h) (Or.inl ⟨by rfl, ?yA_17⟩) hHeld ?rA_17
  case yA_17 => (intro w hSw; (try dsimp only at hSw); (try simp only [List.getElem_toArray, List.getElem_cons_zero, List.getElem_cons_succ]); go_simp <;> with_reducible rfl)
  (try simp only [List.getElem_toArray, List.getElem_cons_zero, List.getElem_cons_succ, Act.put, List.setIfInBounds_toArray, List.set_cons_zero, List.set_cons_succ])
  refine wpAnyH_done (by kernel_rfl) ?_ _
  refine NoPanic.normal ?_
  go_wp2_with fail
  go_ret
  exact ⟨by rw [HR.out]; rfl, C1.out.thenSame K6.out⟩
end Go.Proofs.Ytjbnfaapkicejaa
