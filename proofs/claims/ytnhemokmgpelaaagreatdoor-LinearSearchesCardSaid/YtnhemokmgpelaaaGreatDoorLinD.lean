/- Chapter 50: the check of a history, plain; what its regions compute. Condition: the table of Itoa lies as the program lays it. -/
import Derived.Deep.DeepCutAuto
import Derived.Test.YtnhemokmgpelaaaGreatDoorMLinA
import Derived.Test.YtnhemokmgpelaaaGreatDoorEntG
namespace Go.Proofs.YtnhemokmgpelaaaGreatDoor
set_option linter.unusedVariables false
set_option linter.unusedSimpArgs false
open Go.RowKit
def badT (x : PCl) : Bool := !timeB x.from_ || (!openB x && (!timeB x.to_ || decide (x.to_ < x.from_)))
def chk1 (x : PCl) (e0 : ByteArray) (prev : List PCl) : Int :=
  if (idB x.o.ent && x.o.ent == e0 && idB x.o.id) = false then 4 else if prev.any (fun y => y.o.id == x.o.id) = true then 6 else if badT x = true then 2 else (doZ [nullC] x.o).1
def chkAt (l : List PCl) (k : Nat) : Int := match l[k]?, l[0]? with | some x, some y => chk1 x y.o.ent (l.take k) | _, _ => 0
def firstI : List Int → Int
  | [] => 0
  | v :: r => if v = 0 then firstI r else v
def hcheckZ (l : List PCl) : Int := if 8 < l.length then 3 else firstI ((List.range l.length).map (chkAt l))
theorem firstI_at {l : List Int} {k : Nat} {v : Int} (h : l[k]? = some v) (hb : ∀ j, j < k → ∀ u, l[j]? = some u → u = 0) (hv : v ≠ 0) : firstI l = v := by
  induction l generalizing k with
  | nil => simp at h
  | cons u r ih =>
    cases k with
    | zero => simp at h; subst h; simp [firstI, hv]
    | succ k =>
      have h0 := hb 0 (by omega) u rfl
      rw [firstI, if_pos h0]
      exact ih (by simpa using h) (fun j hj x hx => hb (j + 1) (by omega) x (by simpa using hx))
theorem firstI_all {l : List Int} (hb : ∀ v ∈ l, v = 0) : firstI l = 0 := by
  induction l with
  | nil => rfl
  | cons u r ih => rw [firstI, if_pos (hb u (by simp))]; exact ih (fun v hv => hb v (by simp [hv]))
theorem firstI_zero {l : List Int} (h : firstI l = 0) : ∀ v ∈ l, v = 0 := by
  induction l with
  | nil => simp
  | cons u r ih =>
    rw [firstI] at h
    split at h
    · rename_i h0
      intro v hv
      rcases List.mem_cons.1 hv with rfl | hv
      · exact h0
      · exact ih h v hv
    · rename_i h0; exact absurd h h0
/-- The check ends at call k. -/
theorem hcheck_at {l : List PCl} {k : Nat} (h8 : l.length ≤ 8) (hk : k < l.length) (hb : ∀ j, j < k → chkAt l j = 0) (hz : chkAt l k ≠ 0) : hcheckZ l = chkAt l k := by
  unfold hcheckZ
  rw [if_neg (by omega)]
  refine firstI_at (k := k) (by rw [List.getElem?_map, List.getElem?_range hk]; rfl) (fun j hj u hu => ?_) hz
  rw [List.getElem?_map, List.getElem?_range (by omega)] at hu
  simp only [Option.map_some, Option.some.injEq] at hu
  rw [← hu]; exact hb j hj
theorem hcheck_ok {l : List PCl} (h8 : l.length ≤ 8) (hb : ∀ j, j < l.length → chkAt l j = 0) : hcheckZ l = 0 := by
  unfold hcheckZ
  rw [if_neg (by omega)]
  refine firstI_all (fun v hv => ?_)
  obtain ⟨j, hj, rfl⟩ := List.mem_map.1 hv
  exact hb j (by simpa using hj)
theorem hcheck_zero {l : List PCl} (h : hcheckZ l = 0) : l.length ≤ 8 ∧ ∀ j, j < l.length → chkAt l j = 0 := by
  unfold hcheckZ at h
  split at h
  · simp at h
  · exact ⟨by omega, fun j hj => firstI_zero h _ (List.mem_map.2 ⟨j, by simpa using hj, rfl⟩)⟩
theorem chkAt_cl {l : List Cl} {k : Nat} (hk : k < l.length) : chkAt (l.map Cl.p) k = chk1 (l[k]).p (l[0]'(by omega)).o.ent ((l.take k).map Cl.p) := by
  unfold chkAt
  rw [List.getElem?_map, List.getElem?_map, List.getElem?_eq_getElem hk, List.getElem?_eq_getElem (by omega)]
  simp [List.map_take]
  rfl
theorem hasId_map (l : List Cl) (id : ByteArray) : (l.map Cl.p).any (fun y => y.o.id == id) = hasId l id := by
  unfold hasId
  rw [List.any_map]
  rfl
theorem nullGood : goodL [nullC] := ⟨by simp, fun x hx => by simp at hx; subst hx; exact ⟨by decide, by decide, (show (⟨#[]⟩ : ByteArray).size ≤ maxLen from Nat.zero_le _), by decide⟩⟩
theorem chk1_name {x : PCl} {e0 : ByteArray} {prev : List PCl} (h : false = (idB x.o.ent && x.o.ent == e0 && idB x.o.id)) : chk1 x e0 prev = 4 := if_pos h.symm
theorem chk1_id {x : PCl} {e0 : ByteArray} {prev : List PCl} (h : true = (idB x.o.ent && x.o.ent == e0 && idB x.o.id)) (h2 : prev.any (fun y => y.o.id == x.o.id) = true) : chk1 x e0 prev = 6 := by unfold chk1; rw [if_neg (by rw [← h]; simp), if_pos h2]
theorem chk1_bad {x : PCl} {e0 : ByteArray} {prev : List PCl} (h : true = (idB x.o.ent && x.o.ent == e0 && idB x.o.id)) (h2 : prev.any (fun y => y.o.id == x.o.id) = false) (h3 : badT x = true) : chk1 x e0 prev = 2 := by unfold chk1; rw [if_neg (by rw [← h]; simp), if_neg (by rw [h2]; simp), if_pos h3]
theorem chk1_do {x : PCl} {e0 : ByteArray} {prev : List PCl} (h : true = (idB x.o.ent && x.o.ent == e0 && idB x.o.id)) (h2 : prev.any (fun y => y.o.id == x.o.id) = false) (h3 : badT x = false) : chk1 x e0 prev = (doZ [nullC] x.o).1 := by unfold chk1; rw [if_neg (by rw [← h]; simp), if_neg (by rw [h2]; simp), if_neg (by rw [h3]; simp)]
theorem clTake {w : World} {g o m : Nat} {l : List Cl} (h : SlIs clC 8 w (some ⟨g, o, none⟩) l.length l) (hm : m ≤ l.length) : SlIs clC 8 w (some ⟨g, o, none⟩) (l.take m).length (l.take m) :=
  ⟨rfl, fun k hk => by
    rw [List.length_take] at hk
    obtain ⟨b, off, h1, h2, h3⟩ := h.2 k (by omega)
    exact ⟨b, off, h1, h2, fun j hj => by rw [List.getElem_take]; exact h3 j hj⟩⟩
theorem sizeCall (w : World) : (sizeOf (Tryz.prog.elem 23)).run Tryz.prog w = .ok 8 w := by kernel_rfl
theorem elemCalls : Tryz.prog.underlying 23 = some (.slice (Tryz.prog.elem 23)) := by kernel_rfl
theorem four_cells {w : World} {b : Nat} {x : Cl} (h : w.heap[b]? = some (clO x)) : w.cell? ⟨b, 0, none⟩ = some (.string x.o.ent) ∧ w.cell? ⟨b, 1, none⟩ = some (.string x.o.id) ∧ w.cell? ⟨b, 2, none⟩ = some (.string x.o.op) ∧ w.cell? ⟨b, 3, none⟩ = some (.slice x.o.aa x.o.args.length x.o.ac) :=
  ⟨blk_cell (show w.heap[b]? = some (.cells _ _ (0, 0)) from h) 0, blk_cell (show w.heap[b]? = some (.cells _ _ (0, 0)) from h) 1, blk_cell (show w.heap[b]? = some (.cells _ _ (0, 0)) from h) 2, blk_cell (show w.heap[b]? = some (.cells _ _ (0, 0)) from h) 3⟩
theorem far_blk {w : World} {b b2 : Nat} {x : Cl} {y0 y1 u v : Value} {t2 : TypeId} (h : w.heap[b]? = some (clO x)) (h2 : w.heap[b2]? = some (.cells #[y0, y1] t2 (0, 0))) :
    ((w.setCell ⟨b2, 0, none⟩ u).setCell ⟨b2, 1, none⟩ v).heap[b]? = some (clO x) := by
  have hne : b ≠ b2 := by
    rintro rfl
    rw [h] at h2
    simp [clO] at h2
  exact (blk_set_ne 1 _ hne).trans ((blk_set_ne 0 _ hne).trans h)
theorem chg_two {S : List Nat} {w w' : World} {b2 : Nat} (h : Chg S w w') (hb : w.heap.size ≤ b2) (u v : Value) : Chg S w ((w'.setCell ⟨b2, 0, none⟩ u).setCell ⟨b2, 1, none⟩ v) :=
  (h.setCell _ _ (fun hl => by simp only at hl; omega)).setCell _ _ (fun hl => by simp only at hl; omega)
set_option maxHeartbeats 4000000 in
set_option maxRecDepth 100000 in
theorem lcheck_any {a : Option Addr} {c : Nat} {l : List Cl} {w : World} (h : LIn w a c l) (hg : ∀ x ∈ l, goodCl x) (ht : TabW w) :
    Calls Tryz.prog 38 #[.slice a l.length c] w fun e w' => e = .returned (.int .i64 (hcheckZ (l.map Cl.p))) ∧ Chg [] w w' := by
  obtain ⟨R, hR⟩ : ∃ R, R = hcheckZ (l.map Cl.p) := ⟨_, rfl⟩
  rw [← hR]
  have HR := Lib.hid hR
  have H := Lib.hid h
  have HG := Lib.hid hg
  have HT := Lib.hid ht
  clear h hg ht hR
  by_cases h8 : 8 < l.length
  · have HE := Lib.hid (show R = 3 by rw [HR.out]; unfold hcheckZ; rw [List.length_map, if_pos h8])
    have h8' : (8 : Int) < (l.length : Int) := by omega
    go_enter Tryz.func38, Tryz.ntmps38
    go_wp2_with fail
    go_ret
    exact ⟨by rw [HE.out]; rfl, Chg.refl _ _⟩
  have h8' : (l.length : Int) ≤ 8 := by omega
  have H8 := Lib.hid (show (l.map Cl.p).length ≤ 8 by rw [List.length_map]; omega)
  clear h8
  go_enter Tryz.func38, Tryz.ntmps38
  go_wp2_with fail
  go_loopw [13] (fun i wr => ∃ k : Nat, i = .int .i64 k ∧ k ≤ l.length ∧ Hid (∀ j, j < k → chkAt (l.map Cl.p) j = 0) ∧ Hid (Chg [] w wr)) (fun i _ => l.length - (intOf i).toNat)
  case atStart => exact ⟨0, rfl, Nat.zero_le _, Lib.hid (fun j hj => by omega), Lib.hid (Chg.refl _ _)⟩
  case round =>
    obtain ⟨k, rfl, hkl, HS, D⟩ := hrel
    have hk0 : (0 : Int) ≤ (k : Int) := by omega
    by_cases hk : k < l.length
    · obtain ⟨b, off, rfl, -, hcc⟩ := H.out.at8 (w' := w) k hk
      obtain ⟨b', off', e, -, hcc0⟩ := H.out.at8 (w' := w) 0 (by omega)
      cases e
      have HX := Lib.hid (chkAt_cl hk)
      have hin := H.out.2 _ (List.getElem_mem hk)
      have hgx := HG.out _ (List.getElem_mem hk)
      have hge := HG.out _ (List.getElem_mem (show 0 < l.length by omega))
      obtain ⟨d0, d1, d2, d3, d4, d5, d6, d7⟩ := hcc _ D.out
      have HE0 := Lib.hid (fun w' hc => (hcc0 w' hc).1)
      have HAT := Lib.hid (fun (hz : chkAt (l.map Cl.p) k ≠ 0) => hcheck_at H8.out (by rw [List.length_map]; exact hk) HS.out hz)
      generalize l[k] = x at *
      generalize (l[0]'(by omega)).o.ent = e0 at *
      have IN := Lib.hid hin
      have GX := Lib.hid hgx
      have hk1 : (k : Int) < (l.length : Int) := by omega
      have hk00 : 0 < l.length := by omega
      obtain ⟨W1, hW1⟩ : ∃ W1, W1 = wr.alloc (clO x) := ⟨_, rfl⟩
      have C1 := Lib.hid (show Chg [] w W1 by rw [hW1]; exact D.out.alloc _)
      have B1 := Lib.hid (show W1.heap[wr.heap.size]? = some (clO x) by rw [hW1]; exact heap_alloc_new _ _)
      unfold clO at hW1
      have HW1 := Lib.hid hW1
      have A1 := Lib.hid (fun w' => ID_any x.o.ent w' GX.out.1.1)
      have A2 := Lib.hid (fun w' => ID_any x.o.id w' GX.out.1.2.1)
      clear hcc hcc0 hin hgx hge hW1
      obtain ⟨q1, hq1⟩ : ∃ q, q = idB x.o.ent := ⟨_, rfl⟩
      obtain ⟨q2, hq2⟩ : ∃ q, q = idB x.o.id := ⟨_, rfl⟩
      obtain ⟨N, hN⟩ : ∃ N, N = (q1 && x.o.ent == e0 && q2) := ⟨_, rfl⟩
      have HN := Lib.hid hN
      have HNQ := Lib.hid (show N = (idB x.o.ent && x.o.ent == e0 && idB x.o.id) by rw [hN, hq1, hq2])
      rw [← hq1] at A1
      rw [← hq2] at A2
      clear hq1 hq2 hN
      go_upto_region 6 with fail
      rw [← HW1.out]
      clear d0 d1 d2 d3 d4 d5 d6 d7
      go_cut [40] (fun v wx => v = .bool (!N) ∧ Hid (wx.heap[wr.heap.size]? = some (clO x)) ∧ Hid (Chg [] w wx))
      case first =>
        obtain ⟨wd, hwd⟩ : ∃ wd, wd = W1.drew := ⟨_, rfl⟩
        have D0 := Lib.hid (show Chg [] w wd by rw [hwd]; exact C1.out.drew)
        have K0 := Lib.hid (show wd.heap[wr.heap.size]? = some (clO x) by rw [hwd]; exact ((Chg.refl [] W1).drew).at (by simp) B1.out)
        have CE := Lib.hid (fun w' (hc : Chg [] w w') (hb : w'.heap[wr.heap.size]? = some (clO x)) => And.intro (blk_cell (show w'.heap[wr.heap.size]? = some (.cells _ _ (0, 0)) from hb) 0) (And.intro (blk_cell (show w'.heap[wr.heap.size]? = some (.cells _ _ (0, 0)) from hb) 1) (HE0.out w' hc)))
        simp only [List.getElem?_toArray, List.getElem?_cons_zero, List.getElem?_cons_succ, Nat.zero_mul, Nat.add_zero] at CE
        refine wp_region_noPanic ?_
        refine wp_region_held_drew (S := (fun w' => w'.cell? ⟨wr.heap.size, 0, none⟩ = some (.string x.o.ent) ∧ w'.cell? ⟨wr.heap.size, 1, none⟩ = some (.string x.o.id) ∧ w'.cell? ⟨b, off, none⟩ = some (.string e0))) (by kernel_rfl) (by rw [← hwd]; exact CE.out _ D0.out K0.out) (fun hHeld => ?_)
        rw [← hwd] at hHeld ⊢
        clear hwd
        cases q1
        ·
          refine wpAnyH_take (i := 0) (oi := _) (v := ?vA_0) rfl (by kernel_rfl) (by kernel_rfl) (by kernel_rfl) (fun _ _ _ h => h) (Or.inl ⟨by rfl, ?yA_0⟩) hHeld ?rA_0
          case yA_0 => (intro w hSw; (try dsimp only at hSw); (try simp only [List.getElem_toArray, List.getElem_cons_zero, List.getElem_cons_succ]); go_simp <;> with_reducible rfl)
          (try simp only [List.getElem_toArray, List.getElem_cons_zero, List.getElem_cons_succ, Act.put, List.setIfInBounds_toArray, List.set_cons_zero, List.set_cons_succ])
          refine wpAnyH_take (i := 1) (oi := _) (v := ?vA_1) rfl (by kernel_rfl) (by kernel_rfl) (by kernel_rfl) (fun _ _ _ h => h) (Or.inl ⟨by rfl, ?yA_1⟩) hHeld ?rA_1
          case yA_1 => (intro w hSw; (try dsimp only at hSw); (try simp only [List.getElem_toArray, List.getElem_cons_zero, List.getElem_cons_succ]); go_simp <;> with_reducible rfl)
          (try simp only [List.getElem_toArray, List.getElem_cons_zero, List.getElem_cons_succ, Act.put, List.setIfInBounds_toArray, List.set_cons_zero, List.set_cons_succ])
          refine wpAnyH_take (i := 2) (oi := _) (v := ?vA_2) rfl (by kernel_rfl) (by kernel_rfl) (by kernel_rfl) (fun _ _ _ h => h) (Or.inl ⟨by rfl, ?yA_2⟩) hHeld ?rA_2
          case yA_2 => (intro w hSw; (try dsimp only at hSw); (try simp only [List.getElem_toArray, List.getElem_cons_zero, List.getElem_cons_succ]); go_simp <;> with_reducible rfl)
          (try simp only [List.getElem_toArray, List.getElem_cons_zero, List.getElem_cons_succ, Act.put, List.setIfInBounds_toArray, List.set_cons_zero, List.set_cons_succ])
          refine wpAnyH_ready (rs := [3]) (by kernel_rfl) (by simp) ?_
          refine AllReadyH.cons (o := _) rfl (fun K hK => ?_) AllReadyH.nil
          (try simp only [List.getElem_toArray, List.getElem_cons_zero, List.getElem_cons_succ])
          go_simp
          (refine Calls.mono (A1.out _) ?_; rintro e w2 ⟨rfl, hc⟩; have D2 := Lib.hid (D0.out.thenSame (Chg.ofBelow hc)); have K2 := Lib.hid ((Chg.ofBelow (S := []) hc).at (by simp) K0.out); clear hc)
          refine hK.out _ _ ?_ (fun hHeld => ?_)
          exact CE.out _ D2.out K2.out
          clear hK K
          (try simp only [List.getElem_toArray, List.getElem_cons_zero, List.getElem_cons_succ, Act.put, List.setIfInBounds_toArray, List.set_cons_zero, List.set_cons_succ])
          refine wpAnyH_take (i := 4) (oi := _) (v := ?vA_4) rfl (by kernel_rfl) (by kernel_rfl) (by kernel_rfl) (fun _ _ _ h => h) (Or.inl ⟨by rfl, ?yA_4⟩) hHeld ?rA_4
          case yA_4 => (intro w hSw; (try dsimp only at hSw); (try simp only [List.getElem_toArray, List.getElem_cons_zero, List.getElem_cons_succ]); go_simp <;> with_reducible rfl)
          (try simp only [List.getElem_toArray, List.getElem_cons_zero, List.getElem_cons_succ, Act.put, List.setIfInBounds_toArray, List.set_cons_zero, List.set_cons_succ])
          refine wpAnyH_take (i := 5) (oi := _) (v := ?vA_5) rfl (by kernel_rfl) (by kernel_rfl) (by kernel_rfl) (fun _ _ _ h => h) (Or.inl ⟨by rfl, ?yA_5⟩) hHeld ?rA_5
          case yA_5 => (intro w hSw; (try dsimp only at hSw); (try simp only [List.getElem_toArray, List.getElem_cons_zero, List.getElem_cons_succ]); go_simp <;> with_reducible rfl)
          (try simp only [List.getElem_toArray, List.getElem_cons_zero, List.getElem_cons_succ, Act.put, List.setIfInBounds_toArray, List.set_cons_zero, List.set_cons_succ])
          refine wpAnyH_take (i := 6) (oi := _) (v := _) rfl (by kernel_rfl) (by kernel_rfl) (by kernel_rfl) (fun _ _ _ h => h) (Or.inr ⟨by rfl, rfl⟩) hHeld ?_
          (try simp only [List.getElem_toArray, List.getElem_cons_zero, List.getElem_cons_succ, Act.put, List.setIfInBounds_toArray, List.set_cons_zero, List.set_cons_succ])
          refine wpAnyH_take (i := 7) (oi := _) (v := _) rfl (by kernel_rfl) (by kernel_rfl) (by kernel_rfl) (fun _ _ _ h => h) (Or.inr ⟨by rfl, rfl⟩) hHeld ?_
          (try simp only [List.getElem_toArray, List.getElem_cons_zero, List.getElem_cons_succ, Act.put, List.setIfInBounds_toArray, List.set_cons_zero, List.set_cons_succ])
          refine wpAnyH_take (i := 8) (oi := _) (v := _) rfl (by kernel_rfl) (by kernel_rfl) (by kernel_rfl) (fun _ _ _ h => h) (Or.inr ⟨by rfl, rfl⟩) hHeld ?_
          (try simp only [List.getElem_toArray, List.getElem_cons_zero, List.getElem_cons_succ, Act.put, List.setIfInBounds_toArray, List.set_cons_zero, List.set_cons_succ])
          refine wpAnyH_take (i := 9) (oi := _) (v := _) rfl (by kernel_rfl) (by kernel_rfl) (by kernel_rfl) (fun _ _ _ h => h) (Or.inr ⟨by rfl, rfl⟩) hHeld ?_
          (try simp only [List.getElem_toArray, List.getElem_cons_zero, List.getElem_cons_succ, Act.put, List.setIfInBounds_toArray, List.set_cons_zero, List.set_cons_succ])
          refine wpAnyH_take (i := 10) (oi := _) (v := _) rfl (by kernel_rfl) (by kernel_rfl) (by kernel_rfl) (fun _ _ _ h => h) (Or.inr ⟨by rfl, rfl⟩) hHeld ?_
          (try simp only [List.getElem_toArray, List.getElem_cons_zero, List.getElem_cons_succ, Act.put, List.setIfInBounds_toArray, List.set_cons_zero, List.set_cons_succ])
          refine wpAnyH_take (i := 11) (oi := _) (v := _) rfl (by kernel_rfl) (by kernel_rfl) (by kernel_rfl) (fun _ _ _ h => h) (Or.inr ⟨by rfl, rfl⟩) hHeld ?_
          (try simp only [List.getElem_toArray, List.getElem_cons_zero, List.getElem_cons_succ, Act.put, List.setIfInBounds_toArray, List.set_cons_zero, List.set_cons_succ])
          refine wpAnyH_take (i := 12) (oi := _) (v := _) rfl (by kernel_rfl) (by kernel_rfl) (by kernel_rfl) (fun _ _ _ h => h) (Or.inr ⟨by rfl, rfl⟩) hHeld ?_
          (try simp only [List.getElem_toArray, List.getElem_cons_zero, List.getElem_cons_succ, Act.put, List.setIfInBounds_toArray, List.set_cons_zero, List.set_cons_succ])
          refine wpAnyH_take (i := 13) (oi := _) (v := _) rfl (by kernel_rfl) (by kernel_rfl) (by kernel_rfl) (fun _ _ _ h => h) (Or.inr ⟨by rfl, rfl⟩) hHeld ?_
          (try simp only [List.getElem_toArray, List.getElem_cons_zero, List.getElem_cons_succ, Act.put, List.setIfInBounds_toArray, List.set_cons_zero, List.set_cons_succ])
          refine wpAnyH_take (i := 14) (oi := _) (v := _) rfl (by kernel_rfl) (by kernel_rfl) (by kernel_rfl) (fun _ _ _ h => h) (Or.inr ⟨by rfl, rfl⟩) hHeld ?_
          (try simp only [List.getElem_toArray, List.getElem_cons_zero, List.getElem_cons_succ, Act.put, List.setIfInBounds_toArray, List.set_cons_zero, List.set_cons_succ])
          refine wpAnyH_take (i := 15) (oi := _) (v := ?vA_15) rfl (by kernel_rfl) (by kernel_rfl) (by kernel_rfl) (fun _ _ _ h => h) (Or.inl ⟨by rfl, ?yA_15⟩) hHeld ?rA_15
          case yA_15 => (intro w hSw; (try dsimp only at hSw); (try simp only [List.getElem_toArray, List.getElem_cons_zero, List.getElem_cons_succ]); go_simp <;> with_reducible rfl)
          (try simp only [List.getElem_toArray, List.getElem_cons_zero, List.getElem_cons_succ, Act.put, List.setIfInBounds_toArray, List.set_cons_zero, List.set_cons_succ])
          refine wpAnyH_take (i := 16) (oi := _) (v := ?vA_16) rfl (by kernel_rfl) (by kernel_rfl) (by kernel_rfl) (fun _ _ _ h => h) (Or.inl ⟨by rfl, ?yA_16⟩) hHeld ?rA_16
          case yA_16 => (intro w hSw; (try dsimp only at hSw); (try simp only [List.getElem_toArray, List.getElem_cons_zero, List.getElem_cons_succ]); go_simp <;> with_reducible rfl)
          (try simp only [List.getElem_toArray, List.getElem_cons_zero, List.getElem_cons_succ, Act.put, List.setIfInBounds_toArray, List.set_cons_zero, List.set_cons_succ])
          refine wpAnyH_take (i := 17) (oi := _) (v := _) rfl (by kernel_rfl) (by kernel_rfl) (by kernel_rfl) (fun _ _ _ h => h) (Or.inr ⟨by rfl, rfl⟩) hHeld ?_
          (try simp only [List.getElem_toArray, List.getElem_cons_zero, List.getElem_cons_succ, Act.put, List.setIfInBounds_toArray, List.set_cons_zero, List.set_cons_succ])
          refine wpAnyH_take (i := 18) (oi := _) (v := _) rfl (by kernel_rfl) (by kernel_rfl) (by kernel_rfl) (fun _ _ _ h => h) (Or.inr ⟨by rfl, rfl⟩) hHeld ?_
          (try simp only [List.getElem_toArray, List.getElem_cons_zero, List.getElem_cons_succ, Act.put, List.setIfInBounds_toArray, List.set_cons_zero, List.set_cons_succ])
          refine wpAnyH_take (i := 19) (oi := _) (v := _) rfl (by kernel_rfl) (by kernel_rfl) (by kernel_rfl) (fun _ _ _ h => h) (Or.inr ⟨by rfl, rfl⟩) hHeld ?_
          (try simp only [List.getElem_toArray, List.getElem_cons_zero, List.getElem_cons_succ, Act.put, List.setIfInBounds_toArray, List.set_cons_zero, List.set_cons_succ])
          refine wpAnyH_take (i := 20) (oi := _) (v := _) rfl (by kernel_rfl) (by kernel_rfl) (by kernel_rfl) (fun _ _ _ h => h) (Or.inr ⟨by rfl, rfl⟩) hHeld ?_
          (try simp only [List.getElem_toArray, List.getElem_cons_zero, List.getElem_cons_succ, Act.put, List.setIfInBounds_toArray, List.set_cons_zero, List.set_cons_succ])
          refine wpAnyH_take (i := 21) (oi := _) (v := _) rfl (by kernel_rfl) (by kernel_rfl) (by kernel_rfl) (fun _ _ _ h => h) (Or.inr ⟨by rfl, rfl⟩) hHeld ?_
          (try simp only [List.getElem_toArray, List.getElem_cons_zero, List.getElem_cons_succ, Act.put, List.setIfInBounds_toArray, List.set_cons_zero, List.set_cons_succ])
          refine wpAnyH_take (i := 22) (oi := _) (v := ?vA_22) rfl (by kernel_rfl) (by kernel_rfl) (by kernel_rfl) (fun _ _ _ h => h) (Or.inl ⟨by rfl, ?yA_22⟩) hHeld ?rA_22
          case yA_22 => (intro w hSw; (try dsimp only at hSw); (try simp only [List.getElem_toArray, List.getElem_cons_zero, List.getElem_cons_succ]); go_simp <;> with_reducible rfl)
          (try simp only [List.getElem_toArray, List.getElem_cons_zero, List.getElem_cons_succ, Act.put, List.setIfInBounds_toArray, List.set_cons_zero, List.set_cons_succ])
          refine wpAnyH_done (by kernel_rfl) ?_ _
          refine NoPanic.normal ?_
          go_wp2_with fail
          go_meet
          exact ⟨by rw [HN.out]; rfl, K2, D2⟩
        cases q3 : (x.o.ent == e0)
        · have s1 : (x.o.ent != e0) = true := by rw [bne, q3]; rfl
          have s2 : (x.o.ent.toList != e0.toList) = true := by rw [bne, ← beq_toListBytes, q3]; rfl
          have HQ3 := Lib.hid q3
          have q4 := (beq_toListBytes x.o.ent e0).symm.trans q3
          have q5 : ¬ x.o.ent = e0 ∨ x.o.ent = e0 := (Classical.em _).symm
          clear q5
          refine wpAnyH_take (i := 0) (oi := _) (v := ?vB_0) rfl (by kernel_rfl) (by kernel_rfl) (by kernel_rfl) (fun _ _ _ h => h) (Or.inl ⟨by rfl, ?yB_0⟩) hHeld ?rB_0
          case yB_0 => (intro w hSw; (try dsimp only at hSw); (try simp only [List.getElem_toArray, List.getElem_cons_zero, List.getElem_cons_succ]); go_simp <;> with_reducible rfl)
          (try simp only [List.getElem_toArray, List.getElem_cons_zero, List.getElem_cons_succ, Act.put, List.setIfInBounds_toArray, List.set_cons_zero, List.set_cons_succ])
          refine wpAnyH_take (i := 1) (oi := _) (v := ?vB_1) rfl (by kernel_rfl) (by kernel_rfl) (by kernel_rfl) (fun _ _ _ h => h) (Or.inl ⟨by rfl, ?yB_1⟩) hHeld ?rB_1
          case yB_1 => (intro w hSw; (try dsimp only at hSw); (try simp only [List.getElem_toArray, List.getElem_cons_zero, List.getElem_cons_succ]); go_simp <;> with_reducible rfl)
          (try simp only [List.getElem_toArray, List.getElem_cons_zero, List.getElem_cons_succ, Act.put, List.setIfInBounds_toArray, List.set_cons_zero, List.set_cons_succ])
          refine wpAnyH_take (i := 2) (oi := _) (v := ?vB_2) rfl (by kernel_rfl) (by kernel_rfl) (by kernel_rfl) (fun _ _ _ h => h) (Or.inl ⟨by rfl, ?yB_2⟩) hHeld ?rB_2
          case yB_2 => (intro w hSw; (try dsimp only at hSw); (try simp only [List.getElem_toArray, List.getElem_cons_zero, List.getElem_cons_succ]); go_simp <;> with_reducible rfl)
          (try simp only [List.getElem_toArray, List.getElem_cons_zero, List.getElem_cons_succ, Act.put, List.setIfInBounds_toArray, List.set_cons_zero, List.set_cons_succ])
          refine wpAnyH_ready (rs := [3]) (by kernel_rfl) (by simp) ?_
          refine AllReadyH.cons (o := _) rfl (fun K hK => ?_) AllReadyH.nil
          (try simp only [List.getElem_toArray, List.getElem_cons_zero, List.getElem_cons_succ])
          go_simp
          (refine Calls.mono (A1.out _) ?_; rintro e w2 ⟨rfl, hc⟩; have D2 := Lib.hid (D0.out.thenSame (Chg.ofBelow hc)); have K2 := Lib.hid ((Chg.ofBelow (S := []) hc).at (by simp) K0.out); clear hc)
          refine hK.out _ _ ?_ (fun hHeld => ?_)
          exact CE.out _ D2.out K2.out
          clear hK K
          (try simp only [List.getElem_toArray, List.getElem_cons_zero, List.getElem_cons_succ, Act.put, List.setIfInBounds_toArray, List.set_cons_zero, List.set_cons_succ])
          refine wpAnyH_take (i := 4) (oi := _) (v := ?vB_4) rfl (by kernel_rfl) (by kernel_rfl) (by kernel_rfl) (fun _ _ _ h => h) (Or.inl ⟨by rfl, ?yB_4⟩) hHeld ?rB_4
          case yB_4 => (intro w hSw; (try dsimp only at hSw); (try simp only [List.getElem_toArray, List.getElem_cons_zero, List.getElem_cons_succ]); go_simp <;> with_reducible rfl)
          (try simp only [List.getElem_toArray, List.getElem_cons_zero, List.getElem_cons_succ, Act.put, List.setIfInBounds_toArray, List.set_cons_zero, List.set_cons_succ])
          refine wpAnyH_take (i := 5) (oi := _) (v := ?vB_5) rfl (by kernel_rfl) (by kernel_rfl) (by kernel_rfl) (fun _ _ _ h => h) (Or.inl ⟨by rfl, ?yB_5⟩) hHeld ?rB_5
          case yB_5 => (intro w hSw; (try dsimp only at hSw); (try simp only [List.getElem_toArray, List.getElem_cons_zero, List.getElem_cons_succ]); go_simp <;> with_reducible rfl)
          (try simp only [List.getElem_toArray, List.getElem_cons_zero, List.getElem_cons_succ, Act.put, List.setIfInBounds_toArray, List.set_cons_zero, List.set_cons_succ])
          refine wpAnyH_take (i := 6) (oi := _) (v := ?vB_6) rfl (by kernel_rfl) (by kernel_rfl) (by kernel_rfl) (fun _ _ _ h => h) (Or.inl ⟨by rfl, ?yB_6⟩) hHeld ?rB_6
          case yB_6 => (intro w hSw; (try dsimp only at hSw); (try simp only [List.getElem_toArray, List.getElem_cons_zero, List.getElem_cons_succ]); go_simp <;> with_reducible rfl)
          (try simp only [List.getElem_toArray, List.getElem_cons_zero, List.getElem_cons_succ, Act.put, List.setIfInBounds_toArray, List.set_cons_zero, List.set_cons_succ])
          refine wpAnyH_take (i := 7) (oi := _) (v := ?vB_7) rfl (by kernel_rfl) (by kernel_rfl) (by kernel_rfl) (fun _ _ _ h => h) (Or.inl ⟨by rfl, ?yB_7⟩) hHeld ?rB_7
          case yB_7 => (intro w hSw; (try dsimp only at hSw); (try simp only [List.getElem_toArray, List.getElem_cons_zero, List.getElem_cons_succ]); go_simp <;> with_reducible rfl)
          (try simp only [List.getElem_toArray, List.getElem_cons_zero, List.getElem_cons_succ, Act.put, List.setIfInBounds_toArray, List.set_cons_zero, List.set_cons_succ])
          refine wpAnyH_take (i := 8) (oi := _) (v := ?vB_8) rfl (by kernel_rfl) (by kernel_rfl) (by kernel_rfl) (fun _ _ _ h => h) (Or.inl ⟨by rfl, ?yB_8⟩) hHeld ?rB_8
          case yB_8 => (intro w hSw; (try dsimp only at hSw); (try simp only [List.getElem_toArray, List.getElem_cons_zero, List.getElem_cons_succ]); go_simp <;> with_reducible rfl)
          (try simp only [List.getElem_toArray, List.getElem_cons_zero, List.getElem_cons_succ, Act.put, List.setIfInBounds_toArray, List.set_cons_zero, List.set_cons_succ])
          refine wpAnyH_take (i := 9) (oi := _) (v := ?vB_9) rfl (by kernel_rfl) (by kernel_rfl) (by kernel_rfl) (fun _ _ _ h => h) (Or.inl ⟨by rfl, ?yB_9⟩) hHeld ?rB_9
          case yB_9 => (intro w hSw; (try dsimp only at hSw); (try simp only [List.getElem_toArray, List.getElem_cons_zero, List.getElem_cons_succ]); go_simp <;> with_reducible rfl)
          (try simp only [List.getElem_toArray, List.getElem_cons_zero, List.getElem_cons_succ, Act.put, List.setIfInBounds_toArray, List.set_cons_zero, List.set_cons_succ])
          refine wpAnyH_take (i := 10) (oi := _) (v := ?vB_10) rfl (by kernel_rfl) (by kernel_rfl) (by kernel_rfl) (fun _ _ _ h => h) (Or.inl ⟨by rfl, ?yB_10⟩) hHeld ?rB_10
          case yB_10 => (intro w hSw; (try dsimp only at hSw); (try simp only [List.getElem_toArray, List.getElem_cons_zero, List.getElem_cons_succ]); go_simp <;> with_reducible rfl)
          (try simp only [List.getElem_toArray, List.getElem_cons_zero, List.getElem_cons_succ, Act.put, List.setIfInBounds_toArray, List.set_cons_zero, List.set_cons_succ])
          refine wpAnyH_take (i := 11) (oi := _) (v := ?vB_11) rfl (by kernel_rfl) (by kernel_rfl) (by kernel_rfl) (fun _ _ _ h => h) (Or.inl ⟨by rfl, ?yB_11⟩) hHeld ?rB_11
          case yB_11 => (intro w hSw; (try dsimp only at hSw); (try simp only [List.getElem_toArray, List.getElem_cons_zero, List.getElem_cons_succ]); go_simp <;> with_reducible rfl)
          (try simp only [List.getElem_toArray, List.getElem_cons_zero, List.getElem_cons_succ, Act.put, List.setIfInBounds_toArray, List.set_cons_zero, List.set_cons_succ])
          refine wpAnyH_take (i := 12) (oi := _) (v := ?vB_12) rfl (by kernel_rfl) (by kernel_rfl) (by kernel_rfl) (fun _ _ _ h => h) (Or.inl ⟨by rfl, ?yB_12⟩) hHeld ?rB_12
          case yB_12 => (intro w hSw; (try dsimp only at hSw); (try simp only [List.getElem_toArray, List.getElem_cons_zero, List.getElem_cons_succ]); go_simp <;> with_reducible rfl)
          (try simp only [List.getElem_toArray, List.getElem_cons_zero, List.getElem_cons_succ, Act.put, List.setIfInBounds_toArray, List.set_cons_zero, List.set_cons_succ])
          refine wpAnyH_take (i := 13) (oi := _) (v := ?vB_13) rfl (by kernel_rfl) (by kernel_rfl) (by kernel_rfl) (fun _ _ _ h => h) (Or.inl ⟨by rfl, ?yB_13⟩) hHeld ?rB_13
          case yB_13 => (intro w hSw; (try dsimp only at hSw); (try simp only [List.getElem_toArray, List.getElem_cons_zero, List.getElem_cons_succ]); go_simp <;> with_reducible rfl)
          (try simp only [List.getElem_toArray, List.getElem_cons_zero, List.getElem_cons_succ, Act.put, List.setIfInBounds_toArray, List.set_cons_zero, List.set_cons_succ])
          refine wpAnyH_take (i := 14) (oi := _) (v := ?vB_14) rfl (by kernel_rfl) (by kernel_rfl) (by kernel_rfl) (fun _ _ _ h => h) (Or.inl ⟨by rfl, ?yB_14⟩) hHeld ?rB_14
          case yB_14 => (intro w hSw; (try dsimp only at hSw); (try simp only [List.getElem_toArray, List.getElem_cons_zero, List.getElem_cons_succ]); go_simp <;> with_reducible rfl)
          (try simp only [List.getElem_toArray, List.getElem_cons_zero, List.getElem_cons_succ, Act.put, List.setIfInBounds_toArray, List.set_cons_zero, List.set_cons_succ])
          refine wpAnyH_take (i := 15) (oi := _) (v := ?vB_15) rfl (by kernel_rfl) (by kernel_rfl) (by kernel_rfl) (fun _ _ _ h => h) (Or.inl ⟨by rfl, ?yB_15⟩) hHeld ?rB_15
          case yB_15 => (intro w hSw; (try dsimp only at hSw); (try simp only [List.getElem_toArray, List.getElem_cons_zero, List.getElem_cons_succ]); go_simp <;> with_reducible rfl)
          (try simp only [List.getElem_toArray, List.getElem_cons_zero, List.getElem_cons_succ, Act.put, List.setIfInBounds_toArray, List.set_cons_zero, List.set_cons_succ])
          refine wpAnyH_take (i := 16) (oi := _) (v := ?vB_16) rfl (by kernel_rfl) (by kernel_rfl) (by kernel_rfl) (fun _ _ _ h => h) (Or.inl ⟨by rfl, ?yB_16⟩) hHeld ?rB_16
          case yB_16 => (intro w hSw; (try dsimp only at hSw); (try simp only [List.getElem_toArray, List.getElem_cons_zero, List.getElem_cons_succ]); go_simp <;> with_reducible rfl)
          (try simp only [List.getElem_toArray, List.getElem_cons_zero, List.getElem_cons_succ, Act.put, List.setIfInBounds_toArray, List.set_cons_zero, List.set_cons_succ])
          refine wpAnyH_take (i := 17) (oi := _) (v := _) rfl (by kernel_rfl) (by kernel_rfl) (by kernel_rfl) (fun _ _ _ h => h) (Or.inr ⟨by rfl, rfl⟩) hHeld ?_
          (try simp only [List.getElem_toArray, List.getElem_cons_zero, List.getElem_cons_succ, Act.put, List.setIfInBounds_toArray, List.set_cons_zero, List.set_cons_succ])
          refine wpAnyH_take (i := 18) (oi := _) (v := _) rfl (by kernel_rfl) (by kernel_rfl) (by kernel_rfl) (fun _ _ _ h => h) (Or.inr ⟨by rfl, rfl⟩) hHeld ?_
          (try simp only [List.getElem_toArray, List.getElem_cons_zero, List.getElem_cons_succ, Act.put, List.setIfInBounds_toArray, List.set_cons_zero, List.set_cons_succ])
          refine wpAnyH_take (i := 19) (oi := _) (v := _) rfl (by kernel_rfl) (by kernel_rfl) (by kernel_rfl) (fun _ _ _ h => h) (Or.inr ⟨by rfl, rfl⟩) hHeld ?_
          (try simp only [List.getElem_toArray, List.getElem_cons_zero, List.getElem_cons_succ, Act.put, List.setIfInBounds_toArray, List.set_cons_zero, List.set_cons_succ])
          refine wpAnyH_take (i := 20) (oi := _) (v := _) rfl (by kernel_rfl) (by kernel_rfl) (by kernel_rfl) (fun _ _ _ h => h) (Or.inr ⟨by rfl, rfl⟩) hHeld ?_
          (try simp only [List.getElem_toArray, List.getElem_cons_zero, List.getElem_cons_succ, Act.put, List.setIfInBounds_toArray, List.set_cons_zero, List.set_cons_succ])
          refine wpAnyH_take (i := 21) (oi := _) (v := _) rfl (by kernel_rfl) (by kernel_rfl) (by kernel_rfl) (fun _ _ _ h => h) (Or.inr ⟨by rfl, rfl⟩) hHeld ?_
          (try simp only [List.getElem_toArray, List.getElem_cons_zero, List.getElem_cons_succ, Act.put, List.setIfInBounds_toArray, List.set_cons_zero, List.set_cons_succ])
          refine wpAnyH_take (i := 22) (oi := _) (v := ?vB_22) rfl (by kernel_rfl) (by kernel_rfl) (by kernel_rfl) (fun _ _ _ h => h) (Or.inl ⟨by rfl, ?yB_22⟩) hHeld ?rB_22
          case yB_22 => (intro w hSw; (try dsimp only at hSw); (try simp only [List.getElem_toArray, List.getElem_cons_zero, List.getElem_cons_succ]); go_simp <;> with_reducible rfl)
          (try simp only [List.getElem_toArray, List.getElem_cons_zero, List.getElem_cons_succ, Act.put, List.setIfInBounds_toArray, List.set_cons_zero, List.set_cons_succ])
          refine wpAnyH_done (by kernel_rfl) ?_ _
          refine NoPanic.normal ?_
          go_wp2_with fail
          go_meet
          exact ⟨by rw [HN.out, HQ3.out]; rfl, K2, D2⟩
        · have s1 : (x.o.ent != e0) = false := by rw [bne, q3]; rfl
          have s2 : (x.o.ent.toList != e0.toList) = false := by rw [bne, ← beq_toListBytes, q3]; rfl
          have HQ3 := Lib.hid q3
          have q4 := (beq_toListBytes x.o.ent e0).symm.trans q3
          have q5 : ¬ x.o.ent = e0 ∨ x.o.ent = e0 := (Classical.em _).symm
          clear q5
          refine wpAnyH_take (i := 0) (oi := _) (v := ?vC_0) rfl (by kernel_rfl) (by kernel_rfl) (by kernel_rfl) (fun _ _ _ h => h) (Or.inl ⟨by rfl, ?yC_0⟩) hHeld ?rC_0
          case yC_0 => (intro w hSw; (try dsimp only at hSw); (try simp only [List.getElem_toArray, List.getElem_cons_zero, List.getElem_cons_succ]); go_simp <;> with_reducible rfl)
          (try simp only [List.getElem_toArray, List.getElem_cons_zero, List.getElem_cons_succ, Act.put, List.setIfInBounds_toArray, List.set_cons_zero, List.set_cons_succ])
          refine wpAnyH_take (i := 1) (oi := _) (v := ?vC_1) rfl (by kernel_rfl) (by kernel_rfl) (by kernel_rfl) (fun _ _ _ h => h) (Or.inl ⟨by rfl, ?yC_1⟩) hHeld ?rC_1
          case yC_1 => (intro w hSw; (try dsimp only at hSw); (try simp only [List.getElem_toArray, List.getElem_cons_zero, List.getElem_cons_succ]); go_simp <;> with_reducible rfl)
          (try simp only [List.getElem_toArray, List.getElem_cons_zero, List.getElem_cons_succ, Act.put, List.setIfInBounds_toArray, List.set_cons_zero, List.set_cons_succ])
          refine wpAnyH_take (i := 2) (oi := _) (v := ?vC_2) rfl (by kernel_rfl) (by kernel_rfl) (by kernel_rfl) (fun _ _ _ h => h) (Or.inl ⟨by rfl, ?yC_2⟩) hHeld ?rC_2
          case yC_2 => (intro w hSw; (try dsimp only at hSw); (try simp only [List.getElem_toArray, List.getElem_cons_zero, List.getElem_cons_succ]); go_simp <;> with_reducible rfl)
          (try simp only [List.getElem_toArray, List.getElem_cons_zero, List.getElem_cons_succ, Act.put, List.setIfInBounds_toArray, List.set_cons_zero, List.set_cons_succ])
          refine wpAnyH_ready (rs := [3]) (by kernel_rfl) (by simp) ?_
          refine AllReadyH.cons (o := _) rfl (fun K hK => ?_) AllReadyH.nil
          (try simp only [List.getElem_toArray, List.getElem_cons_zero, List.getElem_cons_succ])
          go_simp
          (refine Calls.mono (A1.out _) ?_; rintro e w2 ⟨rfl, hc⟩; have D2 := Lib.hid (D0.out.thenSame (Chg.ofBelow hc)); have K2 := Lib.hid ((Chg.ofBelow (S := []) hc).at (by simp) K0.out); clear hc)
          refine hK.out _ _ ?_ (fun hHeld => ?_)
          exact CE.out _ D2.out K2.out
          clear hK K
          (try simp only [List.getElem_toArray, List.getElem_cons_zero, List.getElem_cons_succ, Act.put, List.setIfInBounds_toArray, List.set_cons_zero, List.set_cons_succ])
          refine wpAnyH_take (i := 4) (oi := _) (v := ?vC_4) rfl (by kernel_rfl) (by kernel_rfl) (by kernel_rfl) (fun _ _ _ h => h) (Or.inl ⟨by rfl, ?yC_4⟩) hHeld ?rC_4
          case yC_4 => (intro w hSw; (try dsimp only at hSw); (try simp only [List.getElem_toArray, List.getElem_cons_zero, List.getElem_cons_succ]); go_simp <;> with_reducible rfl)
          (try simp only [List.getElem_toArray, List.getElem_cons_zero, List.getElem_cons_succ, Act.put, List.setIfInBounds_toArray, List.set_cons_zero, List.set_cons_succ])
          refine wpAnyH_take (i := 5) (oi := _) (v := ?vC_5) rfl (by kernel_rfl) (by kernel_rfl) (by kernel_rfl) (fun _ _ _ h => h) (Or.inl ⟨by rfl, ?yC_5⟩) hHeld ?rC_5
          case yC_5 => (intro w hSw; (try dsimp only at hSw); (try simp only [List.getElem_toArray, List.getElem_cons_zero, List.getElem_cons_succ]); go_simp <;> with_reducible rfl)
          (try simp only [List.getElem_toArray, List.getElem_cons_zero, List.getElem_cons_succ, Act.put, List.setIfInBounds_toArray, List.set_cons_zero, List.set_cons_succ])
          refine wpAnyH_take (i := 6) (oi := _) (v := ?vC_6) rfl (by kernel_rfl) (by kernel_rfl) (by kernel_rfl) (fun _ _ _ h => h) (Or.inl ⟨by rfl, ?yC_6⟩) hHeld ?rC_6
          case yC_6 => (intro w hSw; (try dsimp only at hSw); (try simp only [List.getElem_toArray, List.getElem_cons_zero, List.getElem_cons_succ]); go_simp <;> with_reducible rfl)
          (try simp only [List.getElem_toArray, List.getElem_cons_zero, List.getElem_cons_succ, Act.put, List.setIfInBounds_toArray, List.set_cons_zero, List.set_cons_succ])
          refine wpAnyH_take (i := 7) (oi := _) (v := ?vC_7) rfl (by kernel_rfl) (by kernel_rfl) (by kernel_rfl) (fun _ _ _ h => h) (Or.inl ⟨by rfl, ?yC_7⟩) hHeld ?rC_7
          case yC_7 => (intro w hSw; (try dsimp only at hSw); (try simp only [List.getElem_toArray, List.getElem_cons_zero, List.getElem_cons_succ]); go_simp <;> with_reducible rfl)
          (try simp only [List.getElem_toArray, List.getElem_cons_zero, List.getElem_cons_succ, Act.put, List.setIfInBounds_toArray, List.set_cons_zero, List.set_cons_succ])
          refine wpAnyH_take (i := 8) (oi := _) (v := ?vC_8) rfl (by kernel_rfl) (by kernel_rfl) (by kernel_rfl) (fun _ _ _ h => h) (Or.inl ⟨by rfl, ?yC_8⟩) hHeld ?rC_8
          case yC_8 => (intro w hSw; (try dsimp only at hSw); (try simp only [List.getElem_toArray, List.getElem_cons_zero, List.getElem_cons_succ]); go_simp <;> with_reducible rfl)
          (try simp only [List.getElem_toArray, List.getElem_cons_zero, List.getElem_cons_succ, Act.put, List.setIfInBounds_toArray, List.set_cons_zero, List.set_cons_succ])
          refine wpAnyH_take (i := 9) (oi := _) (v := ?vC_9) rfl (by kernel_rfl) (by kernel_rfl) (by kernel_rfl) (fun _ _ _ h => h) (Or.inl ⟨by rfl, ?yC_9⟩) hHeld ?rC_9
          case yC_9 => (intro w hSw; (try dsimp only at hSw); (try simp only [List.getElem_toArray, List.getElem_cons_zero, List.getElem_cons_succ]); go_simp <;> with_reducible rfl)
          (try simp only [List.getElem_toArray, List.getElem_cons_zero, List.getElem_cons_succ, Act.put, List.setIfInBounds_toArray, List.set_cons_zero, List.set_cons_succ])
          refine wpAnyH_take (i := 10) (oi := _) (v := ?vC_10) rfl (by kernel_rfl) (by kernel_rfl) (by kernel_rfl) (fun _ _ _ h => h) (Or.inl ⟨by rfl, ?yC_10⟩) hHeld ?rC_10
          case yC_10 => (intro w hSw; (try dsimp only at hSw); (try simp only [List.getElem_toArray, List.getElem_cons_zero, List.getElem_cons_succ]); go_simp <;> with_reducible rfl)
          (try simp only [List.getElem_toArray, List.getElem_cons_zero, List.getElem_cons_succ, Act.put, List.setIfInBounds_toArray, List.set_cons_zero, List.set_cons_succ])
          refine wpAnyH_take (i := 11) (oi := _) (v := ?vC_11) rfl (by kernel_rfl) (by kernel_rfl) (by kernel_rfl) (fun _ _ _ h => h) (Or.inl ⟨by rfl, ?yC_11⟩) hHeld ?rC_11
          case yC_11 => (intro w hSw; (try dsimp only at hSw); (try simp only [List.getElem_toArray, List.getElem_cons_zero, List.getElem_cons_succ]); go_simp <;> with_reducible rfl)
          (try simp only [List.getElem_toArray, List.getElem_cons_zero, List.getElem_cons_succ, Act.put, List.setIfInBounds_toArray, List.set_cons_zero, List.set_cons_succ])
          refine wpAnyH_take (i := 12) (oi := _) (v := ?vC_12) rfl (by kernel_rfl) (by kernel_rfl) (by kernel_rfl) (fun _ _ _ h => h) (Or.inl ⟨by rfl, ?yC_12⟩) hHeld ?rC_12
          case yC_12 => (intro w hSw; (try dsimp only at hSw); (try simp only [List.getElem_toArray, List.getElem_cons_zero, List.getElem_cons_succ]); go_simp <;> with_reducible rfl)
          (try simp only [List.getElem_toArray, List.getElem_cons_zero, List.getElem_cons_succ, Act.put, List.setIfInBounds_toArray, List.set_cons_zero, List.set_cons_succ])
          refine wpAnyH_take (i := 13) (oi := _) (v := ?vC_13) rfl (by kernel_rfl) (by kernel_rfl) (by kernel_rfl) (fun _ _ _ h => h) (Or.inl ⟨by rfl, ?yC_13⟩) hHeld ?rC_13
          case yC_13 => (intro w hSw; (try dsimp only at hSw); (try simp only [List.getElem_toArray, List.getElem_cons_zero, List.getElem_cons_succ]); go_simp <;> with_reducible rfl)
          (try simp only [List.getElem_toArray, List.getElem_cons_zero, List.getElem_cons_succ, Act.put, List.setIfInBounds_toArray, List.set_cons_zero, List.set_cons_succ])
          refine wpAnyH_take (i := 14) (oi := _) (v := ?vC_14) rfl (by kernel_rfl) (by kernel_rfl) (by kernel_rfl) (fun _ _ _ h => h) (Or.inl ⟨by rfl, ?yC_14⟩) hHeld ?rC_14
          case yC_14 => (intro w hSw; (try dsimp only at hSw); (try simp only [List.getElem_toArray, List.getElem_cons_zero, List.getElem_cons_succ]); go_simp <;> with_reducible rfl)
          (try simp only [List.getElem_toArray, List.getElem_cons_zero, List.getElem_cons_succ, Act.put, List.setIfInBounds_toArray, List.set_cons_zero, List.set_cons_succ])
          refine wpAnyH_take (i := 15) (oi := _) (v := ?vC_15) rfl (by kernel_rfl) (by kernel_rfl) (by kernel_rfl) (fun _ _ _ h => h) (Or.inl ⟨by rfl, ?yC_15⟩) hHeld ?rC_15
          case yC_15 => (intro w hSw; (try dsimp only at hSw); (try simp only [List.getElem_toArray, List.getElem_cons_zero, List.getElem_cons_succ]); go_simp <;> with_reducible rfl)
          (try simp only [List.getElem_toArray, List.getElem_cons_zero, List.getElem_cons_succ, Act.put, List.setIfInBounds_toArray, List.set_cons_zero, List.set_cons_succ])
          refine wpAnyH_take (i := 16) (oi := _) (v := ?vC_16) rfl (by kernel_rfl) (by kernel_rfl) (by kernel_rfl) (fun _ _ _ h => h) (Or.inl ⟨by rfl, ?yC_16⟩) hHeld ?rC_16
          case yC_16 => (intro w hSw; (try dsimp only at hSw); (try simp only [List.getElem_toArray, List.getElem_cons_zero, List.getElem_cons_succ]); go_simp <;> with_reducible rfl)
          (try simp only [List.getElem_toArray, List.getElem_cons_zero, List.getElem_cons_succ, Act.put, List.setIfInBounds_toArray, List.set_cons_zero, List.set_cons_succ])
          refine wpAnyH_take (i := 17) (oi := _) (v := ?vC_17) rfl (by kernel_rfl) (by kernel_rfl) (by kernel_rfl) (fun _ _ _ h => h) (Or.inl ⟨by rfl, ?yC_17⟩) hHeld ?rC_17
          case yC_17 => (intro w hSw; (try dsimp only at hSw); (try simp only [List.getElem_toArray, List.getElem_cons_zero, List.getElem_cons_succ]); go_simp <;> with_reducible rfl)
          (try simp only [List.getElem_toArray, List.getElem_cons_zero, List.getElem_cons_succ, Act.put, List.setIfInBounds_toArray, List.set_cons_zero, List.set_cons_succ])
          refine wpAnyH_take (i := 18) (oi := _) (v := ?vC_18) rfl (by kernel_rfl) (by kernel_rfl) (by kernel_rfl) (fun _ _ _ h => h) (Or.inl ⟨by rfl, ?yC_18⟩) hHeld ?rC_18
          case yC_18 => (intro w hSw; (try dsimp only at hSw); (try simp only [List.getElem_toArray, List.getElem_cons_zero, List.getElem_cons_succ]); go_simp <;> with_reducible rfl)
          (try simp only [List.getElem_toArray, List.getElem_cons_zero, List.getElem_cons_succ, Act.put, List.setIfInBounds_toArray, List.set_cons_zero, List.set_cons_succ])
          refine wpAnyH_take (i := 19) (oi := _) (v := ?vC_19) rfl (by kernel_rfl) (by kernel_rfl) (by kernel_rfl) (fun _ _ _ h => h) (Or.inl ⟨by rfl, ?yC_19⟩) hHeld ?rC_19
          case yC_19 => (intro w hSw; (try dsimp only at hSw); (try simp only [List.getElem_toArray, List.getElem_cons_zero, List.getElem_cons_succ]); go_simp <;> with_reducible rfl)
          (try simp only [List.getElem_toArray, List.getElem_cons_zero, List.getElem_cons_succ, Act.put, List.setIfInBounds_toArray, List.set_cons_zero, List.set_cons_succ])
          refine wpAnyH_ready (rs := [20]) (by kernel_rfl) (by simp) ?_
          refine AllReadyH.cons (o := _) rfl (fun K hK => ?_) AllReadyH.nil
          (try simp only [List.getElem_toArray, List.getElem_cons_zero, List.getElem_cons_succ])
          go_simp
          (refine Calls.mono (A2.out _) ?_; rintro e w3 ⟨rfl, hc⟩; have D3 := Lib.hid (D2.out.thenSame (Chg.ofBelow hc)); have K3 := Lib.hid ((Chg.ofBelow (S := []) hc).at (by simp) K2.out); clear hc)
          refine hK.out _ _ ?_ (fun hHeld => ?_)
          exact CE.out _ D3.out K3.out
          clear hK K
          (try simp only [List.getElem_toArray, List.getElem_cons_zero, List.getElem_cons_succ, Act.put, List.setIfInBounds_toArray, List.set_cons_zero, List.set_cons_succ])
          refine wpAnyH_take (i := 21) (oi := _) (v := ?vC_21) rfl (by kernel_rfl) (by kernel_rfl) (by kernel_rfl) (fun _ _ _ h => h) (Or.inl ⟨by rfl, ?yC_21⟩) hHeld ?rC_21
          case yC_21 => (intro w hSw; (try dsimp only at hSw); (try simp only [List.getElem_toArray, List.getElem_cons_zero, List.getElem_cons_succ]); go_simp <;> with_reducible rfl)
          (try simp only [List.getElem_toArray, List.getElem_cons_zero, List.getElem_cons_succ, Act.put, List.setIfInBounds_toArray, List.set_cons_zero, List.set_cons_succ])
          refine wpAnyH_take (i := 22) (oi := _) (v := ?vC_22) rfl (by kernel_rfl) (by kernel_rfl) (by kernel_rfl) (fun _ _ _ h => h) (Or.inl ⟨by rfl, ?yC_22⟩) hHeld ?rC_22
          case yC_22 => (intro w hSw; (try dsimp only at hSw); (try simp only [List.getElem_toArray, List.getElem_cons_zero, List.getElem_cons_succ]); go_simp <;> with_reducible rfl)
          (try simp only [List.getElem_toArray, List.getElem_cons_zero, List.getElem_cons_succ, Act.put, List.setIfInBounds_toArray, List.set_cons_zero, List.set_cons_succ])
          refine wpAnyH_done (by kernel_rfl) ?_ _
          refine NoPanic.normal ?_
          go_wp2_with fail
          go_meet
          exact ⟨by rw [HN.out, HQ3.out]; simp, K3, D3⟩
      case rest =>
        obtain ⟨rfl, K6, D6⟩ := hcut
        cases N
        · have HZ := Lib.hid (show chkAt (l.map Cl.p) k = 4 from HX.out.trans (chk1_name HNQ.out))
          have HE := Lib.hid (show R = 4 by rw [HR.out, HAT.out (by rw [HZ.out]; decide), HZ.out])
          go_wp2_with fail
          go_ret
          exact ⟨by rw [HE.out]; rfl, D6.out⟩
        have hlen : (l.take k).length = k := by rw [List.length_take]; omega
        have hkc : k ≤ c := by have := H.out.1.2.1; omega
        have A3 := contf_any (c := c) (clTake (H.out.1.1.kept D6.out) hkl) (by rw [hlen]; unfold maxLen; omega) wr.heap.size x.o.id (blk_cell (show wc.heap[wr.heap.size]? = some (.cells _ _ (0, 0)) from K6.out) 1) (lt_of_heap K6.out)
        rw [hlen] at A3
        have HH := Lib.hid (hasId_map (l.take k) x.o.id)
        obtain ⟨hh, hhq⟩ : ∃ hh, hh = hasId (l.take k) x.o.id := ⟨_, rfl⟩
        rw [← hhq] at A3 HH
        have A3 := Lib.hid A3
        rename_i A30
        clear A30 hlen hhq
        cases hh
        · go_upto_region 10 with (first | (refine wpl_slice_h rfl _ _ 23 rfl elemCalls (sizeCall _) b off l.length c k rfl rfl hkc ?_) | (go_at_call 57; (with_reducible refine Calls.mono A3.out ?_); rintro e w8 ⟨rfl, hc⟩; have D8 := Lib.hid (D6.out.thenSame hc); have K8 := Lib.hid (hc.at (by simp) K6.out); clear hc))
          have k8 := blk_cell (show w8.heap[wr.heap.size]? = some (.cells _ _ (0, 0)) from K8.out)
          have AT1 := fun w' => ltime_any x.from_ w'
          have AT2 := fun w' => ltime_any x.to_ w'
          have AO := fun w' => lopen_any x w'
          obtain ⟨BT, hBT⟩ : ∃ BT, BT = badT x.p := ⟨_, rfl⟩
          obtain ⟨q5, hq5⟩ : ∃ q, q = timeB x.from_ := ⟨_, rfl⟩
          obtain ⟨q6, hq6⟩ : ∃ q, q = openB x.p := ⟨_, rfl⟩
          obtain ⟨q7, hq7⟩ : ∃ q, q = timeB x.to_ := ⟨_, rfl⟩
          have HB := Lib.hid (show BT = (!q5 || (!q6 && (!q7 || decide (x.to_ < x.from_)))) by rw [hBT, hq5, hq6, hq7]; rfl)
          have HBT := Lib.hid hBT
          rw [← hq5] at AT1
          rw [← hq7] at AT2
          rw [← hq6] at AO
          unfold clC at AO
          have AT1 := Lib.hid AT1
          have AT2 := Lib.hid AT2
          have AO := Lib.hid AO
          rename_i AT10 AT20 AO0
          clear AT10 AT20 AO0 hq5 hq6 hq7 hBT
          go_cut [67] (fun v wx => v = .bool BT ∧ Hid (wx.heap[wr.heap.size]? = some (clO x)) ∧ Hid (Chg [] w wx))
          case first =>
            cases q5
            · have HE := Lib.hid (show BT = true from HB.out.trans (by first | rfl | simp [*]))
              go_wp2_with (first | (go_at_call 59; (with_reducible refine Calls.mono (AT1.out _) ?_); rintro e w9 ⟨rfl, rfl⟩) | (go_at_call 59; (with_reducible refine Calls.mono (AT2.out _) ?_); rintro e w9 ⟨rfl, rfl⟩) | (go_at_call 26; (with_reducible refine Calls.mono (AO.out _) ?_); rintro e w9 ⟨rfl, hc⟩; have D8 := Lib.hid (D8.out.thenSame hc); have K8 := Lib.hid (hc.at (by simp) K8.out); have k9 := blk_cell (show w9.heap[wr.heap.size]? = some (.cells _ _ (0, 0)) from K8.out); clear hc))
              go_meet
              exact ⟨congrArg Value.bool HE.out.symm, K8, D8⟩
            cases q6
            · cases q7
              · have HE := Lib.hid (show BT = true from HB.out.trans (by first | rfl | simp [*]))
                go_wp2_with (first | (go_at_call 59; (with_reducible refine Calls.mono (AT1.out _) ?_); rintro e w9 ⟨rfl, rfl⟩) | (go_at_call 59; (with_reducible refine Calls.mono (AT2.out _) ?_); rintro e w9 ⟨rfl, rfl⟩) | (go_at_call 26; (with_reducible refine Calls.mono (AO.out _) ?_); rintro e w9 ⟨rfl, hc⟩; have D8 := Lib.hid (D8.out.thenSame hc); have K8 := Lib.hid (hc.at (by simp) K8.out); have k9 := blk_cell (show w9.heap[wr.heap.size]? = some (.cells _ _ (0, 0)) from K8.out); clear hc))
                go_meet
                exact ⟨congrArg Value.bool HE.out.symm, K8, D8⟩
              by_cases hlt : x.to_ < x.from_
              · have hd := decide_eq_true hlt
                have HE := Lib.hid (show BT = true from HB.out.trans (by first | rfl | simp [*]))
                go_wp2_with (first | (go_at_call 59; (with_reducible refine Calls.mono (AT1.out _) ?_); rintro e w9 ⟨rfl, rfl⟩) | (go_at_call 59; (with_reducible refine Calls.mono (AT2.out _) ?_); rintro e w9 ⟨rfl, rfl⟩) | (go_at_call 26; (with_reducible refine Calls.mono (AO.out _) ?_); rintro e w9 ⟨rfl, hc⟩; have D8 := Lib.hid (D8.out.thenSame hc); have K8 := Lib.hid (hc.at (by simp) K8.out); have k9 := blk_cell (show w9.heap[wr.heap.size]? = some (.cells _ _ (0, 0)) from K8.out); clear hc))
                go_meet
                exact ⟨congrArg Value.bool HE.out.symm, K8, D8⟩
              · have hd := decide_eq_false hlt
                have HE := Lib.hid (show BT = false from HB.out.trans (by first | rfl | simp [*]))
                go_wp2_with (first | (go_at_call 59; (with_reducible refine Calls.mono (AT1.out _) ?_); rintro e w9 ⟨rfl, rfl⟩) | (go_at_call 59; (with_reducible refine Calls.mono (AT2.out _) ?_); rintro e w9 ⟨rfl, rfl⟩) | (go_at_call 26; (with_reducible refine Calls.mono (AO.out _) ?_); rintro e w9 ⟨rfl, hc⟩; have D8 := Lib.hid (D8.out.thenSame hc); have K8 := Lib.hid (hc.at (by simp) K8.out); have k9 := blk_cell (show w9.heap[wr.heap.size]? = some (.cells _ _ (0, 0)) from K8.out); clear hc))
                go_meet
                exact ⟨congrArg Value.bool HE.out.symm, K8, D8⟩
            · have HE := Lib.hid (show BT = false from HB.out.trans (by first | rfl | simp [*]))
              go_wp2_with (first | (go_at_call 59; (with_reducible refine Calls.mono (AT1.out _) ?_); rintro e w9 ⟨rfl, rfl⟩) | (go_at_call 59; (with_reducible refine Calls.mono (AT2.out _) ?_); rintro e w9 ⟨rfl, rfl⟩) | (go_at_call 26; (with_reducible refine Calls.mono (AO.out _) ?_); rintro e w9 ⟨rfl, hc⟩; have D8 := Lib.hid (D8.out.thenSame hc); have K8 := Lib.hid (hc.at (by simp) K8.out); have k9 := blk_cell (show w9.heap[wr.heap.size]? = some (.cells _ _ (0, 0)) from K8.out); clear hc))
              go_meet
              exact ⟨congrArg Value.bool HE.out.symm, K8, D8⟩
          case rest =>
            obtain ⟨rfl, K9, D9⟩ := hcut
            cases BT
            · have HC := Lib.hid (show chkAt (l.map Cl.p) k = (doZ [nullC] x.o.p).1 from HX.out.trans (chk1_do HNQ.out HH.out HBT.out.symm))
              have AD := Lib.hid (fun w' (hc : Chg [] w w') a c (hi : InIs ceC 4 w' a c [nullC]) => do_any a c [nullC] x.o w' hi nullGood (IN.out.1.kept hc) GX.out.1 (HT.out.kept hc))
              obtain ⟨Z, hZ⟩ : ∃ Z, Z = doZ [nullC] x.o.p := ⟨_, rfl⟩
              rw [← hZ] at HC AD
              clear hZ
              unfold eoC at AD
              have CC0 := D9
              have PP0 := K9
              go_upto_region 12 with fail
              have CC := Lib.hid (D9.out.drew)
              have PP := Lib.hid (((Chg.refl [] _).drew).at (by simp) K9.out)
              go_cut [7] (fun v wx => v = .int .i64 Z.1 ∧ Hid (Chg [] w wx))
              case first =>
                go_region_held3 (fun w' => w'.cell? ⟨wr.heap.size, 0, none⟩ = some (.string x.o.ent) ∧ w'.cell? ⟨wr.heap.size, 1, none⟩ = some (.string x.o.id) ∧ w'.cell? ⟨wr.heap.size, 2, none⟩ = some (.string x.o.op) ∧ w'.cell? ⟨wr.heap.size, 3, none⟩ = some (.slice x.o.aa x.o.args.length x.o.ac))
                  (with_reducible first | exact four_cells PP.out | exact four_cells (blk_alloc PP.out) | exact four_cells (((Chg.refl [] _).drew).at (by simp) (blk_alloc PP0.out)) | exact four_cells (far_blk PP.out TT.out) | exact four_cells (far_blk (blk_alloc PP.out) (heap_alloc_new _ _)))
                  (first
                    | (go_at_call 60; (with_reducible refine Calls.mono (vnull_any _) ?_); rintro e w9 ⟨ca, cc, rfl, hi, -, hc⟩; have TT := Lib.hid (hc.at (by simp) TT.out); have CC := Lib.hid (CC.out.thenSame hc); have PP := Lib.hid (hc.at (by simp) PP.out); have k10 := blk_cell TT.out; have f10 := blk_free TT.out; have II := Lib.hid hi; clear hi hc)
                    | (go_at_call 60; (with_reducible refine Calls.mono (vnull_any _) ?_); rintro e w9 ⟨ca, cc, rfl, hi, -, hc⟩; have CC := Lib.hid (CC.out.thenSame hc); have PP := Lib.hid (hc.at (by simp) PP.out); have II := Lib.hid hi; clear hi hc)
                    | (go_at_call 60; (with_reducible refine Calls.mono (vnull_any _) ?_); rintro e w9 ⟨ca, cc, rfl, hi, -, hc⟩; have LT := Lib.hid CC.out.size; have TT := Lib.hid (hc.at (by simp) (heap_alloc_new _ (.cells #[.int .i64 0, .slice none 0 0] 38))); have CC := Lib.hid ((CC.out.alloc _).thenSame hc); have PP := Lib.hid (hc.at (by simp) (blk_alloc PP.out)); have k10 := blk_cell TT.out; have f10 := blk_free TT.out; have II := Lib.hid hi; clear hi hc)
                    | (go_at_call 60; (with_reducible refine Calls.mono (vnull_any _) ?_); rintro e w9 ⟨ca, cc, rfl, hi, -, hc⟩; have LT := Lib.hid CC0.out.size; have TT := Lib.hid (hc.at (by simp) (((Chg.refl [] _).drew).at (by simp) (heap_alloc_new _ (.cells #[.int .i64 0, .slice none 0 0] 38)))); have CC := Lib.hid (((CC0.out.alloc _).drew).thenSame hc); have PP := Lib.hid (hc.at (by simp) (((Chg.refl [] _).drew).at (by simp) (blk_alloc PP0.out))); have k10 := blk_cell TT.out; have f10 := blk_free TT.out; have II := Lib.hid hi; clear hi hc)
                    | (go_at_call 25; (with_reducible refine Calls.mono (AD.out _ CC.out _ _ II.out) ?_); rintro e w9 ⟨na, nc, va, vc, rfl, -, -, -, hc⟩; have TT := Lib.hid (hc.at (by simp) TT.out); have CC := Lib.hid (CC.out.thenSame hc); have PP := Lib.hid (hc.at (by simp) PP.out); have k10 := blk_cell TT.out; have f10 := blk_free TT.out; clear hc)
                    | (go_at_call 25; (with_reducible refine Calls.mono (AD.out _ CC.out _ _ II.out) ?_); rintro e w9 ⟨na, nc, va, vc, rfl, -, -, -, hc⟩; have CC := Lib.hid (CC.out.thenSame hc); have PP := Lib.hid (hc.at (by simp) PP.out); clear hc)
                    | (go_at_call 25; (with_reducible refine Calls.mono (AD.out _ (CC.out.alloc _) _ _ (II.out.kept ((Chg.refl [] _).alloc _))) ?_); rintro e w9 ⟨na, nc, va, vc, rfl, -, -, -, hc⟩; have LT := Lib.hid CC.out.size; have TT := Lib.hid (hc.at (by simp) (heap_alloc_new _ (.cells #[.int .i64 0, .slice none 0 0] 38))); have CC := Lib.hid ((CC.out.alloc _).thenSame hc); have PP := Lib.hid (hc.at (by simp) (blk_alloc PP.out)); have k10 := blk_cell TT.out; have f10 := blk_free TT.out; clear hc))
                all_goals go_wp2_with fail
                all_goals go_meet
                all_goals first
                  | (with_reducible exact ⟨rfl, Lib.hid (CC.out.alloc _)⟩)
                  | exact ⟨rfl, Lib.hid (chg_two CC.out LT.out _ _)⟩
              case rest =>
                obtain ⟨rfl, D12⟩ := hcut
                generalize Z.1 = z at *
                by_cases hz : z = 0
                · have HS2 := Lib.hid (show ∀ j, j < k + 1 → chkAt (l.map Cl.p) j = 0 from fun j hj => by
                    by_cases hjk : j < k
                    · exact HS.out j hjk
                    · have : j = k := by omega
                      rw [this, HC.out, hz])
                  subst hz
                  go_wp2_with fail
                  exact ⟨⟨k + 1, by go_num, by omega, HS2, D12⟩, by simp [intOf]; omega⟩
                · have HE := Lib.hid (show R = z by rw [HR.out, HAT.out (by rw [HC.out]; exact hz), HC.out])
                  have hzb : (z != 0) = true := by simpa using hz
                  clear hz
                  go_wp2_with fail
                  go_ret
                  exact ⟨retI HE.out.symm, D12.out⟩
            · have HZ := Lib.hid (show chkAt (l.map Cl.p) k = 2 from HX.out.trans (chk1_bad HNQ.out HH.out HBT.out.symm))
              have HE := Lib.hid (show R = 2 by rw [HR.out, HAT.out (by rw [HZ.out]; decide), HZ.out])
              go_wp2_with fail
              go_ret
              exact ⟨by rw [HE.out]; rfl, D9.out⟩
        · have HZ := Lib.hid (show chkAt (l.map Cl.p) k = 6 from HX.out.trans (chk1_id HNQ.out HH.out))
          have HE := Lib.hid (show R = 6 by rw [HR.out, HAT.out (by rw [HZ.out]; decide), HZ.out])
          go_wp2_with (first | (refine wpl_slice_h rfl _ _ 23 rfl elemCalls (sizeCall _) b off l.length c k rfl rfl hkc ?_) | (go_at_call 57; (with_reducible refine Calls.mono A3.out ?_); rintro e w8 ⟨rfl, hc⟩; have D8 := Lib.hid (D6.out.thenSame hc); clear hc))
          go_ret
          exact ⟨by rw [HE.out]; rfl, D8.out⟩
    · have hks : k = l.length := by omega
      have HE := Lib.hid (show R = 0 by rw [HR.out]; exact hcheck_ok H8.out (fun j hj => HS.out j (by rw [List.length_map] at hj; omega)))
      clear hks
      go_wp2_with fail
      go_ret
      exact ⟨by rw [HE.out]; rfl, D.out⟩
end Go.Proofs.YtnhemokmgpelaaaGreatDoor
