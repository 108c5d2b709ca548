/- Chapter 30: Append's region that copies the event and appends the record. Condition: what lies where. -/
import Derived.Test.YtmichbpfmachcaaDoorStmE
import Derived.Test.YtmichbpfmachcaaDoorAppL
import Derived.Test.YtmichbpfmachcaaDoorRgn
namespace Go.Proofs.YtmichbpfmachcaaDoor
set_option linter.unusedVariables false
set_option linter.unusedSimpArgs false
open Go.RowKit
theorem cells7 {w' : World} {b4 : Nat} {e : Ev} (h : w'.heap[b4]? = some (evO e)) : w'.cell? ⟨b4, 0, none⟩ = some (.string e.p.id) ∧ w'.cell? ⟨b4, 1, none⟩ = some (.string e.p.tn) ∧ w'.cell? ⟨b4, 2, none⟩ = some (.string e.p.src) ∧ w'.cell? ⟨b4, 3, none⟩ = some (.string e.p.key) ∧ w'.cell? ⟨b4, 4, none⟩ = some (.int .i64 e.p.at_) ∧ w'.cell? ⟨b4, 5, none⟩ = some (.string e.p.cause) ∧ w'.cell? ⟨b4, 6, none⟩ = some (.slice e.ba e.p.body.length e.bc) := by
  have x1 := blk_cell h
  exact ⟨x1 0, x1 1, x1 2, x1 3, x1 4, x1 5, x1 6⟩
/-- What the region leaves: the world ahead of its last store. -/
structure Apd (wc wy : World) (v : Value) (L : List Rc) (r : Rc) (a' : Option Addr) (c' : Nat) : Prop where
  row : RowOf rcC 10 wy 0 55 (.slice a' (L.length + 1) c') (L ++ [r])
  body : RowOf ceC 4 wy wc.heap.size 66 (.slice r.e.ba r.e.p.body.length r.e.bc) r.e.p.body
  chg : Chg v.ownBlock.toList wc wy
  lies : ∀ x, (Value.slice a' (L.length + 1) c').ownBlock = some x → v.ownBlock = some x ∨ wc.heap.size ≤ x
set_option maxHeartbeats 16000000 in
set_option maxRecDepth 100000 in
theorem app_r16 {z0 z1 z3 z5 z6 z7 z8 z9 z13 z14 z15 z16 z17 z18 z19 z20 z21 z22 z23 z24 z25 z26 z27 z28 z29 z30 z31 z32 z33 z34 z35 z36 z37 z38 z39 z40 z41 z42 z43 z44 z45 z46 z47 z48 z49 z50 z51 z52 z53 z54 z55 z56 z57 z58 z59 z60 z61 z62 z63 z64 z65 z66 z67 z68 z69 z70 z71 : Value} {g b4 k c : Nat} {a : Option Addr} {n sq now : Int} {wc : World} {e : Ev} {L : List Rc} {cur : Array Value} {ops : Array Oper} (hops : ops = rgnF Tryd.f11 16)
    (X4 : Hid (wc.heap[b4]? = some (evO e))) (X6 : Hid (wc.heap[g]? = some (.cells cur 70 (0, 0)))) (hcur : cur[k * 2 + 1]? = some (.slice a L.length c)) (R : Hid (RowOf rcC 10 wc 0 55 (.slice a L.length c) L)) (I : Hid (InIs ceC 4 wc e.ba e.bc e.p.body)) (hb : e.p.body.length ≤ 1048576) (hL : L.length ≤ 256) (Q : Exit → Act → World → Prop)
    (hQ : ∀ y55 y56 y57 y58 y59 y60 y61 y62 y63 y64 y65 y66 y67 y68 y69 wy a' c' a3 c3, Hid (Apd wc wy (.slice a L.length c) L ⟨n, sq, now, ⟨e.p, a3, c3⟩⟩ a' c') → Q .normal ⟨#[z0, z1, .int .i64 now, z3, .pointer (some ⟨b4, 0, none⟩), z5, z6, z7, z8, z9, .int .i64 n, .pointer (some ⟨g, k * 2, none⟩), .int .i64 sq, z13, z14, z15, z16, z17, z18, z19, z20, z21, z22, z23, z24, z25, z26, z27, z28, z29, z30, z31, z32, z33, z34, z35, z36, z37, z38, z39, z40, z41, z42, z43, z44, z45, z46, z47, z48, z49, z50, z51, z52, z53, z54, y55, y56, y57, y58, y59, y60, y61, y62, y63, y64, y65, y66, y67, y68, y69, z70, z71], []⟩ (wy.setCell ⟨g, k * 2 + 1, none⟩ (.slice a' (L.length + 1) c'))) :
    (Code.region 16 ops true).wp Tryd.prog Q ⟨#[z0, z1, .int .i64 now, z3, .pointer (some ⟨b4, 0, none⟩), z5, z6, z7, z8, z9, .int .i64 n, .pointer (some ⟨g, k * 2, none⟩), .int .i64 sq, z13, z14, z15, z16, z17, z18, z19, z20, z21, z22, z23, z24, z25, z26, z27, z28, z29, z30, z31, z32, z33, z34, z35, z36, z37, z38, z39, z40, z41, z42, z43, z44, z45, z46, z47, z48, z49, z50, z51, z52, z53, z54, z55, z56, z57, z58, z59, z60, z61, z62, z63, z64, z65, z66, z67, z68, z69, z70, z71], []⟩ wc := by
  subst hops
  simp only [rgnF, Tryd.f11, Option.bind_some, rgn, Nat.reduceEqDiff, ↓reduceIte, Option.orElse_some, Option.orElse_none, Option.getD_some, Option.orElse]
  have HN : Hid (∀ x, (Value.slice a L.length c).ownBlock = some x → x ≠ b4 ∧ x ≠ g) := Lib.hid (fun x hx => by
    obtain ⟨q, hq⟩ := rowBlk R.out hx
    constructor
    · rintro rfl
      have := X4.out
      rw [hq] at this
      simp [evO] at this
    · rintro rfl
      have := X6.out
      rw [hq] at this
      simp at this)
  have hbg : b4 ≠ g := by
    rintro rfl
    have h1 := X4.out
    rw [X6.out] at h1
    simp [evO] at h1
  refine wp_region_noPanic ?_
  obtain ⟨wd, hwd⟩ : ∃ wd, wd = wc.drew := ⟨_, rfl⟩
  have D0 := Lib.hid (show Chg [] wc wd by rw [hwd]; exact (Chg.refl _ _).drew)
  refine wp_region_held_drew (S := (fun w' => w'.cell? ⟨b4, 0, none⟩ = some (.string e.p.id) ∧ w'.cell? ⟨b4, 1, none⟩ = some (.string e.p.tn) ∧ w'.cell? ⟨b4, 2, none⟩ = some (.string e.p.src) ∧ w'.cell? ⟨b4, 3, none⟩ = some (.string e.p.key) ∧ w'.cell? ⟨b4, 4, none⟩ = some (.int .i64 e.p.at_) ∧ w'.cell? ⟨b4, 5, none⟩ = some (.string e.p.cause) ∧ w'.cell? ⟨b4, 6, none⟩ = some (.slice e.ba e.p.body.length e.bc))) (by kernel_rfl) (cells7 ((Chg.refl [] wc).drew.at (by simp) X4.out)) (fun hHeld => ?_)
  rw [← hwd] at hHeld ⊢
  clear hwd
  have Y4 := Lib.hid (D0.out.at (by simp) X4.out)
  have Y6 := Lib.hid (D0.out.at (by simp) X6.out)
  have A := Lib.hid (sclone_any e wd (I.out.kept D0.out) hb)
  unfold evC at A
  have c6 := (blk_cell Y6.out (k * 2 + 1)).trans hcur
  refine wpAnyH_take (i := 0) (oi := _) (v := ?vA_0) rfl (by kernel_rfl) (by kernel_rfl) (by kernel_rfl) (fun _ _ _ h => h) (Or.inl ⟨by rfl, ?yA_0⟩) hHeld ?rA_0
  case yA_0 => (intro w hSw; (try dsimp only at hSw); (try simp only [List.getElem_toArray, List.getElem_cons_zero, List.getElem_cons_succ]); go_simp <;> with_reducible rfl)
  (try simp only [List.getElem_toArray, List.getElem_cons_zero, List.getElem_cons_succ, Act.put, List.setIfInBounds_toArray, List.set_cons_zero, List.set_cons_succ])
  refine wpAnyH_take (i := 1) (oi := _) (v := ?vA_1) rfl (by kernel_rfl) (by kernel_rfl) (by kernel_rfl) (fun _ _ _ h => h) (Or.inl ⟨by rfl, ?yA_1⟩) hHeld ?rA_1
  case yA_1 => (intro w hSw; (try dsimp only at hSw); (try simp only [List.getElem_toArray, List.getElem_cons_zero, List.getElem_cons_succ]); go_simp <;> with_reducible rfl)
  (try simp only [List.getElem_toArray, List.getElem_cons_zero, List.getElem_cons_succ, Act.put, List.setIfInBounds_toArray, List.set_cons_zero, List.set_cons_succ])
  refine wpAnyH_take (i := 2) (oi := _) (v := ?vA_2) rfl (by kernel_rfl) (by kernel_rfl) (by kernel_rfl) (fun _ _ _ h => h) (Or.inl ⟨by rfl, ?yA_2⟩) hHeld ?rA_2
  case yA_2 => (intro w hSw; (try dsimp only at hSw); (try simp only [List.getElem_toArray, List.getElem_cons_zero, List.getElem_cons_succ]); go_simp <;> with_reducible rfl)
  (try simp only [List.getElem_toArray, List.getElem_cons_zero, List.getElem_cons_succ, Act.put, List.setIfInBounds_toArray, List.set_cons_zero, List.set_cons_succ])
  refine wpAnyH_take (i := 3) (oi := _) (v := ?vA_3) rfl (by kernel_rfl) (by kernel_rfl) (by kernel_rfl) (fun _ _ _ h => h) (Or.inl ⟨by rfl, ?yA_3⟩) hHeld ?rA_3
  case yA_3 => (intro w hSw; (try dsimp only at hSw); (try simp only [List.getElem_toArray, List.getElem_cons_zero, List.getElem_cons_succ]); go_simp <;> with_reducible rfl)
  (try simp only [List.getElem_toArray, List.getElem_cons_zero, List.getElem_cons_succ, Act.put, List.setIfInBounds_toArray, List.set_cons_zero, List.set_cons_succ])
  refine wpAnyH_take (i := 5) (oi := _) (v := ?vA_5) rfl (by kernel_rfl) (by kernel_rfl) (by kernel_rfl) (fun _ _ _ h => h) (Or.inl ⟨by rfl, ?yA_5⟩) hHeld ?rA_5
  case yA_5 => (intro w hSw; (try dsimp only at hSw); (try simp only [List.getElem_toArray, List.getElem_cons_zero, List.getElem_cons_succ]); go_simp <;> with_reducible rfl)
  (try simp only [List.getElem_toArray, List.getElem_cons_zero, List.getElem_cons_succ, Act.put, List.setIfInBounds_toArray, List.set_cons_zero, List.set_cons_succ])
  refine wpAnyH_take (i := 6) (oi := _) (v := ?vA_6) rfl (by kernel_rfl) (by kernel_rfl) (by kernel_rfl) (fun _ _ _ h => h) (Or.inl ⟨by rfl, ?yA_6⟩) hHeld ?rA_6
  case yA_6 => (intro w hSw; (try dsimp only at hSw); (try simp only [List.getElem_toArray, List.getElem_cons_zero, List.getElem_cons_succ]); go_simp <;> with_reducible rfl)
  (try simp only [List.getElem_toArray, List.getElem_cons_zero, List.getElem_cons_succ, Act.put, List.setIfInBounds_toArray, List.set_cons_zero, List.set_cons_succ])
  refine wpAnyH_take (i := 7) (oi := _) (v := ?vA_7) rfl (by kernel_rfl) (by kernel_rfl) (by kernel_rfl) (fun _ _ _ h => h) (Or.inl ⟨by rfl, ?yA_7⟩) hHeld ?rA_7
  case yA_7 => (intro w hSw; (try dsimp only at hSw); (try simp only [List.getElem_toArray, List.getElem_cons_zero, List.getElem_cons_succ]); go_simp <;> with_reducible rfl)
  (try simp only [List.getElem_toArray, List.getElem_cons_zero, List.getElem_cons_succ, Act.put, List.setIfInBounds_toArray, List.set_cons_zero, List.set_cons_succ])
  refine wpAnyH_take (i := 8) (oi := _) (v := ?vA_8) rfl (by kernel_rfl) (by kernel_rfl) (by kernel_rfl) (fun _ _ _ h => h) (Or.inl ⟨by rfl, ?yA_8⟩) hHeld ?rA_8
  case yA_8 => (intro w hSw; (try dsimp only at hSw); (try simp only [List.getElem_toArray, List.getElem_cons_zero, List.getElem_cons_succ]); go_simp <;> with_reducible rfl)
  (try simp only [List.getElem_toArray, List.getElem_cons_zero, List.getElem_cons_succ, Act.put, List.setIfInBounds_toArray, List.set_cons_zero, List.set_cons_succ])
  refine wpAnyH_ready (rs := [4, 9]) (by kernel_rfl) (by simp) ?_
  refine AllReadyH.cons (o := _) rfl (fun K hK => ?_) (AllReadyH.cons (o := _) rfl (fun K hK => ?_) AllReadyH.nil)
  ·
    (try simp only [List.getElem_toArray, List.getElem_cons_zero, List.getElem_cons_succ])
    go_simp
    skip
    refine hK.out _ _ ?_ (fun hHeld => ?_)
    exact cells7 Y4.out
    clear hK K
    (try simp only [List.getElem_toArray, List.getElem_cons_zero, List.getElem_cons_succ, Act.put, List.setIfInBounds_toArray, List.set_cons_zero, List.set_cons_succ])
    refine wpAnyH_ready (rs := [9]) (by kernel_rfl) (by simp) ?_
    refine AllReadyH.cons (o := _) rfl (fun K hK => ?_) AllReadyH.nil
    (try simp only [List.getElem_toArray, List.getElem_cons_zero, List.getElem_cons_succ])
    go_simp
    (refine Calls.mono A.out ?_; rintro e3 w3 ⟨a3, c3, rfl, hr3, hc3⟩; have R3 := Lib.hid hr3; have C3 := Lib.hid hc3; have Z4 := Lib.hid (hc3.at (by simp) Y4.out); have Z6 := Lib.hid (hc3.at (by simp) Y6.out); clear hr3 hc3)
    refine hK.out _ _ ?_ (fun hHeld => ?_)
    exact cells7 Z4.out
    clear hK K
    (try simp only [List.getElem_toArray, List.getElem_cons_zero, List.getElem_cons_succ, Act.put, List.setIfInBounds_toArray, List.set_cons_zero, List.set_cons_succ])
    refine wpAnyH_take (i := 10) (oi := _) (v := ?vB_10) rfl (by kernel_rfl) (by kernel_rfl) (by kernel_rfl) (fun _ _ _ h => h) (Or.inl ⟨by rfl, ?yB_10⟩) hHeld ?rB_10
    case yB_10 => (intro w hSw; (try dsimp only at hSw); (try simp only [List.getElem_toArray, List.getElem_cons_zero, List.getElem_cons_succ]); go_simp <;> with_reducible rfl)
    (try simp only [List.getElem_toArray, List.getElem_cons_zero, List.getElem_cons_succ, Act.put, List.setIfInBounds_toArray, List.set_cons_zero, List.set_cons_succ])
    refine wpAnyH_ready (rs := [11]) (by kernel_rfl) (by simp) ?_
    refine AllReadyH.cons (o := _) rfl (fun K hK => ?_) AllReadyH.nil
    (try simp only [List.getElem_toArray, List.getElem_cons_zero, List.getElem_cons_succ])
    go_simp
    skip
    refine hK.out _ _ ?_ (fun hHeld => ?_)
    exact cells7 (blk_alloc Z4.out)
    clear hK K
    (try simp only [List.getElem_toArray, List.getElem_cons_zero, List.getElem_cons_succ, Act.put, List.setIfInBounds_toArray, List.set_cons_zero, List.set_cons_succ])
    have N4 := Lib.hid (heap_alloc_new w3 (.cells #[.int .i64 n, .int .i64 sq, .int .i64 now, .string e.p.id, .string e.p.tn, .string e.p.src, .string e.p.key, .int .i64 e.p.at_, .string e.p.cause, .slice a3 e.p.body.length c3] 55))
    have K4 := Lib.hid ((Chg.refl [] w3).alloc (.cells #[.int .i64 n, .int .i64 sq, .int .i64 now, .string e.p.id, .string e.p.tn, .string e.p.src, .string e.p.key, .int .i64 e.p.at_, .string e.p.cause, .slice a3 e.p.body.length c3] 55))
    have R4 := Lib.hid (((R.out.kept D0.out (by simp)).kept C3.out (by simp)).kept K4.out (by simp))
    have hB : wc.heap.size ≤ (w3.alloc (.cells #[.int .i64 n, .int .i64 sq, .int .i64 now, .string e.p.id, .string e.p.tn, .string e.p.src, .string e.p.key, .int .i64 e.p.at_, .string e.p.cause, .slice a3 e.p.body.length c3] 55)).heap.size := Nat.le_trans D0.out.size (Nat.le_trans C3.out.size K4.out.size)
    refine wpAnyH_ready (rs := [12]) (by kernel_rfl) (by simp) ?_
    refine AllReadyH.cons (o := _) rfl (fun K hK => ?_) AllReadyH.nil
    (try simp only [List.getElem_toArray, List.getElem_cons_zero, List.getElem_cons_succ])
    refine step_list rfl ?_
    (refine wpl_appendL rfl _ _ 36 rfl 0 55 _ 136 Tryd.underlying36 recInfo rfl (by decide) rcC_len rcC_one (.slice a L.length c) L rfl R4.out _ 1 (⟨n, sq, now, ⟨e.p, a3, c3⟩⟩ : Rc) _ _ _ rfl N4.out rfl (by unfold maxLen; omega) (by omega) (Nat.zero_le _) ?_; intro g' cap w5 hr5 hg5 ho5 hl5; have K5 := Lib.hid (Chg.ofRow (v := .slice a L.length c) hg5); have R5 := Lib.hid hr5; have O5 := Lib.hid ho5; have V4 := Lib.hid (K5.out.at (fun hm => (HN.out b4 (by simpa using hm)).1 rfl) (K4.out.at (by simp) Z4.out)); have V6 := Lib.hid (K5.out.at (fun hm => (HN.out g (by simpa using hm)).2 rfl) (K4.out.at (by simp) Z6.out)); clear hr5 hg5 ho5)
    refine ⟨rfl, hK.out _ _ ?_ (fun hHeld => ?_)⟩
    exact cells7 V4.out
    clear hK K
    (try simp only [List.getElem_toArray, List.getElem_cons_zero, List.getElem_cons_succ, Act.put, List.setIfInBounds_toArray, List.set_cons_zero, List.set_cons_succ])
    have v6 := blk_cell V6.out
    have f6 := blk_free V6.out
    have m6 := lt_of_heap V6.out
    refine wpAnyH_take (i := 13) (oi := _) (v := ?vB_13) rfl (by kernel_rfl) (by kernel_rfl) (by kernel_rfl) (fun _ _ _ h => h) (Or.inl ⟨by rfl, ?yB_13⟩) hHeld ?rB_13
    case yB_13 => (intro w hSw; (try dsimp only at hSw); (try simp only [List.getElem_toArray, List.getElem_cons_zero, List.getElem_cons_succ]); go_simp <;> with_reducible rfl)
    (try simp only [List.getElem_toArray, List.getElem_cons_zero, List.getElem_cons_succ, Act.put, List.setIfInBounds_toArray, List.set_cons_zero, List.set_cons_succ])
    refine wpAnyH_take (i := 14) (oi := _) (v := ?vB_14) rfl (by kernel_rfl) (by kernel_rfl) (by kernel_rfl) (fun _ _ _ h => h) (Or.inl ⟨by rfl, ?yB_14⟩) hHeld ?rB_14
    case yB_14 => (intro w hSw; (try dsimp only at hSw); (try simp only [List.getElem_toArray, List.getElem_cons_zero, List.getElem_cons_succ]); go_simp <;> with_reducible rfl)
    (try simp only [List.getElem_toArray, List.getElem_cons_zero, List.getElem_cons_succ, Act.put, List.setIfInBounds_toArray, List.set_cons_zero, List.set_cons_succ])
    refine wpAnyH_ready (rs := [15]) (by kernel_rfl) (by simp) ?_
    refine AllReadyH.cons (o := _) rfl (fun K hK => ?_) AllReadyH.nil
    (try simp only [List.getElem_toArray, List.getElem_cons_zero, List.getElem_cons_succ])
    go_simp
    skip
    refine hK.out _ _ ?_ (fun hHeld => ?_)
    exact cells7 ((blk_set_ne _ _ hbg).trans V4.out)
    clear hK K
    (try simp only [List.getElem_toArray, List.getElem_cons_zero, List.getElem_cons_succ, Act.put, List.setIfInBounds_toArray, List.set_cons_zero, List.set_cons_succ])
    refine wpAnyH_done (by kernel_rfl) ?_ _
    refine NoPanic.normal ?_
    refine hQ _ _ _ _ _ _ _ _ _ _ _ _ _ _ _ w5 (some ⟨g', 0, none⟩) cap a3 c3 (Lib.hid ⟨R5.out, ?_, ?_, ?_⟩)
    · refine ((R3.out.mono D0.out.size).kept K4.out (by simp)).kept K5.out (fun y hy hm => ?_)
      have h1 := ((R3.out.mono D0.out.size).block y hy).1
      have h2 := (R.out.block y (by simpa using hm)).2
      omega
    · exact (((D0.out.thenSame C3.out).thenSame K4.out).mono (by simp)).then K5.out (fun x hx _ => hx)
    · intro x hx
      cases hx
      rcases O5.out with h | h
      · exact .inl h
      · exact .inr (by rw [h]; exact hB)
  ·
    (try simp only [List.getElem_toArray, List.getElem_cons_zero, List.getElem_cons_succ])
    go_simp
    (refine Calls.mono A.out ?_; rintro e3 w3 ⟨a3, c3, rfl, hr3, hc3⟩; have R3 := Lib.hid hr3; have C3 := Lib.hid hc3; have Z4 := Lib.hid (hc3.at (by simp) Y4.out); have Z6 := Lib.hid (hc3.at (by simp) Y6.out); clear hr3 hc3)
    refine hK.out _ _ ?_ (fun hHeld => ?_)
    exact cells7 Z4.out
    clear hK K
    (try simp only [List.getElem_toArray, List.getElem_cons_zero, List.getElem_cons_succ, Act.put, List.setIfInBounds_toArray, List.set_cons_zero, List.set_cons_succ])
    have d6 := (blk_cell Z6.out (k * 2 + 1)).trans hcur
    refine wpAnyH_take (i := 10) (oi := _) (v := ?vC_10) rfl (by kernel_rfl) (by kernel_rfl) (by kernel_rfl) (fun _ _ _ h => h) (Or.inl ⟨by rfl, ?yC_10⟩) hHeld ?rC_10
    case yC_10 => (intro w hSw; (try dsimp only at hSw); (try simp only [List.getElem_toArray, List.getElem_cons_zero, List.getElem_cons_succ]); go_simp <;> with_reducible rfl)
    (try simp only [List.getElem_toArray, List.getElem_cons_zero, List.getElem_cons_succ, Act.put, List.setIfInBounds_toArray, List.set_cons_zero, List.set_cons_succ])
    refine wpAnyH_ready (rs := [4, 11]) (by kernel_rfl) (by simp) ?_
    refine AllReadyH.cons (o := _) rfl (fun K hK => ?_) (AllReadyH.cons (o := _) rfl (fun K hK => ?_) AllReadyH.nil)
    ·
      (try simp only [List.getElem_toArray, List.getElem_cons_zero, List.getElem_cons_succ])
      go_simp
      skip
      refine hK.out _ _ ?_ (fun hHeld => ?_)
      exact cells7 Z4.out
      clear hK K
      (try simp only [List.getElem_toArray, List.getElem_cons_zero, List.getElem_cons_succ, Act.put, List.setIfInBounds_toArray, List.set_cons_zero, List.set_cons_succ])
      refine wpAnyH_ready (rs := [11]) (by kernel_rfl) (by simp) ?_
      refine AllReadyH.cons (o := _) rfl (fun K hK => ?_) AllReadyH.nil
      (try simp only [List.getElem_toArray, List.getElem_cons_zero, List.getElem_cons_succ])
      go_simp
      skip
      refine hK.out _ _ ?_ (fun hHeld => ?_)
      exact cells7 (blk_alloc Z4.out)
      clear hK K
      (try simp only [List.getElem_toArray, List.getElem_cons_zero, List.getElem_cons_succ, Act.put, List.setIfInBounds_toArray, List.set_cons_zero, List.set_cons_succ])
      have N4 := Lib.hid (heap_alloc_new w3 (.cells #[.int .i64 n, .int .i64 sq, .int .i64 now, .string e.p.id, .string e.p.tn, .string e.p.src, .string e.p.key, .int .i64 e.p.at_, .string e.p.cause, .slice a3 e.p.body.length c3] 55))
      have K4 := Lib.hid ((Chg.refl [] w3).alloc (.cells #[.int .i64 n, .int .i64 sq, .int .i64 now, .string e.p.id, .string e.p.tn, .string e.p.src, .string e.p.key, .int .i64 e.p.at_, .string e.p.cause, .slice a3 e.p.body.length c3] 55))
      have R4 := Lib.hid (((R.out.kept D0.out (by simp)).kept C3.out (by simp)).kept K4.out (by simp))
      have hB : wc.heap.size ≤ (w3.alloc (.cells #[.int .i64 n, .int .i64 sq, .int .i64 now, .string e.p.id, .string e.p.tn, .string e.p.src, .string e.p.key, .int .i64 e.p.at_, .string e.p.cause, .slice a3 e.p.body.length c3] 55)).heap.size := Nat.le_trans D0.out.size (Nat.le_trans C3.out.size K4.out.size)
      refine wpAnyH_ready (rs := [12]) (by kernel_rfl) (by simp) ?_
      refine AllReadyH.cons (o := _) rfl (fun K hK => ?_) AllReadyH.nil
      (try simp only [List.getElem_toArray, List.getElem_cons_zero, List.getElem_cons_succ])
      refine step_list rfl ?_
      (refine wpl_appendL rfl _ _ 36 rfl 0 55 _ 136 Tryd.underlying36 recInfo rfl (by decide) rcC_len rcC_one (.slice a L.length c) L rfl R4.out _ 1 (⟨n, sq, now, ⟨e.p, a3, c3⟩⟩ : Rc) _ _ _ rfl N4.out rfl (by unfold maxLen; omega) (by omega) (Nat.zero_le _) ?_; intro g' cap w5 hr5 hg5 ho5 hl5; have K5 := Lib.hid (Chg.ofRow (v := .slice a L.length c) hg5); have R5 := Lib.hid hr5; have O5 := Lib.hid ho5; have V4 := Lib.hid (K5.out.at (fun hm => (HN.out b4 (by simpa using hm)).1 rfl) (K4.out.at (by simp) Z4.out)); have V6 := Lib.hid (K5.out.at (fun hm => (HN.out g (by simpa using hm)).2 rfl) (K4.out.at (by simp) Z6.out)); clear hr5 hg5 ho5)
      refine ⟨rfl, hK.out _ _ ?_ (fun hHeld => ?_)⟩
      exact cells7 V4.out
      clear hK K
      (try simp only [List.getElem_toArray, List.getElem_cons_zero, List.getElem_cons_succ, Act.put, List.setIfInBounds_toArray, List.set_cons_zero, List.set_cons_succ])
      have v6 := blk_cell V6.out
      have f6 := blk_free V6.out
      have m6 := lt_of_heap V6.out
      refine wpAnyH_take (i := 13) (oi := _) (v := ?vC_13) rfl (by kernel_rfl) (by kernel_rfl) (by kernel_rfl) (fun _ _ _ h => h) (Or.inl ⟨by rfl, ?yC_13⟩) hHeld ?rC_13
      case yC_13 => (intro w hSw; (try dsimp only at hSw); (try simp only [List.getElem_toArray, List.getElem_cons_zero, List.getElem_cons_succ]); go_simp <;> with_reducible rfl)
      (try simp only [List.getElem_toArray, List.getElem_cons_zero, List.getElem_cons_succ, Act.put, List.setIfInBounds_toArray, List.set_cons_zero, List.set_cons_succ])
      refine wpAnyH_take (i := 14) (oi := _) (v := ?vC_14) rfl (by kernel_rfl) (by kernel_rfl) (by kernel_rfl) (fun _ _ _ h => h) (Or.inl ⟨by rfl, ?yC_14⟩) hHeld ?rC_14
      case yC_14 => (intro w hSw; (try dsimp only at hSw); (try simp only [List.getElem_toArray, List.getElem_cons_zero, List.getElem_cons_succ]); go_simp <;> with_reducible rfl)
      (try simp only [List.getElem_toArray, List.getElem_cons_zero, List.getElem_cons_succ, Act.put, List.setIfInBounds_toArray, List.set_cons_zero, List.set_cons_succ])
      refine wpAnyH_ready (rs := [15]) (by kernel_rfl) (by simp) ?_
      refine AllReadyH.cons (o := _) rfl (fun K hK => ?_) AllReadyH.nil
      (try simp only [List.getElem_toArray, List.getElem_cons_zero, List.getElem_cons_succ])
      go_simp
      skip
      refine hK.out _ _ ?_ (fun hHeld => ?_)
      exact cells7 ((blk_set_ne _ _ hbg).trans V4.out)
      clear hK K
      (try simp only [List.getElem_toArray, List.getElem_cons_zero, List.getElem_cons_succ, Act.put, List.setIfInBounds_toArray, List.set_cons_zero, List.set_cons_succ])
      refine wpAnyH_done (by kernel_rfl) ?_ _
      refine NoPanic.normal ?_
      refine hQ _ _ _ _ _ _ _ _ _ _ _ _ _ _ _ w5 (some ⟨g', 0, none⟩) cap a3 c3 (Lib.hid ⟨R5.out, ?_, ?_, ?_⟩)
      · refine ((R3.out.mono D0.out.size).kept K4.out (by simp)).kept K5.out (fun y hy hm => ?_)
        have h1 := ((R3.out.mono D0.out.size).block y hy).1
        have h2 := (R.out.block y (by simpa using hm)).2
        omega
      · exact (((D0.out.thenSame C3.out).thenSame K4.out).mono (by simp)).then K5.out (fun x hx _ => hx)
      · intro x hx
        cases hx
        rcases O5.out with h | h
        · exact .inl h
        · exact .inr (by rw [h]; exact hB)
    ·
      (try simp only [List.getElem_toArray, List.getElem_cons_zero, List.getElem_cons_succ])
      go_simp
      skip
      refine hK.out _ _ ?_ (fun hHeld => ?_)
      exact cells7 (blk_alloc Z4.out)
      clear hK K
      (try simp only [List.getElem_toArray, List.getElem_cons_zero, List.getElem_cons_succ, Act.put, List.setIfInBounds_toArray, List.set_cons_zero, List.set_cons_succ])
      have d7 := (blk_cell (blk_alloc (o' := (.cells #[.int .i64 n, .int .i64 sq, .int .i64 now, .string e.p.id, .string e.p.tn, .string e.p.src, .string e.p.key, .int .i64 e.p.at_, .string e.p.cause, .slice a3 e.p.body.length c3] 55)) Z6.out) (k * 2 + 1)).trans hcur
      refine wpAnyH_ready (rs := [4]) (by kernel_rfl) (by simp) ?_
      refine AllReadyH.cons (o := _) rfl (fun K hK => ?_) AllReadyH.nil
      (try simp only [List.getElem_toArray, List.getElem_cons_zero, List.getElem_cons_succ])
      go_simp
      skip
      refine hK.out _ _ ?_ (fun hHeld => ?_)
      exact cells7 (blk_alloc Z4.out)
      clear hK K
      (try simp only [List.getElem_toArray, List.getElem_cons_zero, List.getElem_cons_succ, Act.put, List.setIfInBounds_toArray, List.set_cons_zero, List.set_cons_succ])
      have N4 := Lib.hid (heap_alloc_new w3 (.cells #[.int .i64 n, .int .i64 sq, .int .i64 now, .string e.p.id, .string e.p.tn, .string e.p.src, .string e.p.key, .int .i64 e.p.at_, .string e.p.cause, .slice a3 e.p.body.length c3] 55))
      have K4 := Lib.hid ((Chg.refl [] w3).alloc (.cells #[.int .i64 n, .int .i64 sq, .int .i64 now, .string e.p.id, .string e.p.tn, .string e.p.src, .string e.p.key, .int .i64 e.p.at_, .string e.p.cause, .slice a3 e.p.body.length c3] 55))
      have R4 := Lib.hid (((R.out.kept D0.out (by simp)).kept C3.out (by simp)).kept K4.out (by simp))
      have hB : wc.heap.size ≤ (w3.alloc (.cells #[.int .i64 n, .int .i64 sq, .int .i64 now, .string e.p.id, .string e.p.tn, .string e.p.src, .string e.p.key, .int .i64 e.p.at_, .string e.p.cause, .slice a3 e.p.body.length c3] 55)).heap.size := Nat.le_trans D0.out.size (Nat.le_trans C3.out.size K4.out.size)
      refine wpAnyH_ready (rs := [12]) (by kernel_rfl) (by simp) ?_
      refine AllReadyH.cons (o := _) rfl (fun K hK => ?_) AllReadyH.nil
      (try simp only [List.getElem_toArray, List.getElem_cons_zero, List.getElem_cons_succ])
      refine step_list rfl ?_
      (refine wpl_appendL rfl _ _ 36 rfl 0 55 _ 136 Tryd.underlying36 recInfo rfl (by decide) rcC_len rcC_one (.slice a L.length c) L rfl R4.out _ 1 (⟨n, sq, now, ⟨e.p, a3, c3⟩⟩ : Rc) _ _ _ rfl N4.out rfl (by unfold maxLen; omega) (by omega) (Nat.zero_le _) ?_; intro g' cap w5 hr5 hg5 ho5 hl5; have K5 := Lib.hid (Chg.ofRow (v := .slice a L.length c) hg5); have R5 := Lib.hid hr5; have O5 := Lib.hid ho5; have V4 := Lib.hid (K5.out.at (fun hm => (HN.out b4 (by simpa using hm)).1 rfl) (K4.out.at (by simp) Z4.out)); have V6 := Lib.hid (K5.out.at (fun hm => (HN.out g (by simpa using hm)).2 rfl) (K4.out.at (by simp) Z6.out)); clear hr5 hg5 ho5)
      refine ⟨rfl, hK.out _ _ ?_ (fun hHeld => ?_)⟩
      exact cells7 V4.out
      clear hK K
      (try simp only [List.getElem_toArray, List.getElem_cons_zero, List.getElem_cons_succ, Act.put, List.setIfInBounds_toArray, List.set_cons_zero, List.set_cons_succ])
      have v6 := blk_cell V6.out
      have f6 := blk_free V6.out
      have m6 := lt_of_heap V6.out
      refine wpAnyH_take (i := 13) (oi := _) (v := ?vD_13) rfl (by kernel_rfl) (by kernel_rfl) (by kernel_rfl) (fun _ _ _ h => h) (Or.inl ⟨by rfl, ?yD_13⟩) hHeld ?rD_13
      case yD_13 => (intro w hSw; (try dsimp only at hSw); (try simp only [List.getElem_toArray, List.getElem_cons_zero, List.getElem_cons_succ]); go_simp <;> with_reducible rfl)
      (try simp only [List.getElem_toArray, List.getElem_cons_zero, List.getElem_cons_succ, Act.put, List.setIfInBounds_toArray, List.set_cons_zero, List.set_cons_succ])
      refine wpAnyH_take (i := 14) (oi := _) (v := ?vD_14) rfl (by kernel_rfl) (by kernel_rfl) (by kernel_rfl) (fun _ _ _ h => h) (Or.inl ⟨by rfl, ?yD_14⟩) hHeld ?rD_14
      case yD_14 => (intro w hSw; (try dsimp only at hSw); (try simp only [List.getElem_toArray, List.getElem_cons_zero, List.getElem_cons_succ]); go_simp <;> with_reducible rfl)
      (try simp only [List.getElem_toArray, List.getElem_cons_zero, List.getElem_cons_succ, Act.put, List.setIfInBounds_toArray, List.set_cons_zero, List.set_cons_succ])
      refine wpAnyH_ready (rs := [15]) (by kernel_rfl) (by simp) ?_
      refine AllReadyH.cons (o := _) rfl (fun K hK => ?_) AllReadyH.nil
      (try simp only [List.getElem_toArray, List.getElem_cons_zero, List.getElem_cons_succ])
      go_simp
      skip
      refine hK.out _ _ ?_ (fun hHeld => ?_)
      exact cells7 ((blk_set_ne _ _ hbg).trans V4.out)
      clear hK K
      (try simp only [List.getElem_toArray, List.getElem_cons_zero, List.getElem_cons_succ, Act.put, List.setIfInBounds_toArray, List.set_cons_zero, List.set_cons_succ])
      refine wpAnyH_done (by kernel_rfl) ?_ _
      refine NoPanic.normal ?_
      refine hQ _ _ _ _ _ _ _ _ _ _ _ _ _ _ _ w5 (some ⟨g', 0, none⟩) cap a3 c3 (Lib.hid ⟨R5.out, ?_, ?_, ?_⟩)
      · refine ((R3.out.mono D0.out.size).kept K4.out (by simp)).kept K5.out (fun y hy hm => ?_)
        have h1 := ((R3.out.mono D0.out.size).block y hy).1
        have h2 := (R.out.block y (by simpa using hm)).2
        omega
      · exact (((D0.out.thenSame C3.out).thenSame K4.out).mono (by simp)).then K5.out (fun x hx _ => hx)
      · intro x hx
        cases hx
        rcases O5.out with h | h
        · exact .inl h
        · exact .inr (by rw [h]; exact hB)
end Go.Proofs.YtmichbpfmachcaaDoor
