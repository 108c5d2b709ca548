/- Chapter 43: contracts of the reference: Choose, Add, Remove. No condition. -/
import Derived.Test.YtjbnfaapkicejaaPlcN
import Derived.Test.YtjbnfaapkicejaaPlcQ
import Derived.Test.YtjbnfaapkicejaaPlcW
namespace Go.Proofs.Ytjbnfaapkicejaa
set_option linter.unusedVariables false
set_option linter.unusedSimpArgs false
open Go.RowKit
set_option maxHeartbeats 8000000 in
set_option maxRecDepth 100000 in
theorem rchoose_any (aw : Option Addr) (cw : Nat) (ws : List Wk) (a : Option Addr) (c : Nat) (l : List Pl) (q : Pl) (w : World) (hw : SlIs wkC 3 w aw ws.length ws) (hwl : ws.length ≤ 4096) (hwc : ws.length ≤ cw) (hwg : ∀ x ∈ ws, x.good)
    (h : SlIs plC 4 w a l.length l) (hl : l.length ≤ 4096) (hlc : l.length ≤ c) (hg : ∀ x ∈ l, x.good) (hq : q.good) :
    Calls Try.prog 11 #[.slice aw ws.length cw, .slice a l.length c, plV q] w fun e w' => e = .returned (.tuple #[.string (choosePX ws l q).1, .int .i64 (choosePX ws l q).2]) ∧ Chg [] w w' := by
  have HW := Lib.hid hw
  obtain ⟨W1, hW1⟩ : ∃ W1, W1 = w.alloc (plO q) := ⟨_, rfl⟩
  have C1 := Lib.hid (show Chg [] w W1 by rw [hW1]; exact (Chg.refl _ _).alloc _)
  have X1 := Lib.hid (show W1.heap[w.heap.size]? = some (plO q) by rw [hW1]; exact heap_alloc_new _ _)
  have A1 := Lib.hid (rcheck_any aw cw ws a c l W1 (hw.kept C1.out) hwl hwc hwg (h.kept C1.out) hl hlc hg)
  have A2 := Lib.hid (fun w' (hc : Chg [] w w') => rplacement_any a c l q w' (h.kept hc) hl hq)
  have A3 := Lib.hid (fun w' (hc : Chg [] w w') hx hm => rbest_any aw cw ws a c l q w' (hw.kept hc) hwl (h.kept hc) hl hx hm)
  obtain ⟨R, hR⟩ : ∃ R, R = choosePX ws l q := ⟨_, rfl⟩
  rw [← hR]
  unfold choosePX chooseP at hR
  have hz := @check_zero ws l
  obtain ⟨bl, bh⟩ := bestAt_bounds (fun x => possB x l q) (betB l q) ws ws.length
  change -1 ≤ bestI ws l q at bl
  change bestI ws l q < _ at bh
  generalize checkP ws l = E at *
  generalize freshE l q = F at *
  generalize bestI ws l q = n at *
  unfold plV at A2 A3 ⊢
  unfold plO at hW1 X1
  have HW1 := Lib.hid hW1
  clear hw h hwg hg hW1 hq
  by_cases hE : E = 0
  case neg =>
    rw [if_neg hE] at hR
    subst hR
    have hE' : (E == 0) = false := by simpa using hE
    clear hz
    go_enter Try.func11, Try.ntmps11
    go_wp2_with fail
    rw [← HW1.out]
    refine A1.out.mono ?_; rintro e w1 ⟨rfl, hc1⟩
    have C2 := Lib.hid (C1.out.thenSame hc1)
    clear hc1
    go_wp2_with fail
    go_ret2
    exact ⟨rfl, C2.out⟩
  rw [if_pos hE] at hR
  obtain ⟨z1, z2, z3, z4, z5⟩ := hz hE
  subst hE
  have A3' := Lib.hid (fun w' (hc : Chg [] w w') => A3.out w' hc z3 z4)
  clear hz z1 z2 z3 z4 z5 A3
  by_cases hF : F = 0
  case neg =>
    rw [if_neg hF] at hR
    subst hR
    have hF' : (F == 0) = false := by simpa using hF
    go_enter Try.func11, Try.ntmps11
    go_wp2_with fail
    rw [← HW1.out]
    refine A1.out.mono ?_; rintro e w1 ⟨rfl, hc1⟩
    have C2 := Lib.hid (C1.out.thenSame hc1)
    have x1 := blk_cell (hc1.at (by simp) X1.out)
    have l1 := lt_of_heap (hc1.at (by simp) X1.out)
    clear hc1
    go_wp2_with fail
    refine (A2.out _ C2.out).mono ?_; rintro e w2 ⟨rfl, hc2⟩
    have C3 := Lib.hid (C2.out.thenSame hc2)
    clear hc2 x1 l1
    go_wp2_with fail
    go_ret2
    exact ⟨rfl, C3.out⟩
  rw [if_pos hF] at hR
  subst hF
  by_cases hn : n < 0
  · rw [if_pos hn] at hR
    subst hR
    go_enter Try.func11, Try.ntmps11
    go_wp2_with fail
    rw [← HW1.out]
    refine A1.out.mono ?_; rintro e w1 ⟨rfl, hc1⟩
    have C2 := Lib.hid (C1.out.thenSame hc1)
    have X2 := Lib.hid (hc1.at (by simp) X1.out)
    have x1 := blk_cell X2.out
    have l1 := lt_of_heap X2.out
    clear hc1
    go_wp2_with fail
    refine (A2.out _ C2.out).mono ?_; rintro e w2 ⟨rfl, hc2⟩
    have C3 := Lib.hid (C2.out.thenSame hc2)
    have X3 := Lib.hid (hc2.at (by simp) X2.out)
    clear hc2 x1 l1
    have x1 := blk_cell X3.out
    have l1 := lt_of_heap X3.out
    go_wp2_with fail
    refine (A3'.out _ C3.out).mono ?_; rintro e w3 ⟨rfl, hc3⟩
    have C4 := Lib.hid (C3.out.thenSame hc3)
    clear hc3 x1 l1
    go_wp2_with fail
    go_ret2
    exact ⟨rfl, C4.out⟩
  · rw [if_neg hn] at hR
    obtain ⟨m, rfl⟩ : ∃ m : Nat, n = (m : Int) := ⟨n.toNat, by omega⟩
    have hml : m < ws.length := by omega
    simp only [Int.toNat_natCast] at hR
    rw [List.getElem?_eq_getElem hml] at hR
    simp only at hR
    subst hR
    have hel := fun w' (hc : Chg [] w w') => HW.out.elem hc m hml
    generalize ws[m] = x at *
    have HEl := Lib.hid hel
    have hm0 : (0 : Int) ≤ (m : Int) := by omega
    have hm1 : (m : Int) < (ws.length : Int) := by omega
    clear hel
    go_enter Try.func11, Try.ntmps11
    go_wp2_with fail
    rw [← HW1.out]
    refine A1.out.mono ?_; rintro e w1 ⟨rfl, hc1⟩
    have C2 := Lib.hid (C1.out.thenSame hc1)
    have X2 := Lib.hid (hc1.at (by simp) X1.out)
    have x1 := blk_cell X2.out
    have l1 := lt_of_heap X2.out
    clear hc1
    go_wp2_with fail
    refine (A2.out _ C2.out).mono ?_; rintro e w2 ⟨rfl, hc2⟩
    have C3 := Lib.hid (C2.out.thenSame hc2)
    have X3 := Lib.hid (hc2.at (by simp) X2.out)
    clear hc2 x1 l1
    have x1 := blk_cell X3.out
    have l1 := lt_of_heap X3.out
    go_wp2_with fail
    refine (A3'.out _ C3.out).mono ?_; rintro e w3 ⟨rfl, hc3⟩
    have C4 := Lib.hid (C3.out.thenSame hc3)
    clear hc3 x1 l1
    obtain ⟨g1, o1, rfl, -, hbr1, hcc⟩ := HEl.out w3 C4.out
    have d0 := hcc 0 (by omega)
    simp only [wkC, List.getElem?_cons_zero, List.getElem?_cons_succ, Nat.add_zero] at d0
    clear hcc
    go_wp2_with fail
    go_ret2
    exact ⟨rfl, C4.out⟩
set_option maxHeartbeats 8000000 in
set_option maxRecDepth 100000 in
theorem rremove_any (a : Option Addr) (c : Nat) (l : List Pl) (s : ByteArray) (w : World) (h : InIs plC 4 w a c l) (hl : l.length ≤ 4096) :
    Calls Try.prog 23 #[.slice a l.length c, .string s] w fun e w' => ∃ v, e = .returned (.tuple #[v, .int .i64 (remP l s).2]) ∧ RowOf plC 4 w' w.heap.size 25 v (remP l s).1 ∧ Chg [] w w' := by
  have A := Lib.hid (rfind_any a c l s w h.1 hl)
  obtain ⟨R, hR⟩ : ∃ R, R = remP l s := ⟨_, rfl⟩
  rw [← hR]
  unfold remP at hR
  have hb : pIdx l s < 0 ∨ ∃ m : Nat, pIdx l s = (m : Int) ∧ m < l.length := by
    rcases idx_find (fun x : Pl => x.id == s) l with ⟨_, hi⟩ | ⟨i, hi0, _, hi⟩
    · exact .inl (by unfold pIdx; rw [hi]; decide)
    · exact .inr ⟨i, hi, hi0⟩
  generalize pIdx l s = n at *
  have H := Lib.hid h
  clear h
  rcases hb with hn | ⟨m, rfl, hm⟩
  · rw [if_pos hn] at hR
    subst hR
    go_enter Try.func23, Try.ntmps23
    go_wp2_with fail
    refine A.out.mono ?_; rintro e w1 ⟨rfl, rfl⟩
    go_wp2_with fail
    go_ret2
    exact ⟨_, rfl, RowOf.nil _ _ _, Chg.refl _ _⟩
  rw [if_neg (by omega), Int.toNat_natCast] at hR
  subst hR
  obtain ⟨g, o, rfl⟩ : ∃ g o, a = some ⟨g, o, none⟩ := by
    obtain ⟨b, o, h, _⟩ := H.out.1.2 m hm
    exact ⟨b, o, h⟩
  have HS := Lib.hid (H.out.src (by omega))
  have hm0 : (0 : Int) ≤ (m : Int) := by omega
  have hm1 : (m : Int) < (l.length : Int) := by omega
  have hlc : (l.length : Int) ≤ (c : Int) := by have := H.out.2.1; omega
  have hll : (l.length : Int) ≤ 4096 := by omega
  have hmc : (m : Int) + 1 ≤ (c : Int) := by omega
  have hml : (m : Int) + 1 ≤ (l.length : Int) := by omega
  have hcm : (c : Int) ≤ 9223372036854775807 := by have := H.out.2.2.1; unfold maxLen at this; omega
  have nlc := H.out.2.1
  have nmc : m ≤ c := by omega
  have nmc1 : m + 1 ≤ c := by omega
  have nml1 : m + 1 ≤ l.length := by omega
  obtain ⟨o', hite, ho'⟩ : ∃ o', (if c = m + 1 then (some ⟨g, o, none⟩ : Option Addr) else some ⟨g, o + (m + 1) * 4, none⟩) = some ⟨g, o', none⟩ ∧ (c = m + 1 ∨ o' = o + (m + 1) * 4) := by
    by_cases e : c = m + 1
    · exact ⟨o, by rw [if_pos e], .inl e⟩
    · exact ⟨o + (m + 1) * 4, by rw [if_neg e], .inr rfl⟩
  have HO' := Lib.hid ho'
  clear ho'
  have hm01 : (0 : Int) ≤ (m : Int) + 1 := by omega
  have hwr : IntKind.i64.wrap ((m : Int) + 1) = ((m + 1 : Nat) : Int) := (IntWalk.i64_in _ (by omega)).trans (by omega)
  go_enter Try.func23, Try.ntmps23
  go_wp2_with fail
  refine A.out.mono ?_; rintro e w1 ⟨rfl, rfl⟩
  go_wp2_with fail
  refine wp_region_noPanic ?_
  have K0 := Lib.hid (show Chg [] w w.drew from (Chg.refl _ _).drew)
  have HT := Lib.hid (show SrcIs plC 4 w (.slice (some ⟨g, o, none⟩) m c) (l.take m) from HS.out.head m (by omega))
  have HV := Lib.hid (show SrcIs plC 4 w (.slice (some ⟨g, o', none⟩) (l.length - (m + 1)) (c - (m + 1))) (l.drop (m + 1)) from HS.out.tail (m + 1) (by omega) o' HO'.out)
  have e1 : (l.take m).length = m := by rw [List.length_take]; omega
  have e2 : (l.drop (m + 1)).length = l.length - (m + 1) := List.length_drop
  have E1 := Lib.hid e1
  have E2 := Lib.hid e2
  clear e1 e2
  refine wp_region_held_drew (S := (fun w' => True)) (by kernel_rfl) trivial (fun hHeld => ?_)
  refine wpAnyH_take (i := 1) (oi := _) (v := ?vA_1) rfl (by kernel_rfl) (by kernel_rfl) (by kernel_rfl) (fun _ _ _ h => h) (Or.inl ⟨by rfl, ?yA_1⟩) hHeld ?rA_1
  case yA_1 => (intro w hSw; (try dsimp only at hSw); (try simp only [List.getElem_toArray, List.getElem_cons_zero, List.getElem_cons_succ]); go_simp <;> with_reducible rfl)
  (try simp only [List.getElem_toArray, List.getElem_cons_zero, List.getElem_cons_succ, Act.put, List.setIfInBounds_toArray, List.set_cons_zero, List.set_cons_succ])
  refine wpAnyH_take (i := 2) (oi := _) (v := ?vA_2) rfl (by kernel_rfl) (by kernel_rfl) (by kernel_rfl) (fun _ _ _ h => h) (Or.inl ⟨by rfl, ?yA_2⟩) hHeld ?rA_2
  case yA_2 => (intro w hSw; (try dsimp only at hSw); (try simp only [List.getElem_toArray, List.getElem_cons_zero, List.getElem_cons_succ]); go_simp <;> with_reducible rfl)
  (try simp only [List.getElem_toArray, List.getElem_cons_zero, List.getElem_cons_succ, Act.put, List.setIfInBounds_toArray, List.set_cons_zero, List.set_cons_succ])
  refine wpAnyH_take (i := 3) (oi := _) (v := ?vA_3) rfl (by kernel_rfl) (by kernel_rfl) (by kernel_rfl) (fun _ _ _ h => h) (Or.inl ⟨by rfl, ?yA_3⟩) hHeld ?rA_3
  case yA_3 => (intro w hSw; (try dsimp only at hSw); (try simp only [List.getElem_toArray, List.getElem_cons_zero, List.getElem_cons_succ]); go_simp <;> with_reducible rfl)
  (try simp only [List.getElem_toArray, List.getElem_cons_zero, List.getElem_cons_succ, Act.put, List.setIfInBounds_toArray, List.set_cons_zero, List.set_cons_succ])
  refine wpAnyH_take (i := 5) (oi := _) (v := ?vA_5) rfl (by kernel_rfl) (by kernel_rfl) (by kernel_rfl) (fun _ _ _ h => h) (Or.inl ⟨by rfl, ?yA_5⟩) hHeld ?rA_5
  case yA_5 => (intro w hSw; (try dsimp only at hSw); (try simp only [List.getElem_toArray, List.getElem_cons_zero, List.getElem_cons_succ]); go_simp <;> with_reducible rfl)
  (try simp only [List.getElem_toArray, List.getElem_cons_zero, List.getElem_cons_succ, Act.put, List.setIfInBounds_toArray, List.set_cons_zero, List.set_cons_succ])
  refine wpAnyH_take (i := 6) (oi := _) (v := ?vA_6) rfl (by kernel_rfl) (by kernel_rfl) (by kernel_rfl) (fun _ _ _ h => h) (Or.inl ⟨by rfl, ?yA_6⟩) hHeld ?rA_6
  case yA_6 => (intro w hSw; (try dsimp only at hSw); (try simp only [List.getElem_toArray, List.getElem_cons_zero, List.getElem_cons_succ]); go_simp <;> with_reducible rfl)
  (try simp only [List.getElem_toArray, List.getElem_cons_zero, List.getElem_cons_succ, Act.put, List.setIfInBounds_toArray, List.set_cons_zero, List.set_cons_succ])
  refine wpAnyH_take (i := 7) (oi := _) (v := ?vA_7) rfl (by kernel_rfl) (by kernel_rfl) (by kernel_rfl) (fun _ _ _ h => h) (Or.inl ⟨by rfl, ?yA_7⟩) hHeld ?rA_7
  case yA_7 => (intro w hSw; (try dsimp only at hSw); (try simp only [List.getElem_toArray, List.getElem_cons_zero, List.getElem_cons_succ]); go_simp <;> with_reducible rfl)
  (try simp only [List.getElem_toArray, List.getElem_cons_zero, List.getElem_cons_succ, Act.put, List.setIfInBounds_toArray, List.set_cons_zero, List.set_cons_succ])
  refine wpAnyH_take (i := 8) (oi := _) (v := ?vA_8) rfl (by kernel_rfl) (by kernel_rfl) (by kernel_rfl) (fun _ _ _ h => h) (Or.inl ⟨by rfl, ?yA_8⟩) hHeld ?rA_8
  case yA_8 => (intro w hSw; (try dsimp only at hSw); (try simp only [List.getElem_toArray, List.getElem_cons_zero, List.getElem_cons_succ]); go_simp <;> with_reducible rfl)
  (try simp only [List.getElem_toArray, List.getElem_cons_zero, List.getElem_cons_succ, Act.put, List.setIfInBounds_toArray, List.set_cons_zero, List.set_cons_succ])
  have N1 := Lib.hid (RowOf.empty (cf := plC) (sz := 4) (Nat.le_refl _) (heap_alloc_new w.drew (.cells #[] 25)) rfl)
  have K1 := Lib.hid (K0.out.alloc (.cells #[] 25))
  refine wpAnyH_ready (rs := [0]) (by kernel_rfl) (by simp) ?_
  refine AllReadyH.cons (o := _) rfl (fun K hK => ?_) AllReadyH.nil
  (try simp only [List.getElem_toArray, List.getElem_cons_zero, List.getElem_cons_succ])
  go_simp
  skip
  refine hK.out _ _ ?_ (fun hHeld => ?_)
  exact trivial
  clear hK K
  (try simp only [List.getElem_toArray, List.getElem_cons_zero, List.getElem_cons_succ, Act.put, List.setIfInBounds_toArray, List.set_cons_zero, List.set_cons_succ])
  refine wpAnyH_ready (rs := [4]) (by kernel_rfl) (by simp) ?_
  refine AllReadyH.cons (o := _) rfl (fun K hK => ?_) AllReadyH.nil
  (try simp only [List.getElem_toArray, List.getElem_cons_zero, List.getElem_cons_succ])
  refine step_list rfl ?_
  (refine wpl_appendsX rfl _ _ 23 rfl w.drew.heap.size 25 _ 56 Try.underlying23 plInfo rfl (by decide) plC_len plC_one (.slice (some ⟨w.drew.heap.size, 0, none⟩) 0 0) [] rfl N1.out _ (l.take m) rfl (HT.out.kept K1.out) (by rw [E1.out]; unfold maxLen; simp; omega) (by rw [E1.out]; simp; omega) K1.out.size ?_; intro v5 w5 hr5 hc5; have R5 := Lib.hid hr5; have K5 := Lib.hid (K1.out.then hc5 (by intro y hy hl; have := (N1.out.block y (by simpa using hy)).1; have := K0.out.size; omega)); clear hr5 hc5)
  refine ⟨rfl, hK.out _ _ ?_ (fun hHeld => ?_)⟩
  exact trivial
  clear hK K
  (try simp only [List.getElem_toArray, List.getElem_cons_zero, List.getElem_cons_succ, Act.put, List.setIfInBounds_toArray, List.set_cons_zero, List.set_cons_succ])
  refine wpAnyH_ready (rs := [9]) (by kernel_rfl) (by simp) ?_
  refine AllReadyH.cons (o := _) rfl (fun K hK => ?_) AllReadyH.nil
  (try simp only [List.getElem_toArray, List.getElem_cons_zero, List.getElem_cons_succ])
  refine step_list rfl ?_
  (refine wpl_appendsX rfl _ _ 23 rfl w.drew.heap.size 25 _ 56 Try.underlying23 plInfo rfl (by decide) plC_len plC_one v5 ([] ++ l.take m) rfl R5.out _ (l.drop (m + 1)) rfl (HV.out.kept K5.out) (by rw [List.nil_append, E1.out, E2.out]; unfold maxLen; omega) (by rw [List.nil_append, E1.out, E2.out]; omega) K5.out.size ?_; intro v6 w6 hr6 hc6; have R6 := Lib.hid hr6; have K6 := Lib.hid (K5.out.then hc6 (by intro y hy hl; have := (R5.out.block y (by simpa using hy)).1; have := K0.out.size; omega)); clear hr6 hc6)
  refine ⟨rfl, hK.out _ _ ?_ (fun hHeld => ?_)⟩
  exact trivial
  clear hK K
  (try simp only [List.getElem_toArray, List.getElem_cons_zero, List.getElem_cons_succ, Act.put, List.setIfInBounds_toArray, List.set_cons_zero, List.set_cons_succ])
  refine wpAnyH_take (i := 10) (oi := _) (v := ?vB_10) rfl (by kernel_rfl) (by kernel_rfl) (by kernel_rfl) (fun _ _ _ h => h) (Or.inl ⟨by rfl, ?yB_10⟩) hHeld ?rB_10
  case yB_10 => (intro w hSw; (try dsimp only at hSw); (try simp only [List.getElem_toArray, List.getElem_cons_zero, List.getElem_cons_succ]); go_simp <;> with_reducible rfl)
  (try simp only [List.getElem_toArray, List.getElem_cons_zero, List.getElem_cons_succ, Act.put, List.setIfInBounds_toArray, List.set_cons_zero, List.set_cons_succ])
  refine wpAnyH_take (i := 11) (oi := _) (v := ?vB_11) rfl (by kernel_rfl) (by kernel_rfl) (by kernel_rfl) (fun _ _ _ h => h) (Or.inl ⟨by rfl, ?yB_11⟩) hHeld ?rB_11
  case yB_11 => (intro w hSw; (try dsimp only at hSw); (try simp only [List.getElem_toArray, List.getElem_cons_zero, List.getElem_cons_succ]); go_simp <;> with_reducible rfl)
  (try simp only [List.getElem_toArray, List.getElem_cons_zero, List.getElem_cons_succ, Act.put, List.setIfInBounds_toArray, List.set_cons_zero, List.set_cons_succ])
  refine wpAnyH_done (by kernel_rfl) ?_ _
  refine NoPanic.normal ?_
  go_wp2_with fail
  go_ret2
  exact ⟨v6, rfl, (show RowOf plC 4 w6 w.drew.heap.size 25 v6 (l.take m ++ l.drop (m + 1)) from R6.out).mono K0.out.size, K6.out⟩
end Go.Proofs.Ytjbnfaapkicejaa
