/- Chapter 52: the reference's ledger: New, Check, Period, Len, Close. No condition. Chapter 52: the reference's sum. No condition. -/
import Derived.Test.YtehjalgogjkdlaaGreatDoorZ21
namespace Go.Proofs.YtehjalgogjkdlaaGreatDoor
set_option linter.unusedVariables false
set_option linter.unusedSimpArgs false
open Go.RowKit
def RIs (w : World) (b : Nat) (v : Value) (s : Led) : Prop := w.heap[b]? = some (.cells #[.int .i64 s.p, v] 108 (0, 0)) ∧ RowOf crC 10 w 0 110 v s.l
variable {w w' : World} {b : Nat} {v : Value} {s : Led}
theorem RIs.kept {S : List Nat} (h : RIs w b v s) (hc : Chg S w w') (hS : ∀ x ∈ b :: v.ownBlock.toList, x ∉ S) : RIs w' b v s :=
  ⟨hc.at (hS _ (by simp)) h.1, h.2.kept hc (fun g hg => hS g (by simp [hg]))⟩
theorem RIs.keptN (h : RIs w b v s) (hc : Chg [] w w') : RIs w' b v s := h.kept hc (by simp)
theorem RIs.apart (h : RIs w b v s) : v.ownBlock ≠ some b := fun e => by
  obtain ⟨cur, hh⟩ := row_block h.2 e
  rw [h.1] at hh; simp at hh
def JR (b : Nat) (s : Led) : List Nat → World → Prop := fun f w => ∃ v, f = b :: v.ownBlock.toList ∧ RIs w b v s
theorem sideR (b : Nat) (s : Led) : Side (JR b s) := by
  constructor
  · rintro f w ⟨v, rfl, h⟩ x hx
    rcases List.mem_cons.1 hx with rfl | hx
    · exact lt_of_heap h.1
    · exact (h.2.block x (by simpa using hx)).2
  · rintro f S w w' ⟨v, rfl, h⟩ hc hS
    exact ⟨v, rfl, h.kept hc hS⟩
theorem rnew_any (w : World) : Calls Tryz.prog 43 #[] w fun e w' => ∃ b, e = .returned (.pointer (some ⟨b, 0, none⟩)) ∧ RIs w' b (.slice none 0 0) ⟨[], 0⟩ ∧ w.heap.size ≤ b ∧ Chg [] w w' := by
  go_enter Tryz.func43, Tryz.ntmps43
  go_wp2
  go_ret
  exact ⟨w.heap.size, rfl, ⟨heap_alloc_new _ _, RowOf.nil _ _ _⟩, Nat.le_refl _, (Chg.refl _ _).alloc _⟩
theorem rclose_any (p : Int) (h : RIs w b v s) : Calls Tryz.prog 46 #[.pointer (some ⟨b, 0, none⟩), .int .i64 p] w fun e w' => e = .returned (.int .i64 (closeE s p)) ∧ RIs w' b v (closeS s p) ∧ Chg [b] w w' := by
  have H := Lib.hid h
  have c := blk_cell h.1
  have f := blk_free h.1
  clear h
  obtain ⟨R, hR⟩ : ∃ R, R = closeE s p := ⟨_, rfl⟩
  obtain ⟨S', hS⟩ : ∃ S', S' = closeS s p := ⟨_, rfl⟩
  rw [← hR, ← hS]
  unfold closeE at hR
  unfold closeS at hS
  by_cases h1 : p < 0
  · rw [if_pos (.inl h1)] at hR hS
    subst hR hS
    go_enter Tryz.func46, Tryz.ntmps46
    go_wp2_with fail
    go_ret
    exact ⟨rfl, H.out, Chg.refl _ _⟩
  by_cases h2 : 1073741824 ≤ p
  · rw [if_pos (.inr h2)] at hR hS
    subst hR hS
    go_enter Tryz.func46, Tryz.ntmps46
    go_wp2_with fail
    go_ret
    exact ⟨rfl, H.out, Chg.refl _ _⟩
  rw [if_neg (by omega)] at hR hS
  by_cases h3 : p = s.p
  · rw [if_neg (by simpa using h3)] at hR hS
    subst hR hS
    obtain ⟨L, P⟩ := s
    simp only [] at *
    subst h3
    go_enter Tryz.func46, Tryz.ntmps46
    go_wp2_with fail
    go_ret
    exact ⟨rfl, ⟨blk_set H.out.1 0 _, H.out.2.kept (S := [b]) ((Chg.refl _ _).setCell _ _ (by simp)) (fun g hg e => H.out.apart (by rw [hg]; simpa using e))⟩, (Chg.refl _ _).setCell _ _ (by simp)⟩
  · rw [if_pos h3] at hR hS
    have b3 : (p == s.p) = false := by simpa using h3
    subst hR hS
    go_enter Tryz.func46, Tryz.ntmps46
    go_wp2_with fail
    go_ret
    exact ⟨rfl, H.out, Chg.refl _ _⟩
set_option maxHeartbeats 8000000 in
set_option maxRecDepth 100000 in
theorem rcheck_any (r : UR) (hg : r.good) (w : World) : Calls Tryz.prog 73 #[urV r] w fun e w' => e = .returned (.int .i64 (checkR r)) ∧ Chg [] w w' := by
  have hbx := Lib.hid (heap_alloc_new w (urO r))
  have hC0 := Lib.hid (show Chg [] w (w.alloc (urO r)) from (Chg.refl _ _).alloc _)
  have k1 := blk_cell hbx.out
  have A1 := Lib.hid (fun w' => RID_any r.id w' hg.1)
  have A2 := Lib.hid (fun w' => rname_any r.tn w' hg.2.1)
  have A3 := Lib.hid (fun w' => rname_any r.fn w' hg.2.2.1)
  have A4 := Lib.hid (fun w' => rvalid_any r.us w')
  unfold usV at A4
  obtain ⟨W1, hW1⟩ : ∃ W1, W1 = w.alloc (urO r) := ⟨_, rfl⟩
  rw [← hW1] at hbx hC0 k1
  unfold urO at hW1 hbx
  have HW1 := Lib.hid hW1
  obtain ⟨R, hR⟩ : ∃ R, R = checkR r := ⟨_, rfl⟩
  rw [← hR]
  have hcs : (idB r.id = false ∧ R = 4) ∨ (idB r.id = true ∧ nameB r.tn = false ∧ R = 4) ∨ (idB r.id = true ∧ nameB r.tn = true ∧ nameB r.fn = false ∧ R = 4) ∨ (idB r.id = true ∧ nameB r.tn = true ∧ nameB r.fn = true ∧ r.per < 0 ∧ R = 2) ∨ (idB r.id = true ∧ nameB r.tn = true ∧ nameB r.fn = true ∧ 0 ≤ r.per ∧ 1073741824 < r.per ∧ R = 2) ∨ (idB r.id = true ∧ nameB r.tn = true ∧ nameB r.fn = true ∧ 0 ≤ r.per ∧ r.per ≤ 1073741824 ∧ usB r.us = false ∧ R = 2) ∨ (idB r.id = true ∧ nameB r.tn = true ∧ nameB r.fn = true ∧ 0 ≤ r.per ∧ r.per ≤ 1073741824 ∧ usB r.us = true ∧ R = 0) := by
    unfold checkR at hR
    cases h1 : idB r.id
    · rw [h1] at hR; exact .inl ⟨rfl, by simpa using hR⟩
    cases h2 : nameB r.tn
    · rw [h1, h2] at hR; exact .inr (.inl ⟨rfl, rfl, by simpa using hR⟩)
    cases h3 : nameB r.fn
    · rw [h1, h2, h3] at hR; exact .inr (.inr (.inl ⟨rfl, rfl, rfl, by simpa using hR⟩))
    rw [h1, h2, h3] at hR
    simp only [Bool.and_self, if_true] at hR
    by_cases q1 : r.per < 0
    · rw [if_pos (.inl q1)] at hR; exact .inr (.inr (.inr (.inl ⟨rfl, rfl, rfl, q1, hR⟩)))
    by_cases q2 : 1073741824 < r.per
    · rw [if_pos (.inr q2)] at hR; exact .inr (.inr (.inr (.inr (.inl ⟨rfl, rfl, rfl, by omega, q2, hR⟩))))
    rw [if_neg (by omega)] at hR
    cases h4 : usB r.us
    · rw [h4] at hR; exact .inr (.inr (.inr (.inr (.inr (.inl ⟨rfl, rfl, rfl, by omega, by omega, rfl, by simpa using hR⟩)))))
    · rw [h4] at hR; exact .inr (.inr (.inr (.inr (.inr (.inr ⟨rfl, rfl, rfl, by omega, by omega, rfl, by simpa using hR⟩)))))
  clear hR hW1 hg
  unfold urV
  rcases hcs with ⟨h1, rfl⟩ | ⟨h1, h2, rfl⟩ | ⟨h1, h2, h3, rfl⟩ | ⟨h1, h2, h3, q1, rfl⟩ | ⟨h1, h2, h3, q1, q2, rfl⟩ | ⟨h1, h2, h3, q1, q2, h4, rfl⟩ | ⟨h1, h2, h3, q1, q2, h4, rfl⟩
  all_goals
    go_enter Tryz.func73, Tryz.ntmps73
    go_wp2_with (first | (rw [← HW1.out]; (go_at_call 99; (with_reducible refine (A1.out _).mono ?_); rw [h1]; rintro e w2 ⟨rfl, rfl⟩)) | (go_at_call 38; (with_reducible refine (A2.out _).mono ?_); rw [h2]; rintro e w3 ⟨rfl, rfl⟩) | (go_at_call 38; (with_reducible refine (A3.out _).mono ?_); rw [h3]; rintro e w4 ⟨rfl, rfl⟩) | (go_at_call 39; (with_reducible refine (A4.out _).mono ?_); rw [h4]; rintro e w5 ⟨rfl, hc5⟩; have C5 := Lib.hid (hC0.out.thenSame hc5); clear hc5))
    go_ret
    exact ⟨rfl, by first | exact C5.out | exact hC0.out⟩
end Go.Proofs.YtehjalgogjkdlaaGreatDoor

namespace Go.Proofs.YtehjalgogjkdlaaGreatDoor
set_option linter.unusedVariables false
set_option linter.unusedSimpArgs false
open Go.RowKit
variable {w w' : World} {b : Nat} {v : Value} {s : Led}
def rcB (tn fn : ByteArray) (al : Bool) (p : Int) (fl : Bool) (c : CR) : Bool := c.r.tn == tn && (al || c.r.fn == fn) && c.p == p && c.r.fl == fl
def enO (c : CR) : Obj := .cells #[.string c.r.id, .string c.r.tn, .string c.r.fn, .int .i64 c.r.per, .int .i64 c.r.us.inv, .int .i64 c.r.us.steps, .int .i64 c.r.us.ticks, .int .i64 c.r.us.units, .bool c.r.fl, .int .i64 c.p] 110
theorem rc_cases (tn fn : ByteArray) (al : Bool) (p : Int) (fl : Bool) (c : CR) : ((c.r.tn.toList == tn.toList) = false ∧ rcB tn fn al p fl c = false) ∨ ((c.r.tn.toList == tn.toList) = true ∧ al = false ∧ (c.r.fn.toList == fn.toList) = false ∧ rcB tn fn al p fl c = false) ∨
    ((c.r.tn.toList == tn.toList) = true ∧ (al = true ∨ (al = false ∧ (c.r.fn.toList == fn.toList) = true)) ∧ ((c.p == p) = false ∧ rcB tn fn al p fl c = false ∨ (c.p == p) = true ∧ (c.r.fl == fl) = false ∧ rcB tn fn al p fl c = false ∨ (c.p == p) = true ∧ (c.r.fl == fl) = true ∧ rcB tn fn al p fl c = true)) := by
  unfold rcB
  rw [beq_toListBytes c.r.tn, beq_toListBytes c.r.fn]
  cases c.r.tn.toList == tn.toList <;> cases al <;> cases c.r.fn.toList == fn.toList <;> cases c.p == p <;> cases c.r.fl == fl <;> simp
set_option maxHeartbeats 16000000 in
set_option maxRecDepth 100000 in
theorem rsum_any (tn fn : ByteArray) (al : Bool) (p : Int) (fl : Bool) (h : RIs w b v s) (hl : s.l.length ≤ 4000) :
    Calls Tryz.prog 84 #[.pointer (some ⟨b, 0, none⟩), .string tn, .string fn, .bool al, .int .i64 p, .bool fl] w fun e w' => e = .returned (.tuple #[usV (sumU (rcB tn fn al p fl) s.l zU).1, .int .i64 (sumU (rcB tn fn al p fl) s.l zU).2]) ∧ Chg [] w w' := by
  obtain ⟨a, cap, rfl⟩ := RowOf.shape h.2
  have H := Lib.hid h
  have hL := fun w' (hc : Chg [] w w') => blk_cell (h.keptN hc).1
  have HL := Lib.hid hL
  obtain ⟨R, hR⟩ : ∃ R, R = sumU (rcB tn fn al p fl) s.l zU := ⟨_, rfl⟩
  rw [← hR]
  obtain ⟨r1, r2⟩ := R
  simp only []
  have HR := Lib.hid hR
  have hcell : ∀ wr, Chg [] w wr → ∀ k (hk : k < s.l.length), ∃ g, a = some ⟨g, 0, none⟩ ∧ g < w.heap.size ∧ ∀ j, j < 10 → wr.cell? ⟨g, k * 10 + j, none⟩ = (crC s.l[k])[j]? := by
    intro wr hc k hk
    rcases RowOf.at (h.keptN hc).2 crLen with ⟨_, hl⟩ | ⟨g, cap', hv, _, _, hcell, _, _, hgl⟩
    · rw [hl] at hk; simp at hk
    · cases hv
      exact ⟨g, rfl, (h.2.block g rfl).2, fun j hj => hcell k hk j hj⟩
  have HCell := Lib.hid hcell
  have hb0 := lt_of_heap h.1
  obtain ⟨W2, hW2⟩ : ∃ W2, W2 = (w.alloc (usO zU)).alloc (usO zU) := ⟨_, rfl⟩
  have hc2 : Chg [] w W2 := by rw [hW2]; exact ((Chg.refl _ _).alloc _).alloc _
  have hx1 : W2.heap[w.heap.size]? = some (usO zU) := by rw [hW2]; exact ((Chg.refl [] (w.alloc (usO zU))).alloc (usO zU)).at (by simp) (heap_alloc_new w (usO zU))
  have hx2 : W2.heap[w.heap.size + 1]? = some (usO zU) := by
    rw [hW2]
    have := heap_alloc_new (w.alloc (usO zU)) (usO zU)
    rw [World.size_alloc] at this
    exact this
  have C2 := Lib.hid hc2
  have X1 := Lib.hid hx1
  have X2 := Lib.hid hx2
  unfold usO zU at hW2
  simp only at hW2
  have HW2 := Lib.hid hW2
  clear h hL hR hc2 hx1 hx2 hW2 hcell
  go_enter Tryz.func84, Tryz.ntmps84
  go_wp2_with fail
  go_loopw [16] (fun i wr => ∃ (k : Nat) (u : Us), i = .int .i64 k ∧ k ≤ s.l.length ∧ Hid (sumU (rcB tn fn al p fl) (s.l.drop k) u = (r1, r2)) ∧ Hid (wr.heap[w.heap.size]? = some (usO zU)) ∧ Hid (wr.heap[w.heap.size + 1]? = some (usO u)) ∧ Hid (Chg [] w wr)) (fun i _ => s.l.length - (intOf i).toNat)
  case atStart => rw [← HW2.out]; exact ⟨0, zU, rfl, Nat.zero_le _, Lib.hid HR.out.symm, X1, X2, C2⟩
  case round =>
    obtain ⟨k, u, rfl, hkl, HU, Y1, Y2, D⟩ := hrel
    have cb := HL.out wr D.out
    by_cases hk : k < s.l.length
    · obtain ⟨g, rfl, hgl, hcells⟩ := HCell.out wr D.out k hk
      have d0 := hcells 0 (by omega)
      have d1 := hcells 1 (by omega)
      have d2 := hcells 2 (by omega)
      have d3 := hcells 3 (by omega)
      have d4 := hcells 4 (by omega)
      have d5 := hcells 5 (by omega)
      have d6 := hcells 6 (by omega)
      have d7 := hcells 7 (by omega)
      have d8 := hcells 8 (by omega)
      have d9 := hcells 9 (by omega)
      have hU := HU.out
      rw [drop_step s.l k hk] at hU
      generalize s.l[k] = c at *
      simp only [crC, List.getElem?_cons_zero, List.getElem?_cons_succ, Nat.add_zero] at d0 d1 d2 d3 d4 d5 d6 d7 d8 d9
      have hk0 : (0 : Int) ≤ (k : Int) := by omega
      have hk1 : (k : Int) < (s.l.length : Int) := by omega
      have hc3 : Chg [] wr (wr.alloc (enO c)) := (Chg.refl _ _).alloc _
      have C3 := Lib.hid (D.out.thenSame hc3)
      have V1 := Lib.hid (hc3.at (by simp) Y1.out)
      have V2 := Lib.hid (hc3.at (by simp) Y2.out)
      have e1 := blk_cell Y2.out
      have le1 := lt_of_heap Y2.out
      have hrc := rc_cases tn fn al p fl c
      unfold sumU at hU
      generalize rcB tn fn al p fl c = Cb at *
      unfold enO at C3 V1 V2
      have A := radd_any u c.r.us
      unfold usV at A
      generalize addU u c.r.us = q at *
      obtain ⟨q1, q2⟩ := q
      simp only at hU A
      have HA := Lib.hid A
      clear hc3 hcells A
      rcases hrc with ⟨t1, rfl⟩ | ⟨t1, rfl, t2, rfl⟩ | ⟨t1, t2, ⟨t3, rfl⟩ | ⟨t3, t4, rfl⟩ | ⟨t3, t4, rfl⟩⟩
      case inr.inr.inr.inr =>
        rw [if_pos rfl] at hU
        have hU' := Lib.hid hU
        clear hU
        rcases t2 with rfl | ⟨rfl, t2⟩
        all_goals
          go_wp2_with fail
          refine (HA.out _).mono ?_; rintro e w5 ⟨rfl, hc5⟩
          have C5 := Lib.hid (C3.out.thenSame hc5)
          have U1 := Lib.hid (hc5.at (by simp) V1.out)
          have U2 := Lib.hid (hc5.at (by simp) V2.out)
          have g1 := blk_cell U1.out
          have f1 := blk_free U1.out
          have g2 := blk_cell U2.out
          have f2 := blk_free U2.out
          have lt1 := lt_of_heap U1.out
          have lt2 := lt_of_heap U2.out
          have hU5 := hU'.out
          clear hc5 V1 V2 C3
          by_cases hq : q2 = 0
          · subst hq
            rw [if_pos rfl] at hU5
            have hU6 := Lib.hid hU5
            clear hU5 hU'
            go_wp2_with fail
            refine ⟨⟨k + 1, q1, by go_num, by omega, hU6, ?_, ?_, ?_⟩, by simp [intOf]; omega⟩
            · exact Lib.hid ((four_chg w5 (w.heap.size + 1) _ _ _ _).at (by simp) U1.out)
            · exact Lib.hid (four_at _ _ _ _ U2.out)
            · exact Lib.hid (C5.out.then (four_chg w5 (w.heap.size + 1) _ _ _ _) (by intro y hy hl; simp at hy; omega))
          · rw [if_neg hq] at hU5
            obtain ⟨rfl, rfl⟩ := Prod.mk.inj hU5
            have hq' : (q2 == 0) = false := by simpa using hq
            clear hU5 hU'
            go_wp2_with fail
            have r8 := eight_at q1 zU U2.out U1.out (by omega)
            have hch := eight_chg q1 zU (Nat.le_succ _) (Nat.le_refl _) C5.out
            change bodyPost _ _ _ _ _ (set4 (set4 w5 (w.heap.size + 1) q1) w.heap.size zU)
            generalize set4 (set4 w5 (w.heap.size + 1) q1) w.heap.size zU = wz at r8 hch ⊢
            have r1 := blk_cell r8.2
            unfold zU at r1
            exact bodyPost_ret (v := .tuple #[usV zU, .int .i64 q2]) (by simp [results, Tryz.results84, go_sem, usV, zU, r1]) rfl ⟨rfl, hch⟩
      all_goals
        rw [if_neg (by decide)] at hU
        have hU' := Lib.hid hU
        clear hU HA
        try rcases t2 with rfl | ⟨rfl, t2⟩
      all_goals
        go_wp2_with fail
        exact ⟨⟨k + 1, u, by go_num, by omega, hU', V1, V2, C3⟩, by simp [intOf]; omega⟩
    · have hks : k = s.l.length := by omega
      subst hks
      have hU := HU.out
      rw [List.drop_length] at hU
      obtain ⟨rfl, rfl⟩ := Prod.mk.inj hU
      have g1 := blk_cell Y1.out
      have g2 := blk_cell Y2.out
      have f1 := blk_free Y1.out
      have lt1 := lt_of_heap Y1.out
      clear hU
      go_wp2_with fail
      have r1 := blk_cell (four_at (.int .i64 u.inv) (.int .i64 u.steps) (.int .i64 u.ticks) (.int .i64 u.units) Y1.out)
      exact bodyPost_ret (v := .tuple #[usV u, .int .i64 0]) (by simp [results, Tryz.results84, go_sem, usV, r1]) rfl ⟨rfl, by repeat (first | exact D.out | refine Chg.setCell ?_ _ _ (by simp) | refine Chg.alloc ?_ _)⟩
theorem rc_tot (tn fn : ByteArray) (p : Int) : rcB tn fn true p false = totB tn p := by
  funext c
  unfold rcB totB
  cases c.r.fl <;> simp
theorem rc_of (tn fn : ByteArray) (p : Int) (fl : Bool) : rcB tn fn false p fl = ofB tn fn p fl := by
  funext c
  unfold rcB ofB
  simp
end Go.Proofs.YtehjalgogjkdlaaGreatDoor
