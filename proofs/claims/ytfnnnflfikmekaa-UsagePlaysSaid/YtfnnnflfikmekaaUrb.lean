/- Chapter 52: the reference's sum. No condition. -/
import Derived.Test.YtfnnnflfikmekaaUra
namespace Go.Proofs.Ytfnnnflfikmekaa
set_option linter.unusedVariables false
set_option linter.unusedSimpArgs false
open Go.RowKit
variable {w w' : World} {b : Nat} {v : Value} {s : Led}
def rcB (tn fn : ByteArray) (al : Bool) (p : Int) (fl : Bool) (c : CR) : Bool := c.r.tn == tn && (al || c.r.fn == fn) && c.p == p && c.r.fl == fl
def enO (c : CR) : Obj := .cells #[.string c.r.id, .string c.r.tn, .string c.r.fn, .int .i64 c.r.per, .int .i64 c.r.us.inv, .int .i64 c.r.us.steps, .int .i64 c.r.us.ticks, .int .i64 c.r.us.units, .bool c.r.fl, .int .i64 c.p] 74
theorem rc_cases (tn fn : ByteArray) (al : Bool) (p : Int) (fl : Bool) (c : CR) : ((c.r.tn.toList == tn.toList) = false ∧ rcB tn fn al p fl c = false) ∨ ((c.r.tn.toList == tn.toList) = true ∧ al = false ∧ (c.r.fn.toList == fn.toList) = false ∧ rcB tn fn al p fl c = false) ∨
    ((c.r.tn.toList == tn.toList) = true ∧ (al = true ∨ (al = false ∧ (c.r.fn.toList == fn.toList) = true)) ∧ ((c.p == p) = false ∧ rcB tn fn al p fl c = false ∨ (c.p == p) = true ∧ (c.r.fl == fl) = false ∧ rcB tn fn al p fl c = false ∨ (c.p == p) = true ∧ (c.r.fl == fl) = true ∧ rcB tn fn al p fl c = true)) := by
  unfold rcB
  rw [beq_toListBytes c.r.tn, beq_toListBytes c.r.fn]
  cases c.r.tn.toList == tn.toList <;> cases al <;> cases c.r.fn.toList == fn.toList <;> cases c.p == p <;> cases c.r.fl == fl <;> simp
set_option maxHeartbeats 16000000 in
set_option maxRecDepth 100000 in
theorem rsum_any (tn fn : ByteArray) (al : Bool) (p : Int) (fl : Bool) (h : RIs w b v s) (hl : s.l.length ≤ 4000) :
    Calls Try.prog 43 #[.pointer (some ⟨b, 0, none⟩), .string tn, .string fn, .bool al, .int .i64 p, .bool fl] w fun e w' => e = .returned (.tuple #[usV (sumU (rcB tn fn al p fl) s.l zU).1, .int .i64 (sumU (rcB tn fn al p fl) s.l zU).2]) ∧ Chg [] w w' := by
  obtain ⟨a, cap, rfl⟩ := RowOf.shape h.2
  have H := Lib.hid h
  have hL := fun w' (hc : Chg [] w w') => blk_cell (h.keptN hc).1
  have HL := Lib.hid hL
  obtain ⟨R, hR⟩ : ∃ R, R = sumU (rcB tn fn al p fl) s.l zU := ⟨_, rfl⟩
  rw [← hR]
  obtain ⟨r1, r2⟩ := R
  simp only []
  have HR := Lib.hid hR
  have hcell : ∀ wr, Chg [] w wr → ∀ k (hk : k < s.l.length), ∃ g, a = some ⟨g, 0, none⟩ ∧ g < w.heap.size ∧ ∀ j, j < 10 → wr.cell? ⟨g, k * 10 + j, none⟩ = (crC s.l[k])[j]? := by
    intro wr hc k hk
    rcases RowOf.at (h.keptN hc).2 crLen with ⟨_, hl⟩ | ⟨g, cap', hv, _, _, hcell, _, _, hgl⟩
    · rw [hl] at hk; simp at hk
    · cases hv
      exact ⟨g, rfl, (h.2.block g rfl).2, fun j hj => hcell k hk j hj⟩
  have HCell := Lib.hid hcell
  have hb0 := lt_of_heap h.1
  obtain ⟨W2, hW2⟩ : ∃ W2, W2 = (w.alloc (usO zU)).alloc (usO zU) := ⟨_, rfl⟩
  have hc2 : Chg [] w W2 := by rw [hW2]; exact ((Chg.refl _ _).alloc _).alloc _
  have hx1 : W2.heap[w.heap.size]? = some (usO zU) := by rw [hW2]; exact ((Chg.refl [] (w.alloc (usO zU))).alloc (usO zU)).at (by simp) (heap_alloc_new w (usO zU))
  have hx2 : W2.heap[w.heap.size + 1]? = some (usO zU) := by
    rw [hW2]
    have := heap_alloc_new (w.alloc (usO zU)) (usO zU)
    rw [World.size_alloc] at this
    exact this
  have C2 := Lib.hid hc2
  have X1 := Lib.hid hx1
  have X2 := Lib.hid hx2
  unfold usO zU at hW2
  simp only at hW2
  have HW2 := Lib.hid hW2
  clear h hL hR hc2 hx1 hx2 hW2 hcell
  go_enter Try.func43, Try.ntmps43
  go_wp2_with fail
  go_loopw [16] (fun i wr => ∃ (k : Nat) (u : Us), i = .int .i64 k ∧ k ≤ s.l.length ∧ Hid (sumU (rcB tn fn al p fl) (s.l.drop k) u = (r1, r2)) ∧ Hid (wr.heap[w.heap.size]? = some (usO zU)) ∧ Hid (wr.heap[w.heap.size + 1]? = some (usO u)) ∧ Hid (Chg [] w wr)) (fun i _ => s.l.length - (intOf i).toNat)
  case atStart => rw [← HW2.out]; exact ⟨0, zU, rfl, Nat.zero_le _, Lib.hid HR.out.symm, X1, X2, C2⟩
  case round =>
    obtain ⟨k, u, rfl, hkl, HU, Y1, Y2, D⟩ := hrel
    have cb := HL.out wr D.out
    by_cases hk : k < s.l.length
    · obtain ⟨g, rfl, hgl, hcells⟩ := HCell.out wr D.out k hk
      have d0 := hcells 0 (by omega)
      have d1 := hcells 1 (by omega)
      have d2 := hcells 2 (by omega)
      have d3 := hcells 3 (by omega)
      have d4 := hcells 4 (by omega)
      have d5 := hcells 5 (by omega)
      have d6 := hcells 6 (by omega)
      have d7 := hcells 7 (by omega)
      have d8 := hcells 8 (by omega)
      have d9 := hcells 9 (by omega)
      have hU := HU.out
      rw [drop_step s.l k hk] at hU
      generalize s.l[k] = c at *
      simp only [crC, List.getElem?_cons_zero, List.getElem?_cons_succ, Nat.add_zero] at d0 d1 d2 d3 d4 d5 d6 d7 d8 d9
      have hk0 : (0 : Int) ≤ (k : Int) := by omega
      have hk1 : (k : Int) < (s.l.length : Int) := by omega
      have hc3 : Chg [] wr (wr.alloc (enO c)) := (Chg.refl _ _).alloc _
      have C3 := Lib.hid (D.out.thenSame hc3)
      have V1 := Lib.hid (hc3.at (by simp) Y1.out)
      have V2 := Lib.hid (hc3.at (by simp) Y2.out)
      have e1 := blk_cell Y2.out
      have le1 := lt_of_heap Y2.out
      have hrc := rc_cases tn fn al p fl c
      unfold sumU at hU
      generalize rcB tn fn al p fl c = Cb at *
      unfold enO at C3 V1 V2
      have A := radd_any u c.r.us
      unfold usV at A
      generalize addU u c.r.us = q at *
      obtain ⟨q1, q2⟩ := q
      simp only at hU A
      have HA := Lib.hid A
      clear hc3 hcells A
      rcases hrc with ⟨t1, rfl⟩ | ⟨t1, rfl, t2, rfl⟩ | ⟨t1, t2, ⟨t3, rfl⟩ | ⟨t3, t4, rfl⟩ | ⟨t3, t4, rfl⟩⟩
      case inr.inr.inr.inr =>
        rw [if_pos rfl] at hU
        have hU' := Lib.hid hU
        clear hU
        rcases t2 with rfl | ⟨rfl, t2⟩
        all_goals
          go_wp2_with fail
          refine (HA.out _).mono ?_; rintro e w5 ⟨rfl, hc5⟩
          have C5 := Lib.hid (C3.out.thenSame hc5)
          have U1 := Lib.hid (hc5.at (by simp) V1.out)
          have U2 := Lib.hid (hc5.at (by simp) V2.out)
          have g1 := blk_cell U1.out
          have f1 := blk_free U1.out
          have g2 := blk_cell U2.out
          have f2 := blk_free U2.out
          have lt1 := lt_of_heap U1.out
          have lt2 := lt_of_heap U2.out
          have hU5 := hU'.out
          clear hc5 V1 V2 C3
          by_cases hq : q2 = 0
          · subst hq
            rw [if_pos rfl] at hU5
            have hU6 := Lib.hid hU5
            clear hU5 hU'
            go_wp2_with fail
            refine ⟨⟨k + 1, q1, by go_num, by omega, hU6, ?_, ?_, ?_⟩, by simp [intOf]; omega⟩
            · exact Lib.hid ((four_chg w5 (w.heap.size + 1) _ _ _ _).at (by simp) U1.out)
            · exact Lib.hid (four_at _ _ _ _ U2.out)
            · exact Lib.hid (C5.out.then (four_chg w5 (w.heap.size + 1) _ _ _ _) (by intro y hy hl; simp at hy; omega))
          · rw [if_neg hq] at hU5
            obtain ⟨rfl, rfl⟩ := Prod.mk.inj hU5
            have hq' : (q2 == 0) = false := by simpa using hq
            clear hU5 hU'
            go_wp2_with fail
            have r8 := eight_at q1 zU U2.out U1.out (by omega)
            have hch := eight_chg q1 zU (Nat.le_succ _) (Nat.le_refl _) C5.out
            change bodyPost _ _ _ _ _ (set4 (set4 w5 (w.heap.size + 1) q1) w.heap.size zU)
            generalize set4 (set4 w5 (w.heap.size + 1) q1) w.heap.size zU = wz at r8 hch ⊢
            have r1 := blk_cell r8.2
            unfold zU at r1
            exact bodyPost_ret (v := .tuple #[usV zU, .int .i64 q2]) (by simp [results, Try.results43, go_sem, usV, zU, r1]) rfl ⟨rfl, hch⟩
      all_goals
        rw [if_neg (by decide)] at hU
        have hU' := Lib.hid hU
        clear hU HA
        try rcases t2 with rfl | ⟨rfl, t2⟩
      all_goals
        go_wp2_with fail
        exact ⟨⟨k + 1, u, by go_num, by omega, hU', V1, V2, C3⟩, by simp [intOf]; omega⟩
    · have hks : k = s.l.length := by omega
      subst hks
      have hU := HU.out
      rw [List.drop_length] at hU
      obtain ⟨rfl, rfl⟩ := Prod.mk.inj hU
      have g1 := blk_cell Y1.out
      have g2 := blk_cell Y2.out
      have f1 := blk_free Y1.out
      have lt1 := lt_of_heap Y1.out
      clear hU
      go_wp2_with fail
      have r1 := blk_cell (four_at (.int .i64 u.inv) (.int .i64 u.steps) (.int .i64 u.ticks) (.int .i64 u.units) Y1.out)
      exact bodyPost_ret (v := .tuple #[usV u, .int .i64 0]) (by simp [results, Try.results43, go_sem, usV, r1]) rfl ⟨rfl, by repeat (first | exact D.out | refine Chg.setCell ?_ _ _ (by simp) | refine Chg.alloc ?_ _)⟩
theorem rc_tot (tn fn : ByteArray) (p : Int) : rcB tn fn true p false = totB tn p := by
  funext c
  unfold rcB totB
  cases c.r.fl <;> simp
theorem rc_of (tn fn : ByteArray) (p : Int) (fl : Bool) : rcB tn fn false p fl = ofB tn fn p fl := by
  funext c
  unfold rcB ofB
  simp
end Go.Proofs.Ytfnnnflfikmekaa
