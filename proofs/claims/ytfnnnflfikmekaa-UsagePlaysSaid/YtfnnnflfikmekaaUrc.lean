/- Chapter 52: the reference's Total and ByFunction. No condition. -/
import Derived.Test.YtfnnnflfikmekaaUrb
import Derived.Test.YtfnnnflfikmekaaStepA
namespace Go.Proofs.Ytfnnnflfikmekaa
set_option linter.unusedVariables false
set_option linter.unusedSimpArgs false
open Go.RowKit
variable {w w' : World} {b : Nat} {v : Value} {s : Led}
theorem ask_cases (ns : Bool) (E p : Int) (h : E = if ns = true then (if p < 0 ∨ 1073741824 < p then 2 else 0) else 4) : (ns = false ∧ E = 4) ∨ (ns = true ∧ p < 0 ∧ E = 2) ∨ (ns = true ∧ 0 ≤ p ∧ 1073741824 < p ∧ E = 2) ∨ (ns = true ∧ 0 ≤ p ∧ p ≤ 1073741824 ∧ E = 0) := by
  cases ns
  · exact .inl ⟨rfl, by simpa using h⟩
  · simp only [if_true] at h
    by_cases q1 : p < 0
    · rw [if_pos (.inl q1)] at h; exact .inr (.inl ⟨rfl, q1, h⟩)
    by_cases q2 : 1073741824 < p
    · rw [if_pos (.inr q2)] at h; exact .inr (.inr (.inl ⟨rfl, by omega, q2, h⟩))
    · rw [if_neg (by omega)] at h; exact .inr (.inr (.inr ⟨rfl, by omega, by omega, h⟩))
set_option maxHeartbeats 8000000 in
set_option maxRecDepth 100000 in
theorem rtotal_any (tn : ByteArray) (p : Int) (h : RIs w b v s) (hs : tn.size ≤ maxLen) (hl : s.l.length ≤ 4000) :
    Calls Try.prog 24 #[.pointer (some ⟨b, 0, none⟩), .string tn, .int .i64 p] w fun e w' => e = .returned (.tuple #[usV (totU s tn p).1, .int .i64 (totU s tn p).2]) ∧ Chg [] w w' := by
  obtain ⟨W1, hW1⟩ : ∃ W1, W1 = w.alloc (usO zU) := ⟨_, rfl⟩
  have C1 := Lib.hid (show Chg [] w W1 by rw [hW1]; exact (Chg.refl _ _).alloc _)
  have X1 := Lib.hid (show W1.heap[w.heap.size]? = some (usO zU) by rw [hW1]; exact heap_alloc_new w (usO zU))
  have A1 := Lib.hid (fun w' => rname_any tn w' hs)
  have A2 := rsum_any tn ⟨#[]⟩ true p false (h.keptN C1.out) hl
  rw [rc_tot] at A2
  obtain ⟨R, hR⟩ : ∃ R, R = totU s tn p := ⟨_, rfl⟩
  rw [← hR]
  unfold totU at hR
  generalize sumU (totB tn p) s.l zU = Q at *
  obtain ⟨q1, q2⟩ := Q
  obtain ⟨E, hE⟩ : ∃ E, E = askE [tn] p := ⟨_, rfl⟩
  rw [← hE] at hR
  unfold askE at hE
  simp only [List.all_cons, List.all_nil, Bool.and_true] at hE
  have hcs := ask_cases (nameB tn) E p hE
  unfold usV at A2
  simp only at A2
  have A2 := Lib.hid A2
  rename_i A20
  unfold usO zU at hW1
  simp only at hW1
  have HW1 := Lib.hid hW1
  have HA2 := A2
  clear A20 h hE hW1 A2
  have g1 := blk_cell X1.out
  have f1 := blk_free X1.out
  have lt1 := lt_of_heap X1.out
  rcases hcs with ⟨h1, rfl⟩ | ⟨h1, h2, rfl⟩ | ⟨h1, h2, h3, rfl⟩ | ⟨h1, h2, h3, rfl⟩
  case inr.inr.inr =>
    rw [if_pos rfl] at hR
    subst hR
    go_enter Try.func24, Try.ntmps24
    go_wp2_with fail
    rw [← HW1.out]
    refine (A1.out _).mono ?_; rw [h1]; rintro e w2 ⟨rfl, rfl⟩
    go_wp2_with fail
    clear g1 f1 lt1
    refine HA2.out.mono ?_; rintro e w3 ⟨rfl, hc3⟩
    have Y3 := Lib.hid (hc3.at (by simp) X1.out)
    have D3 := Lib.hid (C1.out.thenSame hc3)
    have g1 := blk_cell Y3.out
    have f1 := blk_free Y3.out
    have lt1 := lt_of_heap Y3.out
    clear hc3 HA2
    go_wp2_with fail
    have r1 := blk_cell (four_at (.int .i64 q1.inv) (.int .i64 q1.steps) (.int .i64 q1.ticks) (.int .i64 q1.units) Y3.out)
    exact bodyPost_ret (v := .tuple #[usV q1, .int .i64 q2]) (by simp [results, Try.results24, go_sem, usV, r1]) rfl ⟨rfl, by repeat (first | exact D3.out | refine Chg.setCell ?_ _ _ (by simp) | refine Chg.alloc ?_ _)⟩
  all_goals
    rw [if_neg (by decide)] at hR
    subst hR
    clear HA2
    go_enter Try.func24, Try.ntmps24
    go_wp2_with fail
    rw [← HW1.out]
    refine (A1.out _).mono ?_; rw [h1]; rintro e w2 ⟨rfl, rfl⟩
    go_wp2_with fail
    have r1 := blk_cell (four_at (.int .i64 0) (.int .i64 0) (.int .i64 0) (.int .i64 0) X1.out)
    refine bodyPost_ret (v := .tuple #[usV zU, .int .i64 _]) (by simp [results, Try.results24, go_sem, usV, zU, r1]) rfl ⟨rfl, by repeat (first | exact C1.out | refine Chg.setCell ?_ _ _ (by simp) | refine Chg.alloc ?_ _)⟩
set_option maxHeartbeats 8000000 in
set_option maxRecDepth 100000 in
theorem rbyf_any (tn fn : ByteArray) (p : Int) (h : RIs w b v s) (hs : tn.size ≤ maxLen) (hs' : fn.size ≤ maxLen) (hl : s.l.length ≤ 4000) :
    Calls Try.prog 26 #[.pointer (some ⟨b, 0, none⟩), .string tn, .string fn, .int .i64 p] w fun e w' => e = .returned (.tuple #[usV (byU s tn fn p).1, usV (byU s tn fn p).2.1, .int .i64 (byU s tn fn p).2.2]) ∧ Chg [] w w' := by
  obtain ⟨W1, hW1⟩ : ∃ W1, W1 = (w.alloc (usO zU)).alloc (usO zU) := ⟨_, rfl⟩
  have C1 := Lib.hid (show Chg [] w W1 by rw [hW1]; exact ((Chg.refl _ _).alloc _).alloc _)
  have X1 := Lib.hid (show W1.heap[w.heap.size]? = some (usO zU) by rw [hW1]; exact blk_alloc (heap_alloc_new w (usO zU)))
  have X2 := Lib.hid (show W1.heap[w.heap.size + 1]? = some (usO zU) by
    rw [hW1]
    have := heap_alloc_new (w.alloc (usO zU)) (usO zU)
    rw [World.size_alloc] at this
    exact this)
  have A1 := Lib.hid (fun w' => rname_any tn w' hs)
  have A1' := Lib.hid (fun w' => rname_any fn w' hs')
  have A2 := Lib.hid (fun w' (hc : Chg [] W1 w') => rsum_any tn fn false p false (h.keptN (C1.out.thenSame hc)) hl)
  have A3 := Lib.hid (fun w' (hc : Chg [] W1 w') => rsum_any tn fn false p true (h.keptN (C1.out.thenSame hc)) hl)
  rw [rc_of] at A2 A3
  obtain ⟨R, hR⟩ : ∃ R, R = byU s tn fn p := ⟨_, rfl⟩
  rw [← hR]
  unfold byU at hR
  generalize sumU (ofB tn fn p false) s.l zU = Q at *
  generalize sumU (ofB tn fn p true) s.l zU = Q' at *
  obtain ⟨q1, q2⟩ := Q
  obtain ⟨r1, r2⟩ := Q'
  obtain ⟨E, hE⟩ : ∃ E, E = askE [tn, fn] p := ⟨_, rfl⟩
  rw [← hE] at hR
  unfold askE at hE
  simp only [List.all_cons, List.all_nil, Bool.and_true] at hE
  have hcs := ask_cases (nameB tn && nameB fn) E p hE
  unfold usV at A2 A3
  simp only at A2 A3 hR
  unfold usO zU at hW1
  simp only at hW1
  have HW1 := Lib.hid hW1
  have g1 := blk_cell X1.out
  have f1 := blk_free X1.out
  have lt1 := lt_of_heap X1.out
  have g2 := blk_cell X2.out
  have f2 := blk_free X2.out
  have lt2 := lt_of_heap X2.out
  clear h hE hW1
  have hcs' : (nameB tn = false ∧ E = 4) ∨ (nameB tn = true ∧ nameB fn = false ∧ E = 4) ∨ (nameB tn = true ∧ nameB fn = true ∧ p < 0 ∧ E = 2) ∨ (nameB tn = true ∧ nameB fn = true ∧ 0 ≤ p ∧ 1073741824 < p ∧ E = 2) ∨ (nameB tn = true ∧ nameB fn = true ∧ 0 ≤ p ∧ p ≤ 1073741824 ∧ E = 0) := by
    cases h1 : nameB tn <;> cases h2 : nameB fn <;> rw [h1, h2] at hcs <;> simp at hcs ⊢ <;> omega
  clear hcs
  rcases hcs' with ⟨h1, rfl⟩ | ⟨h1, h1', rfl⟩ | ⟨h1, h1', h2, rfl⟩ | ⟨h1, h1', h2, h3, rfl⟩ | ⟨h1, h1', h2, h3, rfl⟩
  case inr.inr.inr.inr =>
    rw [if_pos rfl] at hR
    go_enter Try.func26, Try.ntmps26
    go_wp2_with (first
      | (rw [← HW1.out]; (go_at_call 42; (with_reducible refine (A1.out _).mono ?_); rw [h1]; rintro e w2 ⟨rfl, rfl⟩))
      | (go_at_call 42; (with_reducible refine (A1'.out _).mono ?_); rw [h1']; rintro e w2 ⟨rfl, rfl⟩))
    clear g1 f1 lt1 g2 f2 lt2
    refine (A2.out W1 (Chg.refl _ _)).mono ?_; rintro e w7 ⟨rfl, hc7⟩
    have C7 := Lib.hid hc7
    have D7 := Lib.hid (C1.out.thenSame hc7)
    have V4 := Lib.hid (hc7.at (by simp) X1.out)
    have V5 := Lib.hid (hc7.at (by simp) X2.out)
    have g4 := blk_cell V4.out
    have f4 := blk_free V4.out
    have lt4 := lt_of_heap V4.out
    have g5 := blk_cell V5.out
    have f5 := blk_free V5.out
    have lt5 := lt_of_heap V5.out
    clear hc7 X1 X2
    by_cases hq : q2 = 0
    case neg =>
      rw [if_neg hq] at hR
      subst hR
      have hq' : (q2 == 0) = false := by simpa using hq
      go_wp2_with fail
      have r8 := eight_at zU zU V4.out V5.out (by omega)
      have hch := eight_chg zU zU (Nat.le_refl _) (Nat.le_succ _) D7.out
      change bodyPost _ _ _ _ _ ((set4 (set4 w7 w.heap.size zU) (w.heap.size + 1) zU).alloc _)
      generalize set4 (set4 w7 w.heap.size zU) (w.heap.size + 1) zU = wz at r8 hch ⊢
      have r4 := blk_cell r8.1
      have r5 := blk_cell r8.2
      have l4 := lt_of_heap r8.1
      have l5 := lt_of_heap r8.2
      unfold zU at r4 r5
      exact bodyPost_ret (v := .tuple #[usV zU, usV zU, .int .i64 q2]) (by simp [results, Try.results26, go_sem, usV, zU, r4, r5, l4, l5]) rfl ⟨rfl, by first | exact hch | exact hch.alloc _⟩
    rw [if_pos hq] at hR
    subst hq
    go_wp2_with fail
    have C8 := Lib.hid (C7.out.alloc (usO q1))
    have D8 := Lib.hid (D7.out.alloc (usO q1))
    have Z8 := Lib.hid (heap_alloc_new w7 (usO q1))
    have S4 := Lib.hid (blk_alloc (o' := usO q1) V4.out)
    have S5 := Lib.hid (blk_alloc (o' := usO q1) V5.out)
    unfold usO at C8 D8 Z8 S4 S5
    have hu7 := lt5
    generalize w7.alloc (.cells #[.int .i64 q1.inv, .int .i64 q1.steps, .int .i64 q1.ticks, .int .i64 q1.units] 28) = W8 at *
    generalize w7.heap.size = u7 at *
    clear g4 f4 lt4 g5 f5 lt5 V4 V5
    refine (A3.out W8 C8.out).mono ?_; rintro e w10 ⟨rfl, hc10⟩
    have D10 := Lib.hid (D8.out.thenSame hc10)
    have Z10 := Lib.hid (hc10.at (by simp) Z8.out)
    have V4 := Lib.hid (show w10.heap[w.heap.size]? = some (usO zU) from hc10.at (by simp) S4.out)
    have V5 := Lib.hid (show w10.heap[w.heap.size + 1]? = some (usO zU) from hc10.at (by simp) S5.out)
    have g4 := blk_cell V4.out
    have f4 := blk_free V4.out
    have lt4 := lt_of_heap V4.out
    have g5 := blk_cell V5.out
    have f5 := blk_free V5.out
    have lt5 := lt_of_heap V5.out
    clear hc10 Z8 S4 S5
    by_cases hq : r2 = 0
    case neg =>
      rw [if_neg hq] at hR
      subst hR
      have hq' : (r2 == 0) = false := by simpa using hq
      go_wp2_with fail
      have r8 := eight_at zU zU V4.out V5.out (by omega)
      have hch := eight_chg zU zU (Nat.le_refl _) (Nat.le_succ _) D10.out
      change bodyPost _ _ _ _ _ ((set4 (set4 w10 w.heap.size zU) (w.heap.size + 1) zU).alloc _)
      generalize set4 (set4 w10 w.heap.size zU) (w.heap.size + 1) zU = wz at r8 hch ⊢
      have r4 := blk_cell r8.1
      have r5 := blk_cell r8.2
      have l4 := lt_of_heap r8.1
      have l5 := lt_of_heap r8.2
      unfold zU at r4 r5
      exact bodyPost_ret (v := .tuple #[usV zU, usV zU, .int .i64 r2]) (by simp [results, Try.results26, go_sem, usV, zU, r4, r5, l4, l5]) rfl ⟨rfl, by first | exact hch | exact hch.alloc _⟩
    rw [if_pos hq] at hR
    subst hq
    go_wp2_with fail
    have D11 := Lib.hid (D10.out.alloc (usO r1))
    have Z11 := Lib.hid (blk_alloc (o' := usO r1) Z10.out)
    have R11 := Lib.hid (heap_alloc_new w10 (usO r1))
    have V4' := Lib.hid (blk_alloc (o' := usO r1) V4.out)
    have V5' := Lib.hid (blk_alloc (o' := usO r1) V5.out)
    unfold usO at D11 Z11 R11 V4' V5'
    have hu10 := lt5
    clear g4 f4 lt4 g5 f5 lt5 Z10 V4 V5
    generalize w10.alloc (.cells #[.int .i64 r1.inv, .int .i64 r1.steps, .int .i64 r1.ticks, .int .i64 r1.units] 28) = W11 at *
    generalize w10.heap.size = u10 at *
    have g4 := blk_cell V4'.out
    have f4 := blk_free V4'.out
    have f5 := blk_free V5'.out
    have g5 := blk_cell V5'.out
    have z7 := blk_cell Z11.out
    have z10 := blk_cell R11.out
    have l7 := lt_of_heap Z11.out
    have l10 := lt_of_heap R11.out
    have n1 : u7 ≠ w.heap.size := by omega
    have n2 : u7 ≠ w.heap.size + 1 := by omega
    have n3 : u10 ≠ w.heap.size := by omega
    have n4 : u10 ≠ w.heap.size + 1 := by omega
    go_region_law (fail)
    all_goals
      go_wp2_with fail
      have r8 := eight_at q1 r1 V4'.out V5'.out (by omega)
      have hch := (eight_chg q1 r1 (Nat.le_refl _) (Nat.le_succ _) D11.out).drew
      have r8' := (Chg.refl [] (set4 (set4 W11 w.heap.size q1) (w.heap.size + 1) r1)).drew.at (by simp) r8.1
      have r9' := (Chg.refl [] (set4 (set4 W11 w.heap.size q1) (w.heap.size + 1) r1)).drew.at (by simp) r8.2
      change bodyPost _ _ _ _ _ (set4 (set4 W11 w.heap.size q1) (w.heap.size + 1) r1).drew
      clear r8
      generalize (set4 (set4 W11 w.heap.size q1) (w.heap.size + 1) r1).drew = wz at r8' r9' hch ⊢
      have r4 := blk_cell r8'
      have r5 := blk_cell r9'
      have l4 := lt_of_heap r8'
      have l5 := lt_of_heap r9'
      subst hR
      exact bodyPost_ret (v := .tuple #[usV q1, usV r1, .int .i64 0]) (by simp [results, Try.results26, go_sem, usV, r4, r5, l4, l5]) rfl ⟨rfl, hch⟩
  all_goals
    rw [if_neg (by decide)] at hR
    subst hR
    go_enter Try.func26, Try.ntmps26
    go_wp2_with (first
      | (rw [← HW1.out]; (go_at_call 42; (with_reducible refine (A1.out _).mono ?_); rw [h1]; rintro e w2 ⟨rfl, rfl⟩))
      | (go_at_call 42; (with_reducible refine (A1'.out _).mono ?_); rw [h1']; rintro e w2 ⟨rfl, rfl⟩))
    have r8 := eight_at zU zU X1.out X2.out (by omega)
    have hch := eight_chg zU zU (Nat.le_refl _) (Nat.le_succ _) C1.out
    change bodyPost _ _ _ _ _ (set4 (set4 W1 w.heap.size zU) (w.heap.size + 1) zU)
    generalize set4 (set4 W1 w.heap.size zU) (w.heap.size + 1) zU = wz at r8 hch ⊢
    have r4 := blk_cell r8.1
    have r5 := blk_cell r8.2
    unfold zU at r4 r5
    first
      | exact bodyPost_ret (v := .tuple #[usV zU, usV zU, .int .i64 4]) (by simp [results, Try.results26, go_sem, usV, zU, r4, r5]) rfl ⟨rfl, hch⟩
      | exact bodyPost_ret (v := .tuple #[usV zU, usV zU, .int .i64 2]) (by simp [results, Try.results26, go_sem, usV, zU, r4, r5]) rfl ⟨rfl, hch⟩
end Go.Proofs.Ytfnnnflfikmekaa
