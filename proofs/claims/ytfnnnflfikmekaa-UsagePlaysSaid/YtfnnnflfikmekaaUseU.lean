/- Chapter 52: ByFunction. No condition. -/
import Derived.Test.YtfnnnflfikmekaaUseP
import Derived.Test.YtfnnnflfikmekaaStepA
namespace Go.Proofs.Ytfnnnflfikmekaa
set_option linter.unusedVariables false
set_option linter.unusedSimpArgs false
open Go.RowKit
variable {w w' : World} {b mb : Nat} {v : Value} {s : Led}
theorem mkf_any (fl : Bool) (p1 p2 p3 : Value) (w : World) : Calls Try.prog 44 #[.bool fl, p1, p2, p3] w fun e w' => e = .returned (.func (.func 45) #[] #[p1, p2, p3, .pointer (some ⟨w.heap.size, 0, none⟩)]) ∧ w' = w.alloc (.cells #[.bool fl] 4) := by
  go_enter Try.func44, Try.ntmps44
  go_wp2
  go_ret
  exact ⟨rfl, rfl⟩
def byU (s : Led) (tn fn : ByteArray) (p : Int) : Us × Us × Int :=
  if askE [tn, fn] p = 0 then
    (if (sumU (ofB tn fn p false) s.l zU).2 = 0 then
      (if (sumU (ofB tn fn p true) s.l zU).2 = 0 then ((sumU (ofB tn fn p false) s.l zU).1, (sumU (ofB tn fn p true) s.l zU).1, 0) else (zU, zU, (sumU (ofB tn fn p true) s.l zU).2))
    else (zU, zU, (sumU (ofB tn fn p false) s.l zU).2))
  else (zU, zU, askE [tn, fn] p)
theorem alloc5 (w : World) (o1 o2 o3 o4 o5 : Obj) : (((((w.alloc o1).alloc o2).alloc o3).alloc o4).alloc o5).heap[w.heap.size]? = some o1 ∧ (((((w.alloc o1).alloc o2).alloc o3).alloc o4).alloc o5).heap[w.heap.size + 1]? = some o2 ∧ (((((w.alloc o1).alloc o2).alloc o3).alloc o4).alloc o5).heap[w.heap.size + 1 + 1]? = some o3 ∧ (((((w.alloc o1).alloc o2).alloc o3).alloc o4).alloc o5).heap[w.heap.size + 1 + 1 + 1]? = some o4 ∧ (((((w.alloc o1).alloc o2).alloc o3).alloc o4).alloc o5).heap[w.heap.size + 1 + 1 + 1 + 1]? = some o5 := by
  obtain ⟨h1, h2, h3⟩ := alloc3 w o1 o2 o3
  refine ⟨blk_alloc (blk_alloc h1), blk_alloc (blk_alloc h2), blk_alloc (blk_alloc h3), blk_alloc ?_, ?_⟩
  · have := heap_alloc_new (((w.alloc o1).alloc o2).alloc o3) o4
    simp only [World.size_alloc] at this
    exact this
  · have := heap_alloc_new ((((w.alloc o1).alloc o2).alloc o3).alloc o4) o5
    simp only [World.size_alloc] at this
    exact this
def set4 (w : World) (q : Nat) (u : Us) : World := (((w.setCell ⟨q, 0, none⟩ (.int .i64 u.inv)).setCell ⟨q, 1, none⟩ (.int .i64 u.steps)).setCell ⟨q, 2, none⟩ (.int .i64 u.ticks)).setCell ⟨q, 3, none⟩ (.int .i64 u.units)
theorem eight_at {w : World} {p q : Nat} {x y : Us} (x' y' : Us) (hp : w.heap[p]? = some (usO x)) (hq : w.heap[q]? = some (usO y)) (hne : p ≠ q) : (set4 (set4 w p x') q y').heap[p]? = some (usO x') ∧ (set4 (set4 w p x') q y').heap[q]? = some (usO y') :=
  ⟨(four_chg (set4 w p x') q _ _ _ _).at (by simpa using hne) (four_at _ _ _ _ hp), four_at _ _ _ _ ((four_chg w p _ _ _ _).at (by simpa using fun e => hne e.symm) hq)⟩
theorem eight_chg {w w5 : World} {p q : Nat} (u x : Us) (hp : w.heap.size ≤ p) (hq : w.heap.size ≤ q) (hc : Chg [] w w5) : Chg [] w (set4 (set4 w5 p u) q x) :=
  (hc.then (four_chg w5 p _ _ _ _) (by intro y hy hl; simp at hy; omega)).then (four_chg (set4 w5 p u) q _ _ _ _) (by intro y hy hl; simp at hy; omega)
theorem two_cells {W W' : World} {S : List Nat} {u7 u10 : Nat} {x y : Us} (hc : Chg S W W') (h7 : W.heap[u7]? = some (usO x)) (h10 : W.heap[u10]? = some (usO y)) (n7 : u7 ∉ S) (n10 : u10 ∉ S) :
    W'.cell? ⟨u7, 0, none⟩ = some (.int .i64 x.inv) ∧ W'.cell? ⟨u7, 1, none⟩ = some (.int .i64 x.steps) ∧ W'.cell? ⟨u7, 2, none⟩ = some (.int .i64 x.ticks) ∧ W'.cell? ⟨u7, 3, none⟩ = some (.int .i64 x.units) ∧ W'.cell? ⟨u10, 0, none⟩ = some (.int .i64 y.inv) ∧ W'.cell? ⟨u10, 1, none⟩ = some (.int .i64 y.steps) ∧ W'.cell? ⟨u10, 2, none⟩ = some (.int .i64 y.ticks) ∧ W'.cell? ⟨u10, 3, none⟩ = some (.int .i64 y.units) := by
  have a := blk_cell (hc.at n7 h7)
  have b := blk_cell (hc.at n10 h10)
  exact ⟨a 0, a 1, a 2, a 3, b 0, b 1, b 2, b 3⟩
set_option maxHeartbeats 8000000 in
set_option maxRecDepth 100000 in
theorem byf_any (tn fn : ByteArray) (p : Int) (h : LIs w b mb v s) (hs : tn.size ≤ maxLen) (hs' : fn.size ≤ maxLen) (hl : s.l.length ≤ 4000) :
    Calls Try.prog 25 #[.pointer (some ⟨b, 0, none⟩), .string tn, .string fn, .int .i64 p] w fun e w' => e = .returned (.tuple #[usV (byU s tn fn p).1, usV (byU s tn fn p).2.1, .int .i64 (byU s tn fn p).2.2]) ∧ Chg [] w w' := by
  obtain ⟨W3, hW3⟩ : ∃ W3, W3 = ((((w.alloc (.cells #[.string tn] 9)).alloc (.cells #[.string fn] 9)).alloc (.cells #[.int .i64 p] 3)).alloc (usO zU)).alloc (usO zU) := ⟨_, rfl⟩
  have hc3 : Chg [] w W3 := by rw [hW3]; exact (((((Chg.refl _ _).alloc _).alloc _).alloc _).alloc _).alloc _
  obtain ⟨hx1, hx2, hx3, hx4, hx5⟩ := alloc5 w (.cells #[.string tn] 9) (.cells #[.string fn] 9) (.cells #[.int .i64 p] 3) (usO zU) (usO zU)
  rw [← hW3] at hx1 hx2 hx3 hx4 hx5
  have C3 := Lib.hid hc3
  have X1 := Lib.hid hx1
  have X2 := Lib.hid hx2
  have X3 := Lib.hid hx3
  have X4 := Lib.hid hx4
  have X5 := Lib.hid hx5
  have y1 := blk_cell hx1
  have y2 := blk_cell hx2
  have y3 := blk_cell hx3
  have H := Lib.hid h
  unfold usO zU at hW3
  simp only at hW3
  have HW3 := Lib.hid hW3
  obtain ⟨W4, hW4⟩ : ∃ W4, W4 = W3.alloc (.cells #[.string tn, .string fn] 9) := ⟨_, rfl⟩
  have hc4 : Chg [] W3 W4 := by rw [hW4]; exact (Chg.refl _ _).alloc _
  have hz3 : W3.heap.size = w.heap.size + 1 + 1 + 1 + 1 + 1 := by rw [hW3]; simp
  have hx6 : W4.heap[w.heap.size + 1 + 1 + 1 + 1 + 1]? = some (.cells #[.string tn, .string fn] 9) := by rw [hW4, ← hz3]; exact heap_alloc_new _ _
  have C4 := Lib.hid (hc3.thenSame hc4)
  have HC4 := Lib.hid hc4
  have HW4 := Lib.hid hW4
  have hn4 : ∀ k (hk : k < [tn, fn].length), W4.cell? ⟨w.heap.size + 1 + 1 + 1 + 1 + 1, k, none⟩ = some (.string [tn, fn][k]) := by
    intro k hk
    match k, hk with
    | 0, _ => rw [blk_cell hx6]; rfl
    | 1, _ => rw [blk_cell hx6]; rfl
  have A1 := asked_any [tn, fn] p (w.heap.size + 1 + 1 + 1 + 1 + 1) 2 (H.out.keptN C4.out) (lt_of_heap hx6) hn4 (by intro x hx; simp at hx; rcases hx with rfl | rfl <;> assumption) (by simp)
  rw [show [tn, fn].length = 2 from rfl] at A1
  clear hn4
  obtain ⟨R, hR⟩ : ∃ R, R = byU s tn fn p := ⟨_, rfl⟩
  rw [← hR]
  unfold byU at hR
  have hsum : ∀ fl w' u, Chg [] W3 w' → u < w'.heap.size → w'.heap[u]? = some (.cells #[.bool fl] 4) → Calls Try.prog 37 #[.pointer (some ⟨b, 0, none⟩), .func (.func 45) #[] #[.pointer (some ⟨w.heap.size, 0, none⟩), .pointer (some ⟨w.heap.size + 1, 0, none⟩), .pointer (some ⟨w.heap.size + 1 + 1, 0, none⟩), .pointer (some ⟨u, 0, none⟩)]] w' fun e w'' => e = .returned (.tuple #[usV (sumU (ofB tn fn p fl) s.l zU).1, .int .i64 (sumU (ofB tn fn p fl) s.l zU).2]) ∧ Chg [] w' w'' := fun fl w' u hc hu hub =>
    sum_of (ofB tn fn p fl) _ _ _ _ (H.out.keptN (C3.out.thenSame hc)) hl fun c w'' hc' => by
      have z1 := (hc.thenSame hc').at (by simp) X1.out
      have z2 := (hc.thenSame hc').at (by simp) X2.out
      have z3 := (hc.thenSame hc').at (by simp) X3.out
      have z4 := hc'.at (by simp) hub
      exact off_any c _ _ _ _ tn fn p fl w'' (by rw [blk_cell z1]; rfl) (by rw [blk_cell z2]; rfl) (by rw [blk_cell z3]; rfl) (by rw [blk_cell z4]; rfl) (lt_of_heap z1) (lt_of_heap z2) (lt_of_heap z3) (lt_of_heap z4)
  have HS0 := Lib.hid (hsum false)
  have HS1 := Lib.hid (hsum true)
  generalize askE [tn, fn] p = E at *
  generalize sumU (ofB tn fn p false) s.l zU = Q at *
  generalize sumU (ofB tn fn p true) s.l zU = Q' at *
  obtain ⟨q1, q2⟩ := Q
  obtain ⟨r1, r2⟩ := Q'
  unfold usV at HS0 HS1
  simp only at HS0 HS1 hR
  have A1 := Lib.hid A1
  rename_i A10
  clear A10 h hc3 hx1 hx2 hx3 hx4 hx5 hW3 hW4 hc4 hx6 hsum hz3
  go_enter Try.func25, Try.ntmps25
  go_wp2_with fail
  rw [← HW3.out]
  go_wp2_with fail
  rw [← HW4.out]
  refine A1.out.mono ?_; rintro e w5 ⟨rfl, hc5⟩
  have C5 := Lib.hid (HC4.out.thenSame hc5)
  have D5 := Lib.hid (C3.out.thenSame C5.out)
  have Y4 := Lib.hid (C5.out.at (by simp) X4.out)
  have Y5 := Lib.hid (C5.out.at (by simp) X5.out)
  have g4 := blk_cell Y4.out
  have f4 := blk_free Y4.out
  have lt4 := lt_of_heap Y4.out
  have g5 := blk_cell Y5.out
  have f5 := blk_free Y5.out
  have lt5 := lt_of_heap Y5.out
  clear hc5 A1
  by_cases hE : E = 0
  · rw [if_pos hE] at hR
    subst hE
    go_wp2_with fail
    refine (mkf_any _ _ _ _ _).mono ?_; rintro e w6 ⟨rfl, rfl⟩
    have C6 := Lib.hid (C5.out.alloc (.cells #[.bool false] 4))
    have D6 := Lib.hid (D5.out.alloc (.cells #[.bool false] 4))
    have B6 := Lib.hid (heap_alloc_new w5 (.cells #[.bool false] 4))
    have U4 := Lib.hid (blk_alloc (o' := .cells #[.bool false] 4) Y4.out)
    have U5 := Lib.hid (blk_alloc (o' := .cells #[.bool false] 4) Y5.out)
    generalize w5.heap.size = u5 at *
    generalize w5.alloc (.cells #[.bool false] 4) = W6 at *
    clear g4 f4 lt4 g5 f5 lt5 Y4 Y5
    go_wp2_with fail
    refine (HS0.out W6 u5 C6.out (lt_of_heap B6.out) B6.out).mono ?_; rintro e w7 ⟨rfl, hc7⟩
    have C7 := Lib.hid (C6.out.thenSame hc7)
    have D7 := Lib.hid (D6.out.thenSame hc7)
    have V4 := Lib.hid (hc7.at (by simp) U4.out)
    have V5 := Lib.hid (hc7.at (by simp) U5.out)
    have g4 := blk_cell V4.out
    have f4 := blk_free V4.out
    have lt4 := lt_of_heap V4.out
    have g5 := blk_cell V5.out
    have f5 := blk_free V5.out
    have lt5 := lt_of_heap V5.out
    clear hc7 B6 U4 U5 HS0
    by_cases hq : q2 = 0
    case neg =>
      rw [if_neg hq] at hR
      subst hR
      have hq' : (q2 == 0) = false := by simpa using hq
      go_wp2_with fail
      have r8 := eight_at zU zU V4.out V5.out (by omega)
      have hch := eight_chg zU zU (Nat.le_trans (by omega) (Nat.le_refl (w.heap.size + 1 + 1 + 1))) (Nat.le_trans (by omega) (Nat.le_refl (w.heap.size + 1 + 1 + 1 + 1))) D7.out
      change bodyPost _ _ _ _ _ ((set4 (set4 w7 (w.heap.size + 1 + 1 + 1) zU) (w.heap.size + 1 + 1 + 1 + 1) zU).alloc _)
      generalize set4 (set4 w7 (w.heap.size + 1 + 1 + 1) zU) (w.heap.size + 1 + 1 + 1 + 1) zU = wz at r8 hch ⊢
      have r4 := blk_cell r8.1
      have r5 := blk_cell r8.2
      have l4 := lt_of_heap r8.1
      have l5 := lt_of_heap r8.2
      unfold zU at r4 r5
      exact bodyPost_ret (v := .tuple #[usV zU, usV zU, .int .i64 q2]) (by simp [results, Try.results25, go_sem, usV, zU, r4, r5, l4, l5]) rfl ⟨rfl, by first | exact hch | exact hch.alloc _⟩
    rw [if_pos hq] at hR
    subst hq
    go_wp2_with fail
    have C8 := Lib.hid (C7.out.alloc (usO q1))
    have D8 := Lib.hid (D7.out.alloc (usO q1))
    have Z8 := Lib.hid (heap_alloc_new w7 (usO q1))
    have S4 := Lib.hid (blk_alloc (o' := usO q1) V4.out)
    have S5 := Lib.hid (blk_alloc (o' := usO q1) V5.out)
    unfold usO at C8 D8 Z8 S4 S5
    have hu7 := lt5
    generalize w7.alloc (.cells #[.int .i64 q1.inv, .int .i64 q1.steps, .int .i64 q1.ticks, .int .i64 q1.units] 28) = W8 at *
    generalize w7.heap.size = u7 at *
    clear g4 f4 lt4 g5 f5 lt5 V4 V5
    refine (mkf_any _ _ _ _ _).mono ?_; rintro e w9 ⟨rfl, rfl⟩
    have C9 := Lib.hid (C8.out.alloc (.cells #[.bool true] 4))
    have D9 := Lib.hid (D8.out.alloc (.cells #[.bool true] 4))
    have B9 := Lib.hid (heap_alloc_new W8 (.cells #[.bool true] 4))
    have Z9 := Lib.hid (blk_alloc (o' := .cells #[.bool true] 4) Z8.out)
    have U4 := Lib.hid (blk_alloc (o' := .cells #[.bool true] 4) S4.out)
    have U5 := Lib.hid (blk_alloc (o' := .cells #[.bool true] 4) S5.out)
    generalize W8.heap.size = u8 at *
    generalize W8.alloc (.cells #[.bool true] 4) = W9 at *
    clear Z8 S4 S5
    go_wp2_with fail
    refine (HS1.out W9 u8 C9.out (lt_of_heap B9.out) B9.out).mono ?_; rintro e w10 ⟨rfl, hc10⟩
    have D10 := Lib.hid (D9.out.thenSame hc10)
    have Z10 := Lib.hid (hc10.at (by simp) Z9.out)
    have V4 := Lib.hid (show w10.heap[w.heap.size + 1 + 1 + 1]? = some (usO zU) from hc10.at (by simp) U4.out)
    have V5 := Lib.hid (show w10.heap[w.heap.size + 1 + 1 + 1 + 1]? = some (usO zU) from hc10.at (by simp) U5.out)
    have g4 := blk_cell V4.out
    have f4 := blk_free V4.out
    have lt4 := lt_of_heap V4.out
    have g5 := blk_cell V5.out
    have f5 := blk_free V5.out
    have lt5 := lt_of_heap V5.out
    have z10 := blk_cell Z10.out
    have ltz := lt_of_heap Z10.out
    clear hc10 B9 Z9 U4 U5 HS1
    by_cases hq : r2 = 0
    case neg =>
      rw [if_neg hq] at hR
      subst hR
      have hq' : (r2 == 0) = false := by simpa using hq
      go_wp2_with fail
      have r8 := eight_at zU zU V4.out V5.out (by omega)
      have hch := eight_chg zU zU (Nat.le_trans (by omega) (Nat.le_refl (w.heap.size + 1 + 1 + 1))) (Nat.le_trans (by omega) (Nat.le_refl (w.heap.size + 1 + 1 + 1 + 1))) D10.out
      change bodyPost _ _ _ _ _ ((set4 (set4 w10 (w.heap.size + 1 + 1 + 1) zU) (w.heap.size + 1 + 1 + 1 + 1) zU).alloc _)
      generalize set4 (set4 w10 (w.heap.size + 1 + 1 + 1) zU) (w.heap.size + 1 + 1 + 1 + 1) zU = wz at r8 hch ⊢
      have r4 := blk_cell r8.1
      have r5 := blk_cell r8.2
      have l4 := lt_of_heap r8.1
      have l5 := lt_of_heap r8.2
      unfold zU at r4 r5
      exact bodyPost_ret (v := .tuple #[usV zU, usV zU, .int .i64 r2]) (by simp [results, Try.results25, go_sem, usV, zU, r4, r5, l4, l5]) rfl ⟨rfl, by first | exact hch | exact hch.alloc _⟩
    rw [if_pos hq] at hR
    subst hq
    go_wp2_with fail
    have D11 := Lib.hid (D10.out.alloc (usO r1))
    have Z11 := Lib.hid (blk_alloc (o' := usO r1) Z10.out)
    have R11 := Lib.hid (heap_alloc_new w10 (usO r1))
    have V4' := Lib.hid (blk_alloc (o' := usO r1) V4.out)
    have V5' := Lib.hid (blk_alloc (o' := usO r1) V5.out)
    unfold usO at D11 Z11 R11 V4' V5'
    have hu10 := lt5
    clear g4 f4 lt4 g5 f5 lt5 z10 ltz Z10 V4 V5 y1 y2 y3
    generalize w10.alloc (.cells #[.int .i64 r1.inv, .int .i64 r1.steps, .int .i64 r1.ticks, .int .i64 r1.units] 28) = W11 at *
    generalize w10.heap.size = u10 at *
    have g4 := blk_cell V4'.out
    have f4 := blk_free V4'.out
    have f5 := blk_free V5'.out
    have g5 := blk_cell V5'.out
    have z7 := blk_cell Z11.out
    have z10 := blk_cell R11.out
    have l7 := lt_of_heap Z11.out
    have l10 := lt_of_heap R11.out
    have n1 : u7 ≠ w.heap.size + 1 + 1 + 1 := by omega
    have n2 : u7 ≠ w.heap.size + 1 + 1 + 1 + 1 := by omega
    have n3 : u10 ≠ w.heap.size + 1 + 1 + 1 := by omega
    have n4 : u10 ≠ w.heap.size + 1 + 1 + 1 + 1 := by omega
    go_region_law (fail)
    all_goals
      go_wp2_with fail
      have r8 := eight_at q1 r1 V4'.out V5'.out (by omega)
      have hch := (eight_chg q1 r1 (Nat.le_trans (by omega) (Nat.le_refl (w.heap.size + 1 + 1 + 1))) (Nat.le_trans (by omega) (Nat.le_refl (w.heap.size + 1 + 1 + 1 + 1))) D11.out).drew
      have r8' := (Chg.refl [] (set4 (set4 W11 (w.heap.size + 1 + 1 + 1) q1) (w.heap.size + 1 + 1 + 1 + 1) r1)).drew.at (by simp) r8.1
      have r9' := (Chg.refl [] (set4 (set4 W11 (w.heap.size + 1 + 1 + 1) q1) (w.heap.size + 1 + 1 + 1 + 1) r1)).drew.at (by simp) r8.2
      change bodyPost _ _ _ _ _ (set4 (set4 W11 (w.heap.size + 1 + 1 + 1) q1) (w.heap.size + 1 + 1 + 1 + 1) r1).drew
      clear r8
      generalize (set4 (set4 W11 (w.heap.size + 1 + 1 + 1) q1) (w.heap.size + 1 + 1 + 1 + 1) r1).drew = wz at r8' r9' hch ⊢
      have r4 := blk_cell r8'
      have r5 := blk_cell r9'
      have l4 := lt_of_heap r8'
      have l5 := lt_of_heap r9'
      subst hR
      exact bodyPost_ret (v := .tuple #[usV q1, usV r1, .int .i64 0]) (by simp [results, Try.results25, go_sem, usV, r4, r5, l4, l5]) rfl ⟨rfl, hch⟩
  · rw [if_neg hE] at hR
    subst hR
    have hE' : (E == 0) = false := by simpa using hE
    go_wp2_with fail
    have r8 := eight_at zU zU Y4.out Y5.out (by omega)
    have hch := eight_chg zU zU (Nat.le_trans (by omega) (Nat.le_refl (w.heap.size + 1 + 1 + 1))) (Nat.le_trans (by omega) (Nat.le_refl (w.heap.size + 1 + 1 + 1 + 1))) D5.out
    change bodyPost _ _ _ _ _ (set4 (set4 w5 (w.heap.size + 1 + 1 + 1) zU) (w.heap.size + 1 + 1 + 1 + 1) zU)
    generalize set4 (set4 w5 (w.heap.size + 1 + 1 + 1) zU) (w.heap.size + 1 + 1 + 1 + 1) zU = wz at r8 hch ⊢
    have r4 := blk_cell r8.1
    have r5 := blk_cell r8.2
    have l4 := lt_of_heap r8.1
    have l5 := lt_of_heap r8.2
    unfold zU at r4 r5
    exact bodyPost_ret (v := .tuple #[usV zU, usV zU, .int .i64 E]) (by simp [results, Try.results25, go_sem, usV, zU, r4, r5, l4, l5]) rfl ⟨rfl, by first | exact hch | exact hch.alloc _⟩
end Go.Proofs.Ytfnnnflfikmekaa
