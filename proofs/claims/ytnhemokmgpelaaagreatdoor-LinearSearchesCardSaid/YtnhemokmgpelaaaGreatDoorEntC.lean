/- Chapter 48: contracts: the four steps. No condition. -/
import Derived.Test.YtnhemokmgpelaaaGreatDoorEntB
import Derived.Test.YtnhemokmgpelaaaGreatDoorNumA
namespace Go.Proofs.YtnhemokmgpelaaaGreatDoor
set_option linter.unusedVariables false
set_option linter.unusedSimpArgs false
open Go.RowKit
def stL : List (ByteArray × Nat) := [(opRead, 66), (opWrite, 67), (opAdd, 68), (opCas, 69)]
def stV (x : ByteArray × Nat) : Value := .func (.func x.2) #[] #[]
theorem stL_puts : putL Prod.fst (putL Prod.fst (putL Prod.fst (putL Prod.fst ([] : List (ByteArray × Nat)) (opRead, 66)) (opWrite, 67)) (opAdd, 68)) (opCas, 69) = stL := by kernel_rfl
set_option maxHeartbeats 4000000 in
set_option maxRecDepth 100000 in
theorem steps_any (w : World) : Calls Tryz.prog 48 #[] w fun e w' => e = .returned (.map (some w.heap.size)) ∧ MapIs Prod.fst stV w' w.heap.size stL ∧ Chg [] w w' := by
  have M := Lib.hid (mapIs_new (kf := Prod.fst) (vf := stV) w)
  have C := Lib.hid ((Chg.refl [w.heap.size] w).alloc (.map #[] 0))
  have hmm := @run_makeMap Tryz.prog
  go_enter Tryz.func48, Tryz.ntmps48
  go_wp2_with (first
    | (refine wpl_insert _ rfl _ _ _ 82 rfl 9 81 Tryz.underlying82 Tryz.underlying9 w.heap.size _ rfl M.out ((opRead, 66) : ByteArray × Nat) rfl rfl ?_; intro w1 hm1 hc1 hs1; have M := Lib.hid hm1; have C := Lib.hid (C.out.thenSame hc1); clear hm1 hc1 hs1)
    | (refine wpl_insert _ rfl _ _ _ 82 rfl 9 81 Tryz.underlying82 Tryz.underlying9 w.heap.size _ rfl M.out ((opWrite, 67) : ByteArray × Nat) rfl rfl ?_; intro w1 hm1 hc1 hs1; have M := Lib.hid hm1; have C := Lib.hid (C.out.thenSame hc1); clear hm1 hc1 hs1)
    | (refine wpl_insert _ rfl _ _ _ 82 rfl 9 81 Tryz.underlying82 Tryz.underlying9 w.heap.size _ rfl M.out ((opAdd, 68) : ByteArray × Nat) rfl rfl ?_; intro w1 hm1 hc1 hs1; have M := Lib.hid hm1; have C := Lib.hid (C.out.thenSame hc1); clear hm1 hc1 hs1)
    | (refine wpl_insert _ rfl _ _ _ 82 rfl 9 81 Tryz.underlying82 Tryz.underlying9 w.heap.size _ rfl M.out ((opCas, 69) : ByteArray × Nat) rfl rfl ?_; intro w1 hm1 hc1 hs1; have M := Lib.hid hm1; have C := Lib.hid (C.out.thenSame hc1); clear hm1 hc1 hs1))
  go_ret
  have M := M.out
  rw [stL_puts] at M
  exact ⟨rfl, M, C.out.mono (by intro x hx hlt; simp at hx; omega)⟩
theorem zeroSt (w : World) : (zeroValue 81).run Tryz.prog w = .ok .nilFunc w := by kernel_rfl
def ansW (w : World) (b : Nat) (e : Int) (a : Option Addr) (n c : Nat) : World := (w.setCell ⟨b, 0, none⟩ (.int .i64 e)).setCell ⟨b, 1, none⟩ (.slice a n c)
theorem ans_two {w : World} {b : Nat} {x y : Value} (hb : w.heap[b]? = some (.cells #[x, y] 38 (0, 0))) (e : Int) (a : Option Addr) (n c : Nat) :
    (ansW w b e a n c).heap[b]? = some (.cells #[.int .i64 e, .slice a n c] 38 (0, 0)) ∧ Chg [b] w (ansW w b e a n c) :=
  ⟨blk_set (blk_set hb 0 _) 1 _, ((Chg.refl _ _).setCell _ _ (by simp)).setCell _ _ (by simp)⟩
/-- A slice that came in, in a world where a block that holds none of it has turned. -/
theorem SlIs.keptN {α : Type} {cf : α → List Value} {sz : Nat} {w w' : World} {a : Option Addr} {len : Nat} {l : List α} {S : List Nat} (h : SlIs cf sz w a len l) (hc : Chg S w w') (hn : ∀ x, a = some x → x.block ∉ S) : SlIs cf sz w' a len l :=
  ⟨h.1, fun k hk => by
    obtain ⟨b, off, h1, h2, h3⟩ := h.2 k hk
    refine ⟨b, off, h1, hc.lt h2, fun j hj => ?_⟩
    rw [← h3 j hj]
    exact World.cell?_of_block (w := w) (hc.block b h2 (hn _ h1))⟩
theorem InIs.keptN {α : Type} {cf : α → List Value} {sz : Nat} {w w' : World} {a : Option Addr} {c : Nat} {l : List α} {S : List Nat} (h : InIs cf sz w a c l) (hc : Chg S w w') (hn : ∀ x, a = some x → x.block ∉ S) : InIs cf sz w' a c l := ⟨h.1.keptN hc hn, h.2⟩
/-- What a step leaves. -/
def StepP (w : World) (sa : Option Addr) (r : List Ce × Int × List Ce) (e : Ending) (w' : World) : Prop :=
  ∃ na nc va vc, e = .returned (.tuple #[.slice na r.1.length nc, .agg #[.int .i64 r.2.1, .slice va r.2.2.length vc]]) ∧ InIs ceC 4 w' na nc r.1 ∧ InIs ceC 4 w' va vc r.2.2 ∧ (∀ x, (na = some x → sa = some x ∨ w.heap.size ≤ x.block) ∧ (va = some x → w.heap.size ≤ x.block)) ∧ Chg [] w w'
theorem stepP_end {w w1 : World} {b : Nat} {x y : Value} {r : List Ce × Int × List Ce} {na va sa : Option Addr} {nc vc : Nat} (hfr : ∀ x, na = some x → sa = some x ∨ w.heap.size ≤ x.block) (hfv : ∀ x, va = some x → w.heap.size ≤ x.block) (hb : w1.heap[b]? = some (.cells #[x, y] 38 (0, 0))) (hlt : w.heap.size ≤ b) (hc : Chg [] w w1)
    (hn : Chg [] w (ansW w1 b r.2.1 va r.2.2.length vc) → Chg [b] w1 (ansW w1 b r.2.1 va r.2.2.length vc) → InIs ceC 4 (ansW w1 b r.2.1 va r.2.2.length vc) na nc r.1)
    (hv : Chg [b] w1 (ansW w1 b r.2.1 va r.2.2.length vc) → InIs ceC 4 (ansW w1 b r.2.1 va r.2.2.length vc) va vc r.2.2) :
    StepP w sa r (.returned (.tuple #[.slice na r.1.length nc, .agg #[.int .i64 r.2.1, .slice va r.2.2.length vc]])) (ansW w1 b r.2.1 va r.2.2.length vc) := by
  have hz := (ans_two hb r.2.1 va r.2.2.length vc).2
  have hall : Chg [] w (ansW w1 b r.2.1 va r.2.2.length vc) := hc.then hz (by intro x hx hlt; simp at hx; omega)
  exact ⟨na, nc, va, vc, rfl, hn hall hz, hv hz, fun x => ⟨hfr x, hfv x⟩, hall⟩
theorem InIs.nil {w : World} : InIs ceC 4 w none 0 [] := ⟨⟨rfl, fun k hk => by simp at hk⟩, Nat.le_refl _, Nat.zero_le _, fun _ => rfl⟩
set_option maxHeartbeats 4000000 in
set_option maxRecDepth 100000 in
theorem step1_any (sa : Option Addr) (sc : Nat) (st : List Ce) (va : Value) (w : World) (h : InIs ceC 4 w sa sc st) (hl : st.length ≤ 1048576) :
    Calls Tryz.prog 66 #[.slice sa st.length sc, va] w (StepP w sa (st, 0, st)) := by
  have C1 := Lib.hid ((Chg.refl [] w).alloc (.cells #[.int .i64 0, .slice none 0 0] 38))
  have B1 := Lib.hid (heap_alloc_new w (.cells #[.int .i64 0, .slice none 0 0] 38))
  have hs := World.size_alloc w (.cells #[.int .i64 0, .slice none 0 0] 38)
  obtain ⟨W1, hW1⟩ : ∃ W1, W1 = w.alloc (.cells #[.int .i64 0, .slice none 0 0] 38) := ⟨_, rfl⟩
  rw [← hW1] at C1 B1 hs
  have H := Lib.hid h
  have k := blk_cell B1.out
  have f := blk_free B1.out
  have HS := Lib.hid hs
  have HW1 := Lib.hid hW1
  clear h hW1 hs
  have A := Lib.hid (clonec_in sa sc st _ (H.out.kept C1.out) (by omega))
  go_enter Tryz.func66, Tryz.ntmps66
  go_wp2_with fail
  rw [← HW1.out]
  go_wp2_with fail
  refine A.out.mono ?_; rintro e w1 ⟨a, c, rfl, hi, hb, hc⟩
  have B2 := Lib.hid (hc.at (by simp) B1.out)
  have k := blk_cell B2.out
  have f := blk_free B2.out
  have I := Lib.hid hi
  have K := Lib.hid hc
  have HB := Lib.hid hb
  clear hi hc hb
  go_wp2_with fail
  have r1 := blk_cell (ans_two B2.out 0 a st.length c).1
  unfold ansW at r1
  refine bodyPost_ret (v := .tuple #[.slice sa st.length sc, .agg #[.int .i64 0, .slice a st.length c]]) (by simp [results, Tryz.results66, go_sem, r1]) rfl ?_
  exact stepP_end (r := (st, 0, st)) (fun x hx => .inl hx) (fun x hx => by have := HB.out x hx; have := HS.out; omega) B2.out (Nat.le_refl _) (C1.out.thenSame K.out) (fun h1 _ => H.out.kept h1) (fun h2 => I.out.keptN h2 (fun x hx hm => by have := HB.out x hx; have := HS.out; simp at hm; omega))
set_option maxHeartbeats 4000000 in
set_option maxRecDepth 100000 in
theorem step2_any (sa0 : Option Addr) (sv : Value) (aa : Option Addr) (ac : Nat) (d : Rr Ce) (w : World) (h : ArgsIn w aa ac [d]) (hl : d.L.length ≤ 1048576) :
    Calls Tryz.prog 67 #[sv, .slice aa 1 ac] w (StepP w sa0 (d.L, 0, [nullC])) := by
  have C1 := Lib.hid ((Chg.refl [] w).alloc (.cells #[.int .i64 0, .slice none 0 0] 38))
  have B1 := Lib.hid (heap_alloc_new w (.cells #[.int .i64 0, .slice none 0 0] 38))
  have hs := World.size_alloc w (.cells #[.int .i64 0, .slice none 0 0] 38)
  obtain ⟨W1, hW1⟩ : ∃ W1, W1 = w.alloc (.cells #[.int .i64 0, .slice none 0 0] 38) := ⟨_, rfl⟩
  rw [← hW1] at C1 B1 hs
  have H := Lib.hid h
  have k := blk_cell B1.out
  have f := blk_free B1.out
  have HS := Lib.hid hs
  have HW1 := Lib.hid hW1
  clear h hW1 hs
  obtain ⟨b1, o1, rfl, -, hbr1, hcc1⟩ := H.out.1.1.elem C1.out 0 (by simp)
  have I1 := Lib.hid ((H.out.2 d (by simp)).kept C1.out)
  have c0 := hcc1 0 (by omega)
  obtain ⟨da, dc, dL⟩ := d
  simp only [rrC, List.getElem_cons_zero, List.getElem?_cons_zero, Nat.add_zero, Nat.zero_mul] at c0
  simp only at I1 hl
  have A := Lib.hid (clonec_in da dc dL W1 I1.out (by omega))
  clear hcc1
  go_enter Tryz.func67, Tryz.ntmps67
  go_upto_region 1 with fail
  rw [← HW1.out]
  go_wp2_with fail
  refine A.out.mono ?_; rintro e w1 ⟨a, c, rfl, hi, hb, hc⟩
  have B2 := Lib.hid (hc.at (by simp) B1.out)
  have I := Lib.hid hi
  have K := Lib.hid hc
  have HB := Lib.hid hb
  clear hi hc hb k f
  go_wp2_with fail
  refine (vnull_any w1).mono ?_; rintro e w2 ⟨a2, c2, rfl, hi, hb, hc⟩
  have B3 := Lib.hid (hc.at (by simp) B2.out)
  have k := blk_cell B3.out
  have f := blk_free B3.out
  have I2 := Lib.hid hi
  have K2 := Lib.hid hc
  have HB2 := Lib.hid hb
  clear hi hc hb
  go_wp2_with fail
  have hs1 := HS.out
  have hs2 := K.out.size
  have r1 := blk_cell (ans_two B3.out 0 a2 1 c2).1
  unfold ansW at r1
  refine bodyPost_ret (v := .tuple #[.slice a dL.length c, .agg #[.int .i64 0, .slice a2 1 c2]]) (by simp [results, Tryz.results67, go_sem, r1]) rfl ?_
  exact stepP_end (r := (dL, 0, [nullC])) (fun x hx => .inr (by have := HB.out x hx; omega)) (fun x hx => by have := HB2.out x hx; omega) B3.out (Nat.le_refl _) ((C1.out.thenSame K.out).thenSame K2.out) (fun _ h2 => (I.out.kept K2.out).keptN h2 (fun x hx hm => by have := HB.out x hx; simp at hm; omega)) (fun h2 => I2.out.keptN h2 (fun x hx hm => by have := HB2.out x hx; simp at hm; omega))
def addF (st a : List Ce) : List Ce × Int × List Ce :=
  match st, a with
  | s :: _, x :: _ => if s.kind = 3 ∨ s.kind = 1 then (if x.kind = 3 then (if (addZ (if s.kind = 3 then s.n else 0) x.n).2 = 0 then ([intC (addZ (if s.kind = 3 then s.n else 0) x.n).1], 0, [intC (addZ (if s.kind = 3 then s.n else 0) x.n).1]) else (st, (addZ (if s.kind = 3 then s.n else 0) x.n).2, [])) else (st, 7, [])) else (st, 7, [])
  | _, _ => (st, 7, [])
theorem addF_bad {s x : Ce} {r rx : List Ce} (h : (s.kind ≠ 3 ∧ s.kind ≠ 1) ∨ x.kind ≠ 3) : addF (s :: r) (x :: rx) = (s :: r, 7, []) := by
  simp only [addF]
  rcases h with ⟨h1, h2⟩ | h
  · rw [if_neg (by simp [h1, h2])]
  · rw [if_neg h]; split <;> rfl
theorem addF_ok {s x : Ce} {r rx : List Ce} (hs : s.kind = 3 ∨ s.kind = 1) (hx : x.kind = 3) : addF (s :: r) (x :: rx) = if (addZ (if s.kind = 3 then s.n else 0) x.n).2 = 0 then ([intC (addZ (if s.kind = 3 then s.n else 0) x.n).1], 0, [intC (addZ (if s.kind = 3 then s.n else 0) x.n).1]) else (s :: r, (addZ (if s.kind = 3 then s.n else 0) x.n).2, []) := by
  simp only [addF]
  rw [if_pos hs, if_pos hx]
set_option maxHeartbeats 4000000 in
set_option maxRecDepth 100000 in
theorem step3_any (sa : Option Addr) (sc : Nat) (s : Ce) (r : List Ce) (aa : Option Addr) (ac : Nat) (da : Option Addr) (dc : Nat) (x : Ce) (rx : List Ce) (w : World) (h : InIs ceC 4 w sa sc (s :: r)) (hA : ArgsIn w aa ac [⟨da, dc, x :: rx⟩]) :
    Calls Tryz.prog 68 #[.slice sa (s :: r).length sc, .slice aa 1 ac] w (StepP w sa (addF (s :: r) (x :: rx))) := by
  have C1 := Lib.hid ((Chg.refl [] w).alloc (.cells #[.int .i64 0, .slice none 0 0] 38))
  have B1 := Lib.hid (heap_alloc_new w (.cells #[.int .i64 0, .slice none 0 0] 38))
  have hs := World.size_alloc w (.cells #[.int .i64 0, .slice none 0 0] 38)
  obtain ⟨W1, hW1⟩ : ∃ W1, W1 = w.alloc (.cells #[.int .i64 0, .slice none 0 0] 38) := ⟨_, rfl⟩
  rw [← hW1] at C1 B1 hs
  have H := Lib.hid h
  have k := blk_cell B1.out
  have f := blk_free B1.out
  have HS := Lib.hid hs
  have HW1 := Lib.hid hW1
  clear h hW1 hs
  obtain ⟨b1, o1, rfl, -, hbr1, hcc1⟩ := H.out.1.elem C1.out 0 (by simp)
  obtain ⟨b2, o2, rfl, -, hbr2, hcc2⟩ := hA.1.1.elem C1.out 0 (by simp)
  have hI2 := hA.2 _ (List.mem_singleton.2 rfl)
  simp only at hI2
  obtain ⟨b3, o3, rfl, -, hbr3, hcc3⟩ := hI2.1.elem C1.out 0 (by simp)
  have c0 := hcc1 0 (by omega)
  have c1 := hcc1 1 (by omega)
  have y0 := hcc2 0 (by omega)
  have x0 := hcc3 0 (by omega)
  have x1 := hcc3 1 (by omega)
  simp only [rrC, ceC, List.getElem_cons_zero, List.getElem?_cons_zero, List.getElem?_cons_succ, Nat.add_zero, Nat.zero_mul, List.length_cons] at c0 c1 y0 x0 x1
  clear hcc1 hcc2 hcc3 hI2 hA
  have hr0 : (0 : Int) < ((r.length : Int) + 1) := by omega
  have hr1 : (0 : Int) < ((rx.length : Int) + 1) := by omega
  have hr2 : (r.length : Int) + 1 ≤ 9223372036854775807 := by have h1 := H.out.2.1; have h2 := H.out.2.2.1; unfold maxLen at h2; simp at h1; omega
  have hr3 : (0 : Int) ≤ (r.length : Int) := by omega
  obtain ⟨sk, sn, ss, sm⟩ := s
  obtain ⟨xk, xn, xs, xm⟩ := x
  simp only at c0 c1 x0 x1
  simp only [List.length_cons] at *
  by_cases hx : xk = 3
  · subst hx
    by_cases h3 : sk = 3
    · subst h3
      have N := Lib.hid (fun w' => nadd_any sn xn w')
      rw [show addF (⟨3, sn, ss, sm⟩ :: r) (⟨3, xn, xs, xm⟩ :: rx) = (if (addZ sn xn).2 = 0 then ([intC (addZ sn xn).1], 0, [intC (addZ sn xn).1]) else (⟨3, sn, ss, sm⟩ :: r, (addZ sn xn).2, [])) from addF_ok (.inl rfl) rfl]
      generalize addZ sn xn = R at *
      obtain ⟨u, v⟩ := R
      simp only at N
      by_cases hv : v = 0
      · subst hv
        rw [if_pos rfl]
        go_enter Tryz.func68, Tryz.ntmps68
        go_upto_region 1 with fail
        rw [← HW1.out]
        go_wp2_with fail
        refine (N.out _).mono ?_; rintro e w2 ⟨rfl, hc⟩
        have B2 := Lib.hid (hc.at (by simp) B1.out)
        have K2 := Lib.hid (C1.out.thenSame hc)
        have S2 := Lib.hid hc.size
        clear hc k f c0 c1 x0 x1 y0
        have N1 := Lib.hid (heap_alloc_new w2 (.cells #[.int .i64 3, .int .i64 u, .string ⟨#[]⟩, .int .i64 0] 74))
        have I1 := Lib.hid (one_in (x := intC u) N1.out)
        have E1 := Lib.hid ((Chg.refl [] w2).alloc (.cells #[.int .i64 3, .int .i64 u, .string ⟨#[]⟩, .int .i64 0] 74))
        have A := Lib.hid (clonec_in _ _ [intC u] _ I1.out (by simp))
        go_wp2_with fail
        refine A.out.mono ?_; rintro e w3 ⟨a, c, rfl, hi, hb, hc⟩
        have B3 := Lib.hid (hc.at (by simp) (E1.out.at (by simp) B2.out))
        have k := blk_cell B3.out
        have f := blk_free B3.out
        have I3 := Lib.hid hi
        have K3 := Lib.hid hc
        have HB := Lib.hid hb
        clear hi hc hb
        go_wp2_with fail
        have hs1 := HS.out
        have hs2 := K3.out.size
        have hs3 := S2.out
        have hs4 := E1.out.size
        have r1 := blk_cell (ans_two B3.out 0 a 1 c).1
        unfold ansW at r1
        refine bodyPost_ret (v := .tuple #[.slice (some ⟨w2.heap.size, 0, none⟩) 1 1, .agg #[.int .i64 0, .slice a 1 c]]) (by simp [results, Tryz.results68, go_sem, r1]) rfl ?_
        exact stepP_end (r := ([intC u], 0, [intC u])) (fun x hx => .inr (by cases hx; simp only; omega)) (fun x hx => by have := HB.out x hx; omega) B3.out (Nat.le_refl _) ((K2.out.thenSame E1.out).thenSame K3.out) (fun _ h2 => (I1.out.kept K3.out).keptN h2 (fun x hx hm => by cases hx; simp at hm; omega)) (fun h2 => I3.out.keptN h2 (fun x hx hm => by have := HB.out x hx; simp at hm; omega))
      · rw [if_neg hv]
        have hvb : (v != 0) = true := by simpa using hv
        clear hv
        go_enter Tryz.func68, Tryz.ntmps68
        go_upto_region 1 with fail
        rw [← HW1.out]
        go_wp2_with fail
        refine (N.out _).mono ?_; rintro e w2 ⟨rfl, hc⟩
        have B2 := Lib.hid (hc.at (by simp) B1.out)
        have K2 := Lib.hid (C1.out.thenSame hc)
        clear hc k f c0 c1 x0 x1 y0
        have k := blk_cell B2.out
        have f := blk_free B2.out
        go_wp2_with fail
        have r1 := blk_cell (ans_two B2.out v none 0 0).1
        unfold ansW at r1
        refine bodyPost_ret (v := .tuple #[.slice (some ⟨b1, o1, none⟩) (r.length + 1) sc, .agg #[.int .i64 v, .slice none 0 0]]) (by simp [results, Tryz.results68, go_sem, r1]) rfl ?_
        exact stepP_end (r := (_ :: r, v, [])) (fun x hx => .inl hx) (fun x hx => by cases hx) B2.out (Nat.le_refl _) K2.out (fun h1 _ => H.out.kept h1) (fun _ => InIs.nil)
    by_cases h1 : sk = 1
    · subst h1
      have N := Lib.hid (fun w' => nadd_any 0 xn w')
      rw [show addF (⟨1, sn, ss, sm⟩ :: r) (⟨3, xn, xs, xm⟩ :: rx) = (if (addZ 0 xn).2 = 0 then ([intC (addZ 0 xn).1], 0, [intC (addZ 0 xn).1]) else (⟨1, sn, ss, sm⟩ :: r, (addZ 0 xn).2, [])) from addF_ok (.inr rfl) rfl]
      generalize addZ 0 xn = R at *
      obtain ⟨u, v⟩ := R
      simp only at N
      by_cases hv : v = 0
      · subst hv
        rw [if_pos rfl]
        go_enter Tryz.func68, Tryz.ntmps68
        go_upto_region 1 with fail
        rw [← HW1.out]
        go_wp2_with fail
        refine (N.out _).mono ?_; rintro e w2 ⟨rfl, hc⟩
        have B2 := Lib.hid (hc.at (by simp) B1.out)
        have K2 := Lib.hid (C1.out.thenSame hc)
        have S2 := Lib.hid hc.size
        clear hc k f c0 c1 x0 x1 y0
        have N1 := Lib.hid (heap_alloc_new w2 (.cells #[.int .i64 3, .int .i64 u, .string ⟨#[]⟩, .int .i64 0] 74))
        have I1 := Lib.hid (one_in (x := intC u) N1.out)
        have E1 := Lib.hid ((Chg.refl [] w2).alloc (.cells #[.int .i64 3, .int .i64 u, .string ⟨#[]⟩, .int .i64 0] 74))
        have A := Lib.hid (clonec_in _ _ [intC u] _ I1.out (by simp))
        go_wp2_with fail
        refine A.out.mono ?_; rintro e w3 ⟨a, c, rfl, hi, hb, hc⟩
        have B3 := Lib.hid (hc.at (by simp) (E1.out.at (by simp) B2.out))
        have k := blk_cell B3.out
        have f := blk_free B3.out
        have I3 := Lib.hid hi
        have K3 := Lib.hid hc
        have HB := Lib.hid hb
        clear hi hc hb
        go_wp2_with fail
        have hs1 := HS.out
        have hs2 := K3.out.size
        have hs3 := S2.out
        have hs4 := E1.out.size
        have r1 := blk_cell (ans_two B3.out 0 a 1 c).1
        unfold ansW at r1
        refine bodyPost_ret (v := .tuple #[.slice (some ⟨w2.heap.size, 0, none⟩) 1 1, .agg #[.int .i64 0, .slice a 1 c]]) (by simp [results, Tryz.results68, go_sem, r1]) rfl ?_
        exact stepP_end (r := ([intC u], 0, [intC u])) (fun x hx => .inr (by cases hx; simp only; omega)) (fun x hx => by have := HB.out x hx; omega) B3.out (Nat.le_refl _) ((K2.out.thenSame E1.out).thenSame K3.out) (fun _ h2 => (I1.out.kept K3.out).keptN h2 (fun x hx hm => by cases hx; simp at hm; omega)) (fun h2 => I3.out.keptN h2 (fun x hx hm => by have := HB.out x hx; simp at hm; omega))
      · rw [if_neg hv]
        have hvb : (v != 0) = true := by simpa using hv
        clear hv
        go_enter Tryz.func68, Tryz.ntmps68
        go_upto_region 1 with fail
        rw [← HW1.out]
        go_wp2_with fail
        refine (N.out _).mono ?_; rintro e w2 ⟨rfl, hc⟩
        have B2 := Lib.hid (hc.at (by simp) B1.out)
        have K2 := Lib.hid (C1.out.thenSame hc)
        clear hc k f c0 c1 x0 x1 y0
        have k := blk_cell B2.out
        have f := blk_free B2.out
        go_wp2_with fail
        have r1 := blk_cell (ans_two B2.out v none 0 0).1
        unfold ansW at r1
        refine bodyPost_ret (v := .tuple #[.slice (some ⟨b1, o1, none⟩) (r.length + 1) sc, .agg #[.int .i64 v, .slice none 0 0]]) (by simp [results, Tryz.results68, go_sem, r1]) rfl ?_
        exact stepP_end (r := (_ :: r, v, [])) (fun x hx => .inl hx) (fun x hx => by cases hx) B2.out (Nat.le_refl _) K2.out (fun h1 _ => H.out.kept h1) (fun _ => InIs.nil)
    have h3b : (sk == 3) = false := by simpa using h3
    have h1b : (sk == 1) = false := by simpa using h1
    have HE := Lib.hid (show addF (⟨sk, sn, ss, sm⟩ :: r) (⟨3, xn, xs, xm⟩ :: rx) = (⟨sk, sn, ss, sm⟩ :: r, 7, []) from addF_bad (.inl ⟨h3, h1⟩))
    clear h3 h1
    rw [HE.out]
    clear hr0
    go_enter Tryz.func68, Tryz.ntmps68
    go_upto_region 1 with fail
    rw [← HW1.out]
    go_wp2_with fail
    have r1 := blk_cell (ans_two B1.out 7 none 0 0).1
    unfold ansW at r1
    refine bodyPost_ret (v := .tuple #[.slice (some ⟨b1, o1, none⟩) (r.length + 1) sc, .agg #[.int .i64 7, .slice none 0 0]]) (by simp [results, Tryz.results68, go_sem, r1]) rfl ?_
    exact stepP_end (r := (_ :: r, 7, [])) (fun x hx => .inl hx) (fun x hx => by cases hx) B1.out (Nat.le_refl _) C1.out (fun h1 _ => H.out.kept h1) (fun _ => InIs.nil)
  · have hxb : (xk != 3) = true := by simpa using hx
    have hxc : (xk == 3) = false := by simpa using hx
    by_cases h3 : sk = 3
    · subst h3
      have HE := Lib.hid (show addF (⟨3, sn, ss, sm⟩ :: r) (⟨xk, xn, xs, xm⟩ :: rx) = (⟨3, sn, ss, sm⟩ :: r, 7, []) from addF_bad (.inr hx))
      clear hx
      rw [HE.out]
      clear hr0
      go_enter Tryz.func68, Tryz.ntmps68
      go_upto_region 1 with fail
      rw [← HW1.out]
      go_wp2_with fail
      have r1 := blk_cell (ans_two B1.out 7 none 0 0).1
      unfold ansW at r1
      refine bodyPost_ret (v := .tuple #[.slice (some ⟨b1, o1, none⟩) (r.length + 1) sc, .agg #[.int .i64 7, .slice none 0 0]]) (by simp [results, Tryz.results68, go_sem, r1]) rfl ?_
      exact stepP_end (r := (_ :: r, 7, [])) (fun x hx => .inl hx) (fun x hx => by cases hx) B1.out (Nat.le_refl _) C1.out (fun h1 _ => H.out.kept h1) (fun _ => InIs.nil)
    by_cases h1 : sk = 1
    · subst h1
      have HE := Lib.hid (show addF (⟨1, sn, ss, sm⟩ :: r) (⟨xk, xn, xs, xm⟩ :: rx) = (⟨1, sn, ss, sm⟩ :: r, 7, []) from addF_bad (.inr hx))
      clear hx
      rw [HE.out]
      clear hr0
      go_enter Tryz.func68, Tryz.ntmps68
      go_upto_region 1 with fail
      rw [← HW1.out]
      go_wp2_with fail
      have r1 := blk_cell (ans_two B1.out 7 none 0 0).1
      unfold ansW at r1
      refine bodyPost_ret (v := .tuple #[.slice (some ⟨b1, o1, none⟩) (r.length + 1) sc, .agg #[.int .i64 7, .slice none 0 0]]) (by simp [results, Tryz.results68, go_sem, r1]) rfl ?_
      exact stepP_end (r := (_ :: r, 7, [])) (fun x hx => .inl hx) (fun x hx => by cases hx) B1.out (Nat.le_refl _) C1.out (fun h1 _ => H.out.kept h1) (fun _ => InIs.nil)
    have h3b : (sk == 3) = false := by simpa using h3
    have h1b : (sk == 1) = false := by simpa using h1
    have HE := Lib.hid (show addF (⟨sk, sn, ss, sm⟩ :: r) (⟨xk, xn, xs, xm⟩ :: rx) = (⟨sk, sn, ss, sm⟩ :: r, 7, []) from addF_bad (.inl ⟨h3, h1⟩))
    clear h3 h1 hx
    rw [HE.out]
    clear hr0
    go_enter Tryz.func68, Tryz.ntmps68
    go_upto_region 1 with fail
    rw [← HW1.out]
    go_wp2_with fail
    have r1 := blk_cell (ans_two B1.out 7 none 0 0).1
    unfold ansW at r1
    refine bodyPost_ret (v := .tuple #[.slice (some ⟨b1, o1, none⟩) (r.length + 1) sc, .agg #[.int .i64 7, .slice none 0 0]]) (by simp [results, Tryz.results68, go_sem, r1]) rfl ?_
    exact stepP_end (r := (_ :: r, 7, [])) (fun x hx => .inl hx) (fun x hx => by cases hx) B1.out (Nat.le_refl _) C1.out (fun h1 _ => H.out.kept h1) (fun _ => InIs.nil)
set_option maxHeartbeats 4000000 in
set_option maxRecDepth 100000 in
theorem step4_any (sa : Option Addr) (sc : Nat) (st : List Ce) (aa : Option Addr) (ac : Nat) (d d2 : Rr Ce) (w : World) (h : InIs ceC 4 w sa sc st) (hA : ArgsIn w aa ac [d, d2]) (hl : st.length ≤ 1048576) (hl2 : d2.L.length ≤ 1048576) :
    Calls Tryz.prog 69 #[.slice sa st.length sc, .slice aa 2 ac] w (StepP w sa (if sameB ceE st d.L then (d2.L, 0, [boolC true]) else (st, 0, [boolC false]))) := by
  have C1 := Lib.hid ((Chg.refl [] w).alloc (.cells #[.int .i64 0, .slice none 0 0] 38))
  have B1 := Lib.hid (heap_alloc_new w (.cells #[.int .i64 0, .slice none 0 0] 38))
  have hs := World.size_alloc w (.cells #[.int .i64 0, .slice none 0 0] 38)
  obtain ⟨W1, hW1⟩ : ∃ W1, W1 = w.alloc (.cells #[.int .i64 0, .slice none 0 0] 38) := ⟨_, rfl⟩
  rw [← hW1] at C1 B1 hs
  have H := Lib.hid h
  have k := blk_cell B1.out
  have f := blk_free B1.out
  have HS := Lib.hid hs
  have HW1 := Lib.hid hW1
  clear h hW1 hs
  have hs1 := HS.out
  obtain ⟨b1, o1, rfl, -, hbr1, hcc1⟩ := hA.1.1.elem C1.out 0 (by simp)
  have I1 := Lib.hid ((hA.2 d (by simp)).kept C1.out)
  have J1 := Lib.hid ((hA.2 d2 (by simp)).kept C1.out)
  have c0 := hcc1 0 (by omega)
  have HCC := Lib.hid (fun w' (hc : Chg [] W1 w') => hA.1.1.elem (C1.out.thenSame hc) 1 (by simp))
  obtain ⟨da, dc, dL⟩ := d
  obtain ⟨ea, ec, eL⟩ := d2
  simp only [rrC, List.getElem_cons_zero, List.getElem?_cons_zero, Nat.add_zero, Nat.zero_mul] at c0
  simp only at I1 J1 hl2
  have A := Lib.hid (vsame_any sa sc st da dc dL W1 (H.out.kept C1.out).1 I1.out.1 hl)
  clear hcc1 hA
  generalize hq : sameB ceE st dL = q at *
  clear hq
  cases q
  · rw [if_neg (by decide)]
    clear HCC
    go_enter Tryz.func69, Tryz.ntmps69
    go_upto_region 1 with fail
    rw [← HW1.out]
    go_wp2_with fail
    refine A.out.mono ?_; rintro e w1 ⟨rfl, hc⟩
    have B2 := Lib.hid (hc.at (by simp) B1.out)
    have K := Lib.hid (C1.out.thenSame hc)
    have S2 := Lib.hid hc.size
    clear hc c0 k f
    go_wp2_with fail
    refine (vbool_any false w1).mono ?_; rintro e w2 ⟨a2, c2, rfl, hi, hb, hc⟩
    have B3 := Lib.hid (hc.at (by simp) B2.out)
    have k := blk_cell B3.out
    have f := blk_free B3.out
    have I2 := Lib.hid hi
    have K2 := Lib.hid hc
    have HB2 := Lib.hid hb
    clear hi hc hb
    go_wp2_with fail
    have hs2 := S2.out
    have r1 := blk_cell (ans_two B3.out 0 a2 1 c2).1
    unfold ansW at r1
    refine bodyPost_ret (v := .tuple #[.slice sa st.length sc, .agg #[.int .i64 0, .slice a2 1 c2]]) (by simp [results, Tryz.results69, go_sem, r1]) rfl ?_
    exact stepP_end (r := (st, 0, [boolC false])) (fun x hx => .inl hx) (fun x hx => by have := HB2.out x hx; omega) B3.out (Nat.le_refl _) (K.out.thenSame K2.out) (fun h1 _ => H.out.kept h1) (fun h2 => I2.out.keptN h2 (fun x hx hm => by have := HB2.out x hx; simp at hm; omega))
  · rw [if_pos rfl]
    go_enter Tryz.func69, Tryz.ntmps69
    go_upto_region 1 with fail
    rw [← HW1.out]
    go_wp2_with fail
    refine A.out.mono ?_; rintro e w1 ⟨rfl, hc⟩
    have B2 := Lib.hid (hc.at (by simp) B1.out)
    have K := Lib.hid (C1.out.thenSame hc)
    have S2 := Lib.hid hc.size
    obtain ⟨b9, o9, heq, -, -, hcc9⟩ := HCC.out w1 hc
    cases heq
    have c1 := hcc9 0 (by omega)
    simp only [rrC, List.getElem_cons_zero, List.getElem_cons_succ, List.getElem?_cons_zero, Nat.add_zero, Nat.mul_one] at c1
    have A2 := Lib.hid (clonec_in ea ec eL w1 (J1.out.kept hc) (by omega))
    clear hc c0 k f hcc9
    go_wp2_with fail
    refine A2.out.mono ?_; rintro e w2 ⟨a, c, rfl, hi, hb, hc⟩
    have B3 := Lib.hid (hc.at (by simp) B2.out)
    have I := Lib.hid hi
    have K2 := Lib.hid hc
    have HB := Lib.hid hb
    clear hi hc hb c1
    go_wp2_with fail
    refine (vbool_any true w2).mono ?_; rintro e w3 ⟨a2, c2, rfl, hi, hb, hc⟩
    have B4 := Lib.hid (hc.at (by simp) B3.out)
    have k := blk_cell B4.out
    have f := blk_free B4.out
    have I2 := Lib.hid hi
    have K3 := Lib.hid hc
    have HB2 := Lib.hid hb
    clear hi hc hb
    go_wp2_with fail
    have hs2 := S2.out
    have hs3 := K2.out.size
    have r1 := blk_cell (ans_two B4.out 0 a2 1 c2).1
    unfold ansW at r1
    refine bodyPost_ret (v := .tuple #[.slice a eL.length c, .agg #[.int .i64 0, .slice a2 1 c2]]) (by simp [results, Tryz.results69, go_sem, r1]) rfl ?_
    exact stepP_end (r := (eL, 0, [boolC true])) (fun x hx => .inr (by have := HB.out x hx; omega)) (fun x hx => by have := HB2.out x hx; omega) B4.out (Nat.le_refl _) ((K.out.thenSame K2.out).thenSame K3.out) (fun _ h2 => (I.out.kept K3.out).keptN h2 (fun x hx hm => by have := HB.out x hx; simp at hm; omega)) (fun h2 => I2.out.keptN h2 (fun x hx hm => by have := HB2.out x hx; simp at hm; omega))
end Go.Proofs.YtnhemokmgpelaaaGreatDoor
