/- Chapter 54: the reference's Share: the checks. No condition. -/
import Derived.Test.YtehjalgogjkdlaaGreatDoorZ22
import Derived.Test.YtehjalgogjkdlaaGreatDoorZ11
import Derived.Test.YtehjalgogjkdlaaGreatDoorZ12
import Derived.Test.YtehjalgogjkdlaaGreatDoorZ21
namespace Go.Proofs.YtehjalgogjkdlaaGreatDoor
set_option linter.unusedVariables false
set_option linter.unusedSimpArgs false
open Go.RowKit
theorem sum_amt {V : List Int} (h : V.all amtB = true) (hl : V.length ≤ 256) : 0 ≤ V.sum ∧ V.sum ≤ 256000000000000 := by
  have := sum_take h hl V.length
  rwa [List.take_length] at this
theorem row_cell {w : World} {base g n c k : Nat} {x : Int} {l : List Int} (h : RowOf icI 1 w base 3 (.slice (some ⟨g, 0, none⟩) n c) l) (hx : l[k]? = some x) : w.cell? ⟨g, k, none⟩ = some (.int .i64 x) ∧ (∀ i, w.frozen? ⟨g, i, none⟩ = false) ∧ g < w.heap.size := by
  obtain ⟨b1, b2, b3, b4, b5, b6, b7⟩ := RowOf.atS h icI_len
  obtain ⟨hk, rfl⟩ := List.getElem?_eq_some_iff.1 hx
  have := b4 k hk 0 (by omega)
  simp only [icI, List.getElem?_cons_zero, Nat.add_zero, Nat.mul_one] at this
  exact ⟨this, b5, b7⟩
/-- The lists of the reference, as far as k: out, rest, l, apart. -/
structure RsI (t : Int) (W : List Int) (w w0 wr : World) (la : Option Addr) (lc : Nat) (oa : Option Addr) (co : Nat) (ra : Option Addr) (cr k : Nat) : Prop where
  out : RowOf icI 1 wr w.heap.size 3 (.slice oa k co) ((shQ t W).take k)
  rest : RowOf icI 1 wr w.heap.size 3 (.slice ra k cr) ((shR t W).take k)
  row : RowOf icI 1 wr w.heap.size 3 (.slice la W.length lc) (effW W)
  ne : ∀ g g', (Value.slice oa k co).ownBlock = some g → (Value.slice ra k cr).ownBlock = some g' → g ≠ g'
  ho : ∀ g, (Value.slice oa k co).ownBlock = some g → w0.heap.size ≤ g
  hr : ∀ g, (Value.slice ra k cr).ownBlock = some g → w0.heap.size ≤ g
  old : ∀ g, (Value.slice la W.length lc).ownBlock = some g → g < w0.heap.size
  chg : Chg [] w wr
  sz : w0.heap.size ≤ wr.heap.size
theorem RsI.keep {t : Int} {W : List Int} {w w0 w3 w4 : World} {la : Option Addr} {lc co cr k : Nat} {oa ra : Option Addr} (h : RsI t W w w0 w3 la lc oa co ra cr k) (hc : Chg [] w3 w4) : RsI t W w w0 w4 la lc oa co ra cr k :=
  ⟨h.out.kept hc (by simp), h.rest.kept hc (by simp), h.row.kept hc (by simp), h.ne, h.ho, h.hr, h.old, h.chg.thenSame hc, Nat.le_trans h.sz hc.size⟩
theorem not_toList {x : Option Nat} {g : Nat} (h : ∀ g', x = some g' → g' ≠ g) : g ∉ x.toList := by
  cases x with
  | none => simp
  | some y => simp only [Option.toList_some, List.mem_singleton]; exact fun e => h y rfl e.symm
/-- The state between the two appends of a round. -/
structure RsM (t : Int) (W : List Int) (w w0 w4 : World) (la : Option Addr) (lc g4 c4 : Nat) (ra : Option Addr) (cr k : Nat) : Prop where
  out : RowOf icI 1 w4 w.heap.size 3 (.slice (some ⟨g4, 0, none⟩) (k + 1) c4) ((shQ t W).take (k + 1))
  rest : RowOf icI 1 w4 w.heap.size 3 (.slice ra k cr) ((shR t W).take k)
  row : RowOf icI 1 w4 w.heap.size 3 (.slice la W.length lc) (effW W)
  ne : ∀ g', (Value.slice ra k cr).ownBlock = some g' → g4 ≠ g'
  ho : w0.heap.size ≤ g4
  hr : ∀ g, (Value.slice ra k cr).ownBlock = some g → w0.heap.size ≤ g
  old : ∀ g, (Value.slice la W.length lc).ownBlock = some g → g < w0.heap.size
  chg : Chg [] w w4
  sz : w0.heap.size ≤ w4.heap.size
theorem RsI.mid {t : Int} {W : List Int} {w w0 w3 w4 : World} {la : Option Addr} {lc co cr k g4 c4 : Nat} {oa ra : Option Addr} {o : Obj} (h : RsI t W w w0 w3 la lc oa co ra cr k) (hw : w.heap.size ≤ w0.heap.size) (hr4 : RowOf icI 1 w4 w.heap.size 3 (.slice (some ⟨g4, 0, none⟩) (k + 1) c4) ((shQ t W).take (k + 1))) (G4 : Chg (Value.slice oa k co).ownBlock.toList (w3.alloc o) w4) (O4 : (Value.slice oa k co).ownBlock = some g4 ∨ g4 = (w3.alloc o).heap.size) : RsM t W w w0 w4 la lc g4 c4 ra cr k := by
  have ka := (Chg.refl [] w3).alloc o
  refine ⟨hr4, (h.rest.kept ka (by simp)).kept G4 fun g hg => not_toList fun g' hg' => h.ne g' g hg' hg, (h.row.kept ka (by simp)).kept G4 fun g hg => not_toList fun g' hg' => ?_, fun g' hg' => ?_, ?_, h.hr, h.old, ?_, ?_⟩
  · have := h.old g hg; have := h.ho g' hg'; omega
  · rcases O4 with q | q
    · exact h.ne g4 g' q hg'
    · have := (RowOf.block h.rest g' hg').2
      rw [q, World.size_alloc]; omega
  · rcases O4 with q | q
    · exact h.ho g4 q
    · rw [q, World.size_alloc]; have := h.sz; omega
  · exact (h.chg.thenSame ka).trans G4 (by simp) (fun x hx hlt => by
      exfalso
      have : (Value.slice oa k co).ownBlock = some x := by
        cases q : (Value.slice oa k co).ownBlock with
        | none => rw [q] at hx; simp at hx
        | some y => rw [q] at hx; simp at hx; rw [hx]
      have := h.ho x this
      omega)
  · have := G4.size; rw [World.size_alloc] at this; have := h.sz; omega
theorem RsM.next {t : Int} {W : List Int} {w w0 w4 w5 : World} {la : Option Addr} {lc g4 c4 cr k g5 c5 : Nat} {ra : Option Addr} {o : Obj} (h : RsM t W w w0 w4 la lc g4 c4 ra cr k) (hw : w.heap.size ≤ w0.heap.size) (hr5 : RowOf icI 1 w5 w.heap.size 3 (.slice (some ⟨g5, 0, none⟩) (k + 1) c5) ((shR t W).take (k + 1))) (G5 : Chg (Value.slice ra k cr).ownBlock.toList (w4.alloc o) w5) (O5 : (Value.slice ra k cr).ownBlock = some g5 ∨ g5 = (w4.alloc o).heap.size) : RsI t W w w0 w5 la lc (some ⟨g4, 0, none⟩) c4 (some ⟨g5, 0, none⟩) c5 (k + 1) := by
  have ka := (Chg.refl [] w4).alloc o
  have l4 := (RowOf.block h.out g4 rfl).2
  refine ⟨(h.out.kept ka (by simp)).kept G5 fun g hg => not_toList fun g' hg' => ?_, hr5, (h.row.kept ka (by simp)).kept G5 fun g hg => not_toList fun g' hg' => ?_, fun g g' hg hg' => ?_, fun g hg => ?_, fun g hg => ?_, h.old, ?_, ?_⟩
  · cases hg; exact fun e => h.ne g' hg' e.symm
  · have := h.old g hg; have := h.hr g' hg'; omega
  · cases hg; cases hg'
    rcases O5 with q | q
    · exact h.ne _ q
    · have q2 : g5 = w4.heap.size + 1 := by rw [q, World.size_alloc]
      show g4 ≠ g5
      omega
  · cases hg; exact h.ho
  · cases hg
    rcases O5 with q | q
    · exact h.hr _ q
    · have q2 : g5 = w4.heap.size + 1 := by rw [q, World.size_alloc]
      show w0.heap.size ≤ g5
      have := h.sz
      omega
  · exact (h.chg.thenSame ka).trans G5 (by simp) (fun x hx hlt => by
      exfalso
      have : (Value.slice ra k cr).ownBlock = some x := by
        cases q : (Value.slice ra k cr).ownBlock with
        | none => rw [q] at hx; simp at hx
        | some y => rw [q] at hx; simp at hx; rw [hx]
      have := h.hr x this
      omega)
  · have := G5.size; rw [World.size_alloc] at this; have := h.sz; omega
/-- The best of the first i, the first of its kind. -/
structure PBest (T : List Int) (b i : Nat) : Prop where
  le : ∀ x, x < i → T.getD x 0 ≤ T.getD b 0
  lt : ∀ x, x < b → T.getD x 0 < T.getD b 0
theorem PBest.up {T : List Int} {b i : Nat} (h : PBest T b i) (hg : T.getD b 0 < T.getD i 0) : PBest T i (i + 1) :=
  ⟨fun x hx => by rcases Nat.lt_or_ge x i with q | q
                  · have := h.le x q; omega
                  · have : x = i := by omega
                    subst this; exact Int.le_refl _, fun x hx => by have := h.le x hx; omega⟩
theorem PBest.stay {T : List Int} {b i : Nat} (h : PBest T b i) (hg : ¬ T.getD b 0 < T.getD i 0) : PBest T b (i + 1) :=
  ⟨fun x hx => by rcases Nat.lt_or_ge x i with q | q
                  · exact h.le x q
                  · have : x = i := by omega
                    subst this; omega, h.lt⟩
theorem PBest.best {T : List Int} {b i : Nat} (h : PBest T b i) (hb : b < T.length) (hi : T.length = i) : Best T b := ⟨hb, fun j hj => h.le j (by omega), h.lt⟩
/-- What the reference's Share leaves. -/
def RShPost (t : Int) (W O : List Int) (w : World) (Z : Int × Int) (e : Ending) (w' : World) : Prop :=
  Chg [] w w' ∧ ((Z.2 ≠ 0 ∧ e = .returned (.tuple #[.slice none 0 0, .int .i64 Z.2])) ∨ (Z.2 = 0 ∧ ∃ v, e = .returned (.tuple #[v, .int .i64 0]) ∧ RowOf icI 1 w' w.heap.size 3 v (shares t W O)))
set_option maxHeartbeats 8000000 in
set_option maxRecDepth 100000 in
theorem rshare_any (t : Int) (a : Option Addr) (cap : Nat) (W O : List Int) (w : World) (h : InIs icI 1 w a cap W) (hm : W.length ≤ maxLen) (hO : (weighZ t W).2 = 0 → IsOrd (shR t W) O) : Calls Tryz.prog 8 #[.int .i64 t, .slice a W.length cap] w (RShPost t W O w (weighZ t W)) := by
  obtain ⟨Z, hZ⟩ : ∃ Z, Z = weighZ t W := ⟨_, rfl⟩
  rw [← hZ] at hO ⊢
  have HO := Lib.hid hO
  have ZW := Lib.hid hZ
  unfold weighZ at hZ
  have HZ := Lib.hid hZ
  have HIn := Lib.hid h
  have H := Lib.hid h.1
  have A := Lib.hid (fun n w' => ramt54_any n w')
  unfold maxLen at hm
  clear hO hZ h
  cases h1 : amtB t
  · have HE := Lib.hid (show Z = (0, 2) by rw [HZ.out, if_pos (Or.inl h1)])
    have A1 := Lib.hid (fun w' => A.out t w')
    rw [h1] at A1
    go_enter Tryz.func8, Tryz.ntmps8
    go_wp2_with fail
    refine (A1.out _).mono ?_; rintro e w1 ⟨rfl, rfl⟩
    go_wp2_with fail
    go_ret2
    exact ⟨Chg.refl _ _, Or.inl (by rw [HE.out]; exact ⟨by decide, rfl⟩)⟩
  have A1 := Lib.hid (fun w' => A.out t w')
  rw [h1] at A1
  have H1 := Lib.hid h1
  clear h1
  go_enter Tryz.func8, Tryz.ntmps8
  go_wp2_with fail
  refine (A1.out _).mono ?_; rintro e w1 ⟨rfl, rfl⟩
  go_wp2_with fail
  go_loopw [6, 7] (fun s i wr => ∃ k : Nat, i = .int .i64 k ∧ s = .int .i64 (W.take (min k 256)).sum ∧ k ≤ W.length ∧ Hid ((W.take k).all amtB = true) ∧ w = wr) (fun _ i _ => W.length - (intOf i).toNat)
  case atStart => exact ⟨0, rfl, rfl, Nat.zero_le _, Lib.hid (by simp), rfl⟩
  case round =>
    obtain ⟨k, rfl, rfl, hkl, HT, rfl⟩ := hrel
    have hs := sum_amt (V := W.take (min k 256)) (List.all_eq_true.2 fun x hx => List.all_eq_true.1 HT.out x (by rw [Nat.min_comm, ← List.take_take] at hx; exact List.mem_of_mem_take hx)) (by simp; omega)
    by_cases hk : k < W.length
    · obtain ⟨b, off, rfl, hb, hc⟩ := H.out.2 k hk
      have c0 := hc 0 (by omega)
      obtain ⟨x, hx⟩ : ∃ x, W[k]? = some x := ⟨W[k], List.getElem?_eq_getElem hk⟩
      have hxe := (List.getElem?_eq_some_iff.1 hx).2
      have HS := Lib.hid (show (W.take (k + 1)).all amtB = amtB x by rw [take_at hx, List.all_append, HT.out]; simp)
      have HN := Lib.hid (show amtB x = false → W.all amtB = false from fun hv => List.all_eq_false.2 ⟨x, List.mem_of_getElem? hx, by rw [hv]; simp⟩)
      have HSS := Lib.hid (show (W.take (min (k + 1) 256)).sum = (W.take (min k 256)).sum + (if k < 256 then x else 0) by
        by_cases q : k < 256
        · rw [Nat.min_eq_left (by omega), Nat.min_eq_left (by omega), take_at hx, List.sum_append, if_pos q]; simp
        · rw [Nat.min_eq_right (by omega), Nat.min_eq_right (by omega), if_neg q]; simp)
      rw [hxe] at c0
      simp only [icI, List.getElem?_cons_zero, Nat.add_zero, Nat.mul_one] at c0
      have A2 := A.out x w
      have hk0 : (0 : Int) ≤ (k : Int) := by omega
      have hk1 : (k : Int) < (W.length : Int) := by omega
      generalize (W.take (min k 256)).sum = S at *
      obtain ⟨s1, s2⟩ := hs
      cases hv : amtB x
      · rw [hv] at A2
        have A2 := Lib.hid A2
        rename_i A0
        have HE := Lib.hid (show Z = (0, 2) by rw [HZ.out, if_pos (Or.inr (HN.out hv))])
        clear hc A0 hv hx hxe
        go_wp2_with fail
        refine A2.out.mono ?_; rintro e w1 ⟨rfl, rfl⟩
        go_wp2_with fail
        go_ret2
        exact ⟨Chg.refl _ _, Or.inl (by rw [HE.out]; exact ⟨by decide, rfl⟩)⟩
      · have hx2 := amtB_iff.1 hv
        obtain ⟨x1, x2⟩ := hx2
        rw [hv] at A2
        have A2 := Lib.hid A2
        rename_i A0
        have HE := Lib.hid (HS.out.trans hv)
        clear hc A0 hv hx hxe
        by_cases hk6 : k < 256
        · have hk7 : (k : Int) < 256 := by omega
          rw [if_pos hk6] at HSS
          clear hk6
          go_wp2_with fail
          refine A2.out.mono ?_; rintro e w1 ⟨rfl, rfl⟩
          go_wp2_with fail
          exact ⟨⟨k + 1, by go_num, by rw [HSS.out], by omega, HE, trivial⟩, by simp [intOf]; omega⟩
        · have hk7 : ¬ (k : Int) < 256 := by omega
          rw [if_neg hk6] at HSS
          clear hk6
          go_wp2_with fail
          refine A2.out.mono ?_; rintro e w1 ⟨rfl, rfl⟩
          go_wp2_with fail
          exact ⟨⟨k + 1, by go_num, by rw [HSS.out]; simp, by omega, HE, trivial⟩, by simp [intOf]; omega⟩
    · have hke : k = W.length := by omega
      subst hke
      have hall : W.all amtB = true := by have := HT.out; rwa [List.take_length] at this
      have HZ1 := Lib.hid (HZ.out.trans (if_neg (by rw [H1.out, hall]; simp)))
      have HALL := Lib.hid hall
      clear hall hkl
      by_cases h3 : 256 < W.length
      · have h3' : (256 : Int) < (W.length : Int) := by omega
        have HE := Lib.hid (show Z = (0, 3) by rw [HZ1.out, if_pos h3])
        generalize (W.take (min W.length 256)).sum = S at *
        go_wp2_with fail
        go_ret2
        exact ⟨Chg.refl _ _, Or.inl (by rw [HE.out]; exact ⟨by decide, rfl⟩)⟩
      have h3' : ¬ (256 : Int) < (W.length : Int) := by omega
      have HZ2 := Lib.hid (HZ1.out.trans (if_neg h3))
      rw [Nat.min_eq_left (by omega), List.take_length] at hs ⊢
      by_cases h4 : W = [] ∧ t ≠ 0
      · have HE := Lib.hid (show Z = (0, 5) by rw [HZ2.out, if_pos h4])
        have h5 : ((W.length : Int) == 0) = true := by rw [h4.1]; rfl
        have h6 : (t != 0) = true := by rw [bne_iff_ne]; exact h4.2
        have h6' : t ≠ 0 := h4.2
        clear h4
        go_wp2_with fail
        go_ret2
        exact ⟨Chg.refl _ _, Or.inl (by rw [HE.out]; exact ⟨by decide, rfl⟩)⟩
      have HZ3 := Lib.hid (HZ2.out.trans (if_neg h4))
      have hcase : (((W.length : Int) == 0) = false ∧ True) ∨ ((((W.length : Int) == 0) = true) ∧ (t != 0) = false) := by
        by_cases q : W = []
        · refine Or.inr ⟨by rw [q]; rfl, ?_⟩
          rw [bne_eq_false_iff_eq]
          exact Classical.byContradiction fun r => h4 ⟨q, r⟩
        · refine Or.inl ⟨?_, trivial⟩
          rw [beq_eq_false_iff_ne]
          have := List.length_pos_iff.2 q
          omega
      have hn : W.length ≤ 256 := by omega
      have HNIL := Lib.hid (show W = [] → t = 0 from fun q => Classical.byContradiction fun r => h4 ⟨q, r⟩)
      clear h3 h4 HZ HZ1 HZ2 HT
      by_cases hS : 1000000000000 < W.sum
      · have HE := Lib.hid (HZ3.out.trans (if_pos hS))
        generalize W.sum = S at *
        rcases hcase with ⟨h5, -⟩ | ⟨h5, h6⟩
        all_goals
          go_wp2_with fail
          go_ret2
          exact ⟨Chg.refl _ _, Or.inl (by rw [HE.out]; exact ⟨by decide, rfl⟩)⟩
      · have HE := Lib.hid (HZ3.out.trans (if_neg hS))
        have HSUM := Lib.hid (show W.sum ≤ 1000000000000 by omega)
        have HA := Lib.hid (fun w' (hc : Chg [] w w') => HIn.out.kept hc)
        have ha8 : (0 + W.length) * 8 ≤ 140737488355328 := by omega
        have ha9 : 0 + W.length ≤ maxLen := by unfold maxLen; omega
        obtain ⟨ht0, ht1⟩ := amtB_iff.1 H1.out
        by_cases hz : W.sum = 0
        · have hzb : (W.sum == 0) = true := by rw [hz]; rfl
          have EW := Lib.hid (show effW W = W.map (fun _ => 1) by unfold effW; rw [if_pos hz])
          have ES0 := Lib.hid (show effS W = (W.length : Int) by unfold effS; rw [if_pos hz])
          rw [hz] at HE ⊢
          clear hzb hz hs
          rcases hcase with ⟨h5, -⟩ | ⟨h5, h6⟩
          all_goals
            go_wp2_with (at_builtin; refine wpl_appendsI rfl _ _ 22 rfl w.heap.size 3 _ 8 Tryz.underlying22 iInfo rfl (by decide) icI_len icI_one (.slice (some ⟨w.heap.size, 0, none⟩) 0 0) [] rfl (RowOf.empty (g := w.heap.size) (Nat.le_refl _) (heap_alloc_new _ _) rfl) a cap W rfl (HA.out _ ((Chg.refl _ _).alloc _)) ha9 ha8 (by simp) ?_; intro v w2 hr2 hc2; obtain ⟨la, lc, rfl⟩ := RowOf.shape hr2; rw [List.nil_append] at hr2; have R0 := Lib.hid (show RowOf icI 1 w2 w.heap.size 3 (.slice la W.length lc) ((W.take 0).map (fun _ => 1) ++ W.drop 0) by simpa using hr2); have C0 := Lib.hid (show Chg [] w w2 from ((Chg.refl [] w).alloc _).trans hc2 (by simp) (fun x hx hlt => by simp [Value.ownBlock] at hx; omega)); clear hr2 hc2)
            go_loopw [9] (fun i wr => ∃ k : Nat, i = .int .i64 k ∧ k ≤ W.length ∧ Hid (RowOf icI 1 wr w.heap.size 3 (.slice la W.length lc) ((W.take k).map (fun _ => 1) ++ W.drop k)) ∧ Hid (Chg [] w wr)) (fun i _ => W.length - (intOf i).toNat)
            case atStart => exact ⟨0, rfl, Nat.zero_le _, R0, C0⟩
            case round =>
              obtain ⟨k, rfl, hk, HR, HC⟩ := hrel
              by_cases hkn : k < W.length
              · have hL : ((W.take k).map (fun _ => (1 : Int)) ++ W.drop k).length = W.length := by simp; omega
                rcases RowOf.at HR.out icI_len with ⟨_, h2⟩ | ⟨g, cp, h1, h2, h3, h4, h5', h6', h7⟩
                · exfalso; rw [h2] at hL; simp at hL; omega
                · rw [hL] at h1
                  cases h1
                  obtain ⟨v, hv⟩ : ∃ v, wr.cell? ⟨g, k, none⟩ = some v := by
                    have := h4 k (by rw [hL]; exact hkn) 0 (by omega)
                    simp only [icI, List.getElem?_cons_zero, Nat.add_zero, Nat.mul_one] at this
                    exact ⟨_, this⟩
                  have HN := Lib.hid (show RowOf icI 1 (wr.setCell ⟨g, k, none⟩ (.int .i64 1)) w.heap.size 3 (.slice (some ⟨g, 0, none⟩) W.length lc) ((W.take (k + 1)).map (fun _ => 1) ++ W.drop (k + 1)) from by
                    have hs := rowI_set HR.out (k := k) (by rw [hL]; exact hkn) 1
                    obtain ⟨x, hx⟩ : ∃ x, W[k]? = some x := ⟨W[k], List.getElem?_eq_getElem hkn⟩
                    have e : ((W.take k).map (fun _ => (1 : Int)) ++ W.drop k).set k 1 = (W.take (k + 1)).map (fun _ => 1) ++ W.drop (k + 1) := by
                      rw [take_at hx, drop_at hx, List.set_append, if_neg (by simp; omega)]
                      rw [List.length_map, List.length_take, Nat.min_eq_left (by omega), Nat.sub_self]
                      simp
                    rwa [e] at hs)
                  have HC2 := Lib.hid (show Chg [] w (wr.setCell ⟨g, k, none⟩ (.int .i64 1)) from HC.out.setCell _ _ (fun q => absurd q (by simp only; omega)))
                  have hk0 : (0 : Int) ≤ (k : Int) := by omega
                  have hk1 : (k : Int) < (W.length : Int) := by omega
                  clear hL h2 h3 h4 h6'
                  go_wp2_with fail
                  exact ⟨⟨k + 1, by go_num, by omega, HN, HC2⟩, by simp [intOf]; omega⟩
              · have hke : k = W.length := by omega
                have hkn2 : ¬ (k : Int) < (W.length : Int) := by omega
                obtain ⟨w2, hw2⟩ : ∃ w2, w2 = wr := ⟨_, rfl⟩
                subst hw2
                have R2 := Lib.hid (show RowOf icI 1 w2 w.heap.size 3 (.slice la W.length lc) (effW W) by have := HR.out; rw [hke, List.take_length, List.drop_length, List.append_nil] at this; rw [EW.out]; exact this)
                have C2 := HC
                have ES := ES0
                clear hke R0 C0 HR HC ES0
                go_wp2_with fail
                have I0 := Lib.hid (show RsI t W w w2 ((w2.alloc (.cells #[] 3)).alloc (.cells #[] 3)) la lc (some ⟨w2.heap.size, 0, none⟩) 0 (some ⟨w2.heap.size + 1, 0, none⟩) 0 0 from
                  ⟨RowOf.empty (g := w2.heap.size) C2.out.size (blk_alloc (heap_alloc_new _ _)) rfl, RowOf.empty (g := w2.heap.size + 1) (Nat.le_trans C2.out.size (Nat.le_succ _)) (by have := heap_alloc_new (w2.alloc (.cells #[] 3)) (.cells #[] 3); rwa [World.size_alloc] at this) rfl,
                   R2.out.kept (((Chg.refl [] w2).alloc _).alloc _) (by simp), fun g g' hg hg' => by cases hg; cases hg'; exact Nat.ne_of_lt (Nat.lt_succ_self _), fun g hg => by cases hg; exact Nat.le_refl _, fun g hg => by cases hg; exact Nat.le_succ _, fun g hg => (RowOf.block R2.out g hg).2, (C2.out.alloc _).alloc _, by simp; omega⟩)
                go_loopw [10, 11, 12, 13] (fun ov rv lf i wr => ∃ (k co cr : Nat) (oa ra : Option Addr), ov = .slice oa k co ∧ rv = .slice ra k cr ∧ lf = .int .i64 (t - ((shQ t W).take k).sum) ∧ i = .int .i64 k ∧ k ≤ W.length ∧ Hid (RsI t W w w2 wr la lc oa co ra cr k)) (fun _ _ _ i _ => W.length - (intOf i).toNat)
                case atStart => exact ⟨0, _, _, _, _, rfl, rfl, by simp, rfl, Nat.zero_le _, I0⟩
                case round =>
                  obtain ⟨k, co, cr, oa, ra, rfl, rfl, rfl, rfl, hk, HI⟩ := hrel
                  by_cases hkn : k < W.length
                  · obtain ⟨u, hu⟩ : ∃ u, (effW W)[k]? = some u := ⟨(effW W)[k]'(by rw [effW_len]; exact hkn), List.getElem?_eq_getElem _⟩
                    obtain ⟨m1, m2, m3, m4, m5, m6, m7, m8, m9, m10⟩ := share_step ht0 ht1 HALL.out HSUM.out hn (List.mem_of_getElem? hu)
                    have hq : (shQ t W)[k]? = some (quo t (effS W) u) := by unfold shQ; rw [List.getElem?_map, hu]; rfl
                    have hr : (shR t W)[k]? = some (rst t (effS W) u) := by unfold shR; rw [List.getElem?_map, hu]; rfl
                    have i1 := HI.out
                    have M := Lib.hid (fun w' => rmuldiv_any t u (effS W) w')
                    rw [m1] at M
                    rw [ES.out] at m6 m7 m10 M hq hr m1 m2 m3 m8 m9
                    generalize quo t (W.length : Int) u = q at *
                    generalize rst t (W.length : Int) u = r at *
                    have zr := rest_wrap m10 m8 m9
                    have zt : IntKind.u64.wrap t = t := u64_in ht0 (by omega)
                    have zu : IntKind.u64.wrap u = u := u64_in m4 (by omega)
                    have zq : IntKind.u64.wrap q = q := u64_in m2 (by omega)
                    have zS : IntKind.u64.wrap (W.length : Int) = (W.length : Int) := u64_in (by omega) (by omega)
                    rcases RowOf.at i1.row icI_len with ⟨_, h2⟩ | ⟨g, cp, h1, h2, h3, h4, h5, h6, h7⟩
                    · exfalso; rw [h2] at hu; simp at hu
                    · rw [effW_len] at h1
                      cases h1
                      have hul : k < (effW W).length := by rw [effW_len]; exact hkn
                      have d0 := h4 k hul 0 (by omega)
                      rw [(List.getElem?_eq_some_iff.1 hu).2] at d0
                      simp only [icI, List.getElem?_cons_zero, Nat.add_zero, Nat.mul_one] at d0
                      have hk0 : (0 : Int) ≤ (k : Int) := by omega
                      have hk1 : (k : Int) < (W.length : Int) := by omega
                      have HS := Lib.hid (show t - ((shQ t W).take k).sum - q = t - ((shQ t W).take (k + 1)).sum by rw [take_at hq, List.sum_append]; simp; omega)
                      have hqs := sum_nn_le (t := t) (W := W) ht0 HALL.out HNIL.out k
                      have hql : ((shQ t W).take k).length = k := by rw [List.length_take, shQ_len]; omega
                      have hrl : ((shR t W).take k).length = k := by rw [List.length_take, shR_len]; omega
                      have HQT := Lib.hid (show (shQ t W).take k ++ [q] = (shQ t W).take (k + 1) from (take_at hq).symm)
                      have HRT := Lib.hid (show (shR t W).take k ++ [r] = (shR t W).take (k + 1) from (take_at hr).symm)
                      have hml : k + 1 ≤ maxLen := by unfold maxLen; omega
                      have hmb : (k + 1) * 8 ≤ 140737488355328 := by omega
                      have HU := Lib.hid hu
                      generalize ((shQ t W).take k).sum = QS at *
                      clear i1 h2 h3 h4 h5 h6 hu hul m1 m10 hq hr
                      go_wp2_with fail
                      refine (M.out _).mono ?_; rintro e w3 ⟨rfl, hc3⟩
                      have J := Lib.hid (HI.out.keep hc3)
                      clear hc3 d0 h7 M HI
                      have d3 := (row_cell J.out.row HU.out).1
                      have l3 := (row_cell J.out.row HU.out).2.2
                      have JC := Lib.hid J.out.chg.size
                      go_wp2_with (first
                        | (at_builtin; refine wpl_appendL rfl _ _ 22 rfl w.heap.size 3 _ 8 Tryz.underlying22 iInfo rfl (by decide) icI_len icI_one (.slice oa k co) ((shQ t W).take k) rfl (J.out.out.kept ((Chg.refl [] w3).alloc _) (by simp)) w3.heap.size _ q _ _ _ rfl (heap_alloc_new w3 _) rfl (by rw [hql]; exact hml) (by rw [hql]; exact hmb) (Nat.le_trans JC.out ((Chg.refl [] w3).alloc _).size) ?_; intro g4 c4 w4 hr4 hg4 ho4 _; rw [hql, HQT.out] at hr4; rw [hql]; have J4 := Lib.hid (J.out.mid C2.out.size hr4 (Chg.ofRow (v := .slice oa k co) hg4) ho4); have d4 := (row_cell J4.out.row HU.out).1; have l4 := (row_cell J4.out.row HU.out).2.2; have JC4 := Lib.hid J4.out.chg.size; clear hr4 hg4 ho4 d3 l3)
                        | (at_builtin; refine wpl_appendL rfl _ _ 22 rfl w.heap.size 3 _ 8 Tryz.underlying22 iInfo rfl (by decide) icI_len icI_one (.slice ra k cr) ((shR t W).take k) rfl (J4.out.rest.kept ((Chg.refl [] w4).alloc _) (by simp)) w4.heap.size _ r _ _ _ rfl (heap_alloc_new w4 _) rfl (by rw [hrl]; exact hml) (by rw [hrl]; exact hmb) (Nat.le_trans JC4.out ((Chg.refl [] w4).alloc _).size) ?_; intro g5 c5 w5 hr5 hg5 ho5 _; rw [hrl, HRT.out] at hr5; rw [hrl]; have J5 := Lib.hid (J4.out.next C2.out.size hr5 (Chg.ofRow (v := .slice ra k cr) hg5) ho5); clear hr5 hg5 ho5))
                      exact ⟨⟨k + 1, c4, c5, _, _, rfl, rfl, by rw [← HS.out], by go_num, by omega, J5⟩, by simp [intOf]; omega⟩
                  · have hke : k = W.length := by omega
                    have hkn2 : ¬ (k : Int) < (W.length : Int) := by omega
                    obtain ⟨l1, l2⟩ := left_bounds (t := t) (all_nn HALL.out) HNIL.out
                    obtain ⟨m, hm⟩ : ∃ m : Nat, leftOf t W = (m : Int) := ⟨(leftOf t W).toNat, by omega⟩
                    have hmn : m ≤ W.length := by omega
                    have HL := Lib.hid (show t - ((shQ t W).take k).sum = (m : Int) by rw [← hm, hke, List.take_of_length_le (by rw [shQ_len]; omega)]; rfl)
                    have HM := Lib.hid hm
                    have i1 := HI.out
                    have OQ := Lib.hid (show RowOf icI 1 wr w.heap.size 3 (.slice oa W.length co) (bump (shQ t W) (O.take 0)) from by have := i1.out; rw [hke, List.take_of_length_le (by rw [shQ_len]; omega)] at this; exact this)
                    have OR := Lib.hid (show RowOf icI 1 wr w.heap.size 3 (.slice ra W.length cr) (strike (shR t W) (O.take 0)) from by have := i1.rest; rw [hke, List.take_of_length_le (by rw [shR_len]; omega)] at this; exact this)
                    have ONE := Lib.hid (show ∀ g g', (Value.slice oa W.length co).ownBlock = some g → (Value.slice ra W.length cr).ownBlock = some g' → g ≠ g' from hke ▸ i1.ne)
                    have OHO := Lib.hid (show ∀ g, (Value.slice oa W.length co).ownBlock = some g → w2.heap.size ≤ g from hke ▸ i1.ho)
                    have OHR := Lib.hid (show ∀ g, (Value.slice ra W.length cr).ownBlock = some g → w2.heap.size ≤ g from hke ▸ i1.hr)
                    have OC := Lib.hid i1.chg
                    have CS := Lib.hid C2.out.size
                    have ORD := Lib.hid (HO.out (by rw [HE.out]))
                    have HK := Lib.hid hke
                    clear i1 HI l1 l2 hm hke
                    go_wp2_with fail
                    rw [HL.out]
                    have hkk := HK.out
                    subst hkk
                    go_loopw [12] (fun lf wr => ∃ d j : Nat, lf = .int .i64 d ∧ d + j = m ∧ Hid (RowOf icI 1 wr w.heap.size 3 (.slice oa W.length co) (bump (shQ t W) (O.take j))) ∧ Hid (RowOf icI 1 wr w.heap.size 3 (.slice ra W.length cr) (strike (shR t W) (O.take j))) ∧ Hid (Chg [] w wr)) (fun lf _ => (intOf lf).toNat)
                    case atStart => exact ⟨m, 0, rfl, rfl, OQ, OR, OC⟩
                    case round =>
                      clear OQ OR OC
                      obtain ⟨d, j, rfl, hdj, BQ, BR, BC⟩ := hrel
                      by_cases hd : 0 < d
                      · have hjm : j < m := by omega
                        have hjO : j < O.length := by rw [ORD.out.len, shR_len]; omega
                        obtain ⟨x, hx⟩ : ∃ x : Nat, O[j] = (x : Int) := ⟨O[j].toNat, by have := ORD.out.range O[j] (List.getElem_mem hjO); omega⟩
                        have hxr := ORD.out.range O[j] (List.getElem_mem hjO)
                        rw [hx, shR_len] at hxr
                        have hOj : O[j]? = some (x : Int) := by rw [List.getElem?_eq_getElem hjO, hx]
                        have hpos : ∀ y ∈ shR t W, 0 ≤ y := by
                          intro y hy
                          obtain ⟨u, hu, rfl⟩ := List.mem_map.1 hy
                          have hne : W ≠ [] := by rintro rfl; simp at hmn; omega
                          exact Int.emod_nonneg _ (by have := effS_pos (all_nn HALL.out) hne; omega)
                        have HB := Lib.hid (show Best (strike (shR t W) (O.take j)) x from by have := ORD.out.best hpos hjO; rwa [hx, Int.toNat_natCast] at this)
                        have hTl : (strike (shR t W) (O.take j)).length = W.length := by rw [strike_len, shR_len]
                        have hBl : (bump (shQ t W) (O.take j)).length = W.length := by rw [bump_len, shQ_len]
                        have HN1 := Lib.hid (bump_snoc (Q := shQ t W) (O := O.take j) (x : Int))
                        have HN2 := Lib.hid (strike_snoc (R := shR t W) (O := O.take j) (x : Int))
                        rw [← take_at hOj, Int.toNat_natCast] at HN1 HN2
                        obtain ⟨v, hv⟩ : ∃ v, (bump (shQ t W) (O.take j))[x]? = some v := ⟨(bump (shQ t W) (O.take j))[x]'(by omega), List.getElem?_eq_getElem _⟩
                        have hvd : (bump (shQ t W) (O.take j)).getD x 0 = v := by rw [List.getD_eq_getElem?_getD, hv]; rfl
                        have hvb : 0 ≤ v ∧ v ≤ 1000000000001 := by
                          have hb := bump_at (Q := shQ t W) (O := O.take j) (ORD.out.nodup.sublist (List.take_sublist _ _)) (fun i hi => (ORD.out.range i (List.mem_of_mem_take hi)).1) x (by rw [shQ_len]; omega)
                          rw [hvd] at hb
                          have hu : (effW W).getD x 0 ∈ effW W := by rw [List.getD_eq_getElem?_getD, List.getElem?_eq_getElem (by rw [effW_len]; omega)]; exact List.getElem_mem _
                          have hs := share_step ht0 ht1 HALL.out HSUM.out hn hu
                          rw [quo_at (by omega)] at hb
                          have h2 := hs.2.1
                          have h3 := hs.2.2.1
                          split at hb <;> omega
                        rw [hvd] at HN1
                        have HV := Lib.hid hv
                        obtain ⟨v1, v2⟩ := hvb
                        have hxn : x < W.length := by omega
                        have hWp : 0 < W.length := by omega
                        clear hx hxr hOj hpos hv hvd
                        obtain ⟨B2, hB2⟩ : ∃ B2, B2 = bump (shQ t W) (O.take (j + 1)) := ⟨_, rfl⟩
                        obtain ⟨T2, hT2⟩ : ∃ T2, T2 = strike (shR t W) (O.take (j + 1)) := ⟨_, rfl⟩
                        rw [← hB2] at HN1
                        rw [← hT2] at HN2
                        have HB2 := Lib.hid hB2
                        have HT2 := Lib.hid hT2
                        clear hB2 hT2
                        generalize bump (shQ t W) (O.take j) = B at *
                        generalize strike (shR t W) (O.take j) = T at *
                        rcases RowOf.at BQ.out icI_len with ⟨_, h2⟩ | ⟨go, cpo, h1o, -, -, -, -, -, h7o⟩
                        · rw [h2] at hBl; simp at hBl; omega
                        rw [hBl] at h1o
                        cases h1o
                        rcases RowOf.at BR.out icI_len with ⟨_, h2⟩ | ⟨gr, cpr, h1r, -, -, -, -, -, h7r⟩
                        · rw [h2] at hTl; simp at hTl; omega
                        rw [hTl] at h1r
                        cases h1r
                        have hgne := ONE.out go gr rfl rfl
                        have hd2 : (0 : Int) < (d : Int) := by omega
                        obtain ⟨w5, hw5⟩ : ∃ w5, w5 = wr := ⟨_, rfl⟩
                        subst hw5
                        have HTL := Lib.hid hTl
                        have HBL := Lib.hid hBl
                        clear hTl hBl hjO
                        go_wp2_with fail
                        go_loopw [16, 17] (fun bv iv wr => ∃ b i : Nat, bv = .int .i64 b ∧ iv = .int .i64 i ∧ i ≤ W.length ∧ b < W.length ∧ Hid (PBest T b i) ∧ Hid (Chg [] w5 wr)) (fun _ iv _ => W.length - (intOf iv).toNat)
                        case atStart => exact ⟨0, 0, rfl, rfl, Nat.zero_le _, hWp, Lib.hid ⟨fun x hx => absurd hx (Nat.not_lt_zero _), fun x hx => absurd hx (Nat.not_lt_zero _)⟩, Lib.hid (Chg.refl _ _)⟩
                        case round =>
                          obtain ⟨b, i, rfl, rfl, hi, hb, HP, HC5⟩ := hrel
                          by_cases hin : i < W.length
                          · have R5 := BR.out.kept HC5.out (by simp)
                            obtain ⟨ti, hti⟩ : ∃ ti, T[i]? = some ti := ⟨T[i]'(by rw [HTL.out]; exact hin), List.getElem?_eq_getElem _⟩
                            obtain ⟨tb, htb⟩ : ∃ tb, T[b]? = some tb := ⟨T[b]'(by rw [HTL.out]; exact hb), List.getElem?_eq_getElem _⟩
                            have c1 := (row_cell R5 hti).1
                            have c2 := (row_cell R5 htb).1
                            have lb := (row_cell R5 htb).2.2
                            have gi : T.getD i 0 = ti := by rw [List.getD_eq_getElem?_getD, hti]; rfl
                            have gb : T.getD b 0 = tb := by rw [List.getD_eq_getElem?_getD, htb]; rfl
                            have hi0 : (0 : Int) ≤ (i : Int) := by omega
                            have hi1 : (i : Int) < (W.length : Int) := by omega
                            have hb0 : (0 : Int) ≤ (b : Int) := by omega
                            have hb1 : (b : Int) < (W.length : Int) := by omega
                            by_cases hgt : tb < ti
                            · have HP2 := Lib.hid (HP.out.up (by rw [gi, gb]; exact hgt))
                              have HC6 := Lib.hid HC5.out
                              clear R5 hti htb gi gb
                              go_wp2_with fail
                              go_quiet (fail)
                              go_wp2_with fail
                              exact ⟨⟨i, i + 1, rfl, by go_num, by omega, hin, HP2, Lib.hid (HC6.out.drewN _)⟩, by simp [intOf]; omega⟩
                            · have HP2 := Lib.hid (HP.out.stay (by rw [gi, gb]; exact hgt))
                              have HC6 := Lib.hid HC5.out
                              clear R5 hti htb gi gb
                              go_wp2_with fail
                              go_quiet (fail)
                              go_wp2_with fail
                              exact ⟨⟨b, i + 1, rfl, by go_num, by omega, hb, HP2, Lib.hid (HC6.out.drewN _)⟩, by simp [intOf]; omega⟩
                          · have hie : i = W.length := by omega
                            have hbx : b = x := Best.unique (HP.out.best (by rw [HTL.out]; exact hb) (by rw [HTL.out, hie])) HB.out
                            have hin2 : ¬ (i : Int) < (W.length : Int) := by omega
                            subst hbx
                            have Q5 := BQ.out.kept HC5.out (by simp)
                            have R5 := BR.out.kept HC5.out (by simp)
                            have c1 := (row_cell Q5 HV.out).1
                            have f1 := (row_cell Q5 HV.out).2.1
                            have l1 := (row_cell Q5 HV.out).2.2
                            obtain ⟨tb, htb⟩ : ∃ tb, T[b]? = some tb := ⟨T[b]'(by rw [HTL.out]; exact hb), List.getElem?_eq_getElem _⟩
                            have c2 := (row_cell R5 htb).1
                            have f2 := (row_cell R5 htb).2.1
                            have l2 := (row_cell R5 htb).2.2
                            have hb0 : (0 : Int) ≤ (b : Int) := by omega
                            have hb1 : (b : Int) < (W.length : Int) := by omega
                            have hgo := OHO.out go rfl
                            have hgr := OHR.out gr rfl
                            have NQ := Lib.hid (show RowOf icI 1 ((wr.setCell ⟨go, b, none⟩ (.int .i64 (v + 1))).setCell ⟨gr, b, none⟩ (.int .i64 (-1))) w.heap.size 3 (.slice (some ⟨go, 0, none⟩) W.length co) B2 from by
                              rw [HN1.out]
                              exact (rowI_set Q5 (by rw [HBL.out]; exact hb) (v + 1)).kept (S := [gr]) ((Chg.refl [gr] _).setCell _ _ (by simp)) (fun g hg hm => by cases hg; simp only [List.mem_singleton] at hm; exact hgne hm))
                            have NR := Lib.hid (show RowOf icI 1 ((wr.setCell ⟨go, b, none⟩ (.int .i64 (v + 1))).setCell ⟨gr, b, none⟩ (.int .i64 (-1))) w.heap.size 3 (.slice (some ⟨gr, 0, none⟩) W.length cr) T2 from by
                              rw [HN2.out]
                              exact rowI_set (R5.kept (S := [go]) ((Chg.refl [go] _).setCell _ _ (by simp)) (fun g hg hm => by cases hg; simp only [List.mem_singleton] at hm; exact hgne hm.symm)) (by rw [HTL.out]; exact hb) (-1))
                            have NC := Lib.hid (show Chg [] w ((wr.setCell ⟨go, b, none⟩ (.int .i64 (v + 1))).setCell ⟨gr, b, none⟩ (.int .i64 (-1))) from ((BC.out.thenSame HC5.out).setCell _ _ (fun q => absurd q (by have := CS.out; simp only; omega))).setCell _ _ (fun q => absurd q (by have := CS.out; simp only; omega)))
                            have c3 : (wr.setCell ⟨go, b, none⟩ (.int .i64 (v + 1))).cell? ⟨gr, b, none⟩ = some (.int .i64 tb) := (World.cell?_of_block (blk_set_ne (b' := gr) (b := go) b (.int .i64 (v + 1)) (Ne.symm hgne))).trans c2
                            have HD := Lib.hid (show (d : Int) - 1 = ((d - 1 : Nat) : Int) by omega)
                            clear Q5 R5 htb hie
                            go_wp2_with fail
                            rw [HD.out]
                            exact ⟨⟨d - 1, j + 1, rfl, by omega, by rw [← HB2.out]; exact NQ, by rw [← HT2.out]; exact NR, NC⟩, by simp [intOf]; omega⟩
                      · have hd0 : d = 0 := by omega
                        subst hd0
                        have HF := Lib.hid (show RowOf icI 1 wr w.heap.size 3 (.slice oa W.length co) (shares t W O) from by have := BQ.out; unfold shares; rw [HM.out, Int.toNat_natCast]; rwa [show j = m by omega] at this)
                        go_wp2_with fail
                        go_ret2
                        exact ⟨BC.out, Or.inr ⟨by rw [HE.out], _, rfl, HF.out⟩⟩
        · have hzb : (W.sum == 0) = false := by rw [beq_eq_false_iff_ne]; exact hz
          have EW := Lib.hid (show effW W = W by unfold effW; rw [if_neg hz])
          have ES := Lib.hid (show effS W = W.sum by unfold effS; rw [if_neg hz])
          obtain ⟨S, hSe⟩ : ∃ S, S = W.sum := ⟨_, rfl⟩
          rw [← hSe] at hS hz hzb ES hs HE ⊢
          clear hSe
          rcases hcase with ⟨h5, -⟩ | ⟨h5, h6⟩
          all_goals
            go_wp2_with (at_builtin; refine wpl_appendsI rfl _ _ 22 rfl w.heap.size 3 _ 8 Tryz.underlying22 iInfo rfl (by decide) icI_len icI_one (.slice (some ⟨w.heap.size, 0, none⟩) 0 0) [] rfl (RowOf.empty (g := w.heap.size) (Nat.le_refl _) (heap_alloc_new _ _) rfl) a cap W rfl (HA.out _ ((Chg.refl _ _).alloc _)) ha9 ha8 (by simp) ?_; intro v w2 hr2 hc2; obtain ⟨la, lc, rfl⟩ := RowOf.shape hr2; rw [List.nil_append] at hr2; have R2 := Lib.hid (show RowOf icI 1 w2 w.heap.size 3 (.slice la W.length lc) (effW W) by rw [EW.out]; exact hr2); have C2 := Lib.hid (show Chg [] w w2 from ((Chg.refl [] w).alloc _).trans hc2 (by simp) (fun x hx hlt => by simp [Value.ownBlock] at hx; omega)); clear hr2 hc2)
            have I0 := Lib.hid (show RsI t W w w2 ((w2.alloc (.cells #[] 3)).alloc (.cells #[] 3)) la lc (some ⟨w2.heap.size, 0, none⟩) 0 (some ⟨w2.heap.size + 1, 0, none⟩) 0 0 from
              ⟨RowOf.empty (g := w2.heap.size) C2.out.size (blk_alloc (heap_alloc_new _ _)) rfl, RowOf.empty (g := w2.heap.size + 1) (Nat.le_trans C2.out.size (Nat.le_succ _)) (by have := heap_alloc_new (w2.alloc (.cells #[] 3)) (.cells #[] 3); rwa [World.size_alloc] at this) rfl,
               R2.out.kept (((Chg.refl [] w2).alloc _).alloc _) (by simp), fun g g' hg hg' => by cases hg; cases hg'; exact Nat.ne_of_lt (Nat.lt_succ_self _), fun g hg => by cases hg; exact Nat.le_refl _, fun g hg => by cases hg; exact Nat.le_succ _, fun g hg => (RowOf.block R2.out g hg).2, (C2.out.alloc _).alloc _, by simp; omega⟩)
            go_loopw [10, 11, 12, 13] (fun ov rv lf i wr => ∃ (k co cr : Nat) (oa ra : Option Addr), ov = .slice oa k co ∧ rv = .slice ra k cr ∧ lf = .int .i64 (t - ((shQ t W).take k).sum) ∧ i = .int .i64 k ∧ k ≤ W.length ∧ Hid (RsI t W w w2 wr la lc oa co ra cr k)) (fun _ _ _ i _ => W.length - (intOf i).toNat)
            case atStart => exact ⟨0, _, _, _, _, rfl, rfl, by simp, rfl, Nat.zero_le _, I0⟩
            case round =>
              obtain ⟨k, co, cr, oa, ra, rfl, rfl, rfl, rfl, hk, HI⟩ := hrel
              by_cases hkn : k < W.length
              · obtain ⟨u, hu⟩ : ∃ u, (effW W)[k]? = some u := ⟨(effW W)[k]'(by rw [effW_len]; exact hkn), List.getElem?_eq_getElem _⟩
                obtain ⟨m1, m2, m3, m4, m5, m6, m7, m8, m9, m10⟩ := share_step ht0 ht1 HALL.out HSUM.out hn (List.mem_of_getElem? hu)
                have hq : (shQ t W)[k]? = some (quo t (effS W) u) := by unfold shQ; rw [List.getElem?_map, hu]; rfl
                have hr : (shR t W)[k]? = some (rst t (effS W) u) := by unfold shR; rw [List.getElem?_map, hu]; rfl
                have i1 := HI.out
                have M := Lib.hid (fun w' => rmuldiv_any t u (effS W) w')
                rw [m1] at M
                rw [ES.out] at m6 m7 m10 M hq hr m1 m2 m3 m8 m9
                generalize quo t S u = q at *
                generalize rst t S u = r at *
                have zr := rest_wrap m10 m8 m9
                have zt : IntKind.u64.wrap t = t := u64_in ht0 (by omega)
                have zu : IntKind.u64.wrap u = u := u64_in m4 (by omega)
                have zq : IntKind.u64.wrap q = q := u64_in m2 (by omega)
                have zS : IntKind.u64.wrap S = S := u64_in (by omega) (by omega)
                rcases RowOf.at i1.row icI_len with ⟨_, h2⟩ | ⟨g, cp, h1, h2, h3, h4, h5, h6, h7⟩
                · exfalso; rw [h2] at hu; simp at hu
                · rw [effW_len] at h1
                  cases h1
                  have hul : k < (effW W).length := by rw [effW_len]; exact hkn
                  have d0 := h4 k hul 0 (by omega)
                  rw [(List.getElem?_eq_some_iff.1 hu).2] at d0
                  simp only [icI, List.getElem?_cons_zero, Nat.add_zero, Nat.mul_one] at d0
                  have hk0 : (0 : Int) ≤ (k : Int) := by omega
                  have hk1 : (k : Int) < (W.length : Int) := by omega
                  have HS := Lib.hid (show t - ((shQ t W).take k).sum - q = t - ((shQ t W).take (k + 1)).sum by rw [take_at hq, List.sum_append]; simp; omega)
                  have hqs := sum_nn_le (t := t) (W := W) ht0 HALL.out HNIL.out k
                  have hql : ((shQ t W).take k).length = k := by rw [List.length_take, shQ_len]; omega
                  have hrl : ((shR t W).take k).length = k := by rw [List.length_take, shR_len]; omega
                  have HQT := Lib.hid (show (shQ t W).take k ++ [q] = (shQ t W).take (k + 1) from (take_at hq).symm)
                  have HRT := Lib.hid (show (shR t W).take k ++ [r] = (shR t W).take (k + 1) from (take_at hr).symm)
                  have hml : k + 1 ≤ maxLen := by unfold maxLen; omega
                  have hmb : (k + 1) * 8 ≤ 140737488355328 := by omega
                  have HU := Lib.hid hu
                  generalize ((shQ t W).take k).sum = QS at *
                  clear i1 h2 h3 h4 h5 h6 hu hul m1 m10 hq hr
                  go_wp2_with fail
                  refine (M.out _).mono ?_; rintro e w3 ⟨rfl, hc3⟩
                  have J := Lib.hid (HI.out.keep hc3)
                  clear hc3 d0 h7 M HI
                  have d3 := (row_cell J.out.row HU.out).1
                  have l3 := (row_cell J.out.row HU.out).2.2
                  have JC := Lib.hid J.out.chg.size
                  go_wp2_with (first
                    | (at_builtin; refine wpl_appendL rfl _ _ 22 rfl w.heap.size 3 _ 8 Tryz.underlying22 iInfo rfl (by decide) icI_len icI_one (.slice oa k co) ((shQ t W).take k) rfl (J.out.out.kept ((Chg.refl [] w3).alloc _) (by simp)) w3.heap.size _ q _ _ _ rfl (heap_alloc_new w3 _) rfl (by rw [hql]; exact hml) (by rw [hql]; exact hmb) (Nat.le_trans JC.out ((Chg.refl [] w3).alloc _).size) ?_; intro g4 c4 w4 hr4 hg4 ho4 _; rw [hql, HQT.out] at hr4; rw [hql]; have J4 := Lib.hid (J.out.mid C2.out.size hr4 (Chg.ofRow (v := .slice oa k co) hg4) ho4); have d4 := (row_cell J4.out.row HU.out).1; have l4 := (row_cell J4.out.row HU.out).2.2; have JC4 := Lib.hid J4.out.chg.size; clear hr4 hg4 ho4 d3 l3)
                    | (at_builtin; refine wpl_appendL rfl _ _ 22 rfl w.heap.size 3 _ 8 Tryz.underlying22 iInfo rfl (by decide) icI_len icI_one (.slice ra k cr) ((shR t W).take k) rfl (J4.out.rest.kept ((Chg.refl [] w4).alloc _) (by simp)) w4.heap.size _ r _ _ _ rfl (heap_alloc_new w4 _) rfl (by rw [hrl]; exact hml) (by rw [hrl]; exact hmb) (Nat.le_trans JC4.out ((Chg.refl [] w4).alloc _).size) ?_; intro g5 c5 w5 hr5 hg5 ho5 _; rw [hrl, HRT.out] at hr5; rw [hrl]; have J5 := Lib.hid (J4.out.next C2.out.size hr5 (Chg.ofRow (v := .slice ra k cr) hg5) ho5); clear hr5 hg5 ho5))
                  exact ⟨⟨k + 1, c4, c5, _, _, rfl, rfl, by rw [← HS.out], by go_num, by omega, J5⟩, by simp [intOf]; omega⟩
              · have hke : k = W.length := by omega
                have hkn2 : ¬ (k : Int) < (W.length : Int) := by omega
                obtain ⟨l1, l2⟩ := left_bounds (t := t) (all_nn HALL.out) HNIL.out
                obtain ⟨m, hm⟩ : ∃ m : Nat, leftOf t W = (m : Int) := ⟨(leftOf t W).toNat, by omega⟩
                have hmn : m ≤ W.length := by omega
                have HL := Lib.hid (show t - ((shQ t W).take k).sum = (m : Int) by rw [← hm, hke, List.take_of_length_le (by rw [shQ_len]; omega)]; rfl)
                have HM := Lib.hid hm
                have i1 := HI.out
                have OQ := Lib.hid (show RowOf icI 1 wr w.heap.size 3 (.slice oa W.length co) (bump (shQ t W) (O.take 0)) from by have := i1.out; rw [hke, List.take_of_length_le (by rw [shQ_len]; omega)] at this; exact this)
                have OR := Lib.hid (show RowOf icI 1 wr w.heap.size 3 (.slice ra W.length cr) (strike (shR t W) (O.take 0)) from by have := i1.rest; rw [hke, List.take_of_length_le (by rw [shR_len]; omega)] at this; exact this)
                have ONE := Lib.hid (show ∀ g g', (Value.slice oa W.length co).ownBlock = some g → (Value.slice ra W.length cr).ownBlock = some g' → g ≠ g' from hke ▸ i1.ne)
                have OHO := Lib.hid (show ∀ g, (Value.slice oa W.length co).ownBlock = some g → w2.heap.size ≤ g from hke ▸ i1.ho)
                have OHR := Lib.hid (show ∀ g, (Value.slice ra W.length cr).ownBlock = some g → w2.heap.size ≤ g from hke ▸ i1.hr)
                have OC := Lib.hid i1.chg
                have CS := Lib.hid C2.out.size
                have ORD := Lib.hid (HO.out (by rw [HE.out]))
                have HK := Lib.hid hke
                clear i1 HI l1 l2 hm hke
                go_wp2_with fail
                rw [HL.out]
                have hkk := HK.out
                subst hkk
                go_loopw [12] (fun lf wr => ∃ d j : Nat, lf = .int .i64 d ∧ d + j = m ∧ Hid (RowOf icI 1 wr w.heap.size 3 (.slice oa W.length co) (bump (shQ t W) (O.take j))) ∧ Hid (RowOf icI 1 wr w.heap.size 3 (.slice ra W.length cr) (strike (shR t W) (O.take j))) ∧ Hid (Chg [] w wr)) (fun lf _ => (intOf lf).toNat)
                case atStart => exact ⟨m, 0, rfl, rfl, OQ, OR, OC⟩
                case round =>
                  clear OQ OR OC
                  obtain ⟨d, j, rfl, hdj, BQ, BR, BC⟩ := hrel
                  by_cases hd : 0 < d
                  · have hjm : j < m := by omega
                    have hjO : j < O.length := by rw [ORD.out.len, shR_len]; omega
                    obtain ⟨x, hx⟩ : ∃ x : Nat, O[j] = (x : Int) := ⟨O[j].toNat, by have := ORD.out.range O[j] (List.getElem_mem hjO); omega⟩
                    have hxr := ORD.out.range O[j] (List.getElem_mem hjO)
                    rw [hx, shR_len] at hxr
                    have hOj : O[j]? = some (x : Int) := by rw [List.getElem?_eq_getElem hjO, hx]
                    have hpos : ∀ y ∈ shR t W, 0 ≤ y := by
                      intro y hy
                      obtain ⟨u, hu, rfl⟩ := List.mem_map.1 hy
                      have hne : W ≠ [] := by rintro rfl; simp at hmn; omega
                      exact Int.emod_nonneg _ (by have := effS_pos (all_nn HALL.out) hne; omega)
                    have HB := Lib.hid (show Best (strike (shR t W) (O.take j)) x from by have := ORD.out.best hpos hjO; rwa [hx, Int.toNat_natCast] at this)
                    have hTl : (strike (shR t W) (O.take j)).length = W.length := by rw [strike_len, shR_len]
                    have hBl : (bump (shQ t W) (O.take j)).length = W.length := by rw [bump_len, shQ_len]
                    have HN1 := Lib.hid (bump_snoc (Q := shQ t W) (O := O.take j) (x : Int))
                    have HN2 := Lib.hid (strike_snoc (R := shR t W) (O := O.take j) (x : Int))
                    rw [← take_at hOj, Int.toNat_natCast] at HN1 HN2
                    obtain ⟨v, hv⟩ : ∃ v, (bump (shQ t W) (O.take j))[x]? = some v := ⟨(bump (shQ t W) (O.take j))[x]'(by omega), List.getElem?_eq_getElem _⟩
                    have hvd : (bump (shQ t W) (O.take j)).getD x 0 = v := by rw [List.getD_eq_getElem?_getD, hv]; rfl
                    have hvb : 0 ≤ v ∧ v ≤ 1000000000001 := by
                      have hb := bump_at (Q := shQ t W) (O := O.take j) (ORD.out.nodup.sublist (List.take_sublist _ _)) (fun i hi => (ORD.out.range i (List.mem_of_mem_take hi)).1) x (by rw [shQ_len]; omega)
                      rw [hvd] at hb
                      have hu : (effW W).getD x 0 ∈ effW W := by rw [List.getD_eq_getElem?_getD, List.getElem?_eq_getElem (by rw [effW_len]; omega)]; exact List.getElem_mem _
                      have hs := share_step ht0 ht1 HALL.out HSUM.out hn hu
                      rw [quo_at (by omega)] at hb
                      have h2 := hs.2.1
                      have h3 := hs.2.2.1
                      split at hb <;> omega
                    rw [hvd] at HN1
                    have HV := Lib.hid hv
                    obtain ⟨v1, v2⟩ := hvb
                    have hxn : x < W.length := by omega
                    have hWp : 0 < W.length := by omega
                    clear hx hxr hOj hpos hv hvd
                    obtain ⟨B2, hB2⟩ : ∃ B2, B2 = bump (shQ t W) (O.take (j + 1)) := ⟨_, rfl⟩
                    obtain ⟨T2, hT2⟩ : ∃ T2, T2 = strike (shR t W) (O.take (j + 1)) := ⟨_, rfl⟩
                    rw [← hB2] at HN1
                    rw [← hT2] at HN2
                    have HB2 := Lib.hid hB2
                    have HT2 := Lib.hid hT2
                    clear hB2 hT2
                    generalize bump (shQ t W) (O.take j) = B at *
                    generalize strike (shR t W) (O.take j) = T at *
                    rcases RowOf.at BQ.out icI_len with ⟨_, h2⟩ | ⟨go, cpo, h1o, -, -, -, -, -, h7o⟩
                    · rw [h2] at hBl; simp at hBl; omega
                    rw [hBl] at h1o
                    cases h1o
                    rcases RowOf.at BR.out icI_len with ⟨_, h2⟩ | ⟨gr, cpr, h1r, -, -, -, -, -, h7r⟩
                    · rw [h2] at hTl; simp at hTl; omega
                    rw [hTl] at h1r
                    cases h1r
                    have hgne := ONE.out go gr rfl rfl
                    have hd2 : (0 : Int) < (d : Int) := by omega
                    obtain ⟨w5, hw5⟩ : ∃ w5, w5 = wr := ⟨_, rfl⟩
                    subst hw5
                    have HTL := Lib.hid hTl
                    have HBL := Lib.hid hBl
                    clear hTl hBl hjO
                    go_wp2_with fail
                    go_loopw [16, 17] (fun bv iv wr => ∃ b i : Nat, bv = .int .i64 b ∧ iv = .int .i64 i ∧ i ≤ W.length ∧ b < W.length ∧ Hid (PBest T b i) ∧ Hid (Chg [] w5 wr)) (fun _ iv _ => W.length - (intOf iv).toNat)
                    case atStart => exact ⟨0, 0, rfl, rfl, Nat.zero_le _, hWp, Lib.hid ⟨fun x hx => absurd hx (Nat.not_lt_zero _), fun x hx => absurd hx (Nat.not_lt_zero _)⟩, Lib.hid (Chg.refl _ _)⟩
                    case round =>
                      obtain ⟨b, i, rfl, rfl, hi, hb, HP, HC5⟩ := hrel
                      by_cases hin : i < W.length
                      · have R5 := BR.out.kept HC5.out (by simp)
                        obtain ⟨ti, hti⟩ : ∃ ti, T[i]? = some ti := ⟨T[i]'(by rw [HTL.out]; exact hin), List.getElem?_eq_getElem _⟩
                        obtain ⟨tb, htb⟩ : ∃ tb, T[b]? = some tb := ⟨T[b]'(by rw [HTL.out]; exact hb), List.getElem?_eq_getElem _⟩
                        have c1 := (row_cell R5 hti).1
                        have c2 := (row_cell R5 htb).1
                        have lb := (row_cell R5 htb).2.2
                        have gi : T.getD i 0 = ti := by rw [List.getD_eq_getElem?_getD, hti]; rfl
                        have gb : T.getD b 0 = tb := by rw [List.getD_eq_getElem?_getD, htb]; rfl
                        have hi0 : (0 : Int) ≤ (i : Int) := by omega
                        have hi1 : (i : Int) < (W.length : Int) := by omega
                        have hb0 : (0 : Int) ≤ (b : Int) := by omega
                        have hb1 : (b : Int) < (W.length : Int) := by omega
                        by_cases hgt : tb < ti
                        · have HP2 := Lib.hid (HP.out.up (by rw [gi, gb]; exact hgt))
                          have HC6 := Lib.hid HC5.out
                          clear R5 hti htb gi gb
                          go_wp2_with fail
                          go_quiet (fail)
                          go_wp2_with fail
                          exact ⟨⟨i, i + 1, rfl, by go_num, by omega, hin, HP2, Lib.hid (HC6.out.drewN _)⟩, by simp [intOf]; omega⟩
                        · have HP2 := Lib.hid (HP.out.stay (by rw [gi, gb]; exact hgt))
                          have HC6 := Lib.hid HC5.out
                          clear R5 hti htb gi gb
                          go_wp2_with fail
                          go_quiet (fail)
                          go_wp2_with fail
                          exact ⟨⟨b, i + 1, rfl, by go_num, by omega, hb, HP2, Lib.hid (HC6.out.drewN _)⟩, by simp [intOf]; omega⟩
                      · have hie : i = W.length := by omega
                        have hbx : b = x := Best.unique (HP.out.best (by rw [HTL.out]; exact hb) (by rw [HTL.out, hie])) HB.out
                        have hin2 : ¬ (i : Int) < (W.length : Int) := by omega
                        subst hbx
                        have Q5 := BQ.out.kept HC5.out (by simp)
                        have R5 := BR.out.kept HC5.out (by simp)
                        have c1 := (row_cell Q5 HV.out).1
                        have f1 := (row_cell Q5 HV.out).2.1
                        have l1 := (row_cell Q5 HV.out).2.2
                        obtain ⟨tb, htb⟩ : ∃ tb, T[b]? = some tb := ⟨T[b]'(by rw [HTL.out]; exact hb), List.getElem?_eq_getElem _⟩
                        have c2 := (row_cell R5 htb).1
                        have f2 := (row_cell R5 htb).2.1
                        have l2 := (row_cell R5 htb).2.2
                        have hb0 : (0 : Int) ≤ (b : Int) := by omega
                        have hb1 : (b : Int) < (W.length : Int) := by omega
                        have hgo := OHO.out go rfl
                        have hgr := OHR.out gr rfl
                        have NQ := Lib.hid (show RowOf icI 1 ((wr.setCell ⟨go, b, none⟩ (.int .i64 (v + 1))).setCell ⟨gr, b, none⟩ (.int .i64 (-1))) w.heap.size 3 (.slice (some ⟨go, 0, none⟩) W.length co) B2 from by
                          rw [HN1.out]
                          exact (rowI_set Q5 (by rw [HBL.out]; exact hb) (v + 1)).kept (S := [gr]) ((Chg.refl [gr] _).setCell _ _ (by simp)) (fun g hg hm => by cases hg; simp only [List.mem_singleton] at hm; exact hgne hm))
                        have NR := Lib.hid (show RowOf icI 1 ((wr.setCell ⟨go, b, none⟩ (.int .i64 (v + 1))).setCell ⟨gr, b, none⟩ (.int .i64 (-1))) w.heap.size 3 (.slice (some ⟨gr, 0, none⟩) W.length cr) T2 from by
                          rw [HN2.out]
                          exact rowI_set (R5.kept (S := [go]) ((Chg.refl [go] _).setCell _ _ (by simp)) (fun g hg hm => by cases hg; simp only [List.mem_singleton] at hm; exact hgne hm.symm)) (by rw [HTL.out]; exact hb) (-1))
                        have NC := Lib.hid (show Chg [] w ((wr.setCell ⟨go, b, none⟩ (.int .i64 (v + 1))).setCell ⟨gr, b, none⟩ (.int .i64 (-1))) from ((BC.out.thenSame HC5.out).setCell _ _ (fun q => absurd q (by have := CS.out; simp only; omega))).setCell _ _ (fun q => absurd q (by have := CS.out; simp only; omega)))
                        have c3 : (wr.setCell ⟨go, b, none⟩ (.int .i64 (v + 1))).cell? ⟨gr, b, none⟩ = some (.int .i64 tb) := (World.cell?_of_block (blk_set_ne (b' := gr) (b := go) b (.int .i64 (v + 1)) (Ne.symm hgne))).trans c2
                        have HD := Lib.hid (show (d : Int) - 1 = ((d - 1 : Nat) : Int) by omega)
                        clear Q5 R5 htb hie
                        go_wp2_with fail
                        rw [HD.out]
                        exact ⟨⟨d - 1, j + 1, rfl, by omega, by rw [← HB2.out]; exact NQ, by rw [← HT2.out]; exact NR, NC⟩, by simp [intOf]; omega⟩
                  · have hd0 : d = 0 := by omega
                    subst hd0
                    have HF := Lib.hid (show RowOf icI 1 wr w.heap.size 3 (.slice oa W.length co) (shares t W O) from by have := BQ.out; unfold shares; rw [HM.out, Int.toNat_natCast]; rwa [show j = m by omega] at this)
                    go_wp2_with fail
                    go_ret2
                    exact ⟨BC.out, Or.inr ⟨by rw [HE.out], _, rfl, HF.out⟩⟩
end Go.Proofs.YtehjalgogjkdlaaGreatDoor
