/- Chapter 54: contracts: slices.Clone of lines; Refund, and the reference's. No condition. Chapter 53: contracts: between, Check of a price. No condition. Chapter 53: contracts: Billable; what a sum adds. No condition. Chapter 53: contract: what Amount's closure adds. No condition. -/
import Derived.Test.YtehjalgogjkdlaaDoorProg
import Derived.Lib.MinMax
import Derived.Test.YtehjalgogjkdlaaDoorZ11
import Derived.Test.YtehjalgogjkdlaaDoorZ12
import Derived.Test.YtehjalgogjkdlaaDoorZ08
import Derived.Test.YtehjalgogjkdlaaDoorZ01
import Derived.Test.YtehjalgogjkdlaaDoorZ07
namespace Go.Proofs.YtehjalgogjkdlaaDoor
set_option linter.unusedVariables false
set_option linter.unusedSimpArgs false
open Go.RowKit
theorem lnInfo : (Tryd.prog.info? 63).map (fun i => (i.zero, i.size, i.bytes)) = some (some (.agg #[.string ⟨#[]⟩, .int .i64 0, .int .i64 0, .int .i64 0, .int .i64 0, .int .i64 0]), 6, 56) := by kernel_rfl
set_option maxHeartbeats 2000000 in
set_option maxRecDepth 100000 in
theorem clonel_any (a : Option Addr) (cap : Nat) (l : List Ln) (w : World) (h : InIs lnC 6 w a cap l) (hz : l.length * 56 ≤ 140737488355328) : Calls Tryd.prog 26 #[.slice a l.length cap] w fun e w' => ∃ v, e = .returned v ∧ RowOf lnC 6 w' w.heap.size 63 v l ∧ Chg [] w w' := by
  have hm : l.length ≤ maxLen := by unfold maxLen; omega
  have qn : ∀ (w : World) (a : Option Addr) (n c n' c' : Nat), (binOp .eql 31 (.slice a n c) (.slice none n' c')).run Tryd.prog w = .ok (.bool a.isNone) w := fun w a n c n' c' => Lib.run_eql_slice_nil w _ _ a n c n' c' Tryd.underlying31
  cases a with
  | none =>
    obtain ⟨h1, h2⟩ := SlIs.none h.1
    subst h2
    have hc := h.2.2.2 rfl
    subst hc
    clear h
    go_enter Tryd.func26, Tryd.ntmps26
    go_wp2_with fail
    go_ret
    exact ⟨.slice none 0 0, rfl, RowOf.nil _ _ _, Chg.refl _ _⟩
  | some ad =>
    have H := Lib.hid h
    have h8 : (0 + l.length) * 56 ≤ 140737488355328 := by omega
    have h9 : 0 + l.length ≤ maxLen := by omega
    clear h
    go_enter Tryd.func26, Tryd.ntmps26
    go_wp2_with (at_builtin; refine wpl_appendsI rfl _ _ 31 rfl w.heap.size 63 _ 56 Tryd.underlying31 lnInfo rfl (by decide) lnC_len lnC_one (.slice (some ⟨w.heap.size, 0, none⟩) 0 0) [] rfl (RowOf.empty (g := w.heap.size) (Nat.le_refl _) (heap_alloc_new _ _) rfl) (some ad) cap l rfl (H.out.kept ((Chg.refl _ _).alloc _)) h9 h8 (by simp) ?_; intro v w2 hr2 hc2; rw [List.nil_append] at hr2; have R2 := Lib.hid hr2; have C2 := Lib.hid (show Chg [] w w2 from ((Chg.refl [] w).alloc _).trans hc2 (by simp) (fun x hx hlt => by simp [Value.ownBlock] at hx; omega)); clear hr2 hc2)
    go_ret
    exact ⟨v, rfl, R2.out, C2.out⟩
theorem st6_at {w : World} {b : Nat} {t : TypeId} {c0 c1 c2 c3 c4 c5 : Value} (x0 x1 x2 x3 x4 x5 : Value) (h : w.heap[b]? = some (.cells #[c0, c1, c2, c3, c4, c5] t (0, 0))) :
    ((((((w.setCell ⟨b, 0, none⟩ x0).setCell ⟨b, 1, none⟩ x1).setCell ⟨b, 2, none⟩ x2).setCell ⟨b, 3, none⟩ x3).setCell ⟨b, 4, none⟩ x4).setCell ⟨b, 5, none⟩ x5).heap[b]? = some (.cells #[x0, x1, x2, x3, x4, x5] t (0, 0)) := by
  have h0 := blk_set h 0 x0
  have h1 := blk_set h0 1 x1
  have h2 := blk_set h1 2 x2
  have h3 := blk_set h2 3 x3
  have h4 := blk_set h3 4 x4
  have h5 := blk_set h4 5 x5
  exact h5
theorem st6_chg {w0 w : World} {b : Nat} (x0 x1 x2 x3 x4 x5 : Value) (hb : w0.heap.size ≤ b) (h : Chg [] w0 w) :
    Chg [] w0 ((((((w.setCell ⟨b, 0, none⟩ x0).setCell ⟨b, 1, none⟩ x1).setCell ⟨b, 2, none⟩ x2).setCell ⟨b, 3, none⟩ x3).setCell ⟨b, 4, none⟩ x4).setCell ⟨b, 5, none⟩ x5) := by
  have q : ∀ j, (⟨b, j, none⟩ : Addr).block < w0.heap.size → (⟨b, j, none⟩ : Addr).block ∈ ([] : List Nat) := fun j hj => absurd (show b < w0.heap.size from hj) (by omega)
  exact (((((h.setCell _ _ (q 0)).setCell _ _ (q 1)).setCell _ _ (q 2)).setCell _ _ (q 3)).setCell _ _ (q 4)).setCell _ _ (q 5)
theorem st6_self {w : World} {b : Nat} (x0 x1 x2 x3 x4 x5 : Value) :
    Chg [b] w ((((((w.setCell ⟨b, 0, none⟩ x0).setCell ⟨b, 1, none⟩ x1).setCell ⟨b, 2, none⟩ x2).setCell ⟨b, 3, none⟩ x3).setCell ⟨b, 4, none⟩ x4).setCell ⟨b, 5, none⟩ x5) := by
  have q : ∀ j, (⟨b, j, none⟩ : Addr).block < w.heap.size → (⟨b, j, none⟩ : Addr).block ∈ [b] := fun j hj => by simp
  exact ((((((Chg.refl [b] w).setCell _ _ (q 0)).setCell _ _ (q 1)).setCell _ _ (q 2)).setCell _ _ (q 3)).setCell _ _ (q 4)).setCell _ _ (q 5)
theorem own_ne {g x n c : Nat} (h : x ≠ g) : x ∉ (Value.slice (some ⟨g, 0, none⟩) n c).ownBlock.toList := by
  intro q
  have : x = g := by simpa [Value.ownBlock] using q
  exact h this
theorem own_old {g n c k : Nat} (h : k ≤ g) : ∀ x ∈ (Value.slice (some ⟨g, 0, none⟩) n c).ownBlock.toList, x < k → x ∈ ([] : List Nat) := by
  intro x hx hlt
  have : x = g := by simpa [Value.ownBlock] using hx
  omega
def ivW (i : Inv) (v : Value) : Value := .agg #[.string i.tn, .int .i64 i.per, v, .int .i64 i.gr, .int .i64 i.re, .int .i64 i.nt]
def RefPost (w : World) (R : Inv × Int) (e : Ending) (w' : World) : Prop := ∃ v, e = .returned (.tuple #[ivW R.1 v, .int .i64 R.2]) ∧ RowOf lnC 6 w' w.heap.size 63 v R.1.ls ∧ Chg [] w w'
theorem muldiv_ref {g p : Int} (h0 : 0 ≤ g) (h1 : g ≤ 1000000000000) (h2 : 0 ≤ p) (h3 : p ≤ 1000) : mulDivZ g p 1000 = (g * p / 1000, 0) ∧ 0 ≤ g * p / 1000 ∧ g * p / 1000 ≤ g := by
  obtain ⟨g, rfl⟩ : ∃ k : Nat, g = k := ⟨g.toNat, by omega⟩
  obtain ⟨p, rfl⟩ : ∃ k : Nat, p = k := ⟨p.toNat, by omega⟩
  have e : ((g : Int) * (p : Int) / 1000) = ((g * p / 1000 : Nat) : Int) := by rw [← Int.natCast_mul]; rfl
  have hl : g * p / 1000 ≤ g := by
    have : g * p ≤ g * 1000 := Nat.mul_le_mul_left g (by omega)
    omega
  rw [e]
  refine ⟨?_, by omega, by omega⟩
  have := mulDivZ_nat (a := g) (b := p) (c := 1000) (by omega) (by omega) (by omega) (by omega)
  rw [if_neg (by omega)] at this
  exact this
set_option maxHeartbeats 8000000 in
set_option maxRecDepth 100000 in
theorem refund_any (i : Inv) (a : Option Addr) (cap : Nat) (pm : Int) (w : World) (h : InIs lnC 6 w a cap i.ls) (hg : i.good) (hz : i.ls.length * 56 ≤ 140737488355328) : Calls Tryd.prog 8 #[ivV i a cap, .int .i64 pm] w (RefPost w (refZ i pm)) := by
  obtain ⟨Z, hZ⟩ : ∃ Z, Z = refZ i pm := ⟨_, rfl⟩
  rw [← hZ]
  unfold refZ at hZ
  have HZ := Lib.hid hZ
  have H := Lib.hid h
  have HZZ := Lib.hid hz
  have A := Lib.hid (fun w' (hc : Chg [] w w') => check_any i a cap w' (h.1.kept hc) hg)
  have CL := Lib.hid (fun w' (hc : Chg [] w w') => clonel_any a cap i.ls w' (h.kept hc) hz)
  have HOK := Lib.hid (fun (q : invZ i = 0) => inv_ok q)
  obtain ⟨W1, hW1⟩ : ∃ W1, W1 = (w.alloc (ivO i a cap)).alloc (.cells #[.string ⟨#[]⟩, .int .i64 0, .slice none 0 0, .int .i64 0, .int .i64 0, .int .i64 0] 33) := ⟨_, rfl⟩
  have hC1 := Lib.hid (show Chg [] w W1 from hW1 ▸ ((Chg.refl _ _).alloc _).alloc _)
  have x1 := Lib.hid (show W1.heap[w.heap.size]? = some (ivO i a cap) from hW1 ▸ blk_alloc (heap_alloc_new _ _))
  have x2 := Lib.hid (show W1.heap[w.heap.size + 1]? = some (.cells #[.string ⟨#[]⟩, .int .i64 0, .slice none 0 0, .int .i64 0, .int .i64 0, .int .i64 0] 33) from by
    rw [hW1]
    have := heap_alloc_new (w.alloc (ivO i a cap)) (.cells #[.string ⟨#[]⟩, .int .i64 0, .slice none 0 0, .int .i64 0, .int .i64 0, .int .i64 0] 33)
    rwa [World.size_alloc] at this)
  have HW1 := Lib.hid hW1
  clear hW1 h hZ hz
  have k1 := blk_cell x1.out
  have lt2 := lt_of_heap x2.out
  unfold ivO at HW1 k1
  unfold ivV at A ⊢
  obtain ⟨E, hE⟩ : ∃ E, E = invZ i := ⟨_, rfl⟩
  rw [← hE] at HZ A HOK
  clear hE
  by_cases he : E = 0
  · subst he
    obtain ⟨-, -, -, ⟨hg0, hg1⟩, -, -, -, -, -⟩ := HOK.out rfl
    have HZ1 := Lib.hid (HZ.out.trans (if_neg (by simp)))
    have hpm : pm < 0 ∨ (0 ≤ pm ∧ 1000 < pm) ∨ (0 ≤ pm ∧ pm ≤ 1000) := by omega
    rcases hpm with hp | hp | hp
    · have HR := Lib.hid (HZ1.out.trans (if_pos (.inl hp)))
      go_enter Tryd.func8, Tryd.ntmps8
      go_wp2_with fail
      rw [← HW1.out]
      go_wp2_with fail
      refine (A.out _ hC1.out).mono ?_; rintro e w2 ⟨rfl, hc2⟩
      have C2 := Lib.hid (hC1.out.thenSame hc2)
      have X2 := Lib.hid (hc2.at (by simp) x2.out)
      have X1 := Lib.hid (hc2.at (by simp) x1.out)
      have f2 := blk_free X2.out
      have k3 := blk_cell X2.out
      have k4 := blk_cell X1.out
      unfold ivO at k4
      have lt3 := lt_of_heap X2.out
      clear hc2 k1
      go_wp2_with fail
      have r1 := blk_cell (st6_at (.string ⟨#[]⟩) (.int .i64 0) (.slice none 0 0) (.int .i64 0) (.int .i64 0) (.int .i64 0) X2.out)
      refine bodyPost_ret (v := .tuple #[.agg #[.string ⟨#[]⟩, .int .i64 0, .slice none 0 0, .int .i64 0, .int .i64 0, .int .i64 0], .int .i64 2]) (by simp [results, Tryd.results8, go_sem, r1]) rfl ?_
      rw [HR.out]
      exact ⟨_, rfl, RowOf.nil _ _ _, st6_chg _ _ _ _ _ _ (by omega) C2.out⟩
    · have HR := Lib.hid (HZ1.out.trans (if_pos (.inr hp.2)))
      obtain ⟨hp1, hp2⟩ := hp
      go_enter Tryd.func8, Tryd.ntmps8
      go_wp2_with fail
      rw [← HW1.out]
      go_wp2_with fail
      refine (A.out _ hC1.out).mono ?_; rintro e w2 ⟨rfl, hc2⟩
      have C2 := Lib.hid (hC1.out.thenSame hc2)
      have X2 := Lib.hid (hc2.at (by simp) x2.out)
      have X1 := Lib.hid (hc2.at (by simp) x1.out)
      have f2 := blk_free X2.out
      have k3 := blk_cell X2.out
      have k4 := blk_cell X1.out
      unfold ivO at k4
      have lt3 := lt_of_heap X2.out
      clear hc2 k1
      go_wp2_with fail
      have r1 := blk_cell (st6_at (.string ⟨#[]⟩) (.int .i64 0) (.slice none 0 0) (.int .i64 0) (.int .i64 0) (.int .i64 0) X2.out)
      refine bodyPost_ret (v := .tuple #[.agg #[.string ⟨#[]⟩, .int .i64 0, .slice none 0 0, .int .i64 0, .int .i64 0, .int .i64 0], .int .i64 2]) (by simp [results, Tryd.results8, go_sem, r1]) rfl ?_
      rw [HR.out]
      exact ⟨_, rfl, RowOf.nil _ _ _, st6_chg _ _ _ _ _ _ (by omega) C2.out⟩
    · obtain ⟨hp1, hp2⟩ := hp
      have HR := Lib.hid (HZ1.out.trans (if_neg (by omega)))
      obtain ⟨hmd, hq0, hq1⟩ := muldiv_ref hg0 hg1 hp1 hp2
      have M := Lib.hid (fun w' => muldiv_any i.gr pm 1000 w')
      have hM := M.out
      rw [hmd] at hM
      have M := Lib.hid hM
      generalize i.gr * pm / 1000 = q at *
      clear hmd hM
      go_enter Tryd.func8, Tryd.ntmps8
      go_wp2_with fail
      rw [← HW1.out]
      go_wp2_with fail
      refine (A.out _ hC1.out).mono ?_; rintro e w2 ⟨rfl, hc2⟩
      have C2 := Lib.hid (hC1.out.thenSame hc2)
      have X2 := Lib.hid (hc2.at (by simp) x2.out)
      have X1 := Lib.hid (hc2.at (by simp) x1.out)
      have f2 := blk_free X2.out
      have k3 := blk_cell X2.out
      have k4 := blk_cell X1.out
      unfold ivO at k4
      have lt3 := lt_of_heap X2.out
      clear hc2 k1
      go_wp2_with fail
      refine (M.out _).mono ?_; rintro e w3 ⟨rfl, hc3⟩
      have C3 := Lib.hid (C2.out.thenSame hc3)
      have Y2 := Lib.hid (hc3.at (by simp) X2.out)
      have Y1 := Lib.hid (hc3.at (by simp) X1.out)
      have k5 := blk_cell Y1.out
      unfold ivO at k5
      clear hc3 k3 k4 f2
      go_wp2_with fail
      refine (CL.out _ C3.out).mono ?_; rintro e w4 ⟨v, rfl, hr4, hc4⟩
      obtain ⟨va, vc, rfl⟩ := RowOf.shape hr4
      have C4 := Lib.hid (C3.out.thenSame hc4)
      have Z2 := Lib.hid (hc4.at (by simp) Y2.out)
      have Z1 := Lib.hid (hc4.at (by simp) Y1.out)
      have z1 := blk_cell Z1.out
      have z2 := blk_cell Z2.out
      have f1 := blk_free Z1.out
      have f2 := blk_free Z2.out
      have l2 := lt_of_heap Z2.out
      unfold ivO at z1
      have hz3 := C3.out.size
      have R4 := Lib.hid hr4
      have zs : IntKind.i64.wrap (i.gr - q) = i.gr - q := by rw [IntKind.wrap_i64]; omega
      clear hc4 hr4 k5
      go_wp2_with fail
      have q0 : ∀ j, (⟨w.heap.size, j, none⟩ : Addr).block < w.heap.size → (⟨w.heap.size, j, none⟩ : Addr).block ∈ ([] : List Nat) := fun j hj => absurd (show w.heap.size < w.heap.size from hj) (by omega)
      have q1 : ∀ (W : World) j, (⟨w.heap.size, j, none⟩ : Addr).block < W.heap.size → (⟨w.heap.size, j, none⟩ : Addr).block ∈ [w.heap.size] := fun W j hj => by simp
      have ZZ := (blk_set_ne (w := (w4.setCell ⟨w.heap.size, 2, none⟩ (.slice va i.ls.length vc)).setCell ⟨w.heap.size, 4, none⟩ (.int .i64 q)) (b' := w.heap.size + 1) (b := w.heap.size) 5 (.int .i64 (i.gr - q)) (by omega)).trans ((blk_set_ne (w := w4.setCell ⟨w.heap.size, 2, none⟩ (.slice va i.ls.length vc)) (b' := w.heap.size + 1) (b := w.heap.size) 4 (.int .i64 q) (by omega)).trans ((blk_set_ne (w := w4) (b' := w.heap.size + 1) (b := w.heap.size) 2 (.slice va i.ls.length vc) (by omega)).trans Z2.out))
      have r1 := blk_cell (st6_at (.string i.tn) (.int .i64 i.per) (.slice va i.ls.length vc) (.int .i64 i.gr) (.int .i64 q) (.int .i64 (i.gr - q)) ZZ)
      have c6 := ((C4.out.setCell ⟨w.heap.size, 2, none⟩ (.slice va i.ls.length vc) (q0 2)).setCell ⟨w.heap.size, 4, none⟩ (.int .i64 q) (q0 4)).setCell ⟨w.heap.size, 5, none⟩ (.int .i64 (i.gr - q)) (q0 5)
      have c7 := ((((Chg.refl [w.heap.size] w4).setCell ⟨w.heap.size, 2, none⟩ (.slice va i.ls.length vc) (q1 w4 2)).setCell ⟨w.heap.size, 4, none⟩ (.int .i64 q) (q1 w4 4)).setCell ⟨w.heap.size, 5, none⟩ (.int .i64 (i.gr - q)) (q1 w4 5))
      have hb := RowOf.block R4.out
      refine bodyPost_ret (v := .tuple #[.agg #[.string i.tn, .int .i64 i.per, .slice va i.ls.length vc, .int .i64 i.gr, .int .i64 q, .int .i64 (i.gr - q)], .int .i64 0]) (by simp [results, Tryd.results8, go_sem, r1]) rfl ?_
      rw [HR.out]
      refine ⟨_, rfl, ?_, st6_chg _ _ _ _ _ _ (by omega) c6⟩
      refine RowOf.mono ((R4.out.kept c7 (fun g hg => by have := (hb g hg).1; have := lt_of_heap Y1.out; simp; omega)).kept (st6_self _ _ _ _ _ _) (fun g hg => by have := (hb g hg).1; have := lt_of_heap Y2.out; simp; omega)) (by omega)
  · have HR := Lib.hid (HZ.out.trans (if_pos he))
    have heb : (E != 0) = true := by rw [bne_iff_ne]; exact he
    go_enter Tryd.func8, Tryd.ntmps8
    go_wp2_with fail
    rw [← HW1.out]
    go_wp2_with fail
    refine (A.out _ hC1.out).mono ?_; rintro e w2 ⟨rfl, hc2⟩
    have C2 := Lib.hid (hC1.out.thenSame hc2)
    have X2 := Lib.hid (hc2.at (by simp) x2.out)
    have X1 := Lib.hid (hc2.at (by simp) x1.out)
    have f2 := blk_free X2.out
    have k3 := blk_cell X2.out
    have k4 := blk_cell X1.out
    unfold ivO at k4
    have lt3 := lt_of_heap X2.out
    clear hc2 k1
    go_wp2_with fail
    have r1 := blk_cell (st6_at (.string ⟨#[]⟩) (.int .i64 0) (.slice none 0 0) (.int .i64 0) (.int .i64 0) (.int .i64 0) X2.out)
    refine bodyPost_ret (v := .tuple #[.agg #[.string ⟨#[]⟩, .int .i64 0, .slice none 0 0, .int .i64 0, .int .i64 0, .int .i64 0], .int .i64 E]) (by simp [results, Tryd.results8, go_sem, r1]) rfl ?_
    rw [HR.out]
    exact ⟨_, rfl, RowOf.nil _ _ _, st6_chg _ _ _ _ _ _ (by omega) C2.out⟩
end Go.Proofs.YtehjalgogjkdlaaDoor

namespace Go.Proofs.YtehjalgogjkdlaaDoor
set_option linter.unusedVariables false
set_option linter.unusedSimpArgs false
open Go.RowKit
def trC (t : Tr) : List Value := [.int .i64 t.up, .int .i64 t.mi]
theorem pbtw_any (n lo hi : Int) (w : World) : Calls Tryd.prog 71 #[.int .i64 n, .int .i64 lo, .int .i64 hi] w fun e w' => e = .returned (.bool (btw n lo hi)) ∧ w = w' := by
  by_cases h1 : lo ≤ n
  · go_enter Tryd.func71, Tryd.ntmps71
    go_wp2
    go_ret
    exact ⟨by simp [btw, h1], rfl⟩
  · go_enter Tryd.func71, Tryd.ntmps71
    go_wp2
    go_ret
    exact ⟨by simp [btw]; omega, rfl⟩
/-- A price as a value: its tiers lie at a. -/
def prV (p : Prc) (a : Option Addr) (cap : Nat) : Value := .agg #[.int .i64 p.fi, .int .i64 p.fu, .int .i64 p.iv, .slice a p.ts.length cap]
def prO (p : Prc) (a : Option Addr) (cap : Nat) : Obj := .cells #[.int .i64 p.fi, .int .i64 p.fu, .int .i64 p.iv, .slice a p.ts.length cap] 55
def tierL (l : List Tr) : List Int := (List.range l.length).map (tierE l)
theorem tierL_at {l : List Tr} {k : Nat} (hk : k < l.length) : (tierL l)[k]? = some (tierE l k) := by
  unfold tierL; rw [List.getElem?_map, List.getElem?_range hk]; rfl
theorem tierE_eq (l : List Tr) (k : Nat) : tierE l k = (if btw (miAt l k) 0 1000000000 = false then 2 else if k + 1 = l.length then (if upAt l k ≠ 0 then 2 else 0) else if btw (upAt l k) 1 1000000000000 = false then 2 else if 0 < k ∧ upAt l k ≤ upAt l (k - 1) then 11 else 0) := rfl
theorem tierL_all {l : List Tr} : (tierL l).take l.length = tierL l := List.take_of_length_le (by unfold tierL; simp)
set_option maxHeartbeats 4000000 in
set_option maxRecDepth 100000 in
theorem pcheck_any (p : Prc) (a : Option Addr) (cap : Nat) (w : World) (h : SlIs trC 2 w a p.ts.length p.ts) (hm : p.ts.length ≤ maxLen) : Calls Tryd.prog 66 #[prV p a cap] w fun e w' => e = .returned (.int .i64 (priceZ p)) ∧ Chg [] w w' := by
  obtain ⟨Z, hZ⟩ : ∃ Z, Z = priceZ p := ⟨_, rfl⟩
  rw [← hZ]
  unfold priceZ at hZ
  have HZ := Lib.hid hZ
  obtain ⟨fi, fu, iv, ts⟩ := p
  simp only at HZ h hm
  have hx := Lib.hid (heap_alloc_new w (prO ⟨fi, fu, iv, ts⟩ a cap))
  have hC0 := Lib.hid (show Chg [] w (w.alloc (prO ⟨fi, fu, iv, ts⟩ a cap)) from (Chg.refl _ _).alloc _)
  obtain ⟨W1, hW1⟩ : ∃ W1, W1 = w.alloc (prO ⟨fi, fu, iv, ts⟩ a cap) := ⟨_, rfl⟩
  rw [← hW1] at hx hC0
  have HW1 := Lib.hid hW1
  have k1 := blk_cell hx.out
  unfold prO at HW1 hx k1
  have H := Lib.hid (h.kept hC0.out)
  have P := Lib.hid (fun n lo hi w' => pbtw_any n lo hi w')
  unfold maxLen at hm
  have lb := lt_of_heap hx.out
  clear h hZ hW1
  unfold prV
  have hguard : (btw fi 0 1000000000 = false ∨ btw fu 0 1000000000 = false ∨ btw iv 0 1000000000 = false) ∨ (btw fi 0 1000000000 = true ∧ btw fu 0 1000000000 = true ∧ btw iv 0 1000000000 = true) := by
    cases btw fi 0 1000000000 <;> cases btw fu 0 1000000000 <;> cases btw iv 0 1000000000 <;> simp
  have P1 := Lib.hid (fun w' => P.out fi 0 1000000000 w')
  have P2 := Lib.hid (fun w' => P.out fu 0 1000000000 w')
  have P3 := Lib.hid (fun w' => P.out iv 0 1000000000 w')
  have P4 := Lib.hid (fun w' => P.out (ts.length : Int) 1 8 w')
  rcases hguard with hg | ⟨g1, g2, g3⟩
  · have HE := Lib.hid (HZ.out.trans (if_pos hg))
    rw [HE.out]
    generalize btw fi 0 1000000000 = b1 at *
    generalize btw fu 0 1000000000 = b2 at *
    generalize btw iv 0 1000000000 = b3 at *
    cases b1 <;> cases b2 <;> cases b3
    all_goals first
      | (exfalso; simp at hg; done)
      | (clear hg HZ
         go_enter Tryd.func66, Tryd.ntmps66
         go_wp2_with fail
         rw [← HW1.out]
         go_wp2_with (first | (go_at_call 71; (with_reducible refine (P1.out _).mono ?_); rintro e w1 ⟨rfl, rfl⟩) | (go_at_call 71; (with_reducible refine (P2.out _).mono ?_); rintro e w1 ⟨rfl, rfl⟩) | (go_at_call 71; (with_reducible refine (P3.out _).mono ?_); rintro e w1 ⟨rfl, rfl⟩))
         go_ret
         exact ⟨rfl, hC0.out⟩)
  · have HZ1 := Lib.hid (HZ.out.trans (if_neg (by rw [g1, g2, g3]; simp)))
    rw [g1] at P1
    rw [g2] at P2
    rw [g3] at P3
    clear HZ g1 g2 g3
    by_cases hn : ts.length < 1 ∨ 8 < ts.length
    · have HE := Lib.hid (HZ1.out.trans (if_pos hn))
      rw [HE.out]
      rw [show btw (ts.length : Int) 1 8 = false by rw [← Bool.not_eq_true, btw_iff]; omega] at P4
      clear hn HZ1
      go_enter Tryd.func66, Tryd.ntmps66
      go_wp2_with fail
      rw [← HW1.out]
      go_wp2_with (first | (go_at_call 71; (with_reducible refine (P1.out _).mono ?_); rintro e w1 ⟨rfl, rfl⟩) | (go_at_call 71; (with_reducible refine (P2.out _).mono ?_); rintro e w1 ⟨rfl, rfl⟩) | (go_at_call 71; (with_reducible refine (P3.out _).mono ?_); rintro e w1 ⟨rfl, rfl⟩) | (go_at_call 71; (with_reducible refine (P4.out _).mono ?_); rintro e w1 ⟨rfl, rfl⟩))
      go_ret
      exact ⟨rfl, hC0.out⟩
    · have HE := Lib.hid (show Z = errs (tierL ts) from HZ1.out.trans (if_neg hn))
      rw [show btw (ts.length : Int) 1 8 = true by rw [btw_iff]; omega] at P4
      have hn1 : 1 ≤ ts.length := by omega
      have hn8 : ts.length ≤ 8 := by omega
      clear hn HZ1
      go_enter Tryd.func66, Tryd.ntmps66
      go_wp2_with fail
      rw [← HW1.out]
      go_wp2_with (first | (go_at_call 71; (with_reducible refine (P1.out _).mono ?_); rintro e w1 ⟨rfl, rfl⟩) | (go_at_call 71; (with_reducible refine (P2.out _).mono ?_); rintro e w1 ⟨rfl, rfl⟩) | (go_at_call 71; (with_reducible refine (P3.out _).mono ?_); rintro e w1 ⟨rfl, rfl⟩) | (go_at_call 71; (with_reducible refine (P4.out _).mono ?_); rintro e w1 ⟨rfl, rfl⟩))
      obtain ⟨nl, hnl⟩ : ∃ nl, ts.length = nl + 1 := ⟨ts.length - 1, by omega⟩
      have zl : IntKind.i64.wrap ((ts.length : Int) - 1) = (nl : Int) := by rw [IntKind.wrap_i64]; omega
      have HNL := Lib.hid hnl
      clear hnl
      go_quiet (fail)
      have C1 := Lib.hid (hC0.out.drewN nq)
      have H1 := Lib.hid (H.out.kept ((Chg.refl [] W1).drewN nq))
      have k2 := blk_cell (((Chg.refl [] W1).drewN nq).at (by simp) hx.out)
      generalize W1.drewN nq = W2 at *
      clear k1 HW1 hC0
      go_wp2_with fail
      go_loopw [3, 37] (fun bf i wr => ∃ k : Nat, i = .int .i64 k ∧ bf = .int .i64 (if k = 0 then 0 else upAt ts (k - 1)) ∧ k ≤ ts.length ∧ Hid (errs ((tierL ts).take k) = 0) ∧ Hid (Chg [] W2 wr)) (fun _ i _ => ts.length - (intOf i).toNat)
      case atStart => exact ⟨0, rfl, rfl, Nat.zero_le _, Lib.hid rfl, Lib.hid (Chg.refl _ _)⟩
      case round =>
        obtain ⟨k, rfl, rfl, hk, HF, HC⟩ := hrel
        by_cases hkn : k < ts.length
        · obtain ⟨g, o, rfl, -, hbr, hcc⟩ := H1.out.elem HC.out k hkn
          have d0 := hcc 0 (by omega)
          have d1 := hcc 1 (by omega)
          obtain ⟨x, hx1⟩ : ∃ x, ts[k]? = some x := ⟨ts[k], List.getElem?_eq_getElem hkn⟩
          have hxe := (List.getElem?_eq_some_iff.1 hx1).2
          rw [hxe] at d0 d1
          have hup : upAt ts k = x.up := by unfold upAt; rw [hx1]; rfl
          have hmi : miAt ts k = x.mi := by unfold miAt; rw [hx1]; rfl
          have HT := Lib.hid (tierE_eq ts k)
          rw [hup, hmi] at HT
          have HAt := Lib.hid (tierL_at hkn)
          have HErr := Lib.hid (fun e (he : tierE ts k = e) (hne : e ≠ 0) => errs_at HF.out (HAt.out.trans (by rw [he])) hne)
          have HNx := Lib.hid (fun (he : tierE ts k = 0) => errs_next HF.out (HAt.out.trans (by rw [he])))
          obtain ⟨bf, hbf⟩ : ∃ bf, bf = (if k = 0 then 0 else upAt ts (k - 1)) := ⟨_, rfl⟩
          have hord : (0 < k ∧ x.up ≤ upAt ts (k - 1)) ↔ (0 < k ∧ x.up ≤ bf) := by
            rw [hbf]; split <;> (rename_i q; simp [q]) <;> omega
          have hbf0 : k = 0 → bf = 0 := fun q => by rw [hbf, if_pos q]
          have HBF := Lib.hid (show (if k + 1 = 0 then 0 else upAt ts (k + 1 - 1)) = x.up by rw [if_neg (by omega), Nat.add_sub_cancel, hup])
          rw [← hbf]
          obtain ⟨up, mi⟩ := x
          simp only [trC, List.getElem?_cons_zero, List.getElem?_cons_succ, Nat.add_zero] at d0 d1
          simp only at HT hord HBF
          generalize tierE ts k = E at *
          have hk0 : (0 : Int) ≤ (k : Int) := by omega
          have hk1 : (k : Int) < (ts.length : Int) := by omega
          have C3 := Lib.hid (HC.out.alloc (.cells #[.int .i64 up, .int .i64 mi] 52))
          have M1 := Lib.hid (fun w' => P.out mi 0 1000000000 w')
          have M2 := Lib.hid (fun w' => P.out up 1 1000000000000 w')
          clear hcc hx1 hxe hup hmi hbf HF P
          cases hm1 : btw mi 0 1000000000
          · rw [hm1] at HT M1
            rw [if_pos rfl] at HT
            have HE2 := Lib.hid (show Z = 2 by rw [HE.out]; exact HErr.out 2 HT.out (by decide))
            clear hm1 hord hbf0
            go_wp2_with fail
            refine (M1.out _).mono ?_; rintro e w1 ⟨rfl, rfl⟩
            go_wp2_with fail
            go_ret
            exact ⟨by rw [HE2.out]; rfl, C1.out.thenSame C3.out⟩
          rw [hm1] at HT M1
          rw [if_neg (by simp)] at HT
          by_cases hl : k + 1 = ts.length
          · rw [if_pos hl] at HT
            have e1 : ((k : Int) == (nl : Int)) = true := by rw [beq_iff_eq]; have := HNL.out; omega
            have e2 : ¬ (k : Int) < (nl : Int) := by have := HNL.out; omega
            by_cases hu : up = 0
            · have e3 : (up != 0) = false := by rw [hu]; rfl
              have HN := Lib.hid (HNx.out (by rw [HT.out, if_neg (by simp [hu])]))
              clear hm1 hord hbf0 hl hu
              go_wp2_with fail
              refine (M1.out _).mono ?_; rintro e w1 ⟨rfl, rfl⟩
              go_wp2_with fail
              exact ⟨⟨k + 1, by go_num, by rw [HBF.out], by omega, HN, C3⟩, by simp [intOf]; omega⟩
            · have e3 : (up != 0) = true := by rw [bne_iff_ne]; exact hu
              have HE2 := Lib.hid (show Z = 2 by rw [HE.out]; exact HErr.out 2 (by rw [HT.out, if_pos hu]) (by decide))
              clear hm1 hord hbf0 hl
              go_wp2_with fail
              refine (M1.out _).mono ?_; rintro e w1 ⟨rfl, rfl⟩
              go_wp2_with fail
              go_ret
              exact ⟨by rw [HE2.out]; rfl, C1.out.thenSame C3.out⟩
          · rw [if_neg hl] at HT
            have e1 : ((k : Int) == (nl : Int)) = false := by rw [beq_eq_false_iff_ne]; have := HNL.out; omega
            have e2 : (k : Int) < (nl : Int) := by have := HNL.out; omega
            cases hm2 : btw up 1 1000000000000
            · rw [hm2] at HT M2
              rw [if_pos rfl] at HT
              have HE2 := Lib.hid (show Z = 2 by rw [HE.out]; exact HErr.out 2 HT.out (by decide))
              clear hm1 hm2 hord hbf0 hl
              go_wp2_with fail
              refine (M1.out _).mono ?_; rintro e w1 ⟨rfl, rfl⟩
              go_wp2_with fail
              refine (M2.out _).mono ?_; rintro e w1 ⟨rfl, rfl⟩
              go_wp2_with fail
              go_ret
              exact ⟨by rw [HE2.out]; rfl, C1.out.thenSame C3.out⟩
            · have hu1 := (btw_iff.1 hm2).1
              rw [hm2] at HT M2
              rw [if_neg (by simp)] at HT
              by_cases ho : up ≤ bf
              · have hk1' : 0 < k := Nat.pos_of_ne_zero fun q => by have := hbf0 q; omega
                have HE2 := Lib.hid (show Z = 11 by rw [HE.out]; exact HErr.out 11 (by rw [HT.out, if_pos (hord.2 ⟨hk1', ho⟩)]) (by decide))
                clear hm1 hm2 hord hbf0 hl
                go_wp2_with fail
                refine (M1.out _).mono ?_; rintro e w1 ⟨rfl, rfl⟩
                go_wp2_with fail
                refine (M2.out _).mono ?_; rintro e w1 ⟨rfl, rfl⟩
                go_wp2_with fail
                go_ret
                exact ⟨by rw [HE2.out]; rfl, C1.out.thenSame C3.out⟩
              · have HN := Lib.hid (HNx.out (by rw [HT.out, if_neg (fun q => ho (hord.1 q).2)]))
                clear hm1 hm2 hord hbf0 hl
                go_wp2_with fail
                refine (M1.out _).mono ?_; rintro e w1 ⟨rfl, rfl⟩
                go_wp2_with fail
                refine (M2.out _).mono ?_; rintro e w1 ⟨rfl, rfl⟩
                go_wp2_with fail
                exact ⟨⟨k + 1, by go_num, by rw [HBF.out], by omega, HN, C3⟩, by simp [intOf]; omega⟩
        · have hke : k = ts.length := by omega
          have HE2 := Lib.hid (show Z = 0 by rw [HE.out]; have := HF.out; rwa [hke, tierL_all] at this)
          have hkn2 : ¬ (k : Int) < (ts.length : Int) := by omega
          generalize (if k = 0 then (0 : Int) else upAt ts (k - 1)) = bf at *
          clear hke
          go_wp2_with fail
          go_ret
          exact ⟨by rw [HE2.out]; rfl, C1.out.thenSame HC.out⟩
end Go.Proofs.YtehjalgogjkdlaaDoor

namespace Go.Proofs.YtehjalgogjkdlaaDoor
set_option linter.unusedVariables false
set_option linter.unusedSimpArgs false
open Go.RowKit
theorem wrapJ {a : Int} (h1 : -9223372036854775808 ≤ a) (h2 : a < 9223372036854775808) : IntKind.i64.wrap a = a := by rw [IntKind.wrap_i64]; omega
def billZ (p : Prc) (u : Us) : Int × Int × Int := if priceZ p ≠ 0 then (0, 0, priceZ p) else if usB u = false then (0, 0, 2) else (max (u.inv - p.fi) 0, max (u.units - p.fu) 0, 0)
theorem usB_ok {u : Us} (h : usB u = true) : (0 ≤ u.inv ∧ u.inv ≤ 1000000000000) ∧ (0 ≤ u.units ∧ u.units ≤ 1000000000000) := by
  unfold usB at h
  simp only [Bool.and_eq_true, amtB_iff] at h
  omega
set_option maxHeartbeats 4000000 in
set_option maxRecDepth 100000 in
theorem pbill_any (p : Prc) (u : Us) (a : Option Addr) (cap : Nat) (w : World) (h : SlIs trC 2 w a p.ts.length p.ts) (hm : p.ts.length ≤ maxLen) : Calls Tryd.prog 55 #[prV p a cap, usV u] w fun e w' => e = .returned (.tuple #[.int .i64 (billZ p u).1, .int .i64 (billZ p u).2.1, .int .i64 (billZ p u).2.2]) ∧ Chg [] w w' := by
  obtain ⟨Z, hZ⟩ : ∃ Z, Z = billZ p u := ⟨_, rfl⟩
  rw [← hZ]
  unfold billZ at hZ
  have HZ := Lib.hid hZ
  have A := Lib.hid (fun w' (hc : Chg [] w w') => pcheck_any p a cap w' (h.kept hc) hm)
  have HPR := Lib.hid (fun h0 => price_ok (p := p) h0)
  have HUS := Lib.hid (fun h0 => usB_ok (u := u) h0)
  have M := Lib.hid (fun w' => mvalid_any u w')
  clear h hZ
  obtain ⟨W1, hW1⟩ : ∃ W1, W1 = (w.alloc (prO p a cap)).alloc (.cells #[.int .i64 u.inv, .int .i64 u.steps, .int .i64 u.ticks, .int .i64 u.units] 48) := ⟨_, rfl⟩
  have hC1 := Lib.hid (show Chg [] w W1 from hW1 ▸ ((Chg.refl _ _).alloc _).alloc _)
  have x1 := Lib.hid (show W1.heap[w.heap.size]? = some (prO p a cap) from hW1 ▸ blk_alloc (heap_alloc_new _ _))
  have x2 := Lib.hid (show W1.heap[w.heap.size + 1]? = some (.cells #[.int .i64 u.inv, .int .i64 u.steps, .int .i64 u.ticks, .int .i64 u.units] 48) from by
    rw [hW1]
    have := heap_alloc_new (w.alloc (prO p a cap)) (.cells #[.int .i64 u.inv, .int .i64 u.steps, .int .i64 u.ticks, .int .i64 u.units] 48)
    rwa [World.size_alloc] at this)
  have HW1 := Lib.hid hW1
  clear hW1
  obtain ⟨fi, fu, iv, ts⟩ := p
  obtain ⟨inv, steps, ticks, units⟩ := u
  unfold prO at HW1 x1
  unfold prV at A ⊢
  unfold usV at M ⊢
  simp only at HZ A HPR HUS M HW1 x1 x2 ⊢
  generalize priceZ ⟨fi, fu, iv, ts⟩ = pz at *
  generalize usB ⟨inv, steps, ticks, units⟩ = ub at *
  have k1 := blk_cell x1.out
  have k2 := blk_cell x2.out
  have lt2 := lt_of_heap x2.out
  by_cases hp : pz = 0
  · subst hp
    have HZ1 := Lib.hid (HZ.out.trans (if_neg (by simp)))
    cases ub
    · have HE := Lib.hid (HZ1.out.trans (if_pos rfl))
      rw [HE.out]
      go_enter Tryd.func55, Tryd.ntmps55
      go_wp2_with fail
      rw [← HW1.out]
      go_wp2_with fail
      refine (A.out _ hC1.out).mono ?_; rintro e w2 ⟨rfl, hc2⟩
      have C2 := Lib.hid (hC1.out.thenSame hc2)
      have k4 := blk_cell (hc2.at (by simp) x2.out)
      clear hc2 k1 k2
      go_wp2_with fail
      refine (M.out _).mono ?_; rintro e w3 ⟨rfl, hc3⟩
      have C3 := Lib.hid (C2.out.thenSame hc3)
      clear hc3
      go_wp2_with fail
      go_ret3
      exact ⟨rfl, C3.out⟩
    · have HE := Lib.hid (HZ1.out.trans (if_neg (by simp)))
      obtain ⟨⟨p1, p2⟩, ⟨p3, p4⟩, -⟩ := HPR.out rfl
      obtain ⟨⟨u1, u2⟩, ⟨u3, u4⟩⟩ := HUS.out rfl
      rw [HE.out]
      have z1 : IntKind.i64.wrap (inv - fi) = inv - fi := wrapJ (by omega) (by omega)
      have z2 : IntKind.i64.wrap (units - fu) = units - fu := wrapJ (by omega) (by omega)
      go_enter Tryd.func55, Tryd.ntmps55
      go_wp2_with fail
      rw [← HW1.out]
      go_wp2_with fail
      refine (A.out _ hC1.out).mono ?_; rintro e w2 ⟨rfl, hc2⟩
      have C2 := Lib.hid (hC1.out.thenSame hc2)
      have X3 := Lib.hid (hc2.at (by simp) x1.out)
      have X4 := Lib.hid (hc2.at (by simp) x2.out)
      have k4 := blk_cell X4.out
      clear hc2 k1 k2
      go_wp2_with fail
      refine (M.out _).mono ?_; rintro e w3 ⟨rfl, hc3⟩
      have C3 := Lib.hid (C2.out.thenSame hc3)
      have k5 := blk_cell (hc3.at (by simp) X3.out)
      have k6 := blk_cell (hc3.at (by simp) X4.out)
      clear hc3 k4
      go_wp2_with fail
      go_quiet (fail)
      go_wp2_with fail
      trace_state
      go_ret3
      exact ⟨rfl, C3.out.drewN _⟩
  · have HE := Lib.hid (HZ.out.trans (if_pos hp))
    have hb : (pz != 0) = true := by rw [bne_iff_ne]; exact hp
    rw [HE.out]
    go_enter Tryd.func55, Tryd.ntmps55
    go_wp2_with fail
    rw [← HW1.out]
    go_wp2_with fail
    refine (A.out _ hC1.out).mono ?_; rintro e w2 ⟨rfl, hc2⟩
    have C2 := Lib.hid (hC1.out.thenSame hc2)
    clear hc2 k1 k2
    go_wp2_with fail
    go_ret3
    exact ⟨rfl, C2.out⟩
end Go.Proofs.YtehjalgogjkdlaaDoor

namespace Go.Proofs.YtehjalgogjkdlaaDoor
set_option linter.unusedVariables false
set_option linter.unusedSimpArgs false
open Go.RowKit
set_option maxHeartbeats 4000000 in
set_option maxRecDepth 100000 in
theorem padd_any (n m S sb : Nat) (w : World) (h : w.heap[sb]? = some (.cells #[.int .u64 S] 29)) (hn : n ≤ 1000000000000) (hm : m ≤ 1000000000) (hS : S ≤ 1000000000000) : Calls Tryd.prog 56 #[.int .i64 n, .int .i64 m, .pointer (some ⟨sb, 0, none⟩)] w fun e w' => e = .returned (.bool (decide (S + n * m ≤ 1000000000000))) ∧ (∃ v : Nat, w'.heap[sb]? = some (.cells #[.int .u64 v] 29) ∧ (S + n * m ≤ 1000000000000 → v = S + n * m)) ∧ Chg [sb] w w' := by
  have A := Tryd.bits_Mul64 n m (by omega) (by omega)
  obtain ⟨P, hP⟩ : ∃ P, P = n * m := ⟨_, rfl⟩
  have hPl : P ≤ 1000000000000000000000 := by rw [hP]; exact Nat.mul_le_mul hn hm
  rw [← hP] at A ⊢
  obtain ⟨hi, hhi⟩ : ∃ hi, hi = P / 18446744073709551616 := ⟨_, rfl⟩
  obtain ⟨lo, hlo⟩ : ∃ lo, lo = P % 18446744073709551616 := ⟨_, rfl⟩
  rw [← hhi, ← hlo] at A
  have A := Lib.hid A
  rename_i A0
  have X := Lib.hid h
  have c0 := blk_cell h 0
  have f0 := blk_free h
  have l0 := lt_of_heap h
  simp only [List.getElem?_toArray, List.getElem?_cons_zero] at c0
  obtain ⟨V, hV⟩ : ∃ V : Nat, V = (S + lo) % 18446744073709551616 := ⟨_, rfl⟩
  have z1 : IntKind.u64.wrap ((S : Int) + (lo : Int)) = (V : Int) := by rw [IntKind.wrap_u64]; omega
  have zn : IntKind.u64.wrap (n : Int) = (n : Int) := u64_in (by omega) (by omega)
  have zm : IntKind.u64.wrap (m : Int) = (m : Int) := u64_in (by omega) (by omega)
  have HV := Lib.hid (show S + P ≤ 1000000000000 → V = S + P by omega)
  have XN := Lib.hid (show (w.setCell ⟨sb, 0, none⟩ (.int .u64 V)).heap[sb]? = some (.cells #[.int .u64 V] 29) by rw [blk_set h]; rfl)
  have c1 := blk_cell XN.out 0
  simp only [List.getElem?_toArray, List.getElem?_cons_zero] at c1
  have HR : (hi ≠ 0 ∧ ¬ S + P ≤ 1000000000000) ∨ (hi = 0 ∧ 1000000000000 < lo ∧ ¬ S + P ≤ 1000000000000) ∨ (hi = 0 ∧ lo ≤ 1000000000000 ∧ (S + P ≤ 1000000000000 ↔ V ≤ 1000000000000)) := by omega
  have HC := Lib.hid (show Chg [sb] w (w.setCell ⟨sb, 0, none⟩ (.int .u64 V)) from (Chg.refl _ _).setCell _ _ (by simp))
  clear A0 h hhi hlo hPl hP hV
  rcases HR with ⟨r1, r2⟩ | ⟨r1, r2, r3⟩ | ⟨r1, r2, r3⟩
  · have hb : ((hi : Int) == 0) = false := by rw [beq_eq_false_iff_ne]; omega
    have HE := Lib.hid (show decide (S + P ≤ 1000000000000) = false from decide_eq_false r2)
    clear r2
    rw [HE.out]
    go_enter Tryd.func56, Tryd.ntmps56
    go_wp2_with fail
    refine (A.out _).mono ?_; rintro e w1 ⟨rfl, rfl⟩
    go_wp2_with fail
    go_ret
    exact ⟨rfl, ⟨V, XN.out, HV.out⟩, HC.out⟩
  · subst r1
    have hb : ¬ (lo : Int) ≤ 1000000000000 := by omega
    have HE := Lib.hid (show decide (S + P ≤ 1000000000000) = false from decide_eq_false r3)
    clear r3
    rw [HE.out]
    go_enter Tryd.func56, Tryd.ntmps56
    go_wp2_with fail
    refine (A.out _).mono ?_; rintro e w1 ⟨rfl, rfl⟩
    go_wp2_with fail
    go_ret
    exact ⟨rfl, ⟨V, XN.out, HV.out⟩, HC.out⟩
  · subst r1
    have hb : (lo : Int) ≤ 1000000000000 := by omega
    by_cases hv : V ≤ 1000000000000
    · have hv2 : (V : Int) ≤ 1000000000000 := by omega
      have HE := Lib.hid (show decide (S + P ≤ 1000000000000) = true from decide_eq_true (r3.2 hv))
      rw [HE.out]
      go_enter Tryd.func56, Tryd.ntmps56
      go_wp2_with fail
      refine (A.out _).mono ?_; rintro e w1 ⟨rfl, rfl⟩
      go_wp2_with fail
      go_ret
      exact ⟨rfl, ⟨V, XN.out, HV.out⟩, HC.out⟩
    · have hv2 : ¬ (V : Int) ≤ 1000000000000 := by omega
      have HE := Lib.hid (show decide (S + P ≤ 1000000000000) = false from decide_eq_false fun q => hv (r3.1 q))
      rw [HE.out]
      go_enter Tryd.func56, Tryd.ntmps56
      go_wp2_with fail
      refine (A.out _).mono ?_; rintro e w1 ⟨rfl, rfl⟩
      go_wp2_with fail
      go_ret
      exact ⟨congrArg (fun b => Ending.returned (Value.bool b)) (decide_eq_false (by omega)), ⟨V, XN.out, HV.out⟩, HC.out⟩
end Go.Proofs.YtehjalgogjkdlaaDoor
