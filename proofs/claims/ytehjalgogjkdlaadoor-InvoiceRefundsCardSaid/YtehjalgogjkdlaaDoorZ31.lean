/- Chapter 54: contract: the law's comparison of lists of ints. No condition. Chapter 52: calls on a ledger that New did not return. No condition. Chapter 54: the example of the law: its calls. No condition. Chapter 54: contracts: Total, and the reference's. No condition. Chapter 5: contract of the reference: Same, of lists of texts that are the same. No condition. Chapter 54: contract: the example of the law. Condition: the table of Itoa lies as the program lays it. Chapter 54: openers of ints; the walk of InvoiceShares. Condition: the table of Itoa lies as the program lays it. -/
import Derived.Test.YtehjalgogjkdlaaDoorProg
import Derived.Test.YtehjalgogjkdlaaDoorZ06
import Derived.Test.YtehjalgogjkdlaaDoorZ21
import Derived.Test.YtehjalgogjkdlaaDoorZ30
import Derived.Test.YtehjalgogjkdlaaDoorZ20
import Derived.Test.YtehjalgogjkdlaaDoorZ13
import Derived.Test.YtehjalgogjkdlaaDoorZ01
import Derived.Test.YtehjalgogjkdlaaDoorZ17
namespace Go.Proofs.YtehjalgogjkdlaaDoor
set_option linter.unusedVariables false
set_option linter.unusedSimpArgs false
open Go.RowKit
theorem ints_any (a1 a2 : Option Addr) (c1 c2 : Nat) (l1 l2 : List Int) (w : World) (h1 : SlIs icI 1 w a1 l1.length l1) (h2 : SlIs icI 1 w a2 l2.length l2) (hm1 : l1.length ≤ maxLen) (hm2 : l2.length ≤ maxLen) : Calls Tryd.prog 16 #[.slice a1 l1.length c1, .slice a2 l2.length c2] w fun e w' => e = .returned (.bool (decide (l1 = l2))) ∧ Chg [] w w' := by
  have H1 := Lib.hid h1
  have H2 := Lib.hid h2
  unfold maxLen at hm1 hm2
  clear h1 h2
  by_cases hl : l1.length = l2.length
  · have hb : ((l1.length : Int) != (l2.length : Int)) = false := by rw [bne_eq_false_iff_eq]; omega
    have HL := Lib.hid hl
    obtain ⟨n, hn⟩ : ∃ n, n = l1.length := ⟨_, rfl⟩
    have hn2 : l2.length = n := by omega
    rw [← hn] at H1 hm1 hb ⊢
    rw [hn2] at H2 hm2 hb ⊢
    have HN1 := Lib.hid hn
    have HN2 := Lib.hid hn2
    clear hl hn hn2
    go_enter Tryd.func16, Tryd.ntmps16
    go_wp2_with fail
    go_loopw [5] (fun i wr => ∃ k : Nat, i = .int .i64 k ∧ k ≤ n ∧ Hid (l1.take k = l2.take k) ∧ Hid (Chg [] w wr)) (fun i _ => n - (intOf i).toNat)
    case atStart => exact ⟨0, rfl, Nat.zero_le _, Lib.hid rfl, Lib.hid (Chg.refl _ _)⟩
    case round =>
      obtain ⟨k, rfl, hk, HT, HC⟩ := hrel
      by_cases hkn : k < n
      · obtain ⟨b1, o1, rfl, -, g1, d1⟩ := H1.out.elem HC.out k (by rw [← HN1.out]; exact hkn)
        obtain ⟨b2, o2, rfl, -, g2, d2⟩ := H2.out.elem HC.out k (by rw [HN2.out]; exact hkn)
        have c1 := d1 0 (by omega)
        have c2 := d2 0 (by omega)
        have HS := Lib.hid (show l1[k]'(by rw [← HN1.out]; exact hkn) = l2[k]'(by rw [HN2.out]; exact hkn) → l1.take (k + 1) = l2.take (k + 1) from fun e => by
          rw [List.take_succ_eq_append_getElem (by rw [← HN1.out]; exact hkn), List.take_succ_eq_append_getElem (by rw [HN2.out]; exact hkn), HT.out, e])
        have HD := Lib.hid (show l1[k]'(by rw [← HN1.out]; exact hkn) ≠ l2[k]'(by rw [HN2.out]; exact hkn) → decide (l1 = l2) = false from fun e => decide_eq_false fun q => e (by subst q; rfl))
        generalize l1[k]'_ = x at *
        generalize l2[k]'_ = y at *
        simp only [icI, List.getElem?_cons_zero, Nat.add_zero, Nat.mul_one] at c1 c2
        have hk0 : (0 : Int) ≤ (k : Int) := by omega
        have hk1 : (k : Int) < (n : Int) := by omega
        clear d1 d2
        by_cases e : x = y
        · have he : (x != y) = false := by rw [e]; simp
          have HN := Lib.hid (HS.out e)
          clear e
          go_wp2_with fail
          go_quiet (fail)
          go_wp2_with fail
          exact ⟨⟨k + 1, by go_num, by omega, HN, Lib.hid (HC.out.drewN _)⟩, by simp [intOf]; omega⟩
        · have he : (x != y) = true := by rw [bne_iff_ne]; exact e
          have HE := Lib.hid (HD.out e)
          go_wp2_with fail
          go_quiet (fail)
          go_wp2_with fail
          go_ret
          exact ⟨by rw [HE.out]; rfl, HC.out.drewN _⟩
      · have hke : k = n := by omega
        have hkn2 : ¬ (k : Int) < (n : Int) := by omega
        have HE := Lib.hid (show decide (l1 = l2) = true from decide_eq_true (by have := HT.out; rwa [hke, List.take_of_length_le (by have := HN1.out; omega), List.take_of_length_le (by have := HN2.out; omega)] at this))
        clear hke
        go_wp2_with fail
        go_ret
        exact ⟨by rw [HE.out]; rfl, HC.out⟩
  · have hb : ((l1.length : Int) != (l2.length : Int)) = true := by rw [bne_iff_ne]; omega
    have HE := Lib.hid (show decide (l1 = l2) = false from decide_eq_false fun q => hl (by rw [q]))
    rw [HE.out]
    clear hl
    go_enter Tryd.func16, Tryd.ntmps16
    go_wp2_with fail
    go_ret
    exact ⟨rfl, Chg.refl _ _⟩
end Go.Proofs.YtehjalgogjkdlaaDoor

namespace Go.Proofs.YtehjalgogjkdlaaDoor
set_option linter.unusedVariables false
set_option linter.unusedSimpArgs false
open Go.RowKit
variable {w w' : World}
/-- Nil, or the zero ledger at a block. -/
def NobIs (w : World) (q : Option Addr) : Prop := q = none ∨ ∃ b, q = some ⟨b, 0, none⟩ ∧ w.heap[b]? = some (.cells #[.slice none 0 0, .map none, .int .i64 0] 78 (0, 0))
theorem NobIs.keptN {q : Option Addr} (h : NobIs w q) (hc : Chg [] w w') : NobIs w' q := by
  rcases h with h | ⟨b, h1, h2⟩
  · exact .inl h
  · exact .inr ⟨b, h1, hc.at (by simp) h2⟩
theorem made_no {q : Option Addr} (h : NobIs w q) : Calls Tryd.prog 34 #[.pointer q] w fun e w' => e = .returned (.bool false) ∧ w = w' := by
  have hm := fun w => run_neq_map_nil (P := Tryd.prog) w 75 9 3 none Tryd.underlying75
  rcases h with rfl | ⟨b, rfl, h⟩
  · go_enter Tryd.func34, Tryd.ntmps34
    go_wp2
    go_ret
    exact ⟨rfl, rfl⟩
  · have c := blk_cell h
    clear h
    go_enter Tryd.func34, Tryd.ntmps34
    go_wp2
    go_ret
    exact ⟨rfl, rfl⟩
theorem funcs_no {q : Option Addr} (tn : ByteArray) (p : Int) (h : NobIs w q) : Calls Tryd.prog 39 #[.pointer q, .string tn, .int .i64 p] w fun e w' => e = .returned (.slice none 0 0) ∧ w = w' := by
  have H := Lib.hid h
  clear h
  go_enter Tryd.func39, Tryd.ntmps39
  go_wp2_with fail
  refine (made_no H.out).mono ?_; rintro e w1 ⟨rfl, rfl⟩
  go_wp2_with fail
  go_ret
  exact ⟨rfl, rfl⟩
theorem asked_no {q : Option Addr} (p : Int) (v : Value) (h : NobIs w q) : Calls Tryd.prog 52 #[.pointer q, .int .i64 p, v] w fun e w' => e = .returned (.int .i64 10) ∧ w = w' := by
  have H := Lib.hid h
  clear h
  go_enter Tryd.func52, Tryd.ntmps52
  go_wp2_with fail
  refine (made_no H.out).mono ?_; rintro e w1 ⟨rfl, rfl⟩
  go_wp2_with fail
  go_ret
  exact ⟨rfl, rfl⟩
set_option maxRecDepth 100000 in
theorem rec_no {q : Option Addr} (r : UR) (h : NobIs w q) : Calls Tryd.prog 18 #[.pointer q, urV r] w fun e w' => e = .returned (.int .i64 10) ∧ Chg [] w w' := by
  have H := Lib.hid (fun o => h.keptN ((Chg.refl [] w).alloc o))
  clear h
  unfold urV
  go_enter Tryd.func18, Tryd.ntmps18
  go_wp2_with fail
  refine (made_no (H.out _)).mono ?_; rintro e w1 ⟨rfl, rfl⟩
  go_wp2_with fail
  go_ret
  exact ⟨rfl, (Chg.refl _ _).alloc _⟩
set_option maxHeartbeats 4000000 in
set_option maxRecDepth 100000 in
theorem total_no {q : Option Addr} (tn : ByteArray) (p : Int) (h : NobIs w q) : Calls Tryd.prog 37 #[.pointer q, .string tn, .int .i64 p] w fun e w' => e = .returned (.tuple #[usV zU, .int .i64 10]) ∧ Chg [] w w' := by
  obtain ⟨W3, hW3⟩ : ∃ W3, W3 = ((w.alloc (.cells #[.string tn] 9)).alloc (.cells #[.int .i64 p] 3)).alloc (usO zU) := ⟨_, rfl⟩
  have hc3 : Chg [] w W3 := by rw [hW3]; exact (((Chg.refl _ _).alloc _).alloc _).alloc _
  obtain ⟨hx1, hx2, hx3⟩ := alloc3 w (.cells #[.string tn] 9) (.cells #[.int .i64 p] 3) (usO zU)
  rw [← hW3] at hx1 hx2 hx3
  have y1 := blk_cell hx1
  have y2 := blk_cell hx2
  have C3 := Lib.hid hc3
  have X3 := Lib.hid hx3
  have H := Lib.hid (fun o => (h.keptN hc3).keptN ((Chg.refl [] W3).alloc o))
  unfold usO zU at hW3
  simp only at hW3
  have HW3 := Lib.hid hW3
  clear h hc3 hx1 hx2 hx3 hW3
  go_enter Tryd.func37, Tryd.ntmps37
  go_wp2_with fail
  rw [← HW3.out]
  go_wp2_with fail
  refine (asked_no _ _ (H.out _)).mono ?_; rintro e w5 ⟨rfl, rfl⟩
  have Y3 := Lib.hid (blk_alloc (o' := .cells #[.string tn] 9) X3.out)
  have D5 := Lib.hid (C3.out.alloc (.cells #[.string tn] 9))
  generalize W3.alloc (.cells #[.string tn] 9) = W5 at *
  have g1 := blk_cell Y3.out
  have f1 := blk_free Y3.out
  have lt1 := lt_of_heap Y3.out
  go_wp2_with fail
  have r1 := blk_cell (four_at (.int .i64 0) (.int .i64 0) (.int .i64 0) (.int .i64 0) Y3.out)
  exact bodyPost_ret (v := .tuple #[usV zU, .int .i64 10]) (by simp [results, Tryd.results37, go_sem, usV, zU, r1]) rfl ⟨rfl, by repeat (first | exact D5.out | refine Chg.setCell ?_ _ _ (by simp; omega) | refine Chg.alloc ?_ _)⟩
end Go.Proofs.YtehjalgogjkdlaaDoor

namespace Go.Proofs.YtehjalgogjkdlaaDoor
set_option linter.unusedVariables false
set_option linter.unusedSimpArgs false
open Go.RowKit
theorem ib_sl {w : World} {s : Nat} {V : List Int} (h : IB w s V) : SlIs icI 1 w (some ⟨s, 0, none⟩) V.length V := SlIs.ofBlock V h icI_len (by rw [flat_icI])
theorem share_val {t : Int} {W O V : List Int} {g c n : Nat} {w : World} (hb : IB w g W) (he : (weighZ t W).2 = 0) (hO : IsOrd (shR t W) O) (hV : shares t W O = V) (hn : W.length = n) : Calls Tryd.prog 5 #[.int .i64 t, .slice (some ⟨g, 0, none⟩) n c] w fun e w' => ∃ s, e = .returned (.tuple #[.slice (some ⟨s, 0, none⟩) n n, .int .i64 0]) ∧ IB w' s V ∧ w.heap.size ≤ s ∧ Chg [] w w' := by
  subst hn
  refine (share_ok t _ c W w (ib_sl hb) he).mono ?_
  rintro e w' ⟨s, O', rfl, h1, h2, h3, h4⟩
  rw [h1.unique hO, hV] at h2
  exact ⟨s, rfl, h2, h3, h4⟩
theorem share_none (c : Nat) (w : World) : Calls Tryd.prog 5 #[.int .i64 1, .slice none 0 c] w fun e w' => e = .returned (.tuple #[.slice none 0 0, .int .i64 5]) ∧ w = w' :=
  share_bad 1 none c [] w ⟨rfl, fun k hk => absurd hk (Nat.not_lt_zero k)⟩ (by unfold maxLen; simp) (by decide)
theorem ints_val {V : List Int} {s g c d n : Nat} {w : World} (h1 : IB w s V) (h2 : IB w g V) (hn : V.length = n) (hm : n ≤ maxLen) : Calls Tryd.prog 16 #[.slice (some ⟨s, 0, none⟩) n c, .slice (some ⟨g, 0, none⟩) n d] w fun e w' => e = .returned (.bool true) ∧ Chg [] w w' := by
  subst hn
  refine (ints_any _ _ c d V V w (ib_sl h1) (ib_sl h2) hm hm).mono ?_
  rintro e w' ⟨rfl, h⟩
  exact ⟨by simp, h⟩
theorem bw_rec1 {w : World} {b mb : Nat} {v : Value} (h : LIs w b mb v bs0) : Calls Tryd.prog 18 #[.pointer (some ⟨b, 0, none⟩), .agg #[.string ⟨#[97]⟩, .string ⟨#[116]⟩, .string ⟨#[102]⟩, .int .i64 0, .int .i64 1, .int .i64 0, .int .i64 0, .int .i64 3, .bool false]] w (RecPost w b mb v 0 bs1) := by
  have := rec_any (bwR 97 102 3) bwG1 h (by simp [bs0])
  rw [bwE1, bwS1] at this
  exact this
theorem bw_rec2 {w : World} {b mb : Nat} {v : Value} (h : LIs w b mb v bs1) : Calls Tryd.prog 18 #[.pointer (some ⟨b, 0, none⟩), .agg #[.string ⟨#[98]⟩, .string ⟨#[116]⟩, .string ⟨#[103]⟩, .int .i64 0, .int .i64 1, .int .i64 0, .int .i64 0, .int .i64 4, .bool false]] w (RecPost w b mb v 0 bs2) := by
  have := rec_any (bwR 98 103 4) bwG2 h (by simp [bs1])
  rw [bwE2, bwS2] at this
  exact this
theorem bw_make {w : World} {b mb tb c : Nat} {v : Value} (h : LIs w b mb v bs2) (ht : w.heap[tb]? = some (.cells #[.int .i64 0, .int .i64 10] 52)) : Calls Tryd.prog 19 #[.pointer (some ⟨b, 0, none⟩), .agg #[.int .i64 0, .int .i64 0, .int .i64 100, .slice (some ⟨tb, 0, none⟩) 1 c], .string ⟨#[116]⟩, .int .i64 0] w fun e w' => ∃ va vc, e = .returned (.tuple #[.agg #[.string ⟨#[116]⟩, .int .i64 0, .slice va 2 vc, .int .i64 270, .int .i64 0, .int .i64 270], .int .i64 0]) ∧ InIs lnC 6 w' va vc biv.ls ∧ Chg [] w w' := by
  refine (make_any h (by simp [bs2]) bp (some ⟨tb, 0, none⟩) c (SlIs.ofBlock bp.ts ht (fun _ => rfl) rfl) (by unfold maxLen; simp [bp]) ⟨#[116]⟩ (by decide) 0 (fun f hf => by rw [bwF] at hf; simp at hf; rcases hf with rfl | rfl <;> decide) (by rw [bwF]; decide)).mono ?_
  rintro e w' ⟨O, v', h1, rfl, h3, h4⟩
  have hz : (makeZ bs2 bp ⟨#[116]⟩ 0 O).2 = 0 := by
    rw [make_ok (by rw [bwT]) (by rw [bwA]) bwX (by rw [bwA, bwW]; kernel_rfl)]
  have h5 := h1 hz
  rw [bwA, bwW] at h5
  have h6 := h5.unique bo4
  subst h6
  rw [bwM] at h3 ⊢
  obtain ⟨va, vc, rfl⟩ := RowOf.shape h3
  exact ⟨va, vc, rfl, (InIs.ofRow h3 lnC_len).2, h4⟩
set_option maxHeartbeats 4000000 in
set_option maxRecDepth 100000 in
theorem make_no (p : Prc) (pa : Option Addr) (pc : Nat) (tn : ByteArray) (per : Int) (w : World) : Calls Tryd.prog 19 #[.pointer none, prV p pa pc, .string tn, .int .i64 per] w fun e w' => e = .returned (.tuple #[ivW inv0 (.slice none 0 0), .int .i64 10]) ∧ Chg [] w w' := by
  have HT := Lib.hid (fun w' => total_no (w := w') (q := none) tn per (.inl rfl))
  obtain ⟨W1, hW1⟩ : ∃ W1, W1 = (w.alloc (prO p pa pc)).alloc zivO := ⟨_, rfl⟩
  have C1 := Lib.hid (show Chg [] w W1 from hW1 ▸ ((Chg.refl _ _).alloc _).alloc _)
  have Y1 := Lib.hid (show W1.heap[w.heap.size + 1]? = some zivO from by
    rw [hW1]
    have := heap_alloc_new (w.alloc (prO p pa pc)) zivO
    rwa [World.size_alloc] at this)
  have HW1 := Lib.hid hW1
  have lt1 := lt_of_heap Y1.out
  clear hW1
  unfold prO zivO at HW1
  unfold prV
  unfold usV zU at HT
  go_enter Tryd.func19, Tryd.ntmps19
  go_wp2_with fail
  rw [← HW1.out]
  go_wp2_with fail
  refine (HT.out _).mono ?_; rintro e w2 ⟨rfl, hc2⟩
  have C2 := Lib.hid ((C1.out.thenSame hc2).alloc (.cells #[.int .i64 0, .int .i64 0, .int .i64 0, .int .i64 0] 48))
  have Y2 := Lib.hid (blk_alloc (o' := .cells #[.int .i64 0, .int .i64 0, .int .i64 0, .int .i64 0] 48) (hc2.at (by simp) Y1.out))
  have k2 := blk_cell Y2.out
  have f2 := blk_free Y2.out
  have lt2 := lt_of_heap Y2.out
  clear hc2
  go_wp2_with fail
  have r1 := blk_cell (st6_at (.string ⟨#[]⟩) (.int .i64 0) (.slice none 0 0) (.int .i64 0) (.int .i64 0) (.int .i64 0) Y2.out)
  refine bodyPost_ret (v := .tuple #[.agg #[.string ⟨#[]⟩, .int .i64 0, .slice none 0 0, .int .i64 0, .int .i64 0, .int .i64 0], .int .i64 10]) (by simp [results, Tryd.results19, go_sem, r1]) rfl ?_
  exact ⟨rfl, st6_chg _ _ _ _ _ _ (by omega) C2.out⟩
end Go.Proofs.YtehjalgogjkdlaaDoor

namespace Go.Proofs.YtehjalgogjkdlaaDoor
set_option linter.unusedVariables false
set_option linter.unusedSimpArgs false
open Go.RowKit
/-- An invoice, and where its lines lie. -/
structure IvX where
  i : Inv
  a : Option Addr
  cap : Nat
def ivC (x : IvX) : List Value := [.string x.i.tn, .int .i64 x.i.per, .slice x.a x.i.ls.length x.cap, .int .i64 x.i.gr, .int .i64 x.i.re, .int .i64 x.i.nt]
theorem ivC_len (x : IvX) : (ivC x).length = 6 := rfl
def ILs (w : World) (a : Option Addr) (l : List IvX) : Prop := SlIs ivC 6 w a l.length l ∧ ∀ x ∈ l, InIs lnC 6 w x.a x.cap x.i.ls ∧ x.i.good
theorem ILs.kept {w w' : World} {a : Option Addr} {l : List IvX} (h : ILs w a l) (hc : Chg [] w w') : ILs w' a l := ⟨h.1.kept hc, fun x hx => ⟨(h.2 x hx).1.kept hc, (h.2 x hx).2⟩⟩
theorem map_at {α β : Type} (f : α → β) {l : List α} {k : Nat} {x : α} (h : l[k]? = some x) : (l.map f)[k]? = some (f x) := by rw [List.getElem?_map, h]; rfl
set_option maxHeartbeats 8000000 in
set_option maxRecDepth 100000 in
theorem total54_any (l : List IvX) (a : Option Addr) (cap : Nat) (w : World) (h : ILs w a l) (hm : l.length ≤ maxLen) : Calls Tryd.prog 21 #[.slice a l.length cap] w fun e w' => e = .returned (.tuple #[.int .i64 (totZ (l.map IvX.i)).1, .int .i64 (totZ (l.map IvX.i)).2]) ∧ Chg [] w w' := by
  obtain ⟨Z, hZ⟩ : ∃ Z, Z = totZ (l.map IvX.i) := ⟨_, rfl⟩
  rw [← hZ]
  unfold totZ at hZ
  have HZ := Lib.hid hZ
  have H := Lib.hid h
  have L := Lib.hid (fun (x : IvX) (hx : x ∈ l) w' (hc : Chg [] w w') => check_any x.i x.a x.cap w' ((h.2 x hx).1.1.kept hc) (h.2 x hx).2)
  unfold ivV at L
  have hln : (l.length : Int) ≤ 9223372036854775807 := by unfold maxLen at hm; omega
  obtain ⟨E, hE⟩ : ∃ E, E = errs ((l.map IvX.i).map invZ) := ⟨_, rfl⟩
  rw [← hE] at HZ
  have HE := Lib.hid hE
  clear h hZ hE hm
  go_enter Tryd.func21, Tryd.ntmps21
  go_wp2_with fail
  go_loopw [12] (fun j wr => ∃ k : Nat, j = .int .i64 k ∧ k ≤ l.length ∧ Hid (errs (((l.map IvX.i).map invZ).take k) = 0) ∧ Hid (Chg [] w wr)) (fun j _ => l.length - (intOf j).toNat)
  case atStart => exact ⟨0, rfl, Nat.zero_le _, Lib.hid rfl, Lib.hid (Chg.refl _ _)⟩
  case round =>
    obtain ⟨k, rfl, hk, HER, HC⟩ := hrel
    by_cases hkn : k < l.length
    · obtain ⟨g, o, rfl, -, hbr, hcc⟩ := H.out.1.elem HC.out k hkn
      have d0 := hcc 0 (by omega)
      have d1 := hcc 1 (by omega)
      have d2 := hcc 2 (by omega)
      have d3 := hcc 3 (by omega)
      have d4 := hcc 4 (by omega)
      have d5 := hcc 5 (by omega)
      obtain ⟨x, hx1⟩ : ∃ x, l[k]? = some x := ⟨l[k], List.getElem?_eq_getElem hkn⟩
      have hxe := (List.getElem?_eq_some_iff.1 hx1).2
      rw [hxe] at d0 d1 d2 d3 d4 d5
      simp only [ivC, List.getElem?_cons_zero, List.getElem?_cons_succ, Nat.add_zero] at d0 d1 d2 d3 d4 d5
      have hk0 : (0 : Int) ≤ (k : Int) := by omega
      have hk1 : (k : Int) < (l.length : Int) := by omega
      have hat : ((l.map IvX.i).map invZ)[k]? = some (invZ x.i) := map_at _ (map_at _ hx1)
      have LL := Lib.hid (L.out x (List.mem_of_getElem? hx1))
      have C1 := Lib.hid (HC.out.alloc (.cells #[.string x.i.tn, .int .i64 x.i.per, .slice x.a x.i.ls.length x.cap, .int .i64 x.i.gr, .int .i64 x.i.re, .int .i64 x.i.nt] 33))
      obtain ⟨le, hle⟩ : ∃ le, le = invZ x.i := ⟨_, rfl⟩
      rw [← hle] at LL hat
      clear hcc hx1 hxe hle
      by_cases he : le = 0
      · subst he
        have HN := Lib.hid (errs_next HER.out hat)
        clear hat
        go_wp2_with fail
        refine (LL.out _ (by first | exact C1.out | exact HC.out)).mono ?_; rintro e w4 ⟨rfl, hc4⟩
        have C4 := Lib.hid (show Chg [] w w4 from by first | exact C1.out.thenSame hc4 | exact HC.out.thenSame hc4)
        clear hc4
        go_wp2_with fail
        exact ⟨⟨k + 1, by go_num, by omega, HN, C4⟩, by simp [intOf]; omega⟩
      · have HEE := Lib.hid (HE.out.trans (errs_at HER.out hat he))
        have heb : (le != 0) = true := by rw [bne_iff_ne]; exact he
        have HR := Lib.hid (HZ.out.trans (if_pos (by rw [HEE.out]; exact he)))
        clear hat
        go_wp2_with fail
        refine (LL.out _ (by first | exact C1.out | exact HC.out)).mono ?_; rintro e w4 ⟨rfl, hc4⟩
        have C4 := Lib.hid (show Chg [] w w4 from by first | exact C1.out.thenSame hc4 | exact HC.out.thenSame hc4)
        clear hc4
        go_wp2_with fail
        go_ret2
        exact ⟨by rw [HR.out, HEE.out]; rfl, C4.out⟩
    · have hke : k = l.length := by omega
      have hkn2 : ¬ (k : Int) < (l.length : Int) := by omega
      have he0 : E = 0 := by
        have h1 := HER.out
        rw [hke, List.take_of_length_le (by simp)] at h1
        rw [HE.out]; exact h1
      have HZ1 := Lib.hid (HZ.out.trans (if_neg (by rw [he0]; simp)))
      have HNT := Lib.hid (nets_in (HE.out.symm.trans he0))
      have HC0 := HC
      clear he0 hke
      go_wp2_with fail
      clear HC
      go_loopw [4, 24] (fun sv jv wr => ∃ k : Nat, jv = .int .i64 k ∧ sv = .int .i64 (sumNt ((l.map IvX.i).take k)) ∧ k ≤ l.length ∧ Hid (sumNt ((l.map IvX.i).take k) ≤ 1000000000000) ∧ Hid (Chg [] w wr)) (fun sv jv _ => l.length - (intOf jv).toNat)
      case atStart => exact ⟨0, rfl, rfl, Nat.zero_le _, Lib.hid (by simp [sumNt]), HC0⟩
      case round =>
        clear hkn hkn2 hk HER HC0
        obtain ⟨k, rfl, rfl, hk, HS, HC⟩ := hrel
        have hs0 : 0 ≤ sumNt ((l.map IvX.i).take k) := sumNt_nn fun x hx => (HNT.out x (List.mem_of_mem_take hx)).2.1
        have hs1 := HS.out
        by_cases hkn : k < l.length
        · obtain ⟨g, o, rfl, -, hbr, hcc⟩ := H.out.1.elem HC.out k hkn
          have d0 := hcc 0 (by omega)
          have d1 := hcc 1 (by omega)
          have d2 := hcc 2 (by omega)
          have d3 := hcc 3 (by omega)
          have d4 := hcc 4 (by omega)
          have d5 := hcc 5 (by omega)
          obtain ⟨x, hx1⟩ : ∃ x, l[k]? = some x := ⟨l[k], List.getElem?_eq_getElem hkn⟩
          have hxe := (List.getElem?_eq_some_iff.1 hx1).2
          rw [hxe] at d0 d1 d2 d3 d4 d5
          simp only [ivC, List.getElem?_cons_zero, List.getElem?_cons_succ, Nat.add_zero] at d0 d1 d2 d3 d4 d5
          have hk0 : (0 : Int) ≤ (k : Int) := by omega
          have hk1 : (k : Int) < (l.length : Int) := by omega
          have hxi := map_at IvX.i hx1
          have hnt := (HNT.out x.i (List.mem_of_getElem? hxi)).2
          have HST := Lib.hid (sumNt_take hxi)
          have HSL := Lib.hid (sumNt_drop (l := l.map IvX.i) (fun x hx => (HNT.out x hx).2.1) (k + 1))
          have C1 := Lib.hid (HC.out.alloc (.cells #[.string x.i.tn, .int .i64 x.i.per, .slice x.a x.i.ls.length x.cap, .int .i64 x.i.gr, .int .i64 x.i.re, .int .i64 x.i.nt] 33))
          generalize sumNt ((l.map IvX.i).take k) = sk at *
          obtain ⟨⟨tn, per, ls, gr, re, nt⟩, xa, xc⟩ := x
          simp only at d0 d1 d2 d3 d4 d5 hnt HST C1
          obtain ⟨hn0, hn1⟩ := hnt
          clear hcc hx1 hxe hxi
          by_cases hb : 1000000000000 < sk + nt
          · have HR := Lib.hid (HZ1.out.trans (if_neg (by have := HSL.out; have := HST.out; omega)))
            go_wp2_with fail
            go_ret2
            exact ⟨by rw [HR.out]; rfl, by first | exact C1.out | exact HC.out⟩
          · have HS2 := Lib.hid (show sumNt ((l.map IvX.i).take (k + 1)) ≤ 1000000000000 by rw [HST.out]; omega)
            go_wp2_with fail
            exact ⟨⟨k + 1, by go_num, by rw [HST.out], by omega, HS2, by first | exact C1 | exact HC⟩, by simp [intOf]; omega⟩
        · have hke : k = l.length := by omega
          have hkn2 : ¬ (k : Int) < (l.length : Int) := by omega
          rw [hke, List.take_of_length_le (by simp)] at hs1 ⊢
          have HR := Lib.hid (HZ1.out.trans (if_pos hs1))
          clear hke HS hs0 hs1
          generalize sumNt (l.map IvX.i) = sm at *
          go_wp2_with fail
          go_ret2
          exact ⟨by rw [HR.out]; rfl, HC.out⟩
end Go.Proofs.YtehjalgogjkdlaaDoor

namespace Go.Proofs.YtehjalgogjkdlaaDoor
set_option linter.unusedVariables false
set_option linter.unusedSimpArgs false
open Go.RowKit
set_option maxHeartbeats 2000000 in
set_option maxRecDepth 100000 in
theorem rsame05_any (l : List (List UInt8)) (a b : Option Addr) (c c2 : Nat) (w : World) (h : SlIs kc 1 w a l.length l) (h2 : SlIs kc 1 w b l.length l) (hm : l.length ≤ maxLen) : Calls Tryd.prog 22 #[.slice a l.length c, .slice b l.length c2] w fun e w' => e = .returned (.bool true) ∧ Chg [] w w' := by
  have H := Lib.hid h
  have H2 := Lib.hid h2
  have hln : (l.length : Int) ≤ 9223372036854775807 := by unfold maxLen at hm; omega
  clear h h2 hm
  go_enter Tryd.func22, Tryd.ntmps22
  go_wp2_with fail
  go_loopw [5] (fun j wr => ∃ k : Nat, j = .int .i64 k ∧ k ≤ l.length ∧ Hid (Chg [] w wr)) (fun j _ => l.length - (intOf j).toNat)
  case atStart => exact ⟨0, rfl, Nat.zero_le _, Lib.hid (Chg.refl _ _)⟩
  case round =>
    obtain ⟨k, rfl, hk, HC⟩ := hrel
    by_cases hkn : k < l.length
    · obtain ⟨g1, o1, rfl, -, hbr1, hcc1⟩ := H.out.elem HC.out k hkn
      obtain ⟨g2, o2, rfl, -, hbr2, hcc2⟩ := H2.out.elem HC.out k hkn
      have d0 := hcc1 0 (by omega)
      have e0 := hcc2 0 (by omega)
      generalize l[k] = x at *
      simp only [kc, encStr, List.getElem?_cons_zero, Nat.add_zero, Nat.mul_one] at d0 e0
      have hk0 : (0 : Int) ≤ (k : Int) := by omega
      have hk1 : (k : Int) < (l.length : Int) := by omega
      clear hcc1 hcc2
      go_wp2_with fail
      go_quiet (fail)
      go_wp2_with fail
      exact ⟨⟨k + 1, by go_num, by omega, Lib.hid (HC.out.drewN _)⟩, by simp [intOf]; omega⟩
    · have hkn2 : ¬ (k : Int) < (l.length : Int) := by omega
      go_wp2_with fail
      go_ret
      exact ⟨rfl, HC.out⟩
end Go.Proofs.YtehjalgogjkdlaaDoor

namespace Go.Proofs.YtehjalgogjkdlaaDoor
set_option linter.unusedVariables false
set_option linter.unusedSimpArgs false
open Go.RowKit
theorem biv_good : biv.good := ⟨by decide, fun x hx => by simp [biv] at hx; rcases hx with rfl | rfl <;> (unfold Ln.good; decide), by unfold maxLen; simp [biv]⟩
theorem biw_good : biw.good := ⟨by decide, fun x hx => by simp [biw] at hx; rcases hx with rfl | rfl <;> (unfold Ln.good; decide), by unfold maxLen; simp [biw]⟩
theorem bix_good : bix.good := ⟨by decide, fun x hx => by simp [bix] at hx; rcases hx with rfl | rfl <;> (unfold Ln.good; decide), by unfold maxLen; simp [bix]⟩
/-- The invoice of the example, as a value. -/
def bv (va : Option Addr) (vc : Nat) (r n : Int) : Value := .agg #[.string ⟨#[116]⟩, .int .i64 0, .slice va 2 vc, .int .i64 270, .int .i64 r, .int .i64 n]
theorem bw_refund {w : World} {va : Option Addr} {vc : Nat} (h : InIs lnC 6 w va vc biv.ls) : Calls Tryd.prog 8 #[.agg #[.string ⟨#[116]⟩, .int .i64 0, .slice va 2 vc, .int .i64 270, .int .i64 0, .int .i64 270], .int .i64 500] w fun e w' => ∃ ra rc, e = .returned (.tuple #[.agg #[.string ⟨#[116]⟩, .int .i64 0, .slice ra 2 rc, .int .i64 270, .int .i64 135, .int .i64 135], .int .i64 0]) ∧ InIs lnC 6 w' ra rc biw.ls ∧ Chg [] w w' := by
  refine (refund_any biv va vc 500 w h biv_good (by simp [biv])).mono ?_
  rintro e w' ⟨v, rfl, h1, h2⟩
  rw [bwRf] at h1 ⊢
  obtain ⟨ra, rc, rfl⟩ := RowOf.shape h1
  exact ⟨ra, rc, rfl, (InIs.ofRow h1 lnC_len).2, h2⟩
theorem bw_format {w : World} {va : Option Addr} {vc : Nat} (h : InIs lnC 6 w va vc biw.ls) (ht : TabW w) : Calls Tryd.prog 20 #[.agg #[.string ⟨#[116]⟩, .int .i64 0, .slice va 2 vc, .int .i64 270, .int .i64 135, .int .i64 135]] w fun e w' => ∃ fa fc, e = .returned (.tuple #[.slice fa 6 fc, .int .i64 0]) ∧ RowOf kc 1 w' w.heap.size 9 (.slice fa 6 fc) bFm ∧ Chg [] w w' := by
  refine (format54_any biw va vc w h.1 biw_good (by simp [biw]) ht).mono ?_
  rintro e w' ⟨v, rfl, h1, h2⟩
  rw [bwFm] at h1 ⊢
  obtain ⟨fa, fc, rfl⟩ := RowOf.shape h1
  exact ⟨fa, fc, rfl, h1, h2⟩
theorem bw_check1 {w : World} {va : Option Addr} {vc : Nat} (h : InIs lnC 6 w va vc biv.ls) : Calls Tryd.prog 9 #[.agg #[.string ⟨#[116]⟩, .int .i64 0, .slice va 2 vc, .int .i64 270, .int .i64 0, .int .i64 270]] w fun e w' => e = .returned (.int .i64 0) ∧ Chg [] w w' := by
  have := check_any biv va vc w h.1 biv_good
  rw [bwI1] at this
  exact this
theorem bw_check2 {w : World} {va : Option Addr} {vc : Nat} (h : InIs lnC 6 w va vc biw.ls) : Calls Tryd.prog 9 #[.agg #[.string ⟨#[116]⟩, .int .i64 0, .slice va 2 vc, .int .i64 270, .int .i64 135, .int .i64 1]] w fun e w' => e = .returned (.int .i64 10) ∧ Chg [] w w' := by
  have := check_any bix va vc w h.1 bix_good
  rw [bwI3] at this
  exact this
theorem bw_total {w : World} {va ra : Option Addr} {vc rc g c : Nat} (h1 : InIs lnC 6 w va vc biv.ls) (h2 : InIs lnC 6 w ra rc biw.ls) (hb : w.heap[g]? = some (.cells #[.string ⟨#[116]⟩, .int .i64 0, .slice va 2 vc, .int .i64 270, .int .i64 0, .int .i64 270, .string ⟨#[116]⟩, .int .i64 0, .slice ra 2 rc, .int .i64 270, .int .i64 135, .int .i64 135] 33)) : Calls Tryd.prog 21 #[.slice (some ⟨g, 0, none⟩) 2 c] w fun e w' => e = .returned (.tuple #[.int .i64 405, .int .i64 0]) ∧ Chg [] w w' := by
  have := total54_any [⟨biv, va, vc⟩, ⟨biw, ra, rc⟩] (some ⟨g, 0, none⟩) c w ⟨SlIs.ofBlock _ hb ivC_len rfl, fun x hx => by
    simp at hx
    rcases hx with rfl | rfl
    · exact ⟨h1, biv_good⟩
    · exact ⟨h2, biw_good⟩⟩ (by unfold maxLen; simp)
  rw [show ([⟨biv, va, vc⟩, ⟨biw, ra, rc⟩] : List IvX).map IvX.i = [biv, biw] from rfl, bwTo] at this
  exact this
theorem bw_same {w : World} {fa : Option Addr} {fc g c : Nat} {cur : Array Value} {t : TypeId} {fr : Nat × Nat} (h1 : SlIs kc 1 w fa 6 bFm) (hb : w.heap[g]? = some (.cells cur t fr)) (hc : cur.toList = bFm.flatMap kc) : Calls Tryd.prog 22 #[.slice fa 6 fc, .slice (some ⟨g, 0, none⟩) 6 c] w fun e w' => e = .returned (.bool true) ∧ Chg [] w w' :=
  rsame05_any bFm fa (some ⟨g, 0, none⟩) fc c w h1 (SlIs.ofBlock bFm hb kLen hc) (by decide)
set_option maxHeartbeats 16000000 in
set_option maxRecDepth 100000 in
theorem awake54_any (w : World) (ht : TabW w) : Calls Tryd.prog 6 #[] w fun e w' => e = .returned (.bool true) ∧ Chg [] w w' := by
  have HT := Lib.hid ht
  clear ht
  go_enter Tryd.func6, Tryd.ntmps6
  go_wp2_with fail
  refine (share_val (W := [1, 1, 1]) (heap_alloc_new _ _) (by kernel_rfl) bo1 bh1 rfl).mono ?_; rintro e w1 ⟨s1, rfl, hb1, -, hc1⟩
  have C1 := Lib.hid (((Chg.refl [] w).alloc _).thenSame hc1)
  have B1 := Lib.hid hb1
  clear hb1 hc1
  go_wp2_with fail
  refine (share_val (W := [0, 0]) (heap_alloc_new _ _) (by kernel_rfl) bo2 bh2 rfl).mono ?_; rintro e w2 ⟨s2, rfl, hb2, -, hc2⟩
  have K2 := Lib.hid (((Chg.refl [] w1).alloc _).thenSame hc2)
  have C2 := Lib.hid (C1.out.thenSame K2.out)
  have B1b := Lib.hid (B1.out.keep K2.out (by simp))
  have B2 := Lib.hid hb2
  clear hb2 hc2
  go_wp2_with fail
  refine (share_val (W := [3, 0, 1]) (heap_alloc_new _ _) (by kernel_rfl) bo3 bh3 rfl).mono ?_; rintro e w3 ⟨s3, rfl, hb3, -, hc3⟩
  have K3 := Lib.hid (((Chg.refl [] w2).alloc _).thenSame hc3)
  have C3 := Lib.hid (C2.out.thenSame K3.out)
  have B1c := Lib.hid (B1b.out.keep K3.out (by simp))
  have B2c := Lib.hid (B2.out.keep K3.out (by simp))
  have B3 := Lib.hid hb3
  clear hb3 hc3 B1 B1b B2
  go_wp2_with fail
  refine (share_none _ _).mono ?_; rintro e w4 ⟨rfl, rfl⟩
  go_wp2_with fail
  refine (ints_val (V := [4, 3, 3]) (B1c.out.keep ((Chg.refl [] _).alloc _) (by simp)) (heap_alloc_new _ _) rfl (Nat.le_of_ble_eq_true rfl)).mono ?_; rintro e w5 ⟨rfl, hc5⟩
  have K5 := Lib.hid (((Chg.refl [] w3).alloc _).thenSame hc5)
  clear hc5
  go_wp2_with fail
  refine (ints_val (V := [4, 3]) (B2c.out.keep (K5.out.alloc _) (by simp)) (heap_alloc_new _ _) rfl (Nat.le_of_ble_eq_true rfl)).mono ?_; rintro e w6 ⟨rfl, hc6⟩
  have K6 := Lib.hid ((K5.out.alloc _).thenSame hc6)
  clear hc6
  go_wp2_with fail
  refine (ints_val (V := [4, 0, 1]) (B3.out.keep (K6.out.alloc _) (by simp)) (heap_alloc_new _ _) rfl (Nat.le_of_ble_eq_true rfl)).mono ?_; rintro e w7 ⟨rfl, hc7⟩
  have C7 := Lib.hid (C3.out.thenSame ((K6.out.alloc _).thenSame hc7))
  clear hc7 K5 K6 B1c B2c B3 K2 K3 C1 C2 C3
  go_wp2_with fail
  refine (new_any w7).mono ?_; rintro e w8 ⟨b, mb, rfl, hl8, hb8, hm8, hc8⟩
  have C8 := Lib.hid (C7.out.thenSame hc8)
  have L8 := Lib.hid hl8
  have hs7 := C7.out.size
  have NB := Lib.hid (show w.heap.size ≤ b ∧ w.heap.size ≤ mb by omega)
  clear hl8 hc8 hb8 hm8 hs7
  go_wp2_with fail
  refine (bw_rec1 L8.out).mono ?_; rintro e w9 ⟨rfl, v9, hl9, ho9, hc9⟩
  have O9 := Lib.hid (fun g (hg : v9.ownBlock = some g) => show w.heap.size ≤ g from by
    have h1 := C8.out.size
    rcases ho9 g hg with q | q
    · exact nomatch (show (none : Option Nat) = some g from q)
    · omega)
  have C9 := Lib.hid (show Chg [] w w9 from C8.out.trans hc9 (by simp) (fun x hx hlt => by
    have := NB.out
    rcases mem_lfp.1 hx with rfl | rfl | q
    · omega
    · omega
    · exact nomatch (show (none : Option Nat) = some x from q)))
  have L9 := Lib.hid hl9
  clear hl9 ho9 hc9 L8
  go_wp2_with fail
  refine (bw_rec2 L9.out).mono ?_; rintro e w10 ⟨rfl, v10, hl10, -, hc10⟩
  have C10 := Lib.hid (show Chg [] w w10 from C9.out.trans hc10 (by simp) (fun x hx hlt => by
    have := NB.out
    rcases mem_lfp.1 hx with rfl | rfl | q
    · omega
    · omega
    · have := O9.out x q; omega))
  have L10 := Lib.hid hl10
  clear hl10 hc10 L9 O9 NB
  go_wp2_with fail
  have X12 := Lib.hid (show ((w10.alloc (.cells #[.int .i64 0, .int .i64 10] 52)).alloc (.cells #[.int .i64 0, .int .i64 0, .int .i64 100, .slice (some ⟨w10.heap.size, 0, none⟩) 1 1] 55)).heap[w10.heap.size + 1]? = some (.cells #[.int .i64 0, .int .i64 0, .int .i64 100, .slice (some ⟨w10.heap.size, 0, none⟩) 1 1] 55) from alloc_at5 (by simp only [World.size_alloc]))
  have C12 := Lib.hid ((C10.out.alloc (.cells #[.int .i64 0, .int .i64 10] 52)).alloc (.cells #[.int .i64 0, .int .i64 0, .int .i64 100, .slice (some ⟨w10.heap.size, 0, none⟩) 1 1] 55))
  refine (bw_make (L10.out.keptN (((Chg.refl [] w10).alloc (.cells #[.int .i64 0, .int .i64 10] 52)).alloc (.cells #[.int .i64 0, .int .i64 0, .int .i64 100, .slice (some ⟨w10.heap.size, 0, none⟩) 1 1] 55))) (blk_alloc (heap_alloc_new _ _))).mono ?_; rintro e w13 ⟨va, vc, rfl, hi13, hc13⟩
  have C13 := Lib.hid (C12.out.thenSame hc13)
  have N13 := Lib.hid (show w10.heap.size + 1 < w13.heap.size from Nat.lt_of_lt_of_le (lt_of_heap X12.out) hc13.size)
  have X13 := Lib.hid (hc13.at (by simp) X12.out)
  have I13 := Lib.hid hi13
  clear hi13 hc13 X12 C12 L10
  go_wp2_with fail
  refine (bw_refund (I13.out.kept ((Chg.refl [] w13).alloc (.cells #[.string ⟨#[116]⟩, .int .i64 0, .slice va 2 vc, .int .i64 270, .int .i64 0, .int .i64 270] 33)))).mono ?_; rintro e w15 ⟨ra, rc, rfl, hi15, hc15⟩
  have K15 := Lib.hid (((Chg.refl [] w13).alloc (.cells #[.string ⟨#[116]⟩, .int .i64 0, .slice va 2 vc, .int .i64 270, .int .i64 0, .int .i64 270] 33)).thenSame hc15)
  have C15 := Lib.hid (C13.out.thenSame K15.out)
  have N15 := Lib.hid (show w13.heap.size < w15.heap.size from Nat.lt_of_lt_of_le (by simp) hc15.size)
  have X15 := Lib.hid (K15.out.at (by simp) X13.out)
  have I15 := Lib.hid (I13.out.kept K15.out)
  have A15 := Lib.hid (hc15.at (by simp) (heap_alloc_new w13 (.cells #[.string ⟨#[116]⟩, .int .i64 0, .slice va 2 vc, .int .i64 270, .int .i64 0, .int .i64 270] 33)))
  have J15 := Lib.hid hi15
  have a15 := blk_cell A15.out
  have b15 := lt_of_heap A15.out
  clear hi15 hc15 I13 X13
  go_wp2_with fail
  refine (bw_format (J15.out.kept ((Chg.refl [] w15).alloc (.cells #[.string ⟨#[116]⟩, .int .i64 0, .slice ra 2 rc, .int .i64 270, .int .i64 135, .int .i64 135] 33))) (HT.out.kept (C15.out.alloc (.cells #[.string ⟨#[116]⟩, .int .i64 0, .slice ra 2 rc, .int .i64 270, .int .i64 135, .int .i64 135] 33)))).mono ?_; rintro e w17 ⟨fa, fc, rfl, hf17, hc17⟩
  have K17 := Lib.hid (((Chg.refl [] w15).alloc (.cells #[.string ⟨#[116]⟩, .int .i64 0, .slice ra 2 rc, .int .i64 270, .int .i64 135, .int .i64 135] 33)).thenSame hc17)
  have C17 := Lib.hid (C15.out.thenSame K17.out)
  have X17 := Lib.hid (K17.out.at (by simp) X15.out)
  have I17 := Lib.hid (I15.out.kept K17.out)
  have J17 := Lib.hid (J15.out.kept K17.out)
  have A17 := Lib.hid (K17.out.at (by simp) A15.out)
  have D17 := Lib.hid (hc17.at (by simp) (heap_alloc_new w15 (.cells #[.string ⟨#[116]⟩, .int .i64 0, .slice ra 2 rc, .int .i64 270, .int .i64 135, .int .i64 135] 33)))
  have F17 := Lib.hid hf17
  have a17 := blk_cell A17.out
  have b17 := lt_of_heap A17.out
  have d17 := blk_cell D17.out
  have e17 := lt_of_heap D17.out
  clear hf17 hc17 X15 A15 a15 b15 K15
  go_wp2_with fail
  refine (bw_total (I17.out.kept ((Chg.refl [] w17).alloc _)) (J17.out.kept ((Chg.refl [] w17).alloc _)) (heap_alloc_new _ _)).mono ?_; rintro e w19 ⟨rfl, hc19⟩
  have K19 := Lib.hid (((Chg.refl [] w17).alloc _).thenSame hc19)
  have C19 := Lib.hid (C17.out.thenSame K19.out)
  have X19 := Lib.hid (K19.out.at (by simp) X17.out)
  have I19 := Lib.hid (I17.out.kept K19.out)
  have J19 := Lib.hid (J17.out.kept K19.out)
  have A19 := Lib.hid (K19.out.at (by simp) A17.out)
  have D19 := Lib.hid (K19.out.at (by simp) D17.out)
  have F19 := Lib.hid (F17.out.kept K19.out (by simp))
  have a19 := blk_cell A19.out
  have b19 := lt_of_heap A19.out
  have d19 := blk_cell D19.out
  have e19 := lt_of_heap D19.out
  have f19 := blk_free D19.out
  have KK := Lib.hid (K17.out.thenSame K19.out)
  clear hc19 I17 J17 X17 A17 D17 F17 a17 b17 d17 e17 K19 K17
  have n1 : w10.heap.size + 1 < w13.heap.size := by have := N13.out; omega
  have n2 : w13.heap.size < w15.heap.size := by have := N15.out; omega
  obtain ⟨w20, hw20⟩ : ∃ w20, w20 = w19.setCell ⟨w15.heap.size, 5, none⟩ (.int .i64 1) := ⟨_, rfl⟩
  have X20 := Lib.hid (show w20.heap[w10.heap.size + 1]? = _ from hw20 ▸ (blk_set_ne (w := w19) (b' := w10.heap.size + 1) (b := w15.heap.size) 5 (.int .i64 1) (by omega)).trans X19.out)
  have A20 := Lib.hid (show w20.heap[w13.heap.size]? = _ from hw20 ▸ (blk_set_ne (w := w19) (b' := w13.heap.size) (b := w15.heap.size) 5 (.int .i64 1) (by omega)).trans A19.out)
  have D20 := Lib.hid (show w20.heap[w15.heap.size]? = some (.cells #[.string ⟨#[116]⟩, .int .i64 0, .slice ra 2 rc, .int .i64 270, .int .i64 135, .int .i64 1] 33) from hw20 ▸ blk_set D19.out 5 (.int .i64 1))
  have K20 := Lib.hid (show Chg [] w15 w20 from hw20 ▸ KK.out.setCell _ _ (fun q => absurd (show w15.heap.size < w15.heap.size from q) (by omega)))
  have I20 := Lib.hid (I15.out.kept K20.out)
  have J20 := Lib.hid (J15.out.kept K20.out)
  have C20 := Lib.hid (C15.out.thenSame K20.out)
  have F20 := Lib.hid (show RowOf kc 1 w20 (w15.alloc (.cells #[.string ⟨#[116]⟩, .int .i64 0, .slice ra 2 rc, .int .i64 270, .int .i64 135, .int .i64 135] 33)).heap.size 9 (.slice fa 6 fc) bFm from hw20 ▸ F19.out.kept (S := [w15.heap.size]) ((Chg.refl _ _).setCell _ _ (fun _ => by simp)) (fun x hx => by have := (RowOf.block F19.out x hx).1; rw [World.size_alloc] at this; simp; omega))
  have HW20 := Lib.hid hw20
  obtain ⟨gb, ob, rfl, -, lgb, hcc⟩ := I19.out.1.elem (Chg.refl [] _) 0 (by decide)
  have m0 := hcc 5 (by omega)
  obtain ⟨gb2, ob2, e2, -, -, hcc2⟩ := I19.out.1.elem (Chg.refl [] _) 1 (by decide)
  cases e2
  have m1 := hcc2 5 (by omega)
  simp only [biv, lnC, List.getElem_cons_zero, List.getElem_cons_succ, List.getElem?_cons_zero, List.getElem?_cons_succ, Nat.zero_mul, Nat.add_zero, Nat.one_mul] at m0 m1
  clear hcc hcc2 hw20
  have x19 := blk_cell X19.out
  have lx := lt_of_heap X19.out
  go_wp2_with fail
  rw [← HW20.out]
  refine (make_no bp (some ⟨w10.heap.size, 0, none⟩) 1 ⟨#[116]⟩ 0 w20).mono ?_; rintro e w21 ⟨rfl, hc21⟩
  have K21 := Lib.hid hc21
  have A21 := Lib.hid (hc21.at (by simp) A20.out)
  have D21 := Lib.hid (hc21.at (by simp) D20.out)
  have a21 := blk_cell A21.out
  have b21 := lt_of_heap A21.out
  have d21 := blk_cell D21.out
  have e21 := lt_of_heap D21.out
  clear hc21 x19 lx a19 b19 d19 e19 f19 m0 m1
  go_wp2_with fail
  refine (bw_check1 (I20.out.kept K21.out)).mono ?_; rintro e w22 ⟨rfl, hc22⟩
  have K22 := Lib.hid (K21.out.thenSame hc22)
  have d22 := blk_cell (hc22.at (by simp) D21.out)
  have e22 := lt_of_heap (hc22.at (by simp) D21.out)
  clear hc22 a21 b21 d21 e21
  go_wp2_with fail
  refine (bw_check2 (J20.out.kept K22.out)).mono ?_; rintro e w23 ⟨rfl, hc23⟩
  have K23 := Lib.hid (K22.out.thenSame hc23)
  clear hc23 d22 e22
  go_wp2_with fail
  refine (bw_same (RowOf.sl (F20.out.kept (K23.out.alloc _) (by simp)) kLen).1 (heap_alloc_new _ _) (by rw [flat_kc]; rfl)).mono ?_; rintro e w24 ⟨rfl, hc24⟩
  have K24 := Lib.hid ((K23.out.alloc _).thenSame hc24)
  clear hc24
  go_wp2_with fail
  go_ret
  exact ⟨rfl, C20.out.thenSame K24.out⟩
end Go.Proofs.YtehjalgogjkdlaaDoor

namespace Go.Proofs.YtehjalgogjkdlaaDoor
set_option linter.unusedVariables false
set_option linter.unusedSimpArgs false
open Go.RowKit Go.ChangeShapes Go.WideShapes
section
variable {H : Type} {enc : TypeId × Value → H} {w : World} {base : Nat} {spare : Nat → Bool} {held : Bool}
theorem cells_intZ : Tryd.prog.cellsOf 3 = 1 := by kernel_rfl
theorem opens_IntsZ {a : Option Addr} {len cap : Nat} {d : DataW H} {ps : List MemPlace} (h : DataW.Trod enc Tryd.prog w base spare held 22 (.slice a len cap) d ps) (hw : Wt Tryd.prog 22 d) : ∃ l : List Int, l.length = len ∧ InIs icI 1 w a cap l ∧ (∀ x ∈ l, (Lit.int .i64 x).wf = true) ∧ len * 8 ≤ 140737488355328 := by
  obtain ⟨l, h1, h2, h3, h4⟩ := open_sl1 icI (fun x => (Lit.int .i64 x).wf = true) Tryd.underlying22 cells_intZ (fun v n y hy => by
    obtain ⟨m, e, _, hw⟩ := DataW.trod_int Tryd.underlying3 hy
    simp at e
    exact ⟨m, hw, by simp [icI, e]⟩) h
  obtain ⟨h5, h6⟩ := trod_cap2 Tryd.underlying22 h
  have h7 := wt_len Tryd.underlying22 h hw
  rw [show Tryd.prog.bytesOf 3 = 8 by kernel_rfl] at h7
  have hl : l.length = len := h1.1
  subst hl
  exact ⟨l, rfl, ⟨h1, h4, h6, h5⟩, h2, by unfold reachBytes at h7; omega⟩
end
theorem ints_eq {V : List Int} {n c d : Nat} {a b : Option Addr} {w : World} (hV : V.length = n) (h1 : SlIs icI 1 w a n V) (h2 : SlIs icI 1 w b n V) (hm : n ≤ maxLen) : Calls Tryd.prog 16 #[.slice a n c, .slice b n d] w fun e w' => e = .returned (.bool true) ∧ Chg [] w w' := by
  subst hV
  refine (ints_any a b c d V V w h1 h2 hm hm).mono ?_
  rintro e w' ⟨rfl, h⟩
  exact ⟨by simp, h⟩
end Go.Proofs.YtehjalgogjkdlaaDoor
