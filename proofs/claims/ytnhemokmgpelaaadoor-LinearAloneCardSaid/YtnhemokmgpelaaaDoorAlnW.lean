/- Chapter 50: contract: the law's comparison of numbers. No condition. Chapter 50: the walk of LinearAlone. Condition: the table of Itoa lies as the program lays it. -/
import Derived.Test.YtnhemokmgpelaaaDoorCsm
import Derived.Test.YtnhemokmgpelaaaDoorRowi
import Derived.Test.YtnhemokmgpelaaaDoorInl
import Derived.Test.YtnhemokmgpelaaaDoorUnsW
import Derived.Deep.DeepCutAuto
import Derived.Deep.CutBlock
namespace Go.Proofs.YtnhemokmgpelaaaDoor
set_option linter.unusedVariables false
set_option linter.unusedSimpArgs false
open Go.RowKit
def inE (a b : Int) : Bool := a == b
set_option maxHeartbeats 4000000 in
set_option maxRecDepth 100000 in
theorem lints_any (a : Option Addr) (c : Nat) (l : List Int) (a2 : Option Addr) (c2 : Nat) (m : List Int) (w : World) (h : SlIs icI 1 w a l.length l) (hm : SlIs icI 1 w a2 m.length m) (hl : l.length ≤ 3518437208780) (hml : m.length ≤ 3518437208780) :
    Calls Tryd.prog 13 #[.slice a l.length c, .slice a2 m.length c2] w fun e w' => e = .returned (.bool (sameB inE l m)) ∧ Chg [] w w' := by
  have H := Lib.hid h
  have HM := Lib.hid hm
  obtain ⟨R, hR⟩ : ∃ R, R = sameB inE l m := ⟨_, rfl⟩
  rw [← hR]
  have HR := Lib.hid hR
  clear h hm hR
  by_cases hlen : l.length = m.length
  case neg =>
    have HE : Hid (R = false) := Lib.hid (by rw [HR.out]; unfold sameB; rw [decide_eq_false hlen]; rfl)
    have hlen' : ((l.length : Int) != (m.length : Int)) = true := bne_iff_ne.2 (by omega)
    go_enter Tryd.func13, Tryd.ntmps13
    go_wp2_with fail
    go_ret
    exact ⟨by rw [HE.out]; rfl, Chg.refl _ _⟩
  have hlen' : ((l.length : Int) != (m.length : Int)) = false := by simp [hlen]
  have HLen := Lib.hid hlen
  clear hlen
  go_enter Tryd.func13, Tryd.ntmps13
  go_wp2_with fail
  go_loopw [5] (fun i wr => ∃ k : Nat, i = .int .i64 k ∧ k ≤ l.length ∧ Hid (sameTo inE l m k = true) ∧ Hid (Chg [] w wr)) (fun i _ => l.length - (intOf i).toNat)
  case atStart => exact ⟨0, rfl, Nat.zero_le _, Lib.hid rfl, Lib.hid (Chg.refl _ _)⟩
  case round =>
    obtain ⟨k, rfl, hkl, HS, D⟩ := hrel
    by_cases hk : k < l.length
    · have hk2 : k < m.length := by have := HLen.out; omega
      obtain ⟨g1, o1, rfl, -, hbr1, hcc1⟩ := H.out.elem D.out k hk
      obtain ⟨g2, o2, rfl, -, hbr2, hcc2⟩ := HM.out.elem D.out k hk2
      have hst := sameTo_step (e := inE) hk hk2
      rw [HS.out, Bool.true_and] at hst
      have hno := same_no (e := inE) hk hk2
      generalize l[k] = x at *
      generalize m[k] = y at *
      have d0 := hcc1 0 (by omega)
      have e0 := hcc2 0 (by omega)
      simp only [icI, List.getElem?_cons_zero, Nat.add_zero, Nat.mul_one] at d0 e0
      have hk0 : (0 : Int) ≤ (k : Int) := by omega
      have hk1 : (k : Int) < (l.length : Int) := by omega
      have hk2' : (k : Int) < (m.length : Int) := by omega
      have HR0 := Lib.hid HR.out
      clear hcc1 hcc2
      cases hq : inE x y
      · have HE : Hid (R = false) := Lib.hid (by rw [HR0.out]; exact hno hq)
        have hxy : (x != y) = true := by unfold inE at hq; rw [bne, hq]; rfl
        clear hst hno hq
        go_wp2_with fail
        go_quiet (fail)
        go_wp2_with fail
        go_ret
        exact ⟨by rw [HE.out]; rfl, D.out.drewN _⟩
      · rw [hq] at hst
        have HST := Lib.hid hst
        have hxy : (x != y) = false := by unfold inE at hq; rw [bne, hq]; rfl
        clear hst hno hq
        go_wp2_with fail
        go_quiet (fail)
        go_wp2_with fail
        exact ⟨⟨k + 1, by go_num, by omega, HST, Lib.hid (D.out.drewN _)⟩, by simp [intOf]; omega⟩
    · have hks : k = l.length := by omega
      subst hks
      have HE : Hid (R = true) := Lib.hid (by rw [HR.out]; unfold sameB; rw [decide_eq_true HLen.out, HS.out]; rfl)
      go_wp2_with fail
      go_ret
      exact ⟨by rw [HE.out]; rfl, D.out⟩
end Go.Proofs.YtnhemokmgpelaaaDoor
namespace Go.Proofs.YtnhemokmgpelaaaDoor
set_option linter.unusedVariables false
set_option linter.unusedSimpArgs false
open Go.RowKit
theorem aloE_good {s : ByteArray} {q m : Int} {aa : Option Addr} {ac : Nat} {args : List (Rr Ce)} (hs : s.size ≤ maxLen) (he : args.map Rr.L = aloA q m) (hv : validB m = true) : EOp.good ⟨idX, s, aloOp q, aa, ac, args⟩ := by
  have hin : ∀ d ∈ args, d.L ∈ aloA q m := fun d hd => by rw [← he]; exact List.mem_map_of_mem hd
  have hl : args.length = (aloA q m).length := by rw [← he, List.length_map]
  have h2 : (aloA q m).length ≤ 2 := by unfold aloA; split; simp; split; simp; split <;> simp
  refine ⟨szX, hs, ?_, by simp only; omega, fun d hd => ?_⟩
  · simp only [aloOp]
    split
    · exact szWrite
    · split
      · exact szAdd
      · split
        · exact szCas
        · exact szRead
  · have := hin d hd
    unfold aloA at this
    have h0 : goodL [intC 0] := intC_goodL (by rfl)
    split at this
    · simp at this; rw [this]; exact intC_goodL hv
    · split at this
      · simp at this; rw [this]; exact intC_goodL hv
      · split at this
        · simp at this
          rcases this with h | h <;> rw [h]
          · exact h0
          · exact intC_goodL hv
        · simp at this
def aloC (s : ByteArray) (q : Int) (aa : Option Addr) (ac : Nat) (args : List (Rr Ce)) (zr : Int) (va : Option Addr) (vc : Nat) (za : List Ce) (k : Nat) : Cl := ⟨⟨idX, s, aloOp q, aa, ac, args⟩, zr, va, vc, za, 2 * (k : Int), 2 * (k : Int) + 1⟩
theorem intInfo2 : (Tryd.prog.info? 3).map (fun i => (i.zero, i.size, i.bytes)) = some (some (.int .i64 0), 1, 8) := by kernel_rfl
theorem eop_four {w : World} {b : Nat} {x0 x1 x2 x3 : Value} {t : TypeId} (hb : w.heap[b]? = some (.cells #[x0, x1, x2, x3] t (0, 0))) (v0 v1 v2 v3 : Value) :
    ((((w.setCell ⟨b, 0, none⟩ v0).setCell ⟨b, 1, none⟩ v1).setCell ⟨b, 2, none⟩ v2).setCell ⟨b, 3, none⟩ v3).heap[b]? = some (.cells #[v0, v1, v2, v3] t (0, 0)) ∧ Chg [b] w ((((w.setCell ⟨b, 0, none⟩ v0).setCell ⟨b, 1, none⟩ v1).setCell ⟨b, 2, none⟩ v2).setCell ⟨b, 3, none⟩ v3) := by
  refine ⟨?_, ((((Chg.refl _ _).setCell _ _ (by simp)).setCell _ _ (by simp)).setCell _ _ (by simp)).setCell _ _ (by simp)⟩
  have := blk_set (blk_set (blk_set (blk_set hb 0 v0) 1 v1) 2 v2) 3 v3
  simpa using this
theorem two_rr {w : World} {b : Nat} {d d2 : Rr Ce} {t : TypeId} (h : w.heap[b]? = some (.cells #[.slice d.a d.L.length d.c, .slice d2.a d2.L.length d2.c] t (0, 0))) : InIs rrC 1 w (some ⟨b, 0, none⟩) 2 [d, d2] :=
  ⟨SlIs.ofBlock (cf := rrC) [d, d2] h rrC_len rfl, Nat.le_refl _, by unfold maxLen; simp, fun h => by cases h⟩
theorem alo_fin {wr w7 : World} {b : Nat} {x0 x1 x2 x3 : Value} {aa : Option Addr} {ac : Nat} {args : List (Rr Ce)} (hB : w7.heap[b]? = some (.cells #[x0, x1, x2, x3] 33 (0, 0))) (hA : ArgsIn w7 aa ac args) (n1 : ∀ y, aa = some y → b < y.block) (n2 : ∀ d ∈ args, ∀ y, d.a = some y → b < y.block) (hb : wr.heap.size ≤ b) (hc : Chg [] wr w7) (v0 v1 v2 v3 : Value) :
    let wx := (((w7.setCell ⟨b, 0, none⟩ v0).setCell ⟨b, 1, none⟩ v1).setCell ⟨b, 2, none⟩ v2).setCell ⟨b, 3, none⟩ v3
    wx.heap[b]? = some (.cells #[v0, v1, v2, v3] 33 (0, 0)) ∧ ArgsIn wx aa ac args ∧ (∀ y, aa = some y → wr.heap.size ≤ y.block) ∧ (∀ d ∈ args, ∀ y, d.a = some y → wr.heap.size ≤ y.block) ∧ Chg [] wr wx := by
  obtain ⟨h1, h2⟩ := eop_four hB v0 v1 v2 v3
  exact ⟨h1, ⟨hA.1.keptN h2 (fun x hx hm => by have := n1 x hx; simp at hm; omega), fun d hd => (hA.2 d hd).keptN h2 (fun x hx hm => by have := n2 d hd x hx; simp at hm; omega)⟩, fun y hy => by have := n1 y hy; omega, fun d hd y hy => by have := n2 d hd y hy; omega, hc.then h2 (fun x hx hl => by simp at hx; omega)⟩
theorem alo_want {w wr w5 w6 : World} {a : Option Addr} {c : Nat} {D : List Cl} {wa : Option Addr} {wc : Nat} {na : Option Addr} {nc : Nat} {s1 : List Ce} (h : AloI w wr a c D wa wc na nc s1) (h5 : Chg [] wr w5) (hg : Chg (ob a).toList w5 w6) (o : Obj) : RowOf icI 1 (w6.alloc o) w.heap.size 3 (.slice wa D.length wc) (rngI D.length) := by
  refine ((h.want.kept h5 (by simp)).kept hg (fun g hgw hm => ?_)).kept ((Chg.refl [] w6).alloc o) (by simp)
  rw [ob_eq] at hgw
  exact (h.sep g hgw).1 (by simpa using hm)
set_option maxHeartbeats 16000000 in
set_option maxRecDepth 100000 in
theorem alone_walk (a0 : Option Addr) (len0 cap0 : Nat) (l0 : List Int) (ns : List Int) (w : World)
    (h0 : SlIs u8I 1 w a0 len0 l0 ∧ (∀ x ∈ l0, (Lit.int .u8 x).wf = true) ∧ len0 ≤ maxLen ∧ len0 ≤ cap0) (h1 : ns.length = 8 ∧ ∀ y ∈ ns, (Lit.int .i8 y).wf = true) (ht : TabW w) :
    Calls Tryd.prog 3 #[.slice a0 len0 cap0, .agg (ns.map (Value.int .i8)).toArray] w fun e w' => e = .returned (.bool true) ∧ Below w.heap.size w w' := by
  obtain ⟨hl, hlw, -, -⟩ := h0
  obtain rfl : l0.length = len0 := hl.1
  refine Calls.mono (R := fun e w' => e = .returned (.bool true) ∧ Chg [] w w') ?_ (fun e w' h => ⟨h.1, h.2.toBelow (Nat.le_refl _) (by simp)⟩)
  have AW := Lib.hid (fun w' (hc : Chg [] w w') => awake_any w' (ht.kept hc))
  by_cases h8 : 8 < l0.length
  · have h8' : (8 : Int) < (l0.length : Int) := by omega
    have AWC := Lib.hid (AW.out _ ((Chg.refl [] w).alloc (.cells (ns.map (Value.int .i8)).toArray 24 (0, 0))))
    go_enter Tryd.func3, Tryd.ntmps3
    go_wp2_with fail
    refine AWC.out.mono ?_; rintro e w2 ⟨rfl, hc⟩
    have C2 := Lib.hid (((Chg.refl [] w).alloc (.cells (ns.map (Value.int .i8)).toArray 24 (0, 0))).thenSame hc)
    clear hc
    go_wp2_with fail
    go_ret
    exact ⟨rfl, C2.out⟩
  have h8' : (l0.length : Int) ≤ 8 := by omega
  have hl8 : l0.length ≤ 8 := by omega
  have HL := Lib.hid hl
  have HLW := Lib.hid hlw
  have H1 := Lib.hid h1
  have HT := Lib.hid ht
  have LI := Lib.hid (fun n w' => lawint_at n w')
  obtain ⟨W1, hW1⟩ : ∃ W1, W1 = w.alloc (.cells (ns.map (Value.int .i8)).toArray 24 (0, 0)) := ⟨_, rfl⟩
  have C1 := Lib.hid (show Chg [] w W1 by rw [hW1]; exact (Chg.refl [] w).alloc _)
  have BI := Lib.hid (show W1.heap[w.heap.size]? = some (.cells (ns.map (Value.int .i8)).toArray 24 (0, 0)) by rw [hW1]; exact heap_alloc_new w _)
  have HW1 := Lib.hid hW1
  clear hl hlw h1 ht h8 hW1
  go_enter Tryd.func3, Tryd.ntmps3
  go_upto_region 5 with fail
  rw [← HW1.out]
  go_wp2_with fail
  refine (LI.out _ _).mono ?_; rintro e w2 ⟨b2, rfl, -, hi, hc⟩
  have I2 := Lib.hid hi
  have C2 := Lib.hid (C1.out.thenSame hc)
  have BI2 := Lib.hid (hc.at (by simp) BI.out)
  clear hi hc HW1 BI
  go_upto_region 7 with fail
  obtain ⟨W0, hW0⟩ : ∃ W0, W0 = w2.alloc (.cells #[.string ⟨#[97]⟩, .string ⟨#[98]⟩, .string ⟨#[99]⟩, .string ⟨#[100]⟩, .string ⟨#[101]⟩, .string ⟨#[102]⟩, .string ⟨#[103]⟩, .string ⟨#[104]⟩] 9 (0, 0)) := ⟨_, rfl⟩
  have D0 := Lib.hid (show Chg [] w2 W0 by rw [hW0]; exact (Chg.refl [] w2).alloc _)
  have C0 := Lib.hid (C2.out.thenSame D0.out)
  have BN := Lib.hid (show W0.heap[w2.heap.size]? = some (.cells (nmL.map Value.string).toArray 9 (0, 0)) by rw [hW0]; exact heap_alloc_new w2 _)
  rw [← hW0]
  clear hW0
  have HD := Lib.hid (fun w' (hc : Chg [] W0 w') k (hk : k < 8) => show ∃ f s, ns[k]? = some f ∧ nmL[k]? = some s ∧ w'.cell? ⟨w.heap.size, k, none⟩ = some (.int .i8 f) ∧ w'.cell? ⟨w2.heap.size, k, none⟩ = some (.string s) from by
    have e1 : k < ns.length := by have := H1.out.1; omega
    have e3 : k < nmL.length := by rw [nmL_len]; exact hk
    refine ⟨ns[k], nmL[k], List.getElem?_eq_getElem e1, List.getElem?_eq_getElem e3, ?_, ?_⟩
    · rw [blk_cell (hc.at (by simp) (D0.out.at (by simp) BI2.out))]; simp [e1]
    · rw [blk_cell (hc.at (by simp) BN.out)]; simp [e3])
  have AI0 := Lib.hid (show AloI W0 W0 none 0 [] none 0 (some ⟨b2, 0, none⟩) 1 [intC 0] from ⟨⟨Chg.refl _ _, RowOf.nil _ _ _, fun d hd => by cases hd⟩, (by exact RowOf.nil _ _ _), (fun b e => by cases e), I2.out.kept D0.out, fun y _ _ => ⟨(fun e => by cases e), (fun e => by cases e)⟩⟩)
  clear BI2 BN
  obtain ⟨bi, hbi⟩ : ∃ b, b = w.heap.size := ⟨_, rfl⟩
  obtain ⟨bn, hbn⟩ : ∃ b, b = w2.heap.size := ⟨_, rfl⟩
  rw [← hbn, ← hbi]
  rw [← hbn, ← hbi] at HD
  clear hbi hbn
  go_wp2_with fail
  go_loopw [5, 6, 7, 9] (fun u x s i wr => ∃ (k : Nat) (a : Option Addr) (c : Nat) (D : List Cl) (wa : Option Addr) (wc : Nat) (na : Option Addr) (nc : Nat) (s1 : List Ce), u = .slice a D.length c ∧ x = .slice wa D.length wc ∧ s = .slice na s1.length nc ∧ i = .int .i64 k ∧ k ≤ l0.length ∧ Hid (D.length = k) ∧ Hid (AloI W0 wr a c D wa wc na nc s1) ∧ Hid (AloOk (D.map Cl.p) 0 [intC 0] s1) ∧ Hid (checkZ s1 = 0 ∧ goodL s1) ∧ Hid (∀ d ∈ D, goodCl d)) (fun _ _ _ i _ => l0.length - (intOf i).toNat)
  case atStart => exact ⟨0, none, 0, [], none, 0, _, 1, [intC 0], rfl, rfl, rfl, rfl, Nat.zero_le _, Lib.hid rfl, AI0, Lib.hid rfl, Lib.hid ⟨check_int (by rfl), intC_goodL (by rfl)⟩, Lib.hid (fun d hd => by cases hd)⟩
  case round =>
    obtain ⟨k, a, c, D, wa, wq, na, nc, s1, rfl, rfl, rfl, rfl, hk, DK, AI, AO, SG, GD⟩ := hrel
    have hk0 : (0 : Int) ≤ (k : Int) := by omega
    by_cases hkl : k < l0.length
    · have hkl' : (k : Int) < (l0.length : Int) := by omega
      have hk8 : (k : Int) < 8 := by omega
      obtain ⟨m, s, f1, s1, v1, v2⟩ := HD.out wr AI.out.ser.chg k (by omega)
      have F1 := Lib.hid f1
      have S1 := Lib.hid s1
      clear f1 s1
      obtain ⟨b1, o1, rfl, hb1, hc1⟩ := HL.out.2 k hkl
      have hwf := HLW.out _ (List.getElem_mem hkl)
      have u1 := hc1 0 (by omega)
      simp only [u8I, List.getElem?_cons_zero, Nat.add_zero, Nat.mul_one] at u1
      have U1 := Lib.hid (fun w' (hc : Chg [] W0 w') => (World.cell?_of_block (w := w) ((C0.out.thenSame hc).block b1 hb1 (by simp))).trans u1)
      have hm := wf_i8 (H1.out.2 _ (List.mem_of_getElem? F1.out))
      have hq := wf_u8 hwf
      have V := Lib.hid (fun w' (hc : Chg [] W0 w') => show w'.cell? ⟨bn, k, none⟩ = some (.string s) ∧ w'.cell? ⟨b1, o1 + k, none⟩ = some (.int .u8 l0[k]) ∧ w'.cell? ⟨bi, k, none⟩ = some (.int .i8 m) from by
        obtain ⟨f', s', e1, e3, e4, e6⟩ := HD.out w' hc k (by omega)
        have := F1.out.symm.trans e1
        have := S1.out.symm.trans e3
        simp_all
        exact U1.out w' hc)
      clear hwf hc1 v1 u1
      generalize l0[k] = q0 at *
      have LO := Lib.hid (fun i o a n c w' => lawop_any i o a n c w')
      go_upto_region 10 with fail
      go_upto_region 11 with (go_at_call 10; (with_reducible refine Calls.mono (LO.out _ _ _ _ _ _) ?_); rintro e w5 ⟨rfl, hc⟩; have C5 := Lib.hid hc; clear hc)
      obtain ⟨W5, hW5⟩ : ∃ W5, W5 = w5.alloc (.cells #[.string idX, .string s, .string ⟨#[114, 101, 97, 100]⟩, .slice none 0 0] 33 (0, 0)) := ⟨_, rfl⟩
      have D5 := Lib.hid (show Chg [] wr W5 by rw [hW5]; exact C5.out.alloc _)
      have B5 := Lib.hid (show W5.heap[w5.heap.size]? = some (.cells #[.string idX, .string s, .string ⟨#[114, 101, 97, 100]⟩, .slice none 0 0] 33 (0, 0)) by rw [hW5]; exact heap_alloc_new w5 _)
      have u1 := (V.out _ (AI.out.ser.chg.thenSame D5.out)).2.1
      have z5 := C5.out.size
      have l5 := lt_of_heap B5.out
      rw [← hW5]
      clear hW5 v2
      obtain ⟨q, hq4⟩ : ∃ q, q = q0 % 4 := ⟨_, rfl⟩
      have hq5 : q = 0 ∨ q = 1 ∨ q = 2 ∨ q = 3 := by omega
      have HQ5 := Lib.hid hq5
      have HQ4 := Lib.hid hq4
      clear hq4 hq5
      go_upto_block 2 with fail
      go_cut [] (fun wx => ∃ (aa : Option Addr) (ac : Nat) (args : List (Rr Ce)), Hid (wx.heap[w5.heap.size]? = some (.cells #[.string idX, .string s, .string (aloOp q), .slice aa args.length ac] 33 (0, 0))) ∧ Hid (ArgsIn wx aa ac args) ∧ Hid (args.map Rr.L = aloA q m) ∧ Hid (∀ y, aa = some y → wr.heap.size ≤ y.block) ∧ Hid (∀ d ∈ args, ∀ y, d.a = some y → wr.heap.size ≤ y.block) ∧ Hid (Chg [] wr wx))
      case first =>
        have k5 := blk_cell B5.out
        have f5 := blk_free B5.out
        have VC := Lib.hid (fun w' (hc : Chg [] W0 w') => And.intro (V.out w' hc).1 (V.out w' hc).2.2)
        have CW5 := Lib.hid (AI.out.ser.chg.thenSame D5.out)
        have zW := AI.out.ser.chg.size
        have LM := Lib.hid (fun w' => LI.out m w')
        have LZ := Lib.hid (fun w' => LI.out 0 w')
        have q2 : IntKind.i64.wrap m = m := IntWalk.i64_in _ (by omega)
        rcases HQ5.out with h | h | h | h
        · have e1 : (q0 % 4 == 1) = false := by rw [← HQ4.out, h]; rfl
          have e2 : (q0 % 4 == 2) = false := by rw [← HQ4.out, h]; rfl
          have e3 : (q0 % 4 == 3) = false := by rw [← HQ4.out, h]; rfl
          have HQ := Lib.hid h
          clear h
          go_wp2_with fail
          go_meet
          exact ⟨none, 0, [], Lib.hid (by rw [HQ.out]; exact B5.out), Lib.hid ⟨InIs.nilA, fun d hd => by cases hd⟩, Lib.hid (by rw [HQ.out]; rfl), Lib.hid (fun y e => by cases e), Lib.hid (fun d hd => by cases hd), D5⟩
        · have e1 : (q0 % 4 == 1) = true := by rw [← HQ4.out, h]; rfl
          have HQ := Lib.hid h
          clear h
          go_upto_region 13 with fail
          go_region_held3 (fun w' => w'.cell? ⟨bn, k, none⟩ = some (.string s) ∧ w'.cell? ⟨bi, k, none⟩ = some (.int .i8 m)) (first | (refine VC.out _ ?_; (repeat (first | exact Chg.refl _ _ | (refine Chg.alloc ?_ _) | (refine Chg.drewN ?_ _) | (refine Chg.drew ?_) | (refine thenHid (by assumption) ?_) | (refine Chg.setCell ?_ _ _ (by intro hq; exfalso; simp only at hq; omega)))))) (first | (go_at_call 9; (with_reducible refine Calls.mono (LM.out _) ?_); rintro e w6 ⟨b6, rfl, hb6, hi, hc⟩; have I6 := Lib.hid hi; have C6 := Lib.hid hc; have z6 := hc.size; (try simp only [World.size_alloc, sz_drew] at z6 hb6); clear hi hc) | (go_at_call 9; (with_reducible refine Calls.mono (LZ.out _) ?_); rintro e w4 ⟨b4, rfl, hb4, hi, hc⟩; have I4 := Lib.hid hi; have C4 := Lib.hid hc; have z4 := hc.size; (try simp only [World.size_alloc, sz_drew] at z4 hb4); clear hi hc) | (go_at_call 10; (with_reducible refine Calls.mono (LO.out _ _ _ _ _ _) ?_); rintro e w7 ⟨rfl, hc⟩; have C7 := Lib.hid hc; have z7 := hc.size; (try simp only [World.size_alloc, sz_drew] at z7); have B7 := Lib.hid (show w7.heap[w5.heap.size]? = some (.cells #[.string idX, .string s, .string ⟨#[114, 101, 97, 100]⟩, .slice none 0 0] 33 (0, 0)) by (repeat (first | exact B5.out | exact alloc_at rfl | exact alloc_at (by simp only [World.size_alloc]) | (refine blk_alloc ?_) | (refine atHid (by assumption) ?_)))); have k7 := blk_cell B7.out; have f7 := blk_free B7.out; clear hc) | fail)
          go_wp2_with fail
          go_meet
          obtain ⟨r1, r2, r3, r4, r5⟩ := alo_fin (wr := wr) (aa := some ⟨w6.heap.size, 0, none⟩) (ac := 1) (args := [⟨some ⟨b6, 0, none⟩, 1, [intC m]⟩]) B7.out ⟨one_rr (d := ⟨some ⟨b6, 0, none⟩, 1, [intC m]⟩) (by (repeat (first | exact alloc_at rfl | exact alloc_at (by simp only [World.size_alloc]) | (refine blk_alloc ?_) | (refine atHid (by assumption) ?_)))), fun d hd => by (simp at hd; subst hd; exact InIs.kept I6.out (by (repeat (first | exact Chg.refl _ _ | (refine Chg.alloc ?_ _) | (refine Chg.drewN ?_ _) | (refine Chg.drew ?_) | (refine thenHid (by assumption) ?_) | (refine Chg.setCell ?_ _ _ (by intro hq; exfalso; simp only at hq; omega))))))⟩ (fun y e => by (cases e; dsimp only; omega)) (fun d hd y e => by (simp at hd; subst hd; simp only [Option.some.injEq] at e; subst e; dsimp only; omega)) z5 (by (repeat (first | exact D5.out | exact Chg.refl _ _ | (refine Chg.alloc ?_ _) | (refine Chg.drewN ?_ _) | (refine Chg.drew ?_) | (refine thenHid (by assumption) ?_) | (refine Chg.setCell ?_ _ _ (by intro hq; exfalso; simp only at hq; omega))))) (.string idX) (.string s) (.string opWrite) (.slice (some ⟨w6.heap.size, 0, none⟩) 1 1)
          exact ⟨some ⟨w6.heap.size, 0, none⟩, 1, [⟨some ⟨b6, 0, none⟩, 1, [intC m]⟩], Lib.hid (by rw [HQ.out]; exact r1), Lib.hid r2, Lib.hid (by rw [HQ.out]; rfl), Lib.hid r3, Lib.hid r4, Lib.hid r5⟩
        · have e1 : (q0 % 4 == 1) = false := by rw [← HQ4.out, h]; rfl
          have e2 : (q0 % 4 == 2) = true := by rw [← HQ4.out, h]; rfl
          have HQ := Lib.hid h
          clear h
          go_upto_region 15 with fail
          go_region_held3 (fun w' => w'.cell? ⟨bn, k, none⟩ = some (.string s) ∧ w'.cell? ⟨bi, k, none⟩ = some (.int .i8 m)) (first | (refine VC.out _ ?_; (repeat (first | exact Chg.refl _ _ | (refine Chg.alloc ?_ _) | (refine Chg.drewN ?_ _) | (refine Chg.drew ?_) | (refine thenHid (by assumption) ?_) | (refine Chg.setCell ?_ _ _ (by intro hq; exfalso; simp only at hq; omega)))))) (first | (go_at_call 9; (with_reducible refine Calls.mono (LM.out _) ?_); rintro e w6 ⟨b6, rfl, hb6, hi, hc⟩; have I6 := Lib.hid hi; have C6 := Lib.hid hc; have z6 := hc.size; (try simp only [World.size_alloc, sz_drew] at z6 hb6); clear hi hc) | (go_at_call 9; (with_reducible refine Calls.mono (LZ.out _) ?_); rintro e w4 ⟨b4, rfl, hb4, hi, hc⟩; have I4 := Lib.hid hi; have C4 := Lib.hid hc; have z4 := hc.size; (try simp only [World.size_alloc, sz_drew] at z4 hb4); clear hi hc) | (go_at_call 10; (with_reducible refine Calls.mono (LO.out _ _ _ _ _ _) ?_); rintro e w7 ⟨rfl, hc⟩; have C7 := Lib.hid hc; have z7 := hc.size; (try simp only [World.size_alloc, sz_drew] at z7); have B7 := Lib.hid (show w7.heap[w5.heap.size]? = some (.cells #[.string idX, .string s, .string ⟨#[114, 101, 97, 100]⟩, .slice none 0 0] 33 (0, 0)) by (repeat (first | exact B5.out | exact alloc_at rfl | exact alloc_at (by simp only [World.size_alloc]) | (refine blk_alloc ?_) | (refine atHid (by assumption) ?_)))); have k7 := blk_cell B7.out; have f7 := blk_free B7.out; clear hc) | fail)
          go_wp2_with fail
          go_meet
          obtain ⟨r1, r2, r3, r4, r5⟩ := alo_fin (wr := wr) (aa := some ⟨w6.heap.size, 0, none⟩) (ac := 1) (args := [⟨some ⟨b6, 0, none⟩, 1, [intC m]⟩]) B7.out ⟨one_rr (d := ⟨some ⟨b6, 0, none⟩, 1, [intC m]⟩) (by (repeat (first | exact alloc_at rfl | exact alloc_at (by simp only [World.size_alloc]) | (refine blk_alloc ?_) | (refine atHid (by assumption) ?_)))), fun d hd => by (simp at hd; subst hd; exact InIs.kept I6.out (by (repeat (first | exact Chg.refl _ _ | (refine Chg.alloc ?_ _) | (refine Chg.drewN ?_ _) | (refine Chg.drew ?_) | (refine thenHid (by assumption) ?_) | (refine Chg.setCell ?_ _ _ (by intro hq; exfalso; simp only at hq; omega))))))⟩ (fun y e => by (cases e; dsimp only; omega)) (fun d hd y e => by (simp at hd; subst hd; simp only [Option.some.injEq] at e; subst e; dsimp only; omega)) z5 (by (repeat (first | exact D5.out | exact Chg.refl _ _ | (refine Chg.alloc ?_ _) | (refine Chg.drewN ?_ _) | (refine Chg.drew ?_) | (refine thenHid (by assumption) ?_) | (refine Chg.setCell ?_ _ _ (by intro hq; exfalso; simp only at hq; omega))))) (.string idX) (.string s) (.string opAdd) (.slice (some ⟨w6.heap.size, 0, none⟩) 1 1)
          exact ⟨some ⟨w6.heap.size, 0, none⟩, 1, [⟨some ⟨b6, 0, none⟩, 1, [intC m]⟩], Lib.hid (by rw [HQ.out]; exact r1), Lib.hid r2, Lib.hid (by rw [HQ.out]; rfl), Lib.hid r3, Lib.hid r4, Lib.hid r5⟩
        · have e1 : (q0 % 4 == 1) = false := by rw [← HQ4.out, h]; rfl
          have e2 : (q0 % 4 == 2) = false := by rw [← HQ4.out, h]; rfl
          have e3 : (q0 % 4 == 3) = true := by rw [← HQ4.out, h]; rfl
          have HQ := Lib.hid h
          clear h
          go_upto_region 17 with fail
          go_region_held3 (fun w' => w'.cell? ⟨bn, k, none⟩ = some (.string s) ∧ w'.cell? ⟨bi, k, none⟩ = some (.int .i8 m)) (first | (refine VC.out _ ?_; (repeat (first | exact Chg.refl _ _ | (refine Chg.alloc ?_ _) | (refine Chg.drewN ?_ _) | (refine Chg.drew ?_) | (refine thenHid (by assumption) ?_) | (refine Chg.setCell ?_ _ _ (by intro hq; exfalso; simp only at hq; omega)))))) (first | (go_at_call 9; (with_reducible refine Calls.mono (LM.out _) ?_); rintro e w6 ⟨b6, rfl, hb6, hi, hc⟩; have I6 := Lib.hid hi; have C6 := Lib.hid hc; have z6 := hc.size; (try simp only [World.size_alloc, sz_drew] at z6 hb6); clear hi hc) | (go_at_call 9; (with_reducible refine Calls.mono (LZ.out _) ?_); rintro e w4 ⟨b4, rfl, hb4, hi, hc⟩; have I4 := Lib.hid hi; have C4 := Lib.hid hc; have z4 := hc.size; (try simp only [World.size_alloc, sz_drew] at z4 hb4); clear hi hc) | (go_at_call 10; (with_reducible refine Calls.mono (LO.out _ _ _ _ _ _) ?_); rintro e w7 ⟨rfl, hc⟩; have C7 := Lib.hid hc; have z7 := hc.size; (try simp only [World.size_alloc, sz_drew] at z7); have B7 := Lib.hid (show w7.heap[w5.heap.size]? = some (.cells #[.string idX, .string s, .string ⟨#[114, 101, 97, 100]⟩, .slice none 0 0] 33 (0, 0)) by (repeat (first | exact B5.out | exact alloc_at rfl | exact alloc_at (by simp only [World.size_alloc]) | (refine blk_alloc ?_) | (refine atHid (by assumption) ?_)))); have k7 := blk_cell B7.out; have f7 := blk_free B7.out; clear hc) | fail)
          go_wp2_with fail
          go_meet
          obtain ⟨r1, r2, r3, r4, r5⟩ := alo_fin (wr := wr) (aa := some ⟨w6.heap.size, 0, none⟩) (ac := 2) (args := [⟨some ⟨b4, 0, none⟩, 1, [intC 0]⟩, ⟨some ⟨b6, 0, none⟩, 1, [intC m]⟩]) B7.out ⟨two_rr (d := ⟨some ⟨b4, 0, none⟩, 1, [intC 0]⟩) (d2 := ⟨some ⟨b6, 0, none⟩, 1, [intC m]⟩) (by (repeat (first | exact alloc_at rfl | exact alloc_at (by simp only [World.size_alloc]) | (refine blk_alloc ?_) | (refine atHid (by assumption) ?_)))), fun d hd => by (simp at hd; rcases hd with rfl | rfl; exact InIs.kept I4.out (by (repeat (first | exact Chg.refl _ _ | (refine Chg.alloc ?_ _) | (refine Chg.drewN ?_ _) | (refine Chg.drew ?_) | (refine thenHid (by assumption) ?_) | (refine Chg.setCell ?_ _ _ (by intro hq; exfalso; simp only at hq; omega))))); exact InIs.kept I6.out (by (repeat (first | exact Chg.refl _ _ | (refine Chg.alloc ?_ _) | (refine Chg.drewN ?_ _) | (refine Chg.drew ?_) | (refine thenHid (by assumption) ?_) | (refine Chg.setCell ?_ _ _ (by intro hq; exfalso; simp only at hq; omega))))))⟩ (fun y e => by (cases e; dsimp only; omega)) (fun d hd y e => by (simp at hd; rcases hd with rfl | rfl <;> (simp only [Option.some.injEq] at e; subst e; dsimp only; omega))) z5 (by (repeat (first | exact D5.out | exact Chg.refl _ _ | (refine Chg.alloc ?_ _) | (refine Chg.drewN ?_ _) | (refine Chg.drew ?_) | (refine thenHid (by assumption) ?_) | (refine Chg.setCell ?_ _ _ (by intro hq; exfalso; simp only at hq; omega))))) (.string idX) (.string s) (.string opCas) (.slice (some ⟨w6.heap.size, 0, none⟩) 2 2)
          exact ⟨some ⟨w6.heap.size, 0, none⟩, 2, [⟨some ⟨b4, 0, none⟩, 1, [intC 0]⟩, ⟨some ⟨b6, 0, none⟩, 1, [intC m]⟩], Lib.hid (by rw [HQ.out]; exact r1), Lib.hid r2, Lib.hid (by rw [HQ.out]; rfl), Lib.hid r3, Lib.hid r4, Lib.hid r5⟩
      case rest =>
        obtain ⟨aa, ac, args, K5, IA, EL, N1, N2, E5⟩ := hcut
        clear B5 l5 C5 D5
        have hid := nmL_id S1.out
        have hch := aloP_chk (m := m) (id := s) HQ5.out (small_valid hm) hid
        have hgo : EOp.good ⟨idX, s, aloOp q, aa, ac, args⟩ := aloE_good (nmL_size S1.out) EL.out (small_valid hm)
        have hop : EOp.p ⟨idX, s, aloOp q, aa, ac, args⟩ = aloP q m s := by simp only [EOp.p, aloP, EL.out]
        have DO := do_any na nc s1 ⟨idX, s, aloOp q, aa, ac, args⟩ wc (AI.out.st.kept E5.out) SG.out.2 IA.out hgo (HT.out.kept (C0.out.thenSame (AI.out.ser.chg.thenSame E5.out)))
        rw [hop] at DO
        have hz : (doZ s1 (aloP q m s)).1 = 0 := by unfold doZ; rw [if_neg (by simp [hch]), if_neg (by simp [SG.out.1])]
        have HN := Lib.hid (doZ_next hz)
        have HG := Lib.hid (show goodL (doZ s1 (aloP q m s)).2.1 from by have := doZ_good (o := ⟨idX, s, aloOp q, aa, ac, args⟩) (st := s1) (by rw [hop]; exact hz) SG.out.2 hgo; rwa [hop] at this)
        have HGO := Lib.hid hgo
        have HE := Lib.hid (doZ_err s1 (aloP q m s))
        have HA := Lib.hid (doZ_ans hz)
        have HS := Lib.hid (fun (x : PCl) (h1 : x.o = aloP q m s) (h2 : x.from_ = ((2 * k : Nat) : Int)) (h3 : x.to_ = ((2 * k + 1 : Nat) : Int)) (h4 : (doZ s1 (aloP q m s)).2.2.1 = x.err) (h5 : (doZ s1 (aloP q m s)).2.2.2 = x.ans) => show AloOk (D.map Cl.p ++ [x]) 0 [intC 0] (doZ s1 (aloP q m s)).2.1 from by rw [show (doZ s1 (aloP q m s)).2.1 = (doZ s1 x.o).2.1 by rw [h1]]; exact AO.out.snoc (x := x) (by rw [h1]; rfl) (by rw [h1, List.length_map, DK.out, Nat.zero_add]; exact S1.out) (by rw [h2, List.length_map, DK.out, Nat.zero_add]) (by rw [h3, List.length_map, DK.out, Nat.zero_add]) (by rw [h1]; exact hz) (by rw [h1]; exact h4) (by rw [h1]; exact h5))
        simp only [eoC] at DO
        have HOP := Lib.hid hop
        generalize doZ s1 (aloP q m s) = Z at *
        obtain ⟨ze, zs, zr, za⟩ := Z
        simp only at hz DO HN HG HE HA HS
        subst hz
        have DO := Lib.hid DO
        rename_i DO0
        clear DO0 hgo hop hch hid
        have k5 := blk_cell K5.out
        go_wp2_with fail
        refine DO.out.mono ?_; rintro e w8 ⟨na2, nc2, va2, vc2, rfl, hn8, hv8, hf8, hc8⟩
        have N8 := Lib.hid hn8
        have V8 := Lib.hid hv8
        have F8 := Lib.hid hf8
        have C8 := Lib.hid hc8
        have K8 := Lib.hid (hc8.at (by simp) K5.out)
        have z8 := hc8.size
        have zc := E5.out.size
        clear hn8 hv8 hf8 hc8 DO k5
        go_upto_region 19 with fail
        obtain ⟨W8, hW8⟩ : ∃ W8, W8 = w8.alloc (.cells #[.int .i64 zr, .slice va2 za.length vc2] 37 (0, 0)) := ⟨_, rfl⟩
        have D8 := Lib.hid (show Chg [] w8 W8 by rw [hW8]; exact (Chg.refl _ _).alloc _)
        have T8 := Lib.hid (show W8.heap[w8.heap.size]? = some (.cells #[.int .i64 zr, .slice va2 za.length vc2] 37 (0, 0)) by rw [hW8]; exact heap_alloc_new _ _)
        have L8 := Lib.hid (D8.out.at (by simp) K8.out)
        rw [← hW8]
        clear hW8 K8
        have k8 := blk_cell L8.out
        have t8 := blk_cell T8.out
        have zD := D8.out.size
        have q3 : IntKind.i64.wrap (2 * (k : Int)) = 2 * (k : Int) := IntWalk.i64_in _ (by omega)
        have q4 : IntKind.i64.wrap (2 * (k : Int) + 1) = 2 * (k : Int) + 1 := IntWalk.i64_in _ (by omega)
        have CW8 := Lib.hid ((E5.out.thenSame C8.out).thenSame D8.out)
        have zW := AI.out.ser.chg.size
        have z0 := zW
        go_upto_region 22 with fail
        go_wp2_with (first | (at_builtin; (refine wpl_appendL rfl _ _ 26 rfl W0.heap.size 41 _ 120 Tryd.underlying26 callInfo rfl (by decide) clC_len clC_one (.slice a D.length c) D rfl (AI.out.keptN (CW8.out.alloc (clO (aloC s q aa ac args zr va2 vc2 za k)))).ser.row W8.heap.size 1 (aloC s q aa ac args zr va2 vc2 za k) _ _ _ rfl (heap_alloc_new W8 _) rfl (by have := DK.out; unfold maxLen; omega) (by have := DK.out; omega) (by rw [World.size_alloc]; omega) ?_); intro g9 c9 w9 hr9 hg9 ho9 hl9; have G9 := Chg.ofRow (v := .slice a D.length c) hg9; rw [ob_eq] at G9 ho9; have HG9 := Lib.hid G9; have R9 := Lib.hid hr9; have O9 := Lib.hid ho9; have W9 := Lib.hid (alo_want AI.out (CW8.out.alloc _) G9 (.cells #[.int .i64 (k : Int)] 3 (0, 0))); have S9 := G9.size; rw [World.size_alloc] at S9; clear hr9 hg9 ho9 G9) | (at_builtin; (refine wpl_appendL rfl _ _ 27 rfl W0.heap.size 3 _ 8 Tryd.underlying27 intInfo2 rfl (by decide) icI_len icI_one (.slice wa D.length wq) (rngI D.length) rfl W9.out w9.heap.size 1 (k : Int) _ _ _ rfl (heap_alloc_new w9 _) rfl (by rw [rngI_len]; have := DK.out; unfold maxLen; omega) (by rw [rngI_len]; have := DK.out; omega) (by rw [World.size_alloc]; omega) ?_); intro g11 c11 w11 hr11 hg11 ho11 hl11; rw [rngI_len] at hr11; have G11 := Chg.ofRow (v := .slice wa D.length wq) hg11; rw [ob_eq] at G11 ho11; have HG11 := Lib.hid G11; have R11 := Lib.hid hr11; have O11 := Lib.hid ho11; clear hr11 hg11 ho11 G11))
        have zF := F8.out
        have Y1 := Lib.hid (show ClIn (W8.alloc (clO (aloC s q aa ac args zr va2 vc2 za k))) (aloC s q aa ac args zr va2 vc2 za k) from ⟨IA.out.kept (((C8.out.thenSame D8.out)).alloc _), V8.out.kept (D8.out.alloc _)⟩)
        have Y2 := Lib.hid (show ∀ b, (aloC s q aa ac args zr va2 vc2 za k).on b → wr.heap.size ≤ b from on_three N1.out N2.out (fun y hy => Nat.le_trans zc (F8.out y (.inr hy))))
        have AI2 := Lib.hid (AI.out.step (CW8.out.alloc _) Y1.out Y2.out HG9.out R9.out O9.out ((Chg.refl [] w9).alloc _) HG11.out (by have := R11.out; rwa [show (k : Int) = (D.length : Int) by rw [DK.out]] at this) O11.out (N8.out.kept (D8.out.alloc _)) (fun y hy => Nat.le_trans zc (F8.out y (.inl hy))))
        have AO2 := Lib.hid (HS.out (aloC s q aa ac args zr va2 vc2 za k).p HOP.out (by show 2 * (k : Int) = _; omega) (by show 2 * (k : Int) + 1 = _; omega) rfl rfl)
        exact ⟨⟨k + 1, some ⟨g9, 0, none⟩, c9, D ++ [aloC s q aa ac args zr va2 vc2 za k], some ⟨g11, 0, none⟩, c11, na2, nc2, zs, by rw [List.length_append]; rfl, by rw [List.length_append, rngI_len]; rfl, rfl, by go_num, by omega, Lib.hid (by rw [List.length_append, DK.out]; rfl), AI2, Lib.hid (by rw [List.map_append]; exact AO2.out), Lib.hid ⟨HN.out, HG.out⟩, Lib.hid (fun d hd => by
          rcases List.mem_append.1 hd with hd | hd
          · exact GD.out d hd
          · simp at hd; subst hd; exact ⟨HGO.out, HE.out, wf_i64 (show _ ≤ 2 * (k : Int) ∧ 2 * (k : Int) ≤ _ by omega), wf_i64 (show _ ≤ 2 * (k : Int) + 1 ∧ 2 * (k : Int) + 1 ≤ _ by omega)⟩)⟩, by simp [intOf]; omega⟩
    · have hke : k = l0.length := by omega
      subst hke
      have h8m : (D.map Cl.p).length ≤ 8 := by rw [List.length_map, DK.out]; exact hl8
      have FZ := alo_find (n := 0) (by rfl) h8m AO.out
      rw [List.length_map] at FZ
      have FZ2 := Lib.hid FZ
      have hD8 : D.length ≤ 8 := by have := DK.out; omega
      have WI := Lib.hid (InIs.ofRow AI.out.want icI_len).2
      have INTS := Lib.hid (fun (oa : Option Addr) (oc : Nat) w' (h1 : InIs icI 1 w' oa oc (rngI D.length)) (h2 : InIs icI 1 w' wa wq (rngI D.length)) => lints_any oa oc (rngI D.length) wa wq (rngI D.length) w' h1.1 h2.1 (by rw [rngI_len]; omega) (by rw [rngI_len]; omega))
      have SB : sameB inE (rngI D.length) (rngI D.length) = true := same_refl (fun x => by unfold inE; exact beq_self_eq_true x) _
      rw [SB, rngI_len] at INTS
      clear hkl hk SB FZ
      go_wp2_with fail
      refine (LI.out _ _).mono ?_; rintro e w5 ⟨b5, rfl, -, hi, hc⟩
      have I5 := Lib.hid hi
      have C5 := Lib.hid hc
      have CW5 := Lib.hid (C0.out.thenSame (AI.out.ser.chg.thenSame hc))
      clear hi hc
      have A := Lib.hid (lfind_any (ser_lin (AI.out.ser.keptN C5.out)) GD.out I5.out (intC_goodL (n := 0) (by decide)) (HT.out.kept CW5.out))
      rw [FZ2.out] at A
      go_wp2_with fail
      refine A.out.mono ?_; rintro e w6 ⟨oa, oc, rfl, ho, -, hc⟩
      have C6 := Lib.hid (CW5.out.thenSame hc)
      have I6 := Lib.hid (INTS.out oa oc w6 ho ((WI.out.kept C5.out).kept hc))
      clear ho hc A
      simp only [rngI_len]
      go_wp2_with (go_at_call 13; (with_reducible refine Calls.mono I6.out ?_); rintro e w7 ⟨rfl, hc⟩; have C7 := Lib.hid (C6.out.thenSame hc); have AWD := Lib.hid (AW.out _ C7.out); clear hc)
      refine AWD.out.mono ?_; rintro e w8 ⟨rfl, hc⟩
      have C8 := Lib.hid (C7.out.thenSame hc)
      clear hc
      go_wp2_with fail
      go_ret
      exact ⟨rfl, C8.out⟩
end Go.Proofs.YtnhemokmgpelaaaDoor
