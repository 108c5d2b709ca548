/- Chapter 9: contract: (*scope).block, given walk of the parts. Condition: the parts were found well. Chapter 9: contract: (*scope).walk. Condition: the node was found well. -/
import Derived.Test.YtolidiafomceiaaGreatDoorMStaR
namespace Go.Proofs.YtolidiafomceiaaGreatDoor
set_option linter.unusedVariables false
set_option linter.unusedSimpArgs false
open Go.RowKit
theorem firstGo_count {F : Nat → Int} {l : List PNd} {x : PNd} (hF : ∀ i, F i ≤ i) : ∀ {k : Nat} {a : Int}, 0 ≤ firstGo F l x k a → (k : Int) ≤ a := by
  intro k
  induction k with
  | zero => intro a h; rw [firstGo] at h; omega
  | succ k ih =>
    intro a h
    rw [firstGo] at h
    split at h
    · omega
    · split at h
      · omega
      · split at h
        · omega
        · split at h
          · omega
          · split at h
            · omega
            · have := ih h
              have := hF (a - 1).toNat
              omega
theorem firstF_count {l : List PNd} {n i : Nat} {x : PNd} (hx : l[i]? = some x) (h : 0 ≤ firstF l (n + 1) i) : x.kids.length ≤ i := by
  rw [firstF, hx] at h
  simp only at h
  split at h
  · have := firstGo_count (fun j => firstF_le n j) h
    omega
  · omega
theorem skC_lenS (x : ByteArray) : (skC x).length = 1 := rfl
theorem skInfo : (Tryz.prog.info? 9).map (fun i => (i.zero, i.size, i.bytes)) = some (some (.string ⟨#[]⟩), 1, 16) := by kernel_rfl
theorem nodes_p_at {x : Pr} {m : Nat} (h : m < x.nodes.length) : x.p.nodes[m]? = some (x.nodes[m]).p := by
  show (x.nodes.map Nd.p)[m]? = _
  rw [List.getElem?_map, List.getElem?_eq_getElem h]
  rfl
theorem decl_yes {x : Pr} {S : ScS} {d : List ByteArray} {m : Nat} (hm : m < x.nodes.length) (h1 : (x.nodes[m].kind == 13) = true) (h2 : S.errs[m]? = some 0) : declZ x.p S d m = d ++ [x.nodes[m].text] := by
  unfold declZ
  rw [nodes_p_at hm]
  exact if_pos ⟨(by simpa using h1 : x.nodes[m].kind = 13), h2⟩
theorem decl_no {x : Pr} {S : ScS} {d : List ByteArray} {m : Nat} (hm : m < x.nodes.length) (h : ¬ ((x.nodes[m].kind == 13) = true ∧ S.errs[m]? = some 0)) : declZ x.p S d m = d := by
  unfold declZ
  rw [nodes_p_at hm]
  exact if_neg (fun e => h ⟨by have e1 : x.nodes[m].kind = 13 := e.1; simpa using e1, e.2⟩)
/-- walk does as it should, at all nodes below n. -/
def WalkOk (x : Pr) (w0 : World) (B b mb sb eb n : Nat) : Prop := ∀ (w : World) (S : ScS) (i : Nat), Chg [] w0 w → ScAt x B b mb sb eb w S → i < n → i < x.nodes.length → 0 ≤ firstF (x.nodes.map Nd.p) n i →
  Calls Tryz.prog 45 #[.pointer (some ⟨b, 0, none⟩), .int .i64 i] w fun e w' => e = .returned (.tuple #[]) ∧ ScAt x B b mb sb eb w' (walkZ x.p n S i) ∧ Chg [b, mb, sb, eb] w w'
theorem Sep.nil {B b mb sb eb : Nat} {w0 w w' : World} (hs : Sep B b mb sb eb) (hB : w0.heap.size ≤ B) (h0 : Chg [] w0 w) (hc : Chg [b, mb, sb, eb] w w') : Chg [] w0 w' :=
  h0.then hc (by
    intro y hy hl
    have h1 := hs.l1
    have h2 := hs.l2
    have h3 := hs.l3
    have h4 := hs.l4
    simp only [List.mem_cons, List.not_mem_nil, or_false] at hy
    omega)
theorem ScAt.below {x : Pr} {B b mb sb eb : Nat} {w : World} {S : ScS} (h : ScAt x B b mb sb eb w S) : ∀ y ∈ [b, mb, sb, eb], y < w.heap.size := by
  intro y hy
  simp only [List.mem_cons, List.not_mem_nil, or_false] at hy
  rcases hy with rfl | rfl | rfl | rfl
  · exact lt_of_heap h.box
  · exact h.map.lt
  · exact (RowOf.atS h.sl icI_len1).2.2.2.2.2.2
  · exact (RowOf.atS h.er icI_len1).2.2.2.2.2.2
set_option maxHeartbeats 16000000 in
set_option maxRecDepth 100000 in
theorem sblock_any {x : Pr} {w0 : World} {B b mb sb eb n : Nat} (hs : Sep B b mb sb eb) (hB : w0.heap.size ≤ B) (hp : PrIn w0 x) (IH : WalkOk x w0 B b mb sb eb n) (d : Nd) (hd : NdIn w0 d) (hkl : d.kids.length ≤ 600)
    (hk : ∀ kk, kk < d.kids.length → ∃ m : Nat, d.kids[kk]? = some (m : Int) ∧ m < n ∧ m < x.nodes.length ∧ 0 ≤ firstF (x.nodes.map Nd.p) n m) {w : World} {S : ScS} (h0 : Chg [] w0 w) (h : ScAt x B b mb sb eb w S) :
    Calls Tryz.prog 61 #[.pointer (some ⟨b, 0, none⟩), .agg (ndC d).toArray] w fun e w' => e = .returned (.tuple #[]) ∧ ScAt x B b mb sb eb w' (dropV (d.kids.foldl (stmZ x.p (walkZ x.p n)) (S, [])).1 (d.kids.foldl (stmZ x.p (walkZ x.p n)) (S, [])).2) ∧ Chg [b, mb, sb, eb] w w' := by
  obtain ⟨R, hR⟩ : ∃ R, R = d.kids.foldl (stmZ x.p (walkZ x.p n)) (S, []) := ⟨_, rfl⟩
  rw [← hR]
  have HR := Lib.hid hR
  have HD := Lib.hid (fun w' (hc : Chg [] w0 w') => show InIs icI 1 w' d.da d.dc d.kids from (hd.kept hc).2)
  have HNn := Lib.hid (fun w' (hc : Chg [] w0 w') => (hp.kept hc).1.1.1)
  have HK := Lib.hid hk
  have HIH := Lib.hid IH
  have HS := Lib.hid hs
  have HB := Lib.hid hB
  have HLT := Lib.hid h.below
  obtain ⟨W1, hW1⟩ : ∃ W1, W1 = w.alloc (ndO d) := ⟨_, rfl⟩
  have C1 := Lib.hid (show Chg [b, mb, sb, eb] w W1 by rw [hW1]; exact (Chg.refl _ _).alloc _)
  have A1 := Lib.hid (show ScAt x B b mb sb eb W1 S by rw [hW1]; exact h.keptN ((Chg.refl _ _).alloc _))
  have B1 := Lib.hid (show W1.heap[w.heap.size]? = some (ndO d) by rw [hW1]; exact heap_alloc_new _ _)
  have H0 := Lib.hid h0
  unfold ndO at hW1 B1
  have k1 := blk_cell B1.out
  simp only [ndC]
  clear hR hd hp hk IH hs hB h h0
  have hkli : (d.kids.length : Int) ≤ 600 := by omega
  generalize d.kids = ks at *
  generalize d.da = da at *
  generalize d.dc = dc at *
  go_enter Tryz.func61, Tryz.ntmps61
  go_upto_region 1 with fail
  rw [← hW1]
  clear hW1
  go_wp2_with fail
  clear k1
  go_loopw [4, 13] (fun u v wi => ∃ (j : Nat) (av : Option Addr) (cv : Nat) (dl : List ByteArray) (S' : ScS), u = .slice av dl.length cv ∧ v = .int .i64 j ∧ j ≤ ks.length ∧ dl.length ≤ j ∧ Hid (R = (ks.drop j).foldl (stmZ x.p (walkZ x.p n)) (S', dl)) ∧ Hid (RowOf skC 1 wi w.heap.size 9 (.slice av dl.length cv) dl) ∧ Hid (ScAt x B b mb sb eb wi S') ∧ Hid (Chg [b, mb, sb, eb] w wi)) (fun _ v _ => ks.length - (intOf v).toNat)
  case atStart => exact ⟨0, none, 0, [], S, rfl, rfl, Nat.zero_le _, Nat.zero_le _, Lib.hid HR.out, Lib.hid ⟨rfl, .inl ⟨rfl, rfl⟩⟩, A1, C1⟩
  case round =>
    obtain ⟨j, av, cv, dl, S', rfl, rfl, hj, hdl, HF, Row, A, C⟩ := hrel
    have hj0 : (0 : Int) ≤ (j : Int) := by omega
    have H1 := Lib.hid (HS.out.nil HB.out H0.out C.out)
    by_cases hjl : j < ks.length
    · have hjl' : (j : Int) < (ks.length : Int) := by omega
      obtain ⟨b2, o2, rfl, -, -, hc2⟩ := (HD.out _ H1.out).1.elem (Chg.refl [] _) j hjl
      obtain ⟨m, hm1, hm2, hm3, hm4⟩ := HK.out j hjl
      rw [List.getElem?_eq_getElem hjl] at hm1
      injection hm1 with hm1
      have u1 := hc2 0 (by omega)
      simp only [icI, List.getElem?_cons_zero, Nat.add_zero, Nat.mul_one] at u1
      rw [hm1] at u1
      have HF2 := HF.out
      rw [List.drop_eq_getElem_cons hjl, List.foldl_cons, hm1, stmZ, Int.toNat_natCast] at HF2
      have AW := Lib.hid (HIH.out _ S' m H1.out A.out hm2 hm3 hm4)
      have HF3 := Lib.hid HF2
      have qj : IntKind.i64.wrap ((j : Int) + 1) = (j : Int) + 1 := IntWalk.i64_in _ (by omega)
      have hm0 : (0 : Int) ≤ (m : Int) := by omega
      have hm' : (m : Int) < (x.nodes.length : Int) := by omega
      clear hc2 hm1 HF2
      generalize hS : walkZ x.p n S' m = S2 at *
      go_upto_region 6 with (go_at_call 45; (with_reducible refine Calls.mono AW.out ?_); rintro e w5 ⟨rfl, ha, hc⟩; have A5 := Lib.hid ha; have C5 := Lib.hid (C.out.thenSame hc); have R5 := Lib.hid (RowOf.kept Row.out hc (fun g hg hm => absurd (HLT.out g hm) (by have := (Row.out.block g hg).1; omega))); clear ha hc u1)
      have H5 := Lib.hid (HS.out.nil HB.out H0.out C5.out)
      obtain ⟨b3, o3, e3, -, -, hc3⟩ := (HNn.out _ H5.out).elem (Chg.refl [] _) m hm3
      have y0 := hc3 0 (by omega)
      have y1 := hc3 1 (by omega)
      have y2 := hc3 2 (by omega)
      have y3 := hc3 3 (by omega)
      have y4 := hc3 4 (by omega)
      simp only [ndC, List.getElem?_cons_zero, List.getElem?_cons_succ, Nat.add_zero] at y0 y1 y2 y3 y4
      have DY := Lib.hid (decl_yes (S := S2) (d := dl) hm3)
      have DN := Lib.hid (decl_no (S := S2) (d := dl) hm3)
      have k5 := blk_cell (by have := A5.out.box; unfold scO at this; rw [e3] at this; exact this)
      generalize x.nodes[m] = y at *
      obtain ⟨W6, hW6⟩ : ∃ W6, W6 = w5.alloc (ndO y) := ⟨_, rfl⟩
      have N6 := Lib.hid (show Chg [] w5 W6 by rw [hW6]; exact (Chg.refl _ _).alloc _)
      have C6 := Lib.hid (C5.out.then N6.out (by simp))
      have A6 := Lib.hid (A5.out.keptN N6.out)
      have R6 := Lib.hid (RowOf.kept R5.out N6.out (by simp))
      have B6 := Lib.hid (show W6.heap[w5.heap.size]? = some (ndO y) by rw [hW6]; exact heap_alloc_new _ _)
      unfold ndO at hW6 B6
      have n6 := blk_cell B6.out
      have k6 := blk_cell (by have := A6.out.box; unfold scO at this; rw [e3] at this; exact this)
      have e6 := A6.out.erC m hm3
      have hee : S2.errs[m]? = some (S2.errs[m]'(by rw [A6.out.elen]; exact hm3)) := List.getElem?_eq_getElem _
      have hwz : w.heap.size ≤ W6.heap.size := C6.out.size
      generalize S2.errs[m]'(by rw [A6.out.elen]; exact hm3) = ev at *
      clear hc3 A R5 Row
      go_upto_region 7 with fail
      rw [← hW6]
      clear hW6 y0 y1 y2 y3 y4 k5
      cases hq : (y.kind == 13)
      · have HF4 := Lib.hid (by have := HF3.out; rw [DN.out (by rw [hq]; simp)] at this; exact this)
        clear HF3 hee
        go_wp2_with fail
        exact ⟨⟨j + 1, av, cv, dl, S2, rfl, rfl, by omega, by omega, HF4, R6, A6, C6⟩, by simp [intOf]; omega⟩
      · cases hq2 : (ev == 0)
        · have HF4 := Lib.hid (by have := HF3.out; rw [DN.out (by rw [hee]; intro e; have e1 := e.2; simp at e1; simp [e1] at hq2)] at this; exact this)
          clear HF3 hee
          go_wp2_with fail
          exact ⟨⟨j + 1, av, cv, dl, S2, rfl, rfl, by omega, by omega, HF4, R6, A6, C6⟩, by simp [intOf]; omega⟩
        · have HF4 := Lib.hid (by have := HF3.out; rw [DY.out hq (by rw [hee, eq_of_beq hq2])] at this; exact this)
          clear HF3 hee
          go_wp2_with (at_builtin; refine wpl_append rfl _ _ 36 rfl w.heap.size 9 _ 16 Tryz.underlying36 skInfo rfl (by decide) skC_lenS skC_one (.slice av dl.length cv) dl rfl (RowOf.kept R6.out ((Chg.refl [] _).alloc _) (by simp)) W6.heap.size _ y.text _ _ _ rfl (heap_alloc_new W6 _) rfl (by unfold maxLen; omega) (by omega) (by simp; omega) ?_; intro v' w7 hr7 hg7; have Hr7 := Lib.hid hr7; have Hg7 := Lib.hid hg7; clear hr7 hg7)
          have hT := Lib.hid (fun g (hg : g ∈ (Value.slice av dl.length cv).ownBlock.toList) => show w.heap.size ≤ g from (R6.out.block g (by simpa using hg)).1)
          have C7 := Lib.hid ((C6.out.alloc (.cells #[.string y.text] 9)).then (Chg.ofRow Hg7.out) (fun g hg hl => absurd (hT.out g hg) (by omega)))
          have A7 := Lib.hid ((A6.out.keptN ((Chg.refl _ _).alloc (.cells #[.string y.text] 9))).kept (Chg.ofRow Hg7.out) (fun hg => absurd (hT.out _ hg) (by have := HLT.out b (by simp); omega)) (fun hg => absurd (hT.out _ hg) (by have := HLT.out mb (by simp); omega)) (fun hg => absurd (hT.out _ hg) (by have := HLT.out sb (by simp); omega)) (fun hg => absurd (hT.out _ hg) (by have := HLT.out eb (by simp); omega)))
          obtain ⟨a', c', rfl⟩ := RowOf.shape Hr7.out
          exact ⟨⟨j + 1, a', c', dl ++ [y.text], S2, rfl, rfl, by omega, by simp; omega, HF4, Hr7, A7, C7⟩, by simp [intOf]; omega⟩
    · have hje : j = ks.length := by omega
      have HF2 := HF.out
      rw [hje, List.drop_length, List.foldl_nil] at HF2
      have hjl' : ¬ (j : Int) < (ks.length : Int) := by omega
      subst HF2
      clear HF HR hje
      go_wp2_with fail
      go_loopw [49] (fun v wi => ∃ (q : Nat) (vs : List (ByteArray × Int)), v = .int .i64 q ∧ q ≤ dl.length ∧ Hid ((dropV S' dl).vis = (dl.drop q).foldl (delL Prod.fst) vs) ∧ Hid (RowOf skC 1 wi w.heap.size 9 (.slice av dl.length cv) dl) ∧ Hid (ScAt x B b mb sb eb wi ⟨vs, S'.next, S'.slots, S'.errs⟩) ∧ Hid (Chg [b, mb, sb, eb] w wi)) (fun v _ => dl.length - (intOf v).toNat)
      case atStart => exact ⟨0, S'.vis, rfl, Nat.zero_le _, Lib.hid rfl, Row, A, C⟩
      case round =>
        obtain ⟨q, vs, rfl, hq, HV, Row2, A2, C2⟩ := hrel
        have hq0 : (0 : Int) ≤ (q : Int) := by omega
        by_cases hql : q < dl.length
        · have hql' : (q : Int) < (dl.length : Int) := by omega
          have HV2 := HV.out
          rw [List.drop_eq_getElem_cons hql, List.foldl_cons] at HV2
          have HV3 := Lib.hid HV2
          obtain ⟨b4, o4, rfl, -, -, hc4⟩ := (RowOf.sl Row2.out skC_lenS).1.elem (Chg.refl [] _) q hql
          have u4 := hc4 0 (by omega)
          simp only [skC, List.getElem?_cons_zero, Nat.add_zero, Nat.mul_one] at u4
          have k2 := blk_cell (by have := A2.out.box; unfold scO at this; exact this)
          have hdli : (dl.length : Int) ≤ 600 := by omega
          have qq : IntKind.i64.wrap ((q : Int) + 1) = (q : Int) + 1 := IntWalk.i64_in _ (by omega)
          generalize dl[q] = nm at *
          clear HV2 hc4
          go_wp2_with (refine wpl_delete _ rfl _ _ 69 9 rfl _ Tryz.underlying69 Tryz.underlying9 mb _ rfl A2.out.map nm rfl ?_; intro w8 hm8 hc8 hz8; have A8 := Lib.hid (A2.out.setMap HS.out hm8 hc8); have C8 := Lib.hid (C2.out.then hc8 (by simp)); have R8 := Lib.hid (RowOf.kept Row2.out hc8 (fun g hg hm => absurd (HLT.out mb (by simp)) (by have := (Row2.out.block g hg).1; simp at hm; omega))); clear hm8 hc8 hz8)
          exact ⟨⟨q + 1, _, rfl, by omega, HV3, R8, A8, C8⟩, by simp [intOf]; omega⟩
        · have hqe : q = dl.length := by omega
          have hql' : ¬ (q : Int) < (dl.length : Int) := by omega
          have HV2 := HV.out
          rw [hqe, List.drop_length, List.foldl_nil] at HV2
          have HV3 := Lib.hid HV2
          clear HV2 hqe
          go_wp2_with fail
          go_end0
          exact ⟨rfl, by have := A2.out; rw [← HV3.out] at this; exact this, C2.out⟩
end Go.Proofs.YtolidiafomceiaaGreatDoor
namespace Go.Proofs.YtolidiafomceiaaGreatDoor
set_option linter.unusedVariables false
set_option linter.unusedSimpArgs false
open Go.RowKit
theorem walkZ_block {x : Pr} {n i : Nat} {S : ScS} (h : i < x.nodes.length) (hb : (x.nodes[i].kind == 19) = true) : walkZ x.p (n + 1) S i = dropV (x.nodes[i].kids.foldl (stmZ x.p (walkZ x.p n)) (S, [])).1 (x.nodes[i].kids.foldl (stmZ x.p (walkZ x.p n)) (S, [])).2 := by
  rw [walkZ, nodes_p_at h]
  exact if_pos (by simpa using hb : x.nodes[i].kind = 19)
theorem walkZ_other {x : Pr} {n i : Nat} {S : ScS} (h : i < x.nodes.length) (hb : (x.nodes[i].kind == 19) = false) : walkZ x.p (n + 1) S i = endZ x.p (x.nodes[i].kids.foldl (fun q k => walkZ x.p n q k.toNat) S) i x.nodes[i].p := by
  rw [walkZ, nodes_p_at h]
  exact if_neg (by simpa using hb : ¬ x.nodes[i].kind = 19)
theorem endZ_var {p : PPr} {S : ScS} {i : Nat} (d : Nd) (h : d.kind = 5 ∨ d.kind = 14) : endZ p S i d.p = match lookL Prod.fst S.vis d.text with
    | none => ⟨S.vis, S.next, S.slots, S.errs.set i 4⟩
    | some x => ⟨S.vis, S.next, S.slots.set i x.2, S.errs⟩ := if_pos h
theorem endZ_letN {p : PPr} {S : ScS} {i : Nat} (d : PNd) (h : d.kind = 13) : endZ p S i d = letZ S i d.text := by
  unfold endZ
  rw [if_neg (by omega), if_pos h]
theorem endZ_let {p : PPr} {S : ScS} {i : Nat} (d : Nd) (h : d.kind = 13) : endZ p S i d.p = letZ S i d.text := endZ_letN d.p h
theorem endZ_callN {p : PPr} {S : ScS} {i : Nat} (d : PNd) (h : d.kind = 11) : endZ p S i d = ⟨S.vis, S.next, S.slots, S.errs.set i (callZ p d)⟩ := by
  unfold endZ
  rw [if_neg (by omega), if_neg (by omega), if_pos h]
theorem endZ_call {p : PPr} {S : ScS} {i : Nat} (d : Nd) (h : d.kind = 11) : endZ p S i d.p = ⟨S.vis, S.next, S.slots, S.errs.set i (callZ p d.p)⟩ := endZ_callN d.p h
theorem endZ_hostN {p : PPr} {S : ScS} {i : Nat} (d : PNd) (h : d.kind = 12) : endZ p S i d = if (lkZ hoL d.text).2 = true then (if (lkZ hoL d.text).1 = (d.kids.length : Int) then S else ⟨S.vis, S.next, S.slots, S.errs.set i 7⟩) else ⟨S.vis, S.next, S.slots, S.errs.set i 4⟩ := by
  unfold endZ
  rw [if_neg (by omega), if_neg (by omega), if_neg (by omega), if_pos h]
theorem endZ_host {p : PPr} {S : ScS} {i : Nat} (d : Nd) (h : d.kind = 12) : endZ p S i d.p = if (lkZ hoL d.text).2 = true then (if (lkZ hoL d.text).1 = (d.kids.length : Int) then S else ⟨S.vis, S.next, S.slots, S.errs.set i 7⟩) else ⟨S.vis, S.next, S.slots, S.errs.set i 4⟩ := endZ_hostN d.p h
theorem endZ_noneN {p : PPr} {S : ScS} {i : Nat} (d : PNd) (h : ¬ (d.kind = 5 ∨ d.kind = 14)) (h1 : ¬ d.kind = 13) (h2 : ¬ d.kind = 11) (h3 : ¬ d.kind = 12) : endZ p S i d = S := by
  unfold endZ
  rw [if_neg h, if_neg h1, if_neg h2, if_neg h3]
theorem endZ_none {p : PPr} {S : ScS} {i : Nat} (d : Nd) (h : ¬ (d.kind = 5 ∨ d.kind = 14)) (h1 : ¬ d.kind = 13) (h2 : ¬ d.kind = 11) (h3 : ¬ d.kind = 12) : endZ p S i d.p = S := endZ_noneN d.p h h1 h2 h3
set_option maxHeartbeats 16000000 in
set_option maxRecDepth 100000 in
theorem swalk_all {x : Pr} {w0 : World} {B b mb sb eb : Nat} (hs : Sep B b mb sb eb) (hB : w0.heap.size ≤ B) (hp : PrIn w0 x) (hN : x.nodes.length ≤ 600) : ∀ n, WalkOk x w0 B b mb sb eb n := by
  intro n
  induction n with
  | zero => intro w S i _ _ hi; omega
  | succ n ih =>
    intro w S i h0 h hi hil hf
    have hxe : (x.nodes.map Nd.p)[i]? = some (x.nodes[i]).p := by rw [List.getElem?_map, List.getElem?_eq_getElem hil]; rfl
    have hkk := firstF_kids hxe hf
    have hkc := firstF_count hxe hf
    have hkids : (x.nodes[i]).p.kids = (x.nodes[i]).kids := rfl
    rw [hkids] at hkk hkc
    have hkk : ∀ kk, kk < (x.nodes[i]).kids.length → ∃ m : Nat, (x.nodes[i]).kids[kk]? = some (m : Int) ∧ m < n ∧ m < x.nodes.length ∧ 0 ≤ firstF (x.nodes.map Nd.p) n m := fun kk hk => by
      obtain ⟨m, h1, h2, h3, h4⟩ := hkk kk hk
      rw [List.length_map] at h3
      exact ⟨m, h1, by omega, h3, h4⟩
    have hkl : (x.nodes[i]).kids.length ≤ 600 := by omega
    have hdi := (hp.1.2 _ (List.getElem_mem hil))
    obtain ⟨b3, o3, e3, -, -, hc3⟩ := (hp.kept h0).1.1.1.elem (Chg.refl [] _) i hil
    have y0 := hc3 0 (by omega)
    have y1 := hc3 1 (by omega)
    have y2 := hc3 2 (by omega)
    have y3 := hc3 3 (by omega)
    have y4 := hc3 4 (by omega)
    simp only [ndC, List.getElem?_cons_zero, List.getElem?_cons_succ, Nat.add_zero] at y0 y1 y2 y3 y4
    have WB := Lib.hid (walkZ_block (n := n) (S := S) hil)
    have WO := Lib.hid (walkZ_other (n := n) (S := S) hil)
    have HBL := Lib.hid (fun (w : World) (S : ScS) (h1 : Chg [] w0 w) (h2 : ScAt x B b mb sb eb w S) => sblock_any hs hB hp ih (x.nodes[i]) hdi hkl hkk h1 h2)
    have hi0 : (0 : Int) ≤ (i : Int) := by omega
    have hi' : (i : Int) < (x.nodes.length : Int) := by omega
    generalize hd : x.nodes[i] = d at *
    obtain ⟨R, hR⟩ : ∃ R, R = walkZ x.p (n + 1) S i := ⟨_, rfl⟩
    rw [← hR]
    have HR := Lib.hid hR
    obtain ⟨W1, hW1⟩ : ∃ W1, W1 = w.alloc (ndO d) := ⟨_, rfl⟩
    have N1 := Lib.hid (show Chg [] w W1 by rw [hW1]; exact (Chg.refl _ _).alloc _)
    have H1 := Lib.hid (h0.thenSame N1.out)
    have A1 := Lib.hid (h.keptN N1.out)
    have B1 := Lib.hid (show W1.heap[w.heap.size]? = some (ndO d) by rw [hW1]; exact heap_alloc_new _ _)
    have k0 := blk_cell (by have := h.box; unfold scO at this; rw [e3] at this; exact this)
    unfold ndO at hW1 B1
    have n1 := blk_cell B1.out
    have C1 := Lib.hid (show Chg [b, mb, sb, eb] w W1 from N1.out.mono (by simp))
    have HLT := Lib.hid h.below
    have HS := Lib.hid hs
    have HB := Lib.hid hB
    have HK := Lib.hid hkk
    have HD := Lib.hid (fun w' (hc : Chg [] w0 w') => show InIs icI 1 w' d.da d.dc d.kids from (hdi.kept hc).2)
    have HIH := Lib.hid ih
    have HP := Lib.hid hp
    have H0 := Lib.hid h0
    clear hc3 hR hkk hkids hdi h ih hf hs hB hd hxe hp h0
    cases hq : (d.kind == 19)
    · have HE := Lib.hid (HR.out.trans (WO.out hq))
      have hkli : (d.kids.length : Int) ≤ 600 := by omega
      clear HR WB WO HBL
      go_enter Tryz.func45, Tryz.ntmps45
      go_upto_region 1 with fail
      rw [← hW1]
      clear hW1 y0 y1 y2 y3 y4 k0
      go_wp2_with fail
      clear n1
      go_loopw [28] (fun v wi => ∃ (j : Nat) (S' : ScS), v = .int .i64 j ∧ j ≤ d.kids.length ∧ Hid (R = endZ x.p ((d.kids.drop j).foldl (fun q k => walkZ x.p n q k.toNat) S') i d.p) ∧ Hid (ScAt x B b mb sb eb wi S') ∧ Hid (Chg [b, mb, sb, eb] w wi) ∧ Hid (wi.heap[w.heap.size]? = some (.cells #[.int .i64 d.kind, .string d.text, .int .i64 d.n, .slice d.ka d.keys.length d.kc, .slice d.da d.kids.length d.dc] 49 (0, 0)))) (fun v _ => d.kids.length - (intOf v).toNat)
      case atStart => exact ⟨0, S, rfl, Nat.zero_le _, Lib.hid HE.out, A1, C1, B1⟩
      case round =>
        obtain ⟨j, S', rfl, hj, HF, A, C, N⟩ := hrel
        have hj0 : (0 : Int) ≤ (j : Int) := by omega
        have H1 := Lib.hid (HS.out.nil HB.out H0.out C.out)
        by_cases hjl : j < d.kids.length
        · have hjl' : (j : Int) < (d.kids.length : Int) := by omega
          obtain ⟨b2, o2, e2, -, -, hc2⟩ := (HD.out _ H1.out).1.elem (Chg.refl [] _) j hjl
          obtain ⟨m, hm1, hm2, hm3, hm4⟩ := HK.out j hjl
          rw [List.getElem?_eq_getElem hjl] at hm1
          injection hm1 with hm1
          have u1 := hc2 0 (by omega)
          simp only [icI, List.getElem?_cons_zero, Nat.add_zero, Nat.mul_one] at u1
          rw [hm1] at u1
          have HF2 := HF.out
          rw [List.drop_eq_getElem_cons hjl, List.foldl_cons, hm1, Int.toNat_natCast] at HF2
          have AW := Lib.hid (HIH.out _ S' m H1.out A.out hm2 hm3 hm4)
          have HF3 := Lib.hid HF2
          have qj : IntKind.i64.wrap ((j : Int) + 1) = (j : Int) + 1 := IntWalk.i64_in _ (by omega)
          clear hc2 hm1 HF2
          rw [e2]
          go_wp2_with (go_at_call 45; (with_reducible refine Calls.mono AW.out ?_); rintro e w5 ⟨rfl, ha, hc⟩; have A5 := Lib.hid ha; have C5 := Lib.hid (C.out.thenSame hc); have N5 := Lib.hid (hc.at (fun hg => absurd (HLT.out _ hg) (by omega)) N.out); clear ha hc u1)
          exact ⟨⟨j + 1, _, rfl, by omega, HF3, A5, C5, (by first | exact N5 | (rw [e2] at N5; exact N5))⟩, by simp [intOf]; omega⟩
        · have hje : j = d.kids.length := by omega
          have HF2 := HF.out
          rw [hje, List.drop_length, List.foldl_nil] at HF2
          have HF3 := Lib.hid HF2
          have hjl' : ¬ (j : Int) < (d.kids.length : Int) := by omega
          have n1 := blk_cell N.out
          clear HF HF2 hje HE
          cases q5 : (d.kind == 5)
          · cases q14 : (d.kind == 14)
            · have h514 : ¬ (d.kind = 5 ∨ d.kind = 14) := by simp at q5 q14; omega
              cases q13 : (d.kind == 13)
              · cases q11 : (d.kind == 11)
                · cases q12 : (d.kind == 12)
                  · have HE := Lib.hid (HF3.out.trans (endZ_none d h514 (by simpa using q13) (by simpa using q11) (by simpa using q12)))
                    clear HF3 h514
                    go_wp2_with fail
                    go_end0
                    exact ⟨rfl, by rw [HE.out]; exact A.out, C.out⟩
                  · have HE := Lib.hid (HF3.out.trans (endZ_host d (eq_of_beq q12)))
                    have AH := Lib.hid (fun w' => hostop_any d.text w')
                    have HEq := HE.out
                    generalize lkZ hoL d.text = hq at *
                    obtain ⟨hn, hb⟩ := hq
                    clear HF3 h514 HE
                    cases hb
                    · have HE := Lib.hid (show R = ⟨S'.vis, S'.next, S'.slots, S'.errs.set i 4⟩ from HEq)
                      clear HEq
                      go_upto_region 21 with (go_at_call 64; (with_reducible refine Calls.mono (AH.out _) ?_); rintro e w5 ⟨rfl, hc⟩; have A5 := Lib.hid (A.out.keptN hc); have C5 := Lib.hid (C.out.then hc (by simp)); have N5 := Lib.hid (hc.at (by simp) N.out); have n5 := blk_cell N5.out; clear n1 hc)
                      have k7 := blk_cell (by have := A5.out.box; unfold scO at this; exact this)
                      obtain ⟨ev, e7⟩ : ∃ v, w5.cell? ⟨eb, i, none⟩ = some v := ⟨_, A5.out.erC i hil⟩
                      have g7 := fun q => A5.out.erF q
                      have A8 := Lib.hid (A5.out.setErr HS.out i hil 4)
                      have C8 := Lib.hid (C5.out.setCell ⟨eb, i, none⟩ (.int .i64 4) (by simp))
                      go_wp2_with fail
                      go_end0
                      exact ⟨rfl, by rw [HE.out]; exact A8.out, C8.out⟩
                    · by_cases hne : hn = (d.kids.length : Int)
                      · have HE := Lib.hid (show R = S' by rw [HEq]; exact (if_pos rfl).trans (if_pos hne))
                        have hnq : (hn != (d.kids.length : Int)) = false := by rw [hne]; simp
                        clear HEq hne
                        go_wp2_with (go_at_call 64; (with_reducible refine Calls.mono (AH.out _) ?_); rintro e w5 ⟨rfl, hc⟩; have A5 := Lib.hid (A.out.keptN hc); have C5 := Lib.hid (C.out.then hc (by simp)); have N5 := Lib.hid (hc.at (by simp) N.out); have n5 := blk_cell N5.out; clear n1 hc)
                        go_end0
                        exact ⟨rfl, by rw [HE.out]; exact A5.out, C5.out⟩
                      · have HE := Lib.hid (show R = ⟨S'.vis, S'.next, S'.slots, S'.errs.set i 7⟩ by rw [HEq]; exact (if_pos rfl).trans (if_neg hne))
                        have hnq : (hn != (d.kids.length : Int)) = true := by simpa using hne
                        clear HEq hne
                        go_upto_region 21 with (go_at_call 64; (with_reducible refine Calls.mono (AH.out _) ?_); rintro e w5 ⟨rfl, hc⟩; have A5 := Lib.hid (A.out.keptN hc); have C5 := Lib.hid (C.out.then hc (by simp)); have N5 := Lib.hid (hc.at (by simp) N.out); have n5 := blk_cell N5.out; clear n1 hc)
                        have k7 := blk_cell (by have := A5.out.box; unfold scO at this; exact this)
                        obtain ⟨ev, e7⟩ : ∃ v, w5.cell? ⟨eb, i, none⟩ = some v := ⟨_, A5.out.erC i hil⟩
                        have g7 := fun q => A5.out.erF q
                        have A8 := Lib.hid (A5.out.setErr HS.out i hil 7)
                        have C8 := Lib.hid (C5.out.setCell ⟨eb, i, none⟩ (.int .i64 7) (by simp))
                        go_wp2_with fail
                        go_end0
                        exact ⟨rfl, by rw [HE.out]; exact A8.out, C8.out⟩
                · have HE := Lib.hid (HF3.out.trans (endZ_call d (eq_of_beq q11)))
                  have AC := Lib.hid (fun (w' : World) (h1 : Chg [] wr w') => scall_any x d b mb sb eb S'.next w' (HP.out.kept (H1.out.thenSame h1)) (A.out.keptN h1).box)
                  unfold ndC at AC
                  generalize callZ x.p d.p = cv at *
                  clear HF3 h514
                  have k5 := blk_cell (by have := A.out.box; unfold scO at this; exact this)
                  go_upto_region 18 with fail
                  have VK := Lib.hid (fun (w' : World) (hc : Chg [eb] wr w') => show w'.cell? ⟨b, 5, none⟩ = some (.slice (some ⟨eb, 0, none⟩) x.nodes.length x.nodes.length) ∧ w'.cell? ⟨w.heap.size, 0, none⟩ = some (.int .i64 d.kind) ∧ w'.cell? ⟨w.heap.size, 1, none⟩ = some (.string d.text) ∧ w'.cell? ⟨w.heap.size, 2, none⟩ = some (.int .i64 d.n) ∧ w'.cell? ⟨w.heap.size, 3, none⟩ = some (.slice d.ka d.keys.length d.kc) ∧ w'.cell? ⟨w.heap.size, 4, none⟩ = some (.slice d.da d.kids.length d.dc) from by
                    have h1 := blk_cell (by have := hc.at (by simp; exact fun e => HS.out.n3 e.symm) A.out.box; unfold scO at this; exact this)
                    have h2 := blk_cell (hc.at (by simp; have := HLT.out eb (by simp); omega) N.out)
                    exact ⟨h1 5, h2 0, h2 1, h2 2, h2 3, h2 4⟩)
                  clear n1 k5
                  go_region_held3 (fun w' => w'.cell? ⟨b, 5, none⟩ = some (.slice (some ⟨eb, 0, none⟩) x.nodes.length x.nodes.length) ∧ w'.cell? ⟨w.heap.size, 0, none⟩ = some (.int .i64 d.kind) ∧ w'.cell? ⟨w.heap.size, 1, none⟩ = some (.string d.text) ∧ w'.cell? ⟨w.heap.size, 2, none⟩ = some (.int .i64 d.n) ∧ w'.cell? ⟨w.heap.size, 3, none⟩ = some (.slice d.ka d.keys.length d.kc) ∧ w'.cell? ⟨w.heap.size, 4, none⟩ = some (.slice d.da d.kids.length d.dc))
                    (first | exact VK.out _ ((Chg.refl _ _).drew) | exact VK.out _ KC.out | exact VK.out _ (KC.out.setCell _ _ (by simp)))
                    (first | (go_at_call 63; (with_reducible refine Calls.mono (AC.out _ ((Chg.refl _ _).drew)) ?_); rintro e w5 ⟨rfl, hc⟩; have A5 := Lib.hid ((A.out.keptN (Chg.refl [] wr).drew).keptN hc); have C5 := Lib.hid (C.out.drew.then hc (by simp)); have KC := Lib.hid (show Chg [eb] wr w5 from ((Chg.refl _ _).drew).then hc (by simp)); have g7 := (fun q => A5.out.erF q); obtain ⟨ev, e7⟩ : ∃ v, w5.cell? ⟨eb, i, none⟩ = some v := ⟨_, A5.out.erC i hil⟩; clear hc) | fail)
                  go_wp2_with fail
                  go_end0
                  exact ⟨rfl, by rw [HE.out]; exact A5.out.setErr HS.out i hil cv, C5.out.setCell _ _ (by simp)⟩
              · have HE := Lib.hid (HF3.out.trans (endZ_let d (eq_of_beq q13)))
                have AL := Lib.hid (slet_any A.out HS.out i hil d.text)
                clear HF3 h514
                go_wp2_with (go_at_call 62; (with_reducible refine Calls.mono AL.out ?_); rintro e w5 ⟨rfl, ha, hc⟩; have A5 := Lib.hid ha; have C5 := Lib.hid (C.out.thenSame hc); clear ha hc)
                go_end0
                exact ⟨rfl, by rw [HE.out]; exact A5.out, C5.out⟩
            · go_upto_region 11 with fail
              have HV := HF3.out.trans (endZ_var d (by first | exact .inl (eq_of_beq q5) | exact .inr (eq_of_beq q14)))
              have f5 := Lib.hid (fun n => A.out.keptN ((Chg.refl [] wr).drewN n))
              have c5 := Lib.hid (fun n => C.out.drewN n)
              have k5 := blk_cell (by have := A.out.box; unfold scO at this; exact this)
              cases hl : lookL Prod.fst S'.vis d.text with
              | none =>
                have hrun : ∀ n, (Sem.run Tryz.prog (Instr.lookup 69 (.map (some mb)) (.string d.text) true) (wr.drewN n)) = Result.ok (.tuple #[.int .i64 0, .bool false]) (wr.drewN n) := fun n => by
                  have := (f5.out n).map.lookup Tryz.underlying69 Tryz.underlying9 (zeroIS _) d.text true
                  rw [hl] at this
                  exact this
                rw [hl] at HV
                have HE := Lib.hid HV
                clear HF3 HV hl
                go_quiet (fail)
                have A7 := Lib.hid (f5.out nq)
                have C7 := Lib.hid (c5.out nq)
                clear hrun f5 c5 k5
                generalize wr.drewN nq = W7 at *
                have k7 := blk_cell (by have := A7.out.box; unfold scO at this; exact this)
                obtain ⟨ev, e7⟩ : ∃ v, W7.cell? ⟨eb, i, none⟩ = some v := ⟨_, A7.out.erC i hil⟩
                have g7 := fun q => A7.out.erF q
                have A8 := Lib.hid (A7.out.setErr HS.out i hil 4)
                have C8 := Lib.hid (C7.out.setCell ⟨eb, i, none⟩ (.int .i64 4) (by simp))
                go_wp2_with fail
                ((try simp only [Exit.inBlock, Exit.then]); refine bodyPost_ret (results_none rfl _ _ _) rfl ?_)
                exact ⟨rfl, by rw [HE.out]; exact A8.out, C8.out⟩
              | some y =>
                have hrun : ∀ n, (Sem.run Tryz.prog (Instr.lookup 69 (.map (some mb)) (.string d.text) true) (wr.drewN n)) = Result.ok (.tuple #[.int .i64 y.2, .bool true]) (wr.drewN n) := fun n => by
                  have := (f5.out n).map.lookup Tryz.underlying69 Tryz.underlying9 (zeroIS _) d.text true
                  rw [hl] at this
                  exact this
                rw [hl] at HV
                have HE := Lib.hid HV
                clear HF3 HV hl
                go_quiet (fail)
                have A7 := Lib.hid (f5.out nq)
                have C7 := Lib.hid (c5.out nq)
                clear hrun f5 c5 k5
                generalize wr.drewN nq = W7 at *
                have k7 := blk_cell (by have := A7.out.box; unfold scO at this; exact this)
                obtain ⟨ev, e7⟩ : ∃ v, W7.cell? ⟨sb, i, none⟩ = some v := ⟨_, A7.out.slC i hil⟩
                have g7 := fun q => A7.out.slF q
                have A8 := Lib.hid (A7.out.setSlot HS.out i hil y.2)
                have C8 := Lib.hid (C7.out.setCell ⟨sb, i, none⟩ (.int .i64 y.2) (by simp))
                go_wp2_with fail
                go_end0
                exact ⟨rfl, by rw [HE.out]; exact A8.out, C8.out⟩
          · go_upto_region 11 with fail
            have HV := HF3.out.trans (endZ_var d (by first | exact .inl (eq_of_beq q5) | exact .inr (eq_of_beq q14)))
            have f5 := Lib.hid (fun n => A.out.keptN ((Chg.refl [] wr).drewN n))
            have c5 := Lib.hid (fun n => C.out.drewN n)
            have k5 := blk_cell (by have := A.out.box; unfold scO at this; exact this)
            cases hl : lookL Prod.fst S'.vis d.text with
            | none =>
              have hrun : ∀ n, (Sem.run Tryz.prog (Instr.lookup 69 (.map (some mb)) (.string d.text) true) (wr.drewN n)) = Result.ok (.tuple #[.int .i64 0, .bool false]) (wr.drewN n) := fun n => by
                have := (f5.out n).map.lookup Tryz.underlying69 Tryz.underlying9 (zeroIS _) d.text true
                rw [hl] at this
                exact this
              rw [hl] at HV
              have HE := Lib.hid HV
              clear HF3 HV hl
              go_quiet (fail)
              have A7 := Lib.hid (f5.out nq)
              have C7 := Lib.hid (c5.out nq)
              clear hrun f5 c5 k5
              generalize wr.drewN nq = W7 at *
              have k7 := blk_cell (by have := A7.out.box; unfold scO at this; exact this)
              obtain ⟨ev, e7⟩ : ∃ v, W7.cell? ⟨eb, i, none⟩ = some v := ⟨_, A7.out.erC i hil⟩
              have g7 := fun q => A7.out.erF q
              have A8 := Lib.hid (A7.out.setErr HS.out i hil 4)
              have C8 := Lib.hid (C7.out.setCell ⟨eb, i, none⟩ (.int .i64 4) (by simp))
              go_wp2_with fail
              ((try simp only [Exit.inBlock, Exit.then]); refine bodyPost_ret (results_none rfl _ _ _) rfl ?_)
              exact ⟨rfl, by rw [HE.out]; exact A8.out, C8.out⟩
            | some y =>
              have hrun : ∀ n, (Sem.run Tryz.prog (Instr.lookup 69 (.map (some mb)) (.string d.text) true) (wr.drewN n)) = Result.ok (.tuple #[.int .i64 y.2, .bool true]) (wr.drewN n) := fun n => by
                have := (f5.out n).map.lookup Tryz.underlying69 Tryz.underlying9 (zeroIS _) d.text true
                rw [hl] at this
                exact this
              rw [hl] at HV
              have HE := Lib.hid HV
              clear HF3 HV hl
              go_quiet (fail)
              have A7 := Lib.hid (f5.out nq)
              have C7 := Lib.hid (c5.out nq)
              clear hrun f5 c5 k5
              generalize wr.drewN nq = W7 at *
              have k7 := blk_cell (by have := A7.out.box; unfold scO at this; exact this)
              obtain ⟨ev, e7⟩ : ∃ v, W7.cell? ⟨sb, i, none⟩ = some v := ⟨_, A7.out.slC i hil⟩
              have g7 := fun q => A7.out.slF q
              have A8 := Lib.hid (A7.out.setSlot HS.out i hil y.2)
              have C8 := Lib.hid (C7.out.setCell ⟨sb, i, none⟩ (.int .i64 y.2) (by simp))
              go_wp2_with fail
              go_end0
              exact ⟨rfl, by rw [HE.out]; exact A8.out, C8.out⟩
    · have AB := Lib.hid (HBL.out _ _ H1.out A1.out)
      have HE := Lib.hid (HR.out.trans (WB.out hq))
      unfold ndC at AB
      go_enter Tryz.func45, Tryz.ntmps45
      go_upto_region 1 with fail
      rw [← hW1]
      clear hW1 y0 y1 y2 y3 y4 k0
      go_wp2_with (go_at_call 61; (with_reducible refine Calls.mono AB.out ?_); rintro e w5 ⟨rfl, ha, hc⟩; have A5 := Lib.hid ha; have C5 := Lib.hid (C1.out.thenSame hc); clear ha hc)
      ((try simp only [Exit.inBlock, Exit.then]); refine bodyPost_ret (results_none rfl _ _ _) rfl ?_)
      exact ⟨rfl, by rw [HE.out]; exact A5.out, C5.out⟩
end Go.Proofs.YtolidiafomceiaaGreatDoor
