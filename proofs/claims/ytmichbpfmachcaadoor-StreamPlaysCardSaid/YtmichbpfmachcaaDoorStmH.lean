/- Chapter 30: contract: Append. Condition: the table of Itoa lies as the program lays it. -/
import Derived.Test.YtmichbpfmachcaaDoorStmG
namespace Go.Proofs.YtmichbpfmachcaaDoor
set_option linter.unusedVariables false
set_option linter.unusedSimpArgs false
open Go.RowKit
variable {w w' : World} {b g c n : Nat} {D : List Sd} {keep now : Int} {f S : List Nat} {st : Stm}
def appR (st : Stm) (e : PEv) (now : Int) : (Int × Int × Int) × Stm :=
  if evZ e ≠ 0 then ((0, 0, evZ e), st) else if now < 0 then ((0, 0, 2), st) else if 1073741824 < now then ((0, 0, 2), st) else if now < st.now then ((0, 0, 11), st)
  else match st.sh[(bucketZ e.key (st.sh.length : Int)).toNat]? with
    | none => ((0, 0, 0), st)
    | some d => if d.recs.length = 256 then ((0, 0, 3), st) else ((bucketZ e.key (st.sh.length : Int), d.first + (d.recs.length : Int), 0), { st with now := now, sh := st.sh.set (bucketZ e.key (st.sh.length : Int)).toNat ⟨d.first, d.recs ++ [⟨bucketZ e.key (st.sh.length : Int), d.first + (d.recs.length : Int), now, e⟩]⟩ })
def Turned (w w' : World) (b : Nat) (st : Stm) (f : List Nat) : Prop := ∃ f', StmIs w' b st f' ∧ Chg f w w' ∧ ∀ x ∈ f', x ∈ f ∨ w.heap.size ≤ x
theorem Turned.same (h : StmIs w b st f) (hc : Chg [] w w') : Turned w w' b st f := ⟨f, h.keptN hc, hc.mono (by simp), fun x hx => .inl hx⟩
theorem InIs.keptAt {α : Type} {cf : α → List Value} {sz : Nat} {a : Option Addr} {c : Nat} {l : List α} (h : InIs cf sz w a c l) (hc : Chg S w w') (hS : ∀ x, a = some x → 0 < l.length → x.block ∉ S) : InIs cf sz w' a c l := by
  obtain ⟨⟨h1, h2⟩, h3⟩ := h
  refine ⟨⟨h1, fun k hk => ?_⟩, h3⟩
  obtain ⟨q, o, e1, e2, e3⟩ := h2 k hk
  refine ⟨q, o, e1, hc.lt e2, fun j hj => ?_⟩
  rw [← e3 j hj]
  have hq := hc.block q e2 (hS _ e1 (by omega))
  unfold World.cell?
  simp only [hq]
/-- The record that Append puts. -/
theorem StmAt.appended {wy : World} {d : Sd} {r : Rc} {a' : Option Addr} {c' k : Nat} (h : StmAt w b g c D keep now f) (hk : k < D.length) (hd : D[k] = d) (hA : Apd w wy d.v d.L r a' c') :
    ∃ f', StmAt (wy.setCell ⟨g, k * 2 + 1, none⟩ (.slice a' (d.L.length + 1) c')) b g c (D.set k ⟨d.first, a', c', d.L ++ [r]⟩) keep now f' ∧ ∀ x ∈ f', x ∈ f ∨ w.heap.size ≤ x := by
  subst hd
  have hmem : D[k] ∈ D := List.getElem_mem hk
  obtain ⟨A1, A2, A3, A4⟩ := hA
  have hlen : (D[k].L ++ [r]).length = D[k].L.length + 1 := by simp
  have hc2 : Chg [g] wy (wy.setCell ⟨g, k * 2 + 1, none⟩ (.slice a' (D[k].L.length + 1) c')) := (Chg.refl _ _).setCell _ _ (by simp)
  have hc : Chg (g :: (D[k]).v.ownBlock.toList) w (wy.setCell ⟨g, k * 2 + 1, none⟩ (.slice a' (D[k].L.length + 1) c')) := (A3.mono (fun x hx _ => List.mem_cons_of_mem _ hx)).then hc2 (fun x hx _ => by simp at hx; simp [hx])
  have hrg : ∀ x ∈ (D[k]).v.ownBlock.toList, x ≠ g := fun x hx => (h.row_ne hmem (by simpa using hx)).2
  obtain ⟨curg, hcurg⟩ := h.rowAt
  have hgy := A3.at (fun hm => hrg g hm rfl) hcurg
  refine h.put k hk ⟨D[k].first, a', c', D[k].L ++ [r]⟩ hc ?_ ?_ ?_ ?_
  · exact RowOf.stored (h.row.kept A3 (fun y hy hm => by cases hy; exact hrg _ hm rfl)) rfl sdC_len k hk 1 (by omega) _ _ (by simp [sdC])
  · show RowOf rcC 10 _ 0 _ (.slice a' (D[k].L ++ [r]).length c') _
    rw [hlen]
    refine A1.kept hc2 (fun y hy hm => ?_)
    obtain ⟨q, hq⟩ := rowBlk A1 hy
    simp at hm
    subst hm
    rw [hgy] at hq
    simp at hq
  · intro x hx
    have hx' : (Value.slice a' (D[k].L.length + 1) c').ownBlock = some x := by
      have e : (⟨D[k].first, a', c', D[k].L ++ [r]⟩ : Sd).v = .slice a' (D[k].L.length + 1) c' := by unfold Sd.v; rw [hlen]
      rw [e] at hx
      exact hx
    exact A4 x hx'
  · intro r' hr'
    rcases List.mem_append.1 hr' with hr' | hr'
    · have hB := h.body _ hmem r' hr'
      have hB2 := hB.keptAt hc (fun x hx hm => by
        obtain ⟨e1, e2, e3⟩ := h.body_ne hB hx
        rcases List.mem_cons.1 hm with e | hm
        · exact e2 e
        · exact e3 _ hmem (by simpa using hm))
      exact ⟨hB2.1, fun x hx => ⟨.inl (hB2.2 x hx).1, (hB2.2 x hx).2⟩⟩
    · simp at hr'
      subst hr'
      have hne : ∀ y, (Value.slice r'.e.ba r'.e.p.body.length r'.e.bc).ownBlock = some y → y ∉ [g] := fun y hy hm => by
        obtain ⟨q, hq⟩ := rowBlk A2 hy
        simp at hm
        subst hm
        rw [hgy] at hq
        simp at hq
      have hI := A2.kept hc2 hne
      refine ⟨(InIs.ofRow hI ceC_len).2, fun x hx => ?_⟩
      have hob : (Value.slice r'.e.ba r'.e.p.body.length r'.e.bc).ownBlock = some x.block := by rw [hx]; rfl
      exact ⟨.inr (hI.block _ hob).1, rowBlk hI hob⟩
set_option maxHeartbeats 16000000 in
set_option maxRecDepth 100000 in
theorem append_any (h : StmIs w b st f) (ho : st.ok n) (hn : n ≤ 1048575) (e : Ev) (hi : InIs ceC 4 w e.ba e.bc e.p.body) (hg : e.p.good) (ht : TabW w) (now : Int) (hdis : ∀ x, e.ba = some x → 0 < e.p.body.length → x.block ∉ f) :
    Calls Tryd.prog 11 #[.pointer (some ⟨b, 0, none⟩), .agg (evC e).toArray, .int .i64 now] w fun x w' => x = .returned (.tuple #[.int .i64 (appR st e.p now).1.1, .int .i64 (appR st e.p now).1.2.1, .int .i64 (appR st e.p now).1.2.2]) ∧ Turned w w' b (appR st e.p now).2 f := by
  obtain ⟨R, hR⟩ : ∃ R, R = appR st e.p now := ⟨_, rfl⟩
  rw [← hR]
  unfold appR at hR
  obtain ⟨W1, hW1⟩ : ∃ W1, W1 = w.alloc (evO e) := ⟨_, rfl⟩
  have C1 := Lib.hid (show Chg [] w W1 by rw [hW1]; exact (Chg.refl _ _).alloc _)
  have X1 := Lib.hid (show W1.heap[w.heap.size]? = some (evO e) by rw [hW1]; exact heap_alloc_new _ _)
  have H := Lib.hid h
  have AM := Lib.hid (stm_made (h.keptN C1.out) ho)
  have AE := Lib.hid (echeck_any e W1 (hi.kept C1.out) hg (ht.kept C1.out))
  have AS := Lib.hid (fun w' (hc : Chg [] W1 w') => stm_shard e.p.key hg.2.2.2.1 ((h.keptN C1.out).keptN hc) ho)
  have HO := Lib.hid ho
  have HI := Lib.hid hi
  have hbl := hg.2.2.2.2.2.1
  have x1 := cells7 X1.out
  obtain ⟨x10, x11, x12, x13, x14, x15, x16⟩ := x1
  unfold evO at hW1
  simp only [evC] at AE ⊢
  have HW1 := Lib.hid hW1
  clear hi hg ht hW1
  by_cases hz : evZ e.p ≠ 0
  · rw [if_pos hz] at hR
    have hz' : (evZ e.p == 0) = false := by simpa using hz
    generalize evZ e.p = z at *
    subst hR
    clear h ho hz
    go_enter Tryd.func11, Tryd.ntmps11
    go_wp2_with fail
    rw [← HW1.out]
    go_wp2_with fail
    refine AM.out.mono ?_; rintro e1 w1 ⟨rfl, rfl⟩
    go_wp2_with fail
    refine AE.out.mono ?_; rintro e2 w2 ⟨rfl, hc2⟩
    have C2 := Lib.hid (C1.out.thenSame hc2)
    clear hc2
    go_wp2_with fail
    go_ret3
    exact ⟨rfl, Turned.same H.out C2.out⟩
  rw [if_neg hz] at hR
  have hz' : evZ e.p = 0 := by simpa using hz
  rw [hz'] at AE
  clear hz hz'
  obtain ⟨g, c, D, h1, h2⟩ := h
  have hD : st.sh.length = D.length := by rw [h1, List.length_map]
  by_cases h3 : now < 0
  · rw [if_pos h3] at hR
    subst hR
    clear ho AS
    go_enter Tryd.func11, Tryd.ntmps11
    go_wp2_with fail
    rw [← HW1.out]
    go_wp2_with fail
    refine AM.out.mono ?_; rintro e1 w1 ⟨rfl, rfl⟩
    go_wp2_with fail
    refine AE.out.mono ?_; rintro e2 w2 ⟨rfl, hc2⟩
    have K2 := Lib.hid hc2
    have C2 := Lib.hid (C1.out.thenSame hc2)
    have X2 := Lib.hid (hc2.at (by simp) X1.out)
    have H2 := Lib.hid (h2.kept C2.out (by simp))
    have y2 := blk_cell H2.out.head
    have f2 := blk_free H2.out.head
    have m2 := lt_of_heap H2.out.head
    obtain ⟨z20, z21, z22, z23, z24, z25, z26⟩ := cells7 X2.out
    have z2m := lt_of_heap X2.out
    clear hc2 x10 x11 x12 x13 x14 x15 x16
    go_wp2_with fail
    go_ret3
    exact ⟨rfl, Turned.same H.out C2.out⟩
  rw [if_neg h3] at hR
  by_cases h4 : 1073741824 < now
  · rw [if_pos h4] at hR
    subst hR
    clear ho AS
    go_enter Tryd.func11, Tryd.ntmps11
    go_wp2_with fail
    rw [← HW1.out]
    go_wp2_with fail
    refine AM.out.mono ?_; rintro e1 w1 ⟨rfl, rfl⟩
    go_wp2_with fail
    refine AE.out.mono ?_; rintro e2 w2 ⟨rfl, hc2⟩
    have K2 := Lib.hid hc2
    have C2 := Lib.hid (C1.out.thenSame hc2)
    have X2 := Lib.hid (hc2.at (by simp) X1.out)
    have H2 := Lib.hid (h2.kept C2.out (by simp))
    have y2 := blk_cell H2.out.head
    have f2 := blk_free H2.out.head
    have m2 := lt_of_heap H2.out.head
    obtain ⟨z20, z21, z22, z23, z24, z25, z26⟩ := cells7 X2.out
    have z2m := lt_of_heap X2.out
    clear hc2 x10 x11 x12 x13 x14 x15 x16
    go_wp2_with fail
    go_ret3
    exact ⟨rfl, Turned.same H.out C2.out⟩
  rw [if_neg h4] at hR
  by_cases h5 : now < st.now
  · rw [if_pos h5] at hR
    subst hR
    clear ho AS
    go_enter Tryd.func11, Tryd.ntmps11
    go_wp2_with fail
    rw [← HW1.out]
    go_wp2_with fail
    refine AM.out.mono ?_; rintro e1 w1 ⟨rfl, rfl⟩
    go_wp2_with fail
    refine AE.out.mono ?_; rintro e2 w2 ⟨rfl, hc2⟩
    have K2 := Lib.hid hc2
    have C2 := Lib.hid (C1.out.thenSame hc2)
    have X2 := Lib.hid (hc2.at (by simp) X1.out)
    have H2 := Lib.hid (h2.kept C2.out (by simp))
    have y2 := blk_cell H2.out.head
    have f2 := blk_free H2.out.head
    have m2 := lt_of_heap H2.out.head
    obtain ⟨z20, z21, z22, z23, z24, z25, z26⟩ := cells7 X2.out
    have z2m := lt_of_heap X2.out
    clear hc2 x10 x11 x12 x13 x14 x15 x16
    go_wp2_with fail
    go_ret3
    exact ⟨rfl, Turned.same H.out C2.out⟩
  rw [if_neg h5] at hR
  rw [hD] at hR AS
  obtain ⟨q0, q1⟩ := bucketZ_bounds e.p.key (n := (D.length : Int)) (by have := ho.1; omega)
  generalize bucketZ e.p.key (D.length : Int) = q at *
  obtain ⟨k, rfl⟩ : ∃ k : Nat, q = k := ⟨q.toNat, by omega⟩
  have hk : k < D.length := by omega
  have hget : st.sh[k]? = some (D[k]).p := by rw [h1, List.getElem?_map, List.getElem?_eq_getElem hk]; rfl
  rw [Int.toNat_natCast, hget] at hR
  obtain ⟨o1, o2, o3⟩ := ok_at ho h1 k hk
  obtain ⟨hs1, hs2⟩ := h2.shard k hk
  have hsl : (D[k]).p.recs.length = (D[k]).L.length := by simp [Sd.p]
  have hsf : (D[k]).p.first = (D[k]).first := rfl
  simp only [hsl, hsf] at hR
  have hRow := h2.recs _ (List.getElem_mem hk)
  have hD8 : (D.length : Int) ≤ 8 := by have := ho.2.1; omega
  have hk0 : 0 ≤ (k : Int) := by omega
  have hmem : D[k] ∈ D := List.getElem_mem hk
  have HN := Lib.hid (fun (w' : World) (now' : Int) (hx : StmAt w' b g c D st.keep now' f) => snext_any hx k hk o1 (by omega))
  have HSH := Lib.hid (fun (w' : World) (now' : Int) (hx : StmAt w' b g c D st.keep now' f) => hx.shard k hk)
  unfold Sd.v at hs2 HSH
  have HK := Lib.hid hk
  generalize hdd : D[k] = d at *
  have HDD := Lib.hid hdd
  have HM := Lib.hid hmem
  clear hdd hk hget hsl hsf hs1 hs2 hmem
  by_cases h6 : d.L.length = 256
  · rw [if_pos h6] at hR
    have h6' : ((d.L.length : Int) == 256) = true := by rw [h6]; rfl
    have HR := Lib.hid hR
    clear ho hR hRow h6
    go_enter Tryd.func11, Tryd.ntmps11
    go_wp2_with fail
    rw [← HW1.out]
    go_wp2_with fail
    refine AM.out.mono ?_; rintro e1 w1 ⟨rfl, rfl⟩
    go_wp2_with fail
    refine AE.out.mono ?_; rintro e2 w2 ⟨rfl, hc2⟩
    have K2 := Lib.hid hc2
    have C2 := Lib.hid (C1.out.thenSame hc2)
    have X2 := Lib.hid (hc2.at (by simp) X1.out)
    have H2 := Lib.hid (h2.kept C2.out (by simp))
    have y2 := blk_cell H2.out.head
    have f2 := blk_free H2.out.head
    have m2 := lt_of_heap H2.out.head
    obtain ⟨z20, z21, z22, z23, z24, z25, z26⟩ := cells7 X2.out
    have z2m := lt_of_heap X2.out
    clear hc2 x10 x11 x12 x13 x14 x15 x16
    obtain ⟨s1, s2⟩ := HSH.out _ _ H2.out
    go_wp2_with fail
    refine (AS.out _ K2.out).mono ?_; rintro e3 w3 ⟨rfl, rfl⟩
    go_wp2_with fail
    go_ret3
    rw [HR.out]
    exact ⟨rfl, Turned.same H.out C2.out⟩
  rw [if_neg h6] at hR
  have h6' : ((d.L.length : Int) == 256) = false := beq_eq_false_iff_ne.2 (by omega)
  have HR := Lib.hid hR
  have HRW := Lib.hid hRow
  clear hR hRow
  go_enter Tryd.func11, Tryd.ntmps11
  go_wp2_with fail
  rw [← HW1.out]
  go_wp2_with fail
  refine AM.out.mono ?_; rintro e1 w1 ⟨rfl, rfl⟩
  go_wp2_with fail
  refine AE.out.mono ?_; rintro e2 w2 ⟨rfl, hc2⟩
  have K2 := Lib.hid hc2
  have C2 := Lib.hid (C1.out.thenSame hc2)
  have X2 := Lib.hid (hc2.at (by simp) X1.out)
  have H2 := Lib.hid (h2.kept C2.out (by simp))
  have y2 := blk_cell H2.out.head
  have f2 := blk_free H2.out.head
  have m2 := lt_of_heap H2.out.head
  obtain ⟨z20, z21, z22, z23, z24, z25, z26⟩ := cells7 X2.out
  have z2m := lt_of_heap X2.out
  clear hc2 x10 x11 x12 x13 x14 x15 x16
  obtain ⟨s1, s2⟩ := HSH.out _ _ H2.out
  have H3 := Lib.hid (H2.out.setHead 1 (.int .i64 now) st.keep now rfl)
  obtain ⟨q21, q22⟩ := HSH.out _ _ H3.out
  have AN := Lib.hid (HN.out _ _ H3.out)
  go_wp2_with fail
  refine (AS.out _ K2.out).mono ?_; rintro e3 w3 ⟨rfl, rfl⟩
  go_wp2_with fail
  refine AN.out.mono ?_; rintro e4 w4 ⟨rfl, hc4⟩
  have K4 := Lib.hid hc4
  clear hc4
  go_upto_region 16 with fail
  have hbw := h2.lt b h2.inb
  have H4 := Lib.hid (H3.out.kept K4.out (by simp))
  have K5 := Lib.hid (((C2.out.mono (T := [b]) (by simp)).setCell ⟨b, 1, none⟩ (.int .i64 now) (by simp)).then K4.out (by simp))
  obtain ⟨cur, hcur⟩ := H4.out.rowAt
  refine app_r16 (k := k) (g := g) (b4 := w.heap.size) (e := e) (L := d.L) (a := d.a) (c := d.c) (cur := cur) (by kernel_rfl) (Lib.hid (K4.out.at (by simp) ((blk_set_ne 1 _ (by omega)).trans X2.out))) (Lib.hid hcur) ((blk_cell hcur _).symm.trans (HSH.out _ _ H4.out).2) (Lib.hid (H4.out.recs d HM.out)) (Lib.hid (HI.out.keptAt K5.out (fun x hx hl hm => by simp at hm; exact hdis x hx hl (by rw [hm]; exact h2.inb)))) hbl o3 _ (fun y55 y56 y57 y58 y59 y60 y61 y62 y63 y64 y65 y66 y67 y68 y69 wy a' c' a3 c3 hA => ?_)
  obtain ⟨f', hP1, hP2⟩ := H4.out.appended HK.out HDD.out hA.out
  have P1 := Lib.hid hP1
  have P2 := Lib.hid hP2
  clear hP1 hP2
  go_wp2_with fail
  go_ret3
  rw [HR.out]
  refine ⟨rfl, f', ⟨g, c, _, ?_, P1.out⟩, ?_, fun x hx => ?_⟩
  · rw [List.map_set, h1]
    simp [Sd.p, Rc.p]
  · refine ((K5.out.mono (fun x hx _ => by simp at hx; subst hx; exact h2.inb)).then hA.out.chg (fun x hx _ => h2.inr d HM.out x (Option.mem_toList.1 hx))).setCell _ _ (fun _ => h2.ing)
  · rcases P2.out x hx with h | h
    · exact .inl h
    · exact .inr (Nat.le_trans K5.out.size h)
end Go.Proofs.YtmichbpfmachcaaDoor
