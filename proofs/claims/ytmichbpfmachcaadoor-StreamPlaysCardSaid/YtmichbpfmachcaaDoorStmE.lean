/- Chapter 30: contracts: next, First, Next, the copies. No condition. -/
import Derived.Lib.SliceRun
import Derived.Test.YtmichbpfmachcaaDoorStmD
namespace Go.Proofs.YtmichbpfmachcaaDoor
set_option linter.unusedVariables false
set_option linter.unusedSimpArgs false
open Go.RowKit
variable {w w' : World} {b g c n : Nat} {D : List Sd} {keep now : Int} {f S : List Nat} {st : Stm}
/-- A shard's two cells. -/
theorem StmAt.shard (h : StmAt w b g c D keep now f) (k : Nat) (hk : k < D.length) : w.cell? ⟨g, k * 2, none⟩ = some (.int .i64 (D[k]).first) ∧ w.cell? ⟨g, k * 2 + 1, none⟩ = some (D[k]).v := by
  obtain ⟨-, -, -, q4, -⟩ := RowOf.atS h.row sdC_len
  have := q4 k hk
  exact ⟨by simpa [sdC] using this 0 (by omega), by simpa [sdC, Sd.v] using this 1 (by omega)⟩
theorem StmIs.get (h : StmIs w b st f) (k : Nat) : st.sh[k]? = none ∨ ∃ d, st.sh[k]? = some d := by
  cases st.sh[k]? with
  | none => exact .inl rfl
  | some d => exact .inr ⟨d, rfl⟩
theorem snext_any (h : StmAt w b g c D keep now f) (k : Nat) (hk : k < D.length) (h0 : 0 ≤ (D[k]).first) (h1 : (D[k]).first + ((D[k]).L.length : Int) ≤ 1099511627776) : Calls Tryd.prog 27 #[.pointer (some ⟨g, k * 2, none⟩)] w fun e w' => e = .returned (.int .i64 ((D[k]).first + ((D[k]).L.length : Int))) ∧ Chg [] w w' := by
  obtain ⟨c1, c2⟩ := h.shard k hk
  unfold Sd.v at c2
  clear h
  generalize (D[k]) = d at *
  obtain ⟨fi, a, cc, L⟩ := d
  simp only at *
  have hL : 0 ≤ (L.length : Int) := by omega
  generalize L.length = m at *
  go_enter Tryd.func27, Tryd.ntmps27
  go_wp2_with fail
  go_quiet (fail)
  go_wp2_with fail
  go_ret
  exact ⟨rfl, (Chg.refl _ _).drewN _⟩
def firstZ (st : Stm) (k : Int) : Int × Int := if k < 0 then (0, 2) else match st.sh[k.toNat]? with | none => (0, 2) | some d => (d.first, 0)
def nextZ (st : Stm) (k : Int) : Int × Int := if k < 0 then (0, 2) else match st.sh[k.toNat]? with | none => (0, 2) | some d => (d.first + (d.recs.length : Int), 0)
theorem at_bad (k : Int) (h : k < 0 ∨ (st.sh.length : Int) ≤ k) : firstZ st k = (0, 2) ∧ nextZ st k = (0, 2) := by
  unfold firstZ nextZ
  by_cases h0 : k < 0
  · simp [h0]
  · have : st.sh[k.toNat]? = none := List.getElem?_eq_none (by omega)
    simp [h0, this]
theorem at_good (h : st.sh = D.map Sd.p) (k : Nat) (hk : k < D.length) : firstZ st k = ((D[k]).first, 0) ∧ nextZ st k = ((D[k]).first + ((D[k]).L.length : Int), 0) := by
  have : st.sh[k]? = some (D[k]).p := by rw [h, List.getElem?_map, List.getElem?_eq_getElem hk]; rfl
  unfold firstZ nextZ
  simp [this, Sd.p]
theorem ok_at (ho : st.ok n) (h : st.sh = D.map Sd.p) (k : Nat) (hk : k < D.length) : 0 ≤ (D[k]).first ∧ (D[k]).first + ((D[k]).L.length : Int) ≤ n ∧ (D[k]).L.length ≤ 256 := by
  obtain ⟨-, -, -, -, -, -, h7⟩ := ho
  have := h7 (D[k]).p (by rw [h]; exact List.mem_map.2 ⟨_, List.getElem_mem hk, rfl⟩)
  refine ⟨this.1, ?_, ?_⟩
  · simpa [Sd.p] using this.2.1
  · simpa [Sd.p] using this.2.2.1
theorem stm_first (k : Int) (h : StmIs w b st f) (ho : st.ok n) : Calls Tryd.prog 21 #[.pointer (some ⟨b, 0, none⟩), .int .i64 k] w fun e w' => e = .returned (.tuple #[.int .i64 (firstZ st k).1, .int .i64 (firstZ st k).2]) ∧ w = w' := by
  by_cases hk : k < 0 ∨ (st.sh.length : Int) ≤ k
  · have A := Lib.hid (stm_find_bad k h ho hk)
    rw [(at_bad k hk).1]
    clear h ho hk
    go_enter Tryd.func21, Tryd.ntmps21
    go_wp2_with fail
    refine A.out.mono ?_; rintro e w1 ⟨rfl, rfl⟩
    go_wp2_with fail
    go_ret2
    exact ⟨rfl, rfl⟩
  · have M := stm_made h ho
    obtain ⟨g, c, D, h1, h2⟩ := h
    have hD : st.sh.length = D.length := by rw [h1, List.length_map]
    obtain ⟨m, rfl⟩ : ∃ m : Nat, k = m := ⟨k.toNat, by omega⟩
    have hm : m < D.length := by omega
    have A := Lib.hid (stm_find m h2 (by omega) hm M)
    obtain ⟨c1, c2⟩ := h2.shard m hm
    rw [(at_good h1 m hm).1]
    clear h1 h2 ho hk M hD c2
    generalize (D[m]).first = z at *
    go_enter Tryd.func21, Tryd.ntmps21
    go_wp2_with fail
    refine A.out.mono ?_; rintro e w1 ⟨rfl, rfl⟩
    go_wp2_with fail
    go_ret2
    exact ⟨rfl, rfl⟩
theorem stm_next (k : Int) (h : StmIs w b st f) (ho : st.ok n) (hn : n ≤ 1048576) : Calls Tryd.prog 22 #[.pointer (some ⟨b, 0, none⟩), .int .i64 k] w fun e w' => e = .returned (.tuple #[.int .i64 (nextZ st k).1, .int .i64 (nextZ st k).2]) ∧ Chg [] w w' := by
  by_cases hk : k < 0 ∨ (st.sh.length : Int) ≤ k
  · have A := Lib.hid (stm_find_bad k h ho hk)
    rw [(at_bad k hk).2]
    clear h ho hk
    go_enter Tryd.func22, Tryd.ntmps22
    go_wp2_with fail
    refine A.out.mono ?_; rintro e w1 ⟨rfl, rfl⟩
    go_wp2_with fail
    go_ret2
    exact ⟨rfl, Chg.refl _ _⟩
  · have M := stm_made h ho
    obtain ⟨g, c, D, h1, h2⟩ := h
    have hD : st.sh.length = D.length := by rw [h1, List.length_map]
    obtain ⟨m, rfl⟩ : ∃ m : Nat, k = m := ⟨k.toNat, by omega⟩
    have hm : m < D.length := by omega
    obtain ⟨o1, o2, o3⟩ := ok_at ho h1 m hm
    have A := Lib.hid (stm_find m h2 (by omega) hm M)
    have A2 := Lib.hid (snext_any h2 m hm o1 (by omega))
    rw [(at_good h1 m hm).2]
    clear h1 h2 ho hk M hD o1 o2 o3
    generalize (D[m]).first + ((D[m]).L.length : Int) = z at *
    go_enter Tryd.func22, Tryd.ntmps22
    go_wp2_with fail
    refine A.out.mono ?_; rintro e w1 ⟨rfl, rfl⟩
    go_wp2_with fail
    refine A2.out.mono ?_; rintro e w1 ⟨rfl, hc⟩
    have C := Lib.hid hc
    clear hc
    go_wp2_with fail
    go_ret2
    exact ⟨rfl, C.out⟩
theorem cellInfo : (Tryd.prog.info? 66).map (fun i => (i.zero, i.size, i.bytes)) = some (some (.agg #[.int .i64 0, .int .i64 0, .string ⟨#[]⟩, .int .i64 0]), 4, 40) := by kernel_rfl
theorem recInfo : (Tryd.prog.info? 55).map (fun i => (i.zero, i.size, i.bytes)) = some (some (.agg #[.int .i64 0, .int .i64 0, .int .i64 0, .string ⟨#[]⟩, .string ⟨#[]⟩, .string ⟨#[]⟩, .string ⟨#[]⟩, .int .i64 0, .string ⟨#[]⟩, .slice none 0 0]), 10, 136) := by kernel_rfl
set_option maxHeartbeats 4000000 in
set_option maxRecDepth 100000 in
theorem clonec_any (a : Option Addr) (c : Nat) (l : List Ce) (w : World) (h : InIs ceC 4 w a c l) (hl : l.length ≤ 1048576) :
    Calls Tryd.prog 42 #[.slice a l.length c] w fun e w' => ∃ a' c', e = .returned (.slice a' l.length c') ∧ RowOf ceC 4 w' w.heap.size 66 (.slice a' l.length c') l ∧ Chg [] w w' := by
  have qn : ∀ (w : World) (a : Option Addr) (n c n' c' : Nat), (binOp .eql 23 (.slice a n c) (.slice none n' c')).run Tryd.prog w = .ok (.bool a.isNone) w := fun w a n c n' c' => Lib.run_eql_slice_nil w _ _ a n c n' c' Tryd.underlying23
  cases a with
  | none =>
    obtain ⟨e1, e2⟩ := SlIs.none h.1
    subst e2
    clear h
    go_enter Tryd.func42, Tryd.ntmps42
    go_wp2_with fail
    go_ret
    exact ⟨none, 0, rfl, RowOf.nil _ _ _, Chg.refl _ _⟩
  | some ad =>
    have H := Lib.hid h
    clear h
    go_enter Tryd.func42, Tryd.ntmps42
    go_wp2_with (at_builtin; go_loud (refine wpl_appendsI rfl _ _ 23 rfl w.heap.size 66 _ 40 Tryd.underlying23 cellInfo rfl (by decide) ceC_len ceC_one (.slice (some ⟨w.heap.size, 0, none⟩) 0 0) [] rfl (RowOf.empty (g := w.heap.size) (Nat.le_refl _) (heap_alloc_new _ _) rfl) (some ad) c l rfl (H.out.kept ((Chg.refl _ _).alloc _)) (by unfold maxLen; simp; omega) (by simp; omega) (by simp) ?_; intro v1 w1 hr1 hc1; have R1 := Lib.hid hr1; have K1 := Lib.hid (Chg.then ((Chg.refl [] w).alloc (.cells #[] 66)) hc1 (by intro y hy hl; simp [Value.ownBlock] at hy; omega)); clear hr1 hc1))
    obtain ⟨a', c', rfl⟩ := RowOf.shape R1.out
    go_ret
    exact ⟨a', c', rfl, R1.out, K1.out⟩
set_option maxHeartbeats 4000000 in
set_option maxRecDepth 100000 in
theorem cloner_any (a : Option Addr) (c : Nat) (l : List Rc) (w : World) (h : InIs rcC 10 w a c l) (hl : l.length ≤ 1048576) :
    Calls Tryd.prog 30 #[.slice a l.length c] w fun e w' => ∃ a' c', e = .returned (.slice a' l.length c') ∧ RowOf rcC 10 w' w.heap.size 55 (.slice a' l.length c') l ∧ Chg [] w w' := by
  have qn : ∀ (w : World) (a : Option Addr) (n c n' c' : Nat), (binOp .eql 36 (.slice a n c) (.slice none n' c')).run Tryd.prog w = .ok (.bool a.isNone) w := fun w a n c n' c' => Lib.run_eql_slice_nil w _ _ a n c n' c' Tryd.underlying36
  cases a with
  | none =>
    obtain ⟨e1, e2⟩ := SlIs.none h.1
    subst e2
    clear h
    go_enter Tryd.func30, Tryd.ntmps30
    go_wp2_with fail
    go_ret
    exact ⟨none, 0, rfl, RowOf.nil _ _ _, Chg.refl _ _⟩
  | some ad =>
    have H := Lib.hid h
    clear h
    go_enter Tryd.func30, Tryd.ntmps30
    go_wp2_with (at_builtin; go_loud (refine wpl_appendsI rfl _ _ 36 rfl w.heap.size 55 _ 136 Tryd.underlying36 recInfo rfl (by decide) rcC_len rcC_one (.slice (some ⟨w.heap.size, 0, none⟩) 0 0) [] rfl (RowOf.empty (g := w.heap.size) (Nat.le_refl _) (heap_alloc_new _ _) rfl) (some ad) c l rfl (H.out.kept ((Chg.refl _ _).alloc _)) (by unfold maxLen; simp; omega) (by simp; omega) (by simp) ?_; intro v1 w1 hr1 hc1; have R1 := Lib.hid hr1; have K1 := Lib.hid (Chg.then ((Chg.refl [] w).alloc (.cells #[] 55)) hc1 (by intro y hy hl; simp [Value.ownBlock] at hy; omega)); clear hr1 hc1))
    obtain ⟨a', c', rfl⟩ := RowOf.shape R1.out
    go_ret
    exact ⟨a', c', rfl, R1.out, K1.out⟩
def evO (e : Ev) : Obj := .cells #[.string e.p.id, .string e.p.tn, .string e.p.src, .string e.p.key, .int .i64 e.p.at_, .string e.p.cause, .slice e.ba e.p.body.length e.bc] 25
theorem eventInfo : (Tryd.prog.info? 25).map (fun i => (i.zero, i.size, i.bytes)) = some (some (.agg #[.string ⟨#[]⟩, .string ⟨#[]⟩, .string ⟨#[]⟩, .string ⟨#[]⟩, .int .i64 0, .string ⟨#[]⟩, .slice none 0 0]), 7, 112) := by kernel_rfl
set_option maxHeartbeats 4000000 in
set_option maxRecDepth 100000 in
theorem sclone_any (e : Ev) (w : World) (h : InIs ceC 4 w e.ba e.bc e.p.body) (hl : e.p.body.length ≤ 1048576) :
    Calls Tryd.prog 28 #[.agg (evC e).toArray] w fun x w' => ∃ a' c', x = .returned (.agg (evC ⟨e.p, a', c'⟩).toArray) ∧ RowOf ceC 4 w' w.heap.size 66 (.slice a' e.p.body.length c') e.p.body ∧ Chg [] w w' := by
  obtain ⟨⟨id, tn, src, key, at_, cause, body⟩, ba, bc⟩ := e
  simp only [evC] at *
  obtain ⟨W1, hW1⟩ : ∃ W1, W1 = (w.alloc (evO ⟨⟨id, tn, src, key, at_, cause, body⟩, ba, bc⟩)).alloc (.cells #[.string ⟨#[]⟩, .string ⟨#[]⟩, .string ⟨#[]⟩, .string ⟨#[]⟩, .int .i64 0, .string ⟨#[]⟩, .slice none 0 0] 25) := ⟨_, rfl⟩
  have C1 := Lib.hid (show Chg [] w W1 by rw [hW1]; exact ((Chg.refl _ _).alloc _).alloc _)
  have X1 := Lib.hid (show W1.heap[w.heap.size]? = some (evO ⟨⟨id, tn, src, key, at_, cause, body⟩, ba, bc⟩) by rw [hW1]; exact blk_alloc (heap_alloc_new _ _))
  have X2 := Lib.hid (show W1.heap[w.heap.size + 1]? = some (.cells #[.string ⟨#[]⟩, .string ⟨#[]⟩, .string ⟨#[]⟩, .string ⟨#[]⟩, .int .i64 0, .string ⟨#[]⟩, .slice none 0 0] 25 (0, 0)) by rw [hW1]; have := heap_alloc_new (w.alloc (evO ⟨⟨id, tn, src, key, at_, cause, body⟩, ba, bc⟩)) (.cells #[.string ⟨#[]⟩, .string ⟨#[]⟩, .string ⟨#[]⟩, .string ⟨#[]⟩, .int .i64 0, .string ⟨#[]⟩, .slice none 0 0] 25); rw [World.size_alloc] at this; exact this)
  have A := Lib.hid (clonec_any ba bc body W1 (h.kept C1.out) hl)
  unfold evO at hW1 X1
  have x1 := blk_cell X1.out
  have s1 : w.heap.size ≤ W1.heap.size := C1.out.size
  have HW1 := Lib.hid hW1
  clear h hW1
  go_enter Tryd.func28, Tryd.ntmps28
  go_wp2_with fail
  rw [← HW1.out]
  go_wp2_with fail
  refine A.out.mono ?_; rintro e w2 ⟨a', c', rfl, hr, hc⟩
  have R2 := Lib.hid hr
  have C2 := Lib.hid hc
  have Y1 := Lib.hid (hc.at (by simp) X1.out)
  have Y2 := Lib.hid (hc.at (by simp) X2.out)
  have y1 := blk_cell Y1.out
  have y2 := blk_cell Y2.out
  have f1 := blk_free Y1.out
  have f2 := blk_free Y2.out
  have m1 := lt_of_heap Y1.out
  have m2 := lt_of_heap Y2.out
  clear hr hc x1
  go_wp2_with fail
  have r1 := blk_cell (show ((((((((w2.setCell ⟨w.heap.size, 6, none⟩ (.slice a' body.length c')).setCell ⟨w.heap.size + 1, 0, none⟩ (.string id)).setCell ⟨w.heap.size + 1, 1, none⟩ (.string tn)).setCell ⟨w.heap.size + 1, 2, none⟩ (.string src)).setCell ⟨w.heap.size + 1, 3, none⟩ (.string key)).setCell ⟨w.heap.size + 1, 4, none⟩ (.int .i64 at_)).setCell ⟨w.heap.size + 1, 5, none⟩ (.string cause)).setCell ⟨w.heap.size + 1, 6, none⟩ (.slice a' body.length c')).heap[w.heap.size + 1]? = some (.cells #[.string id, .string tn, .string src, .string key, .int .i64 at_, .string cause, .slice a' body.length c'] 25 (0, 0)) from (blk_set ((blk_set ((blk_set ((blk_set ((blk_set ((blk_set ((blk_set ((blk_set_ne 6 _ (by omega)).trans Y2.out) 0 _)) 1 _)) 2 _)) 3 _)) 4 _)) 5 _)) 6 _))
  have D1 : Chg [w.heap.size, w.heap.size + 1] w2 ((((((((w2.setCell ⟨w.heap.size, 6, none⟩ (.slice a' body.length c')).setCell ⟨w.heap.size + 1, 0, none⟩ (.string id)).setCell ⟨w.heap.size + 1, 1, none⟩ (.string tn)).setCell ⟨w.heap.size + 1, 2, none⟩ (.string src)).setCell ⟨w.heap.size + 1, 3, none⟩ (.string key)).setCell ⟨w.heap.size + 1, 4, none⟩ (.int .i64 at_)).setCell ⟨w.heap.size + 1, 5, none⟩ (.string cause)).setCell ⟨w.heap.size + 1, 6, none⟩ (.slice a' body.length c')) := ((((((((Chg.refl _ _).setCell _ _ (by simp)).setCell _ _ (by simp)).setCell _ _ (by simp)).setCell _ _ (by simp)).setCell _ _ (by simp)).setCell _ _ (by simp)).setCell _ _ (by simp)).setCell _ _ (by simp)
  exact bodyPost_ret (v := .agg #[.string id, .string tn, .string src, .string key, .int .i64 at_, .string cause, .slice a' body.length c']) (by simp [results, Tryd.results28, go_sem, r1]) rfl ⟨a', c', rfl, (R2.out.mono s1).kept D1 (fun y hy => by
    have h1 := (R2.out.block y hy).1
    have h2 : W1.heap.size = w.heap.size + 2 := by rw [HW1.out, World.size_alloc, World.size_alloc]
    simp; omega), (C1.out.thenSame C2.out).then D1 (fun y hy hlt => by simp at hy; omega)⟩
end Go.Proofs.YtmichbpfmachcaaDoor
