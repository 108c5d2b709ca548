/- Chapter 50: the search's state; contracts: done, the pieces of try. Condition: the table of Itoa lies as the program lays it. -/
import Derived.Test.YtnhemokmgpelaaaGreatDoorLinF
namespace Go.Proofs.YtnhemokmgpelaaaGreatDoor
set_option linter.unusedVariables false
set_option linter.unusedSimpArgs false
open Go.RowKit
def bC (b : Bool) : List Value := [.bool b]
theorem bC_len (x : Bool) : (bC x).length = 1 := rfl
theorem bC_one (x : Bool) : ∀ u ∈ bC x, u.oneCell' = true := by intro u hu; simp [bC] at hu; subst hu; rfl
def ob (a : Option Addr) : Option Nat := a.map (·.block)
theorem ob_eq (a : Option Addr) (n c : Nat) : (Value.slice a n c).ownBlock = ob a := by cases a <;> rfl
/-- The search at block sb: its calls, what is placed, its order. -/
structure SeAt (w : World) (sb : Nat) (lv : Value) (pg : Nat) (pl : List Bool) (oa : Option Addr) (oc : Nat) (od : List Int) : Prop where
  blk : w.heap[sb]? = some (.cells #[lv, .slice (some ⟨pg, 0, none⟩) pl.length pl.length, .slice oa od.length oc] 55 (0, 0))
  plc : RowOf bC 1 w 0 4 (.slice (some ⟨pg, 0, none⟩) pl.length pl.length) pl
  ord : RowOf icI 1 w 0 3 (.slice oa od.length oc) od
  ne : sb ≠ pg
  ne1 : ob oa ≠ some sb
  ne2 : ob oa ≠ some pg
variable {w w' : World} {sb pg : Nat} {lv : Value} {pl : List Bool} {oa : Option Addr} {oc : Nat} {od : List Int} {S : List Nat}
def seF (sb pg : Nat) (oa : Option Addr) : List Nat := sb :: pg :: (ob oa).toList
theorem SeAt.kept (h : SeAt w sb lv pg pl oa oc od) (hc : Chg S w w') (h1 : sb ∉ S) (h2 : pg ∉ S) (h3 : ∀ x, ob oa = some x → x ∉ S) : SeAt w' sb lv pg pl oa oc od where
  blk := hc.at h1 h.blk
  plc := h.plc.kept hc (fun y hy => by cases hy; exact h2)
  ord := h.ord.kept hc (fun y hy => h3 y (by rw [ob_eq] at hy; exact hy))
  ne := h.ne
  ne1 := h.ne1
  ne2 := h.ne2
theorem SeAt.keptN (h : SeAt w sb lv pg pl oa oc od) (hc : Chg [] w w') : SeAt w' sb lv pg pl oa oc od := h.kept hc (by simp) (by simp) (by simp)
theorem SeAt.lt (h : SeAt w sb lv pg pl oa oc od) : ∀ x ∈ seF sb pg oa, x < w.heap.size := by
  intro x hx
  simp only [seF, List.mem_cons] at hx
  rcases hx with rfl | rfl | hx
  · exact lt_of_heap h.blk
  · exact (h.plc.block _ rfl).2
  · exact (h.ord.block x (by rw [ob_eq]; simpa using hx)).2
theorem doneB_stop {l : List PCl} {pl : List Bool} (hl : pl.length = l.length) {k : Nat} (hk : k = l.length) (h : doneTo l pl k = true) : doneB l pl = true := by unfold doneB; rw [← hk]; exact h
set_option maxHeartbeats 4000000 in
set_option maxRecDepth 100000 in
theorem done_any {la : Option Addr} {lc : Nat} {l : List Cl} (h : SeAt w sb (.slice la l.length lc) pg pl oa oc od) (hl : LIn w la lc l) (hpl : pl.length = l.length) (h8 : l.length ≤ 8) :
    Calls Tryz.prog 40 #[.pointer (some ⟨sb, 0, none⟩)] w fun e w' => e = .returned (.bool (doneB (l.map Cl.p) pl)) ∧ Chg [] w w' := by
  obtain ⟨R, hR⟩ : ∃ R, R = doneB (l.map Cl.p) pl := ⟨_, rfl⟩
  rw [← hR]
  have HR := Lib.hid hR
  have SE := Lib.hid h
  have HL := Lib.hid hl
  have HP := Lib.hid hpl
  have hsb := lt_of_heap h.blk
  have k0 := blk_cell h.blk
  have h8' : (l.length : Int) ≤ 8 := by omega
  clear h hl hR hpl
  go_enter Tryz.func40, Tryz.ntmps40
  go_wp2_with fail
  go_loopw [10] (fun i wr => ∃ k : Nat, i = .int .i64 k ∧ k ≤ l.length ∧ Hid (doneTo (l.map Cl.p) pl k = true) ∧ Hid (Chg [] w wr)) (fun i _ => l.length - (intOf i).toNat)
  case atStart => exact ⟨0, rfl, Nat.zero_le _, Lib.hid rfl, Lib.hid (Chg.refl _ _)⟩
  case round =>
    obtain ⟨k, rfl, hkl, HS, D⟩ := hrel
    have hk0 : (0 : Int) ≤ (k : Int) := by omega
    by_cases hk : k < l.length
    · obtain ⟨b, off, rfl, -, hcc⟩ := HL.out.at8 (w' := w) k hk
      have hkp : k < pl.length := by have := HP.out; omega
      have hst := doneTo_step (l := l.map Cl.p) (pl := pl) (k := k) (by rw [List.length_map]; exact hk) hkp
      have hno := doneB_no (l := l.map Cl.p) (pl := pl) (k := k) (by rw [List.length_map]; exact hk) hkp
      rw [HS.out, Bool.true_and] at hst
      simp only [List.getElem_map] at hst hno
      obtain ⟨-, -, -, p4, -⟩ := RowOf.atS SE.out.plc bC_len
      have p5 := p4 k hkp 0 (by omega)
      obtain ⟨d0, d1, d2, d3, d4, d5, d6, d7⟩ := hcc _ D.out
      have AO := fun w' => lopen_any l[k] w'
      obtain ⟨W1, hW1⟩ : ∃ W1, W1 = wr.alloc (clO l[k]) := ⟨_, rfl⟩
      have C1 := Lib.hid (show Chg [] w W1 by rw [hW1]; exact D.out.alloc _)
      have B1 := Lib.hid (show W1.heap[wr.heap.size]? = some (clO l[k]) by rw [hW1]; exact heap_alloc_new _ _)
      generalize l[k] = x at *
      generalize pl[k] = bp at *
      simp only [bC, List.getElem?_cons_zero, Nat.add_zero, Nat.mul_one] at p5
      have HP5 := Lib.hid (fun w' (hc : Chg [] w w') => And.intro ((World.cell?_of_block (w := w) (hc.block pg ((SE.out.plc.block _ rfl).2) (by simp))).trans p5) (blk_cell (hc.at (by simp) SE.out.blk)))
      unfold clO at hW1
      have HW1 := Lib.hid hW1
      have k1 := blk_cell (show W1.heap[wr.heap.size]? = some (.cells _ _ (0, 0)) from B1.out)
      generalize openB x.p = q at *
      unfold clC at AO
      have AO := Lib.hid AO
      rename_i AO0
      have hk1 : (k : Int) < (l.length : Int) := by omega
      have hk2 : (k : Int) < (pl.length : Int) := by omega
      clear AO0 hcc p4 p5 hW1
      go_upto_region 4 with fail
      rw [← HW1.out]
      clear d0 d1 d2 d3 d4 d5 d6 d7
      cases q
      · cases bp
        · have HE := Lib.hid (show R = false from HR.out.trans (hno rfl))
          clear hst hno
          go_wp2_with (go_at_call 26; (with_reducible refine Calls.mono (AO.out _) ?_); rintro e w3 ⟨rfl, hc⟩; have D3 := Lib.hid (C1.out.thenSame hc); have p6 := (HP5.out _ D3.out).1; have k6 := (HP5.out _ D3.out).2; clear hc)
          go_ret
          exact ⟨retB HE.out.symm, D3.out⟩
        · have HST := Lib.hid hst
          clear hst hno
          go_wp2_with (go_at_call 26; (with_reducible refine Calls.mono (AO.out _) ?_); rintro e w3 ⟨rfl, hc⟩; have D3 := Lib.hid (C1.out.thenSame hc); have p6 := (HP5.out _ D3.out).1; have k6 := (HP5.out _ D3.out).2; clear hc)
          exact ⟨⟨k + 1, by go_num, by omega, HST, D3⟩, by simp [intOf]; omega⟩
      · have HST := Lib.hid hst
        clear hst hno
        go_wp2_with (go_at_call 26; (with_reducible refine Calls.mono (AO.out _) ?_); rintro e w3 ⟨rfl, hc⟩; have D3 := Lib.hid (C1.out.thenSame hc); clear hc)
        exact ⟨⟨k + 1, by go_num, by omega, HST, D3⟩, by simp [intOf]; omega⟩
    · have hks : k = l.length := by omega
      have HE := Lib.hid (show R = true from HR.out.trans (doneB_stop (by rw [List.length_map]; exact HP.out) (by rw [List.length_map]; exact hks) HS.out))
      clear hks
      go_wp2_with fail
      go_ret
      exact ⟨retB HE.out.symm, D.out⟩
end Go.Proofs.YtnhemokmgpelaaaGreatDoor
