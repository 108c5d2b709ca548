/- Chapter 50: contract: try, if find serves. Condition: the table of Itoa lies as the program lays it. -/
import Derived.Deep.DeepCutAuto
import Derived.Test.YtnhemokmgpelaaaGreatDoorLinG
import Derived.Test.YtnhemokmgpelaaaGreatDoorAppL
namespace Go.Proofs.YtnhemokmgpelaaaGreatDoor
set_option linter.unusedVariables false
set_option linter.unusedSimpArgs false
open Go.RowKit
variable {w w' : World} {sb pg : Nat} {lv : Value} {pl : List Bool} {oa : Option Addr} {oc : Nat} {od : List Int} {S : List Nat}
/-- What find and try leave. -/
def FP (w : World) (sb : Nat) (lv : Value) (pg : Nat) (pl : List Bool) (oa : Option Addr) (od : List Int) (r : Option (List Int)) (e : Ending) (w' : World) : Prop :=
  ∃ pl' oa' oc' od', e = .returned (.bool r.isSome) ∧ SeAt w' sb lv pg pl' oa' oc' od' ∧ (r = none → pl' = pl ∧ od' = od) ∧ (∀ x, r = some x → od' = x) ∧ Chg (seF sb pg oa) w w' ∧ (∀ x, ob oa' = some x → ob oa = some x ∨ w.heap.size ≤ x)
/-- What find asks. -/
structure FH (W w : World) (sb : Nat) (la : Option Addr) (lc : Nat) (l : List Cl) (pg : Nat) (pl : List Bool) (oa : Option Addr) (oc : Nat) (od : List Int) (sa : Option Addr) (sc : Nat) (st : List Ce) : Prop where
  se : SeAt w sb (.slice la l.length lc) pg pl oa oc od
  base : Chg [] W w
  far : ∀ x ∈ seF sb pg oa, W.heap.size ≤ x
  cls : LIn W la lc l
  good : ∀ x ∈ l, goodCl x
  tab : TabW W
  len : l.length ≤ 8
  plen : pl.length = l.length
  room : od.length + pl.count false ≤ 8
  stin : InIs ceC 4 w sa sc st
  stg : goodL st
  apart : ∀ x, sa = some x → x.block ∉ seF sb pg oa ∧ x.block < w.heap.size
def FindC (n : Nat) : Prop := ∀ (W w : World) (sb : Nat) (la : Option Addr) (lc : Nat) (l : List Cl) (pg : Nat) (pl : List Bool) (oa : Option Addr) (oc : Nat) (od : List Int) (sa : Option Addr) (sc : Nat) (st : List Ce), FH W w sb la lc l pg pl oa oc od sa sc st → pl.count false ≤ n →
  Calls Tryz.prog 21 #[.pointer (some ⟨sb, 0, none⟩), .slice sa st.length sc] w (FP w sb (.slice la l.length lc) pg pl oa od (findF (l.map Cl.p) n st pl od))
/-- A cell of what is placed is put. -/
theorem SeAt.place (h : SeAt w sb lv pg pl oa oc od) (k : Nat) (hk : k < pl.length) (b : Bool) : SeAt (w.setCell ⟨pg, k, none⟩ (.bool b)) sb lv pg (pl.set k b) oa oc od ∧ Chg [pg] w (w.setCell ⟨pg, k, none⟩ (.bool b)) := by
  have hc : Chg [pg] w (w.setCell ⟨pg, k, none⟩ (.bool b)) := (Chg.refl _ _).setCell _ _ (by simp)
  refine ⟨⟨?_, ?_, ?_, h.ne, h.ne1, h.ne2⟩, hc⟩
  · rw [List.length_set]; exact hc.at (by simpa using h.ne) h.blk
  · have := RowOf.stored h.plc rfl bC_len k hk 0 (by omega) (.bool b) b rfl
    rw [List.length_set]
    simpa using this
  · exact h.ord.kept hc (fun y hy hm => by simp at hm; subst hm; rw [ob_eq] at hy; exact h.ne2 hy)
theorem SeAt.pcell (h : SeAt w sb lv pg pl oa oc od) (k : Nat) (hk : k < pl.length) : w.cell? ⟨pg, k, none⟩ = some (.bool pl[k]) ∧ w.frozen? ⟨pg, k, none⟩ = false := by
  obtain ⟨-, -, -, p4, p5, -⟩ := RowOf.atS h.plc bC_len
  have := p4 k hk 0 (by omega)
  exact ⟨by simpa [bC] using this, p5 k⟩
/-- The order is put. -/
theorem SeAt.order {wy : World} (h : SeAt w sb lv pg pl oa oc od) (oa' : Option Addr) (oc' : Nat) (od' : List Int) (hc : Chg (ob oa).toList w wy) (hr : RowOf icI 1 wy 0 3 (.slice oa' od'.length oc') od') (hl : ∀ x, ob oa' = some x → ob oa = some x ∨ w.heap.size ≤ x) :
    SeAt (wy.setCell ⟨sb, 2, none⟩ (.slice oa' od'.length oc')) sb lv pg pl oa' oc' od' ∧ Chg (seF sb pg oa) w (wy.setCell ⟨sb, 2, none⟩ (.slice oa' od'.length oc')) := by
  have h1 : sb ∉ (ob oa).toList := by simp; exact h.ne1
  have h2 : pg ∉ (ob oa).toList := by simp; exact h.ne2
  have hsb := lt_of_heap h.blk
  have hpg : pg < w.heap.size := (h.plc.block _ rfl).2
  have hn1 : ob oa' ≠ some sb := fun e => by
    rcases hl sb e with e1 | e1
    · exact h.ne1 e1
    · omega
  have hn2 : ob oa' ≠ some pg := fun e => by
    rcases hl pg e with e1 | e1
    · exact h.ne2 e1
    · omega
  have hs : Chg [sb] wy (wy.setCell ⟨sb, 2, none⟩ (.slice oa' od'.length oc')) := (Chg.refl _ _).setCell _ _ (by simp)
  refine ⟨⟨?_, ?_, ?_, h.ne, hn1, hn2⟩, ?_⟩
  · have := blk_set (hc.at h1 h.blk) 2 (.slice oa' od'.length oc')
    exact this
  · exact (h.plc.kept hc (fun y hy => by cases hy; exact h2)).kept hs (fun y hy => by cases hy; simpa using h.ne.symm)
  · exact hr.kept hs (fun y hy hm => by simp at hm; subst hm; rw [ob_eq] at hy; exact hn1 hy)
  · exact Chg.trans hc hs (fun x hx _ => by simp only [seF, List.mem_cons]; exact .inr (.inr hx)) (fun x hx _ => by simp at hx; subst hx; simp [seF])
theorem intInfo : (Tryz.prog.info? 3).map (fun i => (i.zero, i.size, i.bytes)) = some (some (.int .i64 0), 1, 8) := by kernel_rfl
theorem sizeInt (w : World) : (sizeOf (Tryz.prog.elem 27)).run Tryz.prog w = .ok 1 w := by kernel_rfl
theorem elemInts : Tryz.prog.underlying 27 = some (.slice (Tryz.prog.elem 27)) := by kernel_rfl
def Box1 (w : World) (p : Nat) (v : Value) (t : TypeId) : Prop := w.heap[p]? = some (.cells #[v] t (0, 0))
set_option maxHeartbeats 4000000 in
set_option maxRecDepth 100000 in
theorem try_any (n : Nat) (F : FindC n) {W : World} {la : Option Addr} {lc : Nat} {l : List Cl} {sa : Option Addr} {sc : Nat} {st : List Ce} (h : FH W w sb la lc l pg pl oa oc od sa sc st) (p1 p2 : Nat) (h1 : Box1 w p1 (.slice sa st.length sc) 22) (h2 : Box1 w p2 (.pointer (some ⟨sb, 0, none⟩)) 52) (hf1 : p1 ∉ seF sb pg oa) (hf2 : p2 ∉ seF sb pg oa)
    (k : Nat) (hk : k < l.length) (hkp : pl[k]? = some false) (hn : pl.count false ≤ n + 1) :
    Calls Tryz.prog 41 #[.int .i64 (k : Int), .pointer (some ⟨p1, 0, none⟩), .pointer (some ⟨p2, 0, none⟩)] w (FP w sb (.slice la l.length lc) pg pl oa od (goF (findF (l.map Cl.p) n) st pl od k (l[k]).p)) := by
  have H := Lib.hid h
  have HF := Lib.hid F
  have h8 := h.len
  have hkl : k < pl.length := by rw [h.plen]; exact hk
  obtain ⟨b, off, e, hbW, hcc⟩ := h.cls.at8 (w' := w) k hk
  subst e
  have HB1 := Lib.hid h1
  have HB2 := Lib.hid h2
  have HF1 := Lib.hid hf1
  have HF2 := Lib.hid hf2
  have HKP := Lib.hid hkp
  have HC := Lib.hid (count_set hkp)
  have HN := Lib.hid hn
  have AF := Lib.hid (fun w' (hc : Chg [] w w') => fits_any sa sc st l[k] w' (h.stin.kept hc) h.stg ((h.cls.2 _ (List.getElem_mem hk)).kept (h.base.thenSame hc)) (h.good _ (List.getElem_mem hk)).1 (h.tab.kept (h.base.thenSame hc)))
  have GX := Lib.hid (h.good _ (List.getElem_mem hk))
  have X8 := Lib.hid (fun w' (hc : Chg [] w w') => hcc w' (h.base.thenSame hc))
  have STG := Lib.hid h.stg
  generalize l[k] = x at *
  obtain ⟨R, hR⟩ : ∃ R, R = goF (findF (l.map Cl.p) n) st pl od k x.p := ⟨_, rfl⟩
  rw [← hR]
  have HR := Lib.hid hR
  unfold goF at hR
  obtain ⟨ft, hft⟩ : ∃ ft, ft = fitsF st x.p := ⟨_, rfl⟩
  rw [← hft] at hR
  have AF2 := AF.out
  rw [← hft] at AF2
  have AF := Lib.hid AF2
  rename_i AF0
  have HFT := Lib.hid hft
  have hk0 : (0 : Int) ≤ (k : Int) := by omega
  have hk1 : (k : Int) < (l.length : Int) := by omega
  have hk2 : (k : Int) < (pl.length : Int) := by omega
  have SP := Lib.hid (fun w' (hc : Chg [] w w') => And.intro (blk_cell (hc.at (by simp) h1) 0) (And.intro (blk_cell (hc.at (by simp) h2) 0) (And.intro (blk_cell (hc.at (by simp) h.se.blk) 0) (X8.out w' hc))))
  simp only [List.getElem?_toArray, List.getElem?_cons_zero] at SP
  unfold At8 at SP
  unfold clC at AF
  clear AF0 AF2 hcc hbW h1 h2 hf1 hf2 hkp hn F h hft
  go_enter Tryz.func41, Tryz.ntmps41
  go_upto_region 1 with fail
  go_cut [5, 6] (fun v5 v6 wx => ∃ na nc m, v5 = .slice na m nc ∧ v6 = .bool ft.isSome ∧ Hid (∀ s, ft = some s → m = s.length ∧ InIs ceC 4 wx na nc s ∧ ∀ y, na = some y → w.heap.size ≤ y.block) ∧ Hid (Chg [] w wx))
  case first =>
    go_region_held3 (fun w' => w'.cell? ⟨p1, 0, none⟩ = some (.slice sa st.length sc) ∧ w'.cell? ⟨p2, 0, none⟩ = some (.pointer (some ⟨sb, 0, none⟩)) ∧ w'.cell? ⟨sb, 0, none⟩ = some (.slice (some ⟨b, off, none⟩) l.length lc) ∧ (w'.cell? ⟨b, off + k * 8, none⟩ = some (.string x.o.ent) ∧ w'.cell? ⟨b, off + k * 8 + 1, none⟩ = some (.string x.o.id) ∧ w'.cell? ⟨b, off + k * 8 + 2, none⟩ = some (.string x.o.op) ∧ w'.cell? ⟨b, off + k * 8 + 3, none⟩ = some (.slice x.o.aa x.o.args.length x.o.ac) ∧ w'.cell? ⟨b, off + k * 8 + 4, none⟩ = some (.int .i64 x.err) ∧ w'.cell? ⟨b, off + k * 8 + 5, none⟩ = some (.slice x.va x.ans.length x.vc) ∧ w'.cell? ⟨b, off + k * 8 + 6, none⟩ = some (.int .i64 x.from_) ∧ w'.cell? ⟨b, off + k * 8 + 7, none⟩ = some (.int .i64 x.to_)))
      (first | exact SP.out _ ((Chg.refl _ _).drew) | exact SP.out _ CC.out)
      (first | (go_at_call 30; (with_reducible refine Calls.mono (AF.out _ ((Chg.refl _ _).drew)) ?_); rintro e w2 ⟨na, nc, m, rfl, hs, hc⟩; have CC := Lib.hid (((Chg.refl [] w).drew).thenSame hc); have HS := Lib.hid hs; clear hs hc))
    go_wp2_with fail
    go_meet
    exact ⟨na, nc, m, rfl, rfl, HS, CC⟩
  case rest =>
    obtain ⟨na, nc, m, rfl, rfl, HS, CC⟩ := hcut
    cases ft with
    | none =>
      have HE := Lib.hid (show R = none from hR)
      clear hR
      go_wp2_with fail
      go_ret
      refine ⟨pl, oa, oc, od, by rw [HE.out]; rfl, H.out.se.keptN CC.out, fun _ => ⟨rfl, rfl⟩, (fun y hy => by rw [HE.out] at hy; cases hy), CC.out.mono (by simp), fun y hy => .inl hy⟩
    | some s =>
      have HRR := Lib.hid (show R = findF (l.map Cl.p) n s (pl.set k true) (od ++ [(k : Int)]) from hR)
      clear hR
      obtain ⟨hm, hi, hfr⟩ := HS.out s rfl
      subst hm
      have HI := Lib.hid hi
      have HFR := Lib.hid hfr
      have SE2 := Lib.hid (H.out.se.keptN CC.out)
      have X2 := Lib.hid (CC.out.at (by simp) HB2.out)
      have q2 := blk_cell (show wc.heap[p2]? = some (.cells _ _ (0, 0)) from X2.out)
      have qs := blk_cell SE2.out.blk
      obtain ⟨pc, pf⟩ := SE2.out.pcell k hkl
      have hpk := (List.getElem?_eq_some_iff.1 HKP.out).2
      have hroom := H.out.room
      have hcnt := HC.out
      have hod : od.length ≤ 7 := by omega
      have hp2sb : p2 ≠ sb := fun e => HF2.out (by rw [e]; simp [seF])
      have hp2pg : p2 ≠ pg := fun e => HF2.out (by rw [e]; simp [seF])
      obtain ⟨W3, hW3⟩ : ∃ W3, W3 = wc.setCell ⟨pg, k, none⟩ (.bool true) := ⟨_, rfl⟩
      have P3 := SE2.out.place k hkl true
      rw [← hW3] at P3
      have SE3 := Lib.hid P3.1
      have K3 := Lib.hid P3.2
      have X3 := Lib.hid (K3.out.at (by simpa using hp2pg) X2.out)
      have HW3 := Lib.hid hW3
      clear P3 hW3 hi hfr
      go_upto_region 5 with fail
      rw [← HW3.out]
      clear q2 qs pc pf
      go_cut [] (fun wx => ∃ g8 c8, Hid (SeAt wx sb (.slice (some ⟨b, off, none⟩) l.length lc) pg (pl.set k true) (some ⟨g8, 0, none⟩) c8 (od ++ [(k : Int)])) ∧ Hid (Chg (seF sb pg oa) W3 wx) ∧ Hid (ob oa = some g8 ∨ W3.heap.size ≤ g8))
      case first =>
        obtain ⟨wd, hwd⟩ : ∃ wd, wd = W3.drew := ⟨_, rfl⟩
        have D0 := Lib.hid (show Chg [] W3 wd by rw [hwd]; exact (Chg.refl _ _).drew)
        have SE4 := Lib.hid (SE3.out.keptN D0.out)
        have X4 := Lib.hid (D0.out.at (by simp) X3.out)
        have N6 := Lib.hid (heap_alloc_new wd (.cells #[.int .i64 (k : Int)] 3))
        have K6 := Lib.hid ((Chg.refl [] wd).alloc (.cells #[.int .i64 (k : Int)] 3))
        have q3 := blk_cell SE4.out.blk 2
        have q4 := blk_cell (blk_alloc (o' := .cells #[.int .i64 (k : Int)] 3) SE4.out.blk) 2
        simp only [List.getElem?_toArray, List.getElem?_cons_zero, List.getElem?_cons_succ] at q3 q4
        have R6 := Lib.hid (SE4.out.ord.kept K6.out (by simp))
        refine wp_region_noPanic ?_
        refine wp_region_held_drew (S := (fun w' => w'.cell? ⟨p2, 0, none⟩ = some (.pointer (some ⟨sb, 0, none⟩)))) (by kernel_rfl) (by rw [← hwd]; exact blk_cell (show wd.heap[p2]? = some (.cells _ _ (0, 0)) from X4.out) 0) (fun hHeld => ?_)
        rw [← hwd] at hHeld ⊢
        clear hwd
        refine wpAnyH_take (i := 0) (oi := _) (v := ?vA_0) rfl (by kernel_rfl) (by kernel_rfl) (by kernel_rfl) (fun _ _ _ h => h) (Or.inl ⟨by rfl, ?yA_0⟩) hHeld ?rA_0
        case yA_0 => (intro w hSw; (try dsimp only at hSw); (try simp only [List.getElem_toArray, List.getElem_cons_zero, List.getElem_cons_succ]); go_simp <;> with_reducible rfl)
        (try simp only [List.getElem_toArray, List.getElem_cons_zero, List.getElem_cons_succ, Act.put, List.setIfInBounds_toArray, List.set_cons_zero, List.set_cons_succ])
        refine wpAnyH_take (i := 1) (oi := _) (v := ?vA_1) rfl (by kernel_rfl) (by kernel_rfl) (by kernel_rfl) (fun _ _ _ h => h) (Or.inl ⟨by rfl, ?yA_1⟩) hHeld ?rA_1
        case yA_1 => (intro w hSw; (try dsimp only at hSw); (try simp only [List.getElem_toArray, List.getElem_cons_zero, List.getElem_cons_succ]); go_simp <;> with_reducible rfl)
        (try simp only [List.getElem_toArray, List.getElem_cons_zero, List.getElem_cons_succ, Act.put, List.setIfInBounds_toArray, List.set_cons_zero, List.set_cons_succ])
        refine wpAnyH_take (i := 2) (oi := _) (v := ?vA_2) rfl (by kernel_rfl) (by kernel_rfl) (by kernel_rfl) (fun _ _ _ h => h) (Or.inl ⟨by rfl, ?yA_2⟩) hHeld ?rA_2
        case yA_2 => (intro w hSw; (try dsimp only at hSw); (try simp only [List.getElem_toArray, List.getElem_cons_zero, List.getElem_cons_succ]); go_simp <;> with_reducible rfl)
        (try simp only [List.getElem_toArray, List.getElem_cons_zero, List.getElem_cons_succ, Act.put, List.setIfInBounds_toArray, List.set_cons_zero, List.set_cons_succ])
        refine wpAnyH_take (i := 3) (oi := _) (v := ?vA_3) rfl (by kernel_rfl) (by kernel_rfl) (by kernel_rfl) (fun _ _ _ h => h) (Or.inl ⟨by rfl, ?yA_3⟩) hHeld ?rA_3
        case yA_3 => (intro w hSw; (try dsimp only at hSw); (try simp only [List.getElem_toArray, List.getElem_cons_zero, List.getElem_cons_succ]); go_simp <;> with_reducible rfl)
        (try simp only [List.getElem_toArray, List.getElem_cons_zero, List.getElem_cons_succ, Act.put, List.setIfInBounds_toArray, List.set_cons_zero, List.set_cons_succ])
        refine wpAnyH_take (i := 5) (oi := _) (v := ?vA_5) rfl (by kernel_rfl) (by kernel_rfl) (by kernel_rfl) (fun _ _ _ h => h) (Or.inl ⟨by rfl, ?yA_5⟩) hHeld ?rA_5
        case yA_5 => (intro w hSw; (try dsimp only at hSw); (try simp only [List.getElem_toArray, List.getElem_cons_zero, List.getElem_cons_succ]); go_simp <;> with_reducible rfl)
        (try simp only [List.getElem_toArray, List.getElem_cons_zero, List.getElem_cons_succ, Act.put, List.setIfInBounds_toArray, List.set_cons_zero, List.set_cons_succ])
        refine wpAnyH_ready (rs := [4, 6]) (by kernel_rfl) (by simp) ?_
        refine AllReadyH.cons (o := _) rfl (fun K hK => ?_) (AllReadyH.cons (o := _) rfl (fun K hK => ?_) AllReadyH.nil)
        ·
          (try simp only [List.getElem_toArray, List.getElem_cons_zero, List.getElem_cons_succ])
          go_simp
          skip
          refine hK.out _ _ ?_ (fun hHeld => ?_)
          exact blk_cell (show wd.heap[p2]? = some (.cells _ _ (0, 0)) from X4.out) 0
          clear hK K
          (try simp only [List.getElem_toArray, List.getElem_cons_zero, List.getElem_cons_succ, Act.put, List.setIfInBounds_toArray, List.set_cons_zero, List.set_cons_succ])
          refine wpAnyH_ready (rs := [6]) (by kernel_rfl) (by simp) ?_
          refine AllReadyH.cons (o := _) rfl (fun K hK => ?_) AllReadyH.nil
          (try simp only [List.getElem_toArray, List.getElem_cons_zero, List.getElem_cons_succ])
          go_simp
          skip
          refine hK.out _ _ ?_ (fun hHeld => ?_)
          exact blk_cell (show (wd.alloc _).heap[p2]? = some (.cells _ _ (0, 0)) from blk_alloc X4.out) 0
          clear hK K
          (try simp only [List.getElem_toArray, List.getElem_cons_zero, List.getElem_cons_succ, Act.put, List.setIfInBounds_toArray, List.set_cons_zero, List.set_cons_succ])
          refine wpAnyH_ready (rs := [7]) (by kernel_rfl) (by simp) ?_
          refine AllReadyH.cons (o := _) rfl (fun K hK => ?_) AllReadyH.nil
          (try simp only [List.getElem_toArray, List.getElem_cons_zero, List.getElem_cons_succ])
          refine step_list rfl ?_
          (refine wpl_appendL rfl _ _ 27 rfl 0 3 _ 8 Tryz.underlying27 intInfo rfl (by decide) icI_len icI_one (.slice oa od.length oc) od rfl R6.out wd.heap.size 1 (k : Int) _ _ _ rfl N6.out rfl (by unfold maxLen; omega) (by omega) (Nat.zero_le _) ?_; intro g8 c8 w8 hr8 hg8 ho8 hl8; have K8 := Lib.hid (Chg.ofRow (v := .slice oa od.length oc) hg8); have R8 := Lib.hid hr8; have O8 := Lib.hid ho8; have SX8 := Lib.hid (K8.out.at (by rw [ob_eq]; simp; exact SE4.out.ne1) (K6.out.at (by simp) SE4.out.blk)); have X8 := Lib.hid (K8.out.at (by rw [ob_eq]; simp; exact fun e => HF2.out (by simp [seF, e])) (K6.out.at (by simp) X4.out)); clear hr8 hg8 ho8)
          refine ⟨rfl, hK.out _ _ ?_ (fun hHeld => ?_)⟩
          exact blk_cell (show w8.heap[p2]? = some (.cells _ _ (0, 0)) from X8.out) 0
          clear hK K
          (try simp only [List.getElem_toArray, List.getElem_cons_zero, List.getElem_cons_succ, Act.put, List.setIfInBounds_toArray, List.set_cons_zero, List.set_cons_succ])
          have v8 := blk_cell SX8.out
          have f8 := blk_free SX8.out
          refine wpAnyH_take (i := 8) (oi := _) (v := ?vA_8) rfl (by kernel_rfl) (by kernel_rfl) (by kernel_rfl) (fun _ _ _ h => h) (Or.inl ⟨by rfl, ?yA_8⟩) hHeld ?rA_8
          case yA_8 => (intro w hSw; (try dsimp only at hSw); (try simp only [List.getElem_toArray, List.getElem_cons_zero, List.getElem_cons_succ]); go_simp <;> with_reducible rfl)
          (try simp only [List.getElem_toArray, List.getElem_cons_zero, List.getElem_cons_succ, Act.put, List.setIfInBounds_toArray, List.set_cons_zero, List.set_cons_succ])
          refine wpAnyH_take (i := 9) (oi := _) (v := ?vA_9) rfl (by kernel_rfl) (by kernel_rfl) (by kernel_rfl) (fun _ _ _ h => h) (Or.inl ⟨by rfl, ?yA_9⟩) hHeld ?rA_9
          case yA_9 => (intro w hSw; (try dsimp only at hSw); (try simp only [List.getElem_toArray, List.getElem_cons_zero, List.getElem_cons_succ]); go_simp <;> with_reducible rfl)
          (try simp only [List.getElem_toArray, List.getElem_cons_zero, List.getElem_cons_succ, Act.put, List.setIfInBounds_toArray, List.set_cons_zero, List.set_cons_succ])
          refine wpAnyH_ready (rs := [10]) (by kernel_rfl) (by simp) ?_
          refine AllReadyH.cons (o := _) rfl (fun K hK => ?_) AllReadyH.nil
          (try simp only [List.getElem_toArray, List.getElem_cons_zero, List.getElem_cons_succ])
          go_simp
          skip
          refine hK.out _ _ ?_ (fun hHeld => ?_)
          exact blk_cell (show (w8.setCell ⟨sb, 2, none⟩ _).heap[p2]? = some (.cells _ _ (0, 0)) from (blk_set_ne 2 _ hp2sb).trans X8.out) 0
          clear hK K
          (try simp only [List.getElem_toArray, List.getElem_cons_zero, List.getElem_cons_succ, Act.put, List.setIfInBounds_toArray, List.set_cons_zero, List.set_cons_succ])
          refine wpAnyH_done (by kernel_rfl) ?_ _
          refine NoPanic.normal ?_
          go_wp2_with fail
          go_meet
          have hk8 : Chg (ob oa).toList W3 w8 := by have := K8.out; rw [ob_eq] at this; exact (D0.out.mono (by simp)).then ((K6.out.mono (by simp)).then this (fun x hx _ => hx)) (fun x hx _ => hx)
          have ho8' : ∀ x, ob (some ⟨g8, 0, none⟩) = some x → ob oa = some x ∨ W3.heap.size ≤ x := by
            intro x hx
            have hx : g8 = x := by simpa [ob] using hx
            subst hx
            rcases O8.out with e | e
            · left; rw [ob_eq] at e; exact e
            · right; rw [e]; exact Nat.le_trans D0.out.size K6.out.size
          have hfin := SE3.out.order (some ⟨g8, 0, none⟩) c8 (od ++ [(k : Int)]) hk8 (by rw [List.length_append]; exact R8.out) ho8'
          rw [List.length_append] at hfin
          exact ⟨g8, c8, Lib.hid hfin.1, Lib.hid hfin.2, Lib.hid (by have := ho8' g8 (by simp [ob]); exact this)⟩
        ·
          (try simp only [List.getElem_toArray, List.getElem_cons_zero, List.getElem_cons_succ])
          go_simp
          skip
          refine hK.out _ _ ?_ (fun hHeld => ?_)
          exact blk_cell (show (wd.alloc _).heap[p2]? = some (.cells _ _ (0, 0)) from blk_alloc X4.out) 0
          clear hK K
          (try simp only [List.getElem_toArray, List.getElem_cons_zero, List.getElem_cons_succ, Act.put, List.setIfInBounds_toArray, List.set_cons_zero, List.set_cons_succ])
          refine wpAnyH_ready (rs := [4]) (by kernel_rfl) (by simp) ?_
          refine AllReadyH.cons (o := _) rfl (fun K hK => ?_) AllReadyH.nil
          (try simp only [List.getElem_toArray, List.getElem_cons_zero, List.getElem_cons_succ])
          go_simp
          skip
          refine hK.out _ _ ?_ (fun hHeld => ?_)
          exact blk_cell (show (wd.alloc _).heap[p2]? = some (.cells _ _ (0, 0)) from blk_alloc X4.out) 0
          clear hK K
          (try simp only [List.getElem_toArray, List.getElem_cons_zero, List.getElem_cons_succ, Act.put, List.setIfInBounds_toArray, List.set_cons_zero, List.set_cons_succ])
          refine wpAnyH_ready (rs := [7]) (by kernel_rfl) (by simp) ?_
          refine AllReadyH.cons (o := _) rfl (fun K hK => ?_) AllReadyH.nil
          (try simp only [List.getElem_toArray, List.getElem_cons_zero, List.getElem_cons_succ])
          refine step_list rfl ?_
          (refine wpl_appendL rfl _ _ 27 rfl 0 3 _ 8 Tryz.underlying27 intInfo rfl (by decide) icI_len icI_one (.slice oa od.length oc) od rfl R6.out wd.heap.size 1 (k : Int) _ _ _ rfl N6.out rfl (by unfold maxLen; omega) (by omega) (Nat.zero_le _) ?_; intro g8 c8 w8 hr8 hg8 ho8 hl8; have K8 := Lib.hid (Chg.ofRow (v := .slice oa od.length oc) hg8); have R8 := Lib.hid hr8; have O8 := Lib.hid ho8; have SX8 := Lib.hid (K8.out.at (by rw [ob_eq]; simp; exact SE4.out.ne1) (K6.out.at (by simp) SE4.out.blk)); have X8 := Lib.hid (K8.out.at (by rw [ob_eq]; simp; exact fun e => HF2.out (by simp [seF, e])) (K6.out.at (by simp) X4.out)); clear hr8 hg8 ho8)
          refine ⟨rfl, hK.out _ _ ?_ (fun hHeld => ?_)⟩
          exact blk_cell (show w8.heap[p2]? = some (.cells _ _ (0, 0)) from X8.out) 0
          clear hK K
          (try simp only [List.getElem_toArray, List.getElem_cons_zero, List.getElem_cons_succ, Act.put, List.setIfInBounds_toArray, List.set_cons_zero, List.set_cons_succ])
          have v8 := blk_cell SX8.out
          have f8 := blk_free SX8.out
          refine wpAnyH_take (i := 8) (oi := _) (v := ?vB_8) rfl (by kernel_rfl) (by kernel_rfl) (by kernel_rfl) (fun _ _ _ h => h) (Or.inl ⟨by rfl, ?yB_8⟩) hHeld ?rB_8
          case yB_8 => (intro w hSw; (try dsimp only at hSw); (try simp only [List.getElem_toArray, List.getElem_cons_zero, List.getElem_cons_succ]); go_simp <;> with_reducible rfl)
          (try simp only [List.getElem_toArray, List.getElem_cons_zero, List.getElem_cons_succ, Act.put, List.setIfInBounds_toArray, List.set_cons_zero, List.set_cons_succ])
          refine wpAnyH_take (i := 9) (oi := _) (v := ?vB_9) rfl (by kernel_rfl) (by kernel_rfl) (by kernel_rfl) (fun _ _ _ h => h) (Or.inl ⟨by rfl, ?yB_9⟩) hHeld ?rB_9
          case yB_9 => (intro w hSw; (try dsimp only at hSw); (try simp only [List.getElem_toArray, List.getElem_cons_zero, List.getElem_cons_succ]); go_simp <;> with_reducible rfl)
          (try simp only [List.getElem_toArray, List.getElem_cons_zero, List.getElem_cons_succ, Act.put, List.setIfInBounds_toArray, List.set_cons_zero, List.set_cons_succ])
          refine wpAnyH_ready (rs := [10]) (by kernel_rfl) (by simp) ?_
          refine AllReadyH.cons (o := _) rfl (fun K hK => ?_) AllReadyH.nil
          (try simp only [List.getElem_toArray, List.getElem_cons_zero, List.getElem_cons_succ])
          go_simp
          skip
          refine hK.out _ _ ?_ (fun hHeld => ?_)
          exact blk_cell (show (w8.setCell ⟨sb, 2, none⟩ _).heap[p2]? = some (.cells _ _ (0, 0)) from (blk_set_ne 2 _ hp2sb).trans X8.out) 0
          clear hK K
          (try simp only [List.getElem_toArray, List.getElem_cons_zero, List.getElem_cons_succ, Act.put, List.setIfInBounds_toArray, List.set_cons_zero, List.set_cons_succ])
          refine wpAnyH_done (by kernel_rfl) ?_ _
          refine NoPanic.normal ?_
          go_wp2_with fail
          go_meet
          have hk8 : Chg (ob oa).toList W3 w8 := by have := K8.out; rw [ob_eq] at this; exact (D0.out.mono (by simp)).then ((K6.out.mono (by simp)).then this (fun x hx _ => hx)) (fun x hx _ => hx)
          have ho8' : ∀ x, ob (some ⟨g8, 0, none⟩) = some x → ob oa = some x ∨ W3.heap.size ≤ x := by
            intro x hx
            have hx : g8 = x := by simpa [ob] using hx
            subst hx
            rcases O8.out with e | e
            · left; rw [ob_eq] at e; exact e
            · right; rw [e]; exact Nat.le_trans D0.out.size K6.out.size
          have hfin := SE3.out.order (some ⟨g8, 0, none⟩) c8 (od ++ [(k : Int)]) hk8 (by rw [List.length_append]; exact R8.out) ho8'
          rw [List.length_append] at hfin
          exact ⟨g8, c8, Lib.hid hfin.1, Lib.hid hfin.2, Lib.hid (by have := ho8' g8 (by simp [ob]); exact this)⟩
      case rest =>
        obtain ⟨g8, c8, SE5, K5, O5⟩ := hcut
        have X5 := Lib.hid (K5.out.at HF2.out X3.out)
        have HLT := Lib.hid H.out.se.lt
        have BW3 := Lib.hid ((H.out.base.thenSame CC.out).then K3.out (fun x hx hlt => absurd hlt (Nat.not_lt.2 (H.out.far x (by simp at hx; subst hx; simp [seF])))))
        have BW := Lib.hid (BW3.out.then K5.out (fun x hx hlt => absurd hlt (Nat.not_lt.2 (H.out.far x hx))))
        have KW := Lib.hid (((CC.out.mono (T := seF sb pg oa) (by simp)).then K3.out (fun x hx _ => by simp at hx; subst hx; simp [seF])).thenSame K5.out)
        have hws := CC.out.size
        have hw3 := K3.out.size
        have hw5 := K5.out.size
        obtain ⟨fz, fs, fa⟩ := fits_some HFT.out.symm
        have hsne := (check_zero (fs ▸ doZ_next fz)).1
        obtain ⟨nb, no, hna, hnb, -⟩ := HI.out.1.2 0 (by cases s with | nil => exact absurd rfl hsne | cons _ _ => simp)
        have hfrn := HFR.out _ hna
        simp only at hfrn
        have HNA : Hid (∀ x ∈ seF sb pg oa, nb ≠ x) := Lib.hid (fun x hx e => by have := HLT.out x hx; omega)
        have HG8 := Lib.hid (show nb ≠ g8 from fun e => by
          rcases O5.out with h | h
          · exact HNA.out g8 (by simp [seF, h]) e
          · omega)
        have FHn : Hid (FH W wc sb (some ⟨b, off, none⟩) lc l pg (pl.set k true) (some ⟨g8, 0, none⟩) c8 (od ++ [(k : Int)]) na nc s) := Lib.hid
          { se := SE5.out, base := BW.out, cls := H.out.cls, good := H.out.good, tab := H.out.tab, len := H.out.len
            far := fun x hx => by
              simp only [seF, List.mem_cons, ob, Option.map_some, Option.toList_some, List.not_mem_nil, or_false] at hx
              rcases hx with rfl | rfl | rfl
              · exact H.out.far _ (by simp [seF])
              · exact H.out.far _ (by simp [seF])
              · rcases O5.out with h | h
                · exact H.out.far _ (by simp [seF, h])
                · exact Nat.le_trans BW3.out.size h
            plen := by rw [List.length_set]; exact H.out.plen
            room := by rw [List.length_append]; have := HC.out; have := H.out.room; simp; omega
            stin := by
              refine (HI.out.keptN K3.out (fun y hy hm => ?_)).keptN K5.out (fun y hy hm => ?_)
              · rw [hna] at hy; cases hy; exact HNA.out pg (by simp [seF]) (by simpa using hm)
              · rw [hna] at hy; cases hy; exact HNA.out _ hm rfl
            stg := fs ▸ doZ_good fz STG.out GX.out.1
            apart := fun y hy => by
              rw [hna] at hy; cases hy
              refine ⟨fun hm => ?_, by simp only; omega⟩
              simp only [seF, List.mem_cons, ob, Option.map_some, Option.toList_some, List.not_mem_nil, or_false] at hm
              rcases hm with e | e | e
              · exact HNA.out sb (by simp [seF]) e
              · exact HNA.out pg (by simp [seF]) e
              · exact HG8.out e }
        have AFD := Lib.hid (HF.out W wc sb (some ⟨b, off, none⟩) lc l pg (pl.set k true) (some ⟨g8, 0, none⟩) c8 (od ++ [(k : Int)]) na nc s FHn.out (by have := HC.out; have := HN.out; omega))
        obtain ⟨R2, hR2⟩ : ∃ R2, R2 = findF (l.map Cl.p) n s (pl.set k true) (od ++ [(k : Int)]) := ⟨_, rfl⟩
        rw [← hR2] at HRR AFD
        have q5 := blk_cell (show wc.heap[p2]? = some (.cells _ _ (0, 0)) from X5.out)
        clear hR2 hfrn hna hnb hsne fz fs fa
        go_upto_region 6 with fail
        cases R2 with
        | some r =>
          go_wp2_with (go_at_call 21; (with_reducible refine Calls.mono AFD.out ?_); rintro e w6 ⟨pl6, oa6, oc6, od6, rfl, hse, hno, hyes, hc, ho⟩; have SE6 := Lib.hid hse; have HY := Lib.hid (hyes r rfl); have K6 := Lib.hid hc; have O6 := Lib.hid ho; clear hse hno hyes hc ho)
          go_ret
          refine ⟨pl6, oa6, oc6, od6, by rw [HRR.out]; rfl, SE6.out, (fun h => by rw [HRR.out] at h; cases h), (fun y hy => by rw [HRR.out] at hy; cases hy; exact HY.out), ?_, ?_⟩
          · refine KW.out.then K6.out (fun y hy hlt => ?_)
            simp only [seF, List.mem_cons, ob, Option.map_some, Option.toList_some, List.not_mem_nil, or_false] at hy
            rcases hy with rfl | rfl | rfl
            · simp [seF]
            · simp [seF]
            · rcases O5.out with h | h
              · simp [seF, h]
              · omega
          · intro y hy
            rcases O6.out y hy with h | h
            · have h : g8 = y := by simpa [ob] using h
              subst h
              rcases O5.out with h | h
              · exact .inl h
              · exact .inr (by omega)
            · exact .inr (by omega)
        | none =>
          go_upto_region 8 with (go_at_call 21; (with_reducible refine Calls.mono AFD.out ?_); rintro e w6 ⟨pl6, oa6, oc6, od6, rfl, hse, hno, hyes, hc, ho⟩; have SE6 := Lib.hid hse; have HNO := Lib.hid (hno rfl); have K6 := Lib.hid hc; have O6 := Lib.hid ho; clear hse hno hyes hc ho)
          obtain ⟨e1, e2⟩ := HNO.out
          subst e1
          subst e2
          have FZ : ∃ g6, oa6 = some ⟨g6, 0, none⟩ := by
            rcases RowOf.at SE6.out.ord icI_len with ⟨_, h0⟩ | ⟨g, cap, hv, _⟩
            · simp at h0
            · simp only [Value.slice.injEq] at hv; exact ⟨g, hv.1⟩
          obtain ⟨g6, rfl⟩ := FZ
          obtain ⟨wd, hwd⟩ : ∃ wd, wd = w6.drew := ⟨_, rfl⟩
          have D6 := Lib.hid (show Chg [] w6 wd by rw [hwd]; exact (Chg.refl _ _).drew)
          have SE7 := Lib.hid (SE6.out.keptN D6.out)
          have hp2g8 : p2 ≠ g8 := fun e => by
            rcases O5.out with h | h
            · exact HF2.out (by simp [seF, h, e])
            · have := lt_of_heap X3.out; omega
          have X6 := Lib.hid (D6.out.at (by simp) (K6.out.at (by simp [seF, ob]; exact ⟨hp2sb, hp2pg, hp2g8⟩) X5.out))
          have q7 := blk_cell SE7.out.blk
          rw [List.length_append] at q7
          simp only [List.length_cons, List.length_nil, Nat.zero_add] at q7
          have f7 := blk_free SE7.out.blk
          obtain ⟨-, hoc, hom, -⟩ := RowOf.atS SE7.out.ord icI_len
          rw [List.length_append] at hoc
          simp only [List.length_cons, List.length_nil, Nat.zero_add] at hoc
          have hodc : od.length ≤ oc6 := by omega
          have hod7 : (od.length : Int) ≤ 7 := by omega
          have hod0 : (0 : Int) ≤ (od.length : Int) := by omega
          have hwr : IntKind.i64.wrap (od.length : Int) = (od.length : Int) := IntWalk.i64_in _ (by omega)
          refine wp_region_noPanic ?_
          refine wp_region_held_drew (S := (fun w' => w'.cell? ⟨p2, 0, none⟩ = some (.pointer (some ⟨sb, 0, none⟩)))) (by kernel_rfl) (by rw [← hwd]; exact blk_cell (show wd.heap[p2]? = some (.cells _ _ (0, 0)) from X6.out) 0) (fun hHeld => ?_)
          rw [← hwd] at hHeld ⊢
          clear hwd
          refine wpAnyH_take (i := 0) (oi := _) (v := ?vC_0) rfl (by kernel_rfl) (by kernel_rfl) (by kernel_rfl) (fun _ _ _ h => h) (Or.inl ⟨by rfl, ?yC_0⟩) hHeld ?rC_0
          case yC_0 => (intro w hSw; (try dsimp only at hSw); (try simp only [List.getElem_toArray, List.getElem_cons_zero, List.getElem_cons_succ]); go_simp <;> with_reducible rfl)
          (try simp only [List.getElem_toArray, List.getElem_cons_zero, List.getElem_cons_succ, Act.put, List.setIfInBounds_toArray, List.set_cons_zero, List.set_cons_succ])
          refine wpAnyH_take (i := 1) (oi := _) (v := ?vC_1) rfl (by kernel_rfl) (by kernel_rfl) (by kernel_rfl) (fun _ _ _ h => h) (Or.inl ⟨by rfl, ?yC_1⟩) hHeld ?rC_1
          case yC_1 => (intro w hSw; (try dsimp only at hSw); (try simp only [List.getElem_toArray, List.getElem_cons_zero, List.getElem_cons_succ]); go_simp <;> with_reducible rfl)
          (try simp only [List.getElem_toArray, List.getElem_cons_zero, List.getElem_cons_succ, Act.put, List.setIfInBounds_toArray, List.set_cons_zero, List.set_cons_succ])
          refine wpAnyH_take (i := 2) (oi := _) (v := ?vC_2) rfl (by kernel_rfl) (by kernel_rfl) (by kernel_rfl) (fun _ _ _ h => h) (Or.inl ⟨by rfl, ?yC_2⟩) hHeld ?rC_2
          case yC_2 => (intro w hSw; (try dsimp only at hSw); (try simp only [List.getElem_toArray, List.getElem_cons_zero, List.getElem_cons_succ]); go_simp <;> with_reducible rfl)
          (try simp only [List.getElem_toArray, List.getElem_cons_zero, List.getElem_cons_succ, Act.put, List.setIfInBounds_toArray, List.set_cons_zero, List.set_cons_succ])
          refine wpAnyH_take (i := 3) (oi := _) (v := ?vC_3) rfl (by kernel_rfl) (by kernel_rfl) (by kernel_rfl) (fun _ _ _ h => h) (Or.inl ⟨by rfl, ?yC_3⟩) hHeld ?rC_3
          case yC_3 => (intro w hSw; (try dsimp only at hSw); (try simp only [List.getElem_toArray, List.getElem_cons_zero, List.getElem_cons_succ]); go_simp <;> with_reducible rfl)
          (try simp only [List.getElem_toArray, List.getElem_cons_zero, List.getElem_cons_succ, Act.put, List.setIfInBounds_toArray, List.set_cons_zero, List.set_cons_succ])
          refine wpAnyH_take (i := 5) (oi := _) (v := ?vC_5) rfl (by kernel_rfl) (by kernel_rfl) (by kernel_rfl) (fun _ _ _ h => h) (Or.inl ⟨by rfl, ?yC_5⟩) hHeld ?rC_5
          case yC_5 => (intro w hSw; (try dsimp only at hSw); (try simp only [List.getElem_toArray, List.getElem_cons_zero, List.getElem_cons_succ]); go_simp <;> with_reducible rfl)
          (try simp only [List.getElem_toArray, List.getElem_cons_zero, List.getElem_cons_succ, Act.put, List.setIfInBounds_toArray, List.set_cons_zero, List.set_cons_succ])
          refine wpAnyH_take (i := 6) (oi := _) (v := ?vC_6) rfl (by kernel_rfl) (by kernel_rfl) (by kernel_rfl) (fun _ _ _ h => h) (Or.inl ⟨by rfl, ?yC_6⟩) hHeld ?rC_6
          case yC_6 => (intro w hSw; (try dsimp only at hSw); (try simp only [List.getElem_toArray, List.getElem_cons_zero, List.getElem_cons_succ]); go_simp <;> with_reducible rfl)
          (try simp only [List.getElem_toArray, List.getElem_cons_zero, List.getElem_cons_succ, Act.put, List.setIfInBounds_toArray, List.set_cons_zero, List.set_cons_succ])
          refine wpAnyH_take (i := 7) (oi := _) (v := ?vC_7) rfl (by kernel_rfl) (by kernel_rfl) (by kernel_rfl) (fun _ _ _ h => h) (Or.inl ⟨by rfl, ?yC_7⟩) hHeld ?rC_7
          case yC_7 => (intro w hSw; (try dsimp only at hSw); (try simp only [List.getElem_toArray, List.getElem_cons_zero, List.getElem_cons_succ]); go_simp <;> with_reducible rfl)
          (try simp only [List.getElem_toArray, List.getElem_cons_zero, List.getElem_cons_succ, Act.put, List.setIfInBounds_toArray, List.set_cons_zero, List.set_cons_succ])
          refine wpAnyH_ready (rs := [4, 8]) (by kernel_rfl) (by simp) ?_
          refine AllReadyH.cons (o := _) rfl (fun K hK => ?_) (AllReadyH.cons (o := _) rfl (fun K hK => ?_) AllReadyH.nil)
          ·
            (try simp only [List.getElem_toArray, List.getElem_cons_zero, List.getElem_cons_succ])
            go_simp
            skip
            refine hK.out _ _ ?_ (fun hHeld => ?_)
            exact blk_cell (show wd.heap[p2]? = some (.cells _ _ (0, 0)) from X6.out) 0
            clear hK K
            (try simp only [List.getElem_toArray, List.getElem_cons_zero, List.getElem_cons_succ, Act.put, List.setIfInBounds_toArray, List.set_cons_zero, List.set_cons_succ])
            refine wpAnyH_ready (rs := [8]) (by kernel_rfl) (by simp) ?_
            refine AllReadyH.cons (o := _) rfl (fun K hK => ?_) AllReadyH.nil
            (try simp only [List.getElem_toArray, List.getElem_cons_zero, List.getElem_cons_succ])
            go_simp
            skip
            refine hK.out _ _ ?_ (fun hHeld => ?_)
            exact blk_cell (show wd.heap[p2]? = some (.cells _ _ (0, 0)) from X6.out) 0
            clear hK K
            (try simp only [List.getElem_toArray, List.getElem_cons_zero, List.getElem_cons_succ, Act.put, List.setIfInBounds_toArray, List.set_cons_zero, List.set_cons_succ])
            refine wpAnyH_take (i := 9) (oi := _) (v := ?vC_9) rfl (by kernel_rfl) (by kernel_rfl) (by kernel_rfl) (fun _ _ _ h => h) (Or.inl ⟨by rfl, ?yC_9⟩) hHeld ?rC_9
            case yC_9 => (intro w hSw; (try dsimp only at hSw); (try simp only [List.getElem_toArray, List.getElem_cons_zero, List.getElem_cons_succ]); go_simp <;> with_reducible rfl)
            (try simp only [List.getElem_toArray, List.getElem_cons_zero, List.getElem_cons_succ, Act.put, List.setIfInBounds_toArray, List.set_cons_zero, List.set_cons_succ])
            refine wpAnyH_take (i := 10) (oi := _) (v := ?vC_10) rfl (by kernel_rfl) (by kernel_rfl) (by kernel_rfl) (fun _ _ _ h => h) (Or.inl ⟨by rfl, ?yC_10⟩) hHeld ?rC_10
            case yC_10 => (intro w hSw; (try dsimp only at hSw); (try simp only [List.getElem_toArray, List.getElem_cons_zero, List.getElem_cons_succ]); go_simp <;> with_reducible rfl)
            (try simp only [List.getElem_toArray, List.getElem_cons_zero, List.getElem_cons_succ, Act.put, List.setIfInBounds_toArray, List.set_cons_zero, List.set_cons_succ])
            refine wpAnyH_ready (rs := [11]) (by kernel_rfl) (by simp) ?_
            refine AllReadyH.cons (o := _) rfl (fun K hK => ?_) AllReadyH.nil
            (try simp only [List.getElem_toArray, List.getElem_cons_zero, List.getElem_cons_succ])
            refine step_list rfl ?_
            (refine wpl_slice_h rfl _ _ 27 rfl elemInts (sizeInt _) g6 0 (od.length + 1) oc6 od.length rfl (by show Value.int .i64 _ = _; exact congrArg (Value.int .i64) (by first | rfl | exact hwr)) hodc ?_)
            refine ⟨rfl, hK.out _ _ ?_ (fun hHeld => ?_)⟩
            exact blk_cell (show wd.heap[p2]? = some (.cells _ _ (0, 0)) from X6.out) 0
            clear hK K
            (try simp only [List.getElem_toArray, List.getElem_cons_zero, List.getElem_cons_succ, Act.put, List.setIfInBounds_toArray, List.set_cons_zero, List.set_cons_succ])
            refine wpAnyH_take (i := 12) (oi := _) (v := ?vC_12) rfl (by kernel_rfl) (by kernel_rfl) (by kernel_rfl) (fun _ _ _ h => h) (Or.inl ⟨by rfl, ?yC_12⟩) hHeld ?rC_12
            case yC_12 => (intro w hSw; (try dsimp only at hSw); (try simp only [List.getElem_toArray, List.getElem_cons_zero, List.getElem_cons_succ]); go_simp <;> with_reducible rfl)
            (try simp only [List.getElem_toArray, List.getElem_cons_zero, List.getElem_cons_succ, Act.put, List.setIfInBounds_toArray, List.set_cons_zero, List.set_cons_succ])
            refine wpAnyH_take (i := 13) (oi := _) (v := ?vC_13) rfl (by kernel_rfl) (by kernel_rfl) (by kernel_rfl) (fun _ _ _ h => h) (Or.inl ⟨by rfl, ?yC_13⟩) hHeld ?rC_13
            case yC_13 => (intro w hSw; (try dsimp only at hSw); (try simp only [List.getElem_toArray, List.getElem_cons_zero, List.getElem_cons_succ]); go_simp <;> with_reducible rfl)
            (try simp only [List.getElem_toArray, List.getElem_cons_zero, List.getElem_cons_succ, Act.put, List.setIfInBounds_toArray, List.set_cons_zero, List.set_cons_succ])
            refine wpAnyH_ready (rs := [14]) (by kernel_rfl) (by simp) ?_
            refine AllReadyH.cons (o := _) rfl (fun K hK => ?_) AllReadyH.nil
            (try simp only [List.getElem_toArray, List.getElem_cons_zero, List.getElem_cons_succ])
            go_simp
            skip
            refine hK.out _ _ ?_ (fun hHeld => ?_)
            exact blk_cell (show (wd.setCell ⟨sb, 2, none⟩ _).heap[p2]? = some (.cells _ _ (0, 0)) from (blk_set_ne 2 _ hp2sb).trans X6.out) 0
            clear hK K
            (try simp only [List.getElem_toArray, List.getElem_cons_zero, List.getElem_cons_succ, Act.put, List.setIfInBounds_toArray, List.set_cons_zero, List.set_cons_succ])
            refine wpAnyH_done (by kernel_rfl) ?_ _
            refine NoPanic.normal ?_
            have SE8 := SE7.out.order (some ⟨g6, 0, none⟩) oc6 od (Chg.refl _ _) (RowOf.shrink icI_len SE7.out.ord) (fun y hy => .inl hy)
            have hk9 : k < (pl.set k true).length := by rw [List.length_set]; exact hkl
            obtain ⟨c9, f9⟩ := SE8.1.pcell k hk9
            have q9 := blk_cell SE8.1.blk
            have X9 := blk_cell (show (wd.setCell ⟨sb, 2, none⟩ (.slice (some ⟨g6, 0, none⟩) od.length oc6)).heap[p2]? = some (.cells _ _ (0, 0)) from (blk_set_ne 2 _ hp2sb).trans X6.out)
            have P9 := SE8.1.place k hk9 false
            rw [List.set_set, show pl.set k false = pl from by rw [← hpk]; exact List.set_getElem_self hkl] at P9
            have SE9 := Lib.hid P9.1
            have K9 := Lib.hid P9.2
            have K8 := Lib.hid SE8.2
            clear SE8 P9 q7 f7
            go_wp2_with fail
            go_ret
            refine ⟨pl, some ⟨g6, 0, none⟩, oc6, od, by rw [HRR.out]; rfl, SE9.out, (fun _ => ⟨rfl, rfl⟩), (fun y hy => by rw [HRR.out] at hy; cases hy), ?_, ?_⟩
            · refine (((KW.out.then (K6.out.thenSame (D6.out.mono (by simp))) (fun y hy hlt => ?_)).then K8.out (fun y hy hlt => ?_)).then K9.out (fun y hy _ => by simp at hy; subst hy; simp [seF]))
              · simp only [seF, List.mem_cons, ob, Option.map_some, Option.toList_some, List.not_mem_nil, or_false] at hy
                rcases hy with rfl | rfl | rfl
                · simp [seF]
                · simp [seF]
                · rcases O5.out with h | h
                  · simp [seF, h]
                  · omega
              · simp only [seF, List.mem_cons, ob, Option.map_some, Option.toList_some, List.not_mem_nil, or_false] at hy
                rcases hy with rfl | rfl | rfl
                · simp [seF]
                · simp [seF]
                · rcases O6.out y rfl with h | h
                  · have h : g8 = y := by simpa [ob] using h
                    subst h
                    rcases O5.out with h | h
                    · simp [seF, h]
                    · omega
                  · omega
            · intro y hy
              rcases O6.out y hy with h | h
              · have h : g8 = y := by simpa [ob] using h
                subst h
                rcases O5.out with h | h
                · exact .inl h
                · exact .inr (by omega)
              · exact .inr (by omega)
          ·
            (try simp only [List.getElem_toArray, List.getElem_cons_zero, List.getElem_cons_succ])
            go_simp
            skip
            refine hK.out _ _ ?_ (fun hHeld => ?_)
            exact blk_cell (show wd.heap[p2]? = some (.cells _ _ (0, 0)) from X6.out) 0
            clear hK K
            (try simp only [List.getElem_toArray, List.getElem_cons_zero, List.getElem_cons_succ, Act.put, List.setIfInBounds_toArray, List.set_cons_zero, List.set_cons_succ])
            refine wpAnyH_take (i := 9) (oi := _) (v := ?vD_9) rfl (by kernel_rfl) (by kernel_rfl) (by kernel_rfl) (fun _ _ _ h => h) (Or.inl ⟨by rfl, ?yD_9⟩) hHeld ?rD_9
            case yD_9 => (intro w hSw; (try dsimp only at hSw); (try simp only [List.getElem_toArray, List.getElem_cons_zero, List.getElem_cons_succ]); go_simp <;> with_reducible rfl)
            (try simp only [List.getElem_toArray, List.getElem_cons_zero, List.getElem_cons_succ, Act.put, List.setIfInBounds_toArray, List.set_cons_zero, List.set_cons_succ])
            refine wpAnyH_take (i := 10) (oi := _) (v := ?vD_10) rfl (by kernel_rfl) (by kernel_rfl) (by kernel_rfl) (fun _ _ _ h => h) (Or.inl ⟨by rfl, ?yD_10⟩) hHeld ?rD_10
            case yD_10 => (intro w hSw; (try dsimp only at hSw); (try simp only [List.getElem_toArray, List.getElem_cons_zero, List.getElem_cons_succ]); go_simp <;> with_reducible rfl)
            (try simp only [List.getElem_toArray, List.getElem_cons_zero, List.getElem_cons_succ, Act.put, List.setIfInBounds_toArray, List.set_cons_zero, List.set_cons_succ])
            refine wpAnyH_ready (rs := [4]) (by kernel_rfl) (by simp) ?_
            refine AllReadyH.cons (o := _) rfl (fun K hK => ?_) AllReadyH.nil
            (try simp only [List.getElem_toArray, List.getElem_cons_zero, List.getElem_cons_succ])
            go_simp
            skip
            refine hK.out _ _ ?_ (fun hHeld => ?_)
            exact blk_cell (show wd.heap[p2]? = some (.cells _ _ (0, 0)) from X6.out) 0
            clear hK K
            (try simp only [List.getElem_toArray, List.getElem_cons_zero, List.getElem_cons_succ, Act.put, List.setIfInBounds_toArray, List.set_cons_zero, List.set_cons_succ])
            refine wpAnyH_ready (rs := [11]) (by kernel_rfl) (by simp) ?_
            refine AllReadyH.cons (o := _) rfl (fun K hK => ?_) AllReadyH.nil
            (try simp only [List.getElem_toArray, List.getElem_cons_zero, List.getElem_cons_succ])
            refine step_list rfl ?_
            (refine wpl_slice_h rfl _ _ 27 rfl elemInts (sizeInt _) g6 0 (od.length + 1) oc6 od.length rfl (by show Value.int .i64 _ = _; exact congrArg (Value.int .i64) (by first | rfl | exact hwr)) hodc ?_)
            refine ⟨rfl, hK.out _ _ ?_ (fun hHeld => ?_)⟩
            exact blk_cell (show wd.heap[p2]? = some (.cells _ _ (0, 0)) from X6.out) 0
            clear hK K
            (try simp only [List.getElem_toArray, List.getElem_cons_zero, List.getElem_cons_succ, Act.put, List.setIfInBounds_toArray, List.set_cons_zero, List.set_cons_succ])
            refine wpAnyH_take (i := 12) (oi := _) (v := ?vD_12) rfl (by kernel_rfl) (by kernel_rfl) (by kernel_rfl) (fun _ _ _ h => h) (Or.inl ⟨by rfl, ?yD_12⟩) hHeld ?rD_12
            case yD_12 => (intro w hSw; (try dsimp only at hSw); (try simp only [List.getElem_toArray, List.getElem_cons_zero, List.getElem_cons_succ]); go_simp <;> with_reducible rfl)
            (try simp only [List.getElem_toArray, List.getElem_cons_zero, List.getElem_cons_succ, Act.put, List.setIfInBounds_toArray, List.set_cons_zero, List.set_cons_succ])
            refine wpAnyH_take (i := 13) (oi := _) (v := ?vD_13) rfl (by kernel_rfl) (by kernel_rfl) (by kernel_rfl) (fun _ _ _ h => h) (Or.inl ⟨by rfl, ?yD_13⟩) hHeld ?rD_13
            case yD_13 => (intro w hSw; (try dsimp only at hSw); (try simp only [List.getElem_toArray, List.getElem_cons_zero, List.getElem_cons_succ]); go_simp <;> with_reducible rfl)
            (try simp only [List.getElem_toArray, List.getElem_cons_zero, List.getElem_cons_succ, Act.put, List.setIfInBounds_toArray, List.set_cons_zero, List.set_cons_succ])
            refine wpAnyH_ready (rs := [14]) (by kernel_rfl) (by simp) ?_
            refine AllReadyH.cons (o := _) rfl (fun K hK => ?_) AllReadyH.nil
            (try simp only [List.getElem_toArray, List.getElem_cons_zero, List.getElem_cons_succ])
            go_simp
            skip
            refine hK.out _ _ ?_ (fun hHeld => ?_)
            exact blk_cell (show (wd.setCell ⟨sb, 2, none⟩ _).heap[p2]? = some (.cells _ _ (0, 0)) from (blk_set_ne 2 _ hp2sb).trans X6.out) 0
            clear hK K
            (try simp only [List.getElem_toArray, List.getElem_cons_zero, List.getElem_cons_succ, Act.put, List.setIfInBounds_toArray, List.set_cons_zero, List.set_cons_succ])
            refine wpAnyH_done (by kernel_rfl) ?_ _
            refine NoPanic.normal ?_
            have SE8 := SE7.out.order (some ⟨g6, 0, none⟩) oc6 od (Chg.refl _ _) (RowOf.shrink icI_len SE7.out.ord) (fun y hy => .inl hy)
            have hk9 : k < (pl.set k true).length := by rw [List.length_set]; exact hkl
            obtain ⟨c9, f9⟩ := SE8.1.pcell k hk9
            have q9 := blk_cell SE8.1.blk
            have X9 := blk_cell (show (wd.setCell ⟨sb, 2, none⟩ (.slice (some ⟨g6, 0, none⟩) od.length oc6)).heap[p2]? = some (.cells _ _ (0, 0)) from (blk_set_ne 2 _ hp2sb).trans X6.out)
            have P9 := SE8.1.place k hk9 false
            rw [List.set_set, show pl.set k false = pl from by rw [← hpk]; exact List.set_getElem_self hkl] at P9
            have SE9 := Lib.hid P9.1
            have K9 := Lib.hid P9.2
            have K8 := Lib.hid SE8.2
            clear SE8 P9 q7 f7
            go_wp2_with fail
            go_ret
            refine ⟨pl, some ⟨g6, 0, none⟩, oc6, od, by rw [HRR.out]; rfl, SE9.out, (fun _ => ⟨rfl, rfl⟩), (fun y hy => by rw [HRR.out] at hy; cases hy), ?_, ?_⟩
            · refine (((KW.out.then (K6.out.thenSame (D6.out.mono (by simp))) (fun y hy hlt => ?_)).then K8.out (fun y hy hlt => ?_)).then K9.out (fun y hy _ => by simp at hy; subst hy; simp [seF]))
              · simp only [seF, List.mem_cons, ob, Option.map_some, Option.toList_some, List.not_mem_nil, or_false] at hy
                rcases hy with rfl | rfl | rfl
                · simp [seF]
                · simp [seF]
                · rcases O5.out with h | h
                  · simp [seF, h]
                  · omega
              · simp only [seF, List.mem_cons, ob, Option.map_some, Option.toList_some, List.not_mem_nil, or_false] at hy
                rcases hy with rfl | rfl | rfl
                · simp [seF]
                · simp [seF]
                · rcases O6.out y rfl with h | h
                  · have h : g8 = y := by simpa [ob] using h
                    subst h
                    rcases O5.out with h | h
                    · simp [seF, h]
                    · omega
                  · omega
            · intro y hy
              rcases O6.out y hy with h | h
              · have h : g8 = y := by simpa [ob] using h
                subst h
                rcases O5.out with h | h
                · exact .inl h
                · exact .inr (by omega)
              · exact .inr (by omega)
end Go.Proofs.YtnhemokmgpelaaaGreatDoor
