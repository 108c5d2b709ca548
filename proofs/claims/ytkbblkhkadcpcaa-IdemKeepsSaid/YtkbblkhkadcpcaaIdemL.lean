/- Chapter 27: contracts of the law's own small functions: small, mirror, step. No condition. -/
import Derived.Test.YtkbblkhkadcpcaaIdemT
import Derived.Test.YtkbblkhkadcpcaaSlice
import Derived.Deep.RegionHeld3
namespace Go.Proofs.Ytkbblkhkadcpcaa
open Go.RowKit Go.ChangeShapes Go.WideShapes

/-- A call. -/
structure OpD where
  kind : Int
  key : ByteArray
  dig : ByteArray
  res : ByteArray
  now : Int

def oCells (x : OpD) : List Value := [.int .i64 x.kind, .string x.key, .string x.dig, .string x.res, .int .i64 x.now]
theorem oLen (x : OpD) : (oCells x).length = 5 := rfl
def OpD.good (x : OpD) : Prop := (Lit.int .i64 x.kind).wf = true ∧ x.key.size ≤ maxLen ∧ x.dig.size ≤ maxLen ∧ x.res.size ≤ maxLen ∧ (Lit.int .i64 x.now).wf = true

theorem decOp {H : Type} {enc : TypeId × Value → H} {w : World} {base : Nat} {spare : Nat → Bool} {held : Bool} {fs : Array Field} (hfs : Try.prog.underlying 35 = some (.struct fs)) (f : Nat → Value)
    (h : ∀ (j : Nat) (fd : Field), fs[j]? = some fd → ∃ (y : DataW H × List MemPlace) (n : Nat), DataW.trod enc Try.prog w base spare held n fd.type [f j] = some y) : ∃ x : OpD, x.good ∧ ∀ j, j < fs.size → (oCells x)[j]? = some (f j) := by
  rw [Try.underlying35] at hfs
  cases hfs
  obtain ⟨y0, n0, h0⟩ := h 0 _ rfl
  obtain ⟨y1, n1, h1⟩ := h 1 _ rfl
  obtain ⟨y2, n2, h2⟩ := h 2 _ rfl
  obtain ⟨y3, n3, h3⟩ := h 3 _ rfl
  obtain ⟨y4, n4, h4⟩ := h 4 _ rfl
  obtain ⟨a, e0, _, wa⟩ := DataW.trod_int Try.underlying3 h0
  obtain ⟨b, e1, _, wb⟩ := DataW.trod_string Try.underlying9 h1
  obtain ⟨c, e2, _, wc⟩ := DataW.trod_string Try.underlying9 h2
  obtain ⟨d, e3, _, wd⟩ := DataW.trod_string Try.underlying9 h3
  obtain ⟨e, e4, _, we⟩ := DataW.trod_int Try.underlying3 h4
  simp only [List.cons.injEq, and_true] at e0 e1 e2 e3 e4
  refine ⟨⟨a, b, c, d, e⟩, ⟨wa, wb, wc, wd, we⟩, fun j hj => ?_⟩
  match j, hj with
  | 0, _ => simp [oCells, e0]
  | 1, _ => simp [oCells, e1]
  | 2, _ => simp [oCells, e2]
  | 3, _ => simp [oCells, e3]
  | 4, _ => simp [oCells, e4]

theorem open_ops {H : Type} {enc : TypeId × Value → H} {w : World} {base : Nat} {spare : Nat → Bool} {held : Bool} {a : Option Addr} {len cap : Nat} {d : DataW H} {ps : List MemPlace}
    (h : DataW.Trod enc Try.prog w base spare held 32 (.slice a len cap) d ps) : ∃ l : List OpD, SlIs oCells 5 w a len l ∧ (∀ x ∈ l, x.good) ∧ len ≤ maxLen :=
  open_sl oCells OpD.good Try.underlying32 Try.underlying35 (by kernel_rfl) (by kernel_rfl) (by decide) oLen (decOp Try.underlying35) h

theorem open_op {H : Type} {enc : TypeId × Value → H} {w : World} {base : Nat} {spare : Nat → Bool} {held : Bool} {r : Reach} {b0 : Nat} {v : Value} {d : DataW H} {ps : List MemPlace}
    (hv : Value.okWide Try.prog w r b0 35 v) (h : DataW.Trod enc Try.prog w base spare held 35 v d ps) : ∃ x : OpD, v = .agg (oCells x).toArray ∧ x.good :=
  open_st oCells OpD.good Try.underlying35 (by kernel_rfl) (by kernel_rfl) oLen (decOp Try.underlying35) hv h

theorem byteL (a b : ByteArray) : a.toList = b.toList ↔ a = b := by rw [← Lib.bytes_beq_iff, beq_iff_eq]

def smallL (l : List OpD) : Bool := decide (l.length ≤ 60) && l.all fun x => decide (x.key.size ≤ 100) && decide (x.dig.size ≤ 100) && decide (x.res.size ≤ 5000)

theorem smallL_bad {l : List OpD} {k : Nat} (hk : k < l.length) {x : OpD} (hx : x = l[k]) (hb : 100 < x.key.size ∨ 100 < x.dig.size ∨ 5000 < x.res.size) : smallL l = false := by
  have : (l.all fun x => decide (x.key.size ≤ 100) && decide (x.dig.size ≤ 100) && decide (x.res.size ≤ 5000)) = false := by
    rw [List.all_eq_false]
    refine ⟨l[k], List.getElem_mem hk, ?_⟩
    rw [← hx]
    simp only [Bool.and_eq_true, decide_eq_true_eq]
    omega
  simp [smallL, this]

set_option maxHeartbeats 2000000 in
set_option maxRecDepth 100000 in
theorem smallF_any (a : Option Addr) (len cap : Nat) (l : List OpD) (w : World) (h : SlIs oCells 5 w a len l) (hg : ∀ x ∈ l, x.good) (hm : len ≤ maxLen) : Calls Try.prog 11 #[.slice a len cap] w fun e w' => e = .returned (.bool (smallL l)) ∧ w = w' := by
  obtain ⟨hl, hcell⟩ := h
  have Hcell := Lib.hid hcell
  have Hg := Lib.hid hg
  have Hl := Lib.hid hl
  unfold maxLen at hm
  clear hcell hg
  by_cases h60 : 60 < len
  · have HR : Hid (smallL l = false) := by show _ = _; simp [smallL]; omega
    rw [HR.out]
    clear hl
    go_enter Try.func11, Try.ntmps11
    go_wp2_with fail
    go_ret
    exact ⟨rfl, rfl⟩
  · obtain ⟨R, hR⟩ : ∃ R, R = smallL l := ⟨_, rfl⟩
    rw [← hR]
    have HR := Lib.hid hR
    clear hR hl
    go_enter Try.func11, Try.ntmps11
    go_wp2_with fail
    go_loop [2, 9] (fun r i => ∃ k : Nat, i = .int .i64 k ∧ k ≤ len ∧ r = .bool false ∧ ((l.take k).all fun x => decide (x.key.size ≤ 100) && decide (x.dig.size ≤ 100) && decide (x.res.size ≤ 5000)) = true) (fun _ i => len - (intOf i).toNat)
    case atStart => exact ⟨0, rfl, Nat.zero_le _, rfl, by simp⟩
    case round =>
      obtain ⟨k, rfl, hkl, rfl, hall⟩ := hrel
      have Hall := Lib.hid hall; clear hall
      by_cases hlt : k < len
      · have hk2 : k < l.length := by rw [Hl.out]; exact hlt
        obtain ⟨b, off, rfl, hb, hcc⟩ := Hcell.out k hk2
        obtain ⟨x, hx⟩ : ∃ x, x = l[k] := ⟨_, rfl⟩
        rw [← hx] at hcc
        have Hx := Lib.hid hx
        have hxg := Hg.out x (hx ▸ List.getElem_mem hk2)
        obtain ⟨_, g1, g2, g3, _⟩ := hxg
        have d1 := hcc 1 (by omega)
        have d2 := hcc 2 (by omega)
        have d3 := hcc 3 (by omega)
        simp only [oCells, List.getElem?_cons_zero, List.getElem?_cons_succ] at d1 d2 d3
        unfold maxLen at g1 g2 g3
        clear hcc hx
        go_wp2
        all_goals first
          | (go_ret
             refine ⟨retB ?_, rfl⟩
             rw [HR.out, smallL_bad hk2 Hx.out (by omega)])
          | (refine ⟨⟨k + 1, by go_num, by omega, rfl, ?_⟩, by simp [intOf]; omega⟩
             rw [List.take_succ_eq_append_getElem hk2, List.all_append, Hall.out, ← Hx.out]
             simp only [List.all_cons, List.all_nil, Bool.and_true, Bool.true_and, Bool.and_eq_true, decide_eq_true_eq]
             omega)
      · go_wp2
        go_ret
        refine ⟨retB ?_, rfl⟩
        have h1 := Hall.out
        rw [List.take_of_length_le (by rw [Hl.out]; omega)] at h1
        rw [HR.out]
        have := Hl.out
        simp only [smallL, h1, Bool.and_true]
        simp; omega

theorem mirror_any (F : List Nat) (w : World) (hF : ∀ x ∈ F, x < w.heap.size) : Calls Try.prog 13 #[] w fun e w' => ∃ rb, e = .returned (.pointer (some ⟨rb, 0, none⟩)) ∧ RTabIs w' rb F ⟨1, 1, 0, []⟩ ∧ w.heap.size ≤ rb ∧ Chg [] w w' := by
  go_enter Try.func13, Try.ntmps13
  go_wp2_with fail
  refine (rnew_ok 1 1 F w hF (by omega) (by omega) (by omega) (by omega)).mono ?_
  rintro e w1 ⟨rb, rfl, ht, hrb, hc⟩
  go_wp2_with fail
  go_ret
  exact ⟨rb, rfl, ht, hrb, hc⟩

def stepP (s : St) (x : OpD) : St := if x.kind = 0 then (beginS s x.key x.dig x.now).2 else if x.kind = 1 then (finishS s x.key x.dig x.res x.now).2 else if x.kind = 2 then (abandonS s x.key x.dig x.now).2 else if x.kind = 3 then (sweepS s x.now).2 else s
def stepR (s : RSt) (x : OpD) : RSt := if x.kind = 0 then (rbeginS s x.key x.dig x.now).2 else if x.kind = 1 then (rfinishS s x.key x.dig x.res x.now).2 else if x.kind = 2 then (rabandonS s x.key x.dig x.now).2 else if x.kind = 3 then (rsweepS s x.now).2 else s
def stepB (s : St) (r : RSt) (x : OpD) : Bool :=
  if x.kind = 0 then decide ((beginS s x.key x.dig x.now).1 = (rbeginS r x.key x.dig x.now).1) else if x.kind = 1 then decide ((finishS s x.key x.dig x.res x.now).1 = (rfinishS r x.key x.dig x.res x.now).1) else
  if x.kind = 2 then decide ((abandonS s x.key x.dig x.now).1 = (rabandonS r x.key x.dig x.now).1) else if x.kind = 3 then decide ((sweepS s x.now).1 = (rsweepS r x.now).1) else true

def StepPost (w : World) (tb mb rb : Nat) (s : St) (r : RSt) (b : Bool) (e : Ending) (w' : World) : Prop :=
  e = .returned (.bool b) ∧ TabIs w' tb mb s ∧ RTabIs w' rb [tb, mb] r ∧ Chg [tb, mb, rb] w w'

set_option maxHeartbeats 4000000 in
set_option maxRecDepth 100000 in
theorem step_any (tb mb rb : Nat) (s : St) (r : RSt) (x : OpD) (w : World) (ht : TabIs w tb mb s) (hr : RTabIs w rb [tb, mb] r) (hs : s.ok) (hro : r.ok) (hx : x.good) :
    Calls Try.prog 12 #[.pointer (some ⟨tb, 0, none⟩), .pointer (some ⟨rb, 0, none⟩), .agg (oCells x).toArray] w (StepPost w tb mb rb (stepP s x) (stepR r x) (stepB s r x)) := by
  obtain ⟨kd, ky, dg, rs, nw⟩ := x
  obtain ⟨_, g1, g2, g3, _⟩ := hx
  simp only at g1 g2 g3
  have htl := lt_of_heap ht.1
  have hml := ht.2.lt
  have hF : ∀ x ∈ [tb, mb], x < w.heap.size := by simp; omega
  have hrn : rb ≠ tb ∧ rb ≠ mb := by have := hr.1; simpa using this
  obtain ⟨hrn1, hrn2⟩ := hrn
  have Ht := Lib.hid ht
  have Hr := Lib.hid hr
  have Hs := Lib.hid hs
  have Hro := Lib.hid hro
  have hrl : rb < w.heap.size := by obtain ⟨_, sv, h1, _⟩ := hr; exact lt_of_heap h1
  have Hta : Hid (∀ X, TabIs (w.alloc X) tb mb s) := fun X => ht.kept (S := []) ((Chg.refl _ _).alloc _) (by simp) (by simp)
  have hsl : s.l.length ≤ 4096 := by obtain ⟨_, h2, _, _, _, _, h7⟩ := hs; omega
  clear ht hr hs hro
  simp only [oCells]
  by_cases k0 : kd = 0
  · subst k0
    simp only [stepP, stepR, stepB, if_true]
    have cb := fun w' (h : TabIs w' tb mb s) => begin_any tb mb s ky dg nw w' h Hs.out g1 g2
    have cr := fun w' (h : RTabIs w' rb [tb, mb] r) (hF : ∀ x ∈ [tb, mb], x < w'.heap.size) => rbegin_any rb [tb, mb] r ky dg nw w' h Hro.out hF g1 g2
    generalize beginS s ky dg nw = P at *
    generalize rbeginS r ky dg nw = Q at *
    obtain ⟨⟨pa, ps, pe⟩, s'⟩ := P
    obtain ⟨⟨qa, qs, qe⟩, r'⟩ := Q
    obtain ⟨B, hB⟩ : ∃ B, B = decide (((pa, ps, pe) : Int × ByteArray × Int) = (qa, qs, qe)) := ⟨_, rfl⟩
    simp only
    rw [← hB]
    have HB := Lib.hid hB
    have Cb := Lib.hid cb
    have Cr := Lib.hid cr
    clear hB cb cr
    go_enter Try.func12, Try.ntmps12
    go_wp2_with fail
    refine (Cb.out _ (Hta.out _)).mono ?_
    rintro e w1 ⟨rfl, ht1, hc1⟩
    have hr1 : RTabIs w1 rb [tb, mb] r := Hr.out.kept (((Chg.refl [tb, mb] _).alloc _).thenSame hc1) (by simp)
    have hbx := hc1.at (b := w.heap.size) (by simp; omega) (heap_alloc_new w _)
    have hcx := blk_cell hbx
    have hsz1 := hc1.size
    simp only [World.size_alloc] at hsz1
    have hcA : Chg [tb, mb, rb] w w1 := ((Chg.refl [tb, mb, rb] w).alloc (.cells #[.int .i64 0, .string ky, .string dg, .string rs, .int .i64 nw] 35)).then hc1 (by simp)
    have HcA := Lib.hid hcA
    have Ht1 := Lib.hid ht1
    have Hr1 := Lib.hid hr1
    clear ht1 hr1 hc1 hcA
    go_wp2_with fail
    refine (Cr.out _ Hr1.out (by simp; omega)).mono ?_
    rintro e w2 ⟨rfl, hr2, hc2⟩
    have ht2 : TabIs w2 tb mb s' := Ht1.out.kept hc2 (by simp; omega) (by simp; omega)
    have hcB : Chg [tb, mb, rb] w w2 := HcA.out.then hc2 (by simp)
    have Ht2 := Lib.hid ht2
    have Hr2 := Lib.hid hr2
    have HcB := Lib.hid hcB
    clear hc2 ht2 hr2 hcB Ht1 Hr1 HcA
    go_wp2_with fail
    all_goals
      go_ret
      refine ⟨retB ?_, Ht2.out, Hr2.out, HcB.out⟩
      rw [HB.out, Bool.eq_iff_iff]
      simp only [Prod.mk.injEq, decide_eq_true_eq]
    · have h1 := (byteL ps qs).1 (by assumption)
      have h2 : pa = qa := by assumption
      simp [h1, h2]
    · have h1 : ¬ ps = qs := fun e => (by assumption : ¬ ps.toList = qs.toList) ((byteL ps qs).2 e)
      simp [h1]
    · have h1 : ¬ pa = qa := by assumption
      simp [h1]
  · by_cases k1 : kd = 1
    · subst k1
      simp only [stepP, stepR, stepB, if_neg k0, if_true]
      have cb := fun w' (h : TabIs w' tb mb s) => finish_any tb mb s ky dg rs nw w' h Hs.out g1 g2 g3
      have cr := fun w' (h : RTabIs w' rb [tb, mb] r) (hF : ∀ x ∈ [tb, mb], x < w'.heap.size) => rfinish_any rb [tb, mb] r ky dg rs nw w' h Hro.out hF g1 g2 g3
      generalize finishS s ky dg rs nw = P at *
      generalize rfinishS r ky dg rs nw = Q at *
      obtain ⟨pe, s'⟩ := P
      obtain ⟨qe, r'⟩ := Q
      simp only
      have Cb := Lib.hid cb
      have Cr := Lib.hid cr
      clear cb cr
      go_enter Try.func12, Try.ntmps12
      go_wp2_with fail
      go_region_held3 (fun w' => w'.cell? ⟨w.heap.size, 1, none⟩ = some (.string ky) ∧ w'.cell? ⟨w.heap.size, 2, none⟩ = some (.string dg) ∧ w'.cell? ⟨w.heap.size, 3, none⟩ = some (.string rs) ∧ w'.cell? ⟨w.heap.size, 4, none⟩ = some (.int .i64 nw))
        (first | go_keep | (refine ⟨?_, ?_, ?_, ?_⟩ <;> (rw [hkp2]; rfl)) | (refine ⟨?_, ?_, ?_, ?_⟩ <;> (rw [hkp1]; rfl)))
        (first
          | (go_at_call 14; refine (Cb.out _ (Ht.out.kept (S := []) (((Chg.refl _ _).alloc _).drew) (by simp) (by simp))).mono ?_; rintro e w1 ⟨rfl, ht1, hc1⟩; have hkp1 := blk_cell (hc1.at (b := w.heap.size) (by simp; omega) (heap_alloc_new w _)); have hsz1 := hc1.size; simp only [heap_drew, World.size_alloc] at hsz1; have hcA : Chg [tb, mb, rb] w w1 := (((Chg.refl [tb, mb, rb] w).alloc (.cells #[.int .i64 1, .string ky, .string dg, .string rs, .int .i64 nw] 35)).drew).then hc1 (by simp); have Hr1 := Lib.hid (Hr.out.kept ((((Chg.refl [tb, mb] _).alloc _).drew).thenSame hc1) (by simp)); clear hc1)
          | (go_at_call 29; refine (Cr.out _ Hr1.out (by simp; omega)).mono ?_; rintro e w2 ⟨rfl, hr2, hc2⟩; have hkp2 : ∀ i, w2.cell? ⟨w.heap.size, i, none⟩ = w1.cell? ⟨w.heap.size, i, none⟩ := fun i => World.cell?_of_block (w := w1) (a := ⟨w.heap.size, i, none⟩) (hc2.block w.heap.size (by omega) (by simp; omega)); simp only [hkp1] at hkp2; have ht2 := ht1.kept hc2 (by simp; omega) (by simp; omega); have hcB := hcA.then hc2 (by simp)))
      go_wp2_with fail
      go_ret
      refine ⟨retB ?_, ht2, hr2, hcB⟩
      rw [Bool.eq_iff_iff]
      simp
    · by_cases k2 : kd = 2
      · subst k2
        simp only [stepP, stepR, stepB, if_neg k0, if_neg k1, if_true]
        have cb := fun w' (h : TabIs w' tb mb s) => abandon_any tb mb s ky dg nw w' h g1 g2
        have cr := fun w' (h : RTabIs w' rb [tb, mb] r) (hF : ∀ x ∈ [tb, mb], x < w'.heap.size) => rabandon_any rb [tb, mb] r ky dg nw w' h Hro.out hF g1 g2
        generalize abandonS s ky dg nw = P at *
        generalize rabandonS r ky dg nw = Q at *
        obtain ⟨pe, s'⟩ := P
        obtain ⟨qe, r'⟩ := Q
        simp only
        have Cb := Lib.hid cb
        have Cr := Lib.hid cr
        clear cb cr
        go_enter Try.func12, Try.ntmps12
        go_wp2_with fail
        go_region_held3 (fun w' => w'.cell? ⟨w.heap.size, 1, none⟩ = some (.string ky) ∧ w'.cell? ⟨w.heap.size, 2, none⟩ = some (.string dg) ∧ w'.cell? ⟨w.heap.size, 4, none⟩ = some (.int .i64 nw))
          (first | go_keep | (refine ⟨?_, ?_, ?_⟩ <;> (rw [hkp2]; rfl)) | (refine ⟨?_, ?_, ?_⟩ <;> (rw [hkp1]; rfl)))
          (first
            | (go_at_call 22; refine (Cb.out _ (Ht.out.kept (S := []) (((Chg.refl _ _).alloc _).drew) (by simp) (by simp))).mono ?_; rintro e w1 ⟨rfl, ht1, hc1⟩; have hkp1 := blk_cell (hc1.at (b := w.heap.size) (by simp; omega) (heap_alloc_new w _)); have hsz1 := hc1.size; simp only [heap_drew, World.size_alloc] at hsz1; have hcA : Chg [tb, mb, rb] w w1 := (((Chg.refl [tb, mb, rb] w).alloc (.cells #[.int .i64 2, .string ky, .string dg, .string rs, .int .i64 nw] 35)).drew).then hc1 (by simp); have Hr1 := Lib.hid (Hr.out.kept ((((Chg.refl [tb, mb] _).alloc _).drew).thenSame hc1) (by simp)); clear hc1)
            | (go_at_call 30; refine (Cr.out _ Hr1.out (by simp; omega)).mono ?_; rintro e w2 ⟨rfl, hr2, hc2⟩; have hkp2 : ∀ i, w2.cell? ⟨w.heap.size, i, none⟩ = w1.cell? ⟨w.heap.size, i, none⟩ := fun i => World.cell?_of_block (w := w1) (a := ⟨w.heap.size, i, none⟩) (hc2.block w.heap.size (by omega) (by simp; omega)); simp only [hkp1] at hkp2; have ht2 := ht1.kept hc2 (by simp; omega) (by simp; omega); have hcB := hcA.then hc2 (by simp)))
        go_wp2_with fail
        go_ret
        refine ⟨retB ?_, ht2, hr2, hcB⟩
        rw [Bool.eq_iff_iff]
        simp
      · by_cases k3 : kd = 3
        · subst k3
          simp only [stepP, stepR, stepB, if_neg k0, if_neg k1, if_neg k2, if_true]
          have cb := fun w' (h : TabIs w' tb mb s) => sweep_any tb mb s  nw w' h hsl
          have cr := fun w' (h : RTabIs w' rb [tb, mb] r) (hF : ∀ x ∈ [tb, mb], x < w'.heap.size) => rsweep_any rb [tb, mb] r  nw w' h Hro.out hF 
          generalize sweepS s  nw = P at *
          generalize rsweepS r  nw = Q at *
          obtain ⟨pe, s'⟩ := P
          obtain ⟨qe, r'⟩ := Q
          simp only
          have Cb := Lib.hid cb
          have Cr := Lib.hid cr
          clear cb cr
          go_enter Try.func12, Try.ntmps12
          go_wp2_with fail
          go_region_held3 (fun w' => w'.cell? ⟨w.heap.size, 4, none⟩ = some (.int .i64 nw))
            (first | go_keep | (rw [hkp2]; rfl) | (rw [hkp1]; rfl))
            (first
              | (go_at_call 15; refine (Cb.out _ (Ht.out.kept (S := []) (((Chg.refl _ _).alloc _).drew) (by simp) (by simp))).mono ?_; rintro e w1 ⟨rfl, ht1, hc1⟩; have hkp1 := blk_cell (hc1.at (b := w.heap.size) (by simp; omega) (heap_alloc_new w _)); have hsz1 := hc1.size; simp only [heap_drew, World.size_alloc] at hsz1; have hcA : Chg [tb, mb, rb] w w1 := (((Chg.refl [tb, mb, rb] w).alloc (.cells #[.int .i64 3, .string ky, .string dg, .string rs, .int .i64 nw] 35)).drew).then hc1 (by simp); have Hr1 := Lib.hid (Hr.out.kept ((((Chg.refl [tb, mb] _).alloc _).drew).thenSame hc1) (by simp)); clear hc1)
              | (go_at_call 31; refine (Cr.out _ Hr1.out (by simp; omega)).mono ?_; rintro e w2 ⟨rfl, hr2, hc2⟩; have hkp2 : ∀ i, w2.cell? ⟨w.heap.size, i, none⟩ = w1.cell? ⟨w.heap.size, i, none⟩ := fun i => World.cell?_of_block (w := w1) (a := ⟨w.heap.size, i, none⟩) (hc2.block w.heap.size (by omega) (by simp; omega)); simp only [hkp1] at hkp2; have ht2 := ht1.kept hc2 (by simp; omega) (by simp; omega); have hcB := hcA.then hc2 (by simp)))
          go_wp2_with fail
          go_ret
          refine ⟨retB ?_, ht2, hr2, hcB⟩
          rw [Bool.eq_iff_iff]
          simp
        · simp only [stepP, stepR, stepB, if_neg k0, if_neg k1, if_neg k2, if_neg k3]
          have b0 : (kd == 0) = false := by simpa using k0
          have b1 : (kd == 1) = false := by simpa using k1
          have b2 : (kd == 2) = false := by simpa using k2
          have b3 : (kd == 3) = false := by simpa using k3
          go_enter Try.func12, Try.ntmps12
          go_wp2_with fail
          go_ret
          exact ⟨rfl, Hta.out _, Hr.out.kept (S := []) ((Chg.refl _ _).alloc _) (by simp), (Chg.refl _ _).alloc _⟩
end Go.Proofs.Ytkbblkhkadcpcaa
