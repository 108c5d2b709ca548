/- Chapter 50: contract: Serial; plain: what Serial returns. Condition (Serial): the table of Itoa lies as the program lays it. -/
import Derived.Test.YtnhemokmgpelaaaDoorLinP
import Derived.Test.YtnhemokmgpelaaaDoorClnA
namespace Go.Proofs.YtnhemokmgpelaaaDoor
set_option linter.unusedVariables false
set_option linter.unusedSimpArgs false
open Go.RowKit
/-- A call as Serial returns it. -/
def ansP (st : List Ce) (x : PCl) : PCl := if openB x = true then ⟨x.o, (doZ st x.o).2.2.1, (doZ st x.o).2.2.2, x.from_, x.to_⟩ else x
def serGo (l : List PCl) : List Int → List Ce → List PCl
  | [], _ => []
  | k :: r, st => match l[k.toNat]? with
    | none => []
    | some x => ansP st x :: serGo l r (doZ st x.o).2.1
def serZ (st : List Ce) (l : List PCl) : List PCl × Int := if (findZ st l).2 ≠ 0 then ([], (findZ st l).2) else (serGo l (findZ st l).1 st, 0)
/-- Each call of the order is performed, and has its answer. -/
def LegOk (l : List PCl) : List Int → List Ce → Prop
  | [], _ => True
  | k :: r, st => ∃ (n : Nat) (x : PCl), k = n ∧ l[n]? = some x ∧ (doZ st x.o).1 = 0 ∧ (openB x = false → (doZ st x.o).2.2.1 = x.err ∧ (doZ st x.o).2.2.2 = x.ans) ∧ LegOk l r (doZ st x.o).2.1
theorem legOk_go {l : List PCl} : ∀ {o : List Int} {st : List Ce} {i : Nat}, (∀ k ∈ o, 0 ≤ k) → (legalGo l o st i).2 = 0 → LegOk l o st := by
  intro o
  induction o with
  | nil => intros; trivial
  | cons k r ih =>
    intro st i hk h
    rw [legalGo] at h
    split at h
    · simp at h
    · have h0 := hk k (by simp)
      cases hf : fitsI l st k with
      | none => rw [hf] at h; simp at h
      | some s =>
        rw [hf] at h
        unfold fitsI at hf
        cases hx : l[k.toNat]? with
        | none => rw [hx] at hf; simp at hf
        | some x =>
          rw [hx] at hf
          obtain ⟨f1, f2, f3⟩ := fits_some hf
          exact ⟨k.toNat, x, by omega, hx, f1, f3, ih (fun j hj => hk j (by simp [hj])) (by rw [← f2]; exact h)⟩
/-- What Find returns. -/
theorem find_facts {st : List Ce} {l : List PCl} (h : (findZ st l).2 = 0) : hchkZ st l = 0 ∧ LegOk l (findZ st l).1 st ∧ ∃ q, placeAll (List.replicate l.length false) (findZ st l).1 = some q ∧ doneB l q = true := by
  unfold findZ at h ⊢
  split at h
  · rename_i h1; exact absurd h h1
  · rename_i h1
    have hz : hchkZ st l = 0 := by simpa using h1
    rw [if_neg h1]
    cases hf : findF l l.length st (List.replicate l.length false) [] with
    | none => rw [hf] at h; simp at h
    | some o =>
      obtain ⟨r, e1, e2, q, e3, e4⟩ := find_sound l.length st (List.replicate l.length false) [] o 0 List.length_replicate hf
      rw [List.nil_append] at e1
      subst e1
      exact ⟨hz, legOk_go (fun k hk => (placeAll_fresh e3 k hk).1) (by rw [e2]), q, e3, e4⟩
theorem legOk_drop {l : List PCl} {o : List Int} {k : Nat} {st : List Ce} (hk : k < o.length) (h : LegOk l (o.drop k) st) : ∃ (n : Nat) (x : PCl), o[k] = n ∧ l[n]? = some x ∧ (doZ st x.o).1 = 0 ∧ (openB x = false → (doZ st x.o).2.2.1 = x.err ∧ (doZ st x.o).2.2.2 = x.ans) ∧ LegOk l (o.drop (k + 1)) (doZ st x.o).2.1 ∧ serGo l (o.drop k) st = ansP st x :: serGo l (o.drop (k + 1)) (doZ st x.o).2.1 := by
  rw [List.drop_eq_getElem_cons hk] at h ⊢
  obtain ⟨n, x, h1, h2, h3, h4, h5⟩ := h
  refine ⟨n, x, h1, h2, h3, h4, h5, ?_⟩
  rw [h1, serGo, Int.toNat_natCast, h2]
/-- The calls that Serial has so far: D, at the slice a. -/
structure SerI (w wr : World) (a : Option Addr) (c : Nat) (D : List Cl) : Prop where
  chg : Chg [] w wr
  row : RowOf clC 8 wr w.heap.size 41 (.slice a D.length c) D
  ins : ∀ d ∈ D, ClIn wr d ∧ ∀ b, d.on b → ob a ≠ some b
theorem SerI.keptN {w wr wx : World} {a : Option Addr} {c : Nat} {D : List Cl} (h : SerI w wr a c D) (hc : Chg [] wr wx) : SerI w wx a c D where
  chg := h.chg.thenSame hc
  row := h.row.kept hc (by simp)
  ins := fun d hd => ⟨(h.ins d hd).1.kept hc, (h.ins d hd).2⟩
theorem SerI.keptB {w wr wx : World} {a : Option Addr} {c : Nat} {D : List Cl} {S : List Nat} (h : SerI w wr a c D) (hc : Chg S wr wx) (hS : ∀ b ∈ S, wr.heap.size ≤ b) : SerI w wx a c D where
  chg := (h.chg.then hc (fun x hx hl => by have := hS x hx; have := h.chg.size; omega))
  row := h.row.kept hc (fun g hg hm => by have := hS g hm; have := (h.row.block g hg).2; omega)
  ins := fun d hd => ⟨(h.ins d hd).1.keptOn hc (fun b hb hm => by have := hS b hm; have := (h.ins d hd).1.on_lt hb; omega), (h.ins d hd).2⟩
theorem SerI.step {w w5 w6 : World} {a : Option Addr} {c : Nat} {D : List Cl} (h : SerI w w5 a c D) {y : Cl} (hy : ClIn w5 y) (hya : ∀ b, y.on b → ob a ≠ some b) {g cap : Nat}
    (hg : Chg (ob a).toList w5 w6) (hrow : RowOf clC 8 w6 w.heap.size 41 (.slice (some ⟨g, 0, none⟩) (D.length + 1) cap) (D ++ [y])) (hat : ob a = some g ∨ g = w5.heap.size) : SerI w w6 (some ⟨g, 0, none⟩) cap (D ++ [y]) := by
  have hb := h.row.block
  rw [ob_eq] at hb
  have hns : ∀ d, ClIn w5 d → (∀ b, d.on b → ob a ≠ some b) → ClIn w6 d ∧ ∀ b, d.on b → ob (some ⟨g, 0, none⟩) ≠ some b := fun d h1 h2 => by
    refine ⟨h1.keptOn hg (fun b hbo hm => h2 b hbo (by simpa using hm)), fun b hbo e => ?_⟩
    have e : g = b := by simpa [ob] using e
    subst e
    rcases hat with e2 | e2
    · exact h2 g hbo e2
    · have := h1.on_lt hbo
      omega
  refine ⟨h.chg.then hg (fun x hx hl => ?_), by simpa using hrow, fun d hd => ?_⟩
  · simp only [Option.mem_toList] at hx
    have := (hb x hx).1
    omega
  · rcases List.mem_append.1 hd with hd | hd
    · exact hns d (h.ins d hd).1 (h.ins d hd).2
    · simp at hd
      subst hd
      exact hns d hy hya
def SerP (w : World) (r : List PCl × Int) (e : Ending) (w' : World) : Prop :=
  ∃ (oa : Option Addr) (oc : Nat) (D : List Cl), e = .returned (.tuple #[.slice oa D.length oc, .int .i64 r.2]) ∧ D.map Cl.p = r.1 ∧ LIn w' oa oc D ∧ Chg [] w w'
theorem good_p {x : EOp} {y : EOp} (h : x.good) (he : y.p = x.p) : y.good := by
  obtain ⟨h1, h2, h3, h4, h5⟩ := h
  obtain ⟨a, b, c, ad, ac, args⟩ := x
  obtain ⟨a', b', c', ad', ac', args'⟩ := y
  simp only [EOp.p, POp.mk.injEq] at he
  obtain ⟨rfl, rfl, rfl, e⟩ := he
  have hl : args'.length = args.length := by simpa using congrArg List.length e
  refine ⟨h1, h2, h3, by rw [hl]; exact h4, fun d hd => ?_⟩
  have : d.L ∈ args.map Rr.L := by rw [← e]; exact List.mem_map_of_mem hd
  obtain ⟨d', hd', e'⟩ := List.mem_map.1 this
  rw [← e']
  exact h5 d' hd'
theorem callInfo : (Tryd.prog.info? 41).map (fun i => (i.zero, i.size, i.bytes)) = some (some (.agg #[.string ⟨#[]⟩, .string ⟨#[]⟩, .string ⟨#[]⟩, .slice none 0 0, .int .i64 0, .slice none 0 0, .int .i64 0, .int .i64 0]), 8, 120) := by kernel_rfl
variable {w : World} {la : Option Addr} {lc : Nat} {l : List Cl} {sa : Option Addr} {sc : Nat} {st : List Ce}
set_option maxHeartbeats 16000000 in
set_option maxRecDepth 100000 in
theorem serial_any (h : LIn w la lc l) (hg : ∀ x ∈ l, goodCl x) (hga : ∀ x ∈ l, goodL x.ans) (hs : InIs ceC 4 w sa sc st) (hsg : goodL st) (ht : TabW w) :
    Calls Tryd.prog 18 #[.slice sa st.length sc, .slice la l.length lc] w (SerP w (serZ st (l.map Cl.p))) := by
  have A := Lib.hid (lfind_any h hg hs hsg ht)
  by_cases hz : (findZ st (l.map Cl.p)).2 = 0
  case neg =>
    have HE := Lib.hid (show serZ st (l.map Cl.p) = ([], (findZ st (l.map Cl.p)).2) by unfold serZ; rw [if_pos hz])
    rw [HE.out]
    have hzb : ((findZ st (l.map Cl.p)).2 != 0) = true := by simpa using hz
    clear h hg hga hs hsg ht hz HE
    generalize findZ st (l.map Cl.p) = z at *
    obtain ⟨z1, z2⟩ := z
    simp only at hzb A
    go_enter Tryd.func18, Tryd.ntmps18
    go_wp2_with fail
    refine A.out.mono ?_; rintro e w2 ⟨oa, oc, rfl, -, -, hc⟩
    have C2 := Lib.hid hc
    clear hc
    go_wp2_with fail
    go_ret2
    exact ⟨none, 0, [], rfl, rfl, ⟨⟨⟨rfl, fun k hk => by simp at hk⟩, Nat.le_refl _, Nat.zero_le _, fun _ => rfl⟩, fun x hx => by cases hx⟩, C2.out⟩
  obtain ⟨f1, f2, q, f3, f4⟩ := find_facts hz
  have HE := Lib.hid (show serZ st (l.map Cl.p) = (serGo (l.map Cl.p) (findZ st (l.map Cl.p)).1 st, 0) by unfold serZ; rw [if_neg (by simp [hz])])
  rw [HE.out]
  have hcl := compl_len (l := l.map Cl.p) (order := (findZ st (l.map Cl.p)).1) (by unfold completeB; rw [f3]; exact f4)
  rw [List.length_map] at hcl
  have hh : hcheckZ (l.map Cl.p) = 0 ∧ checkZ st = 0 := by
    unfold hchkZ at f1
    split at f1
    · rename_i h1; exact absurd f1 h1
    · rename_i h1; exact ⟨by simpa using h1, f1⟩
  have h8 : l.length ≤ 8 := by have := (hcheck_zero hh.1).1; rwa [List.length_map] at this
  generalize findZ st (l.map Cl.p) = z at *
  obtain ⟨o, z2⟩ := z
  simp only at hz f2 f3 f4 hcl A
  subst hz
  obtain ⟨R, hR⟩ : ∃ R, R = serGo (l.map Cl.p) o st := ⟨_, rfl⟩
  simp only
  rw [← hR]
  have RR0 := Lib.hid hR
  have F2 := Lib.hid f2
  have H := Lib.hid h
  have HG := Lib.hid hg
  have HGA := Lib.hid hga
  have HS := Lib.hid hs
  have HSG := Lib.hid hsg
  have HT := Lib.hid ht
  have ho8 : o.length ≤ 8 := by omega
  have ho8' : (o.length : Int) ≤ 8 := by omega
  have hl8 : (l.length : Int) ≤ 8 := by omega
  have hl0 : (0 : Int) ≤ (l.length : Int) := by omega
  clear h hg hga hs hsg ht f1 f2 f3 f4 hh hR HE hcl h8
  go_enter Tryd.func18, Tryd.ntmps18
  go_wp2_with fail
  refine A.out.mono ?_; rintro e w2 ⟨oa, oc, rfl, ho, -, hc⟩
  have C2 := Lib.hid hc
  have HO := Lib.hid ho
  clear hc ho A
  go_wp2_with fail
  go_loopw [8, 9, 28] (fun u s i wr => ∃ (k : Nat) (a : Option Addr) (c : Nat) (D : List Cl) (na : Option Addr) (nc : Nat) (s1 : List Ce), u = .slice a D.length c ∧ s = .slice na s1.length nc ∧ i = .int .i64 k ∧ k ≤ o.length ∧ Hid (D.length = k) ∧ Hid (SerI w2 wr a c D) ∧ Hid (InIs ceC 4 wr na nc s1) ∧ Hid (∀ b, (∃ y, na = some y ∧ 0 < s1.length ∧ y.block = b) → ob a ≠ some b) ∧ Hid (goodL s1) ∧ Hid (LegOk (l.map Cl.p) (o.drop k) s1) ∧ Hid (R = D.map Cl.p ++ serGo (l.map Cl.p) (o.drop k) s1)) (fun _ _ i _ => o.length - (intOf i).toNat)
  case atStart => exact ⟨0, none, 0, [], sa, sc, st, rfl, rfl, rfl, Nat.zero_le _, Lib.hid rfl, Lib.hid ⟨Chg.refl _ _, RowOf.nil _ _ _, fun d hd => by cases hd⟩, Lib.hid (HS.out.kept C2.out), Lib.hid (fun b _ e => by cases e), HSG, F2, Lib.hid (by rw [RR0.out]; rfl)⟩
  case round =>
    obtain ⟨k, a, c, D, na, nc, s1, rfl, rfl, rfl, hk, hDk, SI, IS, SF, SG, LO, RR⟩ := hrel
    have hk0 : (0 : Int) ≤ (k : Int) := by omega
    by_cases hko : k < o.length
    · have hko' : (k : Int) < (o.length : Int) := by omega
      obtain ⟨n, x, e1, hx, hz0, hans, hleg, hser⟩ := legOk_drop hko LO.out
      obtain ⟨b1, o1, e2, -, -, hc1⟩ := HO.out.1.elem SI.out.chg k hko
      subst e2
      have u1 := hc1 0 (by omega)
      rw [e1] at u1
      simp only [icI, List.getElem?_cons_zero, Nat.add_zero, Nat.mul_one] at u1
      clear hc1 e1
      have hn : n < l.length := by have := (List.getElem?_eq_some_iff.1 hx).1; rwa [List.length_map] at this
      have CW := Lib.hid (C2.out.thenSame SI.out.chg)
      obtain ⟨b2, o2, e3, -, hc2⟩ := H.out.at8 (w' := wr) n hn
      subst e3
      have hxe : (l[n]).p = x := by have := (List.getElem?_eq_some_iff.1 hx).2; rwa [List.getElem_map] at this
      have hgx := HG.out _ (List.getElem_mem hn)
      have hgv := HGA.out _ (List.getElem_mem hn)
      have hix := (H.out.2 _ (List.getElem_mem hn)).kept CW.out
      obtain ⟨x0, x1, x2, x3, x4, x5, x6, x7⟩ := hc2 _ CW.out
      have hn0 : (0 : Int) ≤ (n : Int) := by omega
      have hn1 : (n : Int) < (l.length : Int) := by omega
      generalize l[n] = xc at *
      subst hxe
      obtain ⟨p1, p2, p3⟩ := chk_zero (doZ_zero hz0).1
      have harg : xc.o.args.length ≤ 1048576 := by
        have : xc.o.args.length = ariN (opN xc.p.o.op) := by rw [← p2]; simp [Cl.p, EOp.p]
        rw [this]
        rcases opN_cases xc.p.o.op with ⟨_, e⟩ | ⟨_, e⟩ | ⟨_, e⟩ | ⟨_, e⟩ | ⟨_, e⟩ <;> rw [e] <;> decide
      have CL := lclone_any xc wr hix (fun d hd => (hgx.1.2.2.2.2 d hd).1) hgv.1 harg
      unfold clC at CL
      have CL := Lib.hid CL
      rename_i CL0
      have HGX := Lib.hid hgx
      have HSER := Lib.hid hser
      have HLEG := Lib.hid hleg
      have HANS := Lib.hid hans
      have HZ0 := Lib.hid hz0
      clear CL0 hgx hgv hix harg p1 p2 p3 hser hleg hans hc2 hx hz0
      go_upto_region 10 with (go_at_call 37; go_loud (refine Calls.mono CL.out ?_); rintro e w3 ⟨y, rfl, hp, hin, hc, hfr⟩; have HP := Lib.hid hp; have HIN := Lib.hid hin; have C3 := Lib.hid hc; have FR := Lib.hid hfr; clear hp hin hc hfr CL; simp only [clC])
      have hyo : y.o.p = xc.p.o := congrArg PCl.o HP.out
      obtain ⟨W3, hW3⟩ : ∃ W3, W3 = w3.alloc (clO y) := ⟨_, rfl⟩
      have D3 := Lib.hid (show Chg [] w3 W3 by rw [hW3]; exact (Chg.refl _ _).alloc _)
      have B3 := Lib.hid (show W3.heap[w3.heap.size]? = some (clO y) by rw [hW3]; exact heap_alloc_new _ _)
      have CR3 := Lib.hid (C3.out.thenSame D3.out)
      have IN3 := Lib.hid (HIN.out.kept D3.out)
      have HYG := Lib.hid (good_p HGX.out.1 hyo)
      have DO := do_any na nc s1 y.o W3 (IS.out.kept CR3.out) SG.out IN3.out.1 HYG.out (HT.out.kept (CW.out.thenSame CR3.out))
      have GZ := doZ_good (o := y.o) (st := s1) (by rw [hyo]; exact HZ0.out) SG.out HYG.out
      have AO := fun w' => lopen_any y w'
      have HAP : ansP s1 xc.p = if openB xc.p = true then ⟨xc.p.o, (doZ s1 xc.p.o).2.2.1, (doZ s1 xc.p.o).2.2.2, xc.p.from_, xc.p.to_⟩ else xc.p := rfl
      replace HLEG := HLEG.out
      replace HSER := HSER.out
      replace HZ0 := HZ0.out
      rw [hyo] at DO GZ
      rw [HP.out] at AO
      generalize doZ s1 xc.p.o = Z at *
      generalize openB xc.p = q at *
      obtain ⟨ze, zs, zr, za⟩ := Z
      simp only at HZ0 GZ HAP HLEG HSER DO
      subst HZ0
      unfold eoC at DO
      unfold clC at AO
      have hRR : R = D.map Cl.p ++ ansP s1 xc.p :: serGo (l.map Cl.p) (o.drop (k + 1)) zs := by rw [RR.out, HSER]
      have HRR := Lib.hid hRR
      replace HAP := Lib.hid HAP
      replace HLEG := Lib.hid HLEG
      replace GZ := Lib.hid GZ
      replace DO := Lib.hid DO
      replace AO := Lib.hid AO
      clear HSER hRR
      unfold clO at hW3
      rw [← hW3]
      have k3 := blk_cell (show W3.heap[w3.heap.size]? = some (.cells _ _ (0, 0)) from B3.out)
      clear hW3
      go_upto_region 11 with (go_at_call 11; go_loud (refine Calls.mono DO.out ?_); rintro e w4 ⟨na2, nc2, va2, vc2, rfl, hn4, hv4, hf4, hc4⟩; have N4 := Lib.hid hn4; have V4 := Lib.hid hv4; have F4 := Lib.hid hf4; have C4 := Lib.hid hc4; clear hn4 hv4 hf4 hc4 DO)
      have hob := SI.out.row.block
      rw [ob_eq] at hob
      have HOB := Lib.hid hob
      have s3 := C3.out.size
      have s4 := C4.out.size
      have l3 := lt_of_heap B3.out
      obtain ⟨W4, hW4⟩ : ∃ W4, W4 = w4.alloc (.cells #[.int .i64 zr, .slice va2 za.length vc2] 37) := ⟨_, rfl⟩
      have D4 := Lib.hid (show Chg [] w4 W4 by rw [hW4]; exact (Chg.refl _ _).alloc _)
      have T4 := Lib.hid (show W4.heap[w4.heap.size]? = some (.cells #[.int .i64 zr, .slice va2 za.length vc2] 37) by rw [hW4]; exact heap_alloc_new _ _)
      have B4 := Lib.hid (D4.out.at (by simp) (C4.out.at (by simp) B3.out))
      have k4 := blk_cell (show W4.heap[w3.heap.size]? = some (.cells _ _ (0, 0)) from B4.out)
      rw [← hW4]
      clear hW4 k3 hob
      have hD8 : D.length ≤ 7 := by have := hDk.out; omega
      cases q
      · go_upto_region 15 with (go_at_call 31; go_loud (refine Calls.mono (AO.out _) ?_); rintro e w5 ⟨rfl, hc5⟩; have C5 := Lib.hid hc5; have B5 := Lib.hid (hc5.at (by simp) B4.out); have k5 := blk_cell (show w5.heap[w3.heap.size]? = some (.cells _ _ (0, 0)) from B5.out); clear hc5)
        have Y6 := Lib.hid (show Chg [w3.heap.size] w4 w5 from ((D4.out.thenSame C5.out).mono (by simp)))
        have K6 := Lib.hid (show Chg [w3.heap.size] wr w5 from ((((CR3.out.thenSame C4.out).thenSame D4.out).thenSame C5.out).mono (by simp)))
        have YI := Lib.hid (show ClIn w5 y from IN3.out.kept ((C4.out.thenSame D4.out).thenSame C5.out))
        have YB := Lib.hid (show ∀ b, y.on b → wr.heap.size ≤ b from FR.out)
        have YP := Lib.hid (show y.p = ansP s1 xc.p by rw [HAP.out, HP.out]; rfl)
        have SI6 := Lib.hid (SI.out.keptB K6.out (fun b hb => by simp at hb; omega))
        have s6 := Y6.out.size
        have s7 := SI6.out.chg.size
        go_wp2_with (at_builtin; go_loud (refine wpl_appendL rfl _ _ 26 rfl w2.heap.size 41 _ 120 Tryd.underlying26 callInfo rfl (by decide) clC_len clC_one (.slice a D.length c) D rfl (SI6.out.keptN ((Chg.refl [] w5).alloc (clO y))).row (w5).heap.size 1 y _ _ _ rfl (heap_alloc_new w5 _) rfl (by unfold maxLen; omega) (by omega) (by rw [World.size_alloc]; omega) ?_); intro g8 c8 w8 hr8 hg8 ho8 hl8; have K8 := Lib.hid (Chg.ofRow (v := .slice a D.length c) hg8); have R8 := Lib.hid hr8; have O8 := Lib.hid ho8; clear hr8 hg8 ho8)
        have G8 := Lib.hid (show Chg (ob a).toList ((w5).alloc (clO y)) w8 by have := K8.out; rwa [ob_eq] at this)
        have SI7 := Lib.hid (SI6.out.keptN ((Chg.refl [] w5).alloc (clO y)))
        have SI8 := Lib.hid (SI7.out.step (y := y) (YI.out.kept ((Chg.refl [] _).alloc (clO y))) (fun b hb e => by have := YB.out b hb; have := HOB.out b e; omega) G8.out R8.out (by have := O8.out; rwa [ob_eq] at this))
        have N6 := Lib.hid ((N4.out.keptN Y6.out (fun x hx hm => by have := F4.out x (.inl hx); simp at hm; omega)).kept ((Chg.refl [] _).alloc (clO y)))
        have N8 := Lib.hid (N6.out.keptP G8.out (fun x hx hl hm => by have := F4.out x (.inl hx); have := HOB.out x.block (by simpa using hm); omega))
        exact ⟨⟨k + 1, _, _, D ++ [y], na2, nc2, zs, by simp, rfl, by go_num, by omega, Lib.hid (by simp [hDk.out]), SI8, N8, Lib.hid (fun b hb e => by
          obtain ⟨x, hx, hl, rfl⟩ := hb
          have h1 := F4.out x (.inl hx)
          have h2 := N4.out.lt hx hl
          have e : g8 = x.block := by simpa [ob] using e
          rcases O8.out with e2 | e2
          · rw [ob_eq] at e2
            have := HOB.out _ e2
            omega
          · rw [World.size_alloc] at e2
            omega), GZ, HLEG, Lib.hid (by rw [HRR.out]; simp [YP.out])⟩, by simp [intOf]; omega⟩
      · go_upto_region 15 with (go_at_call 31; go_loud (refine Calls.mono (AO.out _) ?_); rintro e w5 ⟨rfl, hc5⟩; have C5 := Lib.hid hc5; have B5 := Lib.hid (hc5.at (by simp) B4.out); have k5 := blk_cell (show w5.heap[w3.heap.size]? = some (.cells _ _ (0, 0)) from B5.out); have f5 := blk_free (show w5.heap[w3.heap.size]? = some (.cells _ _ (0, 0)) from B5.out); have t5 := blk_cell (hc5.at (by simp) T4.out); clear hc5)
        obtain ⟨W6, hW6⟩ : ∃ W6, W6 = (w5.setCell ⟨w3.heap.size, 4, none⟩ (.int .i64 zr)).setCell ⟨w3.heap.size, 5, none⟩ (.slice va2 za.length vc2) := ⟨_, rfl⟩
        have B6 := blk_set (blk_set (show w5.heap[w3.heap.size]? = some (.cells _ _ (0, 0)) from B5.out) 4 (.int .i64 zr)) 5 (.slice va2 za.length vc2)
        rw [← hW6] at B6
        have k6 := blk_cell B6
        have E6 := Lib.hid (show Chg [w3.heap.size] w5 W6 by rw [hW6]; exact ((Chg.refl _ _).setCell _ _ (by simp)).setCell _ _ (by simp))
        rw [← hW6]
        clear hW6 k5 f5 t5 B6
        have Y6 := Lib.hid (show Chg [w3.heap.size] w4 W6 from ((D4.out.thenSame C5.out).mono (by simp)).thenSame E6.out)
        have K6 := Lib.hid (show Chg [w3.heap.size] wr W6 from (((((CR3.out.thenSame C4.out).thenSame D4.out).thenSame C5.out).mono (by simp))).thenSame E6.out)
        obtain ⟨y2, hy2⟩ : ∃ y2 : Cl, y2 = ⟨y.o, zr, va2, vc2, za, y.from_, y.to_⟩ := ⟨_, rfl⟩
        have YI3 := Lib.hid (show ClIn W6 y from (HIN.out.keptOn (D3.out.mono (T := [w3.heap.size]) (by simp)) (fun b hb hm => by have := HIN.out.on_lt hb; simp at hm; omega)).keptOn (((((C4.out.thenSame D4.out).thenSame C5.out).mono (T := [w3.heap.size]) (by simp))).thenSame E6.out) (fun b hb hm => by have := HIN.out.on_lt hb; simp at hm; omega))
        have YV := Lib.hid (V4.out.keptN Y6.out (fun x hx hm => by have := F4.out x (.inr hx); simp at hm; omega))
        have YI := Lib.hid (show ClIn W6 ⟨y.o, zr, va2, vc2, za, y.from_, y.to_⟩ from ⟨YI3.out.1, YV.out⟩)
        have YB := Lib.hid (show ∀ b, Cl.on ⟨y.o, zr, va2, vc2, za, y.from_, y.to_⟩ b → wr.heap.size ≤ b from fun b hb => by
          rcases hb with hb | ⟨x, h1, h2, rfl⟩ | hb
          · exact FR.out b (.inl hb)
          · have := F4.out x (.inr h1); omega
          · exact FR.out b (.inr (.inr hb)))
        have YP := Lib.hid (show Cl.p ⟨y.o, zr, va2, vc2, za, y.from_, y.to_⟩ = ansP s1 xc.p by
          have e1 := congrArg PCl.from_ HP.out
          have e2 := congrArg PCl.to_ HP.out
          rw [HAP.out]
          simp only [Cl.p, if_true] at e1 e2 ⊢
          simp only [Cl.p] at hyo
          rw [hyo, e1, e2])
        have SI6 := Lib.hid (SI.out.keptB K6.out (fun b hb => by simp at hb; omega))
        have s6 := Y6.out.size
        have s7 := SI6.out.chg.size
        go_wp2_with (at_builtin; go_loud (refine wpl_appendL rfl _ _ 26 rfl w2.heap.size 41 _ 120 Tryd.underlying26 callInfo rfl (by decide) clC_len clC_one (.slice a D.length c) D rfl (SI6.out.keptN ((Chg.refl [] W6).alloc (clO (⟨y.o, zr, va2, vc2, za, y.from_, y.to_⟩ : Cl)))).row (W6).heap.size 1 (⟨y.o, zr, va2, vc2, za, y.from_, y.to_⟩ : Cl) _ _ _ rfl (heap_alloc_new W6 _) rfl (by unfold maxLen; omega) (by omega) (by rw [World.size_alloc]; omega) ?_); intro g8 c8 w8 hr8 hg8 ho8 hl8; have K8 := Lib.hid (Chg.ofRow (v := .slice a D.length c) hg8); have R8 := Lib.hid hr8; have O8 := Lib.hid ho8; clear hr8 hg8 ho8)
        have G8 := Lib.hid (show Chg (ob a).toList ((W6).alloc (clO (⟨y.o, zr, va2, vc2, za, y.from_, y.to_⟩ : Cl))) w8 by have := K8.out; rwa [ob_eq] at this)
        have SI7 := Lib.hid (SI6.out.keptN ((Chg.refl [] W6).alloc (clO (⟨y.o, zr, va2, vc2, za, y.from_, y.to_⟩ : Cl))))
        have SI8 := Lib.hid (SI7.out.step (y := (⟨y.o, zr, va2, vc2, za, y.from_, y.to_⟩ : Cl)) (YI.out.kept ((Chg.refl [] _).alloc (clO (⟨y.o, zr, va2, vc2, za, y.from_, y.to_⟩ : Cl)))) (fun b hb e => by have := YB.out b hb; have := HOB.out b e; omega) G8.out R8.out (by have := O8.out; rwa [ob_eq] at this))
        have N6 := Lib.hid ((N4.out.keptN Y6.out (fun x hx hm => by have := F4.out x (.inl hx); simp at hm; omega)).kept ((Chg.refl [] _).alloc (clO (⟨y.o, zr, va2, vc2, za, y.from_, y.to_⟩ : Cl))))
        have N8 := Lib.hid (N6.out.keptP G8.out (fun x hx hl hm => by have := F4.out x (.inl hx); have := HOB.out x.block (by simpa using hm); omega))
        exact ⟨⟨k + 1, _, _, D ++ [(⟨y.o, zr, va2, vc2, za, y.from_, y.to_⟩ : Cl)], na2, nc2, zs, by simp, rfl, by go_num, by omega, Lib.hid (by simp [hDk.out]), SI8, N8, Lib.hid (fun b hb e => by
          obtain ⟨x, hx, hl, rfl⟩ := hb
          have h1 := F4.out x (.inl hx)
          have h2 := N4.out.lt hx hl
          have e : g8 = x.block := by simpa [ob] using e
          rcases O8.out with e2 | e2
          · rw [ob_eq] at e2
            have := HOB.out _ e2
            omega
          · rw [World.size_alloc] at e2
            omega), GZ, HLEG, Lib.hid (by rw [HRR.out]; simp [YP.out])⟩, by simp [intOf]; omega⟩
    · have hks : k = o.length := by omega
      have HX := Lib.hid (show D.map Cl.p = R by rw [RR.out, hks, List.drop_length]; simp [serGo])
      clear hks
      go_wp2_with fail
      go_ret2
      obtain ⟨e1, e2⟩ := InIs.ofRow SI.out.row clC_len
      exact ⟨a, c, D, rfl, HX.out, ⟨e2, fun d hd => (SI.out.ins d hd).1⟩, C2.out.thenSame SI.out.chg⟩
end Go.Proofs.YtnhemokmgpelaaaDoor
