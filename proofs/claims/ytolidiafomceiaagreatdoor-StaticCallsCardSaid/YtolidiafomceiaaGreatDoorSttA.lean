/- Chapter 9: contract: study. Condition: the program came in well; the table of Itoa lies as the program lays it. -/
import Derived.Test.YtolidiafomceiaaGreatDoorMStaV
namespace Go.Proofs.YtolidiafomceiaaGreatDoor
set_option linter.unusedVariables false
set_option linter.unusedSimpArgs false
open Go.RowKit
theorem intInfoS : (Tryz.prog.info? 3).map (fun i => (i.zero, i.size, i.bytes)) = some (some (.int .i64 0), 1, 8) := by kernel_rfl
theorem errInfoS : (Tryz.prog.info? 28).map (fun i => (i.zero, i.size, i.bytes)) = some (some (.int .i64 0), 1, 8) := by kernel_rfl
theorem icI_one1 (x : Int) : ∀ u ∈ icI x, u.oneCell' = true := by intro u hu; simp [icI] at hu; subst hu; rfl
theorem results_tmp4 {fn : Func} {s t u v : Tmp} (h : fn.results = #[.tmp s, .tmp t, .tmp u, .tmp v]) (tmps : Array Value) (P : Program) (w : World) :
    (results fn tmps).run P w = .ok (.tuple #[tmps[s]?.getD undef, tmps[t]?.getD undef, tmps[u]?.getD undef, tmps[v]?.getD undef]) w := by
  simp [results, h, go_sem]
/-- What study returns. -/
def StudyPost (w : World) (R : List Int × List Int × Int × Int) (e : Ending) (w' : World) : Prop := ∃ (sa : Option Addr) (sc : Nat) (la : Option Addr) (lc : Nat), e = .returned (.tuple #[.slice sa R.1.length sc, .slice la R.2.1.length lc, .int .i64 R.2.2.1, .int .i64 R.2.2.2]) ∧
  RowOf icI 1 w' w.heap.size 3 (.slice sa R.1.length sc) R.1 ∧ RowOf icI 1 w' w.heap.size 3 (.slice la R.2.1.length lc) R.2.1 ∧ Chg [] w w'
theorem study_nil {w w' : World} {R : List Int × List Int × Int × Int} {a b : Int} (h : R = ([], [], a, b)) (hc : Chg [] w w') : StudyPost w R (.returned (.tuple #[.slice none 0 0, .slice none 0 0, .int .i64 a, .int .i64 b])) w' := by
  subst h
  exact ⟨none, 0, none, 0, rfl, ⟨rfl, .inl ⟨rfl, rfl⟩⟩, ⟨rfl, .inl ⟨rfl, rfl⟩⟩, hc⟩
theorem study_ok {w w' : World} {R : List Int × List Int × Int × Int} {s l : List Int} {sa la : Option Addr} {N sc lc B2 : Nat} (h : R = (s, l, 0, 0)) (hs : RowOf icI 1 w' w.heap.size 3 (.slice sa N sc) s) (hN : N = s.length) (hl : RowOf icI 1 w' B2 3 (.slice la l.length lc) l) (hB : w.heap.size ≤ B2) (hc : Chg [] w w') : StudyPost w R (.returned (.tuple #[.slice sa N sc, .slice la l.length lc, .int .i64 0, .int .i64 0])) w' := by
  subst h
  subst hN
  exact ⟨sa, sc, la, lc, rfl, hs, hl.mono hB, hc⟩
theorem scheckZ_ok {p : PPr} (h : scheckZ p = 0) : p.nodes.length ≤ 600 ∧ p.funcs.length ≤ 16 ∧ ordB p = true := by
  unfold scheckZ at h
  split at h
  · omega
  · split at h
    · omega
    · split at h
      · omega
      · rename_i h1 h2 h3
        exact ⟨by omega, by omega, by simpa using h3⟩
/-- 'map[K]V{}'. -/
theorem wpl_makeMap {P : Program} (w : World) {ops : Array Oper} {rest : List Oper} {o : Oper} {a : Act} {Q : Exit → Act → World → Prop} (hg : o.guard = none) (t : TypeId) (hop : o.op = Op.makeMap t none)
    (hK : wpList P ops Q rest (a.put o.dst (.map (some w.heap.size))) (w.alloc (.map #[] 0))) : wpList P ops Q (o :: rest) a w := by
  refine wpList_plain hg fun K' hK' => ?_
  unfold Oper.wp
  simp [execOp, hop, run_makeMap, Result.andThen]
  exact hK' _ _ hK
theorem bodies_ok {x : Pr} (h : ordB x.p = true) : ∀ j (hj : j < x.funcs.length), ∃ m : Nat, (x.funcs[j]).body = (m : Int) ∧ m < x.nodes.length ∧ 0 ≤ firstF (x.nodes.map Nd.p) x.nodes.length m := by
  intro j hj
  obtain ⟨m, h1, h2, h3⟩ := ordGo_ok (Int.le_refl 0) h (x.funcs[j]).p (List.mem_map_of_mem (List.getElem_mem hj))
  have e : x.p.nodes = x.nodes.map Nd.p := rfl
  rw [e] at h2 h3
  rw [List.length_map] at h2 h3
  exact ⟨m, h1, h2, h3⟩
theorem rep_set {j n : Nat} (h : j < n) : (List.replicate j (-1 : Int) ++ List.replicate (n - j) 0).set j (-1) = List.replicate (j + 1) (-1) ++ List.replicate (n - (j + 1)) 0 := by
  rw [List.set_append_right _ _ (by simp), List.length_replicate, Nat.sub_self, show n - j = (n - (j + 1)) + 1 by omega, List.replicate_succ, List.set_cons_zero, List.replicate_succ']
  simp
set_option maxHeartbeats 16000000 in
set_option maxRecDepth 100000 in
theorem study_any (x : Pr) (w : World) (h : PrIn w x) (hg : goodPr x) (ht : TabW w) : Calls Tryz.prog 28 #[.agg (prC x).toArray] w (StudyPost w (studyZ x.p)) := by
  obtain ⟨R, hR⟩ : ∃ R, R = studyZ x.p := ⟨_, rfl⟩
  rw [← hR]
  unfold studyZ at hR
  obtain ⟨W1, hW1⟩ : ∃ W1, W1 = w.alloc (prO x) := ⟨_, rfl⟩
  have C1 := Lib.hid (show Chg [] w W1 by rw [hW1]; exact (Chg.refl _ _).alloc _)
  have B1 := Lib.hid (show W1.heap[w.heap.size]? = some (prO x) by rw [hW1]; exact heap_alloc_new _ _)
  have AS := Lib.hid (scheck_any x W1 (h.kept C1.out) hg (ht.kept C1.out))
  have AF := Lib.hid (fun w' (hc : Chg [] w w') => functions_any x w' (h.kept hc))
  have H := Lib.hid h
  have OK := Lib.hid (fun (e : scheckZ x.p = 0) => scheckZ_ok e)
  unfold prO at hW1 B1
  have k1 := blk_cell B1.out
  simp only [prC] at AS AF ⊢
  generalize scheckZ x.p = ce at *
  clear h hg ht
  by_cases hce : ce = 0
  · rw [if_pos hce] at hR
    have hceb : (ce != 0) = false := by rw [hce]; rfl
    by_cases hfe : (funcsZ x.p).2 = 0
    · rw [if_pos hfe] at hR
      obtain ⟨hn6, hf16, hord⟩ := OK.out hce
      have BO := Lib.hid (bodies_ok hord)
      have hnl : x.nodes.length ≤ 600 := by rw [show x.p.nodes.length = x.nodes.length from List.length_map _] at hn6; exact hn6
      have hfl : x.funcs.length ≤ 16 := by rw [show x.p.funcs.length = x.funcs.length from List.length_map _] at hf16; exact hf16
      have hZ : allZ x.p = runsZ x.p (x.funcs.map Fn'.p) (List.replicate x.nodes.length (-1), List.replicate x.nodes.length 0, []) := by
        unfold allZ
        rw [show x.p.nodes.length = x.nodes.length from List.length_map _]
        rfl
      have HZ := Lib.hid hZ
      have HR := Lib.hid hR
      generalize allZ x.p = Z at *
      generalize funcsZ x.p = fe at *
      obtain ⟨fa, fb⟩ := fe
      have hfeb : (fb != 0) = false := by simp only at hfe; rw [hfe]; rfl
      have hnli : (x.nodes.length : Int) ≤ 600 := by omega
      have hfli : (x.funcs.length : Int) ≤ 16 := by omega
      clear hR hce hfe hn6 hf16 hord hZ
      go_enter Tryz.func28, Tryz.ntmps28
      go_upto_region 1 with fail
      rw [← hW1]
      clear hW1
      go_wp2_with (first | (go_at_call 43; (with_reducible refine Calls.mono AS.out ?_); rintro e w2 ⟨rfl, hc⟩; have C2 := Lib.hid (C1.out.thenSame hc); have B2 := Lib.hid (hc.at (by simp) B1.out); have k2 := blk_cell B2.out; clear k1 hc) | (go_at_call 44; (with_reducible refine Calls.mono (AF.out _ C2.out) ?_); rintro e w3 ⟨rfl, hc⟩; have C3 := Lib.hid (C2.out.thenSame hc); have B3 := Lib.hid (hc.at (by simp) B2.out); have k3 := blk_cell B3.out; clear k2 hc) | (at_make; (refine wpl_make (cf := icI) rfl _ _ 32 rfl w.heap.size 3 _ 8 Tryz.underlying32 intInfoS 0 rfl rfl x.nodes.length rfl rfl (by omega) (by unfold maxLen; omega) C3.out.size ?_); intro w4 hr4 hc4 hl4; have R4 := Lib.hid hr4; have C4 := Lib.hid (C3.out.thenSame hc4); have B4 := Lib.hid (hc4.at (by simp) B3.out); have Z3 := Lib.hid (lt_of_heap B3.out); clear k3 hr4 hc4 hl4))
      generalize w3.heap.size = sb at *
      go_loopw [40] (fun v wi => ∃ j : Nat, v = .int .i64 j ∧ j ≤ x.nodes.length ∧ Hid (RowOf icI 1 wi w.heap.size 3 (.slice (some ⟨sb, 0, none⟩) x.nodes.length x.nodes.length) (List.replicate j (-1) ++ List.replicate (x.nodes.length - j) 0)) ∧ Hid (Chg [] w wi) ∧ Hid (wi.heap[w.heap.size]? = some (.cells #[.slice x.na x.nodes.length x.nc, .slice x.fa x.funcs.length x.fc] 25 (0, 0)))) (fun v _ => x.nodes.length - (intOf v).toNat)
      case atStart => exact ⟨0, rfl, Nat.zero_le _, Lib.hid (by have := R4.out; simpa using this), C4, B4⟩
      case round =>
        obtain ⟨j, rfl, hj, Row, C, B⟩ := hrel
        have hj0 : (0 : Int) ≤ (j : Int) := by omega
        by_cases hjl : j < x.nodes.length
        · have hjl' : (j : Int) < (x.nodes.length : Int) := by omega
          have qj : IntKind.i64.wrap ((j : Int) + 1) = (j : Int) + 1 := IntWalk.i64_in _ (by omega)
          have hlen : (List.replicate j (-1 : Int) ++ List.replicate (x.nodes.length - j) 0).length = x.nodes.length := by simp; omega
          obtain ⟨-, -, -, hcl, hfr, hbs, hbl⟩ := RowOf.atS Row.out icI_len1
          obtain ⟨ev, e7⟩ : ∃ v, wr.cell? ⟨sb, j, none⟩ = some v := by have := hcl j (by omega) 0 (by omega); simp [icI] at this; exact ⟨_, this⟩
          have hst := RowOf.stored Row.out hlen.symm icI_len1 j (by omega) 0 (by omega) (.int .i64 (-1)) (-1) rfl
          rw [rep_set hjl] at hst
          have R8 := Lib.hid (by simpa using hst : RowOf icI 1 (wr.setCell ⟨sb, j, none⟩ (.int .i64 (-1))) w.heap.size 3 (.slice (some ⟨sb, 0, none⟩) x.nodes.length x.nodes.length) (List.replicate (j + 1) (-1) ++ List.replicate (x.nodes.length - (j + 1)) 0))
          have hbs2 : w.heap.size ≤ sb := hbs
          have C8 := Lib.hid (C.out.setCell ⟨sb, j, none⟩ (.int .i64 (-1)) (fun e => by simp at e; omega))
          clear hst hcl hlen
          have B8 := Lib.hid ((blk_set_ne j (.int .i64 (-1)) (by have := Z3.out; omega : w.heap.size ≠ sb)).trans B.out)
          go_wp2_with fail
          exact ⟨⟨j + 1, rfl, by omega, R8, C8, B8⟩, by simp [intOf]; omega⟩
        · have hje : j = x.nodes.length := by omega
          have hjl' : ¬ (j : Int) < (x.nodes.length : Int) := by omega
          have Row2 := Lib.hid (by have := Row.out; rw [hje, Nat.sub_self, List.replicate_zero, List.append_nil] at this; exact this)
          have k4 := blk_cell B.out
          clear Row hje R4 C4 B4 B3 C3 C2 B2
          go_wp2_with (at_make; (refine wpl_make (cf := icI) rfl _ _ 70 rfl w.heap.size 28 _ 8 Tryz.underlying70 errInfoS 0 rfl rfl x.nodes.length rfl rfl (by omega) (by unfold maxLen; omega) C.out.size ?_); intro w6 hr6 hc6 hl6; have R6 := Lib.hid hr6; have Row6 := Lib.hid (RowOf.kept Row2.out hc6 (by simp)); have C6 := Lib.hid (C.out.thenSame hc6); have B6 := Lib.hid (hc6.at (by simp) B.out); have Z6 := Lib.hid (And.intro (lt_of_heap B.out) (RowOf.atS Row2.out icI_len1).2.2.2.2.2.2); have L6 := Lib.hid hl6; have k6 := blk_cell B6.out; clear k4 hr6 hc6 hl6)
          generalize wr.heap.size = eb at *
          clear k6 Row2
          go_loopw [12, 54] (fun u v wi => ∃ (j : Nat) (s e l : List Int) (la : Option Addr) (lc : Nat), u = .slice la l.length lc ∧ v = .int .i64 j ∧ j ≤ x.funcs.length ∧ l.length = j ∧ Hid (Z = runsZ x.p ((x.funcs.drop j).map Fn'.p) (s, e, l)) ∧ Hid (RowOf icI 1 wi w.heap.size 3 (.slice (some ⟨sb, 0, none⟩) x.nodes.length x.nodes.length) s) ∧ Hid (RowOf icI 1 wi w.heap.size 28 (.slice (some ⟨eb, 0, none⟩) x.nodes.length x.nodes.length) e) ∧ Hid (RowOf icI 1 wi w6.heap.size 3 (.slice la l.length lc) l) ∧ Hid (Chg [] w wi) ∧ Hid (w6.heap.size ≤ wi.heap.size) ∧ Hid (wi.heap[w.heap.size]? = some (.cells #[.slice x.na x.nodes.length x.nc, .slice x.fa x.funcs.length x.fc] 25 (0, 0)))) (fun _ v _ => x.funcs.length - (intOf v).toNat)
          case atStart =>
            exact ⟨0, _, _, [], none, 0, rfl, rfl, Nat.zero_le _, rfl, Lib.hid HZ.out, Row6, R6, Lib.hid ⟨rfl, .inl ⟨rfl, rfl⟩⟩, C6, Lib.hid (Nat.le_refl _), B6⟩
          case round =>
            obtain ⟨j, s, e, l, la, lc, rfl, rfl, hj, hl, HQ, Rs, Re, Rl, C, Zw, B⟩ := hrel
            have HL := Lib.hid hl
            clear hl
            have hj0 : (0 : Int) ≤ (j : Int) := by omega
            by_cases hjl : j < x.funcs.length
            · have hjl' : (j : Int) < (x.funcs.length : Int) := by omega
              obtain ⟨b2, o2, e2, -, -, hc2⟩ := (H.out.kept C.out).2.1.1.elem (Chg.refl [] _) j hjl
              have u0 := hc2 0 (by omega)
              have u1 := hc2 1 (by omega)
              have u2 := hc2 2 (by omega)
              simp only [fnC, List.getElem?_cons_zero, List.getElem?_cons_succ, Nat.add_zero] at u0 u1 u2
              obtain ⟨m, hm1, hm2, hm3⟩ := BO.out j hjl
              have HQ2 := HQ.out
              rw [List.drop_eq_getElem_cons hjl, List.map_cons, runsZ] at HQ2
              have HPF := Lib.hid (fun w' (hc : Chg [] w w') => show InIs skC 1 w' (x.funcs[j]).pa (x.funcs[j]).pc (x.funcs[j]).params from (H.out.kept hc).2.2 _ (List.getElem_mem hjl))
              generalize hfe : x.funcs[j] = f at *
              rw [show f.p.params = f.params from rfl, show f.p.body = f.body from rfl, hm1, Int.toNat_natCast, show x.p.nodes.length = x.nodes.length from List.length_map _] at HQ2
              have HQ3 := Lib.hid HQ2
              rw [hm1] at u2
              have hpl : (f.params.length : Int) ≤ 9223372036854775807 := by have h0 := HPF.out _ C.out; have h1 := h0.2.1; have h2 := h0.2.2.1; unfold maxLen at h2; omega
              have qj : IntKind.i64.wrap ((j : Int) + 1) = (j : Int) + 1 := IntWalk.i64_in _ (by omega)
              obtain ⟨W2, hW2⟩ : ∃ W2, W2 = wr.alloc (.cells #[.string f.name, .slice f.pa f.params.length f.pc, .int .i64 (m : Int)] 38) := ⟨_, rfl⟩
              have N2 := Lib.hid (show Chg [] wr W2 by rw [hW2]; exact (Chg.refl _ _).alloc _)
              have G2 := Lib.hid (show W2.heap[wr.heap.size]? = some (.cells #[.string f.name, .slice f.pa f.params.length f.pc, .int .i64 (m : Int)] 38 (0, 0)) from by rw [hW2]; exact heap_alloc_new _ _)
              have g2 := blk_cell G2.out
              have P2 := Lib.hid (N2.out.at (by simp) B.out)
              have p2 := blk_cell P2.out
              have s2 : W2.heap.size = wr.heap.size + 1 := by rw [hW2]; exact Array.size_push _
              have S2 := Lib.hid s2
              clear hc2 HQ2 hfe hm1 s2
              rw [e2]
              go_upto_region 18 with fail
              rw [← hW2]
              clear hW2 u0 u1 u2
              obtain ⟨W3, hW3⟩ : ∃ W3, W3 = W2.alloc (.map #[] 0) := ⟨_, rfl⟩
              have N3 := Lib.hid (show Chg [] W2 W3 by rw [hW3]; exact (Chg.refl _ _).alloc _)
              have M3 := Lib.hid (show MapIs Prod.fst arV W3 W2.heap.size ([] : List (ByteArray × Int)) by rw [hW3]; exact mapIs_new _)
              have s3 : W3.heap.size = W2.heap.size + 1 := by rw [hW3]; exact Array.size_push _
              have G3 := Lib.hid (N3.out.at (by simp) G2.out)
              have g3 := blk_cell G3.out
              obtain ⟨W4, hW4⟩ : ∃ W4, W4 = W3.alloc (.cells #[.slice x.na x.nodes.length x.nc, .slice (some ⟨b2, o2, none⟩) x.funcs.length x.fc, .map (some W2.heap.size), .int .i64 (f.params.length : Int), .slice (some ⟨sb, 0, none⟩) x.nodes.length x.nodes.length, .slice (some ⟨eb, 0, none⟩) x.nodes.length x.nodes.length] 73) := ⟨_, rfl⟩
              have N4 := Lib.hid (show Chg [] W3 W4 by rw [hW4]; exact (Chg.refl _ _).alloc _)
              have G4 := Lib.hid (N4.out.at (by simp) G3.out)
              have g4 := blk_cell G4.out
              have D4 := Lib.hid ((N2.out.thenSame N3.out).thenSame N4.out)
              have A4 := Lib.hid (show ScAt x w.heap.size (W2.heap.size + 1) W2.heap.size sb eb W4 ⟨[], (f.params.length : Int), s, e⟩ from ⟨by rw [hW4, ← s3]; unfold scO; rw [e2]; exact heap_alloc_new _ _, M3.out.kept N4.out (by simp), RowOf.kept Rs.out D4.out (by simp), RowOf.kept Re.out D4.out (by simp)⟩)
              have S3 := Lib.hid s3
              have SEP := Lib.hid (show Sep w.heap.size (W2.heap.size + 1) W2.heap.size sb eb from by
                have z3 := Z3.out
                have z6 := Z6.out
                have l6 := L6.out
                have zw := Zw.out
                have y2 := S2.out
                have y3 := S3.out
                constructor <;> omega)
              have g3' : ∀ i, (W2.alloc (.map #[] 0)).cell? ⟨wr.heap.size, i, none⟩ = (#[.string f.name, .slice f.pa f.params.length f.pc, .int .i64 (m : Int)] : Array Value)[i]? := fun i => (by rw [← hW3]; exact g3 i)
              have p3' : ∀ i, (W2.alloc (.map #[] 0)).cell? ⟨w.heap.size, i, none⟩ = (#[.slice x.na x.nodes.length x.nc, .slice x.fa x.funcs.length x.fc] : Array Value)[i]? := fun i => (by rw [← hW3]; exact blk_cell (N3.out.at (by simp) P2.out) i)
              clear s3 g3
              go_upto_region 19 with (refine wpl_makeMap _ rfl 69 rfl ?_)
              rw [← hW3]
              rw [← hW4]
              clear hW3 hW4 g2 g3' p2 p3'
              have ZM := Lib.hid (show wr.heap.size < W2.heap.size by have := S2.out; omega)
              have C4 := Lib.hid (C.out.thenSame D4.out)
              have B4 := Lib.hid (D4.out.at (by simp) B.out)
              have Rl4 := Lib.hid (RowOf.kept Rl.out D4.out (by simp))
              have HG := Lib.hid (fun g (hg : (Value.slice la l.length lc).ownBlock = some g) => And.intro (Rl.out.block g hg).1 (Rl.out.block g hg).2)
              clear S2 S3 M3 C B Rl D4 N2 N3 N4 G2 G3 P2 Rs Re
              generalize W2.heap.size = mb at *
              generalize wr.heap.size = zr at *
              go_wp2_with fail
              clear g4
              go_loopw [70] (fun u wi => ∃ (k : Nat) (v : List (ByteArray × Int)), u = .int .i64 k ∧ k ≤ f.params.length ∧ Hid (parV f.params 0 [] = parV (f.params.drop k) (k : Int) v) ∧ Hid (ScAt x w.heap.size (mb + 1) mb sb eb wi ⟨v, (f.params.length : Int), s, e⟩) ∧ Hid (Chg [mb] W4 wi)) (fun u _ => f.params.length - (intOf u).toNat)
              case atStart => exact ⟨0, [], rfl, Nat.zero_le _, Lib.hid rfl, A4, Lib.hid (Chg.refl _ _)⟩
              case round =>
                obtain ⟨k, v, rfl, hk, HV, A5, D5⟩ := hrel
                have hk0 : (0 : Int) ≤ (k : Int) := by omega
                have C5 := Lib.hid (show Chg [] w wr from C4.out.then D5.out (by intro y hy hl; have := SEP.out.l2; simp at hy; omega))
                by_cases hkl : k < f.params.length
                · have hkl' : (k : Int) < (f.params.length : Int) := by omega
                  obtain ⟨b3, o3, e3, -, -, hc3⟩ := (HPF.out _ C5.out).1.elem (Chg.refl [] _) k hkl
                  have c5 := hc3 0 (by omega)
                  simp only [skC, List.getElem?_cons_zero, Nat.add_zero, Nat.mul_one] at c5
                  have HV2 := HV.out
                  rw [List.drop_eq_getElem_cons hkl, parV] at HV2
                  have HV3 := Lib.hid HV2
                  have qk : IntKind.i64.wrap ((k : Int) + 1) = (k : Int) + 1 := IntWalk.i64_in _ (by omega)
                  have k5 := blk_cell (by have := A5.out.box; unfold scO at this; exact this)
                  generalize f.params[k] = nm at *
                  clear hc3 HV2
                  rw [e3]
                  go_wp2_with (refine wpl_store _ rfl _ _ _ 69 rfl 9 3 Tryz.underlying69 Tryz.underlying9 mb _ rfl A5.out.map (nm, (k : Int)) rfl rfl ?_; intro w7 hm7 hc7 hz7; have A7 := Lib.hid (A5.out.setMap SEP.out hm7 hc7); have D7 := Lib.hid (D5.out.thenSame hc7); clear hm7 hc7 hz7)
                  exact ⟨⟨k + 1, _, rfl, by omega, HV3, A7, D7⟩, by simp [intOf]; omega⟩
                · have hke : k = f.params.length := by omega
                  have HV2 := HV.out
                  rw [hke, List.drop_length, parV] at HV2
                  have A6 := Lib.hid (by have := A5.out; rw [← HV2] at this; exact this)
                  have hkl' : ¬ (k : Int) < (f.params.length : Int) := by omega
                  have AW := Lib.hid (swalk_all SEP.out (Nat.le_refl _) H.out hnl x.nodes.length _ _ m C5.out A6.out hm2 hm2 hm3)
                  have g5 := blk_cell (D5.out.at (by simp; have := ZM.out; omega) G4.out)
                  obtain ⟨S8, hS8⟩ : ∃ S8, S8 = walkZ x.p x.nodes.length ⟨parV f.params 0 [], (f.params.length : Int), s, e⟩ m := ⟨_, rfl⟩
                  have AW2 := Lib.hid (by have := AW.out; rw [← hS8] at this; exact this)
                  have HQ4 := Lib.hid (by have := HQ3.out; rw [← hS8] at this; exact this)
                  clear HV HV2 A5 hke AW HQ3 hS8
                  have NR := Lib.hid (fun g (hg : (Value.slice la l.length lc).ownBlock = some g) => show g ∉ [mb + 1, mb, sb, eb] from by
                    have h1 := HG.out g hg
                    have h2 := ZM.out
                    have h3 := Z6.out
                    have h4 := L6.out
                    simp only [List.mem_cons, List.not_mem_nil, or_false]
                    omega)
                  have NRm := Lib.hid (fun g (hg : (Value.slice la l.length lc).ownBlock = some g) => show g ∉ [mb] from fun e => NR.out g hg (by simp at e; simp [e]))
                  have Rl5 := Lib.hid (RowOf.kept Rl4.out D5.out NRm.out)
                  have B5 := Lib.hid (D5.out.at (by simp; have := ZM.out; have := Z3.out; have := Zw.out; have := L6.out; have := Z6.out; omega) B4.out)
                  have hlj : l.length ≤ 16 := by have := HL.out; omega
                  have hz6 : w6.heap.size ≤ wr.heap.size := by have h1 := A6.out.map.lt; have h2 := ZM.out; have h3 := Zw.out; omega
                  go_wp2_with (first | (go_at_call 45; (with_reducible refine Calls.mono AW2.out ?_); rintro e8 w8 ⟨rfl, ha, hc⟩; have A8 := Lib.hid ha; have D8 := Lib.hid hc; have k8 := blk_cell (by have := A8.out.box; unfold scO at this; exact this); have hz8 := hc.size; clear ha hc g5) | (at_builtin; refine wpl_append rfl _ _ 32 rfl w6.heap.size 3 _ 8 Tryz.underlying32 intInfoS rfl (by decide) icI_len1 icI_one1 (.slice la l.length lc) l rfl (RowOf.kept (RowOf.kept Rl5.out D8.out NR.out) ((Chg.refl [] _).alloc _) (by simp)) w8.heap.size _ S8.next _ _ _ rfl (heap_alloc_new w8 _) rfl (by unfold maxLen; omega) (by omega) (by simp; omega) ?_; intro v' w9 hr9 hg9; have Hr9 := Lib.hid hr9; have Hg9 := Lib.hid hg9; clear hr9 hg9))
                  have hT := Lib.hid (fun g (hg : g ∈ (Value.slice la l.length lc).ownBlock.toList) => HG.out g (by simpa using hg))
                  have A9 := Lib.hid ((A8.out.keptN ((Chg.refl _ _).alloc (.cells #[.int .i64 S8.next] 3))).kept (Chg.ofRow Hg9.out) (fun hg => by have h1 := hT.out _ hg; have := ZM.out; omega) (fun hg => by have h1 := hT.out _ hg; have := ZM.out; omega) (fun hg => by have h1 := hT.out _ hg; have := Z6.out; have := L6.out; omega) (fun hg => by have h1 := hT.out _ hg; have := Z6.out; have := L6.out; omega))
                  have C9 := Lib.hid (((SEP.out.nil (Nat.le_refl _) C5.out D8.out).alloc (.cells #[.int .i64 S8.next] 3)).then (Chg.ofRow Hg9.out) (fun g hg hl => by have h1 := hT.out _ hg; have := C6.out.size; omega))
                  have hz9 : w6.heap.size ≤ w9.heap.size := by have := (Chg.ofRow Hg9.out).size; simp at this; omega
                  have B9 := Lib.hid ((Chg.ofRow Hg9.out).at (fun hg => by have h1 := hT.out _ hg; have := Z6.out; have := L6.out; omega) (blk_alloc (o' := .cells #[.int .i64 S8.next] 3) (D8.out.at (by have h1 := ZM.out; have h2 := Z6.out; have h3 := L6.out; have h4 := Z3.out; have h5 := Zw.out; simp only [List.mem_cons, List.not_mem_nil, or_false]; omega) B5.out)))
                  obtain ⟨a', c', rfl⟩ := RowOf.shape Hr9.out
                  exact ⟨⟨j + 1, S8.slots, S8.errs, l ++ [S8.next], a', c', rfl, rfl, by omega, by simp [HL.out], HQ4, Lib.hid A9.out.sl, Lib.hid A9.out.er, Hr9, C9, Lib.hid hz9, (by first | exact B9 | (rw [e2] at B9; exact B9))⟩, by simp [intOf]; omega⟩
            · have hje : j = x.funcs.length := by omega
              have HQ2 := HQ.out
              rw [hje, List.drop_length, List.map_nil, runsZ] at HQ2
              have hjl' : ¬ (j : Int) < (x.funcs.length : Int) := by omega
              have HR2 := HR.out
              rw [HQ2] at HR2
              have HR3 := Lib.hid (show R = match errAt e 0 with | some (k, e) => ([], [], k, e) | none => (s, l, 0, 0) from HR2)
              have hel := (RowOf.atS Re.out icI_len1).1
              have HEL := Lib.hid hel
              clear HQ HQ2 HR2 HR HZ hje hel
              go_wp2_with fail
              go_loopw [96] (fun v wi => ∃ k : Nat, v = .int .i64 k ∧ k ≤ x.nodes.length ∧ Hid (errAt e 0 = errAt (e.drop k) (k : Int)) ∧ wi = wr) (fun v _ => x.nodes.length - (intOf v).toNat)
              case atStart => exact ⟨0, rfl, Nat.zero_le _, Lib.hid rfl, rfl⟩
              case round =>
                obtain ⟨k, rfl, hk, HV, rfl⟩ := hrel
                have hk0 : (0 : Int) ≤ (k : Int) := by omega
                by_cases hkl : k < x.nodes.length
                · have hkl' : (k : Int) < (x.nodes.length : Int) := by omega
                  have hke : k < e.length := by rw [← HEL.out]; exact hkl
                  obtain ⟨-, -, -, hcl, -, -, -⟩ := RowOf.atS Re.out icI_len1
                  have e7 := hcl k hke 0 (by omega)
                  simp only [icI, List.getElem?_cons_zero, Nat.add_zero, Nat.mul_one] at e7
                  have HV2 := HV.out
                  rw [List.drop_eq_getElem_cons hke, errAt] at HV2
                  have qk : IntKind.i64.wrap ((k : Int) + 1) = (k : Int) + 1 := IntWalk.i64_in _ (by omega)
                  generalize e[k] = ev at *
                  clear hcl
                  by_cases hev : ev = 0
                  · rw [if_pos hev] at HV2
                    have HV3 := Lib.hid HV2
                    have hevb : (ev != 0) = false := by rw [hev]; rfl
                    clear HV2 hev
                    go_wp2_with fail
                    exact ⟨⟨k + 1, rfl, by omega, HV3, by trivial⟩, by simp [intOf]; omega⟩
                  · rw [if_neg hev] at HV2
                    have HE := Lib.hid (by have := HR3.out; rw [HV2] at this; exact this)
                    have hevb : (ev != 0) = true := by simpa using hev
                    clear HV2 hev
                    go_wp2_with fail
                    ((try simp only [Exit.inBlock, Exit.then]); refine bodyPost_ret (results_tmp4 rfl _ _ _) rfl ?_)
                    exact study_nil HE.out C.out
                · have hke : k = e.length := by have := HEL.out; omega
                  have HV2 := HV.out
                  rw [hke, List.drop_length, errAt] at HV2
                  have HE := Lib.hid (show R = (s, l, 0, 0) by have := HR3.out; rw [HV2] at this; exact this)
                  have hkl' : ¬ (k : Int) < (x.nodes.length : Int) := by omega
                  clear HV2 hke
                  go_wp2_with fail
                  ((try simp only [Exit.inBlock, Exit.then]); refine bodyPost_ret (results_tmp4 rfl _ _ _) rfl ?_)
                  exact study_ok HE.out Rs.out (RowOf.atS Rs.out icI_len1).1 Rl.out C6.out.size C.out
    · rw [if_neg hfe] at hR
      have HE := Lib.hid hR
      generalize funcsZ x.p = fe at *
      obtain ⟨fa, fb⟩ := fe
      have hfeb : (fb != 0) = true := by simpa using hfe
      clear hR hce hfe
      go_enter Tryz.func28, Tryz.ntmps28
      go_upto_region 1 with fail
      rw [← hW1]
      clear hW1
      go_wp2_with (first | (go_at_call 43; (with_reducible refine Calls.mono AS.out ?_); rintro e w2 ⟨rfl, hc⟩; have C2 := Lib.hid (C1.out.thenSame hc); have B2 := Lib.hid (hc.at (by simp) B1.out); have k2 := blk_cell B2.out; clear k1 hc) | (go_at_call 44; (with_reducible refine Calls.mono (AF.out _ C2.out) ?_); rintro e w3 ⟨rfl, hc⟩; have C3 := Lib.hid (C2.out.thenSame hc); clear k2 hc))
      ((try simp only [Exit.inBlock, Exit.then]); refine bodyPost_ret (results_tmp4 rfl _ _ _) rfl ?_)
      exact study_nil HE.out C3.out
  · rw [if_neg hce] at hR
    have HE := Lib.hid hR
    have hceb : (ce != 0) = true := by simpa using hce
    clear hR hce
    go_enter Tryz.func28, Tryz.ntmps28
    go_upto_region 1 with fail
    rw [← hW1]
    clear hW1
    go_wp2_with (first | (go_at_call 43; (with_reducible refine Calls.mono AS.out ?_); rintro e w2 ⟨rfl, hc⟩; have C2 := Lib.hid (C1.out.thenSame hc); clear k1 hc))
    ((try simp only [Exit.inBlock, Exit.then]); refine bodyPost_ret (results_tmp4 rfl _ _ _) rfl ?_)
    exact study_nil HE.out C2.out
end Go.Proofs.YtolidiafomceiaaGreatDoor
