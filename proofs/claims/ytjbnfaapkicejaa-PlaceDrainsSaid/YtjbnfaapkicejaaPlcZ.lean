/- Chapter 43: contract of the reference: Drain. No condition. -/
import Derived.Test.YtjbnfaapkicejaaPlcR
import Derived.Test.YtjbnfaapkicejaaPlcX
namespace Go.Proofs.Ytjbnfaapkicejaa
set_option linter.unusedVariables false
set_option linter.unusedSimpArgs false
open Go.RowKit
theorem choose_no {ws : List Wk} {l : List Pl} {q : Pl} (h : bestI ws l q < 0) : chooseP ws l q = (⟨#[]⟩, 17) := by unfold chooseP; rw [if_pos h]
theorem choose_at {ws : List Wk} {l : List Pl} {q : Pl} {j : Nat} (hj : j < ws.length) (h : bestI ws l q = (j : Int)) : chooseP ws l q = (ws[j].name, 0) := by
  unfold chooseP; rw [h, if_neg (by omega), Int.toNat_natCast, List.getElem?_eq_getElem hj]
theorem moves_drop (s : ByteArray) (l : List Pl) (k : Nat) (h : k < l.length) : moves s (l.drop k) = if (l[k].wk == s) = true then l[k] :: moves s (l.drop (k + 1)) else moves s (l.drop (k + 1)) := by
  rw [List.drop_eq_getElem_cons h]
  unfold moves
  rw [List.filter_cons]
set_option maxHeartbeats 16000000 in
set_option maxRecDepth 100000 in
theorem rdrain_any (aw : Option Addr) (cw : Nat) (ws : List Wk) (a : Option Addr) (c : Nat) (l : List Pl) (s : ByteArray) (w : World) (hw : InIs wkC 3 w aw cw ws) (hwl : ws.length ≤ 4096) (hwg : ∀ x ∈ ws, x.good)
    (h : InIs plC 4 w a c l) (hl : l.length ≤ 4096) (hg : ∀ x ∈ l, x.good) :
    Calls Try.prog 18 #[.slice aw ws.length cw, .slice a l.length c, .string s] w fun e w' => ∃ v1 v2, e = .returned (.tuple #[v1, v2, .int .i64 (drainP ws l s).2.2]) ∧ RowOf wkC 3 w' w.heap.size 36 v1 (drainP ws l s).1 ∧ RowOf plC 4 w' w.heap.size 25 v2 (drainP ws l s).2.1 ∧ Chg [] w w' := by
  have H := Lib.hid h
  have A1 := Lib.hid (rcheck_any aw cw ws a c l w hw.1 hwl hw.2.1 hwg h.1 hl h.2.1 hg)
  have A2 := Lib.hid (fun w' (hc : Chg [] w w') => rworker_any aw cw ws s w' (hw.1.kept hc) hwl)
  have HWI := Lib.hid hw
  obtain ⟨R, hR⟩ : ∃ R, R = drainP ws l s := ⟨_, rfl⟩
  rw [← hR]
  unfold drainP at hR
  have hz := @check_zero ws l
  generalize checkP ws l = E at *
  clear hw h hwg hg
  by_cases hE : E = 0
  case neg =>
    rw [if_neg hE] at hR
    subst hR
    have hE' : (E == 0) = false := by simpa using hE
    clear hz
    go_enter Try.func18, Try.ntmps18
    go_wp2_with fail
    refine A1.out.mono ?_; rintro e w1 ⟨rfl, hc1⟩
    have C1 := Lib.hid hc1
    clear hc1
    go_wp2_with fail
    go_ret3
    exact ⟨_, _, rfl, RowOf.nil _ _ _, RowOf.nil _ _ _, C1.out⟩
  rw [if_pos hE] at hR
  obtain ⟨z1, z2, z3, z4, z5⟩ := hz hE
  subst hE
  have hb : wIdx ws s < 0 ∨ ∃ m : Nat, wIdx ws s = (m : Int) ∧ m < ws.length := by
    rcases idx_find (fun x : Wk => x.name == s) ws with ⟨_, hi⟩ | ⟨i, hi0, _, hi⟩
    · exact .inl (by unfold wIdx; rw [hi]; decide)
    · exact .inr ⟨i, hi, hi0⟩
  generalize wIdx ws s = n at *
  rcases hb with hn | ⟨m, rfl, hm⟩
  · rw [if_pos hn] at hR
    subst hR
    clear hz z1 z2 z3 z4 z5
    go_enter Try.func18, Try.ntmps18
    go_wp2_with fail
    refine A1.out.mono ?_; rintro e w1 ⟨rfl, hc1⟩
    have C1 := Lib.hid hc1
    clear hc1
    go_wp2_with fail
    refine (A2.out _ C1.out).mono ?_; rintro e w2 ⟨rfl, rfl⟩
    go_wp2_with fail
    go_ret3
    exact ⟨_, _, rfl, RowOf.nil _ _ _, RowOf.nil _ _ _, C1.out⟩
  rw [if_neg (by omega), Int.toNat_natCast] at hR
  have HR := Lib.hid hR
  have hoff : offW ws m = ws.set m { ws[m] with dr := true } := by unfold offW; rw [List.getElem?_eq_getElem hm]
  have ZW := Lib.hid (offW_mem (i := m) z3)
  have Z4 := Lib.hid z4
  have hwl' := Lib.hid (offW_len ws m)
  have hm0 : (0 : Int) ≤ (m : Int) := by omega
  have hm1 : (m : Int) < (ws.length : Int) := by omega
  have hl256 := z2
  clear hz z1 z2 z3 z4 z5 hR
  go_enter Try.func18, Try.ntmps18
  go_wp2_with fail
  refine A1.out.mono ?_; rintro e w1 ⟨rfl, hc1⟩
  have C1 := Lib.hid hc1
  clear hc1
  go_wp2_with fail
  refine (A2.out _ C1.out).mono ?_; rintro e w2 ⟨rfl, rfl⟩
  go_wp2_with (at_builtin; refine wpl_appendsI rfl _ _ 22 rfl w1.heap.size 36 _ 32 Try.underlying22 wkInfo rfl (by decide) wkC_len wkC_one (.slice (some ⟨w1.heap.size, 0, none⟩) 0 0) [] rfl (RowOf.empty (g := w1.heap.size) (Nat.le_refl _) (heap_alloc_new _ _) rfl) aw cw ws rfl (HWI.out.kept (C1.out.alloc _)) (by unfold maxLen; simp; omega) (by simp; omega) (by simp) ?_; intro v3 w3 hr3 hc3; rw [List.nil_append] at hr3; (obtain ⟨gw, kw, rfl⟩ : ∃ gw kw, v3 = .slice (some ⟨gw, 0, none⟩) ws.length kw := (RowOf.at hr3 wkC_len).elim (fun h => by rw [h.2] at hm; simp at hm) (fun ⟨g, cap, hv, _⟩ => ⟨g, cap, hv⟩)); obtain ⟨-, q2, q3, q4, q5, q6, q7⟩ := RowOf.atS hr3 wkC_len; have d2 := q4 m hm 2 (by omega); have f2 := q5 (m * 3 + 2); simp only [wkC, List.getElem?_cons_zero, List.getElem?_cons_succ] at d2)
  obtain ⟨W4, hW4⟩ : ∃ W4, W4 = w3.setCell ⟨gw, m * 3 + 2, none⟩ (.bool true) := ⟨_, rfl⟩
  have C3 := Lib.hid (show Chg [] w w3 from C1.out.then ((Chg.refl [] w1).alloc (.cells #[] 36) |>.then hc3 (by intro y hy hl; simp [Value.ownBlock] at hy; omega)) (by simp))
  have hr4 := RowOf.stored hr3 rfl wkC_len m hm 2 (by omega) (.bool true) { ws[m] with dr := true } rfl
  rw [← hW4, ← hoff] at hr4
  have R4 := Lib.hid hr4
  have C4 := Lib.hid (show Chg [] w W4 by rw [hW4]; exact C3.out.setCell _ _ (by intro hlt; have := C1.out.size; simp at q6 hlt; omega))
  have G4 := Lib.hid (hr4.block gw rfl)
  rw [← hW4]
  clear d2 f2 hc3 hr3 hr4 hW4 q2 q3 q4 q5 q6 q7 hoff
  have RW := Lib.hid (R4.out.mono (Nat.le_refl _) |>.sl wkC_len)
  go_loopw [12, 37] (fun st i wr => ∃ (k : Nat) (a1 : Option Addr) (c1 : Nat), i = .int .i64 k ∧ k ≤ l.length ∧ st = .slice a1 (stays s (l.take k)).length c1 ∧ Hid (RowOf plC 4 wr W4.heap.size 25 st (stays s (l.take k))) ∧ Hid (Chg [] W4 wr)) (fun _ i _ => l.length - (intOf i).toNat)
  case atStart => exact ⟨0, none, 0, rfl, Nat.zero_le _, rfl, Lib.hid (RowOf.nil _ _ _), Lib.hid (Chg.refl _ _)⟩
  case round =>
    obtain ⟨k, a1, c1, rfl, hkl, rfl, HS, D⟩ := hrel
    by_cases hk : k < l.length
    · obtain ⟨g1, o1, rfl, -, hbr1, hcc⟩ := H.out.1.elem (C4.out.thenSame D.out) k hk
      have d0 := hcc 0 (by omega)
      have d1 := hcc 1 (by omega)
      have d2 := hcc 2 (by omega)
      have d3 := hcc 3 (by omega)
      have hst := stays_step s l k hk
      have hsl : (stays s (l.take k)).length ≤ 256 := Nat.le_trans (stays_len _ _) (by rw [List.length_take]; omega)
      generalize l[k] = y at *
      simp only [plC, List.getElem?_cons_zero, List.getElem?_cons_succ, Nat.add_zero] at d0 d1 d2 d3
      have hk0 : (0 : Int) ≤ (k : Int) := by omega
      have hk1 : (k : Int) < (l.length : Int) := by omega
      have HSL := Lib.hid hsl
      rw [beq_toListBytes] at hst
      have E1 := Lib.hid (D.out.alloc (plO y))
      have N1 := Lib.hid (heap_alloc_new wr (plO y))
      have n1 := World.size_alloc wr (plO y)
      have hWr := D.out.size
      clear hcc hsl
      cases q1 : y.wk.toList == s.toList
      · rw [q1, if_neg (by decide)] at hst
        have HST := Lib.hid hst
        clear hst
        generalize stays s (l.take k) = L at *
        go_wp2_with (at_builtin; refine wpl_appendL rfl _ _ 23 rfl W4.heap.size 25 _ 56 Try.underlying23 plInfo rfl (by decide) plC_len plC_one (.slice a1 L.length c1) L rfl (RowOf.kept HS.out ((Chg.refl [] wr).alloc (plO y)) (by simp)) wr.heap.size 1 y _ _ _ rfl N1.out rfl (by unfold maxLen; have := HSL.out; omega) (by have := HSL.out; omega) E1.out.size ?_; intro g5 k5 w5 hr5 hg5 hw5 hl5)
        have hc5 : Chg [] W4 w5 := E1.out.then (Chg.ofRow hg5) (by intro y hy hl; have := (HS.out.block y (by simpa using hy)).1; omega)
        exact ⟨⟨k + 1, some ⟨g5, 0, none⟩, k5, by go_num, by omega, by rw [HST.out, List.length_append]; rfl, Lib.hid (by rw [HST.out]; exact hr5), Lib.hid hc5⟩, by simp [intOf]; omega⟩
      · rw [q1, if_pos rfl, List.append_nil] at hst
        have HST := Lib.hid hst
        clear hst
        generalize stays s (l.take k) = L at *
        go_wp2_with fail
        exact ⟨⟨k + 1, a1, c1, by go_num, by omega, by rw [HST.out], Lib.hid (by rw [HST.out]; exact HS.out), D⟩, by simp [intOf]; omega⟩
    · have hks : k = l.length := by omega
      subst hks
      rw [List.take_length] at *
      have hsl : (stays s l).length ≤ 256 := Nat.le_trans (stays_len _ _) hl256
      have ZS := Lib.hid (show ∀ q ∈ stays s l, memB q.mem = true from fun q hq => Z4.out q (List.mem_filter.1 hq).1)
      generalize stays s l = S0 at *
      have hwl2 := hwl'.out
      generalize offW ws m = ws' at *
      have RW2 := Lib.hid (show SlIs wkC 3 W4 (some ⟨gw, 0, none⟩) ws'.length ws' by rw [hwl2]; exact RW.out.1)
      have HWL := Lib.hid hwl2
      clear RW hwl2 hwl'
      go_wp2_with fail
      go_loopw [12, 57] (fun st i wr => ∃ (k : Nat) (a1 : Option Addr) (c1 : Nat) (S : List Pl), i = .int .i64 k ∧ k ≤ l.length ∧ st = .slice a1 S.length c1 ∧ Hid (RowOf plC 4 wr W4.heap.size 25 st S) ∧ Hid (Chg [] W4 wr) ∧ Hid (moveGo ws' S0 (moves s l) = moveGo ws' S (moves s (l.drop k))) ∧ Hid (S.length ≤ 256 + k) ∧ Hid (∀ q ∈ S, memB q.mem = true)) (fun _ i _ => l.length - (intOf i).toNat)
      case atStart => exact ⟨0, a1, c1, S0, rfl, Nat.zero_le _, rfl, HS, D, Lib.hid (by rw [List.drop_zero]), Lib.hid hsl, ZS⟩
      case round =>
        obtain ⟨k, b1, e1, S, rfl, hkl, rfl, HS, D, HG, HL, ZS⟩ := hrel
        by_cases hk : k < l.length
        · have hkm : k < 256 := by omega
          obtain ⟨g1, o1, rfl, -, hbr1, hcc⟩ := H.out.1.elem (C4.out.thenSame D.out) k hk
          have HCC := Lib.hid (show ∀ w', Chg [] wr w' → (w'.cell? ⟨g1, o1 + k * 4, none⟩ = some (.string l[k].id) ∧ w'.cell? ⟨g1, o1 + k * 4 + 1, none⟩ = some (.string l[k].tn) ∧ w'.cell? ⟨g1, o1 + k * 4 + 2, none⟩ = some (.int .i64 l[k].mem) ∧ w'.cell? ⟨g1, o1 + k * 4 + 3, none⟩ = some (.string l[k].wk)) ∧ g1 < w'.heap.size from fun w' hc => by
            obtain ⟨g2, o2, e, -, hb, hcc⟩ := H.out.1.elem (C4.out.thenSame (D.out.thenSame hc)) k hk
            cases e
            exact ⟨⟨hcc 0 (by omega), hcc 1 (by omega), hcc 2 (by omega), hcc 3 (by omega)⟩, hb⟩)
          have hgo := moves_drop s l k hk
          have hym := Z4.out l[k] (List.getElem_mem hk)
          generalize l[k] = y at *
          obtain ⟨⟨d0, d1, d2, d3⟩, -⟩ := HCC.out wr (Chg.refl _ _)
          have hk0 : (0 : Int) ≤ (k : Int) := by omega
          have hk1 : (k : Int) < (l.length : Int) := by omega
          rw [beq_toListBytes] at hgo
          have hgo2 := HG.out
          rw [hgo] at hgo2
          have hS5 : S.length ≤ 512 := by have := HL.out; omega
          clear hcc hgo
          cases q1 : y.wk.toList == s.toList
          case false =>
            rw [q1, if_neg (by decide)] at hgo2
            have HG2 := Lib.hid hgo2
            have hl' := HL.out
            clear hgo2
            go_wp2_with fail
            exact ⟨⟨k + 1, b1, e1, S, by go_num, by omega, rfl, HS, D, HG2, Lib.hid (by omega), ZS⟩, by simp [intOf]; omega⟩
          rw [q1, if_pos rfl, moveGo] at hgo2
          obtain ⟨bl, bh⟩ := bestAt_bounds (fun x => possB x S y) (betB S y) ws' ws'.length
          change -1 ≤ bestI ws' S y at bl
          change bestI ws' S y < _ at bh
          have B1 := Lib.hid (rbest_any (some ⟨gw, 0, none⟩) kw ws' b1 e1 S y wr (RW2.out.kept D.out) (by rw [HWL.out]; exact hwl) (RowOf.sl HS.out plC_len).1 (by omega) ZW.out ZS.out)
          have hV1 := @choose_no ws' S y
          have hV2 := fun j hj => @choose_at ws' S y j hj
          generalize bestI ws' S y = n at *
          rw [HWL.out] at B1
          unfold plV at B1
          by_cases hn : n < 0
          · rw [hV1 hn, if_neg (by decide)] at hgo2
            have HF : Hid (R = ([], [], 17)) := Lib.hid (by rw [HR.out, hgo2]; rfl)
            clear hgo2 hV1 hV2
            go_wp2_with fail
            refine B1.out.mono ?_; rintro e w6 ⟨rfl, hc6⟩
            have D6 := Lib.hid (D.out.thenSame hc6)
            clear hc6
            go_wp2_with fail
            go_ret3
            exact ⟨_, _, by rw [HF.out]; rfl, by rw [HF.out]; exact RowOf.nil _ _ _, by rw [HF.out]; exact RowOf.nil _ _ _, C4.out.thenSame D6.out⟩
          obtain ⟨j, rfl⟩ : ∃ j : Nat, n = (j : Int) := ⟨n.toNat, by omega⟩
          have hjl : j < ws'.length := by omega
          rw [hV2 j hjl rfl, if_pos rfl] at hgo2
          have HG2 := Lib.hid hgo2
          clear hgo2 hV1 hV2
          have hel : ∀ w', Chg [] W4 w' → w'.cell? ⟨gw, j * 3, none⟩ = some (.string ws'[j].name) ∧ gw < w'.heap.size := fun w' hc => by
            obtain ⟨g2, o2, e, -, hb, hcc⟩ := RW2.out.elem hc j hjl
            cases e
            have := hcc 0 (by omega)
            rw [Nat.zero_add, Nat.add_zero] at this
            exact ⟨this, hb⟩
          generalize ws'[j].name = nm at *
          have HEl := Lib.hid hel
          have hj0 : (0 : Int) ≤ (j : Int) := by omega
          have hj1 : (j : Int) < (ws.length : Int) := by have := HWL.out; omega
          clear hel
          go_wp2_with fail
          refine B1.out.mono ?_; rintro e w6 ⟨rfl, hc6⟩
          have D6 := Lib.hid (D.out.thenSame hc6)
          obtain ⟨⟨d0, d1, d2, d3⟩, hbr6⟩ := HCC.out w6 hc6
          have n6 := World.size_alloc w6 (plO y)
          obtain ⟨p0, lp⟩ := HEl.out _ D6.out
          obtain ⟨W7, hW7⟩ : ∃ W7, W7 = w6.alloc (plO (withW y nm)) := ⟨_, rfl⟩
          have K7 := Lib.hid (show Chg [] wr W7 by rw [hW7]; exact hc6.alloc _)
          have s7 : W7.heap.size = w6.heap.size + 1 := by rw [hW7, World.size_alloc]
          have N8 := heap_alloc_new W7 (plO (withW y nm))
          rw [s7] at N8
          have N8 := Lib.hid N8
          have K8 := Lib.hid (K7.out.alloc (plO (withW y nm)))
          have HS8 := Lib.hid (RowOf.kept HS.out K8.out (by simp))
          have S8 := Lib.hid (D.out.thenSame K8.out).size
          clear hc6
          subst hW7
          go_wp2_with (at_builtin; refine wpl_appendL rfl _ _ 23 rfl W4.heap.size 25 _ 56 Try.underlying23 plInfo rfl (by decide) plC_len plC_one (.slice b1 S.length e1) S rfl HS8.out (w6.heap.size + 1) 1 (withW y nm) _ _ _ rfl N8.out rfl (by unfold maxLen; omega) (by omega) S8.out ?_; intro g9 k9 w9 hr9 hg9 hw9 hl9)
          have hc9 : Chg [] W4 w9 := (D.out.thenSame K8.out).then (Chg.ofRow hg9) (by intro y hy hl; have := (HS.out.block y (by simpa using hy)).1; omega)
          exact ⟨⟨k + 1, some ⟨g9, 0, none⟩, k9, S ++ [withW y nm], by go_num, by omega, by rw [List.length_append]; rfl, Lib.hid hr9, Lib.hid hc9, HG2, Lib.hid (by rw [List.length_append]; have := HL.out; simp; omega), Lib.hid (fun q hq => by
            rcases List.mem_append.1 hq with hq | hq
            · exact ZS.out q hq
            · simp at hq; subst hq; exact hym)⟩, by simp [intOf]; omega⟩
        · have hks : k = l.length := by omega
          subst hks
          have hgo2 := HG.out
          rw [List.drop_length, show moves s [] = [] from rfl, moveGo] at hgo2
          have HF : Hid (R = (ws', S, 0)) := Lib.hid (by rw [HR.out, hgo2]; rfl)
          clear hgo2 HG
          go_wp2_with fail
          go_ret3
          exact ⟨.slice (some ⟨gw, 0, none⟩) ws.length kw, _, by rw [HF.out]; rfl, by rw [HF.out]; exact (RowOf.kept R4.out D.out (by simp)).mono C1.out.size, by rw [HF.out]; exact HS.out.mono C4.out.size, C4.out.thenSame D.out⟩
end Go.Proofs.Ytjbnfaapkicejaa
