/- Chapter 9: contract: (*scope).walk. Condition: the node was found well. -/
import Derived.Test.YtolidiafomceiaaGreatDoorStaV
namespace Go.Proofs.YtolidiafomceiaaGreatDoor
set_option linter.unusedVariables false
set_option linter.unusedSimpArgs false
open Go.RowKit
theorem walkZ_block {x : Pr} {n i : Nat} {S : ScS} (h : i < x.nodes.length) (hb : (x.nodes[i].kind == 19) = true) : walkZ x.p (n + 1) S i = dropV (x.nodes[i].kids.foldl (stmZ x.p (walkZ x.p n)) (S, [])).1 (x.nodes[i].kids.foldl (stmZ x.p (walkZ x.p n)) (S, [])).2 := by
  rw [walkZ, nodes_p_at h]
  exact if_pos (by simpa using hb : x.nodes[i].kind = 19)
theorem walkZ_other {x : Pr} {n i : Nat} {S : ScS} (h : i < x.nodes.length) (hb : (x.nodes[i].kind == 19) = false) : walkZ x.p (n + 1) S i = endZ x.p (x.nodes[i].kids.foldl (fun q k => walkZ x.p n q k.toNat) S) i x.nodes[i].p := by
  rw [walkZ, nodes_p_at h]
  exact if_neg (by simpa using hb : ¬ x.nodes[i].kind = 19)
theorem endZ_var {p : PPr} {S : ScS} {i : Nat} (d : Nd) (h : d.kind = 5 ∨ d.kind = 14) : endZ p S i d.p = match lookL Prod.fst S.vis d.text with
    | none => ⟨S.vis, S.next, S.slots, S.errs.set i 4⟩
    | some x => ⟨S.vis, S.next, S.slots.set i x.2, S.errs⟩ := if_pos h
theorem endZ_letN {p : PPr} {S : ScS} {i : Nat} (d : PNd) (h : d.kind = 13) : endZ p S i d = letZ S i d.text := by
  unfold endZ
  rw [if_neg (by omega), if_pos h]
theorem endZ_let {p : PPr} {S : ScS} {i : Nat} (d : Nd) (h : d.kind = 13) : endZ p S i d.p = letZ S i d.text := endZ_letN d.p h
theorem endZ_callN {p : PPr} {S : ScS} {i : Nat} (d : PNd) (h : d.kind = 11) : endZ p S i d = ⟨S.vis, S.next, S.slots, S.errs.set i (callZ p d)⟩ := by
  unfold endZ
  rw [if_neg (by omega), if_neg (by omega), if_pos h]
theorem endZ_call {p : PPr} {S : ScS} {i : Nat} (d : Nd) (h : d.kind = 11) : endZ p S i d.p = ⟨S.vis, S.next, S.slots, S.errs.set i (callZ p d.p)⟩ := endZ_callN d.p h
theorem endZ_hostN {p : PPr} {S : ScS} {i : Nat} (d : PNd) (h : d.kind = 12) : endZ p S i d = if (lkZ hoL d.text).2 = true then (if (lkZ hoL d.text).1 = (d.kids.length : Int) then S else ⟨S.vis, S.next, S.slots, S.errs.set i 7⟩) else ⟨S.vis, S.next, S.slots, S.errs.set i 4⟩ := by
  unfold endZ
  rw [if_neg (by omega), if_neg (by omega), if_neg (by omega), if_pos h]
theorem endZ_host {p : PPr} {S : ScS} {i : Nat} (d : Nd) (h : d.kind = 12) : endZ p S i d.p = if (lkZ hoL d.text).2 = true then (if (lkZ hoL d.text).1 = (d.kids.length : Int) then S else ⟨S.vis, S.next, S.slots, S.errs.set i 7⟩) else ⟨S.vis, S.next, S.slots, S.errs.set i 4⟩ := endZ_hostN d.p h
theorem endZ_noneN {p : PPr} {S : ScS} {i : Nat} (d : PNd) (h : ¬ (d.kind = 5 ∨ d.kind = 14)) (h1 : ¬ d.kind = 13) (h2 : ¬ d.kind = 11) (h3 : ¬ d.kind = 12) : endZ p S i d = S := by
  unfold endZ
  rw [if_neg h, if_neg h1, if_neg h2, if_neg h3]
theorem endZ_none {p : PPr} {S : ScS} {i : Nat} (d : Nd) (h : ¬ (d.kind = 5 ∨ d.kind = 14)) (h1 : ¬ d.kind = 13) (h2 : ¬ d.kind = 11) (h3 : ¬ d.kind = 12) : endZ p S i d.p = S := endZ_noneN d.p h h1 h2 h3
set_option maxHeartbeats 16000000 in
set_option maxRecDepth 100000 in
theorem swalk_all {x : Pr} {w0 : World} {B b mb sb eb : Nat} (hs : Sep B b mb sb eb) (hB : w0.heap.size ≤ B) (hp : PrIn w0 x) (hN : x.nodes.length ≤ 600) : ∀ n, WalkOk x w0 B b mb sb eb n := by
  intro n
  induction n with
  | zero => intro w S i _ _ hi; omega
  | succ n ih =>
    intro w S i h0 h hi hil hf
    have hxe : (x.nodes.map Nd.p)[i]? = some (x.nodes[i]).p := by rw [List.getElem?_map, List.getElem?_eq_getElem hil]; rfl
    have hkk := firstF_kids hxe hf
    have hkc := firstF_count hxe hf
    have hkids : (x.nodes[i]).p.kids = (x.nodes[i]).kids := rfl
    rw [hkids] at hkk hkc
    have hkk : ∀ kk, kk < (x.nodes[i]).kids.length → ∃ m : Nat, (x.nodes[i]).kids[kk]? = some (m : Int) ∧ m < n ∧ m < x.nodes.length ∧ 0 ≤ firstF (x.nodes.map Nd.p) n m := fun kk hk => by
      obtain ⟨m, h1, h2, h3, h4⟩ := hkk kk hk
      rw [List.length_map] at h3
      exact ⟨m, h1, by omega, h3, h4⟩
    have hkl : (x.nodes[i]).kids.length ≤ 600 := by omega
    have hdi := (hp.1.2 _ (List.getElem_mem hil))
    obtain ⟨b3, o3, e3, -, -, hc3⟩ := (hp.kept h0).1.1.1.elem (Chg.refl [] _) i hil
    have y0 := hc3 0 (by omega)
    have y1 := hc3 1 (by omega)
    have y2 := hc3 2 (by omega)
    have y3 := hc3 3 (by omega)
    have y4 := hc3 4 (by omega)
    simp only [ndC, List.getElem?_cons_zero, List.getElem?_cons_succ, Nat.add_zero] at y0 y1 y2 y3 y4
    have WB := Lib.hid (walkZ_block (n := n) (S := S) hil)
    have WO := Lib.hid (walkZ_other (n := n) (S := S) hil)
    have HBL := Lib.hid (fun (w : World) (S : ScS) (h1 : Chg [] w0 w) (h2 : ScAt x B b mb sb eb w S) => sblock_any hs hB hp ih (x.nodes[i]) hdi hkl hkk h1 h2)
    have hi0 : (0 : Int) ≤ (i : Int) := by omega
    have hi' : (i : Int) < (x.nodes.length : Int) := by omega
    generalize hd : x.nodes[i] = d at *
    obtain ⟨R, hR⟩ : ∃ R, R = walkZ x.p (n + 1) S i := ⟨_, rfl⟩
    rw [← hR]
    have HR := Lib.hid hR
    obtain ⟨W1, hW1⟩ : ∃ W1, W1 = w.alloc (ndO d) := ⟨_, rfl⟩
    have N1 := Lib.hid (show Chg [] w W1 by rw [hW1]; exact (Chg.refl _ _).alloc _)
    have H1 := Lib.hid (h0.thenSame N1.out)
    have A1 := Lib.hid (h.keptN N1.out)
    have B1 := Lib.hid (show W1.heap[w.heap.size]? = some (ndO d) by rw [hW1]; exact heap_alloc_new _ _)
    have k0 := blk_cell (by have := h.box; unfold scO at this; rw [e3] at this; exact this)
    unfold ndO at hW1 B1
    have n1 := blk_cell B1.out
    have C1 := Lib.hid (show Chg [b, mb, sb, eb] w W1 from N1.out.mono (by simp))
    have HLT := Lib.hid h.below
    have HS := Lib.hid hs
    have HB := Lib.hid hB
    have HK := Lib.hid hkk
    have HD := Lib.hid (fun w' (hc : Chg [] w0 w') => show InIs icI 1 w' d.da d.dc d.kids from (hdi.kept hc).2)
    have HIH := Lib.hid ih
    have HP := Lib.hid hp
    have H0 := Lib.hid h0
    clear hc3 hR hkk hkids hdi h ih hf hs hB hd hxe hp h0
    cases hq : (d.kind == 19)
    · have HE := Lib.hid (HR.out.trans (WO.out hq))
      have hkli : (d.kids.length : Int) ≤ 600 := by omega
      clear HR WB WO HBL
      go_enter Tryz.func45, Tryz.ntmps45
      go_upto_region 1 with fail
      rw [← hW1]
      clear hW1 y0 y1 y2 y3 y4 k0
      go_wp2_with fail
      clear n1
      go_loopw [28] (fun v wi => ∃ (j : Nat) (S' : ScS), v = .int .i64 j ∧ j ≤ d.kids.length ∧ Hid (R = endZ x.p ((d.kids.drop j).foldl (fun q k => walkZ x.p n q k.toNat) S') i d.p) ∧ Hid (ScAt x B b mb sb eb wi S') ∧ Hid (Chg [b, mb, sb, eb] w wi) ∧ Hid (wi.heap[w.heap.size]? = some (.cells #[.int .i64 d.kind, .string d.text, .int .i64 d.n, .slice d.ka d.keys.length d.kc, .slice d.da d.kids.length d.dc] 49 (0, 0)))) (fun v _ => d.kids.length - (intOf v).toNat)
      case atStart => exact ⟨0, S, rfl, Nat.zero_le _, Lib.hid HE.out, A1, C1, B1⟩
      case round =>
        obtain ⟨j, S', rfl, hj, HF, A, C, N⟩ := hrel
        have hj0 : (0 : Int) ≤ (j : Int) := by omega
        have H1 := Lib.hid (HS.out.nil HB.out H0.out C.out)
        by_cases hjl : j < d.kids.length
        · have hjl' : (j : Int) < (d.kids.length : Int) := by omega
          obtain ⟨b2, o2, e2, -, -, hc2⟩ := (HD.out _ H1.out).1.elem (Chg.refl [] _) j hjl
          obtain ⟨m, hm1, hm2, hm3, hm4⟩ := HK.out j hjl
          rw [List.getElem?_eq_getElem hjl] at hm1
          injection hm1 with hm1
          have u1 := hc2 0 (by omega)
          simp only [icI, List.getElem?_cons_zero, Nat.add_zero, Nat.mul_one] at u1
          rw [hm1] at u1
          have HF2 := HF.out
          rw [List.drop_eq_getElem_cons hjl, List.foldl_cons, hm1, Int.toNat_natCast] at HF2
          have AW := Lib.hid (HIH.out _ S' m H1.out A.out hm2 hm3 hm4)
          have HF3 := Lib.hid HF2
          have qj : IntKind.i64.wrap ((j : Int) + 1) = (j : Int) + 1 := IntWalk.i64_in _ (by omega)
          clear hc2 hm1 HF2
          rw [e2]
          go_wp2_with (go_at_call 45; (with_reducible refine Calls.mono AW.out ?_); rintro e w5 ⟨rfl, ha, hc⟩; have A5 := Lib.hid ha; have C5 := Lib.hid (C.out.thenSame hc); have N5 := Lib.hid (hc.at (fun hg => absurd (HLT.out _ hg) (by omega)) N.out); clear ha hc u1)
          exact ⟨⟨j + 1, _, rfl, by omega, HF3, A5, C5, (by first | exact N5 | (rw [e2] at N5; exact N5))⟩, by simp [intOf]; omega⟩
        · have hje : j = d.kids.length := by omega
          have HF2 := HF.out
          rw [hje, List.drop_length, List.foldl_nil] at HF2
          have HF3 := Lib.hid HF2
          have hjl' : ¬ (j : Int) < (d.kids.length : Int) := by omega
          have n1 := blk_cell N.out
          clear HF HF2 hje HE
          cases q5 : (d.kind == 5)
          · cases q14 : (d.kind == 14)
            · have h514 : ¬ (d.kind = 5 ∨ d.kind = 14) := by simp at q5 q14; omega
              cases q13 : (d.kind == 13)
              · cases q11 : (d.kind == 11)
                · cases q12 : (d.kind == 12)
                  · have HE := Lib.hid (HF3.out.trans (endZ_none d h514 (by simpa using q13) (by simpa using q11) (by simpa using q12)))
                    clear HF3 h514
                    go_wp2_with fail
                    go_end0
                    exact ⟨rfl, by rw [HE.out]; exact A.out, C.out⟩
                  · have HE := Lib.hid (HF3.out.trans (endZ_host d (eq_of_beq q12)))
                    have AH := Lib.hid (fun w' => hostop_any d.text w')
                    have HEq := HE.out
                    generalize lkZ hoL d.text = hq at *
                    obtain ⟨hn, hb⟩ := hq
                    clear HF3 h514 HE
                    cases hb
                    · have HE := Lib.hid (show R = ⟨S'.vis, S'.next, S'.slots, S'.errs.set i 4⟩ from HEq)
                      clear HEq
                      go_upto_region 21 with (go_at_call 64; (with_reducible refine Calls.mono (AH.out _) ?_); rintro e w5 ⟨rfl, hc⟩; have A5 := Lib.hid (A.out.keptN hc); have C5 := Lib.hid (C.out.then hc (by simp)); have N5 := Lib.hid (hc.at (by simp) N.out); have n5 := blk_cell N5.out; clear n1 hc)
                      have k7 := blk_cell (by have := A5.out.box; unfold scO at this; exact this)
                      obtain ⟨ev, e7⟩ : ∃ v, w5.cell? ⟨eb, i, none⟩ = some v := ⟨_, A5.out.erC i hil⟩
                      have g7 := fun q => A5.out.erF q
                      have A8 := Lib.hid (A5.out.setErr HS.out i hil 4)
                      have C8 := Lib.hid (C5.out.setCell ⟨eb, i, none⟩ (.int .i64 4) (by simp))
                      go_wp2_with fail
                      go_end0
                      exact ⟨rfl, by rw [HE.out]; exact A8.out, C8.out⟩
                    · by_cases hne : hn = (d.kids.length : Int)
                      · have HE := Lib.hid (show R = S' by rw [HEq]; exact (if_pos rfl).trans (if_pos hne))
                        have hnq : (hn != (d.kids.length : Int)) = false := by rw [hne]; simp
                        clear HEq hne
                        go_wp2_with (go_at_call 64; (with_reducible refine Calls.mono (AH.out _) ?_); rintro e w5 ⟨rfl, hc⟩; have A5 := Lib.hid (A.out.keptN hc); have C5 := Lib.hid (C.out.then hc (by simp)); have N5 := Lib.hid (hc.at (by simp) N.out); have n5 := blk_cell N5.out; clear n1 hc)
                        go_end0
                        exact ⟨rfl, by rw [HE.out]; exact A5.out, C5.out⟩
                      · have HE := Lib.hid (show R = ⟨S'.vis, S'.next, S'.slots, S'.errs.set i 7⟩ by rw [HEq]; exact (if_pos rfl).trans (if_neg hne))
                        have hnq : (hn != (d.kids.length : Int)) = true := by simpa using hne
                        clear HEq hne
                        go_upto_region 21 with (go_at_call 64; (with_reducible refine Calls.mono (AH.out _) ?_); rintro e w5 ⟨rfl, hc⟩; have A5 := Lib.hid (A.out.keptN hc); have C5 := Lib.hid (C.out.then hc (by simp)); have N5 := Lib.hid (hc.at (by simp) N.out); have n5 := blk_cell N5.out; clear n1 hc)
                        have k7 := blk_cell (by have := A5.out.box; unfold scO at this; exact this)
                        obtain ⟨ev, e7⟩ : ∃ v, w5.cell? ⟨eb, i, none⟩ = some v := ⟨_, A5.out.erC i hil⟩
                        have g7 := fun q => A5.out.erF q
                        have A8 := Lib.hid (A5.out.setErr HS.out i hil 7)
                        have C8 := Lib.hid (C5.out.setCell ⟨eb, i, none⟩ (.int .i64 7) (by simp))
                        go_wp2_with fail
                        go_end0
                        exact ⟨rfl, by rw [HE.out]; exact A8.out, C8.out⟩
                · have HE := Lib.hid (HF3.out.trans (endZ_call d (eq_of_beq q11)))
                  have AC := Lib.hid (fun (w' : World) (h1 : Chg [] wr w') => scall_any x d b mb sb eb S'.next w' (HP.out.kept (H1.out.thenSame h1)) (A.out.keptN h1).box)
                  unfold ndC at AC
                  generalize callZ x.p d.p = cv at *
                  clear HF3 h514
                  have k5 := blk_cell (by have := A.out.box; unfold scO at this; exact this)
                  go_upto_region 18 with fail
                  have VK := Lib.hid (fun (w' : World) (hc : Chg [eb] wr w') => show w'.cell? ⟨b, 5, none⟩ = some (.slice (some ⟨eb, 0, none⟩) x.nodes.length x.nodes.length) ∧ w'.cell? ⟨w.heap.size, 0, none⟩ = some (.int .i64 d.kind) ∧ w'.cell? ⟨w.heap.size, 1, none⟩ = some (.string d.text) ∧ w'.cell? ⟨w.heap.size, 2, none⟩ = some (.int .i64 d.n) ∧ w'.cell? ⟨w.heap.size, 3, none⟩ = some (.slice d.ka d.keys.length d.kc) ∧ w'.cell? ⟨w.heap.size, 4, none⟩ = some (.slice d.da d.kids.length d.dc) from by
                    have h1 := blk_cell (by have := hc.at (by simp; exact fun e => HS.out.n3 e.symm) A.out.box; unfold scO at this; exact this)
                    have h2 := blk_cell (hc.at (by simp; have := HLT.out eb (by simp); omega) N.out)
                    exact ⟨h1 5, h2 0, h2 1, h2 2, h2 3, h2 4⟩)
                  clear n1 k5
                  go_region_held3 (fun w' => w'.cell? ⟨b, 5, none⟩ = some (.slice (some ⟨eb, 0, none⟩) x.nodes.length x.nodes.length) ∧ w'.cell? ⟨w.heap.size, 0, none⟩ = some (.int .i64 d.kind) ∧ w'.cell? ⟨w.heap.size, 1, none⟩ = some (.string d.text) ∧ w'.cell? ⟨w.heap.size, 2, none⟩ = some (.int .i64 d.n) ∧ w'.cell? ⟨w.heap.size, 3, none⟩ = some (.slice d.ka d.keys.length d.kc) ∧ w'.cell? ⟨w.heap.size, 4, none⟩ = some (.slice d.da d.kids.length d.dc))
                    (first | exact VK.out _ ((Chg.refl _ _).drew) | exact VK.out _ KC.out | exact VK.out _ (KC.out.setCell _ _ (by simp)))
                    (first | (go_at_call 63; (with_reducible refine Calls.mono (AC.out _ ((Chg.refl _ _).drew)) ?_); rintro e w5 ⟨rfl, hc⟩; have A5 := Lib.hid ((A.out.keptN (Chg.refl [] wr).drew).keptN hc); have C5 := Lib.hid (C.out.drew.then hc (by simp)); have KC := Lib.hid (show Chg [eb] wr w5 from ((Chg.refl _ _).drew).then hc (by simp)); have g7 := (fun q => A5.out.erF q); obtain ⟨ev, e7⟩ : ∃ v, w5.cell? ⟨eb, i, none⟩ = some v := ⟨_, A5.out.erC i hil⟩; clear hc) | fail)
                  go_wp2_with fail
                  go_end0
                  exact ⟨rfl, by rw [HE.out]; exact A5.out.setErr HS.out i hil cv, C5.out.setCell _ _ (by simp)⟩
              · have HE := Lib.hid (HF3.out.trans (endZ_let d (eq_of_beq q13)))
                have AL := Lib.hid (slet_any A.out HS.out i hil d.text)
                clear HF3 h514
                go_wp2_with (go_at_call 62; (with_reducible refine Calls.mono AL.out ?_); rintro e w5 ⟨rfl, ha, hc⟩; have A5 := Lib.hid ha; have C5 := Lib.hid (C.out.thenSame hc); clear ha hc)
                go_end0
                exact ⟨rfl, by rw [HE.out]; exact A5.out, C5.out⟩
            · go_upto_region 11 with fail
              have HV := HF3.out.trans (endZ_var d (by first | exact .inl (eq_of_beq q5) | exact .inr (eq_of_beq q14)))
              have f5 := Lib.hid (fun n => A.out.keptN ((Chg.refl [] wr).drewN n))
              have c5 := Lib.hid (fun n => C.out.drewN n)
              have k5 := blk_cell (by have := A.out.box; unfold scO at this; exact this)
              cases hl : lookL Prod.fst S'.vis d.text with
              | none =>
                have hrun : ∀ n, (Sem.run Tryz.prog (Instr.lookup 69 (.map (some mb)) (.string d.text) true) (wr.drewN n)) = Result.ok (.tuple #[.int .i64 0, .bool false]) (wr.drewN n) := fun n => by
                  have := (f5.out n).map.lookup Tryz.underlying69 Tryz.underlying9 (zeroIS _) d.text true
                  rw [hl] at this
                  exact this
                rw [hl] at HV
                have HE := Lib.hid HV
                clear HF3 HV hl
                go_quiet (fail)
                have A7 := Lib.hid (f5.out nq)
                have C7 := Lib.hid (c5.out nq)
                clear hrun f5 c5 k5
                generalize wr.drewN nq = W7 at *
                have k7 := blk_cell (by have := A7.out.box; unfold scO at this; exact this)
                obtain ⟨ev, e7⟩ : ∃ v, W7.cell? ⟨eb, i, none⟩ = some v := ⟨_, A7.out.erC i hil⟩
                have g7 := fun q => A7.out.erF q
                have A8 := Lib.hid (A7.out.setErr HS.out i hil 4)
                have C8 := Lib.hid (C7.out.setCell ⟨eb, i, none⟩ (.int .i64 4) (by simp))
                go_wp2_with fail
                ((try simp only [Exit.inBlock, Exit.then]); refine bodyPost_ret (results_none rfl _ _ _) rfl ?_)
                exact ⟨rfl, by rw [HE.out]; exact A8.out, C8.out⟩
              | some y =>
                have hrun : ∀ n, (Sem.run Tryz.prog (Instr.lookup 69 (.map (some mb)) (.string d.text) true) (wr.drewN n)) = Result.ok (.tuple #[.int .i64 y.2, .bool true]) (wr.drewN n) := fun n => by
                  have := (f5.out n).map.lookup Tryz.underlying69 Tryz.underlying9 (zeroIS _) d.text true
                  rw [hl] at this
                  exact this
                rw [hl] at HV
                have HE := Lib.hid HV
                clear HF3 HV hl
                go_quiet (fail)
                have A7 := Lib.hid (f5.out nq)
                have C7 := Lib.hid (c5.out nq)
                clear hrun f5 c5 k5
                generalize wr.drewN nq = W7 at *
                have k7 := blk_cell (by have := A7.out.box; unfold scO at this; exact this)
                obtain ⟨ev, e7⟩ : ∃ v, W7.cell? ⟨sb, i, none⟩ = some v := ⟨_, A7.out.slC i hil⟩
                have g7 := fun q => A7.out.slF q
                have A8 := Lib.hid (A7.out.setSlot HS.out i hil y.2)
                have C8 := Lib.hid (C7.out.setCell ⟨sb, i, none⟩ (.int .i64 y.2) (by simp))
                go_wp2_with fail
                go_end0
                exact ⟨rfl, by rw [HE.out]; exact A8.out, C8.out⟩
          · go_upto_region 11 with fail
            have HV := HF3.out.trans (endZ_var d (by first | exact .inl (eq_of_beq q5) | exact .inr (eq_of_beq q14)))
            have f5 := Lib.hid (fun n => A.out.keptN ((Chg.refl [] wr).drewN n))
            have c5 := Lib.hid (fun n => C.out.drewN n)
            have k5 := blk_cell (by have := A.out.box; unfold scO at this; exact this)
            cases hl : lookL Prod.fst S'.vis d.text with
            | none =>
              have hrun : ∀ n, (Sem.run Tryz.prog (Instr.lookup 69 (.map (some mb)) (.string d.text) true) (wr.drewN n)) = Result.ok (.tuple #[.int .i64 0, .bool false]) (wr.drewN n) := fun n => by
                have := (f5.out n).map.lookup Tryz.underlying69 Tryz.underlying9 (zeroIS _) d.text true
                rw [hl] at this
                exact this
              rw [hl] at HV
              have HE := Lib.hid HV
              clear HF3 HV hl
              go_quiet (fail)
              have A7 := Lib.hid (f5.out nq)
              have C7 := Lib.hid (c5.out nq)
              clear hrun f5 c5 k5
              generalize wr.drewN nq = W7 at *
              have k7 := blk_cell (by have := A7.out.box; unfold scO at this; exact this)
              obtain ⟨ev, e7⟩ : ∃ v, W7.cell? ⟨eb, i, none⟩ = some v := ⟨_, A7.out.erC i hil⟩
              have g7 := fun q => A7.out.erF q
              have A8 := Lib.hid (A7.out.setErr HS.out i hil 4)
              have C8 := Lib.hid (C7.out.setCell ⟨eb, i, none⟩ (.int .i64 4) (by simp))
              go_wp2_with fail
              ((try simp only [Exit.inBlock, Exit.then]); refine bodyPost_ret (results_none rfl _ _ _) rfl ?_)
              exact ⟨rfl, by rw [HE.out]; exact A8.out, C8.out⟩
            | some y =>
              have hrun : ∀ n, (Sem.run Tryz.prog (Instr.lookup 69 (.map (some mb)) (.string d.text) true) (wr.drewN n)) = Result.ok (.tuple #[.int .i64 y.2, .bool true]) (wr.drewN n) := fun n => by
                have := (f5.out n).map.lookup Tryz.underlying69 Tryz.underlying9 (zeroIS _) d.text true
                rw [hl] at this
                exact this
              rw [hl] at HV
              have HE := Lib.hid HV
              clear HF3 HV hl
              go_quiet (fail)
              have A7 := Lib.hid (f5.out nq)
              have C7 := Lib.hid (c5.out nq)
              clear hrun f5 c5 k5
              generalize wr.drewN nq = W7 at *
              have k7 := blk_cell (by have := A7.out.box; unfold scO at this; exact this)
              obtain ⟨ev, e7⟩ : ∃ v, W7.cell? ⟨sb, i, none⟩ = some v := ⟨_, A7.out.slC i hil⟩
              have g7 := fun q => A7.out.slF q
              have A8 := Lib.hid (A7.out.setSlot HS.out i hil y.2)
              have C8 := Lib.hid (C7.out.setCell ⟨sb, i, none⟩ (.int .i64 y.2) (by simp))
              go_wp2_with fail
              go_end0
              exact ⟨rfl, by rw [HE.out]; exact A8.out, C8.out⟩
    · have AB := Lib.hid (HBL.out _ _ H1.out A1.out)
      have HE := Lib.hid (HR.out.trans (WB.out hq))
      unfold ndC at AB
      go_enter Tryz.func45, Tryz.ntmps45
      go_upto_region 1 with fail
      rw [← hW1]
      clear hW1 y0 y1 y2 y3 y4 k0
      go_wp2_with (go_at_call 61; (with_reducible refine Calls.mono AB.out ?_); rintro e w5 ⟨rfl, ha, hc⟩; have A5 := Lib.hid ha; have C5 := Lib.hid (C1.out.thenSame hc); clear ha hc)
      ((try simp only [Exit.inBlock, Exit.then]); refine bodyPost_ret (results_none rfl _ _ _) rfl ?_)
      exact ⟨rfl, by rw [HE.out]; exact A5.out, C5.out⟩
end Go.Proofs.YtolidiafomceiaaGreatDoor
