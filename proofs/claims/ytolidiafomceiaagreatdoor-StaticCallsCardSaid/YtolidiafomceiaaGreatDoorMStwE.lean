/- Chapter 9: the reference's visit. Condition: at most 600 nodes, 16 functions; at most 100 names ahead of the function's first node. Chapter 9: the reference's run and all. Condition: the program is one that Check of layer 8 accepts. Chapter 9: the reference's all. Condition: the program is one that Check of layer 8 accepts. -/
import Derived.Test.YtolidiafomceiaaGreatDoorMStwA
import Derived.Deep.DeepCutAuto
namespace Go.Proofs.YtolidiafomceiaaGreatDoor
set_option linter.unusedVariables false
set_option linter.unusedSimpArgs false
open Go.RowKit
theorem elemSslW : Tryz.prog.underlying 36 = some (.slice (Tryz.prog.elem 36)) := by kernel_rfl
theorem elemIntsW : Tryz.prog.underlying 32 = some (.slice (Tryz.prog.elem 32)) := by kernel_rfl
theorem sizeStrW (w : World) : (sizeOf (Tryz.prog.elem 36)).run Tryz.prog w = .ok 1 w := by kernel_rfl
theorem sizeIntW (w : World) : (sizeOf (Tryz.prog.elem 32)).run Tryz.prog w = .ok 1 w := by kernel_rfl
def VisitOk (x : Pr) (w0 : World) (B b sb n : Nat) : Prop := ∀ (w : World) (S : RfS) (L : List Nat) (i s : Nat), Chg [] w0 w → RfJ x B b sb S L w → i < n → i < x.nodes.length → firstF x.p.nodes x.p.nodes.length i = (s : Int) → S.names.length ≤ 100 + s →
  Calls Tryz.prog 48 #[.pointer (some ⟨b, 0, none⟩), .int .i64 i] w fun e w' => e = .returned (.tuple #[]) ∧ RfTo x B b sb L w (visitR x.p n S i) w'
set_option maxHeartbeats 16000000 in
set_option maxRecDepth 100000 in
theorem visit_step {x : Pr} {w0 : World} {B b sb n : Nat} (hp : PrIn w0 x) (hB : w0.heap.size ≤ B) (hN : x.nodes.length ≤ 600) (hF : x.funcs.length ≤ 16) (ih : VisitOk x w0 B b sb n) : VisitOk x w0 B b sb (n + 1) := by
  intro w S L i s hw hJ hin hil hs hnl
  obtain ⟨R, hR⟩ : ∃ R, R = visitR x.p (n + 1) S i := ⟨_, rfl⟩
  rw [← hR]
  have hx : x.p.nodes[i]? = some (x.nodes[i]).p := by
    show (x.nodes.map Nd.p)[i]? = _
    rw [List.getElem?_map, List.getElem?_eq_getElem hil]
    rfl
  have hch := first_chain hx hs
  rw [visitR, hx] at hR
  simp only at hR
  have HJ := Lib.hid hJ
  have HIH := Lib.hid ih
  have HSF := Lib.hid (firstF_le (l := x.p.nodes) x.p.nodes.length i)
  rw [hs] at HSF
  have HCH := Lib.hid hch
  have HLT := Lib.hid hJ.lt
  have HW0 := Lib.hid hw
  have RC := Lib.hid (fun w' (S' : RfS) (L' : List Nat) (hc : Chg [] w0 w') (hj : RfJ x B b sb S' L' w') => rcall_any hp hj hc i hil hF)
  have HP := Lib.hid (fun w' (hc : Chg [] w w') => hp.kept (hw.thenSame hc))
  have hi0 : (0 : Int) ≤ (i : Int) := by omega
  have hi1 : (i : Int) < (x.nodes.length : Int) := by omega
  obtain ⟨b3, o3, e3, -, -, hc3⟩ := ((HP.out _ (Chg.refl _ _)).1.1.1).elem (Chg.refl [] _) i hil
  have v0 := hc3 0 (by omega)
  have v1 := hc3 1 (by omega)
  have v2 := hc3 2 (by omega)
  have v3 := hc3 3 (by omega)
  have v4 := hc3 4 (by omega)
  simp only [ndC, List.getElem?_cons_zero, List.getElem?_cons_succ, Nat.add_zero] at v0 v1 v2 v3 v4
  clear hc3
  have HND := Lib.hid (fun w' (hc : Chg [] w w') => show NdIn w' x.nodes[i] from (HP.out w' hc).1.2 _ (List.getElem_mem hil))
  generalize hdd : x.nodes[i] = d at *
  have HDD := Lib.hid hdd
  have hkb : (d.kids.length : Int) ≤ 9223372036854775807 := by have h0 := (HND.out _ (Chg.refl _ _)).2; have h1 := h0.2.1; have h2 := h0.2.2.1; unfold maxLen at h2; omega
  have HND0 := Lib.hid (fun w' (hc : Chg [] w0 w') => show NdIn w' d from by
    have := (hp.kept hc).1.2 _ (List.getElem_mem hil)
    rw [HDD.out] at this
    exact this)
  have HNL0 := Lib.hid hnl
  obtain ⟨na, nc, va, vc, hA, hL⟩ := hJ
  have BX := Lib.hid hA.box
  unfold rfO at BX
  simp only [List.length_map] at BX
  have k0 := blk_cell (by have := BX.out; rw [e3] at this; exact this)
  obtain ⟨W1, hW1⟩ : ∃ W1, W1 = w.alloc (ndO d) := ⟨_, rfl⟩
  have D1 := Lib.hid (show Chg [] w W1 by rw [hW1]; exact (Chg.refl _ _).alloc _)
  have N1 := Lib.hid (show W1.heap[w.heap.size]? = some (ndO d) by rw [hW1]; exact heap_alloc_new _ _)
  have BX1 := Lib.hid (D1.out.at (by simp) BX.out)
  have J1 := Lib.hid (HJ.out.keptN D1.out)
  have TO1 := Lib.hid (show ∀ (S2 : RfS) (w2 : World), RfTo x B b sb L W1 S2 w2 → RfTo x B b sb L w S2 w2 from fun S2 w2 h => RfTo.comp (D1.out.mono (by simp)) (fun y hy => .inl hy) h)
  unfold ndO at hW1 N1
  have n1 := blk_cell N1.out
  have k1 := blk_cell (by have := BX1.out; rw [e3] at this; exact this)
  have HNB := Lib.hid (show w.heap.size ∉ L from fun e => by have := (HLT.out _ e).2; omega)
  have HNBS := Lib.hid (show w.heap.size < W1.heap.size from lt_of_heap N1.out)
  have HR := Lib.hid hR
  have HBN := Lib.hid (fun (S' : RfS) (m t : Nat) (h1 : m < n) (h2 : m < x.nodes.length) (h3 : firstF x.p.nodes x.p.nodes.length m = (t : Int)) => visit_bound (p := x.p) n m t S' h1 (by rw [show x.p.nodes.length = x.nodes.length from List.length_map _]; exact h2) h3)
  have hsi : s ≤ i := by have := HSF.out; omega
  clear hA hL hch ih hp hR hs hx hw HJ BX BX1
  go_enter Tryz.func48, Tryz.ntmps48
  go_upto_region 1 with fail
  rw [← hW1]
  clear hW1 v0 v1 v2 v3 v4 k0
  generalize w.heap.size = nb at *
  go_wp2_with fail
  clear k1 n1
  go_loopw [6] (fun u wi => ∃ (k a : Nat) (S' : RfS), u = .int .i64 k ∧ k ≤ d.kids.length ∧ a ≤ i ∧ Hid (Chain (firstF x.p.nodes x.p.nodes.length) a (d.kids.drop k) i) ∧ Hid (S'.names.length ≤ 100 + a) ∧ Hid (R = endR x.p S.names.length ((d.kids.drop k).foldl (fun q c => visitR x.p n q c.toNat) S') i d.p) ∧ Hid (∃ ds, S'.names = S.names ++ ds) ∧ Hid (RfTo x B b sb L W1 S' wi)) (fun u _ => d.kids.length - (intOf u).toNat)
  case atStart => exact ⟨0, s, S, rfl, Nat.zero_le _, hsi, HCH, Lib.hid hnl, Lib.hid HR.out, Lib.hid ⟨[], by simp⟩, Lib.hid (RfTo.refl J1.out)⟩
  case round =>
    obtain ⟨k, a, S', rfl, hk, hai, HC, HNL, HQ, HDS, T⟩ := hrel
    have N5 := Lib.hid (T.out.at HNB.out N1.out)
    have n5 := blk_cell N5.out
    have hk0 : (0 : Int) ≤ (k : Int) := by omega
    have CB := Lib.hid (T.out.chg (W := w0) (HW0.out.thenSame D1.out) (fun y hy => Nat.le_trans hB (HLT.out y hy).1))
    obtain ⟨L', J', c', nw'⟩ := T.out
    have J5 := Lib.hid J'
    have C5 := Lib.hid c'
    have NW5 := Lib.hid nw'
    have HNB5 := Lib.hid (show nb ∉ L' from fun e => by
      rcases nw' nb e with h | h
      · exact HNB.out h
      · have := HNBS.out; omega)
    clear J' c' nw' T
    by_cases hkl : k < d.kids.length
    · have hkl' : (k : Int) < (d.kids.length : Int) := by omega
      obtain ⟨b8, o8, e8, -, -, hc8⟩ := ((HND0.out _ CB.out).2.1).elem (Chg.refl [] _) k hkl
      have u8 := hc8 0 (by omega)
      simp only [icI, List.getElem?_cons_zero, Nat.add_zero, Nat.mul_one] at u8
      have HC2 := HC.out
      have HQ2 := HQ.out
      rw [List.drop_eq_getElem_cons hkl] at HC2 HQ2
      obtain ⟨m, hm, hf, hmi, hch2⟩ := HC2
      rw [List.foldl_cons, hm, Int.toNat_natCast] at HQ2
      rw [hm] at u8
      have n6 := blk_cell (by have := N5.out; rw [e8] at this; exact this)
      have HQ3 := Lib.hid HQ2
      have HC3 := Lib.hid hch2
      have VC := Lib.hid (HIH.out wr S' L' m a CB.out J5.out (by omega) (by omega) hf HNL.out)
      have VB := Lib.hid (HBN.out S' m a (by omega) (by omega) hf)
      have HDS3 := Lib.hid (show ∃ ds, (visitR x.p n S' m).names = S.names ++ ds from by
        obtain ⟨ds, h1⟩ := HDS.out
        obtain ⟨es, h2⟩ := visit_names (p := x.p) n S' m
        exact ⟨ds ++ es, by rw [h2, h1, List.append_assoc]⟩)
      have q1 : IntKind.i64.wrap ((k : Int) + 1) = (k : Int) + 1 := IntWalk.i64_in _ (by omega)
      clear hc8 HQ2 hch2 hm n5 hf
      rw [e8]
      go_wp2_with (go_at_call 48; (with_reducible refine Calls.mono VC.out ?_); rintro e w8 ⟨rfl, ht⟩; have T8 := Lib.hid (RfTo.comp C5.out NW5.out ht); clear ht n6)
      exact ⟨⟨k + 1, m + 1, visitR x.p n S' m, rfl, by omega, by omega, HC3, Lib.hid (by have := VB.out; have := HNL.out; omega), HQ3, HDS3, T8⟩, by simp [intOf]; omega⟩
    · have hke : k = d.kids.length := by omega
      have hkl' : ¬ (k : Int) < (d.kids.length : Int) := by omega
      have HQ2 := HQ.out
      rw [hke, List.drop_length, List.foldl_nil] at HQ2
      have HE := Lib.hid HQ2
      have hn7 : S'.names.length ≤ 10000 := by have := HNL.out; omega
      have TF := Lib.hid (fun (S2 : RfS) (w2 : World) (h : RfTo x B b sb L' wr S2 w2) => TO1.out _ _ (RfTo.comp C5.out NW5.out h))
      obtain ⟨na5, nc5, va5, vc5, A5', rfl⟩ := J5.out
      have A5 := Lib.hid A5'
      have k5 := blk_cell (by have := A5'.box; unfold rfO at this; simp only [List.length_map] at this; exact this)
      clear A5' hke HQ2 HC HQ HR HCH HIH HBN hkl
      by_cases h19 : d.kind = 19
      · obtain ⟨ds, hds⟩ := HDS.out
        have HE9 := Lib.hid (show R = ⟨S.names, S'.next, S'.slot, S'.node, S'.err⟩ from by
          rw [HE.out]
          unfold endR
          rw [if_pos (show d.p.kind = 19 from h19), hds, List.take_left])
        have A6 := Lib.hid (show RfA x B b sb na5 nc5 (S.names.map Prod.fst ++ ds.map Prod.fst) va5 vc5 (S.names.map Prod.snd ++ ds.map Prod.snd) S'.next S'.slot S'.node S'.err wr from by have := A5.out; rw [hds, List.map_append, List.map_append] at this; exact this)
        have HM1 := Lib.hid (show (S.names.map Prod.fst).length = S.names.length from List.length_map _)
        have HM2 := Lib.hid (show (S.names.map Prod.snd).length = S.names.length from List.length_map _)
        generalize hg1 : S.names.map Prod.fst = N0 at *
        generalize hg2 : S.names.map Prod.snd = V0 at *
        have HG1 := Lib.hid hg1
        have HG2 := Lib.hid hg2
        clear hg1 hg2
        generalize ds.map Prod.fst = N2 at *
        generalize ds.map Prod.snd = V2 at *
        have k6 := blk_cell (show wr.heap[b]? = some (.cells #[.slice x.na x.nodes.length x.nc, .slice x.fa x.funcs.length x.fc, .slice na5 (N0 ++ N2).length nc5, .slice va5 (V0 ++ V2).length vc5, .int .i64 S'.next, .slice (some ⟨sb, 0, none⟩) x.nodes.length x.nodes.length, .int .i64 S'.node, .int .i64 S'.err] 58 (0, 0)) from A6.out.box)
        have f6 := blk_free A6.out.box
        have hkk : (d.kind == 19) = true := by rw [h19]; rfl
        clear k5
        go_upto_region 8 with fail
        go_upto_region 9 with (refine wpl_slice_row rfl _ _ 36 rfl elemSslW (sizeStrW _) skC_len B 9 na5 nc5 N0 N2 (by first | rfl | exact congrArg (fun n => Value.slice na5 n nc5) List.length_append.symm) A6.out.nm (by show Value.int .i64 _ = _; rw [HM1.out]) ?_; intro a7 c7 hr7 hl7; have P7 := Lib.hid (A6.out.putN a7 c7 N0 (Chg.refl _ _) hr7 (fun y hy => .inl (hl7 y hy))); have HL7 := Lib.hid hl7; clear hr7 hl7)
        obtain ⟨W7, hW7⟩ : ∃ W7, W7 = wr.setCell ⟨b, 2, none⟩ (.slice a7 N0.length c7) := ⟨_, rfl⟩
        have A7 := Lib.hid (show RfA x B b sb a7 c7 N0 va5 vc5 (V0 ++ V2) S'.next S'.slot S'.node S'.err W7 from by rw [hW7]; exact P7.out.1)
        have C7 := Lib.hid (show Chg (rfF b sb na5 va5) wr W7 from by rw [hW7]; exact P7.out.2)
        have k7 := blk_cell (show W7.heap[b]? = some (.cells #[.slice x.na x.nodes.length x.nc, .slice x.fa x.funcs.length x.fc, .slice a7 N0.length c7, .slice va5 (V0 ++ V2).length vc5, .int .i64 S'.next, .slice (some ⟨sb, 0, none⟩) x.nodes.length x.nodes.length, .int .i64 S'.node, .int .i64 S'.err] 58 (0, 0)) from A7.out.box)
        have f7 := blk_free A7.out.box
        rw [← hW7]
        clear hW7 k6 f6 P7
        go_wp2_with (refine wpl_slice_row rfl _ _ 32 rfl elemIntsW (sizeIntW _) icI_len1 B 3 va5 vc5 V0 V2 (by first | rfl | exact congrArg (fun n => Value.slice va5 n vc5) List.length_append.symm) A7.out.vl (by show Value.int .i64 _ = _; rw [HM2.out]) ?_; intro a8 c8 hr8 hl8; have P8 := Lib.hid (A7.out.putV a8 c8 V0 (Chg.refl _ _) hr8 (fun y hy => .inl (hl8 y hy))); have HL8 := Lib.hid hl8; clear hr8 hl8)
        go_end0
        have TE : RfTo x B b sb (rfF b sb na5 va5) wr ⟨S.names, S'.next, S'.slot, S'.node, S'.err⟩ (W7.setCell ⟨b, 3, none⟩ (.slice a8 V0.length c8)) := by
          refine ⟨rfF b sb a7 a8, ⟨a7, c7, a8, c8, ?_, rfl⟩, C7.out.then P8.out.2 (fun y hy _ => ?_), fun y hy => .inl ?_⟩
          · show RfA x B b sb a7 c7 (S.names.map Prod.fst) a8 c8 (S.names.map Prod.snd) S'.next S'.slot S'.node S'.err _
            rw [HG1.out, HG2.out]
            exact P8.out.1
          · rcases rfF_mem.1 hy with h | h | h | h
            · exact rfF_mem.2 (.inl h)
            · exact rfF_mem.2 (.inr (.inl h))
            · exact rfF_mem.2 (.inr (.inr (.inl (HL7.out y h))))
            · exact rfF_mem.2 (.inr (.inr (.inr h)))
          · rcases rfF_mem.1 hy with h | h | h | h
            · exact rfF_mem.2 (.inl h)
            · exact rfF_mem.2 (.inr (.inl h))
            · exact rfF_mem.2 (.inr (.inr (.inl (HL7.out y h))))
            · exact rfF_mem.2 (.inr (.inr (.inr (HL8.out y h))))
        exact ⟨rfl, by rw [HE9.out]; exact TF.out _ _ TE⟩
      · have e19 : (d.kind == 19) = false := beq_eq_false_iff_ne.2 h19
        have VK := Lib.hid (fun (w' : World) (hc : Chg [sb] wr w') => show w'.cell? ⟨b, 5, none⟩ = some (.slice (some ⟨sb, 0, none⟩) x.nodes.length x.nodes.length) ∧ w'.cell? ⟨nb, 1, none⟩ = some (.string d.text) from by
          have h1 := blk_cell (by have := hc.at (by simp; exact fun e => A5.out.n1 e.symm) A5.out.box; unfold rfO at this; exact this)
          have h2 := blk_cell (hc.at (by simp; exact fun e => HNB5.out (rfF_mem.2 (.inr (.inl e)))) N5.out)
          exact ⟨h1 5, h2 1⟩)
        by_cases h5 : d.kind = 5 ∨ d.kind = 14
        · have HE5 := Lib.hid (show R = varR S' i (visR S'.names d.text) from by
            rw [HE.out]
            unfold endR
            rw [if_neg (show ¬ d.p.kind = 19 from h19), if_pos (show d.p.kind = 5 ∨ d.p.kind = 14 from h5)]
            rfl)
          have AV := Lib.hid (fun w' (h1 : Chg [] wr w') => visible_any (J5.out.keptN h1) d.text)
          generalize visR S'.names d.text = v at *
          rcases h5 with h5 | h14
          · have e5 : (d.kind == 5) = true := by rw [h5]; rfl
            go_upto_region 12 with fail
            clear n5 k5
            go_region_held3 (fun w' => w'.cell? ⟨b, 5, none⟩ = some (.slice (some ⟨sb, 0, none⟩) x.nodes.length x.nodes.length) ∧ w'.cell? ⟨nb, 1, none⟩ = some (.string d.text))
              (first | exact VK.out _ ((Chg.refl _ _).drew) | exact VK.out _ KC.out | exact VK.out _ (KC.out.setCell _ _ (by simp)))
              (first | (go_at_call 68; (with_reducible refine Calls.mono (AV.out _ ((Chg.refl _ _).drew)) ?_); rintro e w6 ⟨rfl, hc⟩; have A6 := Lib.hid ((A5.out.keptN (Chg.refl [] wr).drew).keptN hc); have DC := Lib.hid (show Chg [] wr w6 from ((Chg.refl _ _).drew).thenSame hc); have KC := Lib.hid (show Chg [sb] wr w6 from DC.out.mono (by simp)); have g7 := (fun q => A6.out.slF q); obtain ⟨ev, e7⟩ : ∃ v, w6.cell? ⟨sb, i, none⟩ = some v := ⟨_, A6.out.slC i hil⟩; clear hc) | fail)
            have A7 := Lib.hid (A6.out.putSlot i hil v)
            have D7 := Lib.hid (show Chg (rfF b sb na5 va5) wr (w6.setCell ⟨sb, i, none⟩ (.int .i64 v)) from (DC.out.mono (by simp)).setCell _ _ (fun _ => rfF_mem.2 (.inr (.inl rfl))))
            obtain ⟨W7, hW7⟩ : ∃ W7, W7 = w6.setCell ⟨sb, i, none⟩ (.int .i64 v) := ⟨_, rfl⟩
            rw [← hW7] at A7 D7
            have J7 := Lib.hid (show RfJ x B b sb (setR S' i v) (rfF b sb na5 va5) W7 from ⟨na5, nc5, va5, vc5, A7.out, rfl⟩)
            have k7 := blk_cell (by have := A7.out.box; unfold rfO at this; simp only [List.length_map] at this; exact this)
            have s7 := A7.out.slC i hil
            rw [List.getElem_set_self] at s7
            have FA := Lib.hid (fail_any J7.out i 4)
            try rw [← hW7]
            clear hW7 g7 e7
            by_cases hv : v < 0
            · go_wp2_with (go_at_call 69; (with_reducible refine Calls.mono FA.out ?_); rintro e w8 ⟨rfl, ht⟩; have T8 := Lib.hid (RfTo.comp D7.out (fun y hy => .inl hy) ht); clear ht)
              go_end0
              exact ⟨rfl, by rw [HE5.out, varR, if_pos (by omega)]; exact TF.out _ _ T8.out⟩
            · go_wp2_with fail
              go_end0
              exact ⟨rfl, by rw [HE5.out, varR, if_neg (by omega)]; exact TF.out _ _ ⟨rfF b sb na5 va5, J7.out, D7.out, fun y hy => .inl hy⟩⟩
          · have e5 : (d.kind == 5) = false := beq_eq_false_iff_ne.2 (by omega)
            have e14 : (d.kind == 14) = true := by rw [h14]; rfl
            go_upto_region 12 with fail
            clear n5 k5
            go_region_held3 (fun w' => w'.cell? ⟨b, 5, none⟩ = some (.slice (some ⟨sb, 0, none⟩) x.nodes.length x.nodes.length) ∧ w'.cell? ⟨nb, 1, none⟩ = some (.string d.text))
              (first | exact VK.out _ ((Chg.refl _ _).drew) | exact VK.out _ KC.out | exact VK.out _ (KC.out.setCell _ _ (by simp)))
              (first | (go_at_call 68; (with_reducible refine Calls.mono (AV.out _ ((Chg.refl _ _).drew)) ?_); rintro e w6 ⟨rfl, hc⟩; have A6 := Lib.hid ((A5.out.keptN (Chg.refl [] wr).drew).keptN hc); have DC := Lib.hid (show Chg [] wr w6 from ((Chg.refl _ _).drew).thenSame hc); have KC := Lib.hid (show Chg [sb] wr w6 from DC.out.mono (by simp)); have g7 := (fun q => A6.out.slF q); obtain ⟨ev, e7⟩ : ∃ v, w6.cell? ⟨sb, i, none⟩ = some v := ⟨_, A6.out.slC i hil⟩; clear hc) | fail)
            have A7 := Lib.hid (A6.out.putSlot i hil v)
            have D7 := Lib.hid (show Chg (rfF b sb na5 va5) wr (w6.setCell ⟨sb, i, none⟩ (.int .i64 v)) from (DC.out.mono (by simp)).setCell _ _ (fun _ => rfF_mem.2 (.inr (.inl rfl))))
            obtain ⟨W7, hW7⟩ : ∃ W7, W7 = w6.setCell ⟨sb, i, none⟩ (.int .i64 v) := ⟨_, rfl⟩
            rw [← hW7] at A7 D7
            have J7 := Lib.hid (show RfJ x B b sb (setR S' i v) (rfF b sb na5 va5) W7 from ⟨na5, nc5, va5, vc5, A7.out, rfl⟩)
            have k7 := blk_cell (by have := A7.out.box; unfold rfO at this; simp only [List.length_map] at this; exact this)
            have s7 := A7.out.slC i hil
            rw [List.getElem_set_self] at s7
            have FA := Lib.hid (fail_any J7.out i 4)
            try rw [← hW7]
            clear hW7 g7 e7
            by_cases hv : v < 0
            · go_wp2_with (go_at_call 69; (with_reducible refine Calls.mono FA.out ?_); rintro e w8 ⟨rfl, ht⟩; have T8 := Lib.hid (RfTo.comp D7.out (fun y hy => .inl hy) ht); clear ht)
              go_end0
              exact ⟨rfl, by rw [HE5.out, varR, if_pos (by omega)]; exact TF.out _ _ T8.out⟩
            · go_wp2_with fail
              go_end0
              exact ⟨rfl, by rw [HE5.out, varR, if_neg (by omega)]; exact TF.out _ _ ⟨rfF b sb na5 va5, J7.out, D7.out, fun y hy => .inl hy⟩⟩
        · have e5 : (d.kind == 5) = false := beq_eq_false_iff_ne.2 (fun e => h5 (.inl e))
          have e14 : (d.kind == 14) = false := beq_eq_false_iff_ne.2 (fun e => h5 (.inr e))
          by_cases h13 : d.kind = 13
          · have e13 : (d.kind == 13) = true := by rw [h13]; rfl
            have HE5 := Lib.hid (show R = declSet (letR S' i d.text) i d.text from by
              rw [HE.out]
              unfold endR
              rw [if_neg (show ¬ d.p.kind = 19 from h19), if_neg (show ¬ (d.p.kind = 5 ∨ d.p.kind = 14) from h5), if_pos (show d.p.kind = 13 from h13)]
              rfl)
            have AV := Lib.hid (visible_any J5.out d.text)
            have HLN := Lib.hid (show (letR S' i d.text).names = S'.names from letR_names.1)
            have HLD := Lib.hid (show letR S' i d.text = if 0 ≤ visR S'.names d.text then failR S' i 6 else if 32 ≤ S'.next then failR S' i 3 else S' from rfl)
            generalize letR S' i d.text = SL at *
            generalize visR S'.names d.text = v at *
            by_cases hv : 0 ≤ v
            · have HSL := Lib.hid (show SL = failR S' i 6 by rw [HLD.out, if_pos hv])
              have hvb : v ≥ 0 := hv
              have FA := Lib.hid (fun w' (h1 : Chg [] wr w') => fail_any (J5.out.keptN h1) i 6)
              go_upto_region 20 with (first | (go_at_call 68; (with_reducible refine Calls.mono AV.out ?_); rintro e w6 ⟨rfl, hc⟩; have D6 := Lib.hid hc; clear hc k5) | (go_at_call 69; (with_reducible refine Calls.mono (FA.out _ D6.out) ?_); rintro e w8 ⟨rfl, ht⟩; have T8 := Lib.hid (show RfTo x B b sb (rfF b sb na5 va5) wr SL w8 by rw [HSL.out]; exact RfTo.comp (D6.out.mono (by simp)) (fun y hy => .inl hy) ht); clear ht n5))
              obtain ⟨L9, J9', c9, nw9⟩ := T8.out
              have J9 := Lib.hid J9'
              have N9 := Lib.hid (T8.out.at HNB5.out N5.out)
              have HNB9 := Lib.hid (show nb ∉ L9 from fun e => by
                rcases nw9 nb e with h | h
                · exact HNB5.out h
                · have := lt_of_heap N5.out; omega)
              have TL := Lib.hid (fun (S2 : RfS) (w2 : World) (h : RfTo x B b sb L9 w8 S2 w2) => TF.out _ _ (RfTo.comp c9 nw9 h))
              clear J9' c9 nw9 hv hvb
              have HN9 := Lib.hid (show SL.names.length ≤ 10000 by rw [HLN.out]; exact hn7)
              have AD := Lib.hid (fun w' (h1 : Chg [] w8 w') => declare_any (J9.out.keptN h1) HN9.out d.text)
              have VK9 := Lib.hid (fun (w' : World) (hc : Chg [] w8 w') => show w'.cell? ⟨b, 5, none⟩ = some (.slice (some ⟨sb, 0, none⟩) x.nodes.length x.nodes.length) ∧ w'.cell? ⟨nb, 1, none⟩ = some (.string d.text) from by
                obtain ⟨na9, nc9, va9, vc9, A9, -⟩ := J9.out
                have h1 := blk_cell (by have := (A9.keptN hc).box; unfold rfO at this; exact this)
                have h2 := blk_cell (hc.at (by simp) N9.out)
                exact ⟨h1 5, h2 1⟩)
              have HNS := Lib.hid (show nb ≠ sb from fun e => HNB5.out (rfF_mem.2 (.inr (.inl e))))
              go_region_held3 (fun w' => w'.cell? ⟨b, 5, none⟩ = some (.slice (some ⟨sb, 0, none⟩) x.nodes.length x.nodes.length) ∧ w'.cell? ⟨nb, 1, none⟩ = some (.string d.text))
                (first | exact VK9.out _ ((Chg.refl _ _).drew) | exact KC.out | exact KD.out)
                (first | (go_at_call 47; (with_reducible refine Calls.mono (AD.out _ ((Chg.refl _ _).drew)) ?_); rintro e w10 ⟨rfl, ht⟩; have N10 := Lib.hid (ht.at HNB9.out (((Chg.refl [] w8).drew).at (by simp) N9.out)); have T10 := Lib.hid (RfTo.comp (((Chg.refl [] w8).drew).mono (by simp)) (fun y hy => .inl hy) ht); obtain ⟨L10, ⟨na10, nc10, va10, vc10, A10', hL10⟩, c10, nw10⟩ := T10.out; have A10 := Lib.hid A10'; have HL10 := Lib.hid hL10; have C10 := Lib.hid c10; have NW10 := Lib.hid nw10; have g7 := (fun q => A10.out.slF q); obtain ⟨ev, e7⟩ : ∃ v, w10.cell? ⟨sb, i, none⟩ = some v := ⟨_, A10.out.slC i hil⟩; have A11 := Lib.hid (A10.out.putSlot i hil (wrap64 (wrap64 (SL.next + 1) - 1))); have KC := Lib.hid (And.intro (blk_cell (by have := A10.out.box; unfold rfO at this; exact this) 5) (blk_cell N10.out 1)); have KD := Lib.hid (And.intro (blk_cell (by have := A11.out.box; unfold rfO at this; exact this) 5) (blk_cell ((blk_set_ne i (.int .i64 (wrap64 (wrap64 (SL.next + 1) - 1))) HNS.out).trans N10.out) 1)); clear ht A10' hL10 c10 nw10) | fail)
              go_wp2_with fail
              go_end0
              exact ⟨rfl, by rw [HE5.out]; exact TL.out _ _ (RfTo.comp C10.out NW10.out ⟨L10, ⟨na10, nc10, va10, vc10, A11.out, HL10.out⟩, (Chg.refl _ _).setCell _ _ (fun _ => by rw [HL10.out]; exact rfF_mem.2 (.inr (.inl rfl))), fun y hy => .inl hy⟩)⟩
            · have hvb : ¬ v ≥ 0 := hv
              by_cases h32 : 32 ≤ S'.next
              · have HSL := Lib.hid (show SL = failR S' i 3 by rw [HLD.out, if_neg hv, if_pos h32])
                have h32b : S'.next ≥ 32 := h32
                have FA := Lib.hid (fun w' (h1 : Chg [] wr w') => fail_any (J5.out.keptN h1) i 3)
                go_upto_region 20 with (first | (go_at_call 68; (with_reducible refine Calls.mono AV.out ?_); rintro e w6 ⟨rfl, hc⟩; have D6 := Lib.hid hc; clear k5; have k5 := blk_cell (by have := (A5.out.keptN hc).box; unfold rfO at this; exact this); clear hc) | (go_at_call 69; (with_reducible refine Calls.mono (FA.out _ D6.out) ?_); rintro e w8 ⟨rfl, ht⟩; have T8 := Lib.hid (show RfTo x B b sb (rfF b sb na5 va5) wr SL w8 by rw [HSL.out]; exact RfTo.comp (D6.out.mono (by simp)) (fun y hy => .inl hy) ht); clear ht n5 k5))
                obtain ⟨L9, J9', c9, nw9⟩ := T8.out
                have J9 := Lib.hid J9'
                have N9 := Lib.hid (T8.out.at HNB5.out N5.out)
                have HNB9 := Lib.hid (show nb ∉ L9 from fun e => by
                  rcases nw9 nb e with h | h
                  · exact HNB5.out h
                  · have := lt_of_heap N5.out; omega)
                have TL := Lib.hid (fun (S2 : RfS) (w2 : World) (h : RfTo x B b sb L9 w8 S2 w2) => TF.out _ _ (RfTo.comp c9 nw9 h))
                clear J9' c9 nw9 hv hvb h32 h32b
                have HN9 := Lib.hid (show SL.names.length ≤ 10000 by rw [HLN.out]; exact hn7)
                have AD := Lib.hid (fun w' (h1 : Chg [] w8 w') => declare_any (J9.out.keptN h1) HN9.out d.text)
                have VK9 := Lib.hid (fun (w' : World) (hc : Chg [] w8 w') => show w'.cell? ⟨b, 5, none⟩ = some (.slice (some ⟨sb, 0, none⟩) x.nodes.length x.nodes.length) ∧ w'.cell? ⟨nb, 1, none⟩ = some (.string d.text) from by
                  obtain ⟨na9, nc9, va9, vc9, A9, -⟩ := J9.out
                  have h1 := blk_cell (by have := (A9.keptN hc).box; unfold rfO at this; exact this)
                  have h2 := blk_cell (hc.at (by simp) N9.out)
                  exact ⟨h1 5, h2 1⟩)
                have HNS := Lib.hid (show nb ≠ sb from fun e => HNB5.out (rfF_mem.2 (.inr (.inl e))))
                go_region_held3 (fun w' => w'.cell? ⟨b, 5, none⟩ = some (.slice (some ⟨sb, 0, none⟩) x.nodes.length x.nodes.length) ∧ w'.cell? ⟨nb, 1, none⟩ = some (.string d.text))
                  (first | exact VK9.out _ ((Chg.refl _ _).drew) | exact KC.out | exact KD.out)
                  (first | (go_at_call 47; (with_reducible refine Calls.mono (AD.out _ ((Chg.refl _ _).drew)) ?_); rintro e w10 ⟨rfl, ht⟩; have N10 := Lib.hid (ht.at HNB9.out (((Chg.refl [] w8).drew).at (by simp) N9.out)); have T10 := Lib.hid (RfTo.comp (((Chg.refl [] w8).drew).mono (by simp)) (fun y hy => .inl hy) ht); obtain ⟨L10, ⟨na10, nc10, va10, vc10, A10', hL10⟩, c10, nw10⟩ := T10.out; have A10 := Lib.hid A10'; have HL10 := Lib.hid hL10; have C10 := Lib.hid c10; have NW10 := Lib.hid nw10; have g7 := (fun q => A10.out.slF q); obtain ⟨ev, e7⟩ : ∃ v, w10.cell? ⟨sb, i, none⟩ = some v := ⟨_, A10.out.slC i hil⟩; have A11 := Lib.hid (A10.out.putSlot i hil (wrap64 (wrap64 (SL.next + 1) - 1))); have KC := Lib.hid (And.intro (blk_cell (by have := A10.out.box; unfold rfO at this; exact this) 5) (blk_cell N10.out 1)); have KD := Lib.hid (And.intro (blk_cell (by have := A11.out.box; unfold rfO at this; exact this) 5) (blk_cell ((blk_set_ne i (.int .i64 (wrap64 (wrap64 (SL.next + 1) - 1))) HNS.out).trans N10.out) 1)); clear ht A10' hL10 c10 nw10) | fail)
                go_wp2_with fail
                go_end0
                exact ⟨rfl, by rw [HE5.out]; exact TL.out _ _ (RfTo.comp C10.out NW10.out ⟨L10, ⟨na10, nc10, va10, vc10, A11.out, HL10.out⟩, (Chg.refl _ _).setCell _ _ (fun _ => by rw [HL10.out]; exact rfF_mem.2 (.inr (.inl rfl))), fun y hy => .inl hy⟩)⟩
              · have HSL := Lib.hid (show SL = S' by rw [HLD.out, if_neg hv, if_neg h32])
                have h32b : ¬ S'.next ≥ 32 := h32
                go_upto_region 20 with (go_at_call 68; (with_reducible refine Calls.mono AV.out ?_); rintro e w8 ⟨rfl, hc⟩; have D6 := Lib.hid hc; clear k5; have k5 := blk_cell (by have := (A5.out.keptN hc).box; unfold rfO at this; exact this); clear hc)
                obtain ⟨L9, hL9⟩ : ∃ L9, L9 = rfF b sb na5 va5 := ⟨_, rfl⟩
                have J9 := Lib.hid (show RfJ x B b sb SL L9 w8 from by rw [HSL.out, hL9]; exact J5.out.keptN D6.out)
                have N9 := Lib.hid (D6.out.at (by simp) N5.out)
                have HNB9 := Lib.hid (show nb ∉ L9 by rw [hL9]; exact HNB5.out)
                have TL := Lib.hid (show ∀ (S2 : RfS) (w2 : World), RfTo x B b sb L9 w8 S2 w2 → _ from fun (S2 : RfS) (w2 : World) (h : RfTo x B b sb L9 w8 S2 w2) => TF.out _ _ (RfTo.comp (D6.out.mono (by simp)) (fun y hy => .inl (by rw [hL9] at hy; exact hy)) h))
                clear hv hvb h32 h32b hL9 n5 k5
                have HN9 := Lib.hid (show SL.names.length ≤ 10000 by rw [HLN.out]; exact hn7)
                have AD := Lib.hid (fun w' (h1 : Chg [] w8 w') => declare_any (J9.out.keptN h1) HN9.out d.text)
                have VK9 := Lib.hid (fun (w' : World) (hc : Chg [] w8 w') => show w'.cell? ⟨b, 5, none⟩ = some (.slice (some ⟨sb, 0, none⟩) x.nodes.length x.nodes.length) ∧ w'.cell? ⟨nb, 1, none⟩ = some (.string d.text) from by
                  obtain ⟨na9, nc9, va9, vc9, A9, -⟩ := J9.out
                  have h1 := blk_cell (by have := (A9.keptN hc).box; unfold rfO at this; exact this)
                  have h2 := blk_cell (hc.at (by simp) N9.out)
                  exact ⟨h1 5, h2 1⟩)
                have HNS := Lib.hid (show nb ≠ sb from fun e => HNB5.out (rfF_mem.2 (.inr (.inl e))))
                go_region_held3 (fun w' => w'.cell? ⟨b, 5, none⟩ = some (.slice (some ⟨sb, 0, none⟩) x.nodes.length x.nodes.length) ∧ w'.cell? ⟨nb, 1, none⟩ = some (.string d.text))
                  (first | exact VK9.out _ ((Chg.refl _ _).drew) | exact KC.out | exact KD.out)
                  (first | (go_at_call 47; (with_reducible refine Calls.mono (AD.out _ ((Chg.refl _ _).drew)) ?_); rintro e w10 ⟨rfl, ht⟩; have N10 := Lib.hid (ht.at HNB9.out (((Chg.refl [] w8).drew).at (by simp) N9.out)); have T10 := Lib.hid (RfTo.comp (((Chg.refl [] w8).drew).mono (by simp)) (fun y hy => .inl hy) ht); obtain ⟨L10, ⟨na10, nc10, va10, vc10, A10', hL10⟩, c10, nw10⟩ := T10.out; have A10 := Lib.hid A10'; have HL10 := Lib.hid hL10; have C10 := Lib.hid c10; have NW10 := Lib.hid nw10; have g7 := (fun q => A10.out.slF q); obtain ⟨ev, e7⟩ : ∃ v, w10.cell? ⟨sb, i, none⟩ = some v := ⟨_, A10.out.slC i hil⟩; have A11 := Lib.hid (A10.out.putSlot i hil (wrap64 (wrap64 (SL.next + 1) - 1))); have KC := Lib.hid (And.intro (blk_cell (by have := A10.out.box; unfold rfO at this; exact this) 5) (blk_cell N10.out 1)); have KD := Lib.hid (And.intro (blk_cell (by have := A11.out.box; unfold rfO at this; exact this) 5) (blk_cell ((blk_set_ne i (.int .i64 (wrap64 (wrap64 (SL.next + 1) - 1))) HNS.out).trans N10.out) 1)); clear ht A10' hL10 c10 nw10) | fail)
                go_wp2_with fail
                go_end0
                exact ⟨rfl, by rw [HE5.out]; exact TL.out _ _ (RfTo.comp C10.out NW10.out ⟨L10, ⟨na10, nc10, va10, vc10, A11.out, HL10.out⟩, (Chg.refl _ _).setCell _ _ (fun _ => by rw [HL10.out]; exact rfF_mem.2 (.inr (.inl rfl))), fun y hy => .inl hy⟩)⟩
          · have e13 : (d.kind == 13) = false := beq_eq_false_iff_ne.2 h13
            have RC2 := Lib.hid (RC.out wr S' _ CB.out J5.out)
            by_cases h11 : d.kind = 11
            · have e11 : (d.kind == 11) = true := by rw [h11]; rfl
              have HE5 := Lib.hid (show R = callR S' i (callE x.p d.p) from by
                rw [HE.out]
                unfold endR callE
                rw [if_neg (show ¬ d.p.kind = 19 from h19), if_neg (show ¬ (d.p.kind = 5 ∨ d.p.kind = 14) from h5), if_neg (show ¬ d.p.kind = 13 from h13), if_pos (show d.p.kind = 11 from h11), if_neg (show ¬ d.p.kind = 12 by show ¬ d.kind = 12; omega)])
              go_wp2_with (go_at_call 70; (with_reducible refine Calls.mono RC2.out ?_); rintro e w8 ⟨rfl, ht⟩; have T8 := Lib.hid ht; clear ht)
              go_end0
              exact ⟨rfl, by rw [HE5.out]; exact TF.out _ _ T8.out⟩
            · have e11 : (d.kind == 11) = false := beq_eq_false_iff_ne.2 h11
              by_cases h12 : d.kind = 12
              · have e12 : (d.kind == 12) = true := by rw [h12]; rfl
                have HE5 := Lib.hid (show R = callR S' i (callE x.p d.p) from by
                  rw [HE.out]
                  unfold endR callE
                  rw [if_neg (show ¬ d.p.kind = 19 from h19), if_neg (show ¬ (d.p.kind = 5 ∨ d.p.kind = 14) from h5), if_neg (show ¬ d.p.kind = 13 from h13), if_neg (show ¬ d.p.kind = 11 from h11), if_pos (show d.p.kind = 12 from h12), if_pos (show d.p.kind = 12 from h12)])
                go_wp2_with (go_at_call 70; (with_reducible refine Calls.mono RC2.out ?_); rintro e w8 ⟨rfl, ht⟩; have T8 := Lib.hid ht; clear ht)
                go_end0
                exact ⟨rfl, by rw [HE5.out]; exact TF.out _ _ T8.out⟩
              · have e12 : (d.kind == 12) = false := beq_eq_false_iff_ne.2 h12
                have HE5 := Lib.hid (show R = S' from by
                  rw [HE.out]
                  unfold endR
                  rw [if_neg (show ¬ d.p.kind = 19 from h19), if_neg (show ¬ (d.p.kind = 5 ∨ d.p.kind = 14) from h5), if_neg (show ¬ d.p.kind = 13 from h13), if_neg (show ¬ d.p.kind = 11 from h11), if_neg (show ¬ d.p.kind = 12 from h12)])
                go_wp2_with fail
                go_end0
                exact ⟨rfl, by rw [HE5.out]; exact TF.out _ _ (RfTo.refl J5.out)⟩
theorem visit_all {x : Pr} {w0 : World} {B b sb : Nat} (hp : PrIn w0 x) (hB : w0.heap.size ≤ B) (hN : x.nodes.length ≤ 600) (hF : x.funcs.length ≤ 16) : ∀ n, VisitOk x w0 B b sb n := by
  intro n
  induction n with
  | zero => intro w S L i s _ _ h; omega
  | succ n ih => exact visit_step hp hB hN hF ih
end Go.Proofs.YtolidiafomceiaaGreatDoor
namespace Go.Proofs.YtolidiafomceiaaGreatDoor
set_option linter.unusedVariables false
set_option linter.unusedSimpArgs false
open Go.RowKit
set_option maxHeartbeats 16000000 in
set_option maxRecDepth 100000 in
theorem rrunf_any {x : Pr} {w0 : World} {B b sb : Nat} (hp : PrIn w0 x) (hB : w0.heap.size ≤ B) (hN : x.nodes.length ≤ 600) (hF : x.funcs.length ≤ 16) {S : RfS} {L : List Nat} {w : World} (hw : Chg [] w0 w) (h : RfJ x B b sb S L w) (f : Nat) (hf : f < x.funcs.length) (h8 : (x.funcs[f]).params.length ≤ 8) (m s : Nat) (hm : (x.funcs[f]).body = (m : Int)) (hml : m < x.nodes.length) (hms : firstF x.p.nodes x.p.nodes.length m = (s : Int)) :
    Calls Tryz.prog 34 #[.pointer (some ⟨b, 0, none⟩), .int .i64 f] w fun e w' => e = .returned (.tuple #[]) ∧ RfTo x B b sb L w (runR x.p S (x.funcs[f]).p) w' := by
  have V := Lib.hid (visit_all hp hB hN hF (b := b) (sb := sb) x.nodes.length)
  obtain ⟨R, hR⟩ : ∃ R, R = runR x.p S (x.funcs[f]).p := ⟨_, rfl⟩
  rw [← hR]
  have hR2 : R = visitR x.p x.nodes.length ((x.funcs[f]).params.foldl declR ⟨[], 0, S.slot, S.node, S.err⟩) m := by
    rw [hR]
    unfold runR
    rw [show (x.funcs[f]).p.body = (x.funcs[f]).body from rfl, hm, Int.toNat_natCast, show x.p.nodes.length = x.nodes.length from List.length_map _]
    rfl
  have HL := Lib.hid h.lt
  obtain ⟨na, nc, va, vc, A, hL⟩ := h
  have hf0 : (0 : Int) ≤ (f : Int) := by omega
  have hf1 : (f : Int) < (x.funcs.length : Int) := by omega
  have HFE := Lib.hid (fun w' (hc : Chg [] w0 w') => (hp.kept hc).2.1.1.elem (Chg.refl [] w') f hf)
  have HPE := Lib.hid (fun w' (hc : Chg [] w0 w') => show InIs skC 1 w' (x.funcs[f]).pa (x.funcs[f]).pc (x.funcs[f]).params from (hp.kept hc).2.2 _ (List.getElem_mem hf))
  generalize x.funcs[f] = fn at *
  obtain ⟨b2, o2, e2, -, -, -⟩ := HFE.out w hw
  have UF := Lib.hid (fun w' (hc : Chg [] w0 w') => show w'.cell? ⟨b2, o2 + f * 3 + 1, none⟩ = some (.slice fn.pa fn.params.length fn.pc) ∧ w'.cell? ⟨b2, o2 + f * 3 + 2, none⟩ = some (.int .i64 (m : Int)) from by
    obtain ⟨b7, o7, e7, -, -, hc7⟩ := HFE.out w' hc
    have e8 := e2.symm.trans e7
    simp only [Option.some.injEq, Addr.mk.injEq, and_true] at e8
    obtain ⟨rfl, rfl⟩ := e8
    have g1 := hc7 1 (by omega)
    have g2 := hc7 2 (by omega)
    simp only [fnC, List.getElem?_cons_zero, List.getElem?_cons_succ, Nat.add_zero] at g1 g2
    rw [hm] at g2
    exact ⟨g1, g2⟩)
  have E2 := Lib.hid e2
  obtain ⟨W1, hW1⟩ : ∃ W1, W1 = w.setCell ⟨b, 2, none⟩ (.slice none 0 0) := ⟨_, rfl⟩
  have P1 := A.putN none 0 [] (Chg.refl _ _) ⟨rfl, .inl ⟨rfl, rfl⟩⟩ (fun y hy => by cases hy)
  rw [show (([] : List ByteArray).length) = 0 from rfl, ← hW1] at P1
  obtain ⟨W2, hW2⟩ : ∃ W2, W2 = W1.setCell ⟨b, 3, none⟩ (.slice none 0 0) := ⟨_, rfl⟩
  have P2 := P1.1.putV none 0 [] (Chg.refl _ _) ⟨rfl, .inl ⟨rfl, rfl⟩⟩ (fun y hy => by cases hy)
  rw [show (([] : List Int).length) = 0 from rfl, ← hW2] at P2
  obtain ⟨W3, hW3⟩ : ∃ W3, W3 = W2.setCell ⟨b, 4, none⟩ (.int .i64 0) := ⟨_, rfl⟩
  have A3 := P2.1.putNext 0
  rw [← hW3] at A3
  have J3 := Lib.hid (show RfJ x B b sb ⟨[], 0, S.slot, S.node, S.err⟩ (rfF b sb none none) W3 from ⟨none, 0, none, 0, A3, rfl⟩)
  have T3 := Lib.hid (show RfTo x B b sb L w ⟨[], 0, S.slot, S.node, S.err⟩ W3 from by
    subst hL
    refine ⟨_, J3.out, (P1.2.then P2.2 (fun y hy _ => ?_)).then (show Chg [b] W2 W3 by rw [hW3]; exact (Chg.refl _ _).setCell _ _ (by simp)) (fun y hy _ => ?_), fun y hy => ?_⟩
    · rcases rfF_mem.1 hy with h | h | h | h
      · exact rfF_mem.2 (.inl h)
      · exact rfF_mem.2 (.inr (.inl h))
      · cases h
      · exact rfF_mem.2 (.inr (.inr (.inr h)))
    · exact rfF_mem.2 (.inl (by simpa using hy))
    · rcases rfF_mem.1 hy with h | h | h | h
      · exact .inl (rfF_mem.2 (.inl h))
      · exact .inl (rfF_mem.2 (.inr (.inl h)))
      · cases h
      · cases h)
  have k0 := blk_cell (by have := A.box; unfold rfO at this; exact this)
  have f0 := blk_free A.box
  have k1 := blk_cell (by have := P1.1.box; unfold rfO at this; exact this)
  have f1 := blk_free P1.1.box
  have k2 := blk_cell (by have := P2.1.box; unfold rfO at this; exact this)
  have f2 := blk_free P2.1.box
  have HR := Lib.hid hR2
  have HW := Lib.hid hw
  have HMS := Lib.hid hms
  clear hR hR2 hp hw hm hms A P1 P2 A3 e2 hL
  go_enter Tryz.func34, Tryz.ntmps34
  go_upto_region 1 with fail
  rw [← hW1]
  clear hW1 k0 f0
  go_upto_region 2 with fail
  rw [← hW2]
  clear hW2 k1 f1
  go_upto_region 3 with fail
  rw [← hW3]
  clear hW3 k2 f2
  go_wp2_with fail
  go_loopw [4] (fun u wi => ∃ (i : Nat) (S' : RfS), u = .int .i64 i ∧ i ≤ fn.params.length ∧ S'.names.length = i ∧ Hid (R = visitR x.p x.nodes.length ((fn.params.drop i).foldl declR S') m) ∧ Hid (RfTo x B b sb L w S' wi)) (fun u _ => fn.params.length - (intOf u).toNat)
  case atStart => exact ⟨0, _, rfl, Nat.zero_le _, rfl, HR, T3⟩
  case round =>
    obtain ⟨i, S', rfl, hi, hnl, HQ, T⟩ := hrel
    have HNL := Lib.hid hnl
    have hn10 : S'.names.length ≤ 10000 := by omega
    clear hnl
    have CB := Lib.hid (T.out.chg HW.out (fun y hy => Nat.le_trans hB (HL.out y hy).1))
    obtain ⟨L', J', c', nw'⟩ := T.out
    have J5 := Lib.hid J'
    have TC := Lib.hid (fun (S2 : RfS) (w2 : World) (h : RfTo x B b sb L' wr S2 w2) => RfTo.comp c' nw' h)
    obtain ⟨na5, nc5, va5, vc5, A5, -⟩ := J'
    have k5 := blk_cell (by have := A5.box; unfold rfO at this; rw [E2.out] at this; exact this)
    obtain ⟨u51, u52⟩ := UF.out _ CB.out
    have hi0 : (0 : Int) ≤ (i : Int) := by omega
    clear A5 c' nw'
    by_cases hil : i < fn.params.length
    · have hil' : (i : Int) < (fn.params.length : Int) := by omega
      obtain ⟨b4, o4, e4, -, -, hc4⟩ := (HPE.out _ CB.out).1.elem (Chg.refl [] _) i hil
      have u4 := hc4 0 (by omega)
      simp only [skC, List.getElem?_cons_zero, Nat.add_zero, Nat.mul_one] at u4
      have HQ2 := HQ.out
      rw [List.drop_eq_getElem_cons hil, List.foldl_cons] at HQ2
      have HQ3 := Lib.hid HQ2
      have DA := Lib.hid (declare_any J5.out hn10 fn.params[i])
      generalize fn.params[i] = sp at *
      have q1 : IntKind.i64.wrap ((i : Int) + 1) = (i : Int) + 1 := IntWalk.i64_in _ (by omega)
      rw [e4] at u51
      clear hc4 HQ2
      go_wp2_with (go_at_call 47; (with_reducible refine Calls.mono DA.out ?_); rintro e w8 ⟨rfl, ht⟩; have T8 := Lib.hid (TC.out _ _ ht); clear ht k5 u51 u52)
      exact ⟨⟨i + 1, declR S' sp, rfl, by omega, by simp [declR, HNL.out], HQ3, T8⟩, by simp [intOf]; omega⟩
    · have hie : i = fn.params.length := by omega
      have hil' : ¬ (i : Int) < (fn.params.length : Int) := by omega
      have HQ2 := HQ.out
      rw [hie, List.drop_length, List.foldl_nil] at HQ2
      have HE := Lib.hid HQ2
      have VC := Lib.hid (V.out wr S' L' m s CB.out J5.out hml hml HMS.out (by rw [HNL.out]; omega))
      clear HQ2 hie
      go_wp2_with (go_at_call 48; (with_reducible refine Calls.mono VC.out ?_); rintro e w8 ⟨rfl, ht⟩; have T8 := Lib.hid (TC.out _ _ ht); clear ht)
      go_end0
      exact ⟨rfl, by rw [HE.out]; exact T8.out⟩
end Go.Proofs.YtolidiafomceiaaGreatDoor
namespace Go.Proofs.YtolidiafomceiaaGreatDoor
set_option linter.unusedVariables false
set_option linter.unusedSimpArgs false
open Go.RowKit
/-- What all returns. -/
def AllPost (x : Pr) (w : World) (S : RfS) (e : Ending) (w' : World) : Prop := ∃ (na : Option Addr) (nn nc : Nat) (va : Option Addr) (vn vc sb : Nat), e = .returned (.agg #[.slice x.na x.nodes.length x.nc, .slice x.fa x.funcs.length x.fc, .slice na nn nc, .slice va vn vc, .int .i64 S.next, .slice (some ⟨sb, 0, none⟩) x.nodes.length x.nodes.length, .int .i64 S.node, .int .i64 S.err]) ∧ RowOf icI 1 w' w.heap.size 3 (.slice (some ⟨sb, 0, none⟩) x.nodes.length x.nodes.length) S.slot ∧ Chg [] w w'
theorem scheck_params {p : PPr} (h : scheckZ p = 0) : ∀ f ∈ p.funcs, f.params.length ≤ 8 := by
  unfold scheckZ at h
  split at h
  · cases h
  · split at h
    · cases h
    · split at h
      · cases h
      · split at h
        · cases h
        · rename_i h4
          intro f hf
          have h5 : p.funcs.any (fun f => decide (8 < f.params.length)) = false := by simpa using h4
          have := List.any_eq_false.1 h5 f hf
          simp at this
          exact this
theorem scheck_body {x : Pr} (h : scheckZ x.p = 0) (f : Nat) (hf : f < x.funcs.length) : ∃ m s : Nat, (x.funcs[f]).body = (m : Int) ∧ m < x.nodes.length ∧ firstF x.p.nodes x.p.nodes.length m = (s : Int) := by
  obtain ⟨m, h1, h2, h3⟩ := bodies_ok (scheckZ_ok h).2.2 f hf
  have e : x.p.nodes = x.nodes.map Nd.p := rfl
  have e2 : x.p.nodes.length = x.nodes.length := List.length_map _
  refine ⟨m, (firstF x.p.nodes x.p.nodes.length m).toNat, h1, h2, ?_⟩
  rw [e2, e]
  omega
set_option maxHeartbeats 16000000 in
set_option maxRecDepth 100000 in
theorem rall_any (x : Pr) (w : World) (h : PrIn w x) (hs : scheckZ x.p = 0) : Calls Tryz.prog 33 #[.agg (prC x).toArray] w (AllPost x w (allR x.p)) := by
  obtain ⟨hn6, hf16, -⟩ := scheckZ_ok hs
  rw [show x.p.nodes.length = x.nodes.length from List.length_map _] at hn6
  rw [show x.p.funcs.length = x.funcs.length from List.length_map _] at hf16
  obtain ⟨R, hR⟩ : ∃ R, R = allR x.p := ⟨_, rfl⟩
  rw [← hR]
  have HR := Lib.hid (show R = (x.funcs.map Fn'.p).foldl (runR x.p) ⟨[], 0, List.replicate x.nodes.length (-1), 0, 0⟩ from by
    rw [hR]
    unfold allR
    rw [show x.p.nodes.length = x.nodes.length from List.length_map _]
    rfl)
  have RN := Lib.hid (fun (w' : World) (hc : Chg [] w w') (f : Nat) (hf : f < x.funcs.length) {B b sb : Nat} (hB : w.heap.size ≤ B) {S : RfS} {L : List Nat} (hj : RfJ x B b sb S L w') => show Calls Tryz.prog 34 #[.pointer (some ⟨b, 0, none⟩), .int .i64 f] w' fun e w2 => e = .returned (.tuple #[]) ∧ RfTo x B b sb L w' (runR x.p S (x.funcs[f]).p) w2 from by
    obtain ⟨m, s, h1, h2, h3⟩ := scheck_body hs f hf
    exact rrunf_any h hB hn6 hf16 hc hj f hf (scheck_params hs (x.funcs[f]).p (List.mem_map_of_mem (List.getElem_mem hf))) m s h1 h2 h3)
  obtain ⟨W1, hW1⟩ : ∃ W1, W1 = w.alloc (prO x) := ⟨_, rfl⟩
  have C1 := Lib.hid (show Chg [] w W1 by rw [hW1]; exact (Chg.refl _ _).alloc _)
  have B1 := Lib.hid (show W1.heap[w.heap.size]? = some (prO x) by rw [hW1]; exact heap_alloc_new _ _)
  unfold prO at hW1 B1
  obtain ⟨W2, hW2⟩ : ∃ W2, W2 = W1.alloc (.cells #[.slice none 0 0, .slice none 0 0, .slice none 0 0, .slice none 0 0, .int .i64 0, .slice none 0 0, .int .i64 0, .int .i64 0] 58) := ⟨_, rfl⟩
  have C2 := Lib.hid (show Chg [] w W2 by rw [hW2]; exact C1.out.alloc _)
  have B2 := Lib.hid (show W2.heap[w.heap.size]? = some _ by rw [hW2]; exact blk_alloc B1.out)
  have R2 := Lib.hid (show W2.heap[W1.heap.size]? = some (.cells #[.slice none 0 0, .slice none 0 0, .slice none 0 0, .slice none 0 0, .int .i64 0, .slice none 0 0, .int .i64 0, .int .i64 0] 58 (0, 0)) by rw [hW2]; exact heap_alloc_new _ _)
  have ZZ1 := Lib.hid (show W1.heap.size = w.heap.size + 1 by rw [hW1]; exact Array.size_push _)
  have ZZ2 := Lib.hid (show W2.heap.size = w.heap.size + 2 by rw [hW2]; have := (Array.size_push (xs := W1.heap) (v := .cells #[.slice none 0 0, .slice none 0 0, .slice none 0 0, .slice none 0 0, .int .i64 0, .slice none 0 0, .int .i64 0, .int .i64 0] 58)); rw [ZZ1.out] at this; exact this)
  have k2 := blk_cell B2.out
  have hn6i : (x.nodes.length : Int) ≤ 600 := by omega
  have hn0 : (0 : Int) ≤ (x.nodes.length : Int) := by omega
  simp only [prC]
  clear h hs hR
  go_enter Tryz.func33, Tryz.ntmps33
  go_upto_region 1 with fail
  rw [← hW1, ← hW2]
  clear hW1 hW2
  go_cut [3] (fun v3 wx => ∃ b sb : Nat, v3 = .pointer (some ⟨b, 0, none⟩) ∧ Hid (∃ L, RfJ x W2.heap.size b sb ⟨[], 0, List.replicate x.nodes.length 0, 0, 0⟩ L wx) ∧ Hid (Chg [] W2 wx))
  case first =>
    have VK := Lib.hid (fun (w' : World) (hc : Chg [] W2 w') => show w'.cell? ⟨w.heap.size, 0, none⟩ = some (.slice x.na x.nodes.length x.nc) ∧ w'.cell? ⟨w.heap.size, 1, none⟩ = some (.slice x.fa x.funcs.length x.fc) from by
      have h := blk_cell (hc.at (by simp) B2.out)
      exact ⟨h 0, h 1⟩)
    obtain ⟨wd, hwd⟩ : ∃ wd, wd = W2.drew := ⟨_, rfl⟩
    have D0 := Lib.hid (show Chg [] W2 wd by rw [hwd]; exact (Chg.refl _ _).drew)
    have KA := Lib.hid (D0.out.alloc (.cells #[.slice none 0 0, .slice none 0 0, .slice none 0 0, .slice none 0 0, .int .i64 0, .slice none 0 0, .int .i64 0, .int .i64 0] 58))
    refine wp_region_noPanic ?_
    refine wp_region_held_drew (S := (fun w' => w'.cell? ⟨w.heap.size, 0, none⟩ = some (.slice x.na x.nodes.length x.nc) ∧ w'.cell? ⟨w.heap.size, 1, none⟩ = some (.slice x.fa x.funcs.length x.fc))) (by kernel_rfl) (by rw [← hwd]; exact VK.out _ D0.out) (fun hHeld => ?_)
    rw [← hwd] at hHeld ⊢
    clear hwd
    refine wpAnyH_take (i := 0) (oi := _) (v := ?vA_0) rfl (by kernel_rfl) (by kernel_rfl) (by kernel_rfl) (fun _ _ _ h => h) (Or.inl ⟨by rfl, ?yA_0⟩) hHeld ?rA_0
    case yA_0 => (intro w hSw; (try dsimp only at hSw); (try simp only [List.getElem_toArray, List.getElem_cons_zero, List.getElem_cons_succ]); go_simp <;> with_reducible rfl)
    (try simp only [List.getElem_toArray, List.getElem_cons_zero, List.getElem_cons_succ, Act.put, List.setIfInBounds_toArray, List.set_cons_zero, List.set_cons_succ])
    refine wpAnyH_take (i := 1) (oi := _) (v := ?vA_1) rfl (by kernel_rfl) (by kernel_rfl) (by kernel_rfl) (fun _ _ _ h => h) (Or.inl ⟨by rfl, ?yA_1⟩) hHeld ?rA_1
    case yA_1 => (intro w hSw; (try dsimp only at hSw); (try simp only [List.getElem_toArray, List.getElem_cons_zero, List.getElem_cons_succ]); go_simp <;> with_reducible rfl)
    (try simp only [List.getElem_toArray, List.getElem_cons_zero, List.getElem_cons_succ, Act.put, List.setIfInBounds_toArray, List.set_cons_zero, List.set_cons_succ])
    refine wpAnyH_take (i := 2) (oi := _) (v := ?vA_2) rfl (by kernel_rfl) (by kernel_rfl) (by kernel_rfl) (fun _ _ _ h => h) (Or.inl ⟨by rfl, ?yA_2⟩) hHeld ?rA_2
    case yA_2 => (intro w hSw; (try dsimp only at hSw); (try simp only [List.getElem_toArray, List.getElem_cons_zero, List.getElem_cons_succ]); go_simp <;> with_reducible rfl)
    (try simp only [List.getElem_toArray, List.getElem_cons_zero, List.getElem_cons_succ, Act.put, List.setIfInBounds_toArray, List.set_cons_zero, List.set_cons_succ])
    refine wpAnyH_take (i := 3) (oi := _) (v := ?vA_3) rfl (by kernel_rfl) (by kernel_rfl) (by kernel_rfl) (fun _ _ _ h => h) (Or.inl ⟨by rfl, ?yA_3⟩) hHeld ?rA_3
    case yA_3 => (intro w hSw; (try dsimp only at hSw); (try simp only [List.getElem_toArray, List.getElem_cons_zero, List.getElem_cons_succ]); go_simp <;> with_reducible rfl)
    (try simp only [List.getElem_toArray, List.getElem_cons_zero, List.getElem_cons_succ, Act.put, List.setIfInBounds_toArray, List.set_cons_zero, List.set_cons_succ])
    refine wpAnyH_ready (rs := [4, 6]) (by kernel_rfl) (by simp) ?_
    refine AllReadyH.cons (o := _) rfl (fun K hK => ?_) (AllReadyH.cons (o := _) rfl (fun K hK => ?_) AllReadyH.nil)
    ·
      (try simp only [List.getElem_toArray, List.getElem_cons_zero, List.getElem_cons_succ])
      refine step_list rfl ?_
      (refine wpl_make (cf := icI) rfl _ _ 32 rfl W2.heap.size 3 _ 8 Tryz.underlying32 intInfoS 0 rfl rfl x.nodes.length rfl rfl (by omega) (by unfold maxLen; omega) D0.out.size ?_; intro w6 hr6 hc6 hl6; have KC := Lib.hid (D0.out.thenSame hc6); have R6 := Lib.hid hr6; have L6 := Lib.hid hl6; clear hr6 hl6)
      refine ⟨rfl, hK.out _ _ ?_ (fun hHeld => ?_)⟩
      exact VK.out _ KC.out
      clear hK K
      (try simp only [List.getElem_toArray, List.getElem_cons_zero, List.getElem_cons_succ, Act.put, List.setIfInBounds_toArray, List.set_cons_zero, List.set_cons_succ])
      refine wpAnyH_take (i := 5) (oi := _) (v := ?vA_5) rfl (by kernel_rfl) (by kernel_rfl) (by kernel_rfl) (fun _ _ _ h => h) (Or.inl ⟨by rfl, ?yA_5⟩) hHeld ?rA_5
      case yA_5 => (intro w hSw; (try dsimp only at hSw); (try simp only [List.getElem_toArray, List.getElem_cons_zero, List.getElem_cons_succ]); go_simp <;> with_reducible rfl)
      (try simp only [List.getElem_toArray, List.getElem_cons_zero, List.getElem_cons_succ, Act.put, List.setIfInBounds_toArray, List.set_cons_zero, List.set_cons_succ])
      refine wpAnyH_ready (rs := [6]) (by kernel_rfl) (by simp) ?_
      refine AllReadyH.cons (o := _) rfl (fun K hK => ?_) AllReadyH.nil
      (try simp only [List.getElem_toArray, List.getElem_cons_zero, List.getElem_cons_succ])
      go_simp
      skip
      refine hK.out _ _ ?_ (fun hHeld => ?_)
      exact VK.out _ (KC.out.alloc _)
      clear hK K
      (try simp only [List.getElem_toArray, List.getElem_cons_zero, List.getElem_cons_succ, Act.put, List.setIfInBounds_toArray, List.set_cons_zero, List.set_cons_succ])
      refine wpAnyH_ready (rs := [7]) (by kernel_rfl) (by simp) ?_
      refine AllReadyH.cons (o := _) rfl (fun K hK => ?_) AllReadyH.nil
      (try simp only [List.getElem_toArray, List.getElem_cons_zero, List.getElem_cons_succ])
      go_simp
      skip
      refine hK.out _ _ ?_ (fun hHeld => ?_)
      exact VK.out _ (KC.out.alloc _)
      clear hK K
      (try simp only [List.getElem_toArray, List.getElem_cons_zero, List.getElem_cons_succ, Act.put, List.setIfInBounds_toArray, List.set_cons_zero, List.set_cons_succ])
      refine wpAnyH_done (by kernel_rfl) ?_ _
      refine NoPanic.normal ?_
      go_wp2_with fail
      go_meet
      have NA := heap_alloc_new w6 (.cells #[.slice x.na x.nodes.length x.nc, .slice x.fa x.funcs.length x.fc, .slice none 0 0, .slice none 0 0, .int .i64 0, .slice (some ⟨wd.heap.size, 0, none⟩) x.nodes.length x.nodes.length, .int .i64 0, .int .i64 0] 58 (0, 0))
      have zz := D0.out.size
      have l6 := L6.out
      exact ⟨w6.heap.size, wd.heap.size, rfl, Lib.hid ⟨_, none, 0, none, 0, ⟨NA, ⟨rfl, .inl ⟨rfl, rfl⟩⟩, ⟨rfl, .inl ⟨rfl, rfl⟩⟩, R6.out.kept ((Chg.refl [] w6).alloc _) (by simp), by omega, by omega, (by intro h; cases h), (by intro h; cases h), (by intro h; cases h), (by intro h; cases h), (by intro g h; cases h)⟩, rfl⟩, Lib.hid (KC.out.alloc _)⟩
    ·
      (try simp only [List.getElem_toArray, List.getElem_cons_zero, List.getElem_cons_succ])
      go_simp
      skip
      refine hK.out _ _ ?_ (fun hHeld => ?_)
      exact VK.out _ KA.out
      clear hK K
      (try simp only [List.getElem_toArray, List.getElem_cons_zero, List.getElem_cons_succ, Act.put, List.setIfInBounds_toArray, List.set_cons_zero, List.set_cons_succ])
      refine wpAnyH_ready (rs := [4]) (by kernel_rfl) (by simp) ?_
      refine AllReadyH.cons (o := _) rfl (fun K hK => ?_) AllReadyH.nil
      (try simp only [List.getElem_toArray, List.getElem_cons_zero, List.getElem_cons_succ])
      refine step_list rfl ?_
      (refine wpl_make (cf := icI) rfl _ _ 32 rfl W2.heap.size 3 _ 8 Tryz.underlying32 intInfoS 0 rfl rfl x.nodes.length rfl rfl (by omega) (by unfold maxLen; omega) KA.out.size ?_; intro w6 hr6 hc6 hl6; have KC := Lib.hid (KA.out.thenSame hc6); have L6Z := Lib.hid (hc6.at (by simp) (heap_alloc_new wd _)); have R6 := Lib.hid hr6; have L6 := Lib.hid hl6; clear hr6 hl6)
      refine ⟨rfl, hK.out _ _ ?_ (fun hHeld => ?_)⟩
      exact VK.out _ KC.out
      clear hK K
      (try simp only [List.getElem_toArray, List.getElem_cons_zero, List.getElem_cons_succ, Act.put, List.setIfInBounds_toArray, List.set_cons_zero, List.set_cons_succ])
      have NB := Lib.hid (show w6.heap[wd.heap.size]? = some (.cells #[.slice none 0 0, .slice none 0 0, .slice none 0 0, .slice none 0 0, .int .i64 0, .slice none 0 0, .int .i64 0, .int .i64 0] 58 (0, 0)) from L6Z.out)
      have kb := blk_cell NB.out
      have fb := blk_free NB.out
      obtain ⟨WF, hWF⟩ : ∃ WF, WF = ((((((((w6.setCell ⟨wd.heap.size, 0, none⟩ (.slice x.na x.nodes.length x.nc)).setCell ⟨wd.heap.size, 1, none⟩ (.slice x.fa x.funcs.length x.fc)).setCell ⟨wd.heap.size, 2, none⟩ (.slice none 0 0)).setCell ⟨wd.heap.size, 3, none⟩ (.slice none 0 0)).setCell ⟨wd.heap.size, 4, none⟩ (.int .i64 0)).setCell ⟨wd.heap.size, 5, none⟩ (.slice (some ⟨wd.heap.size + 1, 0, none⟩) x.nodes.length x.nodes.length)).setCell ⟨wd.heap.size, 6, none⟩ (.int .i64 0)).setCell ⟨wd.heap.size, 7, none⟩ (.int .i64 0)) := ⟨_, rfl⟩
      have zz := D0.out.size
      have CF := Lib.hid (show Chg [] W2 WF from by
        have hc : Chg [wd.heap.size] w6 WF := by
          rw [hWF]
          exact ((((((((Chg.refl _ _).setCell _ _ (by simp)).setCell _ _ (by simp)).setCell _ _ (by simp)).setCell _ _ (by simp)).setCell _ _ (by simp)).setCell _ _ (by simp)).setCell _ _ (by simp)).setCell _ _ (by simp)
        exact KC.out.then hc (fun y hy hlt => by simp at hy; omega))
      have HWF := Lib.hid hWF
      clear hWF
      refine wpAnyH_take (i := 5) (oi := _) (v := ?vB_5) rfl (by kernel_rfl) (by kernel_rfl) (by kernel_rfl) (fun _ _ _ h => h) (Or.inl ⟨by rfl, ?yB_5⟩) hHeld ?rB_5
      case yB_5 => (intro w hSw; (try dsimp only at hSw); (try simp only [List.getElem_toArray, List.getElem_cons_zero, List.getElem_cons_succ]); go_simp <;> with_reducible rfl)
      (try simp only [List.getElem_toArray, List.getElem_cons_zero, List.getElem_cons_succ, Act.put, List.setIfInBounds_toArray, List.set_cons_zero, List.set_cons_succ])
      refine wpAnyH_ready (rs := [7]) (by kernel_rfl) (by simp) ?_
      refine AllReadyH.cons (o := _) rfl (fun K hK => ?_) AllReadyH.nil
      (try simp only [List.getElem_toArray, List.getElem_cons_zero, List.getElem_cons_succ])
      go_simp
      skip
      refine hK.out _ _ ?_ (fun hHeld => ?_)
      exact (by rw [← HWF.out]; exact VK.out _ CF.out)
      clear hK K
      (try simp only [List.getElem_toArray, List.getElem_cons_zero, List.getElem_cons_succ, Act.put, List.setIfInBounds_toArray, List.set_cons_zero, List.set_cons_succ])
      refine wpAnyH_done (by kernel_rfl) ?_ _
      refine NoPanic.normal ?_
      rw [← HWF.out]
      go_wp2_with fail
      go_meet
      have NF : WF.heap[wd.heap.size]? = some (.cells #[.slice x.na x.nodes.length x.nc, .slice x.fa x.funcs.length x.fc, .slice none 0 0, .slice none 0 0, .int .i64 0, .slice (some ⟨wd.heap.size + 1, 0, none⟩) x.nodes.length x.nodes.length, .int .i64 0, .int .i64 0] 58 (0, 0)) := by
        rw [HWF.out]
        exact (blk_set (blk_set (blk_set (blk_set (blk_set (blk_set (blk_set (blk_set NB.out 0 _) 1 _) 2 _) 3 _) 4 _) 5 _) 6 _) 7 _).trans rfl
      have hcF : Chg [wd.heap.size] w6 WF := by
        rw [HWF.out]
        exact ((((((((Chg.refl _ _).setCell _ _ (by simp)).setCell _ _ (by simp)).setCell _ _ (by simp)).setCell _ _ (by simp)).setCell _ _ (by simp)).setCell _ _ (by simp)).setCell _ _ (by simp)).setCell _ _ (by simp)
      have R7 : RowOf icI 1 w6 W2.heap.size 3 (.slice (some ⟨wd.heap.size + 1, 0, none⟩) x.nodes.length x.nodes.length) (List.replicate x.nodes.length 0) := by
        have := R6.out
        rw [World.size_alloc] at this
        exact this
      have RF : RowOf icI 1 WF W2.heap.size 3 (.slice (some ⟨wd.heap.size + 1, 0, none⟩) x.nodes.length x.nodes.length) (List.replicate x.nodes.length 0) := by
        exact R7.kept hcF (by intro g hg; simp [Value.ownBlock] at hg; simp; omega)
      exact ⟨wd.heap.size, wd.heap.size + 1, rfl, Lib.hid ⟨_, none, 0, none, 0, ⟨NF, ⟨rfl, .inl ⟨rfl, rfl⟩⟩, ⟨rfl, .inl ⟨rfl, rfl⟩⟩, RF, by omega, by omega, (by intro h; cases h), (by intro h; cases h), (by intro h; cases h), (by intro h; cases h), (by intro g h; cases h)⟩, rfl⟩, CF⟩
  case rest =>
    obtain ⟨b, sb, rfl, HJ, D3⟩ := hcut
    have HZ := Lib.hid (show (List.replicate x.nodes.length (0 : Int)) = List.replicate 0 (-1) ++ List.replicate (x.nodes.length - 0) 0 by simp)
    go_wp2_with fail
    go_loopw [4] (fun u wi => ∃ i : Nat, u = .int .i64 i ∧ i ≤ x.nodes.length ∧ Hid (∃ L, RfJ x W2.heap.size b sb ⟨[], 0, List.replicate i (-1) ++ List.replicate (x.nodes.length - i) 0, 0, 0⟩ L wi) ∧ Hid (Chg [] W2 wi)) (fun u _ => x.nodes.length - (intOf u).toNat)
    case atStart => exact ⟨0, rfl, Nat.zero_le _, Lib.hid (by rw [← HZ.out]; exact HJ.out), D3⟩
    case round =>
      obtain ⟨i, rfl, hi, HJ4, D4⟩ := hrel
      obtain ⟨L4, J4'⟩ := HJ4.out
      have J4 := Lib.hid J4'
      obtain ⟨na, nc, va, vc, A4', hL⟩ := J4'
      have A4 := Lib.hid A4'
      have k4 := blk_cell (by have := A4'.box; unfold rfO at this; exact this)
      have hi0 : (0 : Int) ≤ (i : Int) := by omega
      clear A4'
      by_cases hil : i < x.nodes.length
      · have hil' : (i : Int) < (x.nodes.length : Int) := by omega
        have q1 : IntKind.i64.wrap ((i : Int) + 1) = (i : Int) + 1 := IntWalk.i64_in _ (by omega)
        obtain ⟨ev, e7⟩ : ∃ v, wr.cell? ⟨sb, i, none⟩ = some v := ⟨_, A4.out.slC i hil⟩
        have g7 := fun q => A4.out.slF q
        have A5 := Lib.hid (by have := A4.out.putSlot i hil (-1); rw [rep_set hil] at this; exact this)
        have D5 := Lib.hid (D4.out.then ((Chg.refl [sb] wr).setCell ⟨sb, i, none⟩ (.int .i64 (-1)) (by simp)) (fun y hy hlt => by
          have := (A4.out.lt sb (rfF_mem.2 (.inr (.inl rfl)))).1
          simp at hy
          omega))
        go_wp2_with fail
        exact ⟨⟨i + 1, rfl, by omega, Lib.hid ⟨_, na, nc, va, vc, A5.out, rfl⟩, D5⟩, by simp [intOf]; omega⟩
      · have hie : i = x.nodes.length := by omega
        have hil' : ¬ (i : Int) < (x.nodes.length : Int) := by omega
        have J5 := Lib.hid (show RfJ x W2.heap.size b sb ⟨[], 0, List.replicate x.nodes.length (-1), 0, 0⟩ L4 wr from by have := J4.out; rw [hie, Nat.sub_self] at this; simpa using this)
        clear hie A4 J4 HJ4
        go_wp2_with fail
        clear k4
        go_loopw [5] (fun u wi => ∃ (f : Nat) (S : RfS), u = .int .i64 f ∧ f ≤ x.funcs.length ∧ Hid (R = ((x.funcs.drop f).map Fn'.p).foldl (runR x.p) S) ∧ Hid (∃ L, RfJ x W2.heap.size b sb S L wi) ∧ Hid (Chg [] W2 wi)) (fun u _ => x.funcs.length - (intOf u).toNat)
        case atStart => exact ⟨0, _, rfl, Nat.zero_le _, HR, Lib.hid ⟨_, J5.out⟩, D4⟩
        case round =>
          obtain ⟨f, S, rfl, hf, HQ, HJ6, D6⟩ := hrel
          obtain ⟨L6, J6'⟩ := HJ6.out
          have J6 := Lib.hid J6'
          have hf0 : (0 : Int) ≤ (f : Int) := by omega
          have C6 := Lib.hid (C2.out.thenSame D6.out)
          have B6 := Lib.hid (D6.out.at (by simp) B2.out)
          have k6 := blk_cell B6.out
          clear J6'
          by_cases hfl : f < x.funcs.length
          · have hfl' : (f : Int) < (x.funcs.length : Int) := by omega
            have HQ2 := HQ.out
            rw [List.drop_eq_getElem_cons hfl, List.map_cons, List.foldl_cons] at HQ2
            have HQ3 := Lib.hid HQ2
            have RA := Lib.hid (RN.out wr C6.out f hfl (Nat.le_trans (Nat.le_refl _) C2.out.size) J6.out)
            have q1 : IntKind.i64.wrap ((f : Int) + 1) = (f : Int) + 1 := IntWalk.i64_in _ (by omega)
            clear HQ2
            go_wp2_with (go_at_call 34; (with_reducible refine Calls.mono RA.out ?_); rintro e w7 ⟨rfl, ht⟩; have D7 := Lib.hid (ht.chg D6.out (fun y hy => (J6.out.lt y hy).1)); have J7 := Lib.hid (show ∃ L, RfJ x W2.heap.size b sb (runR x.p S (x.funcs[f]).p) L w7 from by obtain ⟨L7, j7, -, -⟩ := ht; exact ⟨L7, j7⟩); clear ht k6)
            exact ⟨⟨f + 1, _, rfl, by omega, HQ3, J7, D7⟩, by simp [intOf]; omega⟩
          · have hfe : f = x.funcs.length := by omega
            have hfl' : ¬ (f : Int) < (x.funcs.length : Int) := by omega
            have HQ2 := HQ.out
            rw [hfe, List.drop_length, List.map_nil, List.foldl_nil] at HQ2
            have HE := Lib.hid HQ2
            obtain ⟨na6, nc6, va6, vc6, A6', hL6⟩ := J6.out
            have A6 := Lib.hid A6'
            have k7 := blk_cell (by have := A6'.box; unfold rfO at this; exact this)
            have z1 := ZZ1.out
            have R6 := Lib.hid (D6.out.at (by simp) R2.out)
            rw [z1] at R6
            have r6 := blk_cell R6.out
            have rf6 := blk_free R6.out
            clear HQ2 hfe A6' hL6
            go_wp2_with fail
            obtain ⟨WF, hWF⟩ : ∃ WF, WF = ((((((((wr.setCell ⟨w.heap.size + 1, 0, none⟩ (.slice x.na x.nodes.length x.nc)).setCell ⟨w.heap.size + 1, 1, none⟩ (.slice x.fa x.funcs.length x.fc)).setCell ⟨w.heap.size + 1, 2, none⟩ (.slice na6 S.names.length nc6)).setCell ⟨w.heap.size + 1, 3, none⟩ (.slice va6 S.names.length vc6)).setCell ⟨w.heap.size + 1, 4, none⟩ (.int .i64 S.next)).setCell ⟨w.heap.size + 1, 5, none⟩ (.slice (some ⟨sb, 0, none⟩) x.nodes.length x.nodes.length)).setCell ⟨w.heap.size + 1, 6, none⟩ (.int .i64 S.node)).setCell ⟨w.heap.size + 1, 7, none⟩ (.int .i64 S.err)) := ⟨_, rfl⟩
            have NF : WF.heap[w.heap.size + 1]? = some (.cells #[.slice x.na x.nodes.length x.nc, .slice x.fa x.funcs.length x.fc, .slice na6 S.names.length nc6, .slice va6 S.names.length vc6, .int .i64 S.next, .slice (some ⟨sb, 0, none⟩) x.nodes.length x.nodes.length, .int .i64 S.node, .int .i64 S.err] 58 (0, 0)) := by
              rw [hWF]
              exact (blk_set (blk_set (blk_set (blk_set (blk_set (blk_set (blk_set (blk_set R6.out 0 _) 1 _) 2 _) 3 _) 4 _) 5 _) 6 _) 7 _).trans rfl
            have hcF : Chg [w.heap.size + 1] wr WF := by
              rw [hWF]
              exact ((((((((Chg.refl _ _).setCell _ _ (by simp)).setCell _ _ (by simp)).setCell _ _ (by simp)).setCell _ _ (by simp)).setCell _ _ (by simp)).setCell _ _ (by simp)).setCell _ _ (by simp)).setCell _ _ (by simp)
            rw [← hWF]
            have r1 := blk_cell NF
            have r2 := blk_free NF
            have hlb := (A6.out.lt sb (rfF_mem.2 (.inr (.inl rfl)))).1
            have z2 := ZZ2.out
            clear hWF r6 rf6
            exact bodyPost_ret (v := .agg #[.slice x.na x.nodes.length x.nc, .slice x.fa x.funcs.length x.fc, .slice na6 S.names.length nc6, .slice va6 S.names.length vc6, .int .i64 S.next, .slice (some ⟨sb, 0, none⟩) x.nodes.length x.nodes.length, .int .i64 S.node, .int .i64 S.err]) (by simp [results, Tryz.results33, go_sem, r1]) rfl ⟨na6, S.names.length, nc6, va6, S.names.length, vc6, sb, by rw [HE.out], by rw [HE.out]; exact (A6.out.sl.kept hcF (by intro g hg; simp [Value.ownBlock] at hg; simp; omega)).mono (by omega), C6.out.then hcF (fun y hy hlt => by simp at hy; omega)⟩
end Go.Proofs.YtolidiafomceiaaGreatDoor
