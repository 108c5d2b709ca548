/- Chapter 30: contract: Trim. No condition. -/
import Derived.Test.YtmichbpfmachcaaDoorStmM
namespace Go.Proofs.YtmichbpfmachcaaDoor
set_option linter.unusedVariables false
set_option linter.unusedSimpArgs false
open Go.RowKit Go.Shelf
attribute [local go_sem] Oper.semAt_some
variable {w w' : World} {b g c n : Nat} {D : List Sd} {keep now : Int} {f S : List Nat} {st : Stm}
theorem InIs.tail {α : Type} {cf : α → List Value} {sz : Nat} {w : World} {a : Option Addr} {c : Nat} {l : List α} (h : InIs cf sz w a c l) (i : Nat) (hi : i ≤ l.length) : InIs cf sz w (a.map (fun x => x.add (i * sz))) (c - i) (l.drop i) := by
  obtain ⟨⟨h1, h2⟩, h3, h4, h5⟩ := h
  refine ⟨⟨rfl, fun k hk => ?_⟩, by simp; omega, by omega, fun hn => ?_⟩
  · rw [List.length_drop] at hk
    obtain ⟨q, o, e1, e2, e3⟩ := h2 (i + k) (by omega)
    subst e1
    refine ⟨q, o + i * sz, ?_, e2, fun m hm => ?_⟩
    · simp [addr_none]
    · rw [List.getElem_drop, ← e3 m hm, Nat.add_mul]
      congr 2
      omega
  · cases a with
    | none => have := h5 rfl; omega
    | some y => cases hn
theorem takeWhile_len {α : Type} (p : α → Bool) (l : List α) (m : Nat) (h : ∀ r ∈ l.take m, p r = true) (hm : m ≤ l.length) (he : m = l.length ∨ ∃ hlt : m < l.length, p l[m] = false) : (l.takeWhile p).length = m := by
  have hs : l = l.take m ++ l.drop m := (List.take_append_drop m l).symm
  rw [hs, List.takeWhile_append_of_pos h]
  rcases he with rfl | ⟨hlt, hp⟩
  · simp
  · rw [List.drop_eq_getElem_cons hlt, List.takeWhile_cons_of_neg (by rw [hp]; simp)]
    simp; omega
set_option maxHeartbeats 16000000 in
set_option maxRecDepth 100000 in
theorem trim_good (h : StmIs w b st f) (ho : st.ok n) (hn : n ≤ 1048575) (now : Int) (h1 : st.now ≤ now) (h2 : now ≤ 1073741824) :
    Calls Tryd.prog 20 #[.pointer (some ⟨b, 0, none⟩), .int .i64 now] w fun e w' => e = .returned (.int .i64 (trimR st now).1) ∧ Turned w w' b (trimR st now).2 f := by
  obtain ⟨R, hR⟩ : ∃ R, R = trimR st now := ⟨_, rfl⟩
  rw [← hR]
  unfold trimR at hR
  rw [if_neg (by omega), if_neg (by omega)] at hR
  have HR := Lib.hid hR
  have H := Lib.hid h
  have HO := Lib.hid ho
  obtain ⟨W1, hW1⟩ : ∃ W1, W1 = (w.alloc (.cells #[.pointer (some ⟨b, 0, none⟩)] 28)).alloc (.cells #[.int .i64 now] 3) := ⟨_, rfl⟩
  have C1 := Lib.hid (show Chg [] w W1 by rw [hW1]; exact ((Chg.refl _ _).alloc _).alloc _)
  have B2 := Lib.hid (show W1.heap[w.heap.size]? = some (.cells #[.pointer (some ⟨b, 0, none⟩)] 28 (0, 0)) by rw [hW1]; exact blk_alloc (heap_alloc_new _ _))
  have B3 := Lib.hid (show W1.heap[w.heap.size + 1]? = some (.cells #[.int .i64 now] 3 (0, 0)) by rw [hW1]; have := heap_alloc_new (w.alloc (.cells #[.pointer (some ⟨b, 0, none⟩)] 28)) (.cells #[.int .i64 now] 3); rw [World.size_alloc] at this; exact this)
  have x2 := blk_cell B2.out
  have x3 := blk_cell B3.out
  have AM := Lib.hid (fun w' (hc : Chg [] W1 w') => stm_made ((h.keptN C1.out).keptN hc) ho)
  obtain ⟨g, c, D, e1, e2⟩ := h
  have y1 := blk_cell (e2.kept C1.out (by simp)).head
  have HW1 := Lib.hid hW1
  clear hR hW1 ho
  refine (callsIn_wide (n := 3)).1 ?_
  refine callsIn_of_wp_marks Tryd.func20 rfl trivial ?_ rfl
  simp only [Tryd.ntmps20, List.size_toArray, List.length_cons, List.length_nil, Nat.reduceAdd, Nat.reduceSub, Array.replicate_succ, Array.replicate_zero, List.push_toArray, List.append_toArray, List.nil_append, List.cons_append]
  gi_wp2
  rw [← HW1.out]
  refine wpIn_wide.2 ?_
  go_quiet (exact Calls.quiet_of_same ((AM.out _ ((Chg.refl [] W1).drewN _)).mono (fun e w' h => ⟨h.1, h.2.symm⟩)))
  obtain ⟨W2, hW2⟩ : ∃ W2, W2 = W1.drewN nq := ⟨_, rfl⟩
  rw [← hW2]
  have K2 := Lib.hid (show Chg [] W1 W2 by rw [hW2]; exact (Chg.refl _ _).drewN _)
  clear hW2 x2 x3 y1
  have C2 := Lib.hid (C1.out.thenSame K2.out)
  have E2 := Lib.hid (e2.kept C2.out (by simp))
  have D2 := Lib.hid (K2.out.at (by simp) B2.out)
  have D3 := Lib.hid (K2.out.at (by simp) B3.out)
  have x2 := blk_cell D2.out
  have x3 := blk_cell D3.out
  have m3 := lt_of_heap D3.out
  have y1 := blk_cell E2.out.head
  have f1 := blk_free E2.out.head
  have m1 := lt_of_heap E2.out.head
  have hbw : b < w.heap.size := e2.lt b e2.inb
  obtain ⟨W3, hW3⟩ : ∃ W3, W3 = (W2.setCell ⟨b, 1, none⟩ (.int .i64 now)).alloc (.cells #[.int .i64 0] 3) := ⟨_, rfl⟩
  have K3 := Lib.hid (show Chg [b] W2 W3 by rw [hW3]; exact ((Chg.refl _ _).setCell _ _ (by simp)).alloc _)
  have E3 := Lib.hid (show StmAt W3 b g c D st.keep now f by rw [hW3]; exact (E2.out.setHead 1 (.int .i64 now) st.keep now rfl).kept (S := []) ((Chg.refl _ _).alloc _) (by simp))
  have F2 := Lib.hid (K3.out.at (by simp; omega) D2.out)
  have F3 := Lib.hid (K3.out.at (by simp; omega) D3.out)
  have F5 := Lib.hid (show W3.heap[W2.heap.size]? = some (.cells #[.int .i64 0] 3 (0, 0)) by rw [hW3]; have := heap_alloc_new (W2.setCell ⟨b, 1, none⟩ (.int .i64 now)) (.cells #[.int .i64 0] 3); rwa [World.size_setCell] at this)
  have z2 := (blk_cell F2.out) 0
  have HW3 := Lib.hid hW3
  rw [hW3] at z2
  have z2' : ((W2.setCell ⟨b, 1, none⟩ (.int .i64 now)).alloc (.cells #[.int .i64 0] 3)).cell? ⟨w.heap.size, 0, none⟩ = some (.pointer (some ⟨b, 0, none⟩)) := z2
  clear z2 hW3
  have E3c := Lib.hid (E3.out.canon)
  have hDN : D.length ≤ 8 := by have := HO.out.2.1; rw [e1, List.length_map] at this; exact this
  gi_wp2_with (refine ⟨trivial, ?_⟩; gi_at_call 38; refine ((callsIn_wide.2 (each_any b _)).mono ?_); rintro e w4 ⟨rfl, rfl⟩)
  rw [← HW3.out]
  have K4 := Lib.hid ((Chg.refl [] W3).alloc (.cells #[.pointer (some ⟨b, 0, none⟩)] 28))
  have s3 : W3.heap.size = W2.heap.size + 1 := by rw [HW3.out, World.size_alloc, World.size_setCell]
  have N4 := Lib.hid (show (W3.alloc (.cells #[.pointer (some ⟨b, 0, none⟩)] 28)).heap[W2.heap.size + 1]? = some (.cells #[.pointer (some ⟨b, 0, none⟩)] 28 (0, 0)) by rw [← s3]; exact heap_alloc_new W3 _)
  have E4 := Lib.hid (E3c.out.1.kept K4.out (by simp))
  have s4 : w.heap.size ≤ (W3.alloc (.cells #[.pointer (some ⟨b, 0, none⟩)] 28)).heap.size := Nat.le_trans C2.out.size (Nat.le_trans K3.out.size K4.out.size)
  have hb4 : b < (W3.alloc (.cells #[.pointer (some ⟨b, 0, none⟩)] 28)).heap.size := by omega
  refine wpIn_rangeFunc_ownF (F := Fence.wide) rfl (by omega) (gf := 46) (lb := #[.pointer (some ⟨W2.heap.size + 1, 0, none⟩)]) rfl trivial (enters_of Tryd.func46 (by kernel_rfl) rfl)
    (each_stops hDN N4.out (blk_cell E4.out.head 2) hb4) kpS_t (kpS_b (by rw [World.size_alloc]; omega) hb4) (Below.refl _ _) (fun _ => rfl)
    (TrimI f w b g c D st.keep now st.sh W2.heap.size (W2.heap.size + 1)) (fun _ _ _ => False) (trimI_own s4) (fun _ _ _ _ _ hs _ _ => hs) ?start ?fr ?assign ?body ?done ?stop
  case start =>
    refine ⟨D, by rw [← e1]; rfl, E4.out, fun x hx => .inl (E3c.out.2.1 x hx), ?_, K4.out.at (by simp) F2.out, K4.out.at (by simp) F3.out, ?_, N4.out⟩
    · exact ((C2.out.mono (T := f) (by simp)).then K3.out (fun x hx _ => by simp at hx; subst hx; exact e2.inb)).thenSame (K4.out.mono (by simp))
    · exact K4.out.at (by simp) F5.out
  case assign =>
    intro l x W K hK
    gi_wp2
    exact hK
  case body =>
    rintro l pre x W ⟨D', i1, i2, i3, i4, i5, i6, i7, i8⟩ hpl
    have ok' := foldK_ok (S0 := st.sh) (k := st.now) (keep := st.keep) HO.out now (pre.map (·.1))
    have hlen : D'.length = D.length := by have := ok'.2.1; rw [← i1, List.length_map] at this; rw [this, e1, List.length_map]
    have hx : x.1 < D'.length := by rw [hlen]; exact x.2
    obtain ⟨o1, o2, o3⟩ := ok_at ok'.1 i1.symm x.1 hx
    have hat : Hid (∀ r ∈ D'[x.1].L, 0 ≤ r.at_ ∧ r.at_ ≤ 1073741824) := Lib.hid (fun r hr => by
      have h7 := ok'.1.2.2.2.2.2.2
      have := (h7 (D'[x.1]).p (by show _ ∈ (foldK _ _ _ _).1; rw [← i1]; exact List.mem_map.2 ⟨_, List.getElem_mem hx, rfl⟩)).2.2.2 r.p (List.mem_map.2 ⟨r, hr, rfl⟩)
      exact ⟨this.1, this.2.1⟩)
    have hk1 : 1 ≤ st.keep := HO.out.2.2.1
    have hk2 : st.keep ≤ 1073741824 := HO.out.2.2.2.1
    have hcb : (foldK st.keep now st.sh (pre.map (·.1))).2 ≤ 2048 := by have := ok'.2.2; rw [List.length_map] at this; omega
    have ST := Lib.hid (fun (m : Nat) (wc : World) (a' : Option Addr) (c' : Nat) => trim_step (f := f) (w := w) (D := D) (W := W) (wc := wc) (b5 := W2.heap.size) (be := W2.heap.size + 1) (m := m) (a' := a') (c' := c') x rfl i1 i2 i3 i4 i5 i6 i7 i8 m3 rfl hx rfl)
    have HS := Lib.hid (fun (wr : World) (hc : Chg [] W wr) => (i2.kept hc (by simp)).shard x.1 hx)
    have HRW := Lib.hid (i2.recs _ (List.getElem_mem hx))
    have HB := Lib.hid (fun (wr : World) (hc : Chg [] W wr) => (⟨blk_cell (hc.at (by simp) i5) 0, blk_cell (hc.at (by simp) i6) 0, blk_cell (hc.at (by simp) i2.head) 0, blk_cell (hc.at (by simp) i7) 0, blk_free (hc.at (by simp) i7) 0, lt_of_heap (hc.at (by simp) i7), (rowBlk ((i2.kept hc (by simp)).row) rfl : ∃ cur, wr.heap[g]? = some (.cells cur 70 (0, 0)))⟩ : _ ∧ _ ∧ _ ∧ _ ∧ _ ∧ _ ∧ _))
    unfold Sd.v at HS HRW
    have HGB : Hid (g ≠ W2.heap.size) := Lib.hid (by
      rintro rfl
      obtain ⟨cur, hc⟩ := i2.rowAt
      rw [i7] at hc
      simp at hc)
    generalize D'[x.1] = d at *
    generalize (foldK st.keep now st.sh (pre.map (·.1))).2 = c0 at *
    have I5 := Lib.hid i5
    clear i1 i2 i3 i4 i5 i6 i7 i8 ok' hlen hx HO H HW1
    gi_wp2
    gi_loopw [7] (fun t wr => ∃ m : Nat, t = .int .i64 m ∧ m ≤ d.L.length ∧ Hid (Chg [] W wr) ∧ Hid (∀ r ∈ d.L.take m, r.at_ + st.keep < now)) (fun t _ => d.L.length - (intOf t).toNat)
    case atStart => exact ⟨0, rfl, Nat.zero_le _, Lib.hid (Chg.refl _ _), Lib.hid (by simp)⟩
    case round =>
      obtain ⟨m, rfl, hm, KW, HA⟩ := hrel
      obtain ⟨s1, s2⟩ := HS.out wr KW.out
      obtain ⟨c2, c3, c0', -, -, -, -⟩ := HB.out wr KW.out
      by_cases hlt : m < d.L.length
      · obtain ⟨g3, hg3⟩ : ∃ g3, d.a = some ⟨g3, 0, none⟩ := by
          rcases RowOf.at HRW.out rcC_len with ⟨_, h0⟩ | ⟨g3, cap, hv, _⟩
          · rw [h0] at hlt; simp at hlt
          · simp only [Value.slice.injEq] at hv; exact ⟨g3, hv.1⟩
        have hrk := HRW.out.kept KW.out (by simp)
        rw [hg3] at hrk s2
        obtain ⟨-, -, -, r4, -, -, -⟩ := RowOf.atS hrk rcC_len
        have ca := r4 m hlt 2 (by omega)
        obtain ⟨u1, u2⟩ := hat.out _ (List.getElem_mem hlt)
        simp only [rcC, List.getElem?_cons_succ, List.getElem?_cons_zero] at ca
        by_cases hlt2 : (d.L[m]).at_ + st.keep < now
        · gi_wp2
          refine trim_r8b (by kernel_rfl) s2 c2 c3 c0' hlt ca u1 u2 hk1 hk2 _ (fun y30 y31 y32 y33 y34 y35 y36 y37 y38 y39 y40 y41 y42 y43 y44 y45 y46 y47 y48 y49 y50 y51 y52 nq => ?_)
          rw [decide_eq_true hlt2]
          gi_wp2
          refine ⟨⟨m + 1, by go_num, by omega, Lib.hid (KW.out.thenSame ((Chg.refl _ _).drewN _)), Lib.hid (fun r hr => ?_)⟩, by simp [intOf]; omega⟩
          rw [List.take_succ_eq_append_getElem hlt] at hr
          rcases List.mem_append.1 hr with hr | hr
          · exact HA.out r hr
          · simp at hr; subst hr; exact hlt2
        · have hcnt := Lib.hid (show cntD st.keep now (d.L.map Rc.p) = m by
            unfold cntD
            rw [List.takeWhile_map, List.length_map]
            exact takeWhile_len _ d.L m (fun r hr => decide_eq_true (HA.out r hr)) hm (.inr ⟨hlt, decide_eq_false hlt2⟩))
          gi_wp2
          refine trim_r8b (by kernel_rfl) s2 c2 c3 c0' hlt ca u1 u2 hk1 hk2 _ (fun y30 y31 y32 y33 y34 y35 y36 y37 y38 y39 y40 y41 y42 y43 y44 y45 y46 y47 y48 y49 y50 y51 y52 nq => ?_)
          rw [show decide ((d.L[m]).at_ + st.keep < now) = false from decide_eq_false (by omega)]
          clear hrk ca hg3
          obtain ⟨W5, hW5⟩ : ∃ W5, W5 = wr.drewN nq := ⟨_, rfl⟩
          rw [← hW5]
          have KW5 := Lib.hid (show Chg [] W W5 by rw [hW5]; exact KW.out.thenSame ((Chg.refl _ _).drewN _))
          clear hW5 s1 s2 c2 c3 c0'
          obtain ⟨s1, s2⟩ := HS.out W5 KW5.out
          have hcap := (InIs.ofRow HRW.out rcC_len).2.2.1
          have hPl : (d.L.drop m).length = d.L.length - m := by simp
          have AC1 : Hid (d.c = m → Calls Tryd.prog 30 #[.slice d.a (d.L.length - m) 0] W5 fun e w'' => ∃ a' c', e = .returned (.slice a' (d.L.drop m).length c') ∧ RowOf rcC 10 w'' W5.heap.size 55 (.slice a' (d.L.drop m).length c') (d.L.drop m) ∧ Chg [] W5 w'') := Lib.hid (fun hcm => by
            have hP0 : d.L.drop m = [] := List.length_eq_zero_iff.1 (by omega)
            rw [hP0, show d.L.length - m = 0 by omega]
            exact cloner_any d.a 0 [] W5 ⟨⟨rfl, fun k hk => by simp at hk⟩, by simp, by unfold maxLen; omega, fun _ => rfl⟩ (by simp))
          have AC2 : Hid (Calls Tryd.prog 30 #[.slice (Option.map (fun x => x.add (m * 10)) d.a) (d.L.length - m) (d.c - m)] W5 fun e w'' => ∃ a' c', e = .returned (.slice a' (d.L.drop m).length c') ∧ RowOf rcC 10 w'' W5.heap.size 55 (.slice a' (d.L.drop m).length c') (d.L.drop m) ∧ Chg [] W5 w'') := Lib.hid (by
            have hq := InIs.tail ((InIs.ofRow HRW.out rcC_len).2.kept KW5.out) m hm
            have := cloner_any _ _ (d.L.drop m) W5 hq (by rw [hPl]; omega)
            rw [hPl] at this ⊢
            exact this)
          have m0 : 0 ≤ (m : Int) := by omega
          have ml : (m : Int) ≤ (d.L.length : Int) := by omega
          have mc : (m : Int) ≤ (d.c : Int) := by omega
          clear hPl
          gi_wp2_with (refine ⟨trivial, ?_⟩; gi_at_call 30; (first | (refine CallsIn.inRound l ((callsIn_wide.2 AC2.out).mono ?_)) | (refine CallsIn.inRound l ((callsIn_wide.2 (AC1.out (by assumption))).mono ?_))); rintro e w6 ⟨a', c', rfl, hr6, hc6⟩; have R6 := Lib.hid hr6; have K6 := Lib.hid hc6; clear hr6 hc6; obtain ⟨s1, s2⟩ := HS.out w6 (KW5.out.thenSame K6.out); obtain ⟨-, -, -, b7, f7, l7, curg, hcg⟩ := HB.out w6 (KW5.out.thenSame K6.out); have fg := blk_free hcg; have lg := lt_of_heap hcg; have hgb := HGB.out)
          all_goals
            have this := ST.out m w6 a' c' hcnt.out (KW5.out.thenSame K6.out) (R6.out.mono KW5.out.size)
            rw [List.length_drop] at this
            exact this
      · have hml : m = d.L.length := by omega
        have hcnt := Lib.hid (show cntD st.keep now (d.L.map Rc.p) = m by
          unfold cntD
          rw [List.takeWhile_map, List.length_map]
          exact takeWhile_len _ d.L m (fun r hr => decide_eq_true (HA.out r hr)) hm (.inl hml))
        have HML := Lib.hid hml
        clear hml hlt
        gi_wp2
        refine trim_r8a (by kernel_rfl) m HML.out s2 _ (fun y30 y31 y32 y33 y34 y35 y36 y37 y38 y39 y40 y41 y42 y43 y44 y45 y46 y47 y48 y49 y50 y51 y52 nq => ?_)
        obtain ⟨W5, hW5⟩ : ∃ W5, W5 = wr.drewN nq := ⟨_, rfl⟩
        rw [← hW5]
        have KW5 := Lib.hid (show Chg [] W W5 by rw [hW5]; exact KW.out.thenSame ((Chg.refl _ _).drewN _))
        clear hW5 s1 s2 c2 c3 c0'
        obtain ⟨s1, s2⟩ := HS.out W5 KW5.out
        have hcap := (InIs.ofRow HRW.out rcC_len).2.2.1
        have hPl : (d.L.drop m).length = d.L.length - m := by simp
        have AC1 : Hid (d.c = m → Calls Tryd.prog 30 #[.slice d.a (d.L.length - m) 0] W5 fun e w'' => ∃ a' c', e = .returned (.slice a' (d.L.drop m).length c') ∧ RowOf rcC 10 w'' W5.heap.size 55 (.slice a' (d.L.drop m).length c') (d.L.drop m) ∧ Chg [] W5 w'') := Lib.hid (fun hcm => by
          have hP0 : d.L.drop m = [] := List.length_eq_zero_iff.1 (by omega)
          rw [hP0, show d.L.length - m = 0 by omega]
          exact cloner_any d.a 0 [] W5 ⟨⟨rfl, fun k hk => by simp at hk⟩, by simp, by unfold maxLen; omega, fun _ => rfl⟩ (by simp))
        have AC2 : Hid (Calls Tryd.prog 30 #[.slice (Option.map (fun x => x.add (m * 10)) d.a) (d.L.length - m) (d.c - m)] W5 fun e w'' => ∃ a' c', e = .returned (.slice a' (d.L.drop m).length c') ∧ RowOf rcC 10 w'' W5.heap.size 55 (.slice a' (d.L.drop m).length c') (d.L.drop m) ∧ Chg [] W5 w'') := Lib.hid (by
          have hq := InIs.tail ((InIs.ofRow HRW.out rcC_len).2.kept KW5.out) m hm
          have := cloner_any _ _ (d.L.drop m) W5 hq (by rw [hPl]; omega)
          rw [hPl] at this ⊢
          exact this)
        have m0 : 0 ≤ (m : Int) := by omega
        have ml : (m : Int) ≤ (d.L.length : Int) := by omega
        have mc : (m : Int) ≤ (d.c : Int) := by omega
        clear hPl
        gi_wp2_with (refine ⟨trivial, ?_⟩; gi_at_call 30; (first | (refine CallsIn.inRound l ((callsIn_wide.2 AC2.out).mono ?_)) | (refine CallsIn.inRound l ((callsIn_wide.2 (AC1.out (by assumption))).mono ?_))); rintro e w6 ⟨a', c', rfl, hr6, hc6⟩; have R6 := Lib.hid hr6; have K6 := Lib.hid hc6; clear hr6 hc6; obtain ⟨s1, s2⟩ := HS.out w6 (KW5.out.thenSame K6.out); obtain ⟨-, -, -, b7, f7, l7, curg, hcg⟩ := HB.out w6 (KW5.out.thenSame K6.out); have fg := blk_free hcg; have lg := lt_of_heap hcg; have hgb := HGB.out)
        all_goals
          have this := ST.out m w6 a' c' hcnt.out (KW5.out.thenSame K6.out) (R6.out.mono KW5.out.size)
          rw [List.length_drop] at this
          exact this
  case done =>
    rintro Dd ys W hD rfl hI hK
    have hI2 := (trimI_own (c := c) (D := D) (keep := st.keep) (now := now) (f := f) (S0 := st.sh) (b5 := W2.heap.size) (be := W2.heap.size + 1) s4).putObj (.deferred none) hI hD hK rfl
    obtain ⟨D', i1, i2, i3, i4, i5, i6, i7, i8⟩ := hI
    obtain ⟨D'', j1, j2, j3, j4, j5, j6, j7, j8⟩ := hI2
    have hfr : (List.finRange D.length).map (·.1) = List.range st.sh.length := by
      rw [e1, List.length_map]
      exact List.ext_getElem (by simp) (fun i h1 h2 => by simp)
    rw [hfr, foldK_all] at i7 j1
    simp only at i7
    obtain ⟨N5, hN5⟩ : ∃ N5, N5 = (st.sh.map (fun d => cntD st.keep now d.recs)).sum := ⟨_, rfl⟩
    rw [← hN5] at i7
    have y5 := blk_cell i7 0
    have HK := Lib.hid hK
    have HRR : Hid (R.1 = (N5 : Int) ∧ R.2 = { st with now := now, sh := st.sh.map (trimD st.keep now) }) := Lib.hid (by rw [HR.out, hN5]; exact ⟨rfl, rfl⟩)
    clear hN5
    clear i1 i2 i3 i4 i5 i6 i7 i8 hK
    gi_wp2
    refine ⟨by simp, .inl ⟨_, _, rfl, run_takeDeferred HK.out, ?_⟩⟩
    exact ⟨_, results_tmp rfl _ _ _, by rw [HRR.out.1]; rfl, _, ⟨g, c, D'', by rw [HRR.out.2]; exact j1.symm, by rw [HRR.out.2]; exact j2⟩, j4, j3⟩
  case stop =>
    rintro D c pre W _ _ h _
    exact h.elim
set_option maxHeartbeats 4000000 in
set_option maxRecDepth 100000 in
theorem trim_any (h : StmIs w b st f) (ho : st.ok n) (hn : n ≤ 1048575) (now : Int) : Calls Tryd.prog 20 #[.pointer (some ⟨b, 0, none⟩), .int .i64 now] w fun e w' => e = .returned (.int .i64 (trimR st now).1) ∧ Turned w w' b (trimR st now).2 f := by
  by_cases h1 : now < st.now ∨ 1073741824 < now
  case neg => exact trim_good h ho hn now (by omega) (by omega)
  have hR : trimR st now = (0, st) := by
    unfold trimR
    rcases h1 with h1 | h1
    · rw [if_pos h1]
    · by_cases h2 : now < st.now
      · rw [if_pos h2]
      · rw [if_neg h2, if_pos h1]
  rw [hR]
  have H := Lib.hid h
  obtain ⟨W1, hW1⟩ : ∃ W1, W1 = (w.alloc (.cells #[.pointer (some ⟨b, 0, none⟩)] 28)).alloc (.cells #[.int .i64 now] 3) := ⟨_, rfl⟩
  have C1 := Lib.hid (show Chg [] w W1 by rw [hW1]; exact ((Chg.refl _ _).alloc _).alloc _)
  have B2 := Lib.hid (show W1.heap[w.heap.size]? = some (.cells #[.pointer (some ⟨b, 0, none⟩)] 28 (0, 0)) by rw [hW1]; exact blk_alloc (heap_alloc_new _ _))
  have B3 := Lib.hid (show W1.heap[w.heap.size + 1]? = some (.cells #[.int .i64 now] 3 (0, 0)) by rw [hW1]; have := heap_alloc_new (w.alloc (.cells #[.pointer (some ⟨b, 0, none⟩)] 28)) (.cells #[.int .i64 now] 3); rw [World.size_alloc] at this; exact this)
  have x2 := blk_cell B2.out
  have x3 := blk_cell B3.out
  have AM := Lib.hid (fun w' (hc : Chg [] W1 w') => stm_made ((h.keptN C1.out).keptN hc) ho)
  obtain ⟨g, c, D, e1, e2⟩ := h
  have y1 := blk_cell (e2.kept C1.out (by simp)).head
  have HW1 := Lib.hid hW1
  clear hW1 ho hR e1 e2
  by_cases h2 : now < st.now
  · clear h1
    go_enter Tryd.func20, Tryd.ntmps20
    go_wp2_with fail
    rw [← HW1.out]
    go_quiet (exact Calls.quiet_of_same ((AM.out _ ((Chg.refl [] W1).drewN _)).mono (fun e w' h => ⟨h.1, h.2.symm⟩)))
    go_wp2_with fail
    go_ret
    exact ⟨rfl, Turned.same H.out (C1.out.drewN _)⟩
  · have h3 : 1073741824 < now := by omega
    clear h1
    go_enter Tryd.func20, Tryd.ntmps20
    go_wp2_with fail
    rw [← HW1.out]
    go_quiet (exact Calls.quiet_of_same ((AM.out _ ((Chg.refl [] W1).drewN _)).mono (fun e w' h => ⟨h.1, h.2.symm⟩)))
    go_wp2_with fail
    go_ret
    exact ⟨rfl, Turned.same H.out (C1.out.drewN _)⟩
end Go.Proofs.YtmichbpfmachcaaDoor
