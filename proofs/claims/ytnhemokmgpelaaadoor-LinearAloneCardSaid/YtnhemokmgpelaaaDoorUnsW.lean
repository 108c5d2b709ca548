/- Chapter 50: the walk of LinearUnseen. Condition: the table of Itoa lies as the program lays it. -/
import Derived.DataShut
import Derived.Test.YtnhemokmgpelaaaDoorSerA
import Derived.Test.YtnhemokmgpelaaaDoorMAlo
import Derived.Test.YtnhemokmgpelaaaDoorLinP
namespace Go.Proofs.YtnhemokmgpelaaaDoor
set_option linter.unusedVariables false
set_option linter.unusedSimpArgs false
open Go.RowKit
theorem lawint_at (n : Int) (w : World) : Calls Tryd.prog 9 #[.int .i64 n] w fun e w' => ∃ b, e = .returned (.slice (some ⟨b, 0, none⟩) 1 1) ∧ w.heap.size ≤ b ∧ InIs ceC 4 w' (some ⟨b, 0, none⟩) 1 [intC n] ∧ Chg [] w w' := by
  go_enter Tryd.func9, Tryd.ntmps9
  go_wp2_with fail
  go_ret
  exact ⟨_, rfl, Nat.le_refl _, one_in (x := intC n) (heap_alloc_new _ _), (Chg.refl _ _).alloc _⟩
theorem sz_drew (w : World) : w.drew.heap.size = w.heap.size := rfl
theorem alloc_at {w : World} {o : Obj} {b : Nat} (h : b = w.heap.size) : (w.alloc o).heap[b]? = some o := by rw [h]; exact heap_alloc_new _ _
theorem atHid {a b : World} {p : Nat} {o : Obj} (k : Hid (Chg [] a b)) (h : a.heap[p]? = some o) : b.heap[p]? = some o := k.out.at (by simp) h
theorem one_rr {w : World} {b : Nat} {d : Rr Ce} {t : TypeId} (h : w.heap[b]? = some (.cells #[.slice d.a d.L.length d.c] t (0, 0))) : InIs rrC 1 w (some ⟨b, 0, none⟩) 1 [d] :=
  ⟨SlIs.ofBlock (cf := rrC) [d] h rrC_len rfl, Nat.le_refl _, by unfold maxLen; omega, fun h => by cases h⟩
theorem InIs.nilA {α : Type} {cf : α → List Value} {sz : Nat} {w : World} : InIs cf sz w none 0 ([] : List α) := ⟨⟨rfl, fun k hk => by simp at hk⟩, Nat.le_refl _, Nat.zero_le _, fun _ => rfl⟩
def wrC (s : ByteArray) (b : Nat) (m f t : Int) (p q : Nat) : Cl := ⟨⟨idX, s, opWrite, some ⟨p, 0, none⟩, 1, [⟨some ⟨b, 0, none⟩, 1, [intC m]⟩]⟩, 0, some ⟨q, 0, none⟩, 1, [nullC], f, f + t⟩
def rdC (s : ByteArray) (f t : Int) (q : Nat) : Cl := ⟨⟨idX, s, opRead, none, 0, []⟩, 0, some ⟨q, 0, none⟩, 1, [intC 1000], f, f + t⟩
theorem wf_u8 {n : Int} (h : (Lit.int .u8 n).wf = true) : 0 ≤ n ∧ n ≤ 255 := by
  have := (Lit.wf_int_iff _ _).1 h
  simpa [IntKind.min, IntKind.max, IntKind.bits, IntKind.signed] using this
theorem wf_i8 {n : Int} (h : (Lit.int .i8 n).wf = true) : -128 ≤ n ∧ n ≤ 127 := by
  have := (Lit.wf_int_iff _ _).1 h
  simpa [IntKind.min, IntKind.max, IntKind.bits, IntKind.signed] using this
theorem wf_i64 {n : Int} (h : -9223372036854775808 ≤ n ∧ n ≤ 9223372036854775807) : (Lit.int .i64 n).wf = true := by
  refine (Lit.wf_int_iff _ _).2 ?_
  simpa [IntKind.min, IntKind.max, IntKind.bits, IntKind.signed] using h
/-- A call's blocks, when it has one argument or none. -/
theorem on_three {y : Cl} {n : Nat} (h1 : ∀ p, y.o.aa = some p → n ≤ p.block) (h2 : ∀ d ∈ y.o.args, ∀ p, d.a = some p → n ≤ p.block) (h3 : ∀ p, y.va = some p → n ≤ p.block) : ∀ b, y.on b → n ≤ b := by
  rintro b (⟨p, e, -, rfl⟩ | ⟨p, e, -, rfl⟩ | ⟨d, hd, p, e, -, rfl⟩)
  · exact h1 p e
  · exact h3 p e
  · exact h2 d hd p e
theorem row_chg {w wr w5 w6 : World} {a : Option Addr} {c : Nat} {D : List Cl} (h : SerI w wr a c D) (h5 : Chg [] wr w5) (hg : Chg (ob a).toList w5 w6) : Chg [] w w6 := by
  have hba := h.row.block
  rw [ob_eq] at hba
  exact (h.chg.thenSame h5).then hg (fun x hx hl => by have := (hba x (by simpa using hx)).1; omega)
theorem uns_row {w wr w5 w6 : World} {a : Option Addr} {c : Nat} {D : List Cl} (h : SerI w wr a c D) (h5 : Chg [] wr w5) {y : Cl} (hy : ClIn w5 y) (hyn : ∀ b, y.on b → wr.heap.size ≤ b) {g cap : Nat}
    (hg : Chg (ob a).toList w5 w6) (hrow : RowOf clC 8 w6 w.heap.size 41 (.slice (some ⟨g, 0, none⟩) (D.length + 1) cap) (D ++ [y])) (hat : ob a = some g ∨ g = w5.heap.size) : SerI w w6 (some ⟨g, 0, none⟩) cap (D ++ [y]) := by
  have hba := h.row.block
  rw [ob_eq] at hba
  exact (h.keptN h5).step hy (fun b hb e => by have := hyn b hb; have := (hba b e).2; omega) hg hrow hat
theorem thenHid {S : List Nat} {a b c : World} (k : Hid (Chg S b c)) (h : Chg S a b) : Chg S a c := h.thenSame k
/-- A history for LinearUnseen. -/
def UnsL (l : List PCl) : Prop := IdsOk l ∧ ∀ x ∈ l, UnsOk x
theorem UnsL.nil : UnsL [] := ⟨fun k hk => by simp at hk, fun x hx => by cases hx⟩
theorem UnsL.snoc {l : List PCl} {x : PCl} (h : UnsL l) (h1 : x.o.ent = idX) (h2 : nmL[l.length]? = some x.o.id) (h3 : badT x = false) (h4 : chkZ x.o = 0) (h5 : UnsOk x) : UnsL (l ++ [x]) := by
  refine ⟨fun k hk => ?_, fun y hy => ?_⟩
  · by_cases hl : k < l.length
    · rw [List.getElem_append_left hl]; exact h.1 k hl
    · have : k = l.length := by simp at hk; omega
      subst this
      simp only [List.getElem_concat_length]
      exact ⟨h1, h2, h3, h4⟩
  · rcases List.mem_append.1 hy with hy | hy
    · exact h.2 y hy
    · simp at hy; subst hy; exact h5
theorem uns_bad {f t : Int} (hf : 0 ≤ f ∧ f ≤ 255) (ht : 0 ≤ t ∧ t ≤ 255) (o : POp) (e : Int) (v : List Ce) : openB ⟨o, e, v, f, f + t⟩ = false ∧ badT ⟨o, e, v, f, f + t⟩ = false := by
  have h1 : openB ⟨o, e, v, f, f + t⟩ = false := beq_eq_false_iff_ne.2 (by simp only; omega)
  refine ⟨h1, ?_⟩
  unfold badT timeB
  rw [h1, decide_eq_true (show (0 : Int) ≤ f by omega), decide_eq_true (show f ≤ 1073741824 by omega), decide_eq_true (show (0 : Int) ≤ f + t by omega), decide_eq_true (show f + t ≤ 1073741824 by omega), decide_eq_false (show ¬ f + t < f by omega)]
  rfl
theorem wrC_ok {D : List Cl} {k : Nat} {s : ByteArray} {m f t : Int} (b p q : Nat) (h : UnsL (D.map Cl.p)) (hk : D.length = k) (hs : nmL[k]? = some s) (hm : -128 ≤ m ∧ m ≤ 127) (hf : 0 ≤ f ∧ f ≤ 255) (ht : 0 ≤ t ∧ t ≤ 255) : UnsL ((D ++ [wrC s b m f t p q]).map Cl.p) ∧ goodCl (wrC s b m f t p q) := by
  have hv : validB m = true := small_valid hm
  obtain ⟨u1, u2⟩ := uns_bad hf ht (wrC s b m f t p q).p.o 0 [nullC]
  refine ⟨?_, ⟨szX, nmL_size hs, szWrite, by simp [wrC], fun d hd => ?_⟩, wf_i64 (show (-9223372036854775808 : Int) ≤ 0 ∧ (0 : Int) ≤ 9223372036854775807 by decide), wf_i64 (show _ ≤ f ∧ f ≤ _ by omega), wf_i64 (show _ ≤ f + t ∧ f + t ≤ _ by omega)⟩
  · rw [List.map_append]
    exact h.snoc rfl (by rw [List.length_map, hk]; exact hs) u2 (aloP_chk (q := 1) (.inr (.inl rfl)) hv (nmL_id hs)) ⟨u1, .inl ⟨by kernel_rfl, m, hm, rfl⟩⟩
  · simp [wrC] at hd
    subst hd
    exact intC_goodL hv
theorem rdC_ok {D : List Cl} {k : Nat} {s : ByteArray} {f t : Int} (q : Nat) (h : UnsL (D.map Cl.p)) (hk : D.length = k) (hs : nmL[k]? = some s) (hf : 0 ≤ f ∧ f ≤ 255) (ht : 0 ≤ t ∧ t ≤ 255) : UnsL ((D ++ [rdC s f t q]).map Cl.p) ∧ goodCl (rdC s f t q) := by
  obtain ⟨u1, u2⟩ := uns_bad hf ht (rdC s f t q).p.o 0 [intC 1000]
  refine ⟨?_, ⟨szX, nmL_size hs, szRead, by simp [rdC], fun d hd => by simp [rdC] at hd⟩, wf_i64 (show (-9223372036854775808 : Int) ≤ 0 ∧ (0 : Int) ≤ 9223372036854775807 by decide), wf_i64 (show _ ≤ f ∧ f ≤ _ by omega), wf_i64 (show _ ≤ f + t ∧ f + t ≤ _ by omega)⟩
  rw [List.map_append]
  exact h.snoc rfl (by rw [List.length_map, hk]; exact hs) u2 (aloP_chk (q := 0) (m := 0) (.inl rfl) (by rfl) (nmL_id hs)) ⟨u1, .inr ⟨by kernel_rfl, rfl⟩⟩
theorem ser_lin {w wr : World} {a : Option Addr} {c : Nat} {D : List Cl} (h : SerI w wr a c D) : LIn wr a c D := ⟨(InIs.ofRow h.row clC_len).2, fun d hd => (h.ins d hd).1⟩
theorem uns_fin {D D8 : List Cl} {k q : Nat} {s : ByteArray} {f t : Int} (h : UnsL (D.map Cl.p)) (hk : D.length = k) (h8 : k < 8) (hs : nmL[k]? = some s) (hf : 0 ≤ f ∧ f ≤ 255) (ht : 0 ≤ t ∧ t ≤ 255) (e : D8 = D ++ [rdC s f t q]) : findZ [intC 0] (D8.map Cl.p) = ([], 19) := by
  subst e
  have hu := (rdC_ok q h hk hs hf ht).1
  have hl : ((D ++ [rdC s f t q]).map Cl.p).length = k + 1 := by simp [hk]
  refine uns_find (by rw [hl]; omega) hu.1 hu.2 (n := k) (by rw [hl]; omega) ?_
  have : ((D ++ [rdC s f t q]).map Cl.p)[k]? = some (rdC s f t q).p := by rw [List.getElem?_map, List.getElem?_append_right (by omega), hk, Nat.sub_self]; rfl
  rw [(List.getElem?_eq_some_iff.1 this).2]
  exact (show opN opRead = 1 by kernel_rfl)
theorem uns_good {D D8 : List Cl} {k q : Nat} {s : ByteArray} {f t : Int} (g : ∀ d ∈ D, goodCl d) (h : UnsL (D.map Cl.p)) (hk : D.length = k) (hs : nmL[k]? = some s) (hf : 0 ≤ f ∧ f ≤ 255) (ht : 0 ≤ t ∧ t ≤ 255) (e : D8 = D ++ [rdC s f t q]) : ∀ d ∈ D8, goodCl d := by
  subst e
  intro d hd
  rcases List.mem_append.1 hd with hd | hd
  · exact g d hd
  · simp at hd; subst hd; exact (rdC_ok q h hk hs hf ht).2
set_option maxHeartbeats 16000000 in
set_option maxRecDepth 100000 in
theorem unseen_walk (a0 : Option Addr) (len0 cap0 : Nat) (l0 : List Int) (fs ts : List Int) (w : World)
    (h0 : SlIs i8I 1 w a0 len0 l0 ∧ (∀ x ∈ l0, (Lit.int .i8 x).wf = true) ∧ len0 ≤ maxLen ∧ len0 ≤ cap0) (h1 : fs.length = 8 ∧ ∀ y ∈ fs, (Lit.int .u8 y).wf = true) (h2 : ts.length = 8 ∧ ∀ y ∈ ts, (Lit.int .u8 y).wf = true) (ht : TabW w) :
    Calls Tryd.prog 4 #[.slice a0 len0 cap0, .agg (fs.map (Value.int .u8)).toArray, .agg (ts.map (Value.int .u8)).toArray] w fun e w' => e = .returned (.bool true) ∧ Below w.heap.size w w' := by
  obtain ⟨hl, hlw, -, -⟩ := h0
  obtain rfl : l0.length = len0 := hl.1
  refine Calls.mono (R := fun e w' => e = .returned (.bool true) ∧ Chg [] w w') ?_ (fun e w' h => ⟨h.1, h.2.toBelow (Nat.le_refl _) (by simp)⟩)
  have AW := Lib.hid (fun w' (hc : Chg [] w w') => awake_any w' (ht.kept hc))
  by_cases h8 : 8 ≤ l0.length
  · have h8' : (8 : Int) ≤ (l0.length : Int) := by omega
    have AWC := Lib.hid (AW.out _ (((Chg.refl [] w).alloc (.cells (fs.map (Value.int .u8)).toArray 47 (0, 0))).alloc (.cells (ts.map (Value.int .u8)).toArray 47 (0, 0))))
    go_enter Tryd.func4, Tryd.ntmps4
    go_wp2_with fail
    refine AWC.out.mono ?_; rintro e w2 ⟨rfl, hc⟩
    have C2 := Lib.hid ((((Chg.refl [] w).alloc (.cells (fs.map (Value.int .u8)).toArray 47 (0, 0))).alloc (.cells (ts.map (Value.int .u8)).toArray 47 (0, 0))).thenSame hc)
    clear hc
    go_wp2_with fail
    go_ret
    exact ⟨rfl, C2.out⟩
  have h8' : (l0.length : Int) < 8 := by omega
  have hl8 : l0.length < 8 := by omega
  have HL := Lib.hid hl
  have HLW := Lib.hid hlw
  have H1 := Lib.hid h1
  have H2 := Lib.hid h2
  have HT := Lib.hid ht
  clear hl hlw h1 h2 ht h8
  go_enter Tryd.func4, Tryd.ntmps4
  go_upto_region 4 with fail
  obtain ⟨W0, hW0⟩ : ∃ W0, W0 = ((w.alloc (.cells (fs.map (Value.int .u8)).toArray 47 (0, 0))).alloc (.cells (ts.map (Value.int .u8)).toArray 47 (0, 0))).alloc (.cells #[.string ⟨#[97]⟩, .string ⟨#[98]⟩, .string ⟨#[99]⟩, .string ⟨#[100]⟩, .string ⟨#[101]⟩, .string ⟨#[102]⟩, .string ⟨#[103]⟩, .string ⟨#[104]⟩] 9 (0, 0)) := ⟨_, rfl⟩
  have C0 := Lib.hid (show Chg [] w W0 by rw [hW0]; exact (((Chg.refl [] w).alloc _).alloc _).alloc _)
  have BF := Lib.hid (show W0.heap[w.heap.size]? = some (.cells (fs.map (Value.int .u8)).toArray 47 (0, 0)) by rw [hW0]; exact blk_alloc (blk_alloc (heap_alloc_new w _)))
  have BT := Lib.hid (show W0.heap[w.heap.size + 1]? = some (.cells (ts.map (Value.int .u8)).toArray 47 (0, 0)) by rw [hW0]; exact blk_alloc (by have := heap_alloc_new (w.alloc (.cells (fs.map (Value.int .u8)).toArray 47 (0, 0))) (.cells (ts.map (Value.int .u8)).toArray 47 (0, 0)); rwa [World.size_alloc] at this))
  have BN := Lib.hid (show W0.heap[w.heap.size + 1 + 1]? = some (.cells (nmL.map Value.string).toArray 9 (0, 0)) by rw [hW0]; have := heap_alloc_new ((w.alloc (.cells (fs.map (Value.int .u8)).toArray 47 (0, 0))).alloc (.cells (ts.map (Value.int .u8)).toArray 47 (0, 0))) (.cells (nmL.map Value.string).toArray 9 (0, 0)); rwa [World.size_alloc, World.size_alloc] at this)
  rw [← hW0]
  clear hW0
  have HD := Lib.hid (fun w' (hc : Chg [] W0 w') k (hk : k < 8) => show ∃ f t s, fs[k]? = some f ∧ ts[k]? = some t ∧ nmL[k]? = some s ∧ w'.cell? ⟨w.heap.size, k, none⟩ = some (.int .u8 f) ∧ w'.cell? ⟨w.heap.size + 1, k, none⟩ = some (.int .u8 t) ∧ w'.cell? ⟨w.heap.size + 1 + 1, k, none⟩ = some (.string s) from by
    have e1 : k < fs.length := by have := H1.out.1; omega
    have e2 : k < ts.length := by have := H2.out.1; omega
    have e3 : k < nmL.length := by rw [nmL_len]; exact hk
    refine ⟨fs[k], ts[k], nmL[k], List.getElem?_eq_getElem e1, List.getElem?_eq_getElem e2, List.getElem?_eq_getElem e3, ?_, ?_, ?_⟩
    · rw [blk_cell (hc.at (by simp) BF.out)]; simp [e1]
    · rw [blk_cell (hc.at (by simp) BT.out)]; simp [e2]
    · rw [blk_cell (hc.at (by simp) BN.out)]; simp [e3])
  clear BF BT BN
  obtain ⟨bf, hbf⟩ : ∃ b, b = w.heap.size := ⟨_, rfl⟩
  obtain ⟨bt, hbt⟩ : ∃ b, b = w.heap.size + 1 := ⟨_, rfl⟩
  obtain ⟨bn, hbn⟩ : ∃ b, b = w.heap.size + 1 + 1 := ⟨_, rfl⟩
  rw [← hbn, ← hbt, ← hbf]
  rw [← hbn, ← hbt, ← hbf] at HD
  clear hbf hbt hbn
  have LI := Lib.hid (fun n w' => lawint_at n w')
  go_wp2_with fail
  go_loopw [8, 9] (fun u i wr => ∃ (k : Nat) (a : Option Addr) (c : Nat) (D : List Cl), u = .slice a D.length c ∧ i = .int .i64 k ∧ k ≤ l0.length ∧ Hid (D.length = k) ∧ Hid (SerI W0 wr a c D) ∧ Hid (UnsL (D.map Cl.p)) ∧ Hid (∀ d ∈ D, goodCl d)) (fun _ i _ => l0.length - (intOf i).toNat)
  case atStart => exact ⟨0, none, 0, [], rfl, rfl, Nat.zero_le _, Lib.hid rfl, Lib.hid ⟨Chg.refl _ _, RowOf.nil _ _ _, fun d hd => by cases hd⟩, Lib.hid UnsL.nil, Lib.hid (fun d hd => by cases hd)⟩
  case round =>
    obtain ⟨k, a, c, D, rfl, rfl, hk, DK, SI, UL, GD⟩ := hrel
    have hk0 : (0 : Int) ≤ (k : Int) := by omega
    have hk8 : (k : Int) < 8 := by omega
    obtain ⟨f, t, s, f1, t1, s1, v1, v2, v3⟩ := HD.out wr SI.out.chg k (by omega)
    have F1 := Lib.hid f1
    have T1 := Lib.hid t1
    have S1 := Lib.hid s1
    clear f1 t1 s1
    by_cases hkl : k < l0.length
    · have hkl' : (k : Int) < (l0.length : Int) := by omega
      obtain ⟨b1, o1, rfl, hb1, hc1⟩ := HL.out.2 k hkl
      have hwf := HLW.out _ (List.getElem_mem hkl)
      have u1 := hc1 0 (by omega)
      simp only [i8I, List.getElem?_cons_zero, Nat.add_zero, Nat.mul_one] at u1
      have U1 := Lib.hid (fun w' (hc : Chg [] W0 w') => (World.cell?_of_block (w := w) ((C0.out.thenSame hc).block b1 hb1 (by simp))).trans u1)
      have hm := wf_i8 hwf
      have hf := wf_u8 (H1.out.2 _ (List.mem_of_getElem? F1.out))
      have ht := wf_u8 (H2.out.2 _ (List.mem_of_getElem? T1.out))
      have V := Lib.hid (fun w' (hc : Chg [] W0 w') => show w'.cell? ⟨bn, k, none⟩ = some (.string s) ∧ w'.cell? ⟨b1, o1 + k, none⟩ = some (.int .i8 l0[k]) ∧ w'.cell? ⟨bf, k, none⟩ = some (.int .u8 f) ∧ w'.cell? ⟨bt, k, none⟩ = some (.int .u8 t) from by
        obtain ⟨f', t', s', e1, e2, e3, e4, e5, e6⟩ := HD.out w' hc k (by omega)
        have := F1.out.symm.trans e1
        have := T1.out.symm.trans e2
        have := S1.out.symm.trans e3
        simp_all
        exact U1.out w' hc)
      clear hwf hc1 v1 v2 v3
      generalize l0[k] = m at *
      have u1 := (V.out wr SI.out.chg).2.1
      have q1 : IntKind.i64.wrap m = m := IntWalk.i64_in _ (by omega)
      have q2 : IntKind.i64.wrap f = f := IntWalk.i64_in _ (by omega)
      have q3 : IntKind.i64.wrap t = t := IntWalk.i64_in _ (by omega)
      have q4 : IntKind.i64.wrap (f + t) = f + t := IntWalk.i64_in _ (by omega)
      go_upto_region 8 with fail
      go_region_held3 (fun w' => w'.cell? ⟨bn, k, none⟩ = some (.string s) ∧ w'.cell? ⟨b1, o1 + k, none⟩ = some (.int .i8 m) ∧ w'.cell? ⟨bf, k, none⟩ = some (.int .u8 f) ∧ w'.cell? ⟨bt, k, none⟩ = some (.int .u8 t))
        (first | exact V.out _ CW8.out | (refine V.out _ (Chg.thenSame SI.out.chg ?_); (repeat (first | exact Chg.refl _ _ | (refine Chg.alloc ?_ _) | (refine Chg.drewN ?_ _) | (refine Chg.drew ?_) | (refine thenHid (by assumption) ?_)))))
        (first | (go_at_call 9; (with_reducible refine Calls.mono (LI.out _ _) ?_); rintro e w5 ⟨b5, rfl, hb, hi, hc⟩; have I5 := Lib.hid hi; have C5 := Lib.hid hc; have z5 := hc.size; (try simp only [World.size_alloc, sz_drew] at z5 hb); clear hi hc) | (go_at_call 10; (with_reducible refine Calls.mono (lawop_any _ _ _ _ _ _) ?_); rintro e w6 ⟨rfl, hc⟩; have C6 := Lib.hid hc; have z6 := hc.size; (try simp only [World.size_alloc, sz_drew] at z6); clear hc) | ((refine step_appendR rfl _ _ 26 rfl W0.heap.size 41 _ 120 Tryd.underlying26 callInfo rfl (by decide) clC_len clC_one (.slice a D.length c) D rfl (SI.out.row.kept (S := []) (by (repeat (first | exact Chg.refl _ _ | (refine Chg.alloc ?_ _) | (refine Chg.drewN ?_ _) | (refine Chg.drew ?_) | (refine thenHid (by assumption) ?_)))) (by simp)) _ _ (wrC s b5 m f t _ _) _ 41 (0, 0) rfl (alloc_at (by first | rfl | simp only [World.size_alloc])) rfl (by have := DK.out; unfold maxLen; omega) (by have := DK.out; omega) (by have := SI.out.chg.size; simp only [World.size_alloc, sz_drew]; omega) ?_; intro g8 cap8 w8 hr8 hg8 ho8 hlt8; have hgc := Chg.ofRow hg8; rw [ob_eq] at hgc ho8; have CW8 := Lib.hid (row_chg SI.out (by (repeat (first | exact Chg.refl _ _ | (refine Chg.alloc ?_ _) | (refine Chg.drewN ?_ _) | (refine Chg.drew ?_) | (refine thenHid (by assumption) ?_)))) hgc); have HGC := Lib.hid hgc; have HR8 := Lib.hid hr8; have HO8 := Lib.hid ho8; clear hgc hr8 hg8 ho8)) | fail)
      all_goals (have SI8 := Lib.hid (uns_row SI.out (by (repeat (first | exact Chg.refl _ _ | (refine Chg.alloc ?_ _) | (refine Chg.drewN ?_ _) | (refine Chg.drew ?_) | (refine thenHid (by assumption) ?_)))) (by exact ⟨⟨one_rr (d := ⟨some ⟨b5, 0, none⟩, 1, [intC m]⟩) (by (repeat (first | exact alloc_at rfl | exact alloc_at (by simp only [World.size_alloc]) | (refine blk_alloc ?_) | (refine atHid (by assumption) ?_)))), fun d hd => by (simp [wrC] at hd; subst hd; exact InIs.kept I5.out (by (repeat (first | exact Chg.refl _ _ | (refine Chg.alloc ?_ _) | (refine Chg.drewN ?_ _) | (refine Chg.drew ?_) | (refine thenHid (by assumption) ?_)))))⟩, one_in (x := nullC) (by (repeat (first | exact alloc_at rfl | exact alloc_at (by simp only [World.size_alloc]) | (refine blk_alloc ?_) | (refine atHid (by assumption) ?_))))⟩) (on_three (fun p e => by (simp only [wrC, Option.some.injEq] at e; subst e; dsimp only; omega)) (fun d hd p e => by (simp [wrC] at hd; subst hd; simp only [Option.some.injEq] at e; subst e; dsimp only; omega)) (fun p e => by (simp only [wrC, Option.some.injEq] at e; subst e; dsimp only; omega))) HGC.out HR8.out HO8.out))
      all_goals go_wp2_with fail
      all_goals exact ⟨⟨k + 1, some ⟨g8, 0, none⟩, cap8, _, by rw [List.length_append]; rfl, by go_num, by omega, Lib.hid (by rw [List.length_append, DK.out]; rfl), SI8, Lib.hid (wrC_ok _ _ _ UL.out DK.out S1.out hm hf ht).1, Lib.hid (fun d hd => by
        rcases List.mem_append.1 hd with hd | hd
        · exact GD.out d hd
        · simp at hd; subst hd; exact (wrC_ok _ _ _ UL.out DK.out S1.out hm hf ht).2)⟩, by simp [intOf]; omega⟩
    · have hke : k = l0.length := by omega
      subst hke
      have hf := wf_u8 (H1.out.2 _ (List.mem_of_getElem? F1.out))
      have ht := wf_u8 (H2.out.2 _ (List.mem_of_getElem? T1.out))
      have V := Lib.hid (fun w' (hc : Chg [] W0 w') => show w'.cell? ⟨bn, l0.length, none⟩ = some (.string s) ∧ w'.cell? ⟨bf, l0.length, none⟩ = some (.int .u8 f) ∧ w'.cell? ⟨bt, l0.length, none⟩ = some (.int .u8 t) from by
        obtain ⟨f', t', s', e1, e2, e3, e4, e5, e6⟩ := HD.out w' hc l0.length (by omega)
        have := F1.out.symm.trans e1
        have := T1.out.symm.trans e2
        have := S1.out.symm.trans e3
        simp_all)
      have q2 : IntKind.i64.wrap f = f := IntWalk.i64_in _ (by omega)
      have q3 : IntKind.i64.wrap t = t := IntWalk.i64_in _ (by omega)
      have q4 : IntKind.i64.wrap (f + t) = f + t := IntWalk.i64_in _ (by omega)
      clear hkl hk
      go_upto_region 10 with fail
      go_region_held3 (fun w' => w'.cell? ⟨bn, l0.length, none⟩ = some (.string s) ∧ w'.cell? ⟨bf, l0.length, none⟩ = some (.int .u8 f) ∧ w'.cell? ⟨bt, l0.length, none⟩ = some (.int .u8 t))
        (first | exact V.out _ CW8.out | (refine V.out _ (Chg.thenSame SI.out.chg ?_); (repeat (first | exact Chg.refl _ _ | (refine Chg.alloc ?_ _) | (refine Chg.drewN ?_ _) | (refine Chg.drew ?_) | (refine thenHid (by assumption) ?_)))))
        (first | (go_at_call 9; (with_reducible refine Calls.mono (LI.out _ _) ?_); rintro e w5 ⟨b5, rfl, hb, hi, hc⟩; have I5 := Lib.hid hi; have C5 := Lib.hid hc; have z5 := hc.size; (try simp only [World.size_alloc, sz_drew] at z5 hb); clear hi hc) | (go_at_call 10; (with_reducible refine Calls.mono (lawop_any _ _ _ _ _ _) ?_); rintro e w6 ⟨rfl, hc⟩; have C6 := Lib.hid hc; have z6 := hc.size; (try simp only [World.size_alloc, sz_drew] at z6); clear hc) | ((refine step_appendR rfl _ _ 26 rfl W0.heap.size 41 _ 120 Tryd.underlying26 callInfo rfl (by decide) clC_len clC_one (.slice a D.length c) D rfl (SI.out.row.kept (S := []) (by (repeat (first | exact Chg.refl _ _ | (refine Chg.alloc ?_ _) | (refine Chg.drewN ?_ _) | (refine Chg.drew ?_) | (refine thenHid (by assumption) ?_)))) (by simp)) _ _ (rdC s f t b5) _ 41 (0, 0) rfl (alloc_at (by first | rfl | simp only [World.size_alloc])) rfl (by have := DK.out; unfold maxLen; omega) (by have := DK.out; omega) (by have := SI.out.chg.size; simp only [World.size_alloc, sz_drew]; omega) ?_; intro g8 cap8 w8 hr8 hg8 ho8 hlt8; have hgc := Chg.ofRow hg8; rw [ob_eq] at hgc ho8; have CW8 := Lib.hid (row_chg SI.out (by (repeat (first | exact Chg.refl _ _ | (refine Chg.alloc ?_ _) | (refine Chg.drewN ?_ _) | (refine Chg.drew ?_) | (refine thenHid (by assumption) ?_)))) hgc); have HGC := Lib.hid hgc; have HR8 := Lib.hid hr8; have HO8 := Lib.hid ho8; clear hgc hr8 hg8 ho8)) | fail)
      all_goals (have SI8 := Lib.hid (uns_row SI.out (by (repeat (first | exact Chg.refl _ _ | (refine Chg.alloc ?_ _) | (refine Chg.drewN ?_ _) | (refine Chg.drew ?_) | (refine thenHid (by assumption) ?_)))) (by exact ⟨⟨InIs.nilA, fun d hd => by (simp [rdC] at hd)⟩, InIs.kept I5.out (by (repeat (first | exact Chg.refl _ _ | (refine Chg.alloc ?_ _) | (refine Chg.drewN ?_ _) | (refine Chg.drew ?_) | (refine thenHid (by assumption) ?_))))⟩) (on_three (fun p e => by (simp only [rdC] at e; cases e)) (fun d hd p e => by (simp [rdC] at hd)) (fun p e => by (simp only [rdC, Option.some.injEq] at e; subst e; dsimp only; omega))) HGC.out HR8.out HO8.out))
      all_goals (obtain ⟨D8, hD8⟩ : ∃ D8, D8 = D ++ [rdC s f t b5] := ⟨_, rfl⟩)
      all_goals (rw [← hD8] at SI8; have hle : D.length + 1 = D8.length := by (rw [hD8, List.length_append]; rfl))
      all_goals (rw [hle]; have FZ := uns_fin UL.out DK.out hl8 S1.out hf ht hD8; have GD8 := Lib.hid (uns_good GD.out UL.out DK.out S1.out hf ht hD8); clear hD8 hle HR8 q2 q3 q4)
      all_goals go_wp2_with fail
      all_goals (refine (LI.out _ _).mono ?_; rintro e w9 ⟨b9, rfl, -, hi, hc⟩; have I9 := Lib.hid hi; have C9 := Lib.hid hc; clear hi hc)
      all_goals (have CW9 := Lib.hid (C0.out.thenSame (SI8.out.chg.thenSame C9.out)); have A := Lib.hid (lfind_any (ser_lin (SI8.out.keptN C9.out)) GD8.out I9.out (intC_goodL (n := 0) (by decide)) (HT.out.kept CW9.out)); rw [FZ] at A)
      all_goals go_wp2_with fail
      all_goals (refine A.out.mono ?_; rintro e w10 ⟨oa, oc, rfl, -, -, hc⟩; have AWD := Lib.hid (AW.out _ (CW9.out.thenSame hc)); have CW10 := Lib.hid (CW9.out.thenSame hc); clear hc)
      all_goals go_wp2_with (go_at_call 8; (with_reducible refine Calls.mono AWD.out ?_); rintro e w11 ⟨rfl, hc⟩; have CC := Lib.hid (CW10.out.thenSame hc); clear hc)
      all_goals go_ret
      all_goals exact ⟨rfl, CC.out⟩
end Go.Proofs.YtnhemokmgpelaaaDoor
