/- Chapter 30: example; streams side by side with other things; streams that New did not return. Condition: the table of Itoa lies as the program lays it. -/
import Derived.Test.YtmichbpfmachcaaDoorStmN
namespace Go.Proofs.YtmichbpfmachcaaDoor
set_option linter.unusedVariables false
set_option linter.unusedSimpArgs false
open Go.RowKit
variable {W w w' : World} {b n : Nat} {st : Stm} {K : List Nat → World → Prop}
theorem appR_ok (ho : st.ok n) (e : PEv) (hb : e.body.length ≤ 1048576) (now : Int) : (appR st e now).2.ok (n + 1) := by
  have hw : st.ok (n + 1) := ⟨ho.1, ho.2.1, ho.2.2.1, ho.2.2.2.1, ho.2.2.2.2.1, ho.2.2.2.2.2.1, fun d hd => by
    obtain ⟨u1, u2, u3, u4⟩ := ho.2.2.2.2.2.2 d hd
    exact ⟨u1, by push_cast; omega, u3, u4⟩⟩
  unfold appR
  split
  · exact hw
  split
  · exact hw
  split
  · exact hw
  split
  · exact hw
  split
  · exact hw
  · rename_i h1 h2 h3 h4 o d hd
    split
    · exact hw
    · rename_i hl
      obtain ⟨q1, q2, q3, q4, q5, q6, q7⟩ := hw
      obtain ⟨hx, hxd⟩ := List.getElem?_eq_some_iff.1 hd
      have hm := ho.2.2.2.2.2.2 d (hxd ▸ List.getElem_mem hx)
      refine ⟨by simpa using q1, by simpa using q2, q3, q4, by simp only; omega, by simp only; omega, fun d' hd' => ?_⟩
      rcases List.mem_or_eq_of_mem_set hd' with h | rfl
      · exact q7 d' h
      · refine ⟨hm.1, by simp only [List.length_append, List.length_singleton]; push_cast; have := hm.2.1; omega, by simp only [List.length_append, List.length_singleton]; have := hm.2.2.1; omega, fun r hr => ?_⟩
        rcases List.mem_append.1 hr with hr | hr
        · exact hm.2.2.2 r hr
        · simp at hr; subst hr; exact ⟨by simp only; omega, by simp only; omega, hb⟩
theorem trimR_ok (ho : st.ok n) (now : Int) : (trimR st now).2.ok n := by
  unfold trimR
  split
  · exact ho
  split
  · exact ho
  · obtain ⟨q1, q2, q3, q4, q5, q6, q7⟩ := ho
    refine ⟨by simpa using q1, by simpa using q2, q3, q4, by simp only; omega, by simp only; omega, fun d' hd' => ?_⟩
    obtain ⟨d, hd, rfl⟩ := List.mem_map.1 hd'
    obtain ⟨u1, u2, u3, u4⟩ := q7 d hd
    obtain ⟨v1, v2, v3⟩ := trimD_ok (keep := st.keep) (now := now) u1 u2 u3
    exact ⟨v1, v2, v3, fun r hr => u4 r (List.mem_of_mem_drop hr)⟩
theorem Stm.ok.mono {m : Nat} (ho : st.ok n) (h : n ≤ m) : st.ok m := ⟨ho.1, ho.2.1, ho.2.2.1, ho.2.2.2.1, ho.2.2.2.2.1, ho.2.2.2.2.2.1, fun d hd => by
  obtain ⟨u1, u2, u3, u4⟩ := ho.2.2.2.2.2.2 d hd
  exact ⟨u1, by omega, u3, u4⟩⟩
theorem pair_turned {st' : Stm} (sK : Side K) (h : Pair W w (JS b st) K) (ht : ∀ f, StmIs w b st f → (∀ x ∈ f, W.heap.size ≤ x) → Turned w w' b st' f) : Pair W w' (JS b st') K :=
  h.turn sK (fun f hf hW => ht f hf hW)
/-- Append beside other things; the event's body lies in old memory, or in memory newer than w0. -/
theorem p_append {w0 : World} (sK : Side K) (h : Pair W w0 (JS b st) K) (hc : Chg [] w0 w) (ho : st.ok n) (hn : n ≤ 1048575) (ht : TabW W) (e : Ev) (hi : InIs ceC 4 w e.ba e.bc e.p.body) (hg : e.p.good) (hd : ∀ x, e.ba = some x → 0 < e.p.body.length → x.block < W.heap.size ∨ w0.heap.size ≤ x.block) (now : Int) :
    Calls Tryd.prog 11 #[.pointer (some ⟨b, 0, none⟩), .agg (evC e).toArray, .int .i64 now] w fun x w' => x = .returned (.tuple #[.int .i64 (appR st e.p now).1.1, .int .i64 (appR st e.p now).1.2.1, .int .i64 (appR st e.p now).1.2.2]) ∧ Pair W w' (JS b (appR st e.p now).2) K := by
  obtain ⟨f, k, h1, h2, h3, h4, h5, h6⟩ := h
  have hlt := (stmSide b st).lt h1
  refine (append_any (StmIs.keptN h1 hc) ho hn e hi hg (ht.kept (h6.thenSame hc)) now (fun x hx hl hm => ?_)).mono ?_
  · have := h3 _ hm
    have := hlt _ hm
    rcases hd x hx hl with h | h <;> omega
  · rintro x w' ⟨rfl, f', q1, q2, q3⟩
    refine ⟨rfl, f', k, q1, sK.kept (sK.kept h2 hc (by simp)) q2 (fun x hx hy => h5 x hy hx), fun x hx => ?_, h4, fun x hx hy => ?_, (h6.thenSame hc).then q2 (fun y hy hl => by have := h3 y hy; omega)⟩
    · rcases q3 x hx with h | h
      · exact h3 x h
      · exact Nat.le_trans (Nat.le_trans h6.size hc.size) h
    · rcases q3 x hx with h | h
      · exact h5 x h hy
      · have := sK.lt h2 x hy; have := hc.size; omega
theorem p_trim (sK : Side K) (h : Pair W w (JS b st) K) (ho : st.ok n) (hn : n ≤ 1048575) (now : Int) :
    Calls Tryd.prog 20 #[.pointer (some ⟨b, 0, none⟩), .int .i64 now] w fun x w' => x = .returned (.int .i64 (trimR st now).1) ∧ Pair W w' (JS b (trimR st now).2) K := by
  obtain ⟨f, k, h1, h2, h3, h4, h5, h6⟩ := h
  refine (trim_any h1 ho hn now).mono ?_
  rintro x w' ⟨rfl, f', q1, q2, q3⟩
  refine ⟨rfl, f', k, q1, sK.kept h2 q2 (fun x hx hy => h5 x hy hx), fun x hx => ?_, h4, fun x hx hy => ?_, h6.then q2 (fun y hy hl => by have := h3 y hy; omega)⟩
  · rcases q3 x hx with h | h
    · exact h3 x h
    · exact Nat.le_trans h6.size h
  · rcases q3 x hx with h | h
    · exact h5 x h hy
    · have := sK.lt h2 x hy; omega
theorem p_is (h : Pair W w (JS b st) K) : ∃ f, StmIs w b st f := by obtain ⟨f, k, h1, -⟩ := h; exact ⟨f, h1⟩
/-- What only reads and makes. -/
theorem p_kept (sK : Side K) (h : Pair W w (JS b st) K) (hc : Chg [] w w') : Pair W w' (JS b st) K := Pair.keptN (stmSide b st) sK h hc
def nullC : Ce := ⟨1, 0, ⟨#[]⟩, 0⟩
def exP (id : ByteArray) : PEv := ⟨id, ⟨#[116]⟩, ⟨#[115]⟩, ⟨#[]⟩, 0, ⟨#[]⟩, [nullC]⟩
set_option maxRecDepth 100000 in
theorem example_any (id : ByteArray) (w : World) : Calls Tryd.prog 14 #[.string id] w fun x w' => ∃ e : Ev, x = .returned (.agg (evC e).toArray) ∧ e.p = exP id ∧ InIs ceC 4 w' e.ba e.bc e.p.body ∧ (∀ y, e.ba = some y → w.heap.size ≤ y.block) ∧ Chg [] w w' := by
  go_enter Tryd.func14, Tryd.ntmps14
  go_wp2_with fail
  have h2 := heap_alloc_new (w.alloc (evO ⟨exP id, some ⟨w.heap.size + 1, 0, none⟩, 1⟩)) (.cells #[.int .i64 1, .int .i64 0, .string ⟨#[]⟩, .int .i64 0] 66)
  rw [World.size_alloc] at h2
  have h1 := blk_alloc (o' := .cells #[.int .i64 1, .int .i64 0, .string ⟨#[]⟩, .int .i64 0] 66) (heap_alloc_new w (evO ⟨exP id, some ⟨w.heap.size + 1, 0, none⟩, 1⟩))
  have r1 := blk_cell h1
  refine bodyPost_ret (v := .agg (evC ⟨exP id, some ⟨w.heap.size + 1, 0, none⟩, 1⟩).toArray) ?_ rfl ⟨⟨exP id, some ⟨w.heap.size + 1, 0, none⟩, 1⟩, rfl, rfl, ?_, fun y hy => by cases hy; simp, ((Chg.refl _ _).alloc _).alloc _⟩
  · simp [results, Tryd.results14, go_sem, evC, exP, evO] at r1 ⊢
  · refine ⟨⟨rfl, fun k hk => ⟨w.heap.size + 1, 0, rfl, lt_of_heap h2, fun j hj => ?_⟩⟩, by simp [exP], by unfold maxLen; simp, fun h => by cases h⟩
    have hk0 : k = 0 := by simpa [exP] using hk
    subst hk0
    exact (blk_cell h2 _).trans (by simp [exP, nullC, ceC])
/-- A stream that New did not return: nil, or one without shards. -/
def NoStm (w : World) (p : Option Addr) : Prop := p = none ∨ ∃ b, p = some ⟨b, 0, none⟩ ∧ w.heap[b]? = some (.cells #[.int .i64 0, .int .i64 0, .slice none 0 0] 61 (0, 0))
theorem NoStm.kept {p : Option Addr} (h : NoStm w p) (hc : Chg [] w w') : NoStm w' p := by
  rcases h with h | ⟨b, h1, h2⟩
  · exact .inl h
  · exact .inr ⟨b, h1, hc.at (by simp) h2⟩
theorem no_made {p : Option Addr} (h : NoStm w p) : Calls Tryd.prog 25 #[.pointer p] w fun e w' => e = .returned (.bool false) ∧ w = w' := by
  rcases h with rfl | ⟨b, rfl, hb⟩
  · go_enter Tryd.func25, Tryd.ntmps25
    go_wp2
    go_ret
    exact ⟨rfl, rfl⟩
  · have c1 := blk_cell hb
    clear hb
    go_enter Tryd.func25, Tryd.ntmps25
    go_wp2
    go_ret
    exact ⟨rfl, rfl⟩
theorem no_find {p : Option Addr} (h : NoStm w p) (k : Int) : Calls Tryd.prog 29 #[.pointer p, .int .i64 k] w fun e w' => e = .returned (.tuple #[.pointer none, .int .i64 10]) ∧ w = w' := by
  have A := Lib.hid (no_made h)
  clear h
  go_enter Tryd.func29, Tryd.ntmps29
  go_wp2_with fail
  refine A.out.mono ?_; rintro e w1 ⟨rfl, rfl⟩
  go_wp2_with fail
  go_ret2
  exact ⟨rfl, rfl⟩
theorem no_first {p : Option Addr} (h : NoStm w p) (k : Int) : Calls Tryd.prog 21 #[.pointer p, .int .i64 k] w fun e w' => e = .returned (.tuple #[.int .i64 0, .int .i64 10]) ∧ w = w' := by
  have A := Lib.hid (no_find h k)
  clear h
  go_enter Tryd.func21, Tryd.ntmps21
  go_wp2_with fail
  refine A.out.mono ?_; rintro e w1 ⟨rfl, rfl⟩
  go_wp2_with fail
  go_ret2
  exact ⟨rfl, rfl⟩
theorem no_next {p : Option Addr} (h : NoStm w p) (k : Int) : Calls Tryd.prog 22 #[.pointer p, .int .i64 k] w fun e w' => e = .returned (.tuple #[.int .i64 0, .int .i64 10]) ∧ w = w' := by
  have A := Lib.hid (no_find h k)
  clear h
  go_enter Tryd.func22, Tryd.ntmps22
  go_wp2_with fail
  refine A.out.mono ?_; rintro e w1 ⟨rfl, rfl⟩
  go_wp2_with fail
  go_ret2
  exact ⟨rfl, rfl⟩
theorem no_read {p : Option Addr} (h : NoStm w p) (k m q : Int) : Calls Tryd.prog 12 #[.pointer p, .int .i64 k, .int .i64 m, .int .i64 q] w fun e w' => e = .returned (.tuple #[.slice none 0 0, .int .i64 10]) ∧ w = w' := by
  have A := Lib.hid (no_find h k)
  clear h
  go_enter Tryd.func12, Tryd.ntmps12
  go_wp2_with fail
  refine A.out.mono ?_; rintro e w1 ⟨rfl, rfl⟩
  go_wp2_with fail
  go_ret2
  exact ⟨rfl, rfl⟩
theorem no_shards {p : Option Addr} (h : NoStm w p) : Calls Tryd.prog 16 #[.pointer p] w fun e w' => e = .returned (.int .i64 0) ∧ w = w' := by
  have A := Lib.hid (no_made h)
  clear h
  go_enter Tryd.func16, Tryd.ntmps16
  go_wp2_with fail
  refine A.out.mono ?_; rintro e w1 ⟨rfl, rfl⟩
  go_wp2_with fail
  go_ret
  exact ⟨rfl, rfl⟩
theorem no_shard {p : Option Addr} (h : NoStm w p) (key : ByteArray) : Calls Tryd.prog 18 #[.pointer p, .string key] w fun e w' => e = .returned (.int .i64 (-1)) ∧ w = w' := by
  have A := Lib.hid (no_made h)
  clear h
  go_enter Tryd.func18, Tryd.ntmps18
  go_wp2_with fail
  refine A.out.mono ?_; rintro e w1 ⟨rfl, rfl⟩
  go_wp2_with fail
  go_ret
  exact ⟨rfl, rfl⟩
theorem no_append {p : Option Addr} (h : NoStm w p) (e : Ev) (now : Int) : Calls Tryd.prog 11 #[.pointer p, .agg (evC e).toArray, .int .i64 now] w fun x w' => x = .returned (.tuple #[.int .i64 0, .int .i64 0, .int .i64 10]) ∧ Chg [] w w' := by
  obtain ⟨W1, hW1⟩ : ∃ W1, W1 = w.alloc (evO e) := ⟨_, rfl⟩
  have C1 := Lib.hid (show Chg [] w W1 by rw [hW1]; exact (Chg.refl _ _).alloc _)
  have A := Lib.hid (no_made (h.kept C1.out))
  unfold evO at hW1
  simp only [evC]
  have HW1 := Lib.hid hW1
  clear h hW1
  go_enter Tryd.func11, Tryd.ntmps11
  go_wp2_with fail
  rw [← HW1.out]
  go_wp2_with fail
  refine A.out.mono ?_; rintro e1 w1 ⟨rfl, rfl⟩
  go_wp2_with fail
  go_ret3
  exact ⟨rfl, C1.out⟩
set_option maxHeartbeats 4000000 in
set_option maxRecDepth 100000 in
theorem no_trim {p : Option Addr} (h : NoStm w p) (now : Int) : Calls Tryd.prog 20 #[.pointer p, .int .i64 now] w fun x w' => x = .returned (.int .i64 0) ∧ Chg [] w w' := by
  obtain ⟨W1, hW1⟩ : ∃ W1, W1 = (w.alloc (.cells #[.pointer p] 28)).alloc (.cells #[.int .i64 now] 3) := ⟨_, rfl⟩
  have C1 := Lib.hid (show Chg [] w W1 by rw [hW1]; exact ((Chg.refl _ _).alloc _).alloc _)
  have B2 := Lib.hid (show W1.heap[w.heap.size]? = some (.cells #[.pointer p] 28 (0, 0)) by rw [hW1]; exact blk_alloc (heap_alloc_new _ _))
  have x2 := blk_cell B2.out
  have AM := Lib.hid (fun w' (hc : Chg [] W1 w') => no_made ((h.kept C1.out).kept hc))
  have HW1 := Lib.hid hW1
  clear hW1 h
  go_enter Tryd.func20, Tryd.ntmps20
  go_wp2_with fail
  rw [← HW1.out]
  go_quiet (exact Calls.quiet_of_same ((AM.out _ ((Chg.refl [] W1).drewN _)).mono (fun e w' h => ⟨h.1, h.2.symm⟩)))
  go_wp2_with fail
  go_ret
  exact ⟨rfl, C1.out.drewN _⟩
end Go.Proofs.YtmichbpfmachcaaDoor
