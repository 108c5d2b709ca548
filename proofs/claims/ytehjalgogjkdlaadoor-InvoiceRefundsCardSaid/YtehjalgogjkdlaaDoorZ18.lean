/- Chapter 52: the ledger's Record, of an identifier that is there. No condition. Over any program: an append at a step of a region that draws its order. No condition. Chapter 52: the ledger's Record, of a new identifier. No condition. -/
import Derived.Deep.AppendLies
import Derived.Deep.RegionHeld3
import Derived.Deep.RegionLaw
import Derived.Test.YtehjalgogjkdlaaDoorZ17
import Derived.Test.YtehjalgogjkdlaaDoorZ01
namespace Go.Proofs.YtehjalgogjkdlaaDoor
set_option linter.unusedVariables false
set_option linter.unusedSimpArgs false
open Go.RowKit
variable {w w' : World} {b mb : Nat} {v : Value} {s : Led}

theorem hit_run (h : LIs w b mb v s) (id : ByteArray) (k : ByteArray) (n : Int) (hl : lookL Prod.fst (idxFrom 0 s.l) id = some (k, n)) : (Instr.lookup 75 (.map (some mb)) (.string id) true).run Tryd.prog w = .ok (.tuple #[.int .i64 n, .bool true]) w := by
  rw [h.2.1.lookup Tryd.underlying75 Tryd.underlying9 (zeroI w) id true, hl]
  rfl
theorem miss_run (h : LIs w b mb v s) (id : ByteArray) (hl : lookL Prod.fst (idxFrom 0 s.l) id = none) : (Instr.lookup 75 (.map (some mb)) (.string id) true).run Tryd.prog w = .ok (.tuple #[.int .i64 0, .bool false]) w := by
  rw [h.2.1.lookup Tryd.underlying75 Tryd.underlying9 (zeroI w) id true, hl]
  rfl
set_option maxHeartbeats 8000000 in
set_option maxRecDepth 100000 in
theorem rec_known (r : UR) (hg : r.good) (h : LIs w b mb v s) (hn : (idB r.id && nameB r.tn && nameB r.fn) = true) (q1 : 0 ≤ r.per) (q2 : r.per ≤ 1073741824) (h4 : usB r.us = true) (c : CR) (hf : findC s.l r.id = some c) (hl : s.l.length ≤ 4000) : Calls Tryd.prog 18 #[.pointer (some ⟨b, 0, none⟩), urV r] w (RecPost w b mb v (if eqR c.r r = true then 0 else 19) s) := by
  obtain ⟨i, hi1, hi2⟩ := idx_some s.l 0 r.id c hf
  have Hl := Lib.hid hi1
  have hL := fun w' (hc : Chg [] w w') => blk_cell (h.keptN hc).1
  obtain ⟨hil, hie⟩ := List.getElem?_eq_some_iff.1 hi2
  obtain ⟨g, cap, rfl, hcells⟩ : ∃ g cap, v = .slice (some ⟨g, 0, none⟩) s.l.length cap ∧ ∀ w', Chg [] w w' → ∀ j, j < 10 → w'.cell? ⟨g, i * 10 + j, none⟩ = (crC c)[j]? := by
    rcases RowOf.at h.2.2 crLen with ⟨_, hl⟩ | ⟨g, cap', hv, hlc, hcm, hcell, _, _, hgl⟩
    · rw [hl] at hil; simp at hil
    · refine ⟨g, _, hv, fun w' hc j hj => ?_⟩
      have h9 := (h.keptN hc).2.2
      rw [hv] at h9
      rcases RowOf.at h9 crLen with ⟨h0, _⟩ | ⟨g', cap2, hv', _, _, hcell', _, _, _⟩
      · cases h0
      · cases hv'
        rw [← hie]
        exact hcell' i hil j hj
  have H := Lib.hid h
  have HL := Lib.hid hL
  have HC := Lib.hid hcells
  clear h hL hf hi1 hi2 hcells
  have hbx := Lib.hid (heap_alloc_new w (urO r))
  have hC0 := Lib.hid (show Chg [] w (w.alloc (urO r)) from (Chg.refl _ _).alloc _)
  obtain ⟨W1, hW1⟩ : ∃ W1, W1 = w.alloc (urO r) := ⟨_, rfl⟩
  have k1 := blk_cell hbx.out
  rw [← hW1] at hbx hC0 k1
  unfold urO at hW1 hbx
  have HW1 := Lib.hid hW1
  have A1 := Lib.hid (fun w' => ID_any r.id w' hg.1)
  have A2 := Lib.hid (fun w' => name_any r.tn w' hg.2.1)
  have A3 := Lib.hid (fun w' => name_any r.fn w' hg.2.2.1)
  have M1 := Lib.hid (fun w' (hc : Chg [] w w') => made_any (H.out.keptN hc))
  clear hW1
  have A4 := Lib.hid (fun w' => mvalid_any r.us w')
  unfold usV at A4
  simp only [Bool.and_eq_true] at hn
  obtain ⟨⟨h1, h2⟩, h3⟩ := hn
  obtain ⟨N, hN⟩ : ∃ N : Int, N = if eqR c.r r = true then 0 else 19 := ⟨_, rfl⟩
  rw [← hN]
  have Q := Lib.hid (fun w' => neqR c.r r w')
  unfold urV at Q
  clear hg
  unfold urV
  generalize eqR c.r r = E at *
  have HN := Lib.hid hN
  rw [Nat.zero_add] at Hl
  have hi0 : (0 : Int) ≤ (i : Int) := by omega
  have hi1 : (i : Int) < (s.l.length : Int) := by omega
  clear hN
  go_enter Tryd.func18, Tryd.ntmps18
  go_wp2_with (first | (rw [← HW1.out]; (go_at_call 34; (with_reducible refine (M1.out _ hC0.out).mono ?_); rintro e w1 ⟨rfl, rfl⟩)) | (go_at_call 35; (with_reducible refine (A1.out _).mono ?_); rw [h1]; rintro e w2 ⟨rfl, hc2⟩; have C2 := Lib.hid (hC0.out.thenSame (Chg.ofBelow hc2)); have B2 := Lib.hid ((Chg.ofBelow (S := []) hc2).at (by simp) hbx.out); have k2 := blk_cell B2.out; clear hc2) | (go_at_call 27; (with_reducible refine (A2.out _).mono ?_); rw [h2]; rintro e w3 ⟨rfl, hc3⟩; have C3 := Lib.hid (C2.out.thenSame hc3); have B3 := Lib.hid (hc3.at (by simp) B2.out); have k3 := blk_cell B3.out; clear hc3) | (go_at_call 27; (with_reducible refine (A3.out _).mono ?_); rw [h3]; rintro e w4 ⟨rfl, hc4⟩; have C4 := Lib.hid (C3.out.thenSame hc4); have B4 := Lib.hid (hc4.at (by simp) B3.out); have k4 := blk_cell B4.out; clear hc4) | (go_at_call 36; (with_reducible refine (A4.out _).mono ?_); rw [h4]; rintro e w5 ⟨rfl, hc5⟩; have C5 := Lib.hid (C4.out.thenSame hc5); have B5 := Lib.hid (hc5.at (by simp) B4.out); have k5 := blk_cell B5.out; have c5 := HL.out _ C5.out; have L5 := Lib.hid (H.out.keptN C5.out); clear k2 k3 k4 B2 B3 B4 C2 C3 C4; clear hc5) | fail)
  have lk5 := fun n => hit_run (L5.out.keptN ((Chg.refl [] _).drewN n)) r.id _ _ Hl.out
  go_wp2_with fail
  go_quiet (fail)
  clear lk5
  have C6 := Lib.hid (C5.out.drewN nq)
  have c0 := HC.out _ C5.out 0 (by omega)
  have c1 := HC.out _ C5.out 1 (by omega)
  have c2 := HC.out _ C5.out 2 (by omega)
  have c3 := HC.out _ C5.out 3 (by omega)
  have c4 := HC.out _ C5.out 4 (by omega)
  have c5' := HC.out _ C5.out 5 (by omega)
  have c6 := HC.out _ C5.out 6 (by omega)
  have c7 := HC.out _ C5.out 7 (by omega)
  have c8 := HC.out _ C5.out 8 (by omega)
  simp only [crC, List.getElem?_cons_zero, List.getElem?_cons_succ, Nat.add_zero] at c0 c1 c2 c3 c4 c5' c6 c7 c8
  have Q6 := Q.out
  cases E
  · go_wp2_with fail
    go_quiet (fail)
    go_wp2_with fail
    go_ret
    rw [HN.out]
    exact RecPost.same H.out (C6.out.drewN nq) _
  · go_wp2_with fail
    go_quiet (fail)
    go_wp2_with fail
    go_ret
    rw [HN.out]
    exact RecPost.same H.out (C6.out.drewN nq) _
end Go.Proofs.YtehjalgogjkdlaaDoor

namespace Go.Proofs.YtehjalgogjkdlaaDoor
set_option linter.unusedVariables false
set_option linter.unusedSimpArgs false
open Go.RowKit
section
variable {P : Program} {α : Type} {cf : α → List Value} {sz : Nat}
theorem step_appendR {w : World} {ops : Array Oper} {o : Oper} {a : Act} {K : Act → World → Prop} {Q : Exit → Act → World → Prop} {E : Prop} (hgd : o.guard = none) (s x : Operand) (t : TypeId)
    (ho : o.op = .call { callee := .builtin .append, args := #[s, x], argTypes := #[t, t] }) (base : Nat) (e : TypeId) (z : Value) (bytes : Nat) (ht : P.underlying t = some (.slice e)) (hi : (P.info? e).map (fun i => (i.zero, i.size, i.bytes)) = some (some z, sz, bytes))
    (hzs : z.cells.size = sz) (hsz : 0 < sz) (hc : ∀ x, (cf x).length = sz) (h1 : ∀ x, ∀ u ∈ cf x, u.oneCell' = true) (v : Value) (l : List α) (hs : a.eval s = v) (hown : RowOf cf sz w base e v l)
    (g c : Nat) (y : α) (cur : Array Value) (tt : TypeId) (fr : Nat × Nat) (hx : a.eval x = .slice (some ⟨g, 0, none⟩) 1 c) (hnew : w.heap[g]? = some (.cells cur tt fr)) (hcur : cur.toList = cf y) (h63 : l.length + 1 ≤ maxLen) (hbytes : (l.length + 1) * bytes ≤ 140737488355328) (hbase : base ≤ w.heap.size)
    (h : ∀ g' cap w', RowOf cf sz w' base e (.slice (some ⟨g', 0, none⟩) (l.length + 1) cap) (l ++ [y]) → w.grownBy w' v.ownBlock → (v.ownBlock = some g' ∨ g' = w.heap.size) → g' < w'.heap.size → K (a.put o.dst (.slice (some ⟨g', 0, none⟩) (l.length + 1) cap)) w') :
    if Region.wanted o (yielded ops a.tmps) = true then Oper.wp P o a w K Q else E := by
  obtain ⟨i, hi0, hz0, hz1, hz2⟩ := info_parts hi
  refine step_append_lies w hgd s x t ho base e i z sz bytes ht hi0 hz0 hz1 hz2 hzs hsz v l.length (l.flatMap cf) hs hown ⟨g, 0, none⟩ 1 c (cf y) hx (by rw [hc]; omega) ?_ (h1 y) (by omega) h63 hbytes hbase w.heap.size rfl ?_
  · intro j u hj
    have : (⟨g, 0, none⟩ : Addr).add j = ⟨g, j, none⟩ := by
      unfold Addr.add; split
      · rename_i e; rw [e]
      · simp
    rw [this, blk_cell hnew, ← Array.getElem?_toList, hcur]; exact hj
  · intro g' cap w' hown' hg hat hlt
    exact h g' cap w' (by unfold RowOf; simpa using hown') hg hat hlt
end
end Go.Proofs.YtehjalgogjkdlaaDoor

namespace Go.Proofs.YtehjalgogjkdlaaDoor
set_option linter.unusedVariables false
set_option linter.unusedSimpArgs false
open Go.RowKit
variable {w w' : World} {b mb : Nat} {v : Value} {s : Led}

set_option maxHeartbeats 8000000 in
set_option maxRecDepth 100000 in
theorem rec_full (r : UR) (hg : r.good) (h : LIs w b mb v s) (hn : (idB r.id && nameB r.tn && nameB r.fn) = true) (q1 : 0 ≤ r.per) (q2 : r.per ≤ 1073741824) (h4 : usB r.us = true) (hf : findC s.l r.id = none) (hl : s.l.length = 4000) : Calls Tryd.prog 18 #[.pointer (some ⟨b, 0, none⟩), urV r] w (RecPost w b mb v 3 s) := by
  obtain ⟨a, cap, rfl⟩ := RowOf.shape h.2.2
  have Hl := Lib.hid (idx_none s.l 0 r.id hf)
  have hL := fun w' (hc : Chg [] w w') => blk_cell (h.keptN hc).1
  have H := Lib.hid h
  have HL := Lib.hid hL
  clear h hL hf
  have hbx := Lib.hid (heap_alloc_new w (urO r))
  have hC0 := Lib.hid (show Chg [] w (w.alloc (urO r)) from (Chg.refl _ _).alloc _)
  obtain ⟨W1, hW1⟩ : ∃ W1, W1 = w.alloc (urO r) := ⟨_, rfl⟩
  have k1 := blk_cell hbx.out
  rw [← hW1] at hbx hC0 k1
  unfold urO at hW1 hbx
  have HW1 := Lib.hid hW1
  have A1 := Lib.hid (fun w' => ID_any r.id w' hg.1)
  have A2 := Lib.hid (fun w' => name_any r.tn w' hg.2.1)
  have A3 := Lib.hid (fun w' => name_any r.fn w' hg.2.2.1)
  have M1 := Lib.hid (fun w' (hc : Chg [] w w') => made_any (H.out.keptN hc))
  clear hW1
  have A4 := Lib.hid (fun w' => mvalid_any r.us w')
  unfold usV at A4
  simp only [Bool.and_eq_true] at hn
  obtain ⟨⟨h1, h2⟩, h3⟩ := hn
  clear hg
  unfold urV
  have hl0 : (s.l.length : Int) = 4000 := by omega
  go_enter Tryd.func18, Tryd.ntmps18
  go_wp2_with (first | (rw [← HW1.out]; (go_at_call 34; (with_reducible refine (M1.out _ hC0.out).mono ?_); rintro e w1 ⟨rfl, rfl⟩)) | (go_at_call 35; (with_reducible refine (A1.out _).mono ?_); rw [h1]; rintro e w2 ⟨rfl, hc2⟩; have C2 := Lib.hid (hC0.out.thenSame (Chg.ofBelow hc2)); have B2 := Lib.hid ((Chg.ofBelow (S := []) hc2).at (by simp) hbx.out); have k2 := blk_cell B2.out; clear hc2) | (go_at_call 27; (with_reducible refine (A2.out _).mono ?_); rw [h2]; rintro e w3 ⟨rfl, hc3⟩; have C3 := Lib.hid (C2.out.thenSame hc3); have B3 := Lib.hid (hc3.at (by simp) B2.out); have k3 := blk_cell B3.out; clear hc3) | (go_at_call 27; (with_reducible refine (A3.out _).mono ?_); rw [h3]; rintro e w4 ⟨rfl, hc4⟩; have C4 := Lib.hid (C3.out.thenSame hc4); have B4 := Lib.hid (hc4.at (by simp) B3.out); have k4 := blk_cell B4.out; clear hc4) | (go_at_call 36; (with_reducible refine (A4.out _).mono ?_); rw [h4]; rintro e w5 ⟨rfl, hc5⟩; have C5 := Lib.hid (C4.out.thenSame hc5); have B5 := Lib.hid (hc5.at (by simp) B4.out); have k5 := blk_cell B5.out; have c5 := HL.out _ C5.out; have L5 := Lib.hid (H.out.keptN C5.out); clear k2 k3 k4 B2 B3 B4 C2 C3 C4; clear hc5) | fail)
  have lk5 := fun n => miss_run (L5.out.keptN ((Chg.refl [] _).drewN n)) r.id Hl.out
  go_wp2_with fail
  go_quiet (fail)
  clear lk5
  have C6 := Lib.hid (C5.out.drewN nq)
  go_wp2_with fail
  go_ret
  exact RecPost.same H.out C6.out _
theorem rec_fin {w7 w8 : World} {a : Option Addr} {cap g8 cap8 : Nat} {x : CR} {o : Obj} (HA : b ≠ mb ∧ (Value.slice a s.l.length cap).ownBlock ≠ some b ∧ (Value.slice a s.l.length cap).ownBlock ≠ some mb)
    (C7 : Chg [mb] w w7) (hb7 : w7.heap[b]? = some (.cells #[.slice a s.l.length cap, .map (some mb), .int .i64 s.p] 78 (0, 0))) (hm7 : MapIs Prod.fst plV w7 mb (idxFrom 0 (s.l ++ [x])))
    (hr8 : RowOf crC 10 w8 0 82 (.slice (some ⟨g8, 0, none⟩) (s.l.length + 1) cap8) (s.l ++ [x])) (hg8 : (w7.drew.alloc o).grownBy w8 (Value.slice a s.l.length cap).ownBlock)
    (ho8 : (Value.slice a s.l.length cap).ownBlock = some g8 ∨ g8 = (w7.drew.alloc o).heap.size) :
    RecPost w b mb (.slice a s.l.length cap) 0 ⟨s.l ++ [x], s.p⟩ (.returned (.int .i64 0)) (w8.setCell ⟨b, 0, none⟩ (.slice (some ⟨g8, 0, none⟩) (s.l.length + 1) cap8)) := by
  have hca : Chg [] w7 (w7.drew.alloc o) := ((Chg.refl [] w7).drew).alloc o
  have hcr := Chg.ofRow hg8
  have hb8 := hcr.at (b := b) (by intro e; exact HA.2.1 (by simpa using e)) (hca.at (by simp) hb7)
  have hm8 := (hm7.kept hca (by simp)).kept hcr (by intro e; exact HA.2.2 (by simpa using e))
  have hgb : g8 ≠ b := by
    rintro rfl
    obtain ⟨cur, hh⟩ := row_block hr8 (g := g8) rfl
    rw [hb8] at hh; simp at hh
  have hst : Chg [b] w8 (w8.setCell ⟨b, 0, none⟩ (.slice (some ⟨g8, 0, none⟩) (s.l.length + 1) cap8)) := (Chg.refl _ _).setCell _ _ (by simp)
  refine ⟨rfl, .slice (some ⟨g8, 0, none⟩) (s.l.length + 1) cap8, ⟨blk_set hb8 0 _, hm8.kept hst (by simpa using fun e => HA.1 e.symm), hr8.kept hst (fun g hg => by cases hg; simpa using hgb)⟩, ?_, ?_⟩
  · intro g hg
    cases hg
    rcases ho8 with h | h
    · exact .inl h
    · right; show _ ≤ g8; rw [h]; exact Nat.le_trans C7.size hca.size
  · have h1 : Chg (lfp b mb (.slice a s.l.length cap)) w (w7.drew.alloc o) := (C7.mono (T := lfp b mb (.slice a s.l.length cap)) (by intro y hy _; simp at hy; subst hy; exact mem_lfp.2 (.inr (.inl rfl)))).then hca (by simp)
    have h2 := h1.then hcr (by intro y hy _; exact mem_lfp.2 (.inr (.inr (by simpa using hy))))
    exact h2.then hst (by intro y hy _; simp at hy; subst hy; exact mem_lfp.2 (.inl rfl))
end Go.Proofs.YtehjalgogjkdlaaDoor
