/- Chapter 52: the reference's Record. No condition. Chapter 52: UsagePlays: a ledger under any calls does as the reference. No condition. -/
import Derived.Test.YtehjalgogjkdlaaGreatDoorZ25
import Derived.Test.YtehjalgogjkdlaaGreatDoorZ17
import Derived.Test.YtehjalgogjkdlaaGreatDoorZ26
import Derived.Test.YtehjalgogjkdlaaGreatDoorZ27
namespace Go.Proofs.YtehjalgogjkdlaaGreatDoor
set_option linter.unusedVariables false
set_option linter.unusedSimpArgs false
open Go.RowKit
variable {w w' : World} {b : Nat} {v : Value} {s : Led}
theorem enInfo : (Tryz.prog.info? 110).map (fun i => (i.zero, i.size, i.bytes)) = some (some (.agg #[.string ⟨#[]⟩, .string ⟨#[]⟩, .string ⟨#[]⟩, .int .i64 0, .int .i64 0, .int .i64 0, .int .i64 0, .int .i64 0, .bool false, .int .i64 0]), 10, 104) := by kernel_rfl
def RRecPost (w : World) (b : Nat) (v : Value) (n : Int) (S : Led) (e : Ending) (w' : World) : Prop :=
  e = .returned (.int .i64 n) ∧ ∃ v', RIs w' b v' S ∧ (∀ g, v'.ownBlock = some g → v.ownBlock = some g ∨ w.heap.size ≤ g) ∧ Chg (b :: v.ownBlock.toList) w w'
theorem RRecPost.same (h : RIs w b v s) (hc : Chg [] w w') (n : Int) : RRecPost w b v n s (.returned (.int .i64 n)) w' := ⟨rfl, v, h.keptN hc, fun g hg => .inl hg, hc.mono (by simp)⟩
theorem find_at {l : List CR} {id : ByteArray} {k : Nat} (hk : k < l.length) (h : findC (l.take k) id = none) (he : l[k].r.id = id) : findC l id = some l[k] := by
  have e : l = l.take k ++ (l[k] :: l.drop (k + 1)) := by rw [← drop_step l k hk, List.take_append_drop]
  unfold findC at h ⊢
  generalize hc : l[k] = c at *
  rw [e, List.find?_append, h]
  simp [he]
theorem find_step {l : List CR} {id : ByteArray} {k : Nat} (hk : k < l.length) (h : findC (l.take k) id = none) (he : (l[k].r.id == id) = false) : findC (l.take (k + 1)) id = none := by
  unfold findC at h ⊢
  rw [List.take_succ_eq_append_getElem hk, List.find?_append, h]
  simp [he]
theorem rrec_fin {w7 w8 : World} {a : Option Addr} {cap g8 cap8 : Nat} {x : CR} {o : Obj} (HA : (Value.slice a s.l.length cap).ownBlock ≠ some b)
    (C7 : Chg [] w w7) (hb7 : w7.heap[b]? = some (.cells #[.int .i64 s.p, .slice a s.l.length cap] 108 (0, 0)))
    (hr8 : RowOf crC 10 w8 0 110 (.slice (some ⟨g8, 0, none⟩) (s.l.length + 1) cap8) (s.l ++ [x])) (hg8 : (w7.drew.alloc o).grownBy w8 (Value.slice a s.l.length cap).ownBlock)
    (ho8 : (Value.slice a s.l.length cap).ownBlock = some g8 ∨ g8 = (w7.drew.alloc o).heap.size) :
    RRecPost w b (.slice a s.l.length cap) 0 ⟨s.l ++ [x], s.p⟩ (.returned (.int .i64 0)) (w8.setCell ⟨b, 1, none⟩ (.slice (some ⟨g8, 0, none⟩) (s.l.length + 1) cap8)) := by
  have hca : Chg [] w7 (w7.drew.alloc o) := ((Chg.refl [] w7).drew).alloc o
  have hcr := Chg.ofRow hg8
  have hb8 := hcr.at (b := b) (by intro e; exact HA (by simpa using e)) (hca.at (by simp) hb7)
  have hgb : g8 ≠ b := by
    rintro rfl
    obtain ⟨cur, hh⟩ := row_block hr8 (g := g8) rfl
    rw [hb8] at hh; simp at hh
  have hst : Chg [b] w8 (w8.setCell ⟨b, 1, none⟩ (.slice (some ⟨g8, 0, none⟩) (s.l.length + 1) cap8)) := (Chg.refl _ _).setCell _ _ (by simp)
  refine ⟨rfl, .slice (some ⟨g8, 0, none⟩) (s.l.length + 1) cap8, ⟨blk_set hb8 1 _, hr8.kept hst (fun g hg => by cases hg; simpa using hgb)⟩, ?_, ?_⟩
  · intro g hg
    cases hg
    rcases ho8 with h | h
    · exact .inl h
    · right; show _ ≤ g8; rw [h]; exact Nat.le_trans C7.size hca.size
  · have h1 : Chg (b :: (Value.slice a s.l.length cap).ownBlock.toList) w (w7.drew.alloc o) := (C7.thenSame hca).mono (by simp)
    have h2 := h1.then hcr (by intro y hy _; simp at hy ⊢; exact .inr hy)
    exact h2.then hst (by intro y hy _; simp at hy; subst hy; simp)
set_option maxHeartbeats 16000000 in
set_option maxRecDepth 100000 in
theorem rrec_any (r : UR) (hg : r.good) (h : RIs w b v s) (hl : s.l.length ≤ 4000) : Calls Tryz.prog 44 #[.pointer (some ⟨b, 0, none⟩), urV r] w (RRecPost w b v (recE s r) (recS s r)) := by
  obtain ⟨a, cap, rfl⟩ := RowOf.shape h.2
  have HA := Lib.hid h.apart
  have hbx := Lib.hid (heap_alloc_new w (urO r))
  obtain ⟨W1, hW1⟩ : ∃ W1, W1 = w.alloc (urO r) := ⟨_, rfl⟩
  have hC0 := Lib.hid (show Chg [] w W1 by rw [hW1]; exact (Chg.refl _ _).alloc _)
  rw [← hW1] at hbx
  have k1 := blk_cell hbx.out
  unfold urO at hW1 hbx
  have HW1 := Lib.hid hW1
  have A1 := Lib.hid (fun w' => rcheck_any r hg w')
  unfold urV at A1
  have H := Lib.hid h
  have hL := fun w' (hc : Chg [] w w') => blk_cell (h.keptN hc).1
  have HL := Lib.hid hL
  have hcell : ∀ wr, Chg [] w wr → ∀ k (hk : k < s.l.length), ∃ g, a = some ⟨g, 0, none⟩ ∧ g < w.heap.size ∧ ∀ j, j < 10 → wr.cell? ⟨g, k * 10 + j, none⟩ = (crC s.l[k])[j]? := by
    intro wr hc k hk
    rcases RowOf.at (h.keptN hc).2 crLen with ⟨_, hl⟩ | ⟨g, cap', hv, _, _, hcell, _, _, hgl⟩
    · rw [hl] at hk; simp at hk
    · cases hv
      exact ⟨g, rfl, (h.2.block g rfl).2, fun j hj => hcell k hk j hj⟩
  have HCell := Lib.hid hcell
  obtain ⟨R, hR⟩ : ∃ R, R = recE s r := ⟨_, rfl⟩
  obtain ⟨S, hS⟩ : ∃ S, S = recS s r := ⟨_, rfl⟩
  rw [← hR, ← hS]
  unfold recE at hR
  unfold recS at hS
  generalize checkR r = E at *
  clear h hL hcell hW1 hg
  unfold urV
  by_cases hE : E = 0
  case neg =>
    rw [if_neg hE] at hR hS
    subst hR
    subst hS
    have hE' : (R == 0) = false := by simpa using hE
    go_enter Tryz.func44, Tryz.ntmps44
    go_wp2_with fail
    rw [← HW1.out]
    go_wp2_with fail
    refine (A1.out _).mono ?_; rintro e w2 ⟨rfl, hc2⟩
    have C2 := Lib.hid (hC0.out.thenSame hc2)
    clear hc2
    go_wp2_with fail
    go_ret
    exact RRecPost.same H.out C2.out _
  rw [if_pos hE] at hR hS
  subst hE
  have HR := Lib.hid hR
  have HS := Lib.hid hS
  clear hR hS
  go_enter Tryz.func44, Tryz.ntmps44
  go_wp2_with fail
  rw [← HW1.out]
  go_wp2_with fail
  refine (A1.out _).mono ?_; rintro e w2 ⟨rfl, hc2⟩
  have C2 := Lib.hid (hC0.out.thenSame hc2)
  have B2 := Lib.hid (hc2.at (by simp) hbx.out)
  clear hc2 k1
  go_wp2_with fail
  go_loopw [6] (fun i wr => ∃ k : Nat, i = .int .i64 k ∧ k ≤ s.l.length ∧ Hid (findC (s.l.take k) r.id = none) ∧ Hid (Chg [] w2 wr)) (fun i _ => s.l.length - (intOf i).toNat)
  case atStart => exact ⟨0, rfl, Nat.zero_le _, Lib.hid (by simp [findC]), Lib.hid (Chg.refl _ _)⟩
  case round =>
    obtain ⟨k, rfl, hkl, HF, D⟩ := hrel
    have D' := Lib.hid (C2.out.thenSame D.out)
    have cb := HL.out wr D'.out
    have Bx := Lib.hid (D.out.at (by simp) B2.out)
    have kx := blk_cell Bx.out
    by_cases hk : k < s.l.length
    · obtain ⟨g, rfl, hgl, hcells⟩ := HCell.out wr D'.out k hk
      have d0 := hcells 0 (by omega)
      have d1 := hcells 1 (by omega)
      have d2 := hcells 2 (by omega)
      have d3 := hcells 3 (by omega)
      have d4 := hcells 4 (by omega)
      have d5 := hcells 5 (by omega)
      have d6 := hcells 6 (by omega)
      have d7 := hcells 7 (by omega)
      have d8 := hcells 8 (by omega)
      have d9 := hcells 9 (by omega)
      have hf1 := @find_at s.l r.id k hk HF.out
      have hf2 := @find_step s.l r.id k hk HF.out
      generalize s.l[k] = c at *
      simp only [crC, List.getElem?_cons_zero, List.getElem?_cons_succ, Nat.add_zero] at d0 d1 d2 d3 d4 d5 d6 d7 d8 d9
      have hk0 : (0 : Int) ≤ (k : Int) := by omega
      have hk1 : (k : Int) < (s.l.length : Int) := by omega
      have hbe := beq_toListBytes c.r.id r.id
      rw [hbe] at hf2
      cases hq : c.r.id.toList == r.id.toList
      · have HF2 := Lib.hid (hf2 hq)
        clear hf1 hf2 hbe hcells
        go_wp2_with fail
        go_quiet (fail)
        go_wp2_with fail
        exact ⟨⟨k + 1, by go_num, by omega, HF2, Lib.hid (D.out.drewN nq)⟩, by simp [intOf]; omega⟩
      · rw [hq] at hbe
        have hf := hf1 (by simpa using hbe)
        have HN : Hid (R = if eqR c.r r = true then 0 else 19) := Lib.hid (by rw [HR.out, hf])
        have HSs : Hid (S = s) := Lib.hid (by rw [HS.out, hf])
        have Q := fun w' => eqlR c.r r w'
        unfold urV at Q
        generalize eqR c.r r = Eq at *
        clear hf1 hf2 hbe hf hcells HR HS
        cases Eq
        all_goals
          go_wp2_with fail
          go_quiet (fail)
          go_wp2_with fail
          go_quiet (fail)
          go_wp2_with fail
          go_ret
          rw [HN.out, HSs.out]
          exact RRecPost.same H.out ((D'.out.drewN _).drewN _) _
    · have hks : k = s.l.length := by omega
      subst hks
      have hf := HF.out
      rw [List.take_length] at hf
      rw [hf] at HR HS
      by_cases h4 : s.l.length = 4000
      · have HR' : Hid (R = 3) := Lib.hid (by have := HR.out; simpa [h4] using this)
        have HS' : Hid (S = s) := Lib.hid (by have := HS.out; simpa [h4] using this)
        have h4' : (s.l.length : Int) = 4000 := by omega
        clear hf HR HS
        go_wp2_with fail
        go_ret
        rw [HR'.out, HS'.out]
        exact RRecPost.same H.out D'.out _
      · have HR' : Hid (R = 0) := Lib.hid (by have := HR.out; simpa [h4] using this)
        have HS' : Hid (S = ⟨s.l ++ [⟨r, max r.per s.p⟩], s.p⟩) := Lib.hid (by have := HS.out; simpa [h4] using this)
        have h4' : (s.l.length : Int) < 4000 := by omega
        clear hf HR HS
        obtain ⟨M, hM⟩ : ∃ M, M = max r.per s.p := ⟨_, rfl⟩
        rw [← hM] at HS'
        have hcs : (r.per < s.p ∧ M = s.p) ∨ (s.p ≤ r.per ∧ M = r.per) := by omega
        have Hb7 := Lib.hid (H.out.keptN D'.out).1
        have Hr7 := Lib.hid (H.out.keptN D'.out).2
        have fb := blk_free Hb7.out
        have HRw := Lib.hid (fun o => RowOf.kept (S := []) Hr7.out (((Chg.refl [] wr).drew).alloc o) (by simp))
        have HB := Lib.hid (fun o => Chg.at (((Chg.refl [] wr).drew).alloc o) (by simp) Hb7.out)
        have hlt7 := lt_of_heap Hb7.out
        have hltx := lt_of_heap Bx.out
        clear hM
        rcases hcs with ⟨hm, rfl⟩ | ⟨hm, rfl⟩
        · go_wp2_with fail
          go_region_law (first
            | (refine step_appendR rfl _ _ 106 rfl 0 110 _ 104 Tryz.underlying106 enInfo rfl (by decide) crLen crOne (.slice a s.l.length cap) s.l rfl (HRw.out _) wr.heap.size 1 ⟨r, s.p⟩ _ 110 (0, 0) rfl (heap_alloc_new wr.drew _) rfl (by unfold maxLen; omega) (by omega) (Nat.zero_le _) ?_; intro g8 cap8 w8 hr8 hg8 ho8 hlt8; have hb8 := (Chg.ofRow hg8).at (b := b) (by intro e; exact HA.out (by simpa using e)) (HB.out _); have b8 := blk_cell hb8; have f8 := blk_free hb8; have Hb8 := Lib.hid hb8; have Hr8 := Lib.hid hr8; have Hg8 := Lib.hid hg8; have Ho8 := Lib.hid ho8; clear hr8 hg8 hb8 ho8)
            | fail)
          all_goals go_wp2_with fail
          all_goals go_ret
          all_goals rw [HR'.out, HS'.out]
          all_goals exact rrec_fin HA.out D'.out Hb7.out Hr8.out Hg8.out Ho8.out
        · go_wp2_with fail
          go_region_law (first
            | (refine step_appendR rfl _ _ 106 rfl 0 110 _ 104 Tryz.underlying106 enInfo rfl (by decide) crLen crOne (.slice a s.l.length cap) s.l rfl (HRw.out _) wr.heap.size 1 ⟨r, r.per⟩ _ 110 (0, 0) rfl (heap_alloc_new wr.drew _) rfl (by unfold maxLen; omega) (by omega) (Nat.zero_le _) ?_; intro g8 cap8 w8 hr8 hg8 ho8 hlt8; have hb8 := (Chg.ofRow hg8).at (b := b) (by intro e; exact HA.out (by simpa using e)) (HB.out _); have b8 := blk_cell hb8; have f8 := blk_free hb8; have Hb8 := Lib.hid hb8; have Hr8 := Lib.hid hr8; have Hg8 := Lib.hid hg8; have Ho8 := Lib.hid ho8; clear hr8 hg8 hb8 ho8)
            | fail)
          all_goals go_wp2_with fail
          all_goals go_ret
          all_goals rw [HR'.out, HS'.out]
          all_goals exact rrec_fin HA.out D'.out Hb7.out Hr8.out Hg8.out Ho8.out
end Go.Proofs.YtehjalgogjkdlaaGreatDoor

namespace Go.Proofs.YtehjalgogjkdlaaGreatDoor
set_option linter.unusedVariables false
set_option linter.unusedSimpArgs false
open Go.RowKit
theorem p_rrec {W w : World} {b : Nat} {s : Led} {K : List Nat → World → Prop} (sK : Side K) (h : Pair W w (JR b s) K) (r : UR) (hg : r.good) (hl : s.l.length ≤ 4000) : Calls Tryz.prog 44 #[.pointer (some ⟨b, 0, none⟩), urV r] w fun e w' => e = .returned (.int .i64 (recE s r)) ∧ Pair W w' (JR b (recS s r)) K := by
  obtain ⟨f, g, ⟨v, rfl, h1⟩, h2, h3, h4, h5, h6⟩ := h
  refine (rrec_any r hg h1 hl).mono ?_
  rintro e w' ⟨rfl, v', q1, q2, t2⟩
  have t3 : ∀ x ∈ b :: v'.ownBlock.toList, x ∈ b :: v.ownBlock.toList ∨ w.heap.size ≤ x := fun x hx => by
    rcases List.mem_cons.1 hx with rfl | hx
    · exact .inl (by simp)
    · rcases q2 x (by simpa using hx) with h | h
      · exact .inl (by simp [h])
      · exact .inr h
  refine ⟨rfl, b :: v'.ownBlock.toList, g, ⟨v', rfl, q1⟩, sK.kept h2 t2 (fun x hx hy => h5 x hy hx), ?_, h4, ?_, h6.then t2 (fun y hy hl => by have := h3 y hy; omega)⟩
  · intro x hx
    rcases t3 x hx with h | h
    · exact h3 x h
    · exact Nat.le_trans h6.size h
  · intro x hx hy
    rcases t3 x hx with h | h
    · exact h5 x h hy
    · have := sK.lt h2 x hy; omega
theorem p_rclose {W w : World} {b : Nat} {s : Led} {K : List Nat → World → Prop} (sK : Side K) (h : Pair W w (JR b s) K) (p : Int) : Calls Tryz.prog 46 #[.pointer (some ⟨b, 0, none⟩), .int .i64 p] w fun e w' => e = .returned (.int .i64 (closeE s p)) ∧ Pair W w' (JR b (closeS s p)) K := by
  obtain ⟨f, g, ⟨v, rfl, h1⟩, h2, h3, h4, h5, h6⟩ := h
  refine (rclose_any p h1).mono ?_
  rintro e w' ⟨rfl, q1, q2⟩
  have q2' := q2.mono (T := b :: v.ownBlock.toList) (fun x hx _ => by simp at hx; subst hx; simp)
  exact ⟨rfl, b :: v.ownBlock.toList, g, ⟨v, rfl, q1⟩, sK.kept h2 q2' (fun x hx hy => h5 x hy hx), h3, h4, h5, h6.then q2' (fun y hy hl => by have := h3 y hy; omega)⟩
theorem rnew_second {W w : World} {K : List Nat → World → Prop} (sK : Side K) (hK : Pair W w K NoSide) : Calls Tryz.prog 43 #[] w fun e w' => ∃ b, e = .returned (.pointer (some ⟨b, 0, none⟩)) ∧ Pair W w' (JR b ⟨[], 0⟩) K := by
  refine (rnew_any w).mono ?_
  rintro e w' ⟨b, rfl, h, h1, hc'⟩
  exact ⟨b, rfl, Pair.start sK hK ⟨_, ⟨_, rfl, h⟩, hc', fun x hx => by rcases List.mem_cons.1 hx with rfl | hx <;> first | assumption | simp [Value.ownBlock] at hx⟩⟩
theorem Pair.rled {W w : World} {b : Nat} {s : Led} {K : List Nat → World → Prop} (h : Pair W w (JR b s) K) : ∃ v, RIs w b v s := by
  obtain ⟨f, g, ⟨v, rfl, h1⟩, h2, h3, h4, h5, h6⟩ := h
  exact ⟨v, h1⟩
end Go.Proofs.YtehjalgogjkdlaaGreatDoor
