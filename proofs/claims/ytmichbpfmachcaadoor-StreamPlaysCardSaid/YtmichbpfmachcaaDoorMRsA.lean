/- Chapter 30: contracts: the reference's optional and Check of events. Condition: the table of Itoa lies as the program lays it. Chapter 30: the reference's stream: what lies where; New, Shard, First, Next. No condition. Chapter 30: the reference's Append: the region that appends the record. Condition: what lies where. Chapter 30: contract of the reference's Append. Condition: the table of Itoa lies as the program lays it. -/
import Derived.Test.YtmichbpfmachcaaDoorMRvF
import Derived.Test.YtmichbpfmachcaaDoorRId
import Derived.Test.YtmichbpfmachcaaDoorStmB
import Derived.Test.YtmichbpfmachcaaDoorMStmY
namespace Go.Proofs.YtmichbpfmachcaaDoor
set_option linter.unusedVariables false
set_option linter.unusedSimpArgs false
open Go.RowKit
theorem optional_any (s : ByteArray) (w : World) (hs : s.size ≤ maxLen) : Calls Tryd.prog 50 #[.string s] w fun e w' => e = .returned (.bool (s.toList.isEmpty || idB s)) ∧ w = w' := by
  have A := Lib.hid (RID_any s w hs)
  generalize idB s = q at *
  cases hz : s.toList.isEmpty
  · have hz' : ¬ (s.toList = []) := by simpa using hz
    go_enter Tryd.func50, Tryd.ntmps50
    go_wp2_with fail
    refine A.out.mono ?_; rintro e w1 ⟨rfl, rfl⟩
    go_wp2_with fail
    go_ret
    exact ⟨by simp, rfl⟩
  · have hz' : s.toList = [] := by simpa using hz
    go_enter Tryd.func50, Tryd.ntmps50
    go_wp2_with fail
    go_ret
    exact ⟨rfl, rfl⟩
set_option maxHeartbeats 4000000 in
set_option maxRecDepth 100000 in
theorem recheck_any (e : Ev) (w : World) (hi : InIs ceC 4 w e.ba e.bc e.p.body) (hg : e.p.good) (ht : TabW w) :
    Calls Tryd.prog 43 #[.agg (evC e).toArray] w fun x w' => x = .returned (.int .i64 (evZ e.p)) ∧ Chg [] w w' := by
  obtain ⟨⟨id, tn, src, key, at_, cause, body⟩, ba, bc⟩ := e
  obtain ⟨R, hR⟩ : ∃ R, R = evZ ⟨id, tn, src, key, at_, cause, body⟩ := ⟨_, rfl⟩
  rw [← hR]
  simp only [evZ, namesB] at hR
  obtain ⟨g1, g2, g3, g4, g5, g6, g7⟩ := hg
  simp only at g1 g2 g3 g4 g5 g6 g7 hi
  have A1 := Lib.hid (fun w' => RID_any id w' g1)
  have A2 := Lib.hid (fun w' => RID_any tn w' g2)
  have A3 := Lib.hid (fun w' => RID_any src w' g3)
  have A4 := Lib.hid (fun w' => optional_any key w' g4)
  have A5 := Lib.hid (fun w' => optional_any cause w' g5)
  have A6 := Lib.hid (fun w' (hc : Chg [] w w') => rcheck_any ba bc body w' (hi.1.kept hc) g6 g7 (ht.kept hc))
  simp only [evC]
  obtain ⟨W1, hW1⟩ : ∃ W1, W1 = w.alloc (.cells #[.string id, .string tn, .string src, .string key, .int .i64 at_, .string cause, .slice ba body.length bc] 25) := ⟨_, rfl⟩
  have C := Lib.hid (show Chg [] w W1 by rw [hW1]; exact (Chg.refl _ _).alloc _)
  have B := Lib.hid (show W1.heap[w.heap.size]? = some (.cells #[.string id, .string tn, .string src, .string key, .int .i64 at_, .string cause, .slice ba body.length bc] 25 (0, 0)) by rw [hW1]; exact heap_alloc_new _ _)
  have k := blk_cell B.out
  have HW1 := Lib.hid hW1
  clear hW1 g1 g2 g3 g4 g5 g6 g7 hi ht
  generalize idB id = q1 at *
  generalize idB tn = q2 at *
  generalize idB src = q3 at *
  generalize (key.toList.isEmpty || idB key) = q4 at *
  generalize (cause.toList.isEmpty || idB cause) = q5 at *
  cases q1
  · have HF := Lib.hid (hR.trans (if_pos rfl))
    clear hR
    go_enter Tryd.func43, Tryd.ntmps43
    go_wp2_with fail
    rw [← HW1.out]
    go_wp2_with (first | (go_at_call 49; (first | (with_reducible refine (A1.out _).mono ?_) | (with_reducible refine (A2.out _).mono ?_) | (with_reducible refine (A3.out _).mono ?_)); rintro e wn ⟨rfl, rfl⟩) | (go_at_call 50; (first | (with_reducible refine (A4.out _).mono ?_) | (with_reducible refine (A5.out _).mono ?_)); rintro e wn ⟨rfl, rfl⟩) | (go_at_call 51; refine (A6.out _ C.out).mono ?_; rintro e wn ⟨rfl, hcn⟩; have C := Lib.hid (C.out.thenSame hcn); clear hcn))
    go_ret
    exact ⟨retI HF.out.symm, C.out⟩
  cases q2
  · have HF := Lib.hid (hR.trans (if_pos rfl))
    clear hR
    go_enter Tryd.func43, Tryd.ntmps43
    go_wp2_with fail
    rw [← HW1.out]
    go_wp2_with (first | (go_at_call 49; (first | (with_reducible refine (A1.out _).mono ?_) | (with_reducible refine (A2.out _).mono ?_) | (with_reducible refine (A3.out _).mono ?_)); rintro e wn ⟨rfl, rfl⟩) | (go_at_call 50; (first | (with_reducible refine (A4.out _).mono ?_) | (with_reducible refine (A5.out _).mono ?_)); rintro e wn ⟨rfl, rfl⟩) | (go_at_call 51; refine (A6.out _ C.out).mono ?_; rintro e wn ⟨rfl, hcn⟩; have C := Lib.hid (C.out.thenSame hcn); clear hcn))
    go_ret
    exact ⟨retI HF.out.symm, C.out⟩
  cases q3
  · have HF := Lib.hid (hR.trans (if_pos rfl))
    clear hR
    go_enter Tryd.func43, Tryd.ntmps43
    go_wp2_with fail
    rw [← HW1.out]
    go_wp2_with (first | (go_at_call 49; (first | (with_reducible refine (A1.out _).mono ?_) | (with_reducible refine (A2.out _).mono ?_) | (with_reducible refine (A3.out _).mono ?_)); rintro e wn ⟨rfl, rfl⟩) | (go_at_call 50; (first | (with_reducible refine (A4.out _).mono ?_) | (with_reducible refine (A5.out _).mono ?_)); rintro e wn ⟨rfl, rfl⟩) | (go_at_call 51; refine (A6.out _ C.out).mono ?_; rintro e wn ⟨rfl, hcn⟩; have C := Lib.hid (C.out.thenSame hcn); clear hcn))
    go_ret
    exact ⟨retI HF.out.symm, C.out⟩
  cases q4
  · have HF := Lib.hid (hR.trans (if_pos rfl))
    clear hR
    go_enter Tryd.func43, Tryd.ntmps43
    go_wp2_with fail
    rw [← HW1.out]
    go_wp2_with (first | (go_at_call 49; (first | (with_reducible refine (A1.out _).mono ?_) | (with_reducible refine (A2.out _).mono ?_) | (with_reducible refine (A3.out _).mono ?_)); rintro e wn ⟨rfl, rfl⟩) | (go_at_call 50; (first | (with_reducible refine (A4.out _).mono ?_) | (with_reducible refine (A5.out _).mono ?_)); rintro e wn ⟨rfl, rfl⟩) | (go_at_call 51; refine (A6.out _ C.out).mono ?_; rintro e wn ⟨rfl, hcn⟩; have C := Lib.hid (C.out.thenSame hcn); clear hcn))
    go_ret
    exact ⟨retI HF.out.symm, C.out⟩
  cases q5
  · have HF := Lib.hid (hR.trans (if_pos rfl))
    clear hR
    go_enter Tryd.func43, Tryd.ntmps43
    go_wp2_with fail
    rw [← HW1.out]
    go_wp2_with (first | (go_at_call 49; (first | (with_reducible refine (A1.out _).mono ?_) | (with_reducible refine (A2.out _).mono ?_) | (with_reducible refine (A3.out _).mono ?_)); rintro e wn ⟨rfl, rfl⟩) | (go_at_call 50; (first | (with_reducible refine (A4.out _).mono ?_) | (with_reducible refine (A5.out _).mono ?_)); rintro e wn ⟨rfl, rfl⟩) | (go_at_call 51; refine (A6.out _ C.out).mono ?_; rintro e wn ⟨rfl, hcn⟩; have C := Lib.hid (C.out.thenSame hcn); clear hcn))
    go_ret
    exact ⟨retI HF.out.symm, C.out⟩
  rw [if_neg (by simp)] at hR
  by_cases h1 : at_ < 0
  · have HF := Lib.hid (hR.trans (if_pos h1))
    clear hR
    go_enter Tryd.func43, Tryd.ntmps43
    go_wp2_with fail
    rw [← HW1.out]
    go_wp2_with (first | (go_at_call 49; (first | (with_reducible refine (A1.out _).mono ?_) | (with_reducible refine (A2.out _).mono ?_) | (with_reducible refine (A3.out _).mono ?_)); rintro e wn ⟨rfl, rfl⟩) | (go_at_call 50; (first | (with_reducible refine (A4.out _).mono ?_) | (with_reducible refine (A5.out _).mono ?_)); rintro e wn ⟨rfl, rfl⟩) | (go_at_call 51; refine (A6.out _ C.out).mono ?_; rintro e wn ⟨rfl, hcn⟩; have C := Lib.hid (C.out.thenSame hcn); clear hcn))
    go_ret
    exact ⟨retI HF.out.symm, C.out⟩
  rw [if_neg h1] at hR
  by_cases h2 : 1073741824 < at_
  · have HF := Lib.hid (hR.trans (if_pos h2))
    clear hR
    go_enter Tryd.func43, Tryd.ntmps43
    go_wp2_with fail
    rw [← HW1.out]
    go_wp2_with (first | (go_at_call 49; (first | (with_reducible refine (A1.out _).mono ?_) | (with_reducible refine (A2.out _).mono ?_) | (with_reducible refine (A3.out _).mono ?_)); rintro e wn ⟨rfl, rfl⟩) | (go_at_call 50; (first | (with_reducible refine (A4.out _).mono ?_) | (with_reducible refine (A5.out _).mono ?_)); rintro e wn ⟨rfl, rfl⟩) | (go_at_call 51; refine (A6.out _ C.out).mono ?_; rintro e wn ⟨rfl, hcn⟩; have C := Lib.hid (C.out.thenSame hcn); clear hcn))
    go_ret
    exact ⟨retI HF.out.symm, C.out⟩
  have HF := Lib.hid (hR.trans (if_neg h2))
  clear hR
  go_enter Tryd.func43, Tryd.ntmps43
  go_wp2_with fail
  rw [← HW1.out]
  go_wp2_with (first | (go_at_call 49; (first | (with_reducible refine (A1.out _).mono ?_) | (with_reducible refine (A2.out _).mono ?_) | (with_reducible refine (A3.out _).mono ?_)); rintro e wn ⟨rfl, rfl⟩) | (go_at_call 50; (first | (with_reducible refine (A4.out _).mono ?_) | (with_reducible refine (A5.out _).mono ?_)); rintro e wn ⟨rfl, rfl⟩) | (go_at_call 51; refine (A6.out _ C.out).mono ?_; rintro e wn ⟨rfl, hcn⟩; have C := Lib.hid (C.out.thenSame hcn); clear hcn))
  go_ret
  exact ⟨retI HF.out.symm, C.out⟩
end Go.Proofs.YtmichbpfmachcaaDoor
namespace Go.Proofs.YtmichbpfmachcaaDoor
set_option linter.unusedVariables false
set_option linter.unusedSimpArgs false
open Go.RowKit
/-- A shard of the reference, with the place of its records. -/
structure Sr where
  a : Option Addr
  c : Nat
  L : List Rc
  next : Int
def Sr.v (d : Sr) : Value := .slice d.a d.L.length d.c
def srC (d : Sr) : List Value := [.slice d.a d.L.length d.c, .int .i64 d.next]
def Sr.p (d : Sr) : Shd := ⟨d.next - (d.L.length : Int), d.L.map Rc.p⟩
theorem srC_len (d : Sr) : (srC d).length = 2 := rfl
/-- The reference's stream at block b; the bodies of its records lie in W. -/
structure RAt (W w : World) (b g : Nat) (D : List Sr) (keep now : Int) (f : List Nat) : Prop where
  head : w.heap[b]? = some (.cells #[.int .i64 keep, .int .i64 now, .slice (some ⟨g, 0, none⟩) D.length D.length] 77 (0, 0))
  row : RowOf srC 2 w 0 87 (.slice (some ⟨g, 0, none⟩) D.length D.length) D
  recs : ∀ d ∈ D, RowOf rcC 10 w 0 55 d.v d.L
  apart : D.Pairwise (fun d d' => ∀ x, d.v.ownBlock = some x → d'.v.ownBlock ≠ some x)
  inb : b ∈ f
  ing : g ∈ f
  inr : ∀ d ∈ D, ∀ x, d.v.ownBlock = some x → x ∈ f
  body : ∀ d ∈ D, ∀ r ∈ d.L, InIs ceC 4 W r.e.ba r.e.bc r.e.p.body
  lt : ∀ x ∈ f, x < w.heap.size
def RIs (W w : World) (b : Nat) (st : Stm) (f : List Nat) : Prop := ∃ g D, st.sh = D.map Sr.p ∧ RAt W w b g D st.keep st.now f
variable {W w w' : World} {b g n : Nat} {D : List Sr} {keep now : Int} {f S : List Nat} {st : Stm}
theorem RAt.kept (h : RAt W w b g D keep now f) (hc : Chg S w w') (hS : ∀ x ∈ f, x ∉ S) : RAt W w' b g D keep now f where
  head := hc.at (hS _ h.inb) h.head
  row := h.row.kept hc (fun y hy => by cases hy; exact hS _ h.ing)
  recs := fun d hd => (h.recs d hd).kept hc (fun y hy => hS _ (h.inr d hd y hy))
  apart := h.apart
  inb := h.inb
  ing := h.ing
  inr := h.inr
  body := h.body
  lt := fun x hx => hc.lt (h.lt x hx)
theorem RIs.kept (h : RIs W w b st f) (hc : Chg S w w') (hS : ∀ x ∈ f, x ∉ S) : RIs W w' b st f := by
  obtain ⟨g, D, h1, h2⟩ := h
  exact ⟨g, D, h1, h2.kept hc hS⟩
theorem RIs.keptN (h : RIs W w b st f) (hc : Chg [] w w') : RIs W w' b st f := h.kept hc (by simp)
/-- The reference's stream as a side. -/
def JRs (W : World) (b : Nat) (st : Stm) : List Nat → World → Prop := fun f w => RIs W w b st f
theorem rstmSide (W : World) (b : Nat) (st : Stm) : Side (JRs W b st) := ⟨fun h x hx => by obtain ⟨g, D, _, h⟩ := h; exact h.lt x hx, fun h hc hS => h.kept hc hS⟩
theorem RAt.rowAt (h : RAt W w b g D keep now f) : ∃ cur, w.heap[g]? = some (.cells cur 87 (0, 0)) := rowBlk h.row rfl
theorem RAt.bg (h : RAt W w b g D keep now f) : b ≠ g := by
  rintro rfl
  obtain ⟨cur, hg⟩ := h.rowAt
  rw [h.head] at hg
  simp at hg
theorem RAt.row_ne (h : RAt W w b g D keep now f) {d : Sr} (hd : d ∈ D) {x : Nat} (hx : d.v.ownBlock = some x) : x ≠ b ∧ x ≠ g := by
  obtain ⟨cur, hr⟩ := rowBlk (h.recs d hd) hx
  constructor
  · rintro rfl; rw [h.head] at hr; simp at hr
  · rintro rfl
    obtain ⟨cur', hg⟩ := h.rowAt
    rw [hr] at hg; simp at hg
theorem RAt.shard (h : RAt W w b g D keep now f) (k : Nat) (hk : k < D.length) : w.cell? ⟨g, k * 2, none⟩ = some (D[k]).v ∧ w.cell? ⟨g, k * 2 + 1, none⟩ = some (.int .i64 (D[k]).next) := by
  obtain ⟨-, -, -, h4, -⟩ := RowOf.atS h.row srC_len
  exact ⟨by have := h4 k hk 0 (by omega); simpa [srC, Sr.v] using this, by have := h4 k hk 1 (by omega); simpa [srC] using this⟩
/-- A change of the head. -/
theorem RAt.setHead (h : RAt W w b g D keep now f) (j : Nat) (u : Value) (keep' now' : Int) (hu : (#[Value.int .i64 keep, .int .i64 now, .slice (some ⟨g, 0, none⟩) D.length D.length] : Array Value).setIfInBounds j u = #[.int .i64 keep', .int .i64 now', .slice (some ⟨g, 0, none⟩) D.length D.length]) :
    RAt W (w.setCell ⟨b, j, none⟩ u) b g D keep' now' f := by
  have hc : Chg [b] w (w.setCell ⟨b, j, none⟩ u) := (Chg.refl _ _).setCell _ _ (by simp)
  refine ⟨?_, h.row.kept hc (fun y hy => by cases hy; simpa using Ne.symm h.bg), fun d hd => (h.recs d hd).kept hc (fun y hy => by simpa using (h.row_ne hd hy).1), h.apart, h.inb, h.ing, h.inr, h.body, fun x hx => hc.lt (h.lt x hx)⟩
  have := blk_set h.head j u
  rw [this, hu]
/-- Shard k is put anew. -/
theorem RAt.put {wz : World} (h : RAt W w b g D keep now f) (k : Nat) (hk : k < D.length) (d' : Sr) (hc : Chg (g :: (D[k]).v.ownBlock.toList) w wz)
    (hrow : RowOf srC 2 wz 0 87 (.slice (some ⟨g, 0, none⟩) D.length D.length) (D.set k d')) (hr : RowOf rcC 10 wz 0 55 d'.v d'.L) (hl : ∀ x, d'.v.ownBlock = some x → (D[k]).v.ownBlock = some x ∨ w.heap.size ≤ x)
    (hb : ∀ r ∈ d'.L, InIs ceC 4 W r.e.ba r.e.bc r.e.p.body) :
    ∃ f', RAt W wz b g (D.set k d') keep now f' ∧ ∀ x ∈ f', x ∈ f ∨ w.heap.size ≤ x := by
  have hmem : D[k] ∈ D := List.getElem_mem hk
  have hsub : ∀ x ∈ f, x ∈ f ++ d'.v.ownBlock.toList := fun x hx => List.mem_append_left _ hx
  have hnk : ∀ i (hi : i < D.length), i ≠ k → ∀ x, (D[i]).v.ownBlock = some x → x ∉ g :: (D[k]).v.ownBlock.toList := by
    intro i hi hik x hx hm
    rcases List.mem_cons.1 hm with rfl | hm
    · exact (h.row_ne (List.getElem_mem hi) hx).2 rfl
    · have hm' : (D[k]).v.ownBlock = some x := by simpa using hm
      have hp := List.pairwise_iff_getElem.1 h.apart
      rcases Nat.lt_or_ge i k with hlt | hge
      · exact hp i k hi hk hlt x hx hm'
      · exact hp k i hk hi (by omega) x hm' hx
  have hset : ∀ d ∈ D.set k d', d = d' ∨ ∃ i, ∃ hi : i < D.length, i ≠ k ∧ d = D[i] := by
    intro d hd
    obtain ⟨i, hi, rfl⟩ := List.mem_iff_getElem.1 hd
    rw [List.length_set] at hi
    rw [List.getElem_set]
    split
    · exact .inl rfl
    · rename_i hne
      exact .inr ⟨i, hi, fun e => hne e.symm, rfl⟩
  refine ⟨f ++ d'.v.ownBlock.toList, ⟨?_, ?_, ?_, ?_, hsub _ h.inb, hsub _ h.ing, ?_, ?_, ?_⟩, ?_⟩
  · rw [List.length_set]
    refine hc.at ?_ h.head
    intro hm
    rcases List.mem_cons.1 hm with e | hm
    · exact h.bg e
    · exact (h.row_ne hmem (by simpa using hm)).1 rfl
  · rw [List.length_set]; exact hrow
  · intro d hd
    rcases hset d hd with rfl | ⟨i, hi, hik, rfl⟩
    · exact hr
    · exact (h.recs _ (List.getElem_mem hi)).kept hc (fun y hy => hnk i hi hik y hy)
  · refine pairwise_set (fun a b hab x hx hy => hab x hy hx) h.apart k hk d' (fun i hi hik x hx hy => ?_)
    rcases hl x hx with h1 | h1
    · exact hnk i hi hik x hy (by simp [h1])
    · have := h.lt x (h.inr _ (List.getElem_mem hi) x hy)
      omega
  · intro d hd x hx
    rcases hset d hd with rfl | ⟨i, hi, hik, rfl⟩
    · exact List.mem_append_right _ (by simp [hx])
    · exact hsub _ (h.inr _ (List.getElem_mem hi) x hx)
  · intro d hd r hr'
    rcases hset d hd with rfl | ⟨i, hi, hik, rfl⟩
    · exact hb r hr'
    · exact h.body _ (List.getElem_mem hi) r hr'
  · intro x hx
    rcases List.mem_append.1 hx with hx | hx
    · exact hc.lt (h.lt x hx)
    · exact (hr.block x (by simpa using hx)).2
  · intro x hx
    rcases List.mem_append.1 hx with hx | hx
    · exact .inl hx
    · rcases hl x (by simpa using hx) with h1 | h1
      · exact .inl (h.inr _ hmem x h1)
      · exact .inr h1
theorem rshdInfo : (Tryd.prog.info? 87).map (fun i => (i.zero, i.size, i.bytes)) = some (some (.agg #[.slice none 0 0, .int .i64 0]), 2, 32) := by kernel_rfl
set_option maxRecDepth 100000 in
theorem rnew_ok (W : World) (n k : Int) (w : World) (h1 : 1 ≤ n) (h2 : n ≤ 8) (h3 : 1 ≤ k) (h4 : k ≤ 1073741824) :
    Calls Tryd.prog 15 #[.int .i64 n, .int .i64 k] w fun e w' => ∃ b f, e = .returned (.tuple #[.pointer (some ⟨b, 0, none⟩), .int .i64 0]) ∧ RIs W w' b (newS n k) f ∧ Chg [] w w' ∧ ∀ x ∈ f, w.heap.size ≤ x := by
  obtain ⟨m, rfl⟩ : ∃ m : Nat, n = m := ⟨n.toNat, by omega⟩
  go_enter Tryd.func15, Tryd.ntmps15
  go_wp2_with (at_make; refine wpl_make (cf := srC) rfl _ _ 75 rfl 0 87 _ 32 Tryd.underlying75 rshdInfo (⟨none, 0, [], 0⟩ : Sr) rfl rfl m rfl rfl (by omega) (by unfold maxLen; omega) (Nat.zero_le _) ?_; intro w1 hr hc hlt)
  go_ret2
  have hD : (List.replicate m (⟨none, 0, [], 0⟩ : Sr)).length = m := List.length_replicate
  have hm : ∀ d ∈ List.replicate m (⟨none, 0, [], 0⟩ : Sr), d = ⟨none, 0, [], 0⟩ := fun d hd => List.eq_of_mem_replicate hd
  have hcc : Chg [] w1 (w1.alloc (.cells #[.int .i64 k, .int .i64 0, .slice (some ⟨w.heap.size, 0, none⟩) m m] 77)) := (Chg.refl _ _).alloc _
  refine ⟨w1.heap.size, [w1.heap.size, w.heap.size], rfl, ⟨w.heap.size, List.replicate m ⟨none, 0, [], 0⟩, ?_, ?_⟩, hc.alloc _, ?_⟩
  · simp [newS, Sr.p]
  · refine ⟨?_, ?_, ?_, ?_, by simp, by simp, ?_, ?_, ?_⟩
    · rw [hD]; exact heap_alloc_new _ _
    · rw [hD]; exact hr.kept hcc (by simp)
    · intro d hd; rw [hm d hd]; exact RowOf.nil _ _ _
    · exact List.pairwise_replicate.2 (.inr (fun x hx => by cases hx))
    · intro d hd x hx; rw [hm d hd] at hx; cases hx
    · intro d hd r hr'; rw [hm d hd] at hr'; cases hr'
    · intro x hx
      simp only [List.mem_cons, List.not_mem_nil, or_false] at hx
      rw [World.size_alloc]
      rcases hx with rfl | rfl <;> omega
  · intro x hx
    simp only [List.mem_cons, List.not_mem_nil, or_false] at hx
    have := hc.size
    rcases hx with rfl | rfl <;> omega
theorem rnew_bad (n k : Int) (w : World) (h : n < 1 ∨ 8 < n ∨ k < 1 ∨ 1073741824 < k) :
    Calls Tryd.prog 15 #[.int .i64 n, .int .i64 k] w fun e w' => ∃ p, e = .returned (.tuple #[p, .int .i64 2]) ∧ Chg [] w w' := by
  by_cases h1 : n < 1
  · go_enter Tryd.func15, Tryd.ntmps15
    go_wp2
    go_ret2
    first | exact ⟨⟨_, rfl⟩, (Chg.refl _ _).alloc _⟩ | exact ⟨_, rfl, (Chg.refl _ _).alloc _⟩
  by_cases h2 : 8 < n
  · go_enter Tryd.func15, Tryd.ntmps15
    go_wp2
    go_ret2
    first | exact ⟨⟨_, rfl⟩, (Chg.refl _ _).alloc _⟩ | exact ⟨_, rfl, (Chg.refl _ _).alloc _⟩
  by_cases h3 : k < 1
  · go_enter Tryd.func15, Tryd.ntmps15
    go_wp2
    go_ret2
    first | exact ⟨⟨_, rfl⟩, (Chg.refl _ _).alloc _⟩ | exact ⟨_, rfl, (Chg.refl _ _).alloc _⟩
  have h4 : 1073741824 < k := by omega
  clear h
  go_enter Tryd.func15, Tryd.ntmps15
  go_wp2
  go_ret2
  first | exact ⟨⟨_, rfl⟩, (Chg.refl _ _).alloc _⟩ | exact ⟨_, rfl, (Chg.refl _ _).alloc _⟩
theorem rshard_any (key : ByteArray) (hk : key.size ≤ maxLen) (h : RIs W w b st f) (ho : st.ok n) : Calls Tryd.prog 19 #[.pointer (some ⟨b, 0, none⟩), .string key] w fun e w' => e = .returned (.int .i64 (bucketZ key (st.sh.length : Int))) ∧ w = w' := by
  have A2 := Lib.hid (rbucket_any key (st.sh.length : Int) w hk (by have := ho.1; omega) (by have := ho.2.1; omega))
  obtain ⟨g, D, h1, h2⟩ := h
  have c1 := blk_cell h2.head
  have hD : st.sh.length = D.length := by rw [h1, List.length_map]
  rw [hD] at A2 ⊢
  clear h1 h2 ho hD
  generalize bucketZ key (D.length : Int) = q at *
  generalize D.length = m at *
  go_enter Tryd.func19, Tryd.ntmps19
  go_wp2_with fail
  refine A2.out.mono ?_; rintro e w1 ⟨rfl, rfl⟩
  go_wp2_with fail
  go_ret
  exact ⟨rfl, rfl⟩
theorem rat_good (h : st.sh = D.map Sr.p) (k : Nat) (hk : k < D.length) : firstZ st k = ((D[k]).next - ((D[k]).L.length : Int), 0) ∧ nextZ st k = ((D[k]).next, 0) := by
  have : st.sh[k]? = some (D[k]).p := by rw [h, List.getElem?_map, List.getElem?_eq_getElem hk]; rfl
  unfold firstZ nextZ
  simp [this, Sr.p]
theorem rok_at (ho : st.ok n) (h : st.sh = D.map Sr.p) (k : Nat) (hk : k < D.length) : 0 ≤ (D[k]).next - ((D[k]).L.length : Int) ∧ (D[k]).next ≤ n ∧ (D[k]).L.length ≤ 256 := by
  obtain ⟨-, -, -, -, -, -, h7⟩ := ho
  have := h7 (D[k]).p (by rw [h]; exact List.mem_map.2 ⟨_, List.getElem_mem hk, rfl⟩)
  obtain ⟨q1, q2, q3, -⟩ := this
  simp only [Sr.p, List.length_map] at q1 q2 q3
  omega
theorem rfirst_any (k : Int) (h : RIs W w b st f) (ho : st.ok n) (hn : n ≤ 1048576) : Calls Tryd.prog 34 #[.pointer (some ⟨b, 0, none⟩), .int .i64 k] w fun e w' => e = .returned (.tuple #[.int .i64 (firstZ st k).1, .int .i64 (firstZ st k).2]) ∧ Chg [] w w' := by
  obtain ⟨g, D, h1, h2⟩ := h
  have c1 := blk_cell h2.head
  have hD : st.sh.length = D.length := by rw [h1, List.length_map]
  by_cases hk : k < 0 ∨ (st.sh.length : Int) ≤ k
  · rw [(at_bad k hk).1]
    rw [hD] at hk
    clear h1 h2 hD ho
    generalize D.length = m at *
    by_cases k0 : k < 0
    · clear hk
      go_enter Tryd.func34, Tryd.ntmps34
      go_wp2_with fail
      go_ret2
      exact ⟨rfl, Chg.refl _ _⟩
    · have hk' : (m : Int) ≤ k := by omega
      clear hk
      go_enter Tryd.func34, Tryd.ntmps34
      go_wp2_with fail
      go_ret2
      exact ⟨rfl, Chg.refl _ _⟩
  · obtain ⟨q, rfl⟩ : ∃ q : Nat, k = (q : Int) := ⟨k.toNat, by omega⟩
    have hq : q < D.length := by omega
    rw [(rat_good h1 q hq).1]
    obtain ⟨s1, s2⟩ := h2.shard q hq
    obtain ⟨o1, o2, o3⟩ := rok_at ho h1 q hq
    unfold Sr.v at s1
    have q0 : (0 : Int) ≤ (q : Int) := by omega
    have q1 : (q : Int) < (D.length : Int) := by omega
    generalize D[q] = d at *
    generalize D.length = m at *
    clear h1 h2 hD ho hk
    go_enter Tryd.func34, Tryd.ntmps34
    go_wp2_with (go_quiet (fail))
    go_ret2
    first | exact ⟨rfl, (Chg.refl _ _).drewN _⟩ | exact ⟨rfl, Chg.refl _ _⟩
theorem rnext_any (k : Int) (h : RIs W w b st f) (ho : st.ok n) (hn : n ≤ 1048576) : Calls Tryd.prog 35 #[.pointer (some ⟨b, 0, none⟩), .int .i64 k] w fun e w' => e = .returned (.tuple #[.int .i64 (nextZ st k).1, .int .i64 (nextZ st k).2]) ∧ Chg [] w w' := by
  obtain ⟨g, D, h1, h2⟩ := h
  have c1 := blk_cell h2.head
  have hD : st.sh.length = D.length := by rw [h1, List.length_map]
  by_cases hk : k < 0 ∨ (st.sh.length : Int) ≤ k
  · rw [(at_bad k hk).2]
    rw [hD] at hk
    clear h1 h2 hD ho
    generalize D.length = m at *
    by_cases k0 : k < 0
    · clear hk
      go_enter Tryd.func35, Tryd.ntmps35
      go_wp2_with fail
      go_ret2
      exact ⟨rfl, Chg.refl _ _⟩
    · have hk' : (m : Int) ≤ k := by omega
      clear hk
      go_enter Tryd.func35, Tryd.ntmps35
      go_wp2_with fail
      go_ret2
      exact ⟨rfl, Chg.refl _ _⟩
  · obtain ⟨q, rfl⟩ : ∃ q : Nat, k = (q : Int) := ⟨k.toNat, by omega⟩
    have hq : q < D.length := by omega
    rw [(rat_good h1 q hq).2]
    obtain ⟨s1, s2⟩ := h2.shard q hq
    obtain ⟨o1, o2, o3⟩ := rok_at ho h1 q hq
    unfold Sr.v at s1
    have q0 : (0 : Int) ≤ (q : Int) := by omega
    have q1 : (q : Int) < (D.length : Int) := by omega
    generalize D[q] = d at *
    generalize D.length = m at *
    clear h1 h2 hD ho hk
    go_enter Tryd.func35, Tryd.ntmps35
    go_wp2_with (go_quiet (fail))
    go_ret2
    first | exact ⟨rfl, (Chg.refl _ _).drewN _⟩ | exact ⟨rfl, Chg.refl _ _⟩
end Go.Proofs.YtmichbpfmachcaaDoor
namespace Go.Proofs.YtmichbpfmachcaaDoor
set_option linter.unusedVariables false
set_option linter.unusedSimpArgs false
open Go.RowKit
/-- The stream's slice of shards, and the event's box. -/
def HeadEv (w' : World) (b g n b4 : Nat) (e : Ev) : Prop := w'.cell? ⟨b, 2, none⟩ = some (.slice (some ⟨g, 0, none⟩) n n) ∧ w'.cell? ⟨b4, 0, none⟩ = some (.string e.p.id) ∧ w'.cell? ⟨b4, 1, none⟩ = some (.string e.p.tn) ∧ w'.cell? ⟨b4, 2, none⟩ = some (.string e.p.src) ∧ w'.cell? ⟨b4, 3, none⟩ = some (.string e.p.key) ∧ w'.cell? ⟨b4, 4, none⟩ = some (.int .i64 e.p.at_) ∧ w'.cell? ⟨b4, 5, none⟩ = some (.string e.p.cause) ∧ w'.cell? ⟨b4, 6, none⟩ = some (.slice e.ba e.p.body.length e.bc)
structure ApdR (wc wy : World) (v : Value) (L : List Rc) (r : Rc) (a' : Option Addr) (c' : Nat) : Prop where
  row : RowOf rcC 10 wy 0 55 (.slice a' (L ++ [r]).length c') (L ++ [r])
  chg : Chg v.ownBlock.toList wc wy
  lies : ∀ x, (Value.slice a' (L ++ [r]).length c').ownBlock = some x → v.ownBlock = some x ∨ wc.heap.size ≤ x
set_option maxHeartbeats 16000000 in
set_option maxRecDepth 100000 in
theorem rapp_r12 {z1 z3 z5 z6 z7 z8 z9 z11 z13 z14 z15 z16 z17 z18 z19 z20 z21 z22 z23 z24 z25 z26 z27 z28 z29 z30 z31 z32 z33 z34 z35 z36 z37 z38 z39 z40 z41 z42 z43 z44 z45 z46 z47 z48 z49 z50 z51 z52 z53 z54 z55 z56 z57 z58 z59 z60 z61 z62 z63 z64 z65 z66 z67 z68 z69 z70 z71 z72 z73 z74 z75 z76 z77 z78 z79 z80 z81 z82 z83 z84 z85 z86 z87 z88 z89 z90 z91 z92 z93 z94 z95 : Value} {b b4 g k n c : Nat} {a : Option Addr} {sq now : Int} {wc : World} {e : Ev} {L : List Rc} {cur : Array Value} {ops : Array Oper} (hops : ops = rgnF Tryd.f31 12)
    (HS : Hid (∀ w', Chg (g :: (Value.slice a L.length c).ownBlock.toList) wc w' → HeadEv w' b g n b4 e)) (hk : (k : Int) < (n : Int)) (hk0 : 0 ≤ (k : Int))
    (X6 : Hid (wc.heap[g]? = some (.cells cur 87 (0, 0)))) (hcur : cur[k * 2]? = some (.slice a L.length c)) (HN : Hid ((Value.slice a L.length c).ownBlock ≠ some g)) (R : Hid (RowOf rcC 10 wc 0 55 (.slice a L.length c) L)) (hL : L.length ≤ 256) (Q : Exit → Act → World → Prop)
    (hQ : ∀ y59 y60 y61 y62 y63 y64 y65 y66 y67 y68 y69 y70 y71 y72 y73 y74 y75 y76 y77 y78 y79 y80 wy a' c', Hid (ApdR wc wy (.slice a L.length c) L ⟨k, sq, now, e⟩ a' c') → Q .normal ⟨#[.pointer (some ⟨b, 0, none⟩), z1, .int .i64 now, z3, .pointer (some ⟨b4, 0, none⟩), z5, z6, z7, z8, z9, .int .i64 k, z11, .int .i64 sq, z13, z14, z15, z16, z17, z18, z19, z20, z21, z22, z23, z24, z25, z26, z27, z28, z29, z30, z31, z32, z33, z34, z35, z36, z37, z38, z39, z40, z41, z42, z43, z44, z45, z46, z47, z48, z49, z50, z51, z52, z53, z54, z55, z56, z57, z58, y59, y60, y61, y62, y63, y64, y65, y66, y67, y68, y69, y70, y71, y72, y73, y74, y75, y76, y77, y78, y79, y80, z81, z82, z83, z84, z85, z86, z87, z88, z89, z90, z91, z92, z93, z94, z95], []⟩ (wy.setCell ⟨g, k * 2, none⟩ (.slice a' (L.length + 1) c'))) :
    (Code.region 12 ops true).wp Tryd.prog Q ⟨#[.pointer (some ⟨b, 0, none⟩), z1, .int .i64 now, z3, .pointer (some ⟨b4, 0, none⟩), z5, z6, z7, z8, z9, .int .i64 k, z11, .int .i64 sq, z13, z14, z15, z16, z17, z18, z19, z20, z21, z22, z23, z24, z25, z26, z27, z28, z29, z30, z31, z32, z33, z34, z35, z36, z37, z38, z39, z40, z41, z42, z43, z44, z45, z46, z47, z48, z49, z50, z51, z52, z53, z54, z55, z56, z57, z58, z59, z60, z61, z62, z63, z64, z65, z66, z67, z68, z69, z70, z71, z72, z73, z74, z75, z76, z77, z78, z79, z80, z81, z82, z83, z84, z85, z86, z87, z88, z89, z90, z91, z92, z93, z94, z95], []⟩ wc := by
  subst hops
  simp only [rgnF, Tryd.f31, Option.bind_some, rgn, Nat.reduceEqDiff, ↓reduceIte, Option.orElse_some, Option.orElse_none, Option.getD_some, Option.orElse]
  refine wp_region_noPanic ?_
  obtain ⟨wd, hwd⟩ : ∃ wd, wd = wc.drew := ⟨_, rfl⟩
  have D0 := Lib.hid (show Chg [] wc wd by rw [hwd]; exact (Chg.refl _ _).drew)
  have Y0 := Lib.hid (show HeadEv wd b g n b4 e from HS.out wd (D0.out.mono (by simp)))
  refine wp_region_held_drew (S := (fun w' => HeadEv w' b g n b4 e)) (by kernel_rfl) (by rw [← hwd]; exact Y0.out) (fun hHeld => ?_)
  rw [← hwd] at hHeld ⊢
  clear hwd
  have c6 := (blk_cell (D0.out.at (by simp) X6.out) (k * 2)).trans hcur
  unfold HeadEv at *
  refine wpAnyH_take (i := 0) (oi := _) (v := ?vA_0) rfl (by kernel_rfl) (by kernel_rfl) (by kernel_rfl) (fun _ _ _ h => h) (Or.inl ⟨by rfl, ?yA_0⟩) hHeld ?rA_0
  case yA_0 => (intro w hSw; (try dsimp only at hSw); (try simp only [List.getElem_toArray, List.getElem_cons_zero, List.getElem_cons_succ]); go_simp <;> with_reducible rfl)
  (try simp only [List.getElem_toArray, List.getElem_cons_zero, List.getElem_cons_succ, Act.put, List.setIfInBounds_toArray, List.set_cons_zero, List.set_cons_succ])
  refine wpAnyH_take (i := 1) (oi := _) (v := ?vA_1) rfl (by kernel_rfl) (by kernel_rfl) (by kernel_rfl) (fun _ _ _ h => h) (Or.inl ⟨by rfl, ?yA_1⟩) hHeld ?rA_1
  case yA_1 => (intro w hSw; (try dsimp only at hSw); (try simp only [List.getElem_toArray, List.getElem_cons_zero, List.getElem_cons_succ]); go_simp <;> with_reducible rfl)
  (try simp only [List.getElem_toArray, List.getElem_cons_zero, List.getElem_cons_succ, Act.put, List.setIfInBounds_toArray, List.set_cons_zero, List.set_cons_succ])
  refine wpAnyH_take (i := 2) (oi := _) (v := ?vA_2) rfl (by kernel_rfl) (by kernel_rfl) (by kernel_rfl) (fun _ _ _ h => h) (Or.inl ⟨by rfl, ?yA_2⟩) hHeld ?rA_2
  case yA_2 => (intro w hSw; (try dsimp only at hSw); (try simp only [List.getElem_toArray, List.getElem_cons_zero, List.getElem_cons_succ]); go_simp <;> with_reducible rfl)
  (try simp only [List.getElem_toArray, List.getElem_cons_zero, List.getElem_cons_succ, Act.put, List.setIfInBounds_toArray, List.set_cons_zero, List.set_cons_succ])
  refine wpAnyH_take (i := 3) (oi := _) (v := ?vA_3) rfl (by kernel_rfl) (by kernel_rfl) (by kernel_rfl) (fun _ _ _ h => h) (Or.inl ⟨by rfl, ?yA_3⟩) hHeld ?rA_3
  case yA_3 => (intro w hSw; (try dsimp only at hSw); (try simp only [List.getElem_toArray, List.getElem_cons_zero, List.getElem_cons_succ]); go_simp <;> with_reducible rfl)
  (try simp only [List.getElem_toArray, List.getElem_cons_zero, List.getElem_cons_succ, Act.put, List.setIfInBounds_toArray, List.set_cons_zero, List.set_cons_succ])
  refine wpAnyH_take (i := 4) (oi := _) (v := ?vA_4) rfl (by kernel_rfl) (by kernel_rfl) (by kernel_rfl) (fun _ _ _ h => h) (Or.inl ⟨by rfl, ?yA_4⟩) hHeld ?rA_4
  case yA_4 => (intro w hSw; (try dsimp only at hSw); (try simp only [List.getElem_toArray, List.getElem_cons_zero, List.getElem_cons_succ]); go_simp <;> with_reducible rfl)
  (try simp only [List.getElem_toArray, List.getElem_cons_zero, List.getElem_cons_succ, Act.put, List.setIfInBounds_toArray, List.set_cons_zero, List.set_cons_succ])
  refine wpAnyH_take (i := 5) (oi := _) (v := ?vA_5) rfl (by kernel_rfl) (by kernel_rfl) (by kernel_rfl) (fun _ _ _ h => h) (Or.inl ⟨by rfl, ?yA_5⟩) hHeld ?rA_5
  case yA_5 => (intro w hSw; (try dsimp only at hSw); (try simp only [List.getElem_toArray, List.getElem_cons_zero, List.getElem_cons_succ]); go_simp <;> with_reducible rfl)
  (try simp only [List.getElem_toArray, List.getElem_cons_zero, List.getElem_cons_succ, Act.put, List.setIfInBounds_toArray, List.set_cons_zero, List.set_cons_succ])
  refine wpAnyH_take (i := 6) (oi := _) (v := ?vA_6) rfl (by kernel_rfl) (by kernel_rfl) (by kernel_rfl) (fun _ _ _ h => h) (Or.inl ⟨by rfl, ?yA_6⟩) hHeld ?rA_6
  case yA_6 => (intro w hSw; (try dsimp only at hSw); (try simp only [List.getElem_toArray, List.getElem_cons_zero, List.getElem_cons_succ]); go_simp <;> with_reducible rfl)
  (try simp only [List.getElem_toArray, List.getElem_cons_zero, List.getElem_cons_succ, Act.put, List.setIfInBounds_toArray, List.set_cons_zero, List.set_cons_succ])
  refine wpAnyH_take (i := 7) (oi := _) (v := ?vA_7) rfl (by kernel_rfl) (by kernel_rfl) (by kernel_rfl) (fun _ _ _ h => h) (Or.inl ⟨by rfl, ?yA_7⟩) hHeld ?rA_7
  case yA_7 => (intro w hSw; (try dsimp only at hSw); (try simp only [List.getElem_toArray, List.getElem_cons_zero, List.getElem_cons_succ]); go_simp <;> with_reducible rfl)
  (try simp only [List.getElem_toArray, List.getElem_cons_zero, List.getElem_cons_succ, Act.put, List.setIfInBounds_toArray, List.set_cons_zero, List.set_cons_succ])
  refine wpAnyH_take (i := 8) (oi := _) (v := ?vA_8) rfl (by kernel_rfl) (by kernel_rfl) (by kernel_rfl) (fun _ _ _ h => h) (Or.inl ⟨by rfl, ?yA_8⟩) hHeld ?rA_8
  case yA_8 => (intro w hSw; (try dsimp only at hSw); (try simp only [List.getElem_toArray, List.getElem_cons_zero, List.getElem_cons_succ]); go_simp <;> with_reducible rfl)
  (try simp only [List.getElem_toArray, List.getElem_cons_zero, List.getElem_cons_succ, Act.put, List.setIfInBounds_toArray, List.set_cons_zero, List.set_cons_succ])
  refine wpAnyH_take (i := 9) (oi := _) (v := ?vA_9) rfl (by kernel_rfl) (by kernel_rfl) (by kernel_rfl) (fun _ _ _ h => h) (Or.inl ⟨by rfl, ?yA_9⟩) hHeld ?rA_9
  case yA_9 => (intro w hSw; (try dsimp only at hSw); (try simp only [List.getElem_toArray, List.getElem_cons_zero, List.getElem_cons_succ]); go_simp <;> with_reducible rfl)
  (try simp only [List.getElem_toArray, List.getElem_cons_zero, List.getElem_cons_succ, Act.put, List.setIfInBounds_toArray, List.set_cons_zero, List.set_cons_succ])
  refine wpAnyH_take (i := 10) (oi := _) (v := ?vA_10) rfl (by kernel_rfl) (by kernel_rfl) (by kernel_rfl) (fun _ _ _ h => h) (Or.inl ⟨by rfl, ?yA_10⟩) hHeld ?rA_10
  case yA_10 => (intro w hSw; (try dsimp only at hSw); (try simp only [List.getElem_toArray, List.getElem_cons_zero, List.getElem_cons_succ]); go_simp <;> with_reducible rfl)
  (try simp only [List.getElem_toArray, List.getElem_cons_zero, List.getElem_cons_succ, Act.put, List.setIfInBounds_toArray, List.set_cons_zero, List.set_cons_succ])
  refine wpAnyH_take (i := 11) (oi := _) (v := ?vA_11) rfl (by kernel_rfl) (by kernel_rfl) (by kernel_rfl) (fun _ _ _ h => h) (Or.inl ⟨by rfl, ?yA_11⟩) hHeld ?rA_11
  case yA_11 => (intro w hSw; (try dsimp only at hSw); (try simp only [List.getElem_toArray, List.getElem_cons_zero, List.getElem_cons_succ]); go_simp <;> with_reducible rfl)
  (try simp only [List.getElem_toArray, List.getElem_cons_zero, List.getElem_cons_succ, Act.put, List.setIfInBounds_toArray, List.set_cons_zero, List.set_cons_succ])
  refine wpAnyH_take (i := 13) (oi := _) (v := ?vA_13) rfl (by kernel_rfl) (by kernel_rfl) (by kernel_rfl) (fun _ _ _ h => h) (Or.inl ⟨by rfl, ?yA_13⟩) hHeld ?rA_13
  case yA_13 => (intro w hSw; (try dsimp only at hSw); (try simp only [List.getElem_toArray, List.getElem_cons_zero, List.getElem_cons_succ]); go_simp <;> with_reducible rfl)
  (try simp only [List.getElem_toArray, List.getElem_cons_zero, List.getElem_cons_succ, Act.put, List.setIfInBounds_toArray, List.set_cons_zero, List.set_cons_succ])
  refine wpAnyH_take (i := 14) (oi := _) (v := ?vA_14) rfl (by kernel_rfl) (by kernel_rfl) (by kernel_rfl) (fun _ _ _ h => h) (Or.inl ⟨by rfl, ?yA_14⟩) hHeld ?rA_14
  case yA_14 => (intro w hSw; (try dsimp only at hSw); (try simp only [List.getElem_toArray, List.getElem_cons_zero, List.getElem_cons_succ]); go_simp <;> with_reducible rfl)
  (try simp only [List.getElem_toArray, List.getElem_cons_zero, List.getElem_cons_succ, Act.put, List.setIfInBounds_toArray, List.set_cons_zero, List.set_cons_succ])
  refine wpAnyH_take (i := 15) (oi := _) (v := ?vA_15) rfl (by kernel_rfl) (by kernel_rfl) (by kernel_rfl) (fun _ _ _ h => h) (Or.inl ⟨by rfl, ?yA_15⟩) hHeld ?rA_15
  case yA_15 => (intro w hSw; (try dsimp only at hSw); (try simp only [List.getElem_toArray, List.getElem_cons_zero, List.getElem_cons_succ]); go_simp <;> with_reducible rfl)
  (try simp only [List.getElem_toArray, List.getElem_cons_zero, List.getElem_cons_succ, Act.put, List.setIfInBounds_toArray, List.set_cons_zero, List.set_cons_succ])
  refine wpAnyH_take (i := 16) (oi := _) (v := ?vA_16) rfl (by kernel_rfl) (by kernel_rfl) (by kernel_rfl) (fun _ _ _ h => h) (Or.inl ⟨by rfl, ?yA_16⟩) hHeld ?rA_16
  case yA_16 => (intro w hSw; (try dsimp only at hSw); (try simp only [List.getElem_toArray, List.getElem_cons_zero, List.getElem_cons_succ]); go_simp <;> with_reducible rfl)
  (try simp only [List.getElem_toArray, List.getElem_cons_zero, List.getElem_cons_succ, Act.put, List.setIfInBounds_toArray, List.set_cons_zero, List.set_cons_succ])
  refine wpAnyH_take (i := 17) (oi := _) (v := ?vA_17) rfl (by kernel_rfl) (by kernel_rfl) (by kernel_rfl) (fun _ _ _ h => h) (Or.inl ⟨by rfl, ?yA_17⟩) hHeld ?rA_17
  case yA_17 => (intro w hSw; (try dsimp only at hSw); (try simp only [List.getElem_toArray, List.getElem_cons_zero, List.getElem_cons_succ]); go_simp <;> with_reducible rfl)
  (try simp only [List.getElem_toArray, List.getElem_cons_zero, List.getElem_cons_succ, Act.put, List.setIfInBounds_toArray, List.set_cons_zero, List.set_cons_succ])
  refine wpAnyH_ready (rs := [12, 18]) (by kernel_rfl) (by simp) ?_
  refine AllReadyH.cons (o := _) rfl (fun K hK => ?_) (AllReadyH.cons (o := _) rfl (fun K hK => ?_) AllReadyH.nil)
  ·
    (try simp only [List.getElem_toArray, List.getElem_cons_zero, List.getElem_cons_succ])
    go_simp
    skip
    refine hK.out _ _ ?_ (fun hHeld => ?_)
    exact Y0.out
    clear hK K
    (try simp only [List.getElem_toArray, List.getElem_cons_zero, List.getElem_cons_succ, Act.put, List.setIfInBounds_toArray, List.set_cons_zero, List.set_cons_succ])
    refine wpAnyH_ready (rs := [18]) (by kernel_rfl) (by simp) ?_
    refine AllReadyH.cons (o := _) rfl (fun K hK => ?_) AllReadyH.nil
    (try simp only [List.getElem_toArray, List.getElem_cons_zero, List.getElem_cons_succ])
    go_simp
    skip
    refine hK.out _ _ ?_ (fun hHeld => ?_)
    exact HS.out _ (((D0.out.alloc _)).mono (by simp))
    clear hK K
    (try simp only [List.getElem_toArray, List.getElem_cons_zero, List.getElem_cons_succ, Act.put, List.setIfInBounds_toArray, List.set_cons_zero, List.set_cons_succ])
    have N4 := Lib.hid (heap_alloc_new wd (.cells #[.int .i64 k, .int .i64 sq, .int .i64 now, .string e.p.id, .string e.p.tn, .string e.p.src, .string e.p.key, .int .i64 e.p.at_, .string e.p.cause, .slice e.ba e.p.body.length e.bc] 55))
    have K4 := Lib.hid ((Chg.refl [] wd).alloc (.cells #[.int .i64 k, .int .i64 sq, .int .i64 now, .string e.p.id, .string e.p.tn, .string e.p.src, .string e.p.key, .int .i64 e.p.at_, .string e.p.cause, .slice e.ba e.p.body.length e.bc] 55))
    have R4 := Lib.hid ((R.out.kept D0.out (by simp)).kept K4.out (by simp))
    have hB : wc.heap.size ≤ wd.heap.size := D0.out.size
    have hB2 := K4.out.size
    refine wpAnyH_ready (rs := [19]) (by kernel_rfl) (by simp) ?_
    refine AllReadyH.cons (o := _) rfl (fun K hK => ?_) AllReadyH.nil
    (try simp only [List.getElem_toArray, List.getElem_cons_zero, List.getElem_cons_succ])
    refine step_list rfl ?_
    (refine wpl_appendL rfl _ _ 36 rfl 0 55 _ 136 Tryd.underlying36 recInfo rfl (by decide) rcC_len rcC_one (.slice a L.length c) L rfl R4.out _ 1 (⟨k, sq, now, e⟩ : Rc) _ _ _ rfl N4.out rfl (by unfold maxLen; omega) (by omega) (Nat.zero_le _) ?_; intro g' cap w5 hr5 hg5 ho5 hl5; have K5 := Lib.hid (Chg.ofRow (v := .slice a L.length c) hg5); have R5 := Lib.hid hr5; have O5 := Lib.hid ho5; have V4 := Lib.hid (show HeadEv w5 b g n b4 e from HS.out _ (((D0.out.thenSame K4.out).mono (by simp)).then K5.out (fun x hx _ => List.mem_cons_of_mem _ hx))); have V6 := Lib.hid (K5.out.at (fun hm => HN.out (by simpa using hm)) (K4.out.at (by simp) (D0.out.at (by simp) X6.out))); have V7 := Lib.hid (HS.out _ ((((D0.out.thenSame K4.out).mono (by simp)).then K5.out (fun x hx _ => List.mem_cons_of_mem _ hx)).thenSame (((Chg.refl [g] w5).setCell ⟨g, k * 2, none⟩ (.slice (some ⟨g', 0, none⟩) (L.length + 1) cap) (by simp)).mono (by simp)))); clear hr5 hg5 ho5)
    refine ⟨rfl, hK.out _ _ ?_ (fun hHeld => ?_)⟩
    exact V4.out
    clear hK K
    (try simp only [List.getElem_toArray, List.getElem_cons_zero, List.getElem_cons_succ, Act.put, List.setIfInBounds_toArray, List.set_cons_zero, List.set_cons_succ])
    have v6 := blk_cell V6.out
    have f6 := blk_free V6.out
    have m6 := lt_of_heap V6.out
    refine wpAnyH_take (i := 20) (oi := _) (v := ?vB_20) rfl (by kernel_rfl) (by kernel_rfl) (by kernel_rfl) (fun _ _ _ h => h) (Or.inl ⟨by rfl, ?yB_20⟩) hHeld ?rB_20
    case yB_20 => (intro w hSw; (try dsimp only at hSw); (try simp only [List.getElem_toArray, List.getElem_cons_zero, List.getElem_cons_succ]); go_simp <;> with_reducible rfl)
    (try simp only [List.getElem_toArray, List.getElem_cons_zero, List.getElem_cons_succ, Act.put, List.setIfInBounds_toArray, List.set_cons_zero, List.set_cons_succ])
    refine wpAnyH_take (i := 21) (oi := _) (v := ?vB_21) rfl (by kernel_rfl) (by kernel_rfl) (by kernel_rfl) (fun _ _ _ h => h) (Or.inl ⟨by rfl, ?yB_21⟩) hHeld ?rB_21
    case yB_21 => (intro w hSw; (try dsimp only at hSw); (try simp only [List.getElem_toArray, List.getElem_cons_zero, List.getElem_cons_succ]); go_simp <;> with_reducible rfl)
    (try simp only [List.getElem_toArray, List.getElem_cons_zero, List.getElem_cons_succ, Act.put, List.setIfInBounds_toArray, List.set_cons_zero, List.set_cons_succ])
    refine wpAnyH_ready (rs := [22]) (by kernel_rfl) (by simp) ?_
    refine AllReadyH.cons (o := _) rfl (fun K hK => ?_) AllReadyH.nil
    (try simp only [List.getElem_toArray, List.getElem_cons_zero, List.getElem_cons_succ])
    go_simp
    skip
    refine hK.out _ _ ?_ (fun hHeld => ?_)
    exact V7.out
    clear hK K
    (try simp only [List.getElem_toArray, List.getElem_cons_zero, List.getElem_cons_succ, Act.put, List.setIfInBounds_toArray, List.set_cons_zero, List.set_cons_succ])
    refine wpAnyH_done (by kernel_rfl) ?_ _
    refine NoPanic.normal ?_
    refine hQ _ _ _ _ _ _ _ _ _ _ _ _ _ _ _ _ _ _ _ _ _ _ w5 (some ⟨g', 0, none⟩) cap (Lib.hid ⟨by rw [List.length_append]; exact R5.out, ?_, ?_⟩)
    · exact ((D0.out.thenSame K4.out).mono (by simp)).then K5.out (fun x hx _ => hx)
    · intro x hx
      cases hx
      rcases O5.out with h | h
      · exact .inl h
      · exact .inr (Nat.le_trans hB (Nat.le_trans hB2 (Nat.le_of_eq h.symm)))
  ·
    (try simp only [List.getElem_toArray, List.getElem_cons_zero, List.getElem_cons_succ])
    go_simp
    skip
    refine hK.out _ _ ?_ (fun hHeld => ?_)
    exact HS.out _ (((D0.out.alloc _)).mono (by simp))
    clear hK K
    (try simp only [List.getElem_toArray, List.getElem_cons_zero, List.getElem_cons_succ, Act.put, List.setIfInBounds_toArray, List.set_cons_zero, List.set_cons_succ])
    have c7 := (blk_cell (blk_alloc (o' := (.cells #[.int .i64 k, .int .i64 sq, .int .i64 now, .string e.p.id, .string e.p.tn, .string e.p.src, .string e.p.key, .int .i64 e.p.at_, .string e.p.cause, .slice e.ba e.p.body.length e.bc] 55)) (D0.out.at (by simp) X6.out)) (k * 2)).trans hcur
    refine wpAnyH_ready (rs := [12]) (by kernel_rfl) (by simp) ?_
    refine AllReadyH.cons (o := _) rfl (fun K hK => ?_) AllReadyH.nil
    (try simp only [List.getElem_toArray, List.getElem_cons_zero, List.getElem_cons_succ])
    go_simp
    skip
    refine hK.out _ _ ?_ (fun hHeld => ?_)
    exact HS.out _ (((D0.out.alloc _)).mono (by simp))
    clear hK K
    (try simp only [List.getElem_toArray, List.getElem_cons_zero, List.getElem_cons_succ, Act.put, List.setIfInBounds_toArray, List.set_cons_zero, List.set_cons_succ])
    have N4 := Lib.hid (heap_alloc_new wd (.cells #[.int .i64 k, .int .i64 sq, .int .i64 now, .string e.p.id, .string e.p.tn, .string e.p.src, .string e.p.key, .int .i64 e.p.at_, .string e.p.cause, .slice e.ba e.p.body.length e.bc] 55))
    have K4 := Lib.hid ((Chg.refl [] wd).alloc (.cells #[.int .i64 k, .int .i64 sq, .int .i64 now, .string e.p.id, .string e.p.tn, .string e.p.src, .string e.p.key, .int .i64 e.p.at_, .string e.p.cause, .slice e.ba e.p.body.length e.bc] 55))
    have R4 := Lib.hid ((R.out.kept D0.out (by simp)).kept K4.out (by simp))
    have hB : wc.heap.size ≤ wd.heap.size := D0.out.size
    have hB2 := K4.out.size
    refine wpAnyH_ready (rs := [19]) (by kernel_rfl) (by simp) ?_
    refine AllReadyH.cons (o := _) rfl (fun K hK => ?_) AllReadyH.nil
    (try simp only [List.getElem_toArray, List.getElem_cons_zero, List.getElem_cons_succ])
    refine step_list rfl ?_
    (refine wpl_appendL rfl _ _ 36 rfl 0 55 _ 136 Tryd.underlying36 recInfo rfl (by decide) rcC_len rcC_one (.slice a L.length c) L rfl R4.out _ 1 (⟨k, sq, now, e⟩ : Rc) _ _ _ rfl N4.out rfl (by unfold maxLen; omega) (by omega) (Nat.zero_le _) ?_; intro g' cap w5 hr5 hg5 ho5 hl5; have K5 := Lib.hid (Chg.ofRow (v := .slice a L.length c) hg5); have R5 := Lib.hid hr5; have O5 := Lib.hid ho5; have V4 := Lib.hid (show HeadEv w5 b g n b4 e from HS.out _ (((D0.out.thenSame K4.out).mono (by simp)).then K5.out (fun x hx _ => List.mem_cons_of_mem _ hx))); have V6 := Lib.hid (K5.out.at (fun hm => HN.out (by simpa using hm)) (K4.out.at (by simp) (D0.out.at (by simp) X6.out))); have V7 := Lib.hid (HS.out _ ((((D0.out.thenSame K4.out).mono (by simp)).then K5.out (fun x hx _ => List.mem_cons_of_mem _ hx)).thenSame (((Chg.refl [g] w5).setCell ⟨g, k * 2, none⟩ (.slice (some ⟨g', 0, none⟩) (L.length + 1) cap) (by simp)).mono (by simp)))); clear hr5 hg5 ho5)
    refine ⟨rfl, hK.out _ _ ?_ (fun hHeld => ?_)⟩
    exact V4.out
    clear hK K
    (try simp only [List.getElem_toArray, List.getElem_cons_zero, List.getElem_cons_succ, Act.put, List.setIfInBounds_toArray, List.set_cons_zero, List.set_cons_succ])
    have v6 := blk_cell V6.out
    have f6 := blk_free V6.out
    have m6 := lt_of_heap V6.out
    refine wpAnyH_take (i := 20) (oi := _) (v := ?vC_20) rfl (by kernel_rfl) (by kernel_rfl) (by kernel_rfl) (fun _ _ _ h => h) (Or.inl ⟨by rfl, ?yC_20⟩) hHeld ?rC_20
    case yC_20 => (intro w hSw; (try dsimp only at hSw); (try simp only [List.getElem_toArray, List.getElem_cons_zero, List.getElem_cons_succ]); go_simp <;> with_reducible rfl)
    (try simp only [List.getElem_toArray, List.getElem_cons_zero, List.getElem_cons_succ, Act.put, List.setIfInBounds_toArray, List.set_cons_zero, List.set_cons_succ])
    refine wpAnyH_take (i := 21) (oi := _) (v := ?vC_21) rfl (by kernel_rfl) (by kernel_rfl) (by kernel_rfl) (fun _ _ _ h => h) (Or.inl ⟨by rfl, ?yC_21⟩) hHeld ?rC_21
    case yC_21 => (intro w hSw; (try dsimp only at hSw); (try simp only [List.getElem_toArray, List.getElem_cons_zero, List.getElem_cons_succ]); go_simp <;> with_reducible rfl)
    (try simp only [List.getElem_toArray, List.getElem_cons_zero, List.getElem_cons_succ, Act.put, List.setIfInBounds_toArray, List.set_cons_zero, List.set_cons_succ])
    refine wpAnyH_ready (rs := [22]) (by kernel_rfl) (by simp) ?_
    refine AllReadyH.cons (o := _) rfl (fun K hK => ?_) AllReadyH.nil
    (try simp only [List.getElem_toArray, List.getElem_cons_zero, List.getElem_cons_succ])
    go_simp
    skip
    refine hK.out _ _ ?_ (fun hHeld => ?_)
    exact V7.out
    clear hK K
    (try simp only [List.getElem_toArray, List.getElem_cons_zero, List.getElem_cons_succ, Act.put, List.setIfInBounds_toArray, List.set_cons_zero, List.set_cons_succ])
    refine wpAnyH_done (by kernel_rfl) ?_ _
    refine NoPanic.normal ?_
    refine hQ _ _ _ _ _ _ _ _ _ _ _ _ _ _ _ _ _ _ _ _ _ _ w5 (some ⟨g', 0, none⟩) cap (Lib.hid ⟨by rw [List.length_append]; exact R5.out, ?_, ?_⟩)
    · exact ((D0.out.thenSame K4.out).mono (by simp)).then K5.out (fun x hx _ => hx)
    · intro x hx
      cases hx
      rcases O5.out with h | h
      · exact .inl h
      · exact .inr (Nat.le_trans hB (Nat.le_trans hB2 (Nat.le_of_eq h.symm)))
end Go.Proofs.YtmichbpfmachcaaDoor
namespace Go.Proofs.YtmichbpfmachcaaDoor
set_option linter.unusedVariables false
set_option linter.unusedSimpArgs false
open Go.RowKit
variable {W w w' : World} {b g n : Nat} {D : List Sr} {keep now : Int} {f S : List Nat} {st : Stm}
def RTurned (W w w' : World) (b : Nat) (st : Stm) (f : List Nat) : Prop := ∃ f', RIs W w' b st f' ∧ Chg f w w' ∧ ∀ x ∈ f', x ∈ f ∨ w.heap.size ≤ x
theorem RTurned.same (h : RIs W w b st f) (hc : Chg [] w w') : RTurned W w w' b st f := ⟨f, h.keptN hc, hc.mono (by simp), fun x hx => .inl hx⟩
theorem RAt.appended {wy : World} {d : Sr} {r : Rc} {a' : Option Addr} {c' k : Nat} (h : RAt W w b g D keep now f) (hk : k < D.length) (hd : D[k] = d) (hA : ApdR w wy d.v d.L r a' c') (hb : InIs ceC 4 W r.e.ba r.e.bc r.e.p.body) :
    ∃ f', RAt W (wy.setCell ⟨g, k * 2, none⟩ (.slice a' (d.L ++ [r]).length c')) b g (D.set k ⟨a', c', d.L ++ [r], d.next⟩) keep now f' ∧ ∀ x ∈ f', x ∈ f ∨ w.heap.size ≤ x := by
  subst hd
  have hmem : D[k] ∈ D := List.getElem_mem hk
  obtain ⟨A1, A3, A4⟩ := hA
  have hc2 : Chg [g] wy (wy.setCell ⟨g, k * 2, none⟩ (.slice a' (D[k].L ++ [r]).length c')) := (Chg.refl _ _).setCell _ _ (by simp)
  have hc : Chg (g :: (D[k]).v.ownBlock.toList) w (wy.setCell ⟨g, k * 2, none⟩ (.slice a' (D[k].L ++ [r]).length c')) := (A3.mono (fun x hx _ => List.mem_cons_of_mem _ hx)).then hc2 (fun x hx _ => by simp at hx; simp [hx])
  have hrg : ∀ x ∈ (D[k]).v.ownBlock.toList, x ≠ g := fun x hx => (h.row_ne hmem (by simpa using hx)).2
  obtain ⟨curg, hcurg⟩ := h.rowAt
  have hgy := A3.at (fun hm => hrg g hm rfl) hcurg
  refine h.put k hk ⟨a', c', D[k].L ++ [r], D[k].next⟩ hc ?_ ?_ A4 ?_
  · have := RowOf.stored (h.row.kept A3 (fun y hy hm => by cases hy; exact hrg _ hm rfl)) rfl srC_len k hk 0 (by omega) (.slice a' (D[k].L ++ [r]).length c') ⟨a', c', D[k].L ++ [r], D[k].next⟩ (by simp [srC])
    simpa using this
  · refine A1.kept hc2 (fun y hy hm => ?_)
    obtain ⟨q, hq⟩ := rowBlk A1 hy
    simp at hm
    subst hm
    rw [hgy] at hq
    simp at hq
  · intro r' hr'
    rcases List.mem_append.1 hr' with hr' | hr'
    · exact h.body _ hmem r' hr'
    · simp at hr'
      subst hr'
      exact hb
theorem RAt.setNext {k : Nat} (h : RAt W w b g D keep now f) (hk : k < D.length) (x : Int) :
    ∃ f', RAt W (w.setCell ⟨g, k * 2 + 1, none⟩ (.int .i64 x)) b g (D.set k ⟨D[k].a, D[k].c, D[k].L, x⟩) keep now f' ∧ ∀ x ∈ f', x ∈ f ∨ w.heap.size ≤ x := by
  have hmem : D[k] ∈ D := List.getElem_mem hk
  have hc : Chg [g] w (w.setCell ⟨g, k * 2 + 1, none⟩ (.int .i64 x)) := (Chg.refl _ _).setCell _ _ (by simp)
  refine h.put k hk ⟨D[k].a, D[k].c, D[k].L, x⟩ (hc.mono (by simp)) ?_ ?_ (fun y hy => .inl hy) (fun r hr => h.body _ hmem r hr)
  · exact RowOf.stored h.row rfl srC_len k hk 1 (by omega) _ _ (by simp [srC])
  · exact (h.recs _ hmem).kept hc (fun y hy => by simpa using (h.row_ne hmem hy).2)
theorem RAt.free (h : RAt W w b g D keep now f) : ∀ i, w.frozen? ⟨g, i, none⟩ = false := by
  obtain ⟨-, -, -, -, h5, -⟩ := RowOf.atS h.row srC_len
  exact h5
set_option maxHeartbeats 16000000 in
set_option maxRecDepth 100000 in
theorem rapp_any (h : RIs W w b st f) (hW : Chg [] W w) (hf : ∀ x ∈ f, W.heap.size ≤ x) (ho : st.ok n) (hn : n ≤ 1048575) (e : Ev) (hi : InIs ceC 4 W e.ba e.bc e.p.body) (hg : e.p.good) (ht : TabW w) (now : Int) :
    Calls Tryd.prog 31 #[.pointer (some ⟨b, 0, none⟩), .agg (evC e).toArray, .int .i64 now] w fun x w' => x = .returned (.tuple #[.int .i64 (appR st e.p now).1.1, .int .i64 (appR st e.p now).1.2.1, .int .i64 (appR st e.p now).1.2.2]) ∧ RTurned W w w' b (appR st e.p now).2 f := by
  obtain ⟨R, hR⟩ : ∃ R, R = appR st e.p now := ⟨_, rfl⟩
  rw [← hR]
  unfold appR at hR
  obtain ⟨W1, hW1⟩ : ∃ W1, W1 = w.alloc (evO e) := ⟨_, rfl⟩
  have C1 := Lib.hid (show Chg [] w W1 by rw [hW1]; exact (Chg.refl _ _).alloc _)
  have X1 := Lib.hid (show W1.heap[w.heap.size]? = some (evO e) by rw [hW1]; exact heap_alloc_new _ _)
  have H := Lib.hid h
  have AE := Lib.hid (recheck_any e W1 (hi.kept (hW.thenSame C1.out)) hg (ht.kept C1.out))
  have AS := Lib.hid (fun w' => rbucket_any e.p.key (st.sh.length : Int) w' hg.2.2.2.1 (by have := ho.1; omega) (by have := ho.2.1; omega))
  have hbb := bucketZ_bounds e.p.key (n := (st.sh.length : Int)) (by have := ho.1; omega)
  have HO := Lib.hid ho
  have HI := Lib.hid hi
  obtain ⟨x10, x11, x12, x13, x14, x15, x16⟩ := cells7 X1.out
  unfold evO at hW1
  simp only [evC] at AE ⊢
  have HW1 := Lib.hid hW1
  clear hi hg ht hW1
  by_cases hz : evZ e.p ≠ 0
  · rw [if_pos hz] at hR
    have hz' : (evZ e.p == 0) = false := by simpa using hz
    generalize evZ e.p = z at *
    subst hR
    clear h ho hz hbb
    go_enter Tryd.func31, Tryd.ntmps31
    go_wp2_with fail
    rw [← HW1.out]
    go_wp2_with fail
    refine AE.out.mono ?_; rintro e2 w2 ⟨rfl, hc2⟩
    have C2 := Lib.hid (C1.out.thenSame hc2)
    clear hc2
    go_wp2_with fail
    go_ret3
    exact ⟨rfl, RTurned.same H.out C2.out⟩
  rw [if_neg hz] at hR
  have hz' : evZ e.p = 0 := by simpa using hz
  rw [hz'] at AE
  clear hz hz'
  obtain ⟨g, D, h1, h2⟩ := h
  have hD : st.sh.length = D.length := by rw [h1, List.length_map]
  have H2 := Lib.hid (fun w' (hc : Chg [] w w') => h2.kept hc (by simp))
  by_cases n0 : now < 0
  · rw [if_pos n0] at hR
    subst hR
    clear ho hbb
    go_enter Tryd.func31, Tryd.ntmps31
    go_wp2_with fail
    rw [← HW1.out]
    go_wp2_with fail
    refine AE.out.mono ?_; rintro e2 w2 ⟨rfl, hc2⟩
    have C2 := Lib.hid (C1.out.thenSame hc2)
    clear hc2
    go_wp2_with fail
    go_ret3
    exact ⟨rfl, RTurned.same H.out C2.out⟩
  rw [if_neg n0] at hR
  by_cases n1 : 1073741824 < now
  · rw [if_pos n1] at hR
    subst hR
    clear ho hbb
    go_enter Tryd.func31, Tryd.ntmps31
    go_wp2_with fail
    rw [← HW1.out]
    go_wp2_with fail
    refine AE.out.mono ?_; rintro e2 w2 ⟨rfl, hc2⟩
    have C2 := Lib.hid (C1.out.thenSame hc2)
    clear hc2
    go_wp2_with fail
    go_ret3
    exact ⟨rfl, RTurned.same H.out C2.out⟩
  rw [if_neg n1] at hR
  by_cases n2 : now < st.now
  · rw [if_pos n2] at hR
    subst hR
    clear ho hbb
    go_enter Tryd.func31, Tryd.ntmps31
    go_wp2_with fail
    rw [← HW1.out]
    go_wp2_with fail
    refine AE.out.mono ?_; rintro e2 w2 ⟨rfl, hc2⟩
    have C2 := Lib.hid (C1.out.thenSame hc2)
    have y2 := blk_cell (H2.out _ C2.out).head
    clear hc2
    go_wp2_with fail
    go_ret3
    exact ⟨rfl, RTurned.same H.out C2.out⟩
  rw [if_neg n2] at hR
  obtain ⟨k, hkz⟩ : ∃ k : Nat, bucketZ e.p.key (st.sh.length : Int) = (k : Int) := ⟨(bucketZ e.p.key (st.sh.length : Int)).toNat, by omega⟩
  rw [hkz] at hR hbb AS
  rw [hD] at hbb AS
  have hk : k < D.length := by omega
  rw [Int.toNat_natCast, show st.sh[k]? = some (D[k]).p by rw [h1, List.getElem?_map, List.getElem?_eq_getElem hk]; rfl] at hR
  simp only [Sr.p, List.length_map] at hR
  obtain ⟨o1, o2, o3⟩ := rok_at ho h1 k hk
  have H1 := Lib.hid h1
  have HL := Lib.hid (hf)
  have HWW := Lib.hid hW
  clear hkz hbb h1 ho hD hf hW
  have k0 : (0 : Int) ≤ (k : Int) := by omega
  have k1 : (k : Int) < (D.length : Int) := by omega
  generalize hdk : D[k] = d at *
  have HDK := Lib.hid hdk
  have HSH := Lib.hid (fun (w' : World) (hc : Chg [] w w') => (h2.kept hc (by simp)).shard k hk)
  rw [hdk] at HSH
  unfold Sr.v at HSH
  clear hdk x10 x11 x12 x13 x14 x15 x16
  by_cases h256 : d.L.length = 256
  · rw [if_pos h256] at hR
    subst hR
    have hl : (256 : Int) ≤ (d.L.length : Int) := by omega
    clear h2 h256
    go_enter Tryd.func31, Tryd.ntmps31
    go_wp2_with fail
    rw [← HW1.out]
    go_wp2_with fail
    refine AE.out.mono ?_; rintro e2 w2 ⟨rfl, hc2⟩
    have C2 := Lib.hid (C1.out.thenSame hc2)
    have y2 := blk_cell (H2.out _ C2.out).head
    obtain ⟨z20, z21, z22, z23, z24, z25, z26⟩ := cells7 (hc2.at (by simp) X1.out)
    obtain ⟨s1, s2⟩ := HSH.out _ C2.out
    clear hc2
    go_wp2_with fail
    go_quiet (exact Calls.quiet_of_same ((AS.out _).mono (fun e w' h => ⟨h.1, h.2.symm⟩)))
    go_wp2_with fail
    go_ret3
    exact ⟨rfl, RTurned.same H.out (C2.out.thenSame ((Chg.refl _ _).drewN _))⟩
  rw [if_neg h256] at hR
  subst hR
  have hl : (d.L.length : Int) < 256 := by omega
  have hln : (d.next - (d.L.length : Int)) + (d.L.length : Int) = d.next := by omega
  have HPUT := Lib.hid (fun (w2 wy : World) (hc : Chg [] w w2) (a' : Option Addr) (c' : Nat) (hA : ApdR w2 wy d.v d.L ⟨k, d.next, now, e⟩ a' c') => RAt.appended (h2.kept hc (by simp)) hk HDK.out hA HI.out)
  have HN := Lib.hid (show d.v.ownBlock ≠ some g from fun h => (h2.row_ne (by rw [← HDK.out]; exact List.getElem_mem hk) h).2 rfl)
  have HRO := Lib.hid (fun w' (hc : Chg [] w w') => (h2.kept hc (by simp)).recs d (by rw [← HDK.out]; exact List.getElem_mem hk))
  have HRG := Lib.hid (fun w' (hc : Chg [] w w') => (h2.kept hc (by simp)).rowAt)
  have HFD := Lib.hid (show ∀ x, d.v.ownBlock = some x → x ∈ f ∧ x ≠ b from fun x hx => by
    have hm : d ∈ D := by rw [← HDK.out]; exact List.getElem_mem hk
    exact ⟨h2.inr d hm x hx, (h2.row_ne hm hx).1⟩)
  have HBG := Lib.hid h2.bg
  have HLT := Lib.hid h2.lt
  have HGF := Lib.hid (And.intro h2.inb h2.ing)
  unfold Sr.v at HPUT HN HRO HFD
  rw [hln]
  simp only
  go_enter Tryd.func31, Tryd.ntmps31
  go_wp2_with fail
  rw [← HW1.out]
  go_wp2_with fail
  refine AE.out.mono ?_; rintro e2 w2 ⟨rfl, hc2⟩
  have C2 := Lib.hid (C1.out.thenSame hc2)
  have y2 := blk_cell (H2.out _ C2.out).head
  have X2 := Lib.hid (hc2.at (by simp) X1.out)
  obtain ⟨z20, z21, z22, z23, z24, z25, z26⟩ := cells7 X2.out
  obtain ⟨s1, s2⟩ := HSH.out _ C2.out
  clear hc2 h2
  go_wp2_with fail
  go_quiet (exact Calls.quiet_of_same ((AS.out _).mono (fun e w' h => ⟨h.1, h.2.symm⟩)))
  have Cq := Lib.hid (C2.out.thenSame ((Chg.refl [] w2).drewN nq))
  have HS : Hid (∀ w', Chg (g :: (Value.slice d.a d.L.length d.c).ownBlock.toList) (w2.drewN nq) w' → HeadEv w' b g D.length w.heap.size e) := Lib.hid (fun w' hc => by
    have hb : b ∉ g :: (Value.slice d.a d.L.length d.c).ownBlock.toList := fun hm => by
      rcases List.mem_cons.1 hm with h | h
      · exact HBG.out h
      · exact (HFD.out b (by simpa using h)).2 rfl
    have hx : w.heap.size ∉ g :: (Value.slice d.a d.L.length d.c).ownBlock.toList := fun hm => by
      rcases List.mem_cons.1 hm with h | h
      · have := HLT.out _ HGF.out.2; omega
      · have := HLT.out _ (HFD.out _ (by simpa using h)).1; omega
    have q1 := blk_cell (hc.at hb (H2.out _ Cq.out).head) 2
    have q2 := cells7 (hc.at hx (((Chg.refl [] w2).drewN nq).at (by simp) X2.out))
    exact ⟨q1, q2⟩)
  obtain ⟨cur, hX6⟩ := HRG.out _ Cq.out
  have X6 := Lib.hid hX6
  have hcur : cur[k * 2]? = some (.slice d.a d.L.length d.c) := (blk_cell hX6 (k * 2)).symm.trans (HSH.out _ Cq.out).1
  have RW := Lib.hid (HRO.out _ Cq.out)
  have HP := Lib.hid (fun wy a' c' hA => HPUT.out _ wy Cq.out a' c' hA)
  clear hX6
  go_upto_region 12 with fail
  refine rapp_r12 (e := e) (by kernel_rfl) HS k1 k0 X6 hcur HN RW o3 _ ?_
  intros
  rename_i wy a' c' hA
  obtain ⟨f3, hP3, hf3⟩ := HP.out wy a' c' hA.out
  rw [show (d.L ++ [(⟨(k : Int), d.next, now, e⟩ : Rc)]).length = d.L.length + 1 by simp] at hP3
  obtain ⟨W3, hW3⟩ : ∃ W3, W3 = wy.setCell ⟨g, k * 2, none⟩ (.slice a' (d.L.length + 1) c') := ⟨_, rfl⟩
  rw [← hW3] at hP3 ⊢
  have hk3 : k < (D.set k ⟨a', c', d.L ++ [⟨k, d.next, now, e⟩], d.next⟩).length := by rw [List.length_set]; exact hk
  have y3 := blk_cell hP3.head
  rw [List.length_set] at y3
  obtain ⟨s3, s4⟩ := hP3.shard k hk3
  have fr3 := hP3.free
  obtain ⟨f4, hP4, hf4⟩ := hP3.setNext hk3 (d.next + 1)
  simp only [List.getElem_set_self, List.set_set] at s4 hP4
  have m3 := hP3.lt _ hP3.ing
  obtain ⟨W4, hW4⟩ : ∃ W4, W4 = W3.setCell ⟨g, k * 2 + 1, none⟩ (.int .i64 (d.next + 1)) := ⟨_, rfl⟩
  rw [← hW4] at hP4
  have y4 := blk_cell hP4.head
  rw [List.length_set] at y4
  have fr4 := blk_free hP4.head
  have m4 := hP4.lt _ hP4.inb
  have hP5 := hP4.setHead 1 (.int .i64 now) st.keep now (by simp)
  have HP5 := Lib.hid hP5
  have H3 := Lib.hid (show Chg [g] W3 W4 by rw [hW4]; exact (Chg.refl _ _).setCell _ _ (by simp))
  have HW3 := Lib.hid hW3
  have HW4 := Lib.hid hW4
  have HF3 := Lib.hid hf3
  have HF4 := Lib.hid hf4
  clear hP3 hP4 hP5 hf3 hf4 hW3 hW4 s3 hk3 z20 z21 z22 z23 z24 z25 z26 s1 s2 y2 hcur
  go_upto_region 14 with fail
  rw [← HW4.out]
  go_wp2_with fail
  go_ret3
  refine ⟨rfl, f4, ⟨g, D.set k ⟨a', c', d.L ++ [⟨k, d.next, now, e⟩], d.next + 1⟩, ?_, HP5.out⟩, ?_, ?_⟩
  · simp only [List.map_set, H1.out]
    congr 1
    simp only [Sr.p, List.map_append, List.map_cons, List.map_nil, List.length_append, List.length_singleton, Rc.p, hln]
    congr 1
    push_cast
    omega
  · have c3 : Chg f w W3 := by
      refine (Cq.out.mono (by simp)).then (S' := g :: (Value.slice d.a d.L.length d.c).ownBlock.toList) ?_ ?_
      · rw [HW3.out]
        exact (hA.out.chg.mono (fun x hx _ => List.mem_cons_of_mem _ hx)).then ((Chg.refl [g] wy).setCell _ _ (by simp)) (fun x hx _ => by simp at hx; simp [hx])
      · intro x hx _
        rcases List.mem_cons.1 hx with rfl | hx
        · exact HGF.out.2
        · exact (HFD.out x (by simpa using hx)).1
    refine (c3.then H3.out (fun x hx _ => by simp at hx; subst hx; exact HGF.out.2)).then ((Chg.refl [b] W4).setCell _ _ (by simp)) (fun x hx _ => by simp at hx; subst hx; exact HGF.out.1)
  · intro x hx
    have hs : w.heap.size ≤ W3.heap.size := by
      have h1 := Cq.out.size
      have h2 : (w2.drewN nq).heap.size ≤ wy.heap.size := hA.out.chg.size
      have h3 : wy.heap.size ≤ W3.heap.size := by rw [HW3.out]; exact ((Chg.refl [g] wy).setCell ⟨g, k * 2, none⟩ _ (by simp)).size
      omega
    rcases HF4.out x hx with h | h
    · rcases HF3.out x h with h | h
      · exact .inl h
      · exact .inr (Nat.le_trans Cq.out.size h)
    · exact .inr (Nat.le_trans hs h)
end Go.Proofs.YtmichbpfmachcaaDoor
