/- Chapter 52: Functions. No condition. -/
import Derived.Test.YtfnnnflfikmekaaUseQ
import Derived.Test.YtfnnnflfikmekaaMapl
namespace Go.Proofs.Ytfnnnflfikmekaa
set_option linter.unusedVariables false
set_option linter.unusedSimpArgs false
open Go.RowKit
variable {w w' : World} {b mb : Nat} {v : Value} {s : Led}
def inB (tn : ByteArray) (p : Int) (c : CR) : Bool := c.r.tn == tn && c.p == p
def fnL (tn : ByteArray) (p : Int) (l : List CR) : List (List UInt8) := (l.filter (inB tn p)).map (fun c => bs c.r.fn)
def fnsU (s : Led) (tn : ByteArray) (p : Int) : List (List UInt8) := Lib.compact ((fnL tn p s.l).mergeSort leB)
theorem alloc_size (w : World) {o : Obj} : (w.alloc o).heap.size = w.heap.size + 1 := by simp
theorem stInfo : (Try.prog.info? 9).map (fun i => (i.zero, i.size, i.bytes)) = some (some (.string ⟨#[]⟩), 1, 16) := by kernel_rfl
theorem fnL_step (tn : ByteArray) (p : Int) (l : List CR) (k : Nat) (h : k < l.length) : fnL tn p (l.take (k + 1)) = fnL tn p (l.take k) ++ (if inB tn p l[k] = true then [bs l[k].r.fn] else []) := by
  rw [List.take_succ_eq_append_getElem h]
  unfold fnL
  rw [List.filter_append, List.map_append]
  congr 1
  cases hq : inB tn p l[k] <;> simp [List.filter, hq]
theorem fnL_len (tn : ByteArray) (p : Int) (l : List CR) : (fnL tn p l).length ≤ l.length := by
  unfold fnL
  rw [List.length_map]
  exact List.length_filter_le _ _
set_option maxHeartbeats 8000000 in
set_option maxRecDepth 100000 in
theorem funcs_any (tn : ByteArray) (p : Int) (h : LIs w b mb v s) (hl : s.l.length ≤ 4000) :
    Calls Try.prog 18 #[.pointer (some ⟨b, 0, none⟩), .string tn, .int .i64 p] w fun e w' => ∃ v', e = .returned v' ∧ RowOf kc 1 w' w.heap.size 9 v' (fnsU s tn p) ∧ Chg [] w w' := by
  obtain ⟨a, cap, rfl⟩ := RowOf.shape h.2.2
  have H := Lib.hid h
  have hcell : ∀ wr, Chg [] w wr → ∀ k (hk : k < s.l.length), ∃ g, a = some ⟨g, 0, none⟩ ∧ g < w.heap.size ∧ ∀ j, j < 10 → wr.cell? ⟨g, k * 10 + j, none⟩ = (crC s.l[k])[j]? := by
    intro wr hc k hk
    rcases RowOf.at (h.keptN hc).2.2 crLen with ⟨_, hl⟩ | ⟨g, cap', hv, _, _, hcell, _, _, hgl⟩
    · rw [hl] at hk; simp at hk
    · cases hv
      exact ⟨g, rfl, (h.2.2.block g rfl).2, fun j hj => hcell k hk j hj⟩
  have HCell := Lib.hid hcell
  have c0 := blk_cell h.1
  have hb0 := lt_of_heap h.1
  clear h hcell
  go_enter Try.func18, Try.ntmps18
  go_wp2_with fail
  refine (made_any H.out).mono ?_; rintro e w1 ⟨rfl, rfl⟩
  go_wp2_with fail
  clear c0
  go_loopw [7, 18] (fun u i wr => ∃ k : Nat, i = .int .i64 k ∧ k ≤ s.l.length ∧ Hid (RowOf kc 1 wr w.heap.size 9 u (fnL tn p (s.l.take k))) ∧ Hid (Chg [] w wr)) (fun _ i _ => s.l.length - (intOf i).toNat)
  case atStart => exact ⟨0, rfl, Nat.zero_le _, Lib.hid (RowOf.nil _ _ _), Lib.hid (Chg.refl _ _)⟩
  case round =>
    obtain ⟨k, rfl, hkl, HR, D⟩ := hrel
    by_cases hk : k < s.l.length
    · obtain ⟨g, rfl, hgl, hcells⟩ := HCell.out wr D.out k hk
      have d0 := hcells 0 (by omega)
      have d1 := hcells 1 (by omega)
      have d2 := hcells 2 (by omega)
      have d3 := hcells 3 (by omega)
      have d4 := hcells 4 (by omega)
      have d5 := hcells 5 (by omega)
      have d6 := hcells 6 (by omega)
      have d7 := hcells 7 (by omega)
      have d8 := hcells 8 (by omega)
      have d9 := hcells 9 (by omega)
      have hst := fnL_step tn p s.l k hk
      generalize s.l[k] = c at *
      simp only [crC, List.getElem?_cons_zero, List.getElem?_cons_succ, Nat.add_zero] at d0 d1 d2 d3 d4 d5 d6 d7 d8 d9
      have hk0 : (0 : Int) ≤ (k : Int) := by omega
      have hk1 : (k : Int) < (s.l.length : Int) := by omega
      have hq : inB tn p c = (c.r.tn.toList == tn.toList && c.p == p) := by unfold inB; rw [beq_toListBytes]
      have hll : (fnL tn p (s.l.take k)).length ≤ 4000 := Nat.le_trans (fnL_len _ _ _) (by rw [List.length_take]; omega)
      have HLL := Lib.hid hll
      clear hcells hll
      cases q1 : c.r.tn.toList == tn.toList <;> cases q2 : c.p == p
      case true.true =>
        rw [hq, q1, q2, if_pos (by decide)] at hst
        have HS := Lib.hid hst
        clear hst hq
        generalize fnL tn p (s.l.take k) = L at *
        go_wp2_with (at_builtin; refine wpl_append rfl _ _ 40 rfl w.heap.size 9 _ 16 Try.underlying40 stInfo rfl (by decide) kLen kOne u7 L rfl (RowOf.kept HR.out (((Chg.refl [] _).alloc _).alloc _) (by simp)) (wr.heap.size + 1) _ (bs c.r.fn) _ _ _ rfl (by rw [← alloc_size wr]; exact heap_alloc_new _ _) rfl ?c1 ?c2 ?c3 ?_; rotate_left 3; intro v' w3 hrow3 hg3)
        case c1 => have := HLL.out; unfold maxLen; omega
        case c2 => have := HLL.out; omega
        case c3 => have := D.out.size; simp; omega
        refine ⟨⟨k + 1, by go_num, by omega, Lib.hid (by rw [HS.out]; exact hrow3), Lib.hid (((D.out.alloc _).alloc _).then (Chg.ofRow (v := u7) hg3) ?_)⟩, by simp [intOf]; omega⟩
        intro y hy hl
        have := (HR.out.block y (by simpa using hy)).1
        omega
      all_goals
        rw [hq, q1, q2, if_neg (by decide), List.append_nil] at hst
        have HS := Lib.hid hst
        clear hst hq
        go_wp2_with fail
        exact ⟨⟨k + 1, by go_num, by omega, Lib.hid (by rw [HS.out]; exact RowOf.kept HR.out ((Chg.refl [] _).alloc _) (by simp)), Lib.hid (D.out.alloc _)⟩, by simp [intOf]; omega⟩
    · have hks : k = s.l.length := by omega
      subst hks
      have hr := HR.out
      rw [List.take_length] at hr
      have HLen := Lib.hid (show (fnL tn p s.l).length ≤ 4000 from Nat.le_trans (fnL_len _ _ _) hl)
      have A1 := Lib.hid (sort_any hr (by have := HLen.out; omega))
      have HR0 := Lib.hid hr
      clear hr HR
      go_wp2_with fail
      refine A1.out.mono ?_; rintro e w2 ⟨rfl, hr2, hc2⟩
      have A2 := Lib.hid (compact_row hr2 (by rw [List.length_mergeSort]; have := HLen.out; omega))
      have C2 := Lib.hid (D.out.then hc2 (by intro y hy hl; have := (HR0.out.block y (by simpa using hy)).1; omega))
      have HB := Lib.hid (fun y (hy : u7.ownBlock = some y) => (HR0.out.block y hy).1)
      clear hc2 hr2 A1
      go_wp2_with fail
      refine A2.out.mono ?_; rintro e w3 ⟨v', rfl, hr3, hc3⟩
      have C3 := Lib.hid (C2.out.then hc3 (by intro y hy hl; have := HB.out y (by simpa using hy); omega))
      have R3 := Lib.hid hr3
      clear hc3 hr3 A2
      go_wp2_with fail
      go_ret
      exact ⟨v', rfl, R3.out, C3.out⟩
end Go.Proofs.Ytfnnnflfikmekaa
