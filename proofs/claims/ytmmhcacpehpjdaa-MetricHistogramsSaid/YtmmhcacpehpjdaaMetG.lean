/- Chapter 18: contract: the reference's statistics of values. No condition. -/
import Derived.Test.YtmmhcacpehpjdaaMetF
import Derived.StillTailTactics
namespace Go.Proofs.Ytmmhcacpehpjdaa
set_option linter.unusedVariables false
set_option linter.unusedSimpArgs false
open Go.RowKit

theorem stat_step (l : List Int) (k : Nat) (hk : k < l.length) :
    (statS (l.take (k + 1))).s = (statS (l.take k)).s + l[k] ∧
    (statS (l.take (k + 1))).mn = (if k = 0 ∨ l[k] < (statS (l.take k)).mn then l[k] else (statS (l.take k)).mn) ∧
    (statS (l.take (k + 1))).mx = (if k = 0 ∨ (statS (l.take k)).mx < l[k] then l[k] else (statS (l.take k)).mx) := by
  rcases l with _ | ⟨x, t⟩
  · simp at hk
  rcases k with _ | j
  · simp [statS, bestS]
  · have hj : j < t.length := by simpa using hk
    have b1 := best_step (fun a b => decide (a < b)) x t j hj
    have b2 := best_step (fun a b => decide (b < a)) x t j hj
    have b3 := sum_take t j hj
    simp only [List.take_succ_cons, statS, List.getElem_cons_succ, List.sum_cons]
    refine ⟨by rw [b3]; omega, ?_, ?_⟩
    · rw [b1]; simp
    · rw [b2]; simp
theorem stat_sum (l : List Int) : (statS l).s = l.sum := by cases l <;> rfl
theorem stat_c (l : List Int) : (statS l).c = (l.length : Int) := by cases l <;> simp [statS]

set_option maxHeartbeats 4000000 in
set_option maxRecDepth 100000 in
theorem rstat_any {w : World} {base : Nat} {v : Value} {l : List Int} (h : RowOf ic 1 w base 3 v l) (hl : l.length ≤ 4096) (hb : inB l) : Calls Try.prog 50 #[v] w (StatPost w (statS l)) := by
  obtain ⟨a, c, hv⟩ := RowOf.shape h
  subst hv
  have H := Lib.hid h
  have Hb := Lib.hid hb
  clear h hb
  go_enter Try.func50, Try.ntmps50
  go_wp2_with fail
  go_loopw [4] (fun i wr => ∃ k : Nat, i = .int .i64 k ∧ k ≤ l.length ∧ wr.heap[w.heap.size]? = some (.cells #[.int .i64 0, .int .i64 0, .int .i64 0, .int .i64 0] 26 (0, 0)) ∧ wr.heap[w.heap.size + 1]? = some (.cells #[.int .i64 l.length, .int .i64 (statS (l.take k)).s, .int .i64 (statS (l.take k)).mn, .int .i64 (statS (l.take k)).mx] 26 (0, 0)) ∧ Chg [] w wr) (fun i _ => l.length - (intOf i).toNat)
  case atStart =>
    have e1 : (w.alloc (.cells #[.int .i64 0, .int .i64 0, .int .i64 0, .int .i64 0] 26)).heap.size = w.heap.size + 1 := by simp
    refine ⟨0, rfl, Nat.zero_le _, blk_alloc (heap_alloc_new _ _), ?_, ((Chg.refl _ _).alloc _).alloc _⟩
    rw [← e1]; exact heap_alloc_new _ _
  case round =>
    obtain ⟨k, rfl, hkl, hR, hS, hch⟩ := hrel
    have HRc := Lib.hid hR
    have HSc := Lib.hid hS
    have Hch := Lib.hid hch
    have s1 := blk_cell hS
    have f1 := blk_free hS
    by_cases hk : k < l.length
    · rcases RowOf.at (RowOf.kept H.out hch (by simp)) iLen with ⟨_, hl0⟩ | ⟨g, cp, hv, _, _, hcell, _, _, hgw⟩
      · rw [hl0] at hk; simp at hk
      cases hv
      have x1 := hcell k hk 0 (by omega)
      simp only [ic, List.getElem?_cons_zero, Nat.add_zero, Nat.mul_one] at x1
      obtain ⟨u1, u2, u3⟩ := stat_step l k hk
      have hb1 := Hb.out l[k] (List.getElem_mem hk)
      have hb2 := sum_in (l := l.take k) (fun n hn => Hb.out n (List.mem_of_mem_take hn))
      rw [List.length_take, ← stat_sum] at hb2
      obtain ⟨y, hy⟩ : ∃ y, y = l[k] := ⟨_, rfl⟩
      rw [← hy] at x1 hb1 u1 u2 u3
      have hw1 : IntKind.i64.wrap ((statS (l.take k)).s + y) = (statS (l.take k)).s + y := IntWalk.i64_in _ (by omega)
      have U1 := Lib.hid u1
      have U2 := Lib.hid u2
      have U3 := Lib.hid u3
      have hk0 : (0 : Int) ≤ (k : Int) := by omega
      have hk1 : (k : Int) < (l.length : Int) := by omega
      have hgw0 : g < w.heap.size := (H.out.block g rfl).2
      have hgn : ¬ g = w.heap.size + 1 := by omega
      have hgz : k = 0 ∨ (0 < k ∧ ((k : Int) == 0) = false) := by rcases Nat.eq_zero_or_pos k with h | h; exact .inl h; exact .inr ⟨h, beq_eq_false_iff_ne.2 (by omega)⟩
      generalize statS (l.take k) = q at *
      clear hy hcell hb1 hb2 hR hS hch u1 u2 u3
      have hfin : ∀ mn mx w3, (statS (l.take (k + 1))).mn = mn → (statS (l.take (k + 1))).mx = mx → Chg [w.heap.size + 1] wr w3 → w3.heap[w.heap.size + 1]? = some (.cells #[.int .i64 l.length, .int .i64 (q.s + y), .int .i64 mn, .int .i64 mx] 26 (0, 0)) →
          ∃ k' : Nat, (Value.int .i64 ((k : Int) + 1)) = .int .i64 k' ∧ k' ≤ l.length ∧ w3.heap[w.heap.size]? = some (.cells #[.int .i64 0, .int .i64 0, .int .i64 0, .int .i64 0] 26 (0, 0)) ∧ w3.heap[w.heap.size + 1]? = some (.cells #[.int .i64 l.length, .int .i64 (statS (l.take k')).s, .int .i64 (statS (l.take k')).mn, .int .i64 (statS (l.take k')).mx] 26 (0, 0)) ∧ Chg [] w w3 := by
        intro mn mx w3 e1 e2 hc3 hb3
        refine ⟨k + 1, by go_num, by omega, (hc3.block _ (lt_of_heap HRc.out) (by simp)).trans HRc.out, ?_, Hch.out.then hc3 (by simp)⟩
        rw [hb3, U1.out, e1, e2]
      have Hfin := Lib.hid hfin
      clear hfin
      rcases hgz with hz | ⟨_hz, hz⟩
      · subst hz
        go_wp2_with fail
        go_still_tail 8, (by kernel_rfl)
        change wpList _ _ _ _ _ wr.drew
        go_wp2_with fail
        go_quiet (fail)
        go_wp2_with fail
        go_quiet (fail)
        go_wp2_with fail
        refine ⟨Hfin.out y y _ (by rw [U2.out]; simp) (by rw [U3.out]; simp) ?_ ?_, by simp [intOf]; omega⟩
        · repeat (first | exact Chg.refl _ _ | refine Chg.drewN ?_ _ | refine Chg.drew ?_ | refine Chg.setCell ?_ _ _ (by simp))
        · exact blk_set (blk_set (blk_set HSc.out 1 _) 2 _) 3 _
      · go_wp2_with fail
        go_still_tail 8, (by kernel_rfl)
        change wpList _ _ _ _ _ wr.drew
        go_wp2_with fail
        go_quiet (fail)
        go_wp2_with fail
        all_goals
          go_quiet (fail)
          go_wp2_with fail
        · refine ⟨Hfin.out y y _ (by rw [U2.out]; rw [if_pos (by omega)]) (by rw [U3.out]; rw [if_pos (by omega)]) ?_ ?_, by simp [intOf]; omega⟩
          · repeat (first | exact Chg.refl _ _ | refine Chg.drewN ?_ _ | refine Chg.drew ?_ | refine Chg.setCell ?_ _ _ (by simp))
          · exact blk_set (blk_set (blk_set HSc.out 1 _) 2 _) 3 _
        · refine ⟨Hfin.out y q.mx _ (by rw [U2.out]; rw [if_pos (by omega)]) (by rw [U3.out]; rw [if_neg (by omega)]) ?_ ?_, by simp [intOf]; omega⟩
          · repeat (first | exact Chg.refl _ _ | refine Chg.drewN ?_ _ | refine Chg.drew ?_ | refine Chg.setCell ?_ _ _ (by simp))
          · exact blk_set (blk_set HSc.out 1 _) 2 _
        · refine ⟨Hfin.out q.mn y _ (by rw [U2.out]; rw [if_neg (by omega)]) (by rw [U3.out]; rw [if_pos (by omega)]) ?_ ?_, by simp [intOf]; omega⟩
          · repeat (first | exact Chg.refl _ _ | refine Chg.drewN ?_ _ | refine Chg.drew ?_ | refine Chg.setCell ?_ _ _ (by simp))
          · exact blk_set (blk_set HSc.out 1 _) 3 _
        · refine ⟨Hfin.out q.mn q.mx _ (by rw [U2.out]; rw [if_neg (by omega)]) (by rw [U3.out]; rw [if_neg (by omega)]) ?_ ?_, by simp [intOf]; omega⟩
          · repeat (first | exact Chg.refl _ _ | refine Chg.drewN ?_ _ | refine Chg.drew ?_ | refine Chg.setCell ?_ _ _ (by simp))
          · exact blk_set HSc.out 1 _
    · have ht : l.take k = l := List.take_of_length_le (by omega)
      rw [ht] at HSc s1
      clear hS hR
      have r1 := blk_cell HRc.out
      have r2 := blk_free HRc.out
      go_wp2_with fail
      refine bodyPost_ret (v := sV (statS l)) (by simp [results, Try.results50, go_sem, sV, stat_c, r1]) rfl ⟨rfl, ?_⟩
      refine Hch.out.then (S' := [w.heap.size, w.heap.size + 1]) ?_ (by simp)
      repeat (first | exact Chg.refl _ _ | refine Chg.setCell ?_ _ _ (by simp))
end Go.Proofs.Ytmmhcacpehpjdaa
