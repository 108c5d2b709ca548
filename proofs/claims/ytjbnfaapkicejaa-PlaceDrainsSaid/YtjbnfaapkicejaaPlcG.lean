/- Chapter 43: contracts: how many placements of a tenant a worker has; comparisons. No condition. -/
import Derived.Test.YtjbnfaapkicejaaPlcF
namespace Go.Proofs.Ytjbnfaapkicejaa
set_option linter.unusedVariables false
set_option linter.unusedSimpArgs false
open Go.RowKit
theorem isnan_any (n : Int) (w : World) : Calls Try.prog 71 #[.int .i64 n] w fun e w' => e = .returned (.bool false) ∧ w = w' := by
  go_enter Try.func71, Try.ntmps71
  go_wp2
  go_ret
  exact ⟨by simp, rfl⟩
def cmpI (a b : Int) : Int := if a < b then -1 else if b < a then 1 else 0
theorem cmpi_any (a b : Int) (w : World) : Calls Try.prog 56 #[.int .i64 a, .int .i64 b] w fun e w' => e = .returned (.int .i64 (cmpI a b)) ∧ w = w' := by
  have hcs : (a < b ∧ cmpI a b = -1) ∨ (¬ a < b ∧ b < a ∧ cmpI a b = 1) ∨ (¬ a < b ∧ ¬ b < a ∧ cmpI a b = 0) := by
    unfold cmpI
    by_cases h1 : a < b
    · exact .inl ⟨h1, by rw [if_pos h1]⟩
    · by_cases h2 : b < a
      · exact .inr (.inl ⟨h1, h2, by rw [if_neg h1, if_pos h2]⟩)
      · exact .inr (.inr ⟨h1, h2, by rw [if_neg h1, if_neg h2]⟩)
  generalize cmpI a b = R at *
  rcases hcs with ⟨h1, rfl⟩ | ⟨h1, h2, rfl⟩ | ⟨h1, h2, rfl⟩
  all_goals
    go_enter Try.func56, Try.ntmps56
    go_wp2_with (first | (go_at_call 71; (with_reducible refine (isnan_any _ _).mono ?_); rintro e w1 ⟨rfl, rfl⟩))
    go_ret
    exact ⟨rfl, rfl⟩
def crowdS (l : List Pl) (q : Pl) (x : Wk) : Nat := l.countP (fun y => y.wk == x.name && y.tn == q.tn)
theorem crowd_step (l : List Pl) (q : Pl) (x : Wk) (k : Nat) (h : k < l.length) : crowdS (l.take (k + 1)) q x = crowdS (l.take k) q x + if (l[k].wk == x.name && l[k].tn == q.tn) = true then 1 else 0 := by
  unfold crowdS
  rw [List.take_succ_eq_append_getElem h, List.countP_append]
  simp [List.countP_cons]
set_option maxHeartbeats 8000000 in
set_option maxRecDepth 100000 in
theorem crowd_any (a : Option Addr) (c : Nat) (l : List Pl) (q : Pl) (x : Wk) (t1 t2 : Nat) (w : World) (h : SlIs plC 4 w a l.length l) (hl : l.length ≤ 4096)
    (h1 : w.heap[t1]? = some (.cells #[.slice a l.length c] 23 (0, 0))) (h2 : w.heap[t2]? = some (plO q)) : Calls Try.prog 52 #[wkV x, .pointer (some ⟨t1, 0, none⟩), .pointer (some ⟨t2, 0, none⟩)] w fun e w' => e = .returned (.int .i64 (crowdS l q x : Nat)) ∧ Chg [] w w' := by
  have H := Lib.hid h
  obtain ⟨W1, hW1⟩ : ∃ W1, W1 = w.alloc (wkO x) := ⟨_, rfl⟩
  have C1 := Lib.hid (show Chg [] w W1 by rw [hW1]; exact (Chg.refl _ _).alloc _)
  have X1 := Lib.hid (show W1.heap[w.heap.size]? = some (wkO x) by rw [hW1]; exact heap_alloc_new _ _)
  have X2 := Lib.hid (C1.out.at (by simp) h1)
  have X3 := Lib.hid (C1.out.at (by simp) h2)
  have y2 := blk_cell h1
  have ly2 := lt_of_heap h1
  unfold wkO at hW1 X1
  unfold plO at X3
  have HW1 := Lib.hid hW1
  unfold wkV
  clear h h1 h2 hW1
  go_enter Try.func52, Try.ntmps52
  go_wp2_with fail
  go_loopw [5, 10] (fun n i wr => ∃ k : Nat, i = .int .i64 k ∧ k ≤ l.length ∧ n = .int .i64 (crowdS (l.take k) q x : Nat) ∧ Hid (Chg [] W1 wr)) (fun _ i _ => l.length - (intOf i).toNat)
  case atStart => rw [← HW1.out]; exact ⟨0, rfl, Nat.zero_le _, by simp [crowdS], Lib.hid (Chg.refl _ _)⟩
  case round =>
    obtain ⟨k, rfl, hkl, rfl, D⟩ := hrel
    have kx := blk_cell (D.out.at (by simp) X1.out)
    have lx := lt_of_heap (D.out.at (by simp) X1.out)
    have kq := blk_cell (D.out.at (by simp) X3.out)
    have lq := lt_of_heap (D.out.at (by simp) X3.out)
    by_cases hk : k < l.length
    · obtain ⟨g1, o1, rfl, -, hbr1, hcc⟩ := H.out.elem (C1.out.thenSame D.out) k hk
      have d0 := hcc 0 (by omega)
      have d1 := hcc 1 (by omega)
      have d2 := hcc 2 (by omega)
      have d3 := hcc 3 (by omega)
      have hst := crowd_step l q x k hk
      have hcl : crowdS (l.take k) q x ≤ 4096 := Nat.le_trans List.countP_le_length (by rw [List.length_take]; omega)
      rw [beq_toListBytes, beq_toListBytes l[k].tn] at hst
      generalize l[k] = y at *
      simp only [plC, List.getElem?_cons_zero, List.getElem?_cons_succ, Nat.add_zero] at d0 d1 d2 d3
      have hk0 : (0 : Int) ≤ (k : Int) := by omega
      have hk1 : (k : Int) < (l.length : Int) := by omega
      generalize crowdS (l.take k) q x = n at *
      have HST := Lib.hid hst
      have hn0 : (0 : Int) ≤ (n : Int) := by omega
      have hn1 : (n : Int) ≤ 4096 := by omega
      clear hcc hst hcl
      cases q1 : y.wk.toList == x.name.toList <;> cases q2 : y.tn.toList == q.tn.toList
      all_goals
        go_wp2_with fail
        exact ⟨⟨k + 1, by go_num, by omega, by rw [HST.out, q1, q2]; simp, Lib.hid (D.out.alloc _)⟩, by simp [intOf]; omega⟩
    · have hks : k = l.length := by omega
      subst hks
      rw [List.take_length] at *
      go_wp2_with fail
      go_ret
      exact ⟨rfl, C1.out.thenSame D.out⟩
end Go.Proofs.Ytjbnfaapkicejaa
