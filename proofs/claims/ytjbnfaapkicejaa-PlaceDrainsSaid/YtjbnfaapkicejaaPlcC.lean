/- Chapter 43: contracts: free. Condition: memories are permitted. -/
import Derived.Test.YtjbnfaapkicejaaPlcB
namespace Go.Proofs.Ytjbnfaapkicejaa
set_option linter.unusedVariables false
set_option linter.unusedSimpArgs false
open Go.RowKit
def wkO (x : Wk) : Obj := .cells #[.string x.name, .int .i64 x.mem, .bool x.dr] 36
theorem free_step (x : Wk) (l : List Pl) (k : Nat) (h : k < l.length) : freeS x (l.take (k + 1)) = if (l[k].wk == x.name) = true then freeS x (l.take k) - l[k].mem else freeS x (l.take k) := by
  unfold freeS
  rw [List.take_succ_eq_append_getElem h, List.foldl_append]
  rfl
theorem free_bounds (x : Wk) (l : List Pl) (hm : ∀ q ∈ l, memB q.mem = true) : ∀ k, k ≤ l.length → x.mem - (k : Int) * 1000000000 ≤ freeS x (l.take k) ∧ freeS x (l.take k) ≤ x.mem := by
  intro k
  induction k with
  | zero => intro _; simp [freeS]
  | succ k ih =>
    intro hk
    obtain ⟨h1, h2⟩ := ih (by omega)
    have hq := hm l[k] (List.getElem_mem (by omega))
    unfold memB at hq
    simp only [Bool.and_eq_true, decide_eq_true_eq] at hq
    rw [free_step x l k (by omega)]
    split <;> constructor <;> (try omega)
set_option maxHeartbeats 4000000 in
set_option maxRecDepth 100000 in
theorem free_any (a : Option Addr) (c : Nat) (l : List Pl) (x : Wk) (w : World) (h : SlIs plC 4 w a l.length l) (hl : l.length ≤ 4096) (hm : ∀ q ∈ l, memB q.mem = true) (hx : memB x.mem = true) : Calls Try.prog 34 #[wkV x, .slice a l.length c] w fun e w' => e = .returned (.int .i64 (freeS x l)) ∧ Chg [] w w' := by
  have H := Lib.hid h
  have C1 := Lib.hid (show Chg [] w (w.alloc (wkO x)) from (Chg.refl _ _).alloc _)
  have X1 := Lib.hid (heap_alloc_new w (wkO x))
  have HM := Lib.hid hm
  have HB := Lib.hid (free_bounds x l hm)
  unfold memB at hx
  simp only [Bool.and_eq_true, decide_eq_true_eq] at hx
  obtain ⟨hx1, hx2⟩ := hx
  obtain ⟨W1, hW1⟩ : ∃ W1, W1 = w.alloc (wkO x) := ⟨_, rfl⟩
  rw [← hW1] at C1 X1
  unfold wkO at hW1 X1
  have HW1 := Lib.hid hW1
  unfold wkV
  clear h hm hW1
  go_enter Try.func34, Try.ntmps34
  go_wp2_with fail
  go_loopw [5, 12] (fun n i wr => ∃ k : Nat, i = .int .i64 k ∧ k ≤ l.length ∧ n = .int .i64 (freeS x (l.take k)) ∧ Hid (Chg [] W1 wr)) (fun _ i _ => l.length - (intOf i).toNat)
  case atStart => rw [← HW1.out]; exact ⟨0, rfl, Nat.zero_le _, rfl, Lib.hid (Chg.refl _ _)⟩
  case round =>
    obtain ⟨k, rfl, hkl, rfl, D⟩ := hrel
    have hbd := HB.out k hkl
    have kx := blk_cell (D.out.at (by simp) X1.out)
    have lx := lt_of_heap (D.out.at (by simp) X1.out)
    by_cases hk : k < l.length
    · obtain ⟨g1, o1, rfl, -, hbr1, hcc⟩ := H.out.elem (C1.out.thenSame D.out) k hk
      have d0 := hcc 0 (by omega)
      have d1 := hcc 1 (by omega)
      have d2 := hcc 2 (by omega)
      have d3 := hcc 3 (by omega)
      have hst := free_step x l k hk
      have hqm := HM.out l[k] (List.getElem_mem hk)
      rw [beq_toListBytes] at hst
      generalize l[k] = q at *
      simp only [plC, List.getElem?_cons_zero, List.getElem?_cons_succ, Nat.add_zero] at d0 d1 d2 d3
      have hk0 : (0 : Int) ≤ (k : Int) := by omega
      have hk1 : (k : Int) < (l.length : Int) := by omega
      obtain ⟨hb1, hb2⟩ := hbd
      generalize freeS x (l.take k) = n at *
      obtain ⟨n', hn'⟩ : ∃ n', n' = freeS x (l.take (k + 1)) := ⟨_, rfl⟩
      rw [← hn'] at hst
      have HN' := Lib.hid hn'
      clear hn'
      unfold memB at hqm
      simp only [Bool.and_eq_true, decide_eq_true_eq] at hqm
      obtain ⟨hm1, hm2⟩ := hqm
      have hk2 : (k : Int) ≤ 4096 := by omega
      have hnn : -4096000000000 ≤ n := by omega
      have hnn2 : n ≤ 1000000000 := by omega
      have HST := Lib.hid hst
      clear hcc hst hb1
      cases hq : q.wk.toList == x.name.toList
      · have HE : Hid (n' = n) := Lib.hid (by rw [HST.out, hq]; rfl)
        go_wp2_with fail
        exact ⟨⟨k + 1, by go_num, by omega, by rw [← HN'.out, HE.out], Lib.hid (D.out.alloc _)⟩, by simp [intOf]; omega⟩
      · have HE : Hid (n' = n - q.mem) := Lib.hid (by rw [HST.out, hq]; rfl)
        go_wp2_with fail
        exact ⟨⟨k + 1, by go_num, by omega, by rw [← HN'.out, HE.out], Lib.hid (D.out.alloc _)⟩, by simp [intOf]; omega⟩
    · have hks : k = l.length := by omega
      subst hks
      rw [List.take_length] at *
      go_wp2_with fail
      go_ret
      exact ⟨rfl, C1.out.thenSame D.out⟩
end Go.Proofs.Ytjbnfaapkicejaa
