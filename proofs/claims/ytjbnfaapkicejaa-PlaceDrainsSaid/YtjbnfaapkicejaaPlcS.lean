/- Chapter 43: contracts of the reference: worker, find, used, count, memory. Condition: memories are permitted (used). -/
import Derived.Test.YtjbnfaapkicejaaPlcG
namespace Go.Proofs.Ytjbnfaapkicejaa
set_option linter.unusedVariables false
set_option linter.unusedSimpArgs false
open Go.RowKit
theorem rmemory_any (n : Int) (w : World) : Calls Try.prog 60 #[.int .i64 n] w fun e w' => e = .returned (.bool (memB n)) ∧ w = w' := by
  by_cases h1 : 1 ≤ n
  · go_enter Try.func60, Try.ntmps60
    go_wp2
    go_ret
    exact ⟨by simp [memB, h1], rfl⟩
  · go_enter Try.func60, Try.ntmps60
    go_wp2
    go_ret
    exact ⟨by simp [memB, h1]; try omega, rfl⟩
set_option maxHeartbeats 4000000 in
set_option maxRecDepth 100000 in
theorem rworker_any (a : Option Addr) (c : Nat) (l : List Wk) (s : ByteArray) (w : World) (h : SlIs wkC 3 w a l.length l) (hl : l.length ≤ 4096) :
    Calls Try.prog 36 #[.slice a l.length c, .string s] w fun e w' => e = .returned (.int .i64 (wIdx l s)) ∧ w = w' := by
  have H := Lib.hid h
  obtain ⟨R, hR⟩ : ∃ R, R = wIdx l s := ⟨_, rfl⟩
  rw [← hR]
  have HR := Lib.hid hR
  clear h hR
  go_enter Try.func36, Try.ntmps36
  go_wp2_with fail
  go_loop [8] (fun i => ∃ k : Nat, i = .int .i64 k ∧ k ≤ l.length ∧ Hid ((l.take k).any (fun x => x.name == s) = false)) (fun i => l.length - (intOf i).toNat)
  case atStart => exact ⟨0, rfl, Nat.zero_le _, Lib.hid (by simp)⟩
  case round =>
    obtain ⟨k, rfl, hkl, HA⟩ := hrel
    by_cases hk : k < l.length
    · obtain ⟨g1, o1, rfl, -, hbr1, hcc⟩ := H.out.elem (Chg.refl [] w) k hk
      have d0 := hcc 0 (by omega)
      have hst := any_step (fun x : Wk => x.name == s) l k hk
      rw [HA.out, Bool.false_or] at hst
      have hhit := fun h => (HR.out.trans (idx_hit (f := fun x : Wk => x.name == s) hk HA.out h))
      generalize l[k] = x at *
      simp only [wkC, List.getElem?_cons_zero, List.getElem?_cons_succ, Nat.add_zero] at d0
      rw [beq_toListBytes] at hst hhit
      have hk0 : (0 : Int) ≤ (k : Int) := by omega
      have hk1 : (k : Int) < (l.length : Int) := by omega
      clear hcc
      cases hq : x.name.toList == s.toList
      · rw [hq] at hst
        have HST := Lib.hid hst
        clear hst hhit
        go_wp2_with fail
        exact ⟨⟨k + 1, by go_num, by omega, HST⟩, by simp [intOf]; omega⟩
      · have HH := Lib.hid (hhit hq)
        clear hst hhit
        go_wp2_with fail
        go_ret
        exact ⟨by rw [HH.out]; rfl, rfl⟩
    · have hks : k = l.length := by omega
      subst hks
      have HE : Hid (R = -1) := Lib.hid (by
        have := HA.out
        rw [List.take_length] at this
        exact HR.out.trans (idx_miss this))
      go_wp2_with fail
      go_ret
      exact ⟨by rw [HE.out]; rfl, rfl⟩
set_option maxHeartbeats 4000000 in
set_option maxRecDepth 100000 in
theorem rfind_any (a : Option Addr) (c : Nat) (l : List Pl) (s : ByteArray) (w : World) (h : SlIs plC 4 w a l.length l) (hl : l.length ≤ 4096) :
    Calls Try.prog 45 #[.slice a l.length c, .string s] w fun e w' => e = .returned (.int .i64 (pIdx l s)) ∧ w = w' := by
  have H := Lib.hid h
  obtain ⟨R, hR⟩ : ∃ R, R = pIdx l s := ⟨_, rfl⟩
  rw [← hR]
  have HR := Lib.hid hR
  clear h hR
  go_enter Try.func45, Try.ntmps45
  go_wp2_with fail
  go_loop [8] (fun i => ∃ k : Nat, i = .int .i64 k ∧ k ≤ l.length ∧ Hid ((l.take k).any (fun x => x.id == s) = false)) (fun i => l.length - (intOf i).toNat)
  case atStart => exact ⟨0, rfl, Nat.zero_le _, Lib.hid (by simp)⟩
  case round =>
    obtain ⟨k, rfl, hkl, HA⟩ := hrel
    by_cases hk : k < l.length
    · obtain ⟨g1, o1, rfl, -, hbr1, hcc⟩ := H.out.elem (Chg.refl [] w) k hk
      have d0 := hcc 0 (by omega)
      have hst := any_step (fun x : Pl => x.id == s) l k hk
      rw [HA.out, Bool.false_or] at hst
      have hhit := fun h => (HR.out.trans (idx_hit (f := fun x : Pl => x.id == s) hk HA.out h))
      generalize l[k] = x at *
      simp only [plC, List.getElem?_cons_zero, List.getElem?_cons_succ, Nat.add_zero] at d0
      rw [beq_toListBytes] at hst hhit
      have hk0 : (0 : Int) ≤ (k : Int) := by omega
      have hk1 : (k : Int) < (l.length : Int) := by omega
      clear hcc
      cases hq : x.id.toList == s.toList
      · rw [hq] at hst
        have HST := Lib.hid hst
        clear hst hhit
        go_wp2_with fail
        exact ⟨⟨k + 1, by go_num, by omega, HST⟩, by simp [intOf]; omega⟩
      · have HH := Lib.hid (hhit hq)
        clear hst hhit
        go_wp2_with fail
        go_ret
        exact ⟨by rw [HH.out]; rfl, rfl⟩
    · have hks : k = l.length := by omega
      subst hks
      have HE : Hid (R = -1) := Lib.hid (by
        have := HA.out
        rw [List.take_length] at this
        exact HR.out.trans (idx_miss this))
      go_wp2_with fail
      go_ret
      exact ⟨by rw [HE.out]; rfl, rfl⟩
def usedS (l : List Pl) (s : ByteArray) : Int := l.foldl (fun n q => if (q.wk == s) = true then n + q.mem else n) 0
theorem used_step (l : List Pl) (s : ByteArray) (k : Nat) (h : k < l.length) : usedS (l.take (k + 1)) s = if (l[k].wk == s) = true then usedS (l.take k) s + l[k].mem else usedS (l.take k) s := by
  unfold usedS
  rw [List.take_succ_eq_append_getElem h, List.foldl_append]
  rfl
theorem used_append (l m : List Pl) (s : ByteArray) : usedS (l ++ m) s = usedS l s + usedS m s := by
  have key : ∀ (m : List Pl) (n : Int), m.foldl (fun n q => if (q.wk == s) = true then n + q.mem else n) n = n + usedS m s := by
    intro m
    induction m with
    | nil => intro n; simp [usedS]
    | cons q m ih =>
      intro n
      rw [List.foldl_cons, ih, show usedS (q :: m) s = m.foldl (fun n q => if (q.wk == s) = true then n + q.mem else n) (if (q.wk == s) = true then 0 + q.mem else 0) from rfl, ih]
      split <;> omega
  unfold usedS
  rw [List.foldl_append]
  exact key m _
theorem free_used (x : Wk) (l : List Pl) : freeS x l = x.mem - usedS l x.name := by
  have key : ∀ (m : List Pl) (n u : Int), m.foldl (fun n q => if (q.wk == x.name) = true then n - q.mem else n) (n - u) = n - m.foldl (fun n q => if (q.wk == x.name) = true then n + q.mem else n) u := by
    intro m
    induction m with
    | nil => intro n u; rfl
    | cons q m ih =>
      intro n u
      rw [List.foldl_cons, List.foldl_cons]
      split
      · rw [← ih]; congr 1; omega
      · exact ih n u
  have := key l x.mem 0
  rw [Int.sub_zero] at this
  exact this
theorem used_bounds (l : List Pl) (s : ByteArray) (hm : ∀ q ∈ l, memB q.mem = true) : ∀ k, k ≤ l.length → 0 ≤ usedS (l.take k) s ∧ usedS (l.take k) s ≤ (k : Int) * 1000000000 := by
  intro k
  induction k with
  | zero => intro _; simp [usedS]
  | succ k ih =>
    intro hk
    obtain ⟨h1, h2⟩ := ih (by omega)
    have hq := hm l[k] (List.getElem_mem (by omega))
    unfold memB at hq
    simp only [Bool.and_eq_true, decide_eq_true_eq] at hq
    rw [used_step l s k (by omega)]
    split <;> constructor <;> (try omega)
set_option maxHeartbeats 4000000 in
set_option maxRecDepth 100000 in
theorem used_any (a : Option Addr) (c : Nat) (l : List Pl) (s : ByteArray) (w : World) (h : SlIs plC 4 w a l.length l) (hl : l.length ≤ 4096) (hm : ∀ q ∈ l, memB q.mem = true) : Calls Try.prog 41 #[.slice a l.length c, .string s] w fun e w' => e = .returned (.int .i64 (usedS l s)) ∧ w = w' := by
  have H := Lib.hid h
  have HM := Lib.hid hm
  have HB := Lib.hid (used_bounds l s hm)
  clear h hm
  go_enter Try.func41, Try.ntmps41
  go_wp2_with fail
  go_loop [5, 9] (fun n i => ∃ k : Nat, i = .int .i64 k ∧ k ≤ l.length ∧ n = .int .i64 (usedS (l.take k) s)) (fun _ i => l.length - (intOf i).toNat)
  case atStart => exact ⟨0, rfl, Nat.zero_le _, rfl⟩
  case round =>
    obtain ⟨k, rfl, hkl, rfl⟩ := hrel
    have hbd := HB.out k hkl
    by_cases hk : k < l.length
    · obtain ⟨g1, o1, rfl, -, hbr1, hcc⟩ := H.out.elem (Chg.refl [] w) k hk
      have d2 := hcc 2 (by omega)
      have d3 := hcc 3 (by omega)
      have hst := used_step l s k hk
      have hqm := HM.out l[k] (List.getElem_mem hk)
      rw [beq_toListBytes] at hst
      generalize l[k] = q at *
      simp only [plC, List.getElem?_cons_zero, List.getElem?_cons_succ, Nat.add_zero] at d2 d3
      have hk0 : (0 : Int) ≤ (k : Int) := by omega
      have hk1 : (k : Int) < (l.length : Int) := by omega
      obtain ⟨hb1, hb2⟩ := hbd
      generalize usedS (l.take k) s = n at *
      obtain ⟨n', hn'⟩ : ∃ n', n' = usedS (l.take (k + 1)) s := ⟨_, rfl⟩
      rw [← hn'] at hst
      have HN' := Lib.hid hn'
      clear hn'
      unfold memB at hqm
      simp only [Bool.and_eq_true, decide_eq_true_eq] at hqm
      obtain ⟨hm1, hm2⟩ := hqm
      have hnn : n ≤ 4096000000000 := by omega
      have HST := Lib.hid hst
      clear hcc hst hb2
      cases hq : q.wk.toList == s.toList
      · have HE : Hid (n' = n) := Lib.hid (by rw [HST.out, hq]; rfl)
        go_wp2_with fail
        exact ⟨⟨k + 1, by go_num, by omega, by rw [← HN'.out, HE.out]⟩, by simp [intOf]; omega⟩
      · have HE : Hid (n' = n + q.mem) := Lib.hid (by rw [HST.out, hq]; rfl)
        go_wp2_with fail
        exact ⟨⟨k + 1, by go_num, by omega, by rw [← HN'.out, HE.out]⟩, by simp [intOf]; omega⟩
    · have hks : k = l.length := by omega
      subst hks
      rw [List.take_length] at *
      go_wp2_with fail
      go_ret
      exact ⟨rfl, rfl⟩
def countS (l : List Pl) (tn s : ByteArray) : Nat := l.countP (fun y => y.tn == tn && y.wk == s)
theorem count_step (l : List Pl) (tn s : ByteArray) (k : Nat) (h : k < l.length) : countS (l.take (k + 1)) tn s = countS (l.take k) tn s + if (l[k].tn == tn && l[k].wk == s) = true then 1 else 0 := by
  unfold countS
  rw [List.take_succ_eq_append_getElem h, List.countP_append]
  simp [List.countP_cons]
theorem crowd_count (l : List Pl) (q : Pl) (x : Wk) : crowdS l q x = countS l q.tn x.name := by
  unfold crowdS countS
  congr 1
  funext y
  exact Bool.and_comm _ _
set_option maxHeartbeats 4000000 in
set_option maxRecDepth 100000 in
theorem count_any (a : Option Addr) (c : Nat) (l : List Pl) (tn s : ByteArray) (w : World) (h : SlIs plC 4 w a l.length l) (hl : l.length ≤ 4096) : Calls Try.prog 49 #[.slice a l.length c, .string tn, .string s] w fun e w' => e = .returned (.int .i64 (countS l tn s : Nat)) ∧ w = w' := by
  have H := Lib.hid h
  clear h
  go_enter Try.func49, Try.ntmps49
  go_wp2_with fail
  go_loop [7, 11] (fun n i => ∃ k : Nat, i = .int .i64 k ∧ k ≤ l.length ∧ n = .int .i64 (countS (l.take k) tn s : Nat)) (fun _ i => l.length - (intOf i).toNat)
  case atStart => exact ⟨0, rfl, Nat.zero_le _, by simp [countS]⟩
  case round =>
    obtain ⟨k, rfl, hkl, rfl⟩ := hrel
    by_cases hk : k < l.length
    · obtain ⟨g1, o1, rfl, -, hbr1, hcc⟩ := H.out.elem (Chg.refl [] w) k hk
      have d1 := hcc 1 (by omega)
      have d3 := hcc 3 (by omega)
      have hst := count_step l tn s k hk
      have hcl : countS (l.take k) tn s ≤ 4096 := Nat.le_trans List.countP_le_length (by rw [List.length_take]; omega)
      rw [beq_toListBytes, beq_toListBytes l[k].wk] at hst
      generalize l[k] = q at *
      simp only [plC, List.getElem?_cons_zero, List.getElem?_cons_succ, Nat.add_zero] at d1 d3
      have hk0 : (0 : Int) ≤ (k : Int) := by omega
      have hk1 : (k : Int) < (l.length : Int) := by omega
      generalize countS (l.take k) tn s = n at *
      have HST := Lib.hid hst
      have hn0 : (0 : Int) ≤ (n : Int) := by omega
      have hn1 : (n : Int) ≤ 4096 := by omega
      clear hcc hst hcl
      cases q1 : q.tn.toList == tn.toList <;> cases q2 : q.wk.toList == s.toList
      all_goals
        go_wp2_with fail
        exact ⟨⟨k + 1, by go_num, by omega, by rw [HST.out, q1, q2]; simp⟩, by simp [intOf]; omega⟩
    · have hks : k = l.length := by omega
      subst hks
      rw [List.take_length] at *
      go_wp2_with fail
      go_ret
      exact ⟨rfl, rfl⟩
set_option maxHeartbeats 4000000 in
set_option maxRecDepth 100000 in
theorem tenants_any (a : Option Addr) (c : Nat) (l : List Pl) (tn s : ByteArray) (w : World) (h : SlIs plC 4 w a l.length l) (hl : l.length ≤ 4096) : Calls Try.prog 15 #[.slice a l.length c, .string tn, .string s] w fun e w' => e = .returned (.int .i64 (countS l tn s : Nat)) ∧ w = w' := by
  have H := Lib.hid h
  clear h
  go_enter Try.func15, Try.ntmps15
  go_wp2_with fail
  go_loop [7, 11] (fun n i => ∃ k : Nat, i = .int .i64 k ∧ k ≤ l.length ∧ n = .int .i64 (countS (l.take k) tn s : Nat)) (fun _ i => l.length - (intOf i).toNat)
  case atStart => exact ⟨0, rfl, Nat.zero_le _, by simp [countS]⟩
  case round =>
    obtain ⟨k, rfl, hkl, rfl⟩ := hrel
    by_cases hk : k < l.length
    · obtain ⟨g1, o1, rfl, -, hbr1, hcc⟩ := H.out.elem (Chg.refl [] w) k hk
      have d1 := hcc 1 (by omega)
      have d3 := hcc 3 (by omega)
      have hst := count_step l tn s k hk
      have hcl : countS (l.take k) tn s ≤ 4096 := Nat.le_trans List.countP_le_length (by rw [List.length_take]; omega)
      rw [beq_toListBytes, beq_toListBytes l[k].wk] at hst
      generalize l[k] = q at *
      simp only [plC, List.getElem?_cons_zero, List.getElem?_cons_succ, Nat.add_zero] at d1 d3
      have hk0 : (0 : Int) ≤ (k : Int) := by omega
      have hk1 : (k : Int) < (l.length : Int) := by omega
      generalize countS (l.take k) tn s = n at *
      have HST := Lib.hid hst
      have hn0 : (0 : Int) ≤ (n : Int) := by omega
      have hn1 : (n : Int) ≤ 4096 := by omega
      clear hcc hst hcl
      cases q1 : q.tn.toList == tn.toList <;> cases q2 : q.wk.toList == s.toList
      all_goals
        go_wp2_with fail
        exact ⟨⟨k + 1, by go_num, by omega, by rw [HST.out, q1, q2]; simp⟩, by simp [intOf]; omega⟩
    · have hks : k = l.length := by omega
      subst hks
      rw [List.take_length] at *
      go_wp2_with fail
      go_ret
      exact ⟨rfl, rfl⟩
end Go.Proofs.Ytjbnfaapkicejaa
