/- Chapter 43: contracts of the reference: best. Condition: memories are permitted. -/
import Derived.Test.YtjbnfaapkicejaaPlcV
namespace Go.Proofs.Ytjbnfaapkicejaa
set_option linter.unusedVariables false
set_option linter.unusedSimpArgs false
open Go.RowKit
set_option maxHeartbeats 16000000 in
set_option maxRecDepth 100000 in
theorem rbest_any (aw : Option Addr) (cw : Nat) (ws : List Wk) (a : Option Addr) (c : Nat) (l : List Pl) (q : Pl) (w : World) (hw : SlIs wkC 3 w aw ws.length ws) (hwl : ws.length ≤ 4096)
    (h : SlIs plC 4 w a l.length l) (hl : l.length ≤ 4096) (hx : ∀ x ∈ ws, memB x.mem = true) (hm : ∀ q ∈ l, memB q.mem = true) :
    Calls Try.prog 31 #[.slice aw ws.length cw, .slice a l.length c, plV q] w fun e w' => e = .returned (.int .i64 (bestI ws l q)) ∧ Chg [] w w' := by
  have HW := Lib.hid hw
  have H := Lib.hid h
  have HX := Lib.hid hx
  have HM := Lib.hid hm
  obtain ⟨W1, hW1⟩ : ∃ W1, W1 = w.alloc (plO q) := ⟨_, rfl⟩
  have C1 := Lib.hid (show Chg [] w W1 by rw [hW1]; exact (Chg.refl _ _).alloc _)
  have X1 := Lib.hid (show W1.heap[w.heap.size]? = some (plO q) by rw [hW1]; exact heap_alloc_new _ _)
  unfold plO at hW1 X1
  unfold plV bestI
  have HW1 := Lib.hid hW1
  clear hw h hx hm hW1
  go_enter Try.func31, Try.ntmps31
  go_wp2_with fail
  go_loopw [7, 8, 9, 15] (fun at0 few fr i wr => ∃ (k : Nat) (n1 n2 : Int), i = .int .i64 k ∧ k ≤ ws.length ∧ at0 = .int .i64 (bestAt (fun x => possB x l q) (betB l q) ws k) ∧ few = .int .i64 n1 ∧ fr = .int .i64 n2 ∧ Hid (∀ (m : Nat) (hm : m < ws.length), bestAt (fun x => possB x l q) (betB l q) ws k = (m : Int) → n1 = (countS l q.tn ws[m].name : Nat) ∧ n2 = freeS ws[m] l) ∧ Hid (Chg [] W1 wr)) (fun _ _ _ i _ => ws.length - (intOf i).toNat)
  case atStart => rw [← HW1.out]; exact ⟨0, 0, 0, rfl, Nat.zero_le _, rfl, rfl, rfl, Lib.hid (fun m hm h => by simp [bestAt] at h), Lib.hid (Chg.refl _ _)⟩
  case round =>
    obtain ⟨k, n1, n2, rfl, hkl, rfl, rfl, rfl, HN, D⟩ := hrel
    have kx := blk_cell (D.out.at (by simp) X1.out)
    have lx := lt_of_heap (D.out.at (by simp) X1.out)
    by_cases hk : k < ws.length
    · obtain ⟨g1, o1, rfl, hgl, hbr1, hcc⟩ := HW.out.elem (C1.out.thenSame D.out) k hk
      have d0 := hcc 0 (by omega)
      have d1 := hcc 1 (by omega)
      have d2 := hcc 2 (by omega)
      have hk0 : (0 : Int) ≤ (k : Int) := by omega
      have hk1 : (k : Int) < (ws.length : Int) := by omega
      have hk2 : (ws.length : Int) ≤ 4096 := by omega
      obtain ⟨bl, bh⟩ := bestAt_bounds (fun x => possB x l q) (betB l q) ws k
      have E0 := fun h => bestAt_no (f := fun x => possB x l q) (g := betB l q) hk h
      have E1 := fun h h2 => bestAt_first (f := fun x => possB x l q) (g := betB l q) hk h h2
      have E2 := fun m hm h h2 => bestAt_more (f := fun x => possB x l q) (g := betB l q) (m := m) hk hm h h2
      have HNK := Lib.hid (show ∀ (m : Nat) (hm : m < ws.length), (m : Int) = (k : Int) → ((countS l q.tn ws[k].name : Nat) : Int) = (countS l q.tn ws[m].name : Nat) ∧ freeS ws[k] l = freeS ws[m] l from fun m hm e => by
        have : m = k := by omega
        subst this; exact ⟨rfl, rfl⟩)
      have hmx := HX.out ws[k] (List.getElem_mem hk)
      have hub := used_range l ws[k].name hl HM.out
      have hfu := free_used ws[k] l
      have hcl : countS l q.tn ws[k].name ≤ 4096 := Nat.le_trans List.countP_le_length hl
      have hbc := fun y => bet_cases l q ws[k] y
      have hps : possB ws[k] l q = (!ws[k].dr && decide (q.mem ≤ freeS ws[k] l)) := rfl
      have B8 : ∀ w1, Chg [] w w1 → ∀ d os, Calls Try.prog 41 #[.slice a l.length c, .string ws[k].name] (Go.Sort.grow (redrawn w1 d) os) fun e w'' => e = .returned (.int .i64 (usedS l ws[k].name)) ∧ ∃ p : Regrown, w'' = Go.Sort.grow (redrawn w1 p.d) p.os := fun w1 hc d os => calls_regrown ((used_any a c l ws[k].name (Go.Sort.grow (redrawn w1 d) os) (H.out.kept (hc.thenSame (chg_regrown _ d os))) hl HM.out).mono (fun e w' ⟨h1, h2⟩ => ⟨h1, h2 ▸ Chg.refl _ _⟩))
      have B9 : ∀ w1, Chg [] w w1 → ∀ d os, Calls Try.prog 49 #[.slice a l.length c, .string q.tn, .string ws[k].name] (Go.Sort.grow (redrawn w1 d) os) fun e w'' => e = .returned (.int .i64 (countS l q.tn ws[k].name : Nat)) ∧ ∃ p : Regrown, w'' = Go.Sort.grow (redrawn w1 p.d) p.os := fun w1 hc d os => calls_regrown ((count_any a c l q.tn ws[k].name (Go.Sort.grow (redrawn w1 d) os) (H.out.kept (hc.thenSame (chg_regrown _ d os))) hl).mono (fun e w' ⟨h1, h2⟩ => ⟨h1, h2 ▸ Chg.refl _ _⟩))
      generalize hxe : ws[k] = x at *
      simp only [wkC, List.getElem?_cons_zero, List.getElem?_cons_succ, Nat.add_zero] at d0 d1 d2
      unfold memB at hmx
      simp only [Bool.and_eq_true, decide_eq_true_eq] at hmx
      obtain ⟨hx1, hx2⟩ := hmx
      obtain ⟨hu1, hu2⟩ := hub
      have q0 := fun d os => ((below_regrown wr d os).cell (p := ⟨g1, o1 + k * 3, none⟩) hbr1).trans d0
      have q1 := fun d os => ((below_regrown wr d os).cell (p := ⟨g1, o1 + k * 3 + 1, none⟩) hbr1).trans d1
      generalize usedS l x.name = us at *
      generalize hfe : freeS x l = fx at *
      generalize countS l q.tn x.name = cx at *
      have hc0 : (0 : Int) ≤ (cx : Int) := by omega
      have hc1 : (cx : Int) ≤ 4096 := by omega
      have C2 := Lib.hid (C1.out.thenSame D.out)
      have X2 := Lib.hid (D.out.at (by simp) X1.out)
      have HB8 := Lib.hid (B8 wr C2.out)
      have HB9 := Lib.hid B9
      subst hfu
      clear hcc hxe B8 B9 kx
      go_wp2_with fail
      refine wp_region_quiet_below (by kernel_rfl) (by kernel_rfl) ?_
      repeat (any_goals (first | go_big_quiet_step (exact HB8.out _ _) | quiet_step (exact HB8.out _ _)))
      refine wpQuiet_nil ?_
      intro _ hw'
      obtain ⟨⟨dq, osq⟩, hw''⟩ := hw'
      subst hw''
      have C3 := Lib.hid (C2.out.thenSame (chg_regrown wr dq osq))
      have D3 := Lib.hid (D.out.thenSame (chg_regrown wr dq osq))
      have X3 := Lib.hid ((chg_regrown wr dq osq).at (by simp) X2.out)
      have e0 := q0 dq osq
      have e2 := (((below_regrown wr dq osq).cell (p := ⟨g1, o1 + k * 3 + 2, none⟩) hbr1).trans d2)
      have lr := Nat.lt_of_lt_of_le hbr1 (below_regrown wr dq osq).size
      clear q0 q1 HB8 d0 d1 d2 lx
      change Exit.then _ _ Exit.normal _ (Go.Sort.grow (redrawn wr dq) osq)
      generalize Go.Sort.grow (redrawn wr dq) osq = w3 at *
      have x3 := blk_cell X3.out
      have l3 := lt_of_heap X3.out
      have q0 := fun d os => ((below_regrown w3 d os).cell (p := ⟨g1, o1 + k * 3, none⟩) lr).trans e0
      have q1 := fun d os => ((below_regrown w3 d os).cell (p := ⟨w.heap.size, 1, none⟩) l3).trans (x3 1)
      have HB9' := Lib.hid (HB9.out w3 C3.out)
      go_wp2_with fail
      refine wp_region_quiet_below (by kernel_rfl) (by kernel_rfl) ?_
      repeat (any_goals (first | go_big_quiet_step (exact HB9'.out _ _) | quiet_step (exact HB9'.out _ _)))
      refine wpQuiet_nil ?_
      intro _ hw'
      obtain ⟨⟨dq, osq⟩, hw''⟩ := hw'
      subst hw''
      have C4 := Lib.hid (C3.out.thenSame (chg_regrown w3 dq osq))
      have D4 := Lib.hid (D3.out.thenSame (chg_regrown w3 dq osq))
      have X4 := Lib.hid ((chg_regrown w3 dq osq).at (by simp) X3.out)
      have e2' := (((below_regrown w3 dq osq).cell (p := ⟨g1, o1 + k * 3 + 2, none⟩) lr).trans e2)
      have lr' := Nat.lt_of_lt_of_le lr (below_regrown w3 dq osq).size
      clear q0 q1 HB9' HB9 e0 e2 lr x3 l3
      change Exit.then _ _ Exit.normal _ (Go.Sort.grow (redrawn w3 dq) osq)
      generalize Go.Sort.grow (redrawn w3 dq) osq = w4 at *
      have x4 := blk_cell X4.out
      have l4 := lt_of_heap X4.out
      cases hdr : x.dr
      case true =>
        have HE := Lib.hid (E0 (by show possB x l q = false; rw [hps, hdr]; rfl))
        clear E0 E1 E2 hps hbc
        generalize bestAt (fun x => possB x l q) (betB l q) ws k = n at *
        go_wp2_with fail
        exact ⟨⟨k + 1, n1, n2, by go_num, by omega, by rw [HE.out], rfl, rfl, Lib.hid (by rw [HE.out]; exact HN.out), D4⟩, by simp [intOf]; omega⟩
      by_cases hf : q.mem ≤ x.mem - us
      case neg =>
        have HE := Lib.hid (E0 (by show possB x l q = false; rw [hps, hdr, decide_eq_false hf]; rfl))
        have hf' : x.mem - us < q.mem := by omega
        clear E0 E1 E2 hps hbc
        generalize bestAt (fun x => possB x l q) (betB l q) ws k = n at *
        go_wp2_with fail
        exact ⟨⟨k + 1, n1, n2, by go_num, by omega, by rw [HE.out], rfl, rfl, Lib.hid (by rw [HE.out]; exact HN.out), D4⟩, by simp [intOf]; omega⟩
      have hpt : possB x l q = true := by rw [hps, hdr, decide_eq_true hf]; rfl
      by_cases hn : bestAt (fun x => possB x l q) (betB l q) ws k < 0
      · have HE := Lib.hid (E1 hpt hn)
        clear E0 E1 E2 hps hbc hpt
        generalize bestAt (fun x => possB x l q) (betB l q) ws k = n at *
        go_wp2_with fail
        exact ⟨⟨k + 1, (cx : Int), x.mem - us, by go_num, by omega, by rw [HE.out], rfl, rfl, Lib.hid (by rw [HE.out]; exact fun m hm e => HNK.out m hm e.symm), D4⟩, by simp [intOf]; omega⟩
      obtain ⟨m, hm⟩ : ∃ m : Nat, bestAt (fun x => possB x l q) (betB l q) ws k = (m : Int) := ⟨(bestAt (fun x => possB x l q) (betB l q) ws k).toNat, by omega⟩
      have hml : m < ws.length := by omega
      obtain ⟨hn1, hn2⟩ := HN.out m hml hm
      have he := E2 m hml hpt hm
      have hb := hbc ws[m]
      change bestAt _ _ _ _ = if betB l q x ws[m] = true then _ else _ at he
      rw [hb, ← hn2] at he
      generalize countS l q.tn ws[m].name = cy at *
      subst hn1
      have hy0 : (0 : Int) ≤ (cy : Int) := by omega
      rw [hm] at *
      have hmn : ¬ (m : Int) < 0 := by omega
      have hmn0 : (0 : Int) ≤ (m : Int) := by omega
      have HN2 := Lib.hid (show ∀ (m' : Nat) (hm' : m' < ws.length), (m : Int) = (m' : Int) → ((cy : Nat) : Int) = (countS l q.tn ws[m'].name : Nat) ∧ n2 = freeS ws[m'] l from HN.out)
      clear E0 E1 E2 hps hbc hpt HN hb hn2
      rcases Nat.lt_trichotomy cx cy with h | h | h
      · have HE : Hid (bestAt (fun x => possB x l q) (betB l q) ws (k + 1) = (k : Int)) := Lib.hid (by rw [he]; simp [h])
        have h' : (cx : Int) < (cy : Int) := by omega
        clear he
        go_wp2_with fail
        exact ⟨⟨k + 1, (cx : Int), x.mem - us, by go_num, by omega, by rw [HE.out], rfl, rfl, Lib.hid (by rw [HE.out]; exact fun m hm e => HNK.out m hm e.symm), D4⟩, by simp [intOf]; omega⟩
      · subst h
        by_cases h2 : n2 < x.mem - us
        · have HE : Hid (bestAt (fun x => possB x l q) (betB l q) ws (k + 1) = (k : Int)) := Lib.hid (by rw [he]; simp [h2])
          clear he
          go_wp2_with fail
          exact ⟨⟨k + 1, (cx : Int), x.mem - us, by go_num, by omega, by rw [HE.out], rfl, rfl, Lib.hid (by rw [HE.out]; exact fun m hm e => HNK.out m hm e.symm), D4⟩, by simp [intOf]; omega⟩
        · have HE : Hid (bestAt (fun x => possB x l q) (betB l q) ws (k + 1) = (m : Int)) := Lib.hid (by rw [he]; simp [h2])
          have h2' : x.mem - us ≤ n2 := by omega
          clear he
          go_wp2_with fail
          exact ⟨⟨k + 1, (cx : Int), n2, by go_num, by omega, by rw [HE.out], rfl, rfl, Lib.hid (by rw [HE.out]; exact HN2.out), D4⟩, by simp [intOf]; omega⟩
      · have HE : Hid (bestAt (fun x => possB x l q) (betB l q) ws (k + 1) = (m : Int)) := Lib.hid (by
          have h3 : ¬ cx < cy := by omega
          have h4 : ¬ cx = cy := by omega
          rw [he]; simp [h3, h4])
        have h3' : (cy : Int) < (cx : Int) := by omega
        have h4' : ((cx : Int) == (cy : Int)) = false := beq_eq_false_iff_ne.2 (by omega)
        clear he
        go_wp2_with fail
        exact ⟨⟨k + 1, (cy : Int), n2, by go_num, by omega, by rw [HE.out], rfl, rfl, Lib.hid (by rw [HE.out]; exact HN2.out), D4⟩, by simp [intOf]; omega⟩
    · have hks : k = ws.length := by omega
      subst hks
      go_wp2_with fail
      go_ret
      exact ⟨rfl, C1.out.thenSame D.out⟩
end Go.Proofs.Ytjbnfaapkicejaa
