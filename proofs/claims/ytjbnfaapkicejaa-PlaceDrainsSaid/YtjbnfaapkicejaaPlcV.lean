/- Chapter 43: contracts of the reference: Free, best. Condition: memories are permitted (best). -/
import Derived.Test.YtjbnfaapkicejaaPlcU
import Derived.Test.YtjbnfaapkicejaaPlcL
namespace Go.Proofs.Ytjbnfaapkicejaa
set_option linter.unusedVariables false
set_option linter.unusedSimpArgs false
open Go.RowKit
theorem used_range (l : List Pl) (s : ByteArray) (hl : l.length ≤ 4096) (hm : ∀ q ∈ l, memB q.mem = true) : 0 ≤ usedS l s ∧ usedS l s ≤ 4096000000000 := by
  have := used_bounds l s hm l.length (Nat.le_refl _)
  rw [List.take_length] at this
  omega
set_option maxHeartbeats 8000000 in
set_option maxRecDepth 100000 in
theorem rfree_any (aw : Option Addr) (cw : Nat) (ws : List Wk) (a : Option Addr) (c : Nat) (l : List Pl) (s : ByteArray) (w : World) (hw : SlIs wkC 3 w aw ws.length ws) (hwl : ws.length ≤ 4096) (hwc : ws.length ≤ cw) (hwg : ∀ x ∈ ws, x.good)
    (h : SlIs plC 4 w a l.length l) (hl : l.length ≤ 4096) (hlc : l.length ≤ c) (hg : ∀ x ∈ l, x.good) :
    Calls Try.prog 21 #[.slice aw ws.length cw, .slice a l.length c, .string s] w fun e w' => e = .returned (.tuple #[.int .i64 (freeP ws l s).1, .int .i64 (freeP ws l s).2]) ∧ Chg [] w w' := by
  have HW := Lib.hid hw
  have H := Lib.hid h
  have A1 := Lib.hid (rcheck_any aw cw ws a c l w hw hwl hwc hwg h hl hlc hg)
  have A2 := Lib.hid (fun w' (hc : Chg [] w w') => rworker_any aw cw ws s w' (HW.out.kept hc) hwl)
  obtain ⟨R, hR⟩ : ∃ R, R = freeP ws l s := ⟨_, rfl⟩
  rw [← hR]
  unfold freeP at hR
  have hz := @check_zero ws l
  generalize checkP ws l = E at *
  clear hw h hwg hg
  by_cases hE : E = 0
  case neg =>
    rw [if_neg hE] at hR
    subst hR
    have hE' : (E == 0) = false := by simpa using hE
    clear hz
    go_enter Try.func21, Try.ntmps21
    go_wp2_with fail
    refine A1.out.mono ?_; rintro e w1 ⟨rfl, hc1⟩
    have C1 := Lib.hid hc1
    clear hc1
    go_wp2_with fail
    go_ret2
    exact ⟨rfl, C1.out⟩
  rw [if_pos hE] at hR
  obtain ⟨z1, z2, z3, z4, z5⟩ := hz hE
  subst hE
  have Z4 := Lib.hid z4
  rcases idx_find (fun x => x.name == s) ws with ⟨hf, hi⟩ | ⟨i, hi0, hf, hi⟩
  · rw [hf] at hR
    subst hR
    have A2' := Lib.hid (fun w' (hc : Chg [] w w') => by have := A2.out w' hc; unfold wIdx at this; rw [hi] at this; exact this)
    clear hf hi z1 z2 z3 z4 z5 A2
    go_enter Try.func21, Try.ntmps21
    go_wp2_with fail
    refine A1.out.mono ?_; rintro e w1 ⟨rfl, hc1⟩
    have C1 := Lib.hid hc1
    clear hc1
    go_wp2_with fail
    refine (A2'.out _ C1.out).mono ?_; rintro e w2 ⟨rfl, rfl⟩
    go_wp2_with fail
    go_ret2
    exact ⟨rfl, C1.out⟩
  · rw [hf] at hR
    simp only at hR
    have hnm : ws[i].name = s := by
      have := List.find?_some hf
      exact eq_of_beq this
    rw [free_used, hnm] at hR
    have A2' := Lib.hid (fun w' (hc : Chg [] w w') => by have := A2.out w' hc; unfold wIdx at this; rw [hi] at this; exact this)
    have hmx := z3 ws[i] (List.getElem_mem hi0)
    have hel := fun w' (hc : Chg [] w w') => HW.out.elem hc i hi0
    have hub := used_range l s hl z4
    generalize ws[i] = x at *
    have HEl := Lib.hid hel
    have hi1 : (0 : Int) ≤ (i : Int) := by omega
    have hi2 : (i : Int) < (ws.length : Int) := by omega
    unfold memB at hmx
    simp only [Bool.and_eq_true, decide_eq_true_eq] at hmx
    obtain ⟨hx1, hx2⟩ := hmx
    obtain ⟨hu1, hu2⟩ := hub
    have HR := Lib.hid hR
    clear hf hi z1 z2 z3 z4 z5 A2 hel hnm hR
    go_enter Try.func21, Try.ntmps21
    go_wp2_with fail
    refine A1.out.mono ?_; rintro e w1 ⟨rfl, hc1⟩
    have C1 := Lib.hid hc1
    clear hc1
    go_wp2_with fail
    refine (A2'.out _ C1.out).mono ?_; rintro e w2 ⟨rfl, rfl⟩
    obtain ⟨g1, o1, rfl, hgl, hbr1, hcc⟩ := HEl.out w1 C1.out
    have d1 := hcc 1 (by omega)
    simp only [wkC, List.getElem?_cons_zero, List.getElem?_cons_succ, Nat.add_zero] at d1
    have B8 : ∀ d os, Calls Try.prog 41 #[.slice a l.length c, .string s] (Go.Sort.grow (redrawn w1 d) os) fun e w'' => e = .returned (.int .i64 (usedS l s)) ∧ ∃ p : Regrown, w'' = Go.Sort.grow (redrawn w1 p.d) p.os := fun d os => calls_regrown ((used_any a c l s (Go.Sort.grow (redrawn w1 d) os) (H.out.kept (C1.out.thenSame (chg_regrown _ d os))) hl Z4.out).mono (fun e w' ⟨h1, h2⟩ => ⟨h1, h2 ▸ Chg.refl _ _⟩))
    have q1 := fun d os => ((below_regrown w1 d os).cell (p := ⟨g1, o1 + i * 3 + 1, none⟩) hbr1).trans d1
    generalize usedS l s = us at *
    have HB8 := Lib.hid B8
    clear hcc B8
    go_wp2_with fail
    refine wp_region_quiet_below (by kernel_rfl) (by kernel_rfl) ?_
    repeat (any_goals (first | go_big_quiet_step (exact HB8.out _ _) | quiet_step (exact HB8.out _ _)))
    refine wpQuiet_nil ?_
    intro _ hw'
    obtain ⟨⟨dq, osq⟩, hw''⟩ := hw'
    subst hw''
    go_wp2_with fail
    go_ret2
    exact ⟨by rw [HR.out]; rfl, C1.out.thenSame (chg_regrown w1 dq osq)⟩
theorem bet_cases (l : List Pl) (q : Pl) (x y : Wk) : betB l q x y = (decide (countS l q.tn x.name < countS l q.tn y.name) || (decide (countS l q.tn x.name = countS l q.tn y.name) && decide (freeS y l < freeS x l))) := by
  unfold betB cmpI
  rw [crowd_count, crowd_count]
  generalize countS l q.tn x.name = cx
  generalize countS l q.tn y.name = cy
  generalize freeS y l = fy
  generalize freeS x l = fx
  rcases Nat.lt_trichotomy cx cy with h | h | h
  · have h1 : (cx : Int) < (cy : Int) := by omega
    simp [h, h1]
  · subst h
    rcases Int.lt_trichotomy fy fx with h2 | h2 | h2
    · simp [h2]
    · subst h2; simp
    · have h3 : ¬ fy < fx := by omega
      simp [h2, h3]
  · have h1 : ¬ (cx : Int) < (cy : Int) := by omega
    have h2 : (cy : Int) < (cx : Int) := by omega
    have h3 : ¬ cx < cy := by omega
    have h4 : ¬ cx = cy := by omega
    simp [h1, h2, h3, h4]
end Go.Proofs.Ytjbnfaapkicejaa
