/- Chapter 43: contracts of the reference: Small, Spread. No condition. -/
import Derived.Lib.QuietBelow
import Derived.Test.YtjbnfaapkicejaaPlcE
import Derived.Test.YtjbnfaapkicejaaPlcS
namespace Go.Proofs.Ytjbnfaapkicejaa
set_option linter.unusedVariables false
set_option linter.unusedSimpArgs false
open Go.RowKit
def smallW (x : Wk) : Bool := decide (x.name.size ≤ 300)
def smallP (y : Pl) : Bool := decide (y.id.size ≤ 300) && decide (y.tn.size ≤ 300) && decide (y.wk.size ≤ 300)
def smallB2 (ws : List Wk) (l : List Pl) : Bool := decide (ws.length ≤ 20) && decide (l.length ≤ 300) && ws.all smallW && l.all smallP
theorem all_step {α : Type} (f : α → Bool) (l : List α) (k : Nat) (h : k < l.length) : (l.take (k + 1)).all f = ((l.take k).all f && f l[k]) := by
  rw [List.take_succ_eq_append_getElem h, List.all_append]; simp
theorem all_no {α : Type} {f : α → Bool} {l : List α} {k : Nat} (hk : k < l.length) (h : f l[k] = false) : l.all f = false :=
  List.all_eq_false.2 ⟨l[k], List.getElem_mem hk, by simp [h]⟩
set_option maxHeartbeats 8000000 in
set_option maxRecDepth 100000 in
theorem smallF_any (aw : Option Addr) (cw : Nat) (ws : List Wk) (a : Option Addr) (c : Nat) (l : List Pl) (w : World) (hw : SlIs wkC 3 w aw ws.length ws) (hwl : ws.length ≤ maxLen) (hwg : ∀ x ∈ ws, x.good)
    (h : SlIs plC 4 w a l.length l) (hl : l.length ≤ maxLen) (hg : ∀ x ∈ l, x.good) :
    Calls Try.prog 8 #[.slice aw ws.length cw, .slice a l.length c] w fun e w' => e = .returned (.bool (smallB2 ws l)) ∧ w = w' := by
  have HW := Lib.hid hw
  have H := Lib.hid h
  have HWG := Lib.hid hwg
  have HG := Lib.hid hg
  obtain ⟨R, hR⟩ : ∃ R, R = smallB2 ws l := ⟨_, rfl⟩
  rw [← hR]
  have HR := Lib.hid hR
  unfold maxLen at hwl hl
  clear hw h hwg hg hR
  by_cases h20 : ws.length ≤ 20
  case neg =>
    have HE : Hid (R = false) := Lib.hid (by rw [HR.out]; unfold smallB2; rw [decide_eq_false h20]; rfl)
    have h20' : (20 : Int) < (ws.length : Int) := by omega
    go_enter Try.func8, Try.ntmps8
    go_wp2_with fail
    go_ret
    exact ⟨by rw [HE.out]; rfl, rfl⟩
  have h20' : (ws.length : Int) ≤ 20 := by omega
  by_cases h300 : l.length ≤ 300
  case neg =>
    have HE : Hid (R = false) := Lib.hid (by rw [HR.out]; unfold smallB2; rw [decide_eq_false h300, Bool.and_false]; rfl)
    have h300' : (300 : Int) < (l.length : Int) := by omega
    go_enter Try.func8, Try.ntmps8
    go_wp2_with fail
    go_ret
    exact ⟨by rw [HE.out]; rfl, rfl⟩
  have h300' : (l.length : Int) ≤ 300 := by omega
  have HR2 := Lib.hid (show R = (ws.all smallW && l.all smallP) by rw [HR.out]; unfold smallB2; rw [decide_eq_true h20, decide_eq_true h300]; rfl)
  go_enter Try.func8, Try.ntmps8
  go_wp2_with fail
  go_loop [17] (fun i => ∃ k : Nat, i = .int .i64 k ∧ k ≤ ws.length ∧ Hid ((ws.take k).all smallW = true)) (fun i => ws.length - (intOf i).toNat)
  case atStart => exact ⟨0, rfl, Nat.zero_le _, Lib.hid (by simp)⟩
  case round =>
    obtain ⟨k, rfl, hkl, HA⟩ := hrel
    by_cases hk : k < ws.length
    · obtain ⟨g1, o1, rfl, -, hbr1, hcc⟩ := HW.out.elem (Chg.refl [] w) k hk
      have d0 := hcc 0 (by omega)
      have hst := all_step smallW ws k hk
      rw [HA.out, Bool.true_and] at hst
      have hno := all_no (f := smallW) hk
      have hgx := HWG.out ws[k] (List.getElem_mem hk)
      generalize ws[k] = x at *
      have hxs : x.name.size ≤ maxLen := hgx.1
      unfold maxLen at hxs
      simp only [wkC, List.getElem?_cons_zero, List.getElem?_cons_succ, Nat.add_zero] at d0
      have hk0 : (0 : Int) ≤ (k : Int) := by omega
      have hk1 : (k : Int) < (ws.length : Int) := by omega
      clear hcc hgx
      by_cases hq : x.name.size ≤ 300
      · have HST := Lib.hid (hst.trans (decide_eq_true hq))
        have hq' : (x.name.size : Int) ≤ 300 := by omega
        clear hst hno
        go_wp2_with fail
        exact ⟨⟨k + 1, by go_num, by omega, HST⟩, by simp [intOf]; omega⟩
      · have HE : Hid (R = false) := Lib.hid (by rw [HR2.out, hno (decide_eq_false hq), Bool.false_and])
        have hq' : (300 : Int) < (x.name.size : Int) := by omega
        clear hst hno
        go_wp2_with fail
        go_ret
        exact ⟨by rw [HE.out]; rfl, rfl⟩
    · have hks : k = ws.length := by omega
      subst hks
      have HR3 := Lib.hid (show R = l.all smallP by have := HA.out; rw [List.take_length] at this; rw [HR2.out, this, Bool.true_and])
      go_wp2_with fail
      go_loop [30] (fun i => ∃ k : Nat, i = .int .i64 k ∧ k ≤ l.length ∧ Hid ((l.take k).all smallP = true)) (fun i => l.length - (intOf i).toNat)
      case atStart => exact ⟨0, rfl, Nat.zero_le _, Lib.hid (by simp)⟩
      case round =>
        obtain ⟨k, rfl, hkl, HA⟩ := hrel
        by_cases hk : k < l.length
        · obtain ⟨g1, o1, rfl, -, hbr1, hcc⟩ := H.out.elem (Chg.refl [] w) k hk
          have d0 := hcc 0 (by omega)
          have d1 := hcc 1 (by omega)
          have d3 := hcc 3 (by omega)
          have hst := all_step smallP l k hk
          rw [HA.out, Bool.true_and] at hst
          have hno := all_no (f := smallP) hk
          have hgx := HG.out l[k] (List.getElem_mem hk)
          generalize l[k] = x at *
          obtain ⟨hx1, hx2, -, hx3⟩ := hgx
          unfold maxLen at hx1 hx2 hx3
          simp only [plC, List.getElem?_cons_zero, List.getElem?_cons_succ, Nat.add_zero] at d0 d1 d3
          have hk0 : (0 : Int) ≤ (k : Int) := by omega
          have hk1 : (k : Int) < (l.length : Int) := by omega
          clear hcc
          have hcs : (300 < x.id.size) ∨ (x.id.size ≤ 300 ∧ 300 < x.tn.size) ∨ (x.id.size ≤ 300 ∧ x.tn.size ≤ 300 ∧ 300 < x.wk.size) ∨ (x.id.size ≤ 300 ∧ x.tn.size ≤ 300 ∧ x.wk.size ≤ 300) := by omega
          rcases hcs with h1 | ⟨h1, h2⟩ | ⟨h1, h2, h3⟩ | ⟨h1, h2, h3⟩
          case inr.inr.inr =>
            have HST := Lib.hid (hst.trans (show smallP x = true by unfold smallP; simp [h1, h2, h3]))
            have h1' : (x.id.size : Int) ≤ 300 := by omega
            have h2' : (x.tn.size : Int) ≤ 300 := by omega
            have h3' : (x.wk.size : Int) ≤ 300 := by omega
            clear hst hno
            go_wp2_with fail
            exact ⟨⟨k + 1, by go_num, by omega, HST⟩, by simp [intOf]; omega⟩
          case inl =>
            have HE : Hid (R = false) := Lib.hid (by rw [HR3.out, hno (by unfold smallP; rw [decide_eq_false (by omega)]; rfl)])
            have h1' : (300 : Int) < (x.id.size : Int) := by omega
            clear hst hno
            go_wp2_with fail
            go_ret
            exact ⟨by rw [HE.out]; rfl, rfl⟩
          case inr.inl =>
            have HE : Hid (R = false) := Lib.hid (by rw [HR3.out, hno (by unfold smallP; rw [show decide (x.tn.size ≤ 300) = false from decide_eq_false (by omega), Bool.and_false]; rfl)])
            have h1' : (x.id.size : Int) ≤ 300 := by omega
            have h2' : (300 : Int) < (x.tn.size : Int) := by omega
            clear hst hno
            go_wp2_with fail
            go_ret
            exact ⟨by rw [HE.out]; rfl, rfl⟩
          case inr.inr.inl =>
            have HE : Hid (R = false) := Lib.hid (by rw [HR3.out, hno (by unfold smallP; rw [show decide (x.wk.size ≤ 300) = false from decide_eq_false (by omega), Bool.and_false])])
            have h1' : (x.id.size : Int) ≤ 300 := by omega
            have h2' : (x.tn.size : Int) ≤ 300 := by omega
            have h3' : (300 : Int) < (x.wk.size : Int) := by omega
            clear hst hno
            go_wp2_with fail
            go_ret
            exact ⟨by rw [HE.out]; rfl, rfl⟩
        · have hks : k = l.length := by omega
          subst hks
          have HE := Lib.hid (show R = true by have := HA.out; rw [List.take_length] at this; rw [HR3.out, this])
          go_wp2_with fail
          go_ret
          exact ⟨by rw [HE.out]; rfl, rfl⟩
/-- The number of first placements of the tenant on their workers, among the first k. -/
def rsN (l : List Pl) (tn : ByteArray) : Nat → Nat
  | 0 => 0
  | k + 1 => rsN l tn k + (match l[k]? with | some y => if (y.tn == tn && countS (l.take k) tn y.wk == 0) = true then 1 else 0 | none => 0)
theorem rsN_step (l : List Pl) (tn : ByteArray) (k : Nat) (hk : k < l.length) : rsN l tn (k + 1) = rsN l tn k + if (l[k].tn == tn && countS (l.take k) tn l[k].wk == 0) = true then 1 else 0 := by
  rw [rsN, List.getElem?_eq_getElem hk]
theorem rsN_le (l : List Pl) (tn : ByteArray) : ∀ k, rsN l tn k ≤ k := by
  intro k
  induction k with
  | zero => simp [rsN]
  | succ k ih =>
    unfold rsN
    split
    · split <;> omega
    · omega
set_option maxHeartbeats 8000000 in
set_option maxRecDepth 100000 in
theorem rspread_any (a : Option Addr) (c : Nat) (l : List Pl) (tn : ByteArray) (w : World) (h : SlIs plC 4 w a l.length l) (hl : l.length ≤ 4096) (hlc : l.length ≤ c) :
    Calls Try.prog 26 #[.slice a l.length c, .string tn] w fun e w' => e = .returned (.int .i64 (rsN l tn l.length : Nat)) ∧ Chg [] w w' := by
  have H := Lib.hid h
  clear h
  go_enter Try.func26, Try.ntmps26
  go_wp2_with fail
  go_loopw [5, 9] (fun n i wr => ∃ k : Nat, i = .int .i64 k ∧ k ≤ l.length ∧ n = .int .i64 (rsN l tn k : Nat) ∧ Hid (Chg [] w wr)) (fun _ i _ => l.length - (intOf i).toNat)
  case atStart => exact ⟨0, rfl, Nat.zero_le _, by simp [rsN], Lib.hid (Chg.refl _ _)⟩
  case round =>
    obtain ⟨k, rfl, hkl, rfl, D⟩ := hrel
    by_cases hk : k < l.length
    · obtain ⟨g1, o1, rfl, -, hbr1, hcc⟩ := H.out.elem D.out k hk
      have d1 := hcc 1 (by omega)
      have d3 := hcc 3 (by omega)
      have hst := rsN_step l tn k hk
      have hle := rsN_le l tn k
      have hcl : countS (l.take k) tn l[k].wk ≤ 4096 := Nat.le_trans List.countP_le_length (by rw [List.length_take]; omega)
      have B8 : ∀ d os, Calls Try.prog 49 #[.slice (some ⟨g1, o1, none⟩) k c, .string tn, .string l[k].wk] (Go.Sort.grow (redrawn wr d) os) fun e w'' => e = .returned (.int .i64 (countS (l.take k) tn l[k].wk : Nat)) ∧ ∃ p : Regrown, w'' = Go.Sort.grow (redrawn wr p.d) p.os := fun d os => calls_regrown (by
        have := count_any (some ⟨g1, o1, none⟩) c (l.take k) tn l[k].wk (Go.Sort.grow (redrawn wr d) os) ((H.out.take k hkl).kept (D.out.thenSame (chg_regrown _ d os))) (by rw [List.length_take]; omega)
        rw [show (l.take k).length = k by rw [List.length_take]; omega] at this
        exact this.mono (fun e w' ⟨h1, h2⟩ => ⟨h1, h2 ▸ Chg.refl _ _⟩))
      rw [beq_toListBytes] at hst
      generalize l[k] = y at *
      simp only [plC, List.getElem?_cons_zero, List.getElem?_cons_succ, Nat.add_zero] at d1 d3
      have hk0 : (0 : Int) ≤ (k : Int) := by omega
      have hk1 : (k : Int) < (l.length : Int) := by omega
      have hkn : k ≤ c := by omega
      have q1 := fun d os => ((below_regrown wr d os).cell (p := ⟨g1, o1 + k * 4 + 1, none⟩) hbr1).trans d1
      have q3 := fun d os => ((below_regrown wr d os).cell (p := ⟨g1, o1 + k * 4 + 3, none⟩) hbr1).trans d3
      generalize countS (l.take k) tn y.wk = cn at *
      generalize rsN l tn k = n at *
      have HB8 := Lib.hid B8
      have HST := Lib.hid hst
      have hn0 : (0 : Int) ≤ (n : Int) := by omega
      have hn1 : (n : Int) ≤ 4096 := by omega
      have hc0 : (0 : Int) ≤ (cn : Int) := by omega
      clear hcc hst B8 hle hcl
      cases z1 : y.tn.toList == tn.toList
      · have HE := Lib.hid (show rsN l tn (k + 1) = n by rw [HST.out, z1]; simp)
        go_wp2_with fail
        refine wp_region_quiet_below (by kernel_rfl) (by kernel_rfl) ?_
        repeat (any_goals (first | go_big_quiet_step (exact HB8.out _ _) | quiet_step (exact HB8.out _ _)))
        refine wpQuiet_nil ?_
        intro _ hw'
        obtain ⟨⟨dq, osq⟩, hw''⟩ := hw'
        subst hw''
        go_wp2_with fail
        exact ⟨⟨k + 1, by go_num, by omega, by rw [HE.out], Lib.hid (D.out.thenSame (chg_regrown wr dq osq))⟩, by simp [intOf]; omega⟩
      · by_cases hz : cn = 0
        · subst hz
          have HE := Lib.hid (show rsN l tn (k + 1) = n + 1 by rw [HST.out, z1]; simp)
          go_wp2_with fail
          refine wp_region_quiet_below (by kernel_rfl) (by kernel_rfl) ?_
          repeat (any_goals (first | go_big_quiet_step (exact HB8.out _ _) | quiet_step (exact HB8.out _ _)))
          refine wpQuiet_nil ?_
          intro _ hw'
          obtain ⟨⟨dq, osq⟩, hw''⟩ := hw'
          subst hw''
          go_wp2_with fail
          exact ⟨⟨k + 1, by go_num, by omega, by rw [HE.out]; go_num, Lib.hid (D.out.thenSame (chg_regrown wr dq osq))⟩, by simp [intOf]; omega⟩
        · have HE := Lib.hid (show rsN l tn (k + 1) = n by rw [HST.out, z1]; simp [hz])
          have hz' : ((cn : Int) == 0) = false := beq_eq_false_iff_ne.2 (by omega)
          go_wp2_with fail
          refine wp_region_quiet_below (by kernel_rfl) (by kernel_rfl) ?_
          repeat (any_goals (first | go_big_quiet_step (exact HB8.out _ _) | quiet_step (exact HB8.out _ _)))
          refine wpQuiet_nil ?_
          intro _ hw'
          obtain ⟨⟨dq, osq⟩, hw''⟩ := hw'
          subst hw''
          go_wp2_with fail
          exact ⟨⟨k + 1, by go_num, by omega, by rw [HE.out], Lib.hid (D.out.thenSame (chg_regrown wr dq osq))⟩, by simp [intOf]; omega⟩
    · have hks : k = l.length := by omega
      subst hks
      go_wp2_with fail
      go_ret
      exact ⟨rfl, D.out⟩
end Go.Proofs.Ytjbnfaapkicejaa
