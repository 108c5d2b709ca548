/- Chapter 18: contracts: the checks of points, of both. No condition. -/
import Derived.Test.YtmmhcacpehpjdaaMetB
namespace Go.Proofs.Ytmmhcacpehpjdaa
set_option linter.unusedVariables false
set_option linter.unusedSimpArgs false
open Go.RowKit

structure Pt where
  t : Int
  v : Int
def pCells (x : Pt) : List Value := [.int .i64 x.t, .int .i64 x.v]
def Pt.good (x : Pt) : Prop := (Lit.int .i64 x.t).wf = true ∧ (Lit.int .i64 x.v).wf = true

def chk1 (x : Pt) : Bool := decide (x.t < 0) || decide (1073741824 < x.t) || !amountB x.v
def chkL : Option Pt → List Pt → Int
  | _, [] => 0
  | p, x :: l => if chk1 x = true then 2 else if (match p with | some q => decide (x.t < q.t) | none => false) = true then 11 else chkL (some x) l
def checkP (l : List Pt) : Int := if 256 < l.length then 3 else chkL none l
def prev (l : List Pt) : Nat → Option Pt
  | 0 => none
  | j + 1 => l[j]?

theorem chk_step (l : List Pt) (k : Nat) (hk : k < l.length) : chkL (prev l k) (l.drop k) = if chk1 l[k] = true then 2 else if (match prev l k with | some q => decide (l[k].t < q.t) | none => false) = true then 11 else chkL (prev l (k + 1)) (l.drop (k + 1)) := by
  rw [List.drop_eq_getElem_cons hk]
  have e : prev l (k + 1) = some l[k] := List.getElem?_eq_getElem hk
  rw [e]; rfl

set_option maxHeartbeats 2000000 in
theorem mcheck_any (a : Option Addr) (len cap : Nat) (l : List Pt) (w : World) (h : SlIs pCells 2 w a len l) (hm : len ≤ maxLen) : Calls Try.prog 26 #[.slice a len cap] w fun e w' => e = .returned (.int .i64 (checkP l)) ∧ Chg [] w w' := by
  obtain ⟨hl, hcell⟩ := h
  obtain ⟨R, hR⟩ : ∃ R, R = checkP l := ⟨_, rfl⟩
  rw [← hR]
  have Hcell := Lib.hid hcell
  unfold maxLen at hm
  unfold checkP at hR
  clear hcell
  by_cases hbig : 256 < l.length
  · rw [if_pos hbig] at hR
    subst hR
    have hb : (256 : Int) < (len : Int) := by omega
    clear hbig
    go_enter Try.func26, Try.ntmps26
    go_wp2_with fail
    go_ret
    exact ⟨rfl, Chg.refl _ _⟩
  · rw [if_neg hbig] at hR
    have HR := Lib.hid hR
    have hb : (len : Int) ≤ 256 := by omega
    clear hbig hR
    go_enter Try.func26, Try.ntmps26
    go_wp2_with fail
    go_loopw [10] (fun i wr => ∃ k : Nat, i = .int .i64 k ∧ k ≤ len ∧ Hid (R = chkL (prev l k) (l.drop k)) ∧ Chg [] w wr) (fun i _ => len - (intOf i).toNat)
    case atStart => exact ⟨0, rfl, Nat.zero_le _, HR.out, Chg.refl _ _⟩
    case round =>
      obtain ⟨k, rfl, hkl, hRk, hch⟩ := hrel
      have Hch := Lib.hid hch
      by_cases hlt : k < len
      · have hk2 : k < l.length := by omega
        obtain ⟨b, off, rfl, hbw, hcc⟩ := Hcell.out k hk2
        obtain ⟨x, hx⟩ : ∃ x, x = l[k] := ⟨_, rfl⟩
        have hst := chk_step l k hk2
        rw [← hx] at hcc hst
        have d0 := (World.cell?_of_block (w := w) (w' := wr) (a := ⟨b, off + k * 2 + 0, none⟩) (hch.block b hbw (by simp))).trans (hcc 0 (by omega))
        have d1 := (World.cell?_of_block (w := w) (w' := wr) (a := ⟨b, off + k * 2 + 1, none⟩) (hch.block b hbw (by simp))).trans (hcc 1 (by omega))
        simp only [pCells, List.getElem?_cons_zero, List.getElem?_cons_succ, Nat.add_zero] at d0 d1
        have hbr := hch.lt hbw
        have hk0 : (0 : Int) ≤ (k : Int) := by omega
        have hk1 : (k : Int) < (len : Int) := by omega
        have Hst := Lib.hid hst
        clear hx hcc hch hst
        by_cases hc : chk1 x = true
        · have Hc := Lib.hid hc
          have hR2 : R = 2 := by rw [hRk.out, Hst.out, if_pos hc]
          subst hR2
          clear hc
          go_wp2_with (first | (go_at_call 46; refine (amount_any _ _).mono ?_; rintro e w1 ⟨rfl, rfl⟩) | fail)
          all_goals first
            | (go_ret; exact ⟨rfl, Hch.out.alloc _⟩)
            | (exfalso; have hc := Hc.out; simp [chk1, amountB] at *; omega)
        · have hR2 : R = if (match prev l k with | some q => decide (x.t < q.t) | none => false) = true then 11 else chkL (prev l (k + 1)) (l.drop (k + 1)) := by rw [hRk.out, Hst.out, if_neg hc]
          simp only [chk1, Bool.or_eq_true, decide_eq_true_eq, Bool.not_eq_true', not_or, Int.not_lt] at hc
          obtain ⟨⟨t0, t1⟩, am⟩ := hc
          have am' : amountB x.v = true := by simpa using am
          clear am
          rcases k with _ | j
          · have HR2 : Hid (R = chkL (prev l (0 + 1)) (l.drop (0 + 1))) := hR2
            clear hR2 Hst hRk
            simp only [Nat.zero_mul, Nat.add_zero] at d0 d1
            go_wp2_with (first | (go_at_call 46; refine (amount_any _ _).mono ?_; rintro e w1 ⟨rfl, rfl⟩) | fail)
            go_quiet (fail)
            go_wp2_with fail
            exact ⟨⟨0 + 1, by go_num, by omega, HR2.out, (Hch.out.alloc _).drewN _⟩, by simp [intOf]; omega⟩
          · have hj : j < l.length := by omega
            obtain ⟨y, hy⟩ : ∃ y, y = l[j] := ⟨_, rfl⟩
            have hpv : prev l (j + 1) = some y := by rw [hy]; exact List.getElem?_eq_getElem hj
            rw [hpv] at hR2
            obtain ⟨b', off', he, _, hcc'⟩ := Hcell.out j hj
            cases he
            rw [← hy] at hcc'
            have f0 := (World.cell?_of_block (w := w) (w' := wr) (a := ⟨b, off + j * 2 + 0, none⟩) (Hch.out.block b hbw (by simp))).trans (hcc' 0 (by omega))
            simp only [pCells, List.getElem?_cons_zero, Nat.add_zero] at f0
            have HR2 := Lib.hid hR2
            have hj0 : (0 : Int) ≤ (j : Int) := by omega
            have hj1 : (j : Int) < (len : Int) := by omega
            have hkk : ((j + 1 : Nat) : Int) = (j : Int) + 1 := by omega
            have hk2' : (0 : Int) < (j : Int) + 1 := by omega
            rw [hkk] at hk0 hk1
            rw [hkk]
            clear hR2 Hst hRk hcc' hpv hy
            go_wp2_with (first | (go_at_call 46; refine (amount_any _ _).mono ?_; rintro e w1 ⟨rfl, rfl⟩) | fail)
            go_quiet (fail)
            go_wp2_with fail
            · go_ret
              refine ⟨retI ?_, (Hch.out.alloc _).drewN _⟩
              rw [HR2.out, if_pos (by simp; omega)]
            · refine ⟨⟨j + 1 + 1, by go_num, by omega, ?_, (Hch.out.alloc _).drewN _⟩, by simp [intOf]; omega⟩
              have e := HR2.out
              rw [if_neg (by simp; omega)] at e
              exact e
      · go_wp2_with fail
        go_ret
        refine ⟨retI ?_, Hch.out⟩
        rw [hRk.out, List.drop_of_length_le (by omega)]
        cases k <;> rfl

set_option maxHeartbeats 2000000 in
theorem rmcheck_any (a : Option Addr) (len cap : Nat) (l : List Pt) (w : World) (h : SlIs pCells 2 w a len l) (hm : len ≤ maxLen) : Calls Try.prog 32 #[.slice a len cap] w fun e w' => e = .returned (.int .i64 (checkP l)) ∧ Chg [] w w' := by
  obtain ⟨hl, hcell⟩ := h
  obtain ⟨R, hR⟩ : ∃ R, R = checkP l := ⟨_, rfl⟩
  rw [← hR]
  have Hcell := Lib.hid hcell
  unfold maxLen at hm
  unfold checkP at hR
  clear hcell
  by_cases hbig : 256 < l.length
  · rw [if_pos hbig] at hR
    subst hR
    have hb : (256 : Int) < (len : Int) := by omega
    clear hbig
    go_enter Try.func32, Try.ntmps32
    go_wp2_with fail
    go_ret
    exact ⟨rfl, Chg.refl _ _⟩
  · rw [if_neg hbig] at hR
    have HR := Lib.hid hR
    have hb : (len : Int) ≤ 256 := by omega
    clear hbig hR
    go_enter Try.func32, Try.ntmps32
    go_wp2_with fail
    go_loopw [3] (fun i wr => ∃ k : Nat, i = .int .i64 k ∧ k ≤ len ∧ Hid (R = chkL (prev l k) (l.drop k)) ∧ Chg [] w wr) (fun i _ => len - (intOf i).toNat)
    case atStart => exact ⟨0, rfl, Nat.zero_le _, HR.out, Chg.refl _ _⟩
    case round =>
      obtain ⟨k, rfl, hkl, hRk, hch⟩ := hrel
      have Hch := Lib.hid hch
      by_cases hlt : k < len
      · have hk2 : k < l.length := by omega
        obtain ⟨b, off, rfl, hbw, hcc⟩ := Hcell.out k hk2
        obtain ⟨x, hx⟩ : ∃ x, x = l[k] := ⟨_, rfl⟩
        have hst := chk_step l k hk2
        rw [← hx] at hcc hst
        have d0 := (World.cell?_of_block (w := w) (w' := wr) (a := ⟨b, off + k * 2 + 0, none⟩) (hch.block b hbw (by simp))).trans (hcc 0 (by omega))
        have d1 := (World.cell?_of_block (w := w) (w' := wr) (a := ⟨b, off + k * 2 + 1, none⟩) (hch.block b hbw (by simp))).trans (hcc 1 (by omega))
        simp only [pCells, List.getElem?_cons_zero, List.getElem?_cons_succ, Nat.add_zero] at d0 d1
        have hbr := hch.lt hbw
        have hk0 : (0 : Int) ≤ (k : Int) := by omega
        have hk1 : (k : Int) < (len : Int) := by omega
        have Hst := Lib.hid hst
        clear hx hcc hch hst
        by_cases hc : chk1 x = true
        · have Hc := Lib.hid hc
          have hR2 : R = 2 := by rw [hRk.out, Hst.out, if_pos hc]
          subst hR2
          clear hc
          go_wp2_with fail
          all_goals first
            | (go_ret; exact ⟨rfl, Hch.out⟩)
            | (exfalso; have hc := Hc.out; simp [chk1, amountB] at *; omega)
        · have hR2 : R = if (match prev l k with | some q => decide (x.t < q.t) | none => false) = true then 11 else chkL (prev l (k + 1)) (l.drop (k + 1)) := by rw [hRk.out, Hst.out, if_neg hc]
          simp only [chk1, Bool.or_eq_true, decide_eq_true_eq, Bool.not_eq_true', not_or, Int.not_lt] at hc
          obtain ⟨⟨t0, t1⟩, am⟩ := hc
          have am' : -1000000000 ≤ x.v ∧ x.v ≤ 1000000000 := by simpa [amountB] using am
          obtain ⟨am1, am2⟩ := am'
          clear am
          rcases k with _ | j
          · have HR2 : Hid (R = chkL (prev l (0 + 1)) (l.drop (0 + 1))) := hR2
            clear hR2 Hst hRk
            simp only [Nat.zero_mul, Nat.add_zero] at d0 d1
            go_wp2_with fail
            go_quiet (fail)
            go_wp2_with fail
            exact ⟨⟨0 + 1, by go_num, by omega, HR2.out, Hch.out.drewN _⟩, by simp [intOf]; omega⟩
          · have hj : j < l.length := by omega
            obtain ⟨y, hy⟩ : ∃ y, y = l[j] := ⟨_, rfl⟩
            have hpv : prev l (j + 1) = some y := by rw [hy]; exact List.getElem?_eq_getElem hj
            rw [hpv] at hR2
            obtain ⟨b', off', he, _, hcc'⟩ := Hcell.out j hj
            cases he
            rw [← hy] at hcc'
            have f0 := (World.cell?_of_block (w := w) (w' := wr) (a := ⟨b, off + j * 2 + 0, none⟩) (Hch.out.block b hbw (by simp))).trans (hcc' 0 (by omega))
            simp only [pCells, List.getElem?_cons_zero, Nat.add_zero] at f0
            have HR2 := Lib.hid hR2
            have hj0 : (0 : Int) ≤ (j : Int) := by omega
            have hj1 : (j : Int) < (len : Int) := by omega
            have hkk : ((j + 1 : Nat) : Int) = (j : Int) + 1 := by omega
            have hk2' : (0 : Int) < (j : Int) + 1 := by omega
            rw [hkk] at hk0 hk1
            rw [hkk]
            clear hR2 Hst hRk hcc' hpv hy
            go_wp2_with fail
            go_quiet (fail)
            go_wp2_with fail
            · go_ret
              refine ⟨retI ?_, Hch.out.drewN _⟩
              rw [HR2.out, if_pos (by simp; omega)]
            · refine ⟨⟨j + 1 + 1, by go_num, by omega, ?_, Hch.out.drewN _⟩, by simp [intOf]; omega⟩
              have e := HR2.out
              rw [if_neg (by simp; omega)] at e
              exact e
      · go_wp2_with fail
        go_ret
        refine ⟨retI ?_, Hch.out⟩
        rw [hRk.out, List.drop_of_length_le (by omega)]
        cases k <;> rfl
end Go.Proofs.Ytmmhcacpehpjdaa
