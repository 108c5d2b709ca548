/- Chapter 43: contracts: Check's last test; the plain check. Condition: memories are permitted. -/
import Derived.Test.YtjbnfaapkicejaaPlcC
namespace Go.Proofs.Ytjbnfaapkicejaa
set_option linter.unusedVariables false
set_option linter.unusedSimpArgs false
open Go.RowKit
theorem checkf_any (a : Option Addr) (c : Nat) (l : List Pl) (x : Wk) (t : Nat) (w : World) (h : SlIs plC 4 w a l.length l) (hl : l.length ≤ 4096) (hm : ∀ q ∈ l, memB q.mem = true) (hx : memB x.mem = true) (ht : w.cell? ⟨t, 0, none⟩ = some (.slice a l.length c)) (lt : t < w.heap.size) : Calls Try.prog 40 #[wkV x, .pointer (some ⟨t, 0, none⟩)] w fun e w' => e = .returned (.bool (decide (freeS x l < 0))) ∧ Chg [] w w' := by
  have C1 := Lib.hid (show Chg [] w (w.alloc (wkO x)) from (Chg.refl _ _).alloc _)
  have A := free_any a c l x _ (h.kept C1.out) hl hm hx
  unfold wkV at A ⊢
  unfold wkO at C1 A
  generalize freeS x l = n at *
  have HA := Lib.hid A
  clear h hm A
  go_enter Try.func40, Try.ntmps40
  go_wp2_with fail
  refine HA.out.mono ?_; rintro e w1 ⟨rfl, hc1⟩
  have D := Lib.hid (C1.out.thenSame hc1)
  clear hc1 HA
  go_wp2_with fail
  go_ret
  exact ⟨rfl, D.out⟩
theorem contw_any (a : Option Addr) (c : Nat) (l : List Pl) (aw : Option Addr) (cw : Nat) (ws : List Wk) (t : Nat) (w : World) (hw : SlIs wkC 3 w aw ws.length ws) (h : SlIs plC 4 w a l.length l) (hl : l.length ≤ 4096) (hwl : ws.length ≤ 4096) (hm : ∀ q ∈ l, memB q.mem = true) (hx : ∀ x ∈ ws, memB x.mem = true) (ht : w.heap[t]? = some (.cells #[.slice a l.length c] 23 (0, 0))) :
    Calls Try.prog 39 #[.slice aw ws.length cw, .func (.func 40) #[] #[.pointer (some ⟨t, 0, none⟩)]] w fun e w' => e = .returned (.bool (decide (0 ≤ idxOf (fun x => decide (freeS x l < 0)) ws))) ∧ Chg [] w w' := by
  have A := Lib.hid (indexc_any (fun x => decide (freeS x l < 0)) (.pointer (some ⟨t, 0, none⟩)) aw cw ws w hw hwl (fun x hm' w' hc => by
    have z := hc.at (by simp) ht
    exact checkf_any a c l x t w' (h.kept hc) hl hm (hx x hm') (by rw [blk_cell z]; rfl) (lt_of_heap z)))
  generalize idxOf (fun x => decide (freeS x l < 0)) ws = R at *
  clear hw h hm hx ht
  go_enter Try.func39, Try.ntmps39
  go_wp2_with fail
  refine A.out.mono ?_; rintro e w1 ⟨rfl, hc1⟩
  have D := Lib.hid hc1
  clear hc1 A
  go_wp2_with fail
  go_ret
  exact ⟨rfl, D.out⟩
/-- The first error. -/
def firstE (f : Nat → Int) : Nat → Int
  | 0 => 0
  | n + 1 => if firstE f n = 0 then f n else firstE f n
def wE (l : List Wk) (i : Nat) : Int := match l[i]? with
  | some x => if nameB x.name = true then (if 0 ≤ wIdx (l.take i) x.name then 6 else if memB x.mem = true then 0 else 2) else 4
  | none => 0
def pE (w : List Wk) (l : List Pl) (i : Nat) : Int := match l[i]? with
  | some q => if freshE (l.take i) q = 0 then (if wIdx w q.wk < 0 then 5 else 0) else freshE (l.take i) q
  | none => 0
def checkP (w : List Wk) (l : List Pl) : Int :=
  if 8 < w.length then 3 else if firstE (wE w) w.length = 0 then
    (if 256 < l.length then 3 else if firstE (pE w l) l.length = 0 then
      (if w.any (fun x => decide (freeS x l < 0)) = true then 16 else 0)
    else firstE (pE w l) l.length)
  else firstE (wE w) w.length
theorem first_zero {f : Nat → Int} : ∀ {n : Nat}, firstE f n = 0 → ∀ i, i < n → f i = 0
  | 0, _, i, hi => absurd hi (Nat.not_lt_zero i)
  | n + 1, h, i, hi => by
    unfold firstE at h
    split at h
    · rename_i h0
      by_cases e : i = n
      · subst e; exact h
      · exact first_zero h0 i (by omega)
    · rename_i h0
      exact absurd h h0
theorem first_hit {f : Nat → Int} {k n : Nat} (h : firstE f k = 0) (hf : f k ≠ 0) (hk : k < n) : firstE f n = f k := by
  induction n with
  | zero => omega
  | succ n ih =>
    unfold firstE
    by_cases e : k = n
    · subst e; rw [if_pos h]
    · have := ih (by omega)
      rw [this, if_neg hf]
theorem first_step {f : Nat → Int} {k : Nat} (h : firstE f k = 0) (hf : f k = 0) : firstE f (k + 1) = 0 := by
  unfold firstE
  rw [if_pos h, hf]
end Go.Proofs.Ytjbnfaapkicejaa
