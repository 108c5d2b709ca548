/- Chapter 43: contracts: worker, placed, free, fresh. No condition. -/
import Derived.Test.YtjbnfaapkicejaaPlcA
namespace Go.Proofs.Ytjbnfaapkicejaa
set_option linter.unusedVariables false
set_option linter.unusedSimpArgs false
open Go.RowKit
def wIdx (l : List Wk) (s : ByteArray) : Int := idxOf (fun x => x.name == s) l
def pIdx (l : List Pl) (s : ByteArray) : Int := idxOf (fun x => x.id == s) l
theorem worker_any (a : Option Addr) (c : Nat) (l : List Wk) (s : ByteArray) (w : World) (h : SlIs wkC 3 w a l.length l) (hl : l.length ≤ 4096) : Calls Try.prog 33 #[.slice a l.length c, .string s] w fun e w' => e = .returned (.int .i64 (wIdx l s)) ∧ Chg [] w w' := by
  have C1 := Lib.hid (show Chg [] w (w.alloc (.cells #[.string s] 9)) from (Chg.refl _ _).alloc _)
  have A := Lib.hid (indexw_any (fun x => x.name == s) (.pointer (some ⟨w.heap.size, 0, none⟩)) a c l _ (h.kept C1.out) hl (fun x _ w' hc => by
    have z := hc.at (by simp) (heap_alloc_new w (.cells #[.string s] 9))
    exact workerf_any x _ s w' (by rw [blk_cell z]; rfl) (lt_of_heap z)))
  obtain ⟨R, hR⟩ : ∃ R, R = wIdx l s := ⟨_, rfl⟩
  rw [← hR]
  unfold wIdx at hR
  rw [← hR] at A
  clear h hR
  go_enter Try.func33, Try.ntmps33
  go_wp2_with fail
  refine A.out.mono ?_; rintro e w1 ⟨rfl, hc1⟩
  have D := Lib.hid (C1.out.thenSame hc1)
  clear hc1 A
  go_wp2_with fail
  go_ret
  exact ⟨rfl, D.out⟩
theorem contp_any (f : Pl → Bool) (x1 : Value) (a : Option Addr) (c : Nat) (l : List Pl) (w : World) (h : SlIs plC 4 w a l.length l) (hl : l.length ≤ 4096)
    (hp : ∀ (x : Pl), x ∈ l → ∀ w', Chg [] w w' → Calls Try.prog 70 #[plV x, x1] w' fun e w'' => e = .returned (.bool (f x)) ∧ Chg [] w' w'') :
    Calls Try.prog 69 #[.slice a l.length c, .func (.func 70) #[] #[x1]] w fun e w' => e = .returned (.bool (decide (0 ≤ idxOf f l))) ∧ Chg [] w w' := by
  have A := Lib.hid (indexp_any f x1 a c l w h hl hp)
  generalize idxOf f l = R at *
  clear h hp
  go_enter Try.func69, Try.ntmps69
  go_wp2_with fail
  refine A.out.mono ?_; rintro e w1 ⟨rfl, hc1⟩
  have D := Lib.hid hc1
  clear hc1 A
  go_wp2_with fail
  go_ret
  exact ⟨rfl, D.out⟩
def plcB (l : List Pl) (s : ByteArray) : Bool := decide (0 ≤ pIdx l s)
theorem placed_any (a : Option Addr) (c : Nat) (l : List Pl) (s : ByteArray) (w : World) (h : SlIs plC 4 w a l.length l) (hl : l.length ≤ 4096) : Calls Try.prog 51 #[.slice a l.length c, .string s] w fun e w' => e = .returned (.bool (plcB l s)) ∧ Chg [] w w' := by
  have C1 := Lib.hid (show Chg [] w (w.alloc (.cells #[.string s] 9)) from (Chg.refl _ _).alloc _)
  have A := contp_any (fun x => x.id == s) (.pointer (some ⟨w.heap.size, 0, none⟩)) a c l _ (h.kept C1.out) hl (fun x _ w' hc => by
    have z := hc.at (by simp) (heap_alloc_new w (.cells #[.string s] 9))
    exact placedf_any x _ s w' (by rw [blk_cell z]; rfl) (lt_of_heap z))
  change Calls Try.prog 69 _ _ (fun e w' => e = .returned (.bool (plcB l s)) ∧ _) at A
  generalize plcB l s = R at *
  have HA := Lib.hid A
  clear h A
  go_enter Try.func51, Try.ntmps51
  go_wp2_with fail
  refine HA.out.mono ?_; rintro e w1 ⟨rfl, hc1⟩
  have D := Lib.hid (C1.out.thenSame hc1)
  clear hc1 HA
  go_wp2_with fail
  go_ret
  exact ⟨rfl, D.out⟩
def freeS (x : Wk) (l : List Pl) : Int := l.foldl (fun n q => if (q.wk == x.name) = true then n - q.mem else n) x.mem
def freshE (l : List Pl) (q : Pl) : Int := if idB q.id = true then (if plcB l q.id = true then 6 else if nameB q.tn = true then (if memB q.mem = true then 0 else 2) else 4) else 4
def plO (q : Pl) : Obj := .cells #[.string q.id, .string q.tn, .int .i64 q.mem, .string q.wk] 25
set_option maxHeartbeats 8000000 in
set_option maxRecDepth 100000 in
theorem fresh_any (a : Option Addr) (c : Nat) (l : List Pl) (q : Pl) (w : World) (h : SlIs plC 4 w a l.length l) (hl : l.length ≤ 4096) (hg : q.good) : Calls Try.prog 28 #[.slice a l.length c, plV q] w fun e w' => e = .returned (.int .i64 (freshE l q)) ∧ Chg [] w w' := by
  have hbx := Lib.hid (heap_alloc_new w (plO q))
  have hC0 := Lib.hid (show Chg [] w (w.alloc (plO q)) from (Chg.refl _ _).alloc _)
  obtain ⟨W1, hW1⟩ : ∃ W1, W1 = w.alloc (plO q) := ⟨_, rfl⟩
  have k1 := blk_cell hbx.out
  rw [← hW1] at hbx hC0 k1
  unfold plO at hW1 hbx
  have HW1 := Lib.hid hW1
  have A1 := Lib.hid (fun w' => ID_any q.id w' hg.1)
  have A2 := Lib.hid (fun w' (hc : Chg [] w w') => placed_any a c l q.id w' (h.kept hc) hl)
  have A3 := Lib.hid (fun w' => name_any q.tn w' hg.2.1)
  have A4 := Lib.hid (fun w' => memory_any q.mem w')
  obtain ⟨R, hR⟩ : ∃ R, R = freshE l q := ⟨_, rfl⟩
  rw [← hR]
  unfold freshE at hR
  unfold plV
  clear h hW1
  have hcs : (idB q.id = false ∧ R = 4) ∨ (idB q.id = true ∧ plcB l q.id = true ∧ R = 6) ∨ (idB q.id = true ∧ plcB l q.id = false ∧ nameB q.tn = false ∧ R = 4) ∨ (idB q.id = true ∧ plcB l q.id = false ∧ nameB q.tn = true ∧ memB q.mem = false ∧ R = 2) ∨ (idB q.id = true ∧ plcB l q.id = false ∧ nameB q.tn = true ∧ memB q.mem = true ∧ R = 0) := by
    cases h1 : idB q.id <;> cases h2 : plcB l q.id <;> cases h3 : nameB q.tn <;> cases h4 : memB q.mem <;> rw [h1, h2, h3, h4] at hR <;> simp at hR <;> simp [hR]
  clear hR hg
  rcases hcs with ⟨h1, rfl⟩ | ⟨h1, h2, rfl⟩ | ⟨h1, h2, h3, rfl⟩ | ⟨h1, h2, h3, h4, rfl⟩ | ⟨h1, h2, h3, h4, rfl⟩
  all_goals
    go_enter Try.func28, Try.ntmps28
    go_wp2_with (first
      | (rw [← HW1.out]; (go_at_call 50; (with_reducible refine (A1.out _).mono ?_); rw [h1]; rintro e w2 ⟨rfl, hc2⟩; have C2 := Lib.hid (hC0.out.thenSame (Chg.ofBelow hc2)); have B2 := Lib.hid ((Chg.ofBelow (S := []) hc2).at (by simp) hbx.out); have k2 := blk_cell B2.out; clear hc2))
      | (go_at_call 51; (with_reducible refine (A2.out _ C2.out).mono ?_); rw [h2]; rintro e w3 ⟨rfl, hc3⟩; have C3 := Lib.hid (C2.out.thenSame hc3); have B3 := Lib.hid (hc3.at (by simp) B2.out); have k3 := blk_cell B3.out; clear hc3)
      | (go_at_call 37; (with_reducible refine (A3.out _).mono ?_); rw [h3]; rintro e w4 ⟨rfl, hc4⟩; have C4 := Lib.hid (C3.out.thenSame hc4); have B4 := Lib.hid (hc4.at (by simp) B3.out); have k4 := blk_cell B4.out; clear hc4)
      | (go_at_call 38; (with_reducible refine (A4.out _).mono ?_); rw [h4]; rintro e w5 ⟨rfl, rfl⟩))
    go_ret
    exact ⟨rfl, by first | exact C4.out | exact C3.out | exact C2.out⟩
end Go.Proofs.Ytjbnfaapkicejaa
