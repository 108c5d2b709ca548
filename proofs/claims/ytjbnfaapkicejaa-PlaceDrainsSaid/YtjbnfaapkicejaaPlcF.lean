/- Chapter 43: Free. No condition. -/
import Derived.Test.YtjbnfaapkicejaaPlcE
namespace Go.Proofs.Ytjbnfaapkicejaa
set_option linter.unusedVariables false
set_option linter.unusedSimpArgs false
open Go.RowKit
theorem check_zero {ws : List Wk} {l : List Pl} (h : checkP ws l = 0) : ws.length ≤ 8 ∧ l.length ≤ 256 ∧ (∀ x ∈ ws, memB x.mem = true) ∧ (∀ q ∈ l, memB q.mem = true) ∧ ∀ x ∈ ws, 0 ≤ freeS x l := by
  unfold checkP at h
  split at h
  · simp at h
  · split at h
    · rename_i h8 h1
      split at h
      · simp at h
      · split at h
        · rename_i h256 h2
          split at h
          · simp at h
          · rename_i h3
            refine ⟨by omega, by omega, wE_mem h1, pE_mem h2, fun x hx => ?_⟩
            have := List.any_eq_false.1 (by simpa using h3 : ws.any (fun x => decide (freeS x l < 0)) = false) x hx
            simpa using this
        · rename_i h2
          exact absurd h h2
    · rename_i h1
      exact absurd h h1
def freeP (ws : List Wk) (l : List Pl) (s : ByteArray) : Int × Int := if checkP ws l = 0 then (match ws.find? (fun x => x.name == s) with | some x => (freeS x l, 0) | none => (0, 5)) else (0, checkP ws l)
theorem idx_find {α : Type} (f : α → Bool) (l : List α) : (l.find? f = none ∧ idxOf f l = -1) ∨ ∃ (i : Nat) (hi : i < l.length), l.find? f = some l[i] ∧ idxOf f l = (i : Int) := by
  unfold idxOf
  cases h : l.findIdx? f with
  | none =>
    left
    rw [List.findIdx?_eq_none_iff] at h
    exact ⟨List.find?_eq_none.2 (fun x hx => by simpa using h x hx), rfl⟩
  | some i =>
    right
    rw [List.findIdx?_eq_some_iff_getElem] at h
    obtain ⟨hi, hf, hb⟩ := h
    exact ⟨i, hi, List.find?_eq_some_iff_getElem.2 ⟨hf, i, hi, rfl, fun j hj => by simpa using hb j hj⟩, rfl⟩
set_option maxHeartbeats 8000000 in
set_option maxRecDepth 100000 in
theorem freex_any (aw : Option Addr) (cw : Nat) (ws : List Wk) (a : Option Addr) (c : Nat) (l : List Pl) (s : ByteArray) (w : World) (hw : SlIs wkC 3 w aw ws.length ws) (hwl : ws.length ≤ 4096) (hwc : ws.length ≤ cw) (hwg : ∀ x ∈ ws, x.good)
    (h : SlIs plC 4 w a l.length l) (hl : l.length ≤ 4096) (hlc : l.length ≤ c) (hg : ∀ x ∈ l, x.good) :
    Calls Try.prog 16 #[.slice aw ws.length cw, .slice a l.length c, .string s] w fun e w' => e = .returned (.tuple #[.int .i64 (freeP ws l s).1, .int .i64 (freeP ws l s).2]) ∧ Chg [] w w' := by
  have HW := Lib.hid hw
  have H := Lib.hid h
  have A1 := Lib.hid (check_any aw cw ws a c l w hw hwl hwc hwg h hl hlc hg)
  have A2 := Lib.hid (fun w' (hc : Chg [] w w') => worker_any aw cw ws s w' (HW.out.kept hc) hwl)
  obtain ⟨R, hR⟩ : ∃ R, R = freeP ws l s := ⟨_, rfl⟩
  rw [← hR]
  unfold freeP at hR
  have hz := @check_zero ws l
  generalize checkP ws l = E at *
  clear hw h hwg hg
  by_cases hE : E = 0
  case neg =>
    rw [if_neg hE] at hR
    subst hR
    have hE' : (E == 0) = false := by simpa using hE
    clear hz
    go_enter Try.func16, Try.ntmps16
    go_wp2_with fail
    refine A1.out.mono ?_; rintro e w1 ⟨rfl, hc1⟩
    have C1 := Lib.hid hc1
    clear hc1
    go_wp2_with fail
    go_ret2
    exact ⟨rfl, C1.out⟩
  rw [if_pos hE] at hR
  obtain ⟨z1, z2, z3, z4, z5⟩ := hz hE
  subst hE
  have Z3 := Lib.hid z3
  have Z4 := Lib.hid z4
  rcases idx_find (fun x => x.name == s) ws with ⟨hf, hi⟩ | ⟨i, hi0, hf, hi⟩
  · rw [hf] at hR
    subst hR
    have A2' := Lib.hid (fun w' (hc : Chg [] w w') => by have := A2.out w' hc; unfold wIdx at this; rw [hi] at this; exact this)
    clear hf hi z1 z2 z3 z4 z5 A2
    go_enter Try.func16, Try.ntmps16
    go_wp2_with fail
    refine A1.out.mono ?_; rintro e w1 ⟨rfl, hc1⟩
    have C1 := Lib.hid hc1
    clear hc1
    go_wp2_with fail
    refine (A2'.out _ C1.out).mono ?_; rintro e w2 ⟨rfl, hc2⟩
    have C2 := Lib.hid (C1.out.thenSame hc2)
    clear hc2
    go_wp2_with fail
    go_ret2
    exact ⟨rfl, C2.out⟩
  · rw [hf] at hR
    simp only at hR
    subst hR
    have A2' := Lib.hid (fun w' (hc : Chg [] w w') => by have := A2.out w' hc; unfold wIdx at this; rw [hi] at this; exact this)
    have hmx := z3 ws[i] (List.getElem_mem hi0)
    have hel := fun w' (hc : Chg [] w w') => HW.out.elem hc i hi0
    have A4 := Lib.hid (fun w' (hc : Chg [] w w') => free_any a c l ws[i] w' (H.out.kept hc) hl z4 hmx)
    generalize ws[i] = x at *
    have HEl := Lib.hid hel
    have hi1 : (0 : Int) ≤ (i : Int) := by omega
    have hi2 : (i : Int) < (ws.length : Int) := by omega
    unfold wkV at A4
    clear hf hi z1 z2 z3 z4 z5 A2 hel hmx
    go_enter Try.func16, Try.ntmps16
    go_wp2_with fail
    refine A1.out.mono ?_; rintro e w1 ⟨rfl, hc1⟩
    have C1 := Lib.hid hc1
    clear hc1
    go_wp2_with fail
    refine (A2'.out _ C1.out).mono ?_; rintro e w2 ⟨rfl, hc2⟩
    have C2 := Lib.hid (C1.out.thenSame hc2)
    clear hc2
    obtain ⟨g1, o1, rfl, -, hbr1, hcc⟩ := HEl.out w2 C2.out
    have d0 := hcc 0 (by omega)
    have d1 := hcc 1 (by omega)
    have d2 := hcc 2 (by omega)
    simp only [wkC, List.getElem?_cons_zero, List.getElem?_cons_succ, Nat.add_zero] at d0 d1 d2
    clear hcc
    go_wp2_with fail
    refine (A4.out _ C2.out).mono ?_; rintro e w3 ⟨rfl, hc3⟩
    have C3 := Lib.hid (C2.out.thenSame hc3)
    clear hc3
    go_wp2_with fail
    go_ret2
    exact ⟨rfl, C3.out⟩
end Go.Proofs.Ytjbnfaapkicejaa
