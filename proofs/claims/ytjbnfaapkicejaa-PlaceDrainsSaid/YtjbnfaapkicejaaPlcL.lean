/- Chapter 43: contract: choose. Conditions: memories are permitted. -/
import Derived.Test.YtjbnfaapkicejaaPlcK
namespace Go.Proofs.Ytjbnfaapkicejaa
set_option linter.unusedVariables false
set_option linter.unusedSimpArgs false
open Go.RowKit
def bestI (ws : List Wk) (l : List Pl) (q : Pl) : Int := bestAt (fun x => possB x l q) (betB l q) ws ws.length
def chooseP (ws : List Wk) (l : List Pl) (q : Pl) : ByteArray × Int := if bestI ws l q < 0 then (⟨#[]⟩, 17) else match ws[(bestI ws l q).toNat]? with | some x => (x.name, 0) | none => (⟨#[]⟩, 17)
set_option maxHeartbeats 8000000 in
set_option maxRecDepth 100000 in
theorem choose_any (aw : Option Addr) (cw : Nat) (ws : List Wk) (a : Option Addr) (c : Nat) (l : List Pl) (q : Pl) (w : World) (hw : SlIs wkC 3 w aw ws.length ws) (hwl : ws.length ≤ 4096)
    (h : SlIs plC 4 w a l.length l) (hl : l.length ≤ 4096) (hx : ∀ x ∈ ws, memB x.mem = true) (hm : ∀ q ∈ l, memB q.mem = true) :
    Calls Try.prog 29 #[.slice aw ws.length cw, .slice a l.length c, plV q] w fun e w' => e = .returned (.tuple #[.string (chooseP ws l q).1, .int .i64 (chooseP ws l q).2]) ∧ Chg [] w w' := by
  have HW := Lib.hid hw
  obtain ⟨W1, hW1⟩ : ∃ W1, W1 = w.alloc (.cells #[.slice a l.length c] 23) := ⟨_, rfl⟩
  obtain ⟨W2, hW2⟩ : ∃ W2, W2 = W1.alloc (plO q) := ⟨_, rfl⟩
  have s1 : W1.heap.size = w.heap.size + 1 := by rw [hW1, World.size_alloc]
  have s2 : W2.heap.size = w.heap.size + 1 + 1 := by rw [hW2, World.size_alloc, s1]
  obtain ⟨W3, hW3⟩ : ∃ W3, W3 = W2.alloc (fnO w.heap.size (w.heap.size + 1)) := ⟨_, rfl⟩
  have C1 := show Chg [] w W1 by rw [hW1]; exact (Chg.refl _ _).alloc _
  have C2 := show Chg [] W1 W2 by rw [hW2]; exact (Chg.refl _ _).alloc _
  have C3 := show Chg [] W2 W3 by rw [hW3]; exact (Chg.refl _ _).alloc _
  have C4 := Lib.hid ((C1.thenSame C2).thenSame C3)
  have X1 := Lib.hid (show W3.heap[w.heap.size]? = some (.cells #[.slice a l.length c] 23) from (C2.thenSame C3).at (by simp) (by rw [hW1]; exact heap_alloc_new _ _))
  have X2 := Lib.hid (show W3.heap[w.heap.size + 1]? = some (plO q) from C3.at (by simp) (by rw [hW2, ← s1]; exact heap_alloc_new _ _))
  have X3 := Lib.hid (show W3.heap[w.heap.size + 1 + 1]? = some (fnO w.heap.size (w.heap.size + 1)) by rw [hW3, ← s2]; exact heap_alloc_new _ _)
  have A1 := Lib.hid (best_any (fun x => possB x l q) (betB l q) (.pointer (some ⟨w.heap.size + 1 + 1, 0, none⟩)) (.pointer (some ⟨w.heap.size, 0, none⟩)) (.pointer (some ⟨w.heap.size + 1, 0, none⟩)) aw cw ws W3 (hw.kept C4.out) hwl
    (fun x hxm w' hc => poss_any a c l q x _ _ w' (h.kept (C4.out.thenSame hc)) hl hm (hx x hxm) (hc.at (by simp) X1.out) (hc.at (by simp) X2.out))
    (fun x hxm y hym w' hc => better_any a c l q x y _ _ _ w' (h.kept (C4.out.thenSame hc)) hl hm (hx x hxm) (hx y hym) (hc.at (by simp) X3.out) (hc.at (by simp) X1.out) (hc.at (by simp) X2.out)))
  obtain ⟨R, hR⟩ : ∃ R, R = chooseP ws l q := ⟨_, rfl⟩
  rw [← hR]
  unfold chooseP at hR
  obtain ⟨bl, bh⟩ := bestAt_bounds (fun x => possB x l q) (betB l q) ws ws.length
  change Hid (Calls _ _ _ _ fun e w' => e = .returned (.int .i64 (bestI ws l q)) ∧ _) at A1
  change -1 ≤ bestI ws l q at bl
  change bestI ws l q < _ at bh
  generalize bestI ws l q = n at *
  have HA1 := Lib.hid A1.out
  unfold plO at hW2
  unfold fnO at hW3
  have HW1 := Lib.hid hW1
  have HW2 := Lib.hid hW2
  have HW3 := Lib.hid hW3
  have S1 := Lib.hid s1
  have S2 := Lib.hid s2
  unfold plV
  have qf := fun (a : Addr) (fn : Fn) (fi ca : Array Value) (m : Mode) (w : World) => run_store Try.prog w a (.func fn fi ca) m rfl
  clear hw h hx hm hW1 hW2 hW3 C1 C2 C3 A1 s1 s2
  by_cases hn : n < 0
  · rw [if_pos hn] at hR
    subst hR
    go_enter Try.func29, Try.ntmps29
    go_wp2_with fail
    rw [← HW1.out, ← HW2.out, ← HW3.out]
    refine HA1.out.mono ?_; rintro e w1 ⟨rfl, hc1⟩
    have K1 := Lib.hid (C4.out.thenSame hc1)
    clear hc1
    go_wp2_with fail
    go_ret2
    exact ⟨rfl, K1.out⟩
  · rw [if_neg hn] at hR
    obtain ⟨m, rfl⟩ : ∃ m : Nat, n = (m : Int) := ⟨n.toNat, by omega⟩
    have hml : m < ws.length := by omega
    simp only [Int.toNat_natCast] at hR
    rw [List.getElem?_eq_getElem hml] at hR
    simp only at hR
    subst hR
    have hel := fun w' (hc : Chg [] w w') => HW.out.elem hc m hml
    generalize ws[m] = x at *
    have HEl := Lib.hid hel
    have hm0 : (0 : Int) ≤ (m : Int) := by omega
    have hm1 : (m : Int) < (ws.length : Int) := by omega
    clear hel
    go_enter Try.func29, Try.ntmps29
    go_wp2_with fail
    rw [← HW1.out, ← HW2.out, ← HW3.out]
    refine HA1.out.mono ?_; rintro e w1 ⟨rfl, hc1⟩
    have K1 := Lib.hid (C4.out.thenSame hc1)
    clear hc1
    obtain ⟨g1, o1, rfl, -, hbr1, hcc⟩ := HEl.out w1 K1.out
    have d0 := hcc 0 (by omega)
    simp only [wkC, List.getElem?_cons_zero, List.getElem?_cons_succ, Nat.add_zero] at d0
    clear hcc
    go_wp2_with fail
    go_ret2
    exact ⟨rfl, K1.out⟩
end Go.Proofs.Ytjbnfaapkicejaa
