/- Chapter 50: the walk of LinearChecks. Condition: the table of Itoa lies as the program lays it. -/
import Derived.Test.YtnhemokmgpelaaaDoorLinK
import Derived.Test.YtnhemokmgpelaaaDoorMRnt
import Derived.Test.YtnhemokmgpelaaaDoorLinO
namespace Go.Proofs.YtnhemokmgpelaaaDoor
set_option linter.unusedVariables false
set_option linter.unusedSimpArgs false
open Go.RowKit
set_option maxHeartbeats 4000000 in
set_option maxRecDepth 100000 in
theorem checks_walk (a0 : Option Addr) (len0 cap0 : Nat) (l0 : List Cl) (a1 a2 : Int) (w : World)
    (h0 : l0.length = len0 ∧ LIn w a0 cap0 l0 ∧ (∀ x ∈ l0, goodCl x) ∧ ∀ x ∈ l0, goodL x.ans) (_ : (Lit.int .i64 a1).wf = true) (_ : (Lit.int .i64 a2).wf = true) (ht : TabW w) :
    Calls Tryd.prog 5 #[.slice a0 len0 cap0, .int .i64 a1, .int .i64 a2] w fun e w' => e = .returned (.bool true) ∧ Below w.heap.size w w' := by
  obtain ⟨rfl, hl, hg, -⟩ := h0
  refine Calls.mono (R := fun e w' => e = .returned (.bool true) ∧ Chg [] w w') ?_ (fun e w' h => ⟨h.1, h.2.toBelow (Nat.le_refl _) (by simp)⟩)
  have AW := Lib.hid (fun w' (hc : Chg [] w w') => awake_any w' (ht.kept hc))
  have A1 := Lib.hid (fun w' (hc : Chg [] w w') => lcheck_any (hl.kept hc) hg (ht.kept hc))
  have A2 := Lib.hid (fun w' (hc : Chg [] w w') => rhcheck_any (hl.kept hc) hg (ht.kept hc))
  have A3 := Lib.hid (fun w' (hc : Chg [] w w') => lbefore_any (hl.kept hc) a1 a2)
  have A4 := Lib.hid (fun w' (hc : Chg [] w w') => rbefore_any (hl.kept hc) a1 a2)
  generalize hcheckZ (l0.map Cl.p) = z at *
  generalize befZ (l0.map Cl.p) a1 a2 = q at *
  clear hl hg ht
  by_cases h8 : 20 < l0.length
  · have h8' : (20 : Int) < (l0.length : Int) := by omega
    go_enter Tryd.func5, Tryd.ntmps5
    go_wp2_with fail
    refine (AW.out _ (Chg.refl _ _)).mono ?_; rintro e w2 ⟨rfl, hc⟩
    have C2 := Lib.hid hc
    clear hc
    go_wp2_with fail
    go_ret
    exact ⟨rfl, C2.out⟩
  have h8' : (l0.length : Int) ≤ 20 := by omega
  have hzz : (z == z) = true := by simp
  have hqq : (q == q) = true := by simp
  go_enter Tryd.func5, Tryd.ntmps5
  go_wp2_with fail
  refine (A1.out _ (Chg.refl _ _)).mono ?_; rintro e w2 ⟨rfl, hc⟩
  have C2 := Lib.hid hc
  clear hc
  go_wp2_with fail
  refine (A2.out _ C2.out).mono ?_; rintro e w3 ⟨rfl, hc⟩
  have C3 := Lib.hid (C2.out.thenSame hc)
  clear hc
  go_wp2_with fail
  refine (A3.out _ C3.out).mono ?_; rintro e w4 ⟨rfl, hc⟩
  have C4 := Lib.hid (C3.out.thenSame hc)
  clear hc
  go_wp2_with fail
  refine (A4.out _ C4.out).mono ?_; rintro e w5 ⟨rfl, hc⟩
  have C5 := Lib.hid (C4.out.thenSame hc)
  clear hc
  go_wp2_with fail
  refine (AW.out _ C5.out).mono ?_; rintro e w6 ⟨rfl, hc⟩
  have C6 := Lib.hid (C5.out.thenSame hc)
  clear hc
  go_wp2_with fail
  go_ret
  exact ⟨rfl, C6.out⟩
end Go.Proofs.YtnhemokmgpelaaaDoor
