/- Chapter 9: StaticNames: the walk. Condition: the table of Itoa lies as the program lays it. -/
import Derived.Test.YtolidiafomceiaaDoorSttC
namespace Go.Proofs.YtolidiafomceiaaDoor
set_option linter.unusedVariables false
set_option linter.unusedSimpArgs false
open Go.RowKit
set_option maxHeartbeats 16000000 in
set_option maxRecDepth 100000 in
theorem names_walk (a0 : ByteArray) (w : World) (ht : TabW w) : Calls Tryd.prog 3 #[.string a0] w fun e w' => e = .returned (.bool true) ∧ Below w.heap.size w w' := by
  have AA := Lib.hid (fun w' (hc : Chg [] w w') => stawake_any w' (ht.kept hc))
  have A1 := Lib.hid (fun w' => builtin_any a0 w')
  have A2 := Lib.hid (fun w' => rbuiltin_any a0 w')
  have A3 := Lib.hid (fun w' => hostop_any a0 w')
  have A4 := Lib.hid (fun w' => rhostop_any a0 w')
  have CU := Lib.hid (Chg.refl [] w)
  generalize lkZ biL a0 = x at *
  generalize lkZ hoL a0 = y at *
  obtain ⟨x1, x2⟩ := x
  obtain ⟨y1, y2⟩ := y
  have q1 : (x1 == x1) = true := beq_self_eq_true x1
  have q2 : (x2 == x2) = true := beq_self_eq_true x2
  have q3 : (y1 == y1) = true := beq_self_eq_true y1
  have q4 : (y2 == y2) = true := beq_self_eq_true y2
  clear ht
  go_enter Tryd.func3, Tryd.ntmps3
  go_wp2_with (first
    | (go_at_call 4; (with_reducible refine Calls.mono (A1.out _) ?_); rintro e w1 ⟨rfl, hc⟩; have CU := Lib.hid (CU.out.thenSame hc); clear hc)
    | (go_at_call 5; (with_reducible refine Calls.mono (A2.out _) ?_); rintro e w1 ⟨rfl, hc⟩; have CU := Lib.hid (CU.out.thenSame hc); clear hc)
    | (go_at_call 6; (with_reducible refine Calls.mono (A3.out _) ?_); rintro e w1 ⟨rfl, hc⟩; have CU := Lib.hid (CU.out.thenSame hc); clear hc)
    | (go_at_call 7; (with_reducible refine Calls.mono (A4.out _) ?_); rintro e w1 ⟨rfl, hc⟩; have CU := Lib.hid (CU.out.thenSame hc); clear hc)
    | (go_at_call 8; (with_reducible refine Calls.mono (AA.out _ CU.out) ?_); rintro e w1 ⟨rfl, hc⟩; have CU := Lib.hid (CU.out.thenSame hc); clear hc))
  go_ret
  exact ⟨rfl, CU.out.toBelow (Nat.le_refl _) (by simp)⟩
end Go.Proofs.YtolidiafomceiaaDoor
