/- Chapter 52: the reference's ledger: New, Check, Period, Len, Close. No condition. Chapter 52: the reference's sum. No condition. -/
import Derived.Test.YtehjalgogjkdlaaDoorZ22
namespace Go.Proofs.YtehjalgogjkdlaaDoor
set_option linter.unusedVariables false
set_option linter.unusedSimpArgs false
open Go.RowKit
variable {w w' : World} {b : Nat} {v : Value} {s : Led}
end Go.Proofs.YtehjalgogjkdlaaDoor

namespace Go.Proofs.YtehjalgogjkdlaaDoor
set_option linter.unusedVariables false
set_option linter.unusedSimpArgs false
open Go.RowKit
variable {w w' : World} {b : Nat} {v : Value} {s : Led}
def rcB (tn fn : ByteArray) (al : Bool) (p : Int) (fl : Bool) (c : CR) : Bool := c.r.tn == tn && (al || c.r.fn == fn) && c.p == p && c.r.fl == fl
theorem rc_cases (tn fn : ByteArray) (al : Bool) (p : Int) (fl : Bool) (c : CR) : ((c.r.tn.toList == tn.toList) = false ∧ rcB tn fn al p fl c = false) ∨ ((c.r.tn.toList == tn.toList) = true ∧ al = false ∧ (c.r.fn.toList == fn.toList) = false ∧ rcB tn fn al p fl c = false) ∨
    ((c.r.tn.toList == tn.toList) = true ∧ (al = true ∨ (al = false ∧ (c.r.fn.toList == fn.toList) = true)) ∧ ((c.p == p) = false ∧ rcB tn fn al p fl c = false ∨ (c.p == p) = true ∧ (c.r.fl == fl) = false ∧ rcB tn fn al p fl c = false ∨ (c.p == p) = true ∧ (c.r.fl == fl) = true ∧ rcB tn fn al p fl c = true)) := by
  unfold rcB
  rw [beq_toListBytes c.r.tn, beq_toListBytes c.r.fn]
  cases c.r.tn.toList == tn.toList <;> cases al <;> cases c.r.fn.toList == fn.toList <;> cases c.p == p <;> cases c.r.fl == fl <;> simp
theorem rc_tot (tn fn : ByteArray) (p : Int) : rcB tn fn true p false = totB tn p := by
  funext c
  unfold rcB totB
  cases c.r.fl <;> simp
theorem rc_of (tn fn : ByteArray) (p : Int) (fl : Bool) : rcB tn fn false p fl = ofB tn fn p fl := by
  funext c
  unfold rcB ofB
  simp
end Go.Proofs.YtehjalgogjkdlaaDoor
