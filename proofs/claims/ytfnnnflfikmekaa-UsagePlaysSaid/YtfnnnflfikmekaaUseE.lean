/- Chapter 52: equality of usages and of records; the program's ledger. No condition. -/
import Derived.Test.YtfnnnflfikmekaaUseD
import Derived.Laws.StructEq
namespace Go.Proofs.Ytfnnnflfikmekaa
set_option linter.unusedVariables false
set_option linter.unusedSimpArgs false
open Go.RowKit

def eqU (a b : Us) : Bool := a.inv == b.inv && a.steps == b.steps && a.ticks == b.ticks && a.units == b.units
def eqR (a b : UR) : Bool := a.id == b.id && a.tn == b.tn && a.fn == b.fn && a.per == b.per && eqU a.us b.us && a.fl == b.fl
theorem eqU_iff {a b : Us} : eqU a b = true ↔ a = b := by
  obtain ⟨a1, a2, a3, a4⟩ := a
  obtain ⟨b1, b2, b3, b4⟩ := b
  simp [eqU, and_assoc]
theorem eqR_iff {a b : UR} : eqR a b = true ↔ a = b := by
  obtain ⟨a1, a2, a3, a4, a5, a6⟩ := a
  obtain ⟨b1, b2, b3, b4, b5, b6⟩ := b
  simp [eqR, eqU_iff, and_assoc]
def urV (r : UR) : Value := .agg #[.string r.id, .string r.tn, .string r.fn, .int .i64 r.per, .int .i64 r.us.inv, .int .i64 r.us.steps, .int .i64 r.us.ticks, .int .i64 r.us.units, .bool r.fl]
theorem structUs : Try.prog.underlying 28 = some (.struct (Try.prog.fieldsOf 28)) := by kernel_rfl
theorem structUr : Try.prog.underlying 30 = some (.struct (Try.prog.fieldsOf 30)) := by kernel_rfl
theorem heldUs : Try.prog.stoodInHeld 28 = false := by kernel_rfl
theorem heldUr : Try.prog.stoodInHeld 30 = false := by kernel_rfl
theorem listS (a b : ByteArray) : a.toList = b.toList ↔ a = b := by
  have := beq_toListBytes a b
  constructor
  · intro h
    rw [h] at this
    simpa using this
  · rintro rfl
    rfl
set_option maxRecDepth 100000 in
set_option maxHeartbeats 4000000 in
theorem eqlU_in (d : Nat) (a b : Us) (w : World) : (Op.equalIn (d + 2) 28 (usV a) (usV b)).run Try.prog w = .ok (eqU a b) w := by
  obtain ⟨a1, a2, a3, a4⟩ := a
  obtain ⟨b1, b2, b3, b4⟩ := b
  simp only [usV, eqU]
  rw [show d + 2 = (d + 1) + 1 from rfl, run_equalIn_struct w (d + 1) 28 _ _ structUs heldUs]
  simp only [Program.fieldsOf, Try.underlying28]
  go_simp
  by_cases h1 : a1 = b1 <;> by_cases h2 : a2 = b2 <;> by_cases h3 : a3 = b3 <;> by_cases h4 : a4 = b4 <;> simp [h1, h2, h3, h4]
theorem eqlU (a b : Us) (w : World) : (binOp .eql 28 (usV a) (usV b)).run Try.prog w = .ok (.bool (eqU a b)) w := by
  unfold usV
  rw [run_eql_struct]
  have := eqlU_in 9998 a b w
  unfold usV at this
  rw [this]
  rfl
theorem neqU (a b : Us) (w : World) : (binOp .neq 28 (usV a) (usV b)).run Try.prog w = .ok (.bool (!eqU a b)) w := by
  unfold usV
  rw [run_neq_struct]
  have := eqlU_in 9998 a b w
  unfold usV at this
  rw [this]
  rfl
set_option maxRecDepth 100000 in
set_option maxHeartbeats 4000000 in
theorem eqlR_in (d : Nat) (a b : UR) (w : World) : (Op.equalIn (d + 3) 30 (urV a) (urV b)).run Try.prog w = .ok (eqR a b) w := by
  obtain ⟨a1, a2, a3, a4, a5, a6⟩ := a
  obtain ⟨b1, b2, b3, b4, b5, b6⟩ := b
  have hU := eqlU_in d a5 b5
  simp only [urV, eqR]
  obtain ⟨a51, a52, a53, a54⟩ := a5
  obtain ⟨b51, b52, b53, b54⟩ := b5
  simp only [usV] at hU ⊢
  generalize eqU _ _ = ub at *
  rw [show d + 3 = (d + 2) + 1 from rfl, run_equalIn_struct w (d + 2) 30 _ _ structUr heldUr]
  simp only [Program.fieldsOf, Try.underlying30]
  go_simp
  cases h1 : a1 == b1 <;> cases h2 : a2 == b2 <;> cases h3 : a3 == b3 <;> cases h4 : a4 == b4 <;> cases ub <;> cases h6 : a6 == b6 <;> simp [hU, listS] <;> simp_all
theorem eqlR (a b : UR) (w : World) : (binOp .eql 30 (urV a) (urV b)).run Try.prog w = .ok (.bool (eqR a b)) w := by
  unfold urV
  rw [run_eql_struct]
  have := eqlR_in 9997 a b w
  unfold urV at this
  rw [this]
  rfl
theorem neqR (a b : UR) (w : World) : (binOp .neq 30 (urV a) (urV b)).run Try.prog w = .ok (.bool (!eqR a b)) w := by
  unfold urV
  rw [run_neq_struct]
  have := eqlR_in 9997 a b w
  unfold urV at this
  rw [this]
  rfl
end Go.Proofs.Ytfnnnflfikmekaa
