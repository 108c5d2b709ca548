/- Chapter 52: the conditions of the sums. No condition. -/
import Derived.Test.YtfnnnflfikmekaaUseF
namespace Go.Proofs.Ytfnnnflfikmekaa
set_option linter.unusedVariables false
set_option linter.unusedSimpArgs false
open Go.RowKit

def totB (tn : ByteArray) (p : Int) (c : CR) : Bool := c.r.tn == tn && c.p == p && !c.r.fl
def ofB (tn fn : ByteArray) (p : Int) (fl : Bool) (c : CR) : Bool := c.r.tn == tn && c.r.fn == fn && c.p == p && c.r.fl == fl
def crO (c : CR) : Obj := .cells #[.string c.r.id, .string c.r.tn, .string c.r.fn, .int .i64 c.r.per, .int .i64 c.r.us.inv, .int .i64 c.r.us.steps, .int .i64 c.r.us.ticks, .int .i64 c.r.us.units, .bool c.r.fl, .int .i64 c.p] 64
set_option maxHeartbeats 2000000 in
theorem totf_any (c : CR) (t1 t2 : Nat) (tn : ByteArray) (p : Int) (w : World) (h1 : w.cell? ⟨t1, 0, none⟩ = some (.string tn)) (h2 : w.cell? ⟨t2, 0, none⟩ = some (.int .i64 p)) (l1 : t1 < w.heap.size) (l2 : t2 < w.heap.size) :
    Calls Try.prog 38 #[crV c, .pointer (some ⟨t1, 0, none⟩), .pointer (some ⟨t2, 0, none⟩)] w fun e w' => e = .returned (.bool (totB tn p c)) ∧ Chg [] w w' := by
  obtain ⟨B, hB⟩ : ∃ B, B = totB tn p c := ⟨_, rfl⟩
  rw [← hB]
  unfold totB at hB
  rw [beq_toListBytes] at hB
  unfold crV
  cases q1 : c.r.tn.toList == tn.toList <;> cases q2 : c.p == p <;> cases q3 : c.r.fl
  all_goals
    rw [q1, q2, q3] at hB
    subst hB
    go_enter Try.func38, Try.ntmps38
    go_wp2
    go_ret
    exact ⟨by first | rfl | (simp; done) | (simp_all; done), (Chg.refl _ _).alloc _⟩
set_option maxHeartbeats 4000000 in
theorem off_any (c : CR) (t1 t2 t3 t4 : Nat) (tn fn : ByteArray) (p : Int) (fl : Bool) (w : World) (h1 : w.cell? ⟨t1, 0, none⟩ = some (.string tn)) (h2 : w.cell? ⟨t2, 0, none⟩ = some (.string fn)) (h3 : w.cell? ⟨t3, 0, none⟩ = some (.int .i64 p)) (h4 : w.cell? ⟨t4, 0, none⟩ = some (.bool fl)) (l1 : t1 < w.heap.size) (l2 : t2 < w.heap.size) (l3 : t3 < w.heap.size) (l4 : t4 < w.heap.size) :
    Calls Try.prog 45 #[crV c, .pointer (some ⟨t1, 0, none⟩), .pointer (some ⟨t2, 0, none⟩), .pointer (some ⟨t3, 0, none⟩), .pointer (some ⟨t4, 0, none⟩)] w fun e w' => e = .returned (.bool (ofB tn fn p fl c)) ∧ Chg [] w w' := by
  obtain ⟨B, hB⟩ : ∃ B, B = ofB tn fn p fl c := ⟨_, rfl⟩
  rw [← hB]
  unfold ofB at hB
  rw [beq_toListBytes c.r.tn, beq_toListBytes c.r.fn] at hB
  unfold crV
  cases q1 : c.r.tn.toList == tn.toList <;> cases q2 : c.r.fn.toList == fn.toList <;> cases q3 : c.p == p <;> cases q4 : c.r.fl == fl
  all_goals
    rw [q1, q2, q3, q4] at hB
    subst hB
    go_enter Try.func45, Try.ntmps45
    go_wp2
    go_ret
    exact ⟨by first | rfl | (simp; done) | (simp_all; done), (Chg.refl _ _).alloc _⟩
end Go.Proofs.Ytfnnnflfikmekaa
