/- Chapter 22: contracts of the program: New, time, valid, find. No condition. -/
import Derived.Test.YtldilefhmpipkaaSecA
import Derived.Test.YtldilefhmpipkaaNm
import Derived.Test.YtldilefhmpipkaaSecP
namespace Go.Proofs.Ytldilefhmpipkaa
set_option linter.unusedVariables false
set_option linter.unusedSimpArgs false
open Go.RowKit

def timeB (n : Int) : Bool := decide (0 ≤ n) && decide (n ≤ 1073741824)
theorem time_any (n : Int) (w : World) : Calls Try.prog 43 #[.int .i64 n] w fun e w' => e = .returned (.bool (timeB n)) ∧ w = w' := by
  by_cases h1 : 0 ≤ n
  · go_enter Try.func43, Try.ntmps43
    go_wp2
    go_ret
    exact ⟨by simp [timeB, h1], rfl⟩
  · go_enter Try.func43, Try.ntmps43
    go_wp2
    go_ret
    exact ⟨by simp [timeB]; omega, rfl⟩

def badC (c : Int) : Bool := decide (c < 33) || decide (126 < c)
/-- Which strings are secret texts. -/
def textB (s : ByteArray) : Bool := decide (1 ≤ s.size) && decide (s.size ≤ 200) && (List.range s.size).all (fun i => !badC (byteAt s i))

theorem validf_any (c : Int) (w : World) : Calls Try.prog 57 #[.int .u8 c] w fun e w' => e = .returned (.bool (badC c)) ∧ w = w' := by
  by_cases h1 : c < 33
  · go_enter Try.func57, Try.ntmps57
    go_wp2
    go_ret
    exact ⟨by simp [badC, h1], rfl⟩
  · go_enter Try.func57, Try.ntmps57
    go_wp2
    go_ret
    exact ⟨by simp [badC]; omega, rfl⟩

theorem new_any (w : World) : Calls Try.prog 20 #[] w fun e w' => ∃ vb mb, e = .returned (.pointer (some ⟨vb, 0, none⟩)) ∧ VIs w' vb mb [] ∧ w.heap.size ≤ vb ∧ w.heap.size ≤ mb ∧ Chg [] w w' := by
  have hmm := @run_makeMap Try.prog
  go_enter Try.func20, Try.ntmps20
  go_wp2
  go_ret
  have e1 : (w.alloc (.map #[] 0)).heap.size = w.heap.size + 1 := by simp
  refine ⟨w.heap.size + 1, w.heap.size, rfl, ⟨by rw [← e1]; exact heap_alloc_new _ _, ?_, by simp, by intro x hx; cases hx⟩, by omega, by omega, ((Chg.refl _ _).alloc _).alloc _⟩
  exact (mapIs_new w).same (heap_alloc_old _ _ (by simp))

theorem zeroPE (w : World) : (zeroValue 61).run Try.prog w = .ok (.pointer none) w := by kernel_rfl

/-- What find returns: nil and an error, or an entry. -/
def findE (l : List Sec) (name : ByteArray) : Int := if (lookL Sec.name l name).isSome then 0 else 5
def findP (l : List Sec) (name : ByteArray) : Value := match lookL Sec.name l name with | some x => .pointer (some ⟨x.eb, 0, none⟩) | none => .pointer none

theorem find_any (vb mb : Nat) (l : List Sec) (name : ByteArray) (w : World) (h : VIs w vb mb l) : Calls Try.prog 40 #[.pointer (some ⟨vb, 0, none⟩), .string name] w fun e w' => e = .returned (.tuple #[findP l name, .int .i64 (findE l name)]) ∧ w = w' := by
  have hc := blk_cell h.1
  have Hm := Lib.hid h.2.1
  clear h
  have hm := fun w => run_eql_map_nil (P := Try.prog) w 50 9 61 (some mb) Try.underlying50
  cases hl : lookL Sec.name l name with
  | none =>
    have HP : Hid (findP l name = .pointer none) := Lib.hid (by unfold findP; rw [hl])
    have HE : Hid (findE l name = 5) := Lib.hid (by unfold findE; rw [hl]; rfl)
    have Hl := Lib.hid hl
    clear hl
    go_enter Try.func40, Try.ntmps40
    go_wp2_with (at_lookup; refine wpl_lookup_miss _ rfl _ _ 50 rfl 9 61 Try.underlying50 Try.underlying9 (zeroPE _) mb l rfl Hm.out name rfl Hl.out ?_)
    go_ret2
    exact ⟨by rw [HP.out, HE.out]; rfl, rfl⟩
  | some x =>
    have HP : Hid (findP l name = .pointer (some ⟨x.eb, 0, none⟩)) := Lib.hid (by unfold findP; rw [hl])
    have HE : Hid (findE l name = 0) := Lib.hid (by unfold findE; rw [hl]; rfl)
    have Hl := Lib.hid hl
    clear hl
    go_enter Try.func40, Try.ntmps40
    go_wp2_with (at_lookup; refine wpl_lookup_hit _ rfl _ _ 50 rfl 9 61 Try.underlying50 Try.underlying9 (zeroPE _) mb l rfl Hm.out name rfl x Hl.out (.pointer (some ⟨x.eb, 0, none⟩)) rfl ?_)
    go_ret2
    exact ⟨by rw [HP.out, HE.out]; rfl, rfl⟩
end Go.Proofs.Ytldilefhmpipkaa
