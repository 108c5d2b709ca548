/- Chapter 22: contracts: the closure of Names, slices.IndexFunc and slices.DeleteFunc with it. No condition. -/
import Derived.Test.YtldilefhmpipkaaSecD
import Derived.Test.YtldilefhmpipkaaDel
namespace Go.Proofs.Ytldilefhmpipkaa
set_option linter.unusedVariables false
set_option linter.unusedSimpArgs false
open Go.RowKit

set_option maxHeartbeats 4000000 in
set_option maxRecDepth 100000 in
theorem nclos_any (vb mb : Nat) (l : List Sec) (s fn : ByteArray) (b2 b3 : Nat) (w : World) (h : VIs w vb mb l) (h2 : w.heap[b2]? = some (.cells #[.pointer (some ⟨vb, 0, none⟩)] 25 (0, 0))) (h3 : w.heap[b3]? = some (.cells #[.string fn] 9 (0, 0))) (x : Sec) (hx : lookL Sec.name l s = some x) :
    Calls Try.prog 49 #[.string s, .pointer (some ⟨b2, 0, none⟩), .pointer (some ⟨b3, 0, none⟩)] w fun e w' => e = .returned (.bool (!hasB x.s fn)) ∧ Chg [] w w' := by
  have hxl := lookL_mem hx
  have c2 := blk_cell h2
  have c3 := blk_cell h3
  have cv := blk_cell h.1
  have ce := blk_cell (h.2.2.1 x hxl).1
  simp only [entC] at ce
  have L1 := fun n => MapIs.lookup (P := Try.prog) (w := w.drewN n) (h.2.1.kept ((Chg.refl [] w).drewN n) (by simp)) Try.underlying50 Try.underlying9 (zeroPE _) s false
  have L2 := fun n => MapIs.lookup (P := Try.prog) (w := w.drewN n) ((h.2.2.1 x hxl).2.kept ((Chg.refl [] w).drewN n) (by simp)) Try.underlying62 Try.underlying9 (zeroB _) fn false
  simp only [hx, Option.map_some, Option.getD_some, secV, Bool.false_eq_true, if_false] at L1
  simp only [look_bool, Bool.false_eq_true, if_false] at L2
  have hb : (lookL id x.s.bound fn).isSome = hasB x.s fn := rfl
  simp only [hb] at L2
  clear h h2 h3 hx hxl hb
  generalize hasB x.s fn = B at *
  go_enter Try.func49, Try.ntmps49
  go_wp2_with fail
  go_quiet (fail)
  go_wp2_with fail
  go_ret
  exact ⟨rfl, (Chg.refl _ _).drewN _⟩
end Go.Proofs.Ytldilefhmpipkaa
