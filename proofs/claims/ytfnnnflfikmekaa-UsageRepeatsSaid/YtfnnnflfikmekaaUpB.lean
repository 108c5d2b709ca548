/- Chapter 52: plain law: a record that is repeated later changes nothing. No condition. -/
import Derived.Test.YtfnnnflfikmekaaUpA
namespace Go.Proofs.Ytfnnnflfikmekaa
set_option linter.unusedVariables false
set_option linter.unusedSimpArgs false
open Go.RowKit
/-- Accepted without a new record: nothing has changed. -/
theorem rec_same (s : Led) (r : UR) (h0 : recE s r = 0) (hl : (recS s r).l.length = s.l.length) : recS s r = s := by
  unfold recE at h0
  unfold recS at hl ⊢
  split
  · rename_i hc
    rw [if_pos hc] at h0 hl
    split
    · rfl
    · rename_i hf
      rw [hf] at hl h0
      simp only at hl h0 ⊢
      split
      · rfl
      · rename_i hf'
        rw [if_neg hf'] at hl
        simp at hl
  · rfl
end Go.Proofs.Ytfnnnflfikmekaa
