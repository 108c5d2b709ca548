/- Chapter 52: Record in one contract. No condition. -/
import Derived.Test.YtfnnnflfikmekaaUseK
namespace Go.Proofs.Ytfnnnflfikmekaa
set_option linter.unusedVariables false
set_option linter.unusedSimpArgs false
open Go.RowKit
variable {w w' : World} {b mb : Nat} {v : Value} {s : Led}
theorem rec_any (r : UR) (hg : r.good) (h : LIs w b mb v s) (hl : s.l.length ≤ 4000) : Calls Try.prog 14 #[.pointer (some ⟨b, 0, none⟩), urV r] w (RecPost w b mb v (recE s r) (recS s r)) := by
  unfold recE recS checkR
  cases hn : (idB r.id && nameB r.tn && nameB r.fn)
  · simp only [Bool.false_eq_true, if_false, if_neg (show ¬ (4 : Int) = 0 by decide)]
    exact rec_name r hg h hn
  · simp only [if_true]
    by_cases hp : r.per < 0 ∨ 1073741824 < r.per
    · rw [if_pos hp, if_neg (by decide), if_neg (by decide)]
      exact rec_range r hg h hn (.inl hp)
    · rw [if_neg hp]
      cases hu : usB r.us
      · simp only [Bool.false_eq_true, if_false, if_neg (show ¬ (2 : Int) = 0 by decide)]
        exact rec_range r hg h hn (.inr hu)
      · simp only [if_true]
        cases hf : findC s.l r.id with
        | some c => exact rec_known r hg h hn (by omega) (by omega) hu c hf hl
        | none =>
          by_cases hf' : s.l.length = 4000
          · simp only [if_pos hf']
            exact rec_full r hg h hn (by omega) (by omega) hu hf hf'
          · simp only [if_neg hf']
            exact rec_new r hg h hn (by omega) (by omega) hu hf (by omega)
end Go.Proofs.Ytfnnnflfikmekaa
