/- Openers: slices of ints that came in. No condition. -/
import Derived.Test.YtmmhcacpehpjdaaSlj
import Derived.Test.YtmmhcacpehpjdaaMetD
namespace Go.Proofs.Ytmmhcacpehpjdaa
set_option linter.unusedVariables false
set_option linter.unusedSimpArgs false
open Go.RowKit Go.ChangeShapes Go.WideShapes Go.Deep
theorem opens_ints {H : Type} {enc : TypeId × Value → H} {w : World} {base : Nat} {spare : Nat → Bool} {held : Bool} {a : Option Addr} {len cap : Nat} {d : DataW H} {ps : List MemPlace}
    (h : DataW.Trod enc Try.prog w base spare held 54 (.slice a len cap) d ps) : ∃ l : List Int, SlIs ic 1 w a len l ∧ (∀ x ∈ l, (Lit.int .i64 x).wf = true) ∧ len ≤ maxLen ∧ len ≤ cap :=
  open_sl1 ic (fun x => (Lit.int .i64 x).wf = true) Try.underlying54 (by kernel_rfl) (fun v n y hy => by
    obtain ⟨m, e, _, hw⟩ := DataW.trod_int Try.underlying3 hy
    simp at e
    exact ⟨m, hw, by simp [ic, e]⟩) h
end Go.Proofs.Ytmmhcacpehpjdaa
