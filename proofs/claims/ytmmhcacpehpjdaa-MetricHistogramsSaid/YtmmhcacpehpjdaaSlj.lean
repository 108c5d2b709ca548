/- Over any program: slices of one-cell elements (numbers, strings) that came in, read as lists. No condition. -/
import Derived.Test.YtmmhcacpehpjdaaSlice
namespace Go.Proofs.Ytmmhcacpehpjdaa
set_option linter.unusedVariables false
set_option linter.unusedSimpArgs false
open Go.RowKit Go.ChangeShapes Go.WideShapes Go.Deep
section
variable {H : Type} {enc : TypeId × Value → H} {P : Program} {w : World} {base : Nat} {spare : Nat → Bool} {held : Bool}

theorem open_sl1 {α : Type} (cf : α → List Value) (good : α → Prop) {t e : TypeId} {a : Option Addr} {len cap : Nat} {d : DataW H} {ps : List MemPlace} (ht : P.underlying t = some (.slice e)) (hC : P.cellsOf e = 1)
    (dec : ∀ (v : Value) (n : Nat) (y : DataW H × List MemPlace), DataW.trod enc P w base spare held n e [v] = some y → ∃ x : α, good x ∧ cf x = [v])
    (h : DataW.Trod enc P w base spare held t (.slice a len cap) d ps) : ∃ l : List α, SlIs cf 1 w a len l ∧ (∀ x ∈ l, good x) ∧ len ≤ maxLen ∧ len ≤ cap := by
  obtain ⟨fuel, hf⟩ := h
  rcases open_slice ht hf with hcs | ⟨x, l, c, m, n, D, Pl, hcs, hb, hl, hm, hmm, hx, hi⟩
  · have hcs := hcs.1
    simp [Value.cells] at hcs
    obtain ⟨rfl, rfl, rfl⟩ := hcs
    exact ⟨[], ⟨rfl, fun k hk => by simp at hk⟩, by simp, Nat.zero_le _, Nat.le_refl _⟩
  · simp [Value.cells] at hcs
    obtain ⟨rfl, rfl, rfl⟩ := hcs
    have hlm : len ≤ m := by rw [hmm]; split <;> omega
    have hstep : ∀ i, i < len → ∃ y : α, good y ∧ w.cell? (x.add i) = (cf y)[0]? ∧ ∃ v, cf y = [v] := by
      intro i hin
      obtain ⟨cs', hc, ht'⟩ := hi i (by omega)
      rw [hC, Nat.mul_one] at hc
      obtain ⟨_, hcl, hat⟩ := World.cells?_some hc
      have h0 := hat 0 (by omega)
      rcases cs' with _ | ⟨v, _ | ⟨u, cs'⟩⟩
      · simp at hcl
      · obtain ⟨y, hg, hy⟩ := dec v n _ ht'
        refine ⟨y, hg, ?_, v, hy⟩
        rw [hy]
        rw [Go.Deep.add_add, Nat.add_zero] at h0
        exact h0
      · simp at hcl
    obtain ⟨L, hL, hp⟩ := choose_list len (fun i y => good y ∧ w.cell? (x.add i) = (cf y)[0]? ∧ ∃ v, cf y = [v]) hstep
    refine ⟨L, ⟨hL, fun k hk => ?_⟩, fun y hy => ?_, Nat.le_trans hl hm, hl⟩
    · obtain ⟨b, off, spot⟩ := x
      obtain ⟨_, h0, v0, hv0⟩ := hp 0 (by omega)
      have hsp : spot = none := by
        cases spot with
        | none => rfl
        | some s =>
          exfalso
          have e0 : (⟨b, off, some s⟩ : Addr).add 0 = ⟨b, off, some s⟩ := by simp [Addr.add]
          rw [e0] at h0
          have : w.cell? ⟨b, off, some s⟩ = none := by unfold World.cell?; split <;> simp
          rw [this, hv0] at h0
          simp at h0
      subst hsp
      have hadd : ∀ m, (⟨b, off, none⟩ : Addr).add m = ⟨b, off + m, none⟩ := by
        intro m; unfold Addr.add; split
        · rename_i e; rw [e]; rfl
        · rfl
      obtain ⟨_, hk0, v, hv⟩ := hp k hk
      refine ⟨b, off, rfl, ?_, fun j hj => ?_⟩
      · rw [hadd, hv] at hk0
        exact World.block_lt_of_cell? w _ hk0
      · have : j = 0 := by omega
        subst this
        rw [← hk0, hadd]; simp
    · obtain ⟨k, hk, rfl⟩ := List.mem_iff_getElem.1 hy
      exact (hp k hk).1
end
end Go.Proofs.Ytmmhcacpehpjdaa
