/- Over any program: slices of structs that hold structs, read as lists; such structs by value. No condition. -/
import Derived.Test.YtmichbpfmachcaaDoorSlice
namespace Go.Proofs.YtmichbpfmachcaaDoor
set_option linter.unusedVariables false
set_option linter.unusedSimpArgs false
open Go.RowKit Go.ChangeShapes Go.WideShapes Go.Deep

section
variable {H : Type} {enc : TypeId × Value → H} {P : Program} {w : World} {base : Nat} {spare : Nat → Bool} {held : Bool}
theorem cells_at {w : World} {base : Nat} {a : Addr} {n : Nat} {cs : List Value} (h : w.cells? base a n = some cs) : cs.length = n ∧ ∀ j, j < n → w.cell? (a.add j) = cs[j]? := by
  obtain ⟨_, hcl, hat⟩ := World.cells?_some h
  refine ⟨hcl, fun j hj => ?_⟩
  rw [hat j hj]

/-- A slice of structs, as a list: dec says what an element's cells are. -/
theorem open_slN {α : Type} (cf : α → List Value) (good : α → Prop) {t e : TypeId} {C : Nat} {a : Option Addr} {len cap : Nat} {d : DataW H} {ps : List MemPlace} (ht : P.underlying t = some (.slice e))
    (hC : P.cellsOf e = C) (hpos : 0 < C) (hcf : ∀ x, (cf x).length = C)
    (dec : ∀ (n : Nat) (cs : List Value) (y : DataW H × List MemPlace), DataW.trod enc P w base spare held n e cs = some y → ∃ x : α, good x ∧ cs = cf x)
    (h : DataW.Trod enc P w base spare held t (.slice a len cap) d ps) : ∃ l : List α, SlIs cf C w a len l ∧ (∀ x ∈ l, good x) ∧ len ≤ maxLen := by
  obtain ⟨fuel, hf⟩ := h
  rcases open_slice ht hf with ⟨h0, _⟩ | ⟨x, l, c, m, n, D, Pl, hcs, hb, hl, hm, hmm, hx, hi⟩
  · simp [Value.cells] at h0
    obtain ⟨rfl, rfl, rfl⟩ := h0
    exact ⟨[], ⟨rfl, fun k hk => by simp at hk⟩, by simp, Nat.zero_le _⟩
  · simp [Value.cells] at hcs
    obtain ⟨rfl, rfl, rfl⟩ := hcs
    have hlm : len ≤ m := by rw [hmm]; split <;> omega
    have hstep : ∀ i, i < len → ∃ y : α, good y ∧ ∀ j, j < C → w.cell? ((x.add (i * C)).add j) = (cf y)[j]? := by
      intro i hin
      obtain ⟨cs', hc, ht'⟩ := hi i (by omega)
      rw [hC] at hc
      obtain ⟨y, hg, rfl⟩ := dec _ _ _ ht'
      exact ⟨y, hg, (cells_at hc).2⟩
    obtain ⟨l, hll, hp⟩ := choose_list len _ hstep
    refine ⟨l, ⟨hll, fun k hk => ?_⟩, fun y hy => ?_, Nat.le_trans hl hm⟩
    · obtain ⟨b, off, spot⟩ := x
      have h0 := (hp 0 (by omega)).2 0 hpos
      have hsp : spot = none := by
        cases spot with
        | none => rfl
        | some s =>
          exfalso
          have e0 : ((⟨b, off, some s⟩ : Addr).add (0 * C)).add 0 = ⟨b, off, some s⟩ := by simp [Addr.add]
          rw [e0] at h0
          have : w.cell? ⟨b, off, some s⟩ = none := by unfold World.cell?; split <;> simp
          rw [this] at h0
          have hlt : (cf l[0])[0]? = some ((cf l[0])[0]'(by rw [hcf]; exact hpos)) := List.getElem?_eq_getElem _
          rw [hlt] at h0; cases h0
      subst hsp
      have hadd : ∀ off m, (⟨b, off, none⟩ : Addr).add m = ⟨b, off + m, none⟩ := by
        intro off m; unfold Addr.add; split
        · rename_i e; rw [e]; rfl
        · rfl
      refine ⟨b, off, rfl, ?_, fun j hj => ?_⟩
      · have h1 := (hp k hk).2 0 hpos
        have hlt : (cf l[k])[0]? = some ((cf l[k])[0]'(by rw [hcf]; exact hpos)) := List.getElem?_eq_getElem _
        rw [hlt] at h1
        exact World.block_lt_of_cell? w _ (by rw [hadd, hadd] at h1; exact h1)
      · rw [← (hp k hk).2 j hj, hadd, hadd]
    · obtain ⟨k, hk, rfl⟩ := List.mem_iff_getElem.1 hy
      exact (hp k hk).1

/-- A struct by value. -/
theorem open_stN {α : Type} (cf : α → List Value) (good : α → Prop) {r : Reach} {b0 : Nat} {t : TypeId} {fs : Array Field} {v : Value} {d : DataW H} {ps : List MemPlace} (ht : P.underlying t = some (.struct fs))
    (dec : ∀ (n : Nat) (cs : List Value) (y : DataW H × List MemPlace), DataW.trod enc P w base spare held n t cs = some y → ∃ x : α, good x ∧ cs = cf x)
    (hv : Value.okWide P w r b0 t v) (h : DataW.Trod enc P w base spare held t v d ps) : ∃ x : α, v = .agg (cf x).toArray ∧ good x := by
  obtain ⟨cs, rfl, hsz⟩ := okWide_struct ht hv
  obtain ⟨fuel, hf⟩ := h
  obtain ⟨x, hg, hx⟩ := dec _ _ _ hf
  have : cs.toList = cf x := hx
  exact ⟨x, by rw [← this], hg⟩
/-- A list by its one-cell parts. -/
theorem part_one {cs : List Value} {o : Nat} {v : Value} (h : (cs.drop o).take 1 = [v]) : cs[o]? = some v := by
  have := congrArg List.head? h
  simpa [List.head?_take, List.head?_drop] using this
theorem part_many {cs us : List Value} {o n : Nat} (h : (cs.drop o).take n = us) {j : Nat} (hj : j < n) : cs[o + j]? = us[j]? := by
  rw [← h, List.getElem?_take, if_pos hj, List.getElem?_drop]
end
end Go.Proofs.YtmichbpfmachcaaDoor
