/- Over any program: slices of structs (one-cell fields) that came in, read as lists; structs that came in by value. No condition. -/
import Derived.Test.YtolidiafomceiaaGreatDoorBase
import Derived.Deep.Slices
import Derived.Deep.Fields
import Derived.ChangeSame
import Derived.Lib.SmallJoins
import Derived.ProofKit
import Derived.OpenShut
namespace Go.Proofs.YtolidiafomceiaaGreatDoor
set_option linter.unusedVariables false
set_option linter.unusedSimpArgs false
open Go.RowKit Go.ChangeShapes Go.WideShapes Go.Deep

/-- The slice at a holds the elements of l (sz cells each). -/
def SlIs {α : Type} (cf : α → List Value) (sz : Nat) (w : World) (a : Option Addr) (len : Nat) (l : List α) : Prop :=
  l.length = len ∧ ∀ k (hk : k < l.length), ∃ b off, a = some ⟨b, off, none⟩ ∧ b < w.heap.size ∧ ∀ j, j < sz → w.cell? ⟨b, off + k * sz + j, none⟩ = (cf l[k])[j]?

theorem SlIs.kept {α : Type} {cf : α → List Value} {sz : Nat} {w w' : World} {a : Option Addr} {len : Nat} {l : List α} (h : SlIs cf sz w a len l) (hc : Chg [] w w') : SlIs cf sz w' a len l :=
  ⟨h.1, fun k hk => by
    obtain ⟨b, off, h1, h2, h3⟩ := h.2 k hk
    refine ⟨b, off, h1, hc.lt h2, fun j hj => ?_⟩
    rw [← h3 j hj]
    exact World.cell?_of_block (w := w) (hc.block b h2 (by simp))⟩
theorem SlIs.below {α : Type} {cf : α → List Value} {sz : Nat} {w w' : World} {a : Option Addr} {len : Nat} {l : List α} (h : SlIs cf sz w a len l) (hc : Below w.heap.size w w') : SlIs cf sz w' a len l := h.kept (Chg.ofBelow hc)

theorem choose_list {α : Type} (n : Nat) (P : Nat → α → Prop) (h : ∀ i, i < n → ∃ x, P i x) : ∃ l : List α, l.length = n ∧ ∀ i (hi : i < l.length), P i l[i] := by
  induction n with
  | zero => exact ⟨[], rfl, fun i hi => by simp at hi⟩
  | succ n ih =>
    obtain ⟨l, hl, hp⟩ := ih (fun i hi => h i (by omega))
    obtain ⟨x, hx⟩ := h n (by omega)
    refine ⟨l ++ [x], by simp [hl], fun i hi => ?_⟩
    by_cases hin : i < l.length
    · rw [List.getElem_append_left hin]; exact hp i hin
    · have : i = n := by simp at hi; omega
      subst this
      rw [List.getElem_append_right (by omega)]
      simpa [hl] using hx

section
variable {H : Type} {enc : TypeId × Value → H} {P : Program} {w : World} {base : Nat} {spare : Nat → Bool} {held : Bool}

theorem open_slice_fields {t e : TypeId} {fs : Array Field} {fuel : Nat} {cs : List Value} {x : DataW H × List MemPlace} (ht : P.underlying t = some (.slice e)) (he : P.underlying e = some (.struct fs))
    (hone : oneCellFields P fs = true) (hC : P.cellsOf e = fs.size) (h : DataW.trod enc P w base spare held fuel t cs = some x) :
    (cs = [.slice none 0 0]) ∨
    ∃ (a : Addr) (len cap m : Nat), cs = [.slice (some a) len cap] ∧ len ≤ cap ∧ cap ≤ maxLen ∧ len ≤ m ∧
      ∀ i, i < m → ∃ (ys : List (DataW H × List MemPlace)) (n : Nat), ys.length = fs.size ∧
        ∀ (j : Nat) (f : Field), fs[j]? = some f → ∃ (v : Value) (y : DataW H × List MemPlace), w.cell? (a.add (i * fs.size + j)) = some v ∧ ys[j]? = some y ∧ DataW.trod enc P w base spare held n f.type [v] = some y := by
  rcases open_slice ht h with h0 | ⟨a, len, cap, m, n, D, Pl, hcs, hb, hl, hm, hmm, hx, hi⟩
  · exact .inl h0.1
  · refine .inr ⟨a, len, cap, m, hcs, hl, hm, by rw [hmm]; split <;> omega, fun i him => ?_⟩
    obtain ⟨cs', hc, ht'⟩ := hi i him
    rw [hC] at hc
    obtain ⟨ys, n', hn', hy, hlen, hyl, hf⟩ := DataW.trod_struct he ht'
    obtain ⟨_, hcl, hat⟩ := World.cells?_some hc
    refine ⟨ys, n', hyl, fun j f hj => ?_⟩
    obtain ⟨ho, hk⟩ := hone_of hone j f hj
    have hjl : j < fs.size := (Array.getElem?_eq_some_iff.1 hj).1
    have hcell := hat j hjl
    have hv : cs'[j]? = some (cs'[j]'(by omega)) := List.getElem?_eq_getElem (by omega)
    have h1 := hf j f hj
    rw [ho, hk] at h1
    have hone' : (cs'.drop j).take 1 = [cs'[j]'(by omega)] := by
      rw [List.drop_eq_getElem_cons (by omega)]
      rfl
    rw [hone'] at h1
    have hys : ys[j]? = some (ys[j]'(by omega)) := List.getElem?_eq_getElem (by omega)
    refine ⟨_, _, ?_, hys, h1.trans hys⟩
    rw [← Go.Deep.add_add, hcell, hv]

/-- A slice of structs that came in, as a list: dec says what the fields' readings make of an element. -/
theorem open_sl {α : Type} (cf : α → List Value) (good : α → Prop) {t e : TypeId} {fs : Array Field} {a : Option Addr} {len cap : Nat} {d : DataW H} {ps : List MemPlace} (ht : P.underlying t = some (.slice e)) (he : P.underlying e = some (.struct fs))
    (hone : oneCellFields P fs = true) (hC : P.cellsOf e = fs.size) (hpos : 0 < fs.size) (hcf : ∀ x, (cf x).length = fs.size)
    (dec : ∀ f : Nat → Value, (∀ (j : Nat) (fd : Field), fs[j]? = some fd → ∃ (y : DataW H × List MemPlace) (n : Nat), DataW.trod enc P w base spare held n fd.type [f j] = some y) → ∃ x : α, good x ∧ ∀ j, j < fs.size → (cf x)[j]? = some (f j))
    (h : DataW.Trod enc P w base spare held t (.slice a len cap) d ps) : ∃ l : List α, SlIs cf fs.size w a len l ∧ (∀ x ∈ l, good x) ∧ len ≤ maxLen := by
  obtain ⟨fuel, hf⟩ := h
  rcases open_slice_fields ht he hone hC hf with hcs | ⟨x, l, c, m, hcs, hl, hm, hlm, hi⟩
  · simp [Value.cells] at hcs
    obtain ⟨rfl, rfl, rfl⟩ := hcs
    exact ⟨[], ⟨rfl, fun k hk => by simp at hk⟩, by simp, Nat.zero_le _⟩
  · simp [Value.cells] at hcs
    obtain ⟨rfl, rfl, rfl⟩ := hcs
    have hstep : ∀ i, i < len → ∃ y : α, good y ∧ ∀ j, j < fs.size → w.cell? (x.add (i * fs.size + j)) = (cf y)[j]? := by
      intro i hin
      obtain ⟨ys, n, hys, hfd⟩ := hi i (by omega)
      have hval : ∀ j, j < fs.size → ∃ v, w.cell? (x.add (i * fs.size + j)) = some v := by
        intro j hj
        obtain ⟨v, y, h1, _⟩ := hfd j fs[j] (by simp [hj])
        exact ⟨v, h1⟩
      obtain ⟨y, hg, hy⟩ := dec (fun j => (w.cell? (x.add (i * fs.size + j))).getD (.bool false)) (fun j fd hj => by
        obtain ⟨v, y, h1, h2, h3⟩ := hfd j fd hj
        exact ⟨y, n, by simpa [h1] using h3⟩)
      refine ⟨y, hg, fun j hj => ?_⟩
      obtain ⟨v, hv⟩ := hval j hj
      rw [hy j hj, hv]; rfl
    obtain ⟨l, hll, hp⟩ := choose_list len _ hstep
    refine ⟨l, ⟨hll, fun k hk => ?_⟩, fun y hy => ?_, Nat.le_trans hl hm⟩
    · obtain ⟨b, off, spot⟩ := x
      have h0 := (hp 0 (by omega)).2 0 hpos
      have hsp : spot = none := by
        cases spot with
        | none => rfl
        | some s =>
          exfalso
          have e0 : (⟨b, off, some s⟩ : Addr).add (0 * fs.size + 0) = ⟨b, off, some s⟩ := by simp [Addr.add]
          rw [e0] at h0
          have : w.cell? ⟨b, off, some s⟩ = none := by unfold World.cell?; split <;> simp
          rw [this] at h0
          have hlt : (cf l[0])[0]? = some ((cf l[0])[0]'(by rw [hcf]; exact hpos)) := List.getElem?_eq_getElem _
          rw [hlt] at h0; cases h0
      subst hsp
      have hadd : ∀ m, (⟨b, off, none⟩ : Addr).add m = ⟨b, off + m, none⟩ := by
        intro m; unfold Addr.add; split
        · rename_i e; rw [e]; rfl
        · rfl
      refine ⟨b, off, rfl, ?_, fun j hj => ?_⟩
      · have h1 := (hp k hk).2 0 hpos
        have hlt : (cf l[k])[0]? = some ((cf l[k])[0]'(by rw [hcf]; exact hpos)) := List.getElem?_eq_getElem _
        rw [hlt] at h1
        exact World.block_lt_of_cell? w _ (by rw [hadd] at h1; exact h1)
      · rw [← (hp k hk).2 j hj, hadd, Nat.add_assoc]
    · obtain ⟨k, hk, rfl⟩ := List.mem_iff_getElem.1 hy
      exact (hp k hk).1

/-- A struct of one-cell fields that came in by value. -/
theorem open_st {α : Type} (cf : α → List Value) (good : α → Prop) {r : Reach} {b0 : Nat} {t : TypeId} {fs : Array Field} {v : Value} {d : DataW H} {ps : List MemPlace} (ht : P.underlying t = some (.struct fs)) (hone : oneCellFields P fs = true) (hC : P.cellsOf t = fs.size)
    (hcf : ∀ x, (cf x).length = fs.size)
    (dec : ∀ f : Nat → Value, (∀ (j : Nat) (fd : Field), fs[j]? = some fd → ∃ (y : DataW H × List MemPlace) (n : Nat), DataW.trod enc P w base spare held n fd.type [f j] = some y) → ∃ x : α, good x ∧ ∀ j, j < fs.size → (cf x)[j]? = some (f j))
    (hv : Value.okWide P w r b0 t v) (h : DataW.Trod enc P w base spare held t v d ps) : ∃ x : α, v = .agg (cf x).toArray ∧ good x := by
  obtain ⟨cs, rfl, hsz⟩ := okWide_struct ht hv
  obtain ⟨fuel, hf⟩ := h
  obtain ⟨xs, n, _, hx, _, hlen, hg⟩ := DataW.trod_struct ht hf
  obtain ⟨x, hgx, hx'⟩ := dec (fun j => (cs[j]?).getD (.bool false)) (fun j fd hj => by
    obtain ⟨ho, hk⟩ := hone_of hone j fd hj
    have hjl : j < fs.size := (Array.getElem?_eq_some_iff.1 hj).1
    have hjc : j < cs.size := by rw [hsz, hC]; exact hjl
    have h1 := hg j fd hj
    rw [ho, hk] at h1
    have h2 : ((Value.agg cs).cells.toList.drop j).take 1 = [cs[j]] := by
      show (cs.toList.drop j).take 1 = _
      rw [List.drop_eq_getElem_cons (by simpa using hjc)]; simp
    rw [h2] at h1
    have hxj : xs[j]? = some (xs[j]'(by omega)) := List.getElem?_eq_getElem (by omega)
    exact ⟨_, n, by simpa [hjc] using h1.trans hxj⟩)
  refine ⟨x, ?_, hgx⟩
  congr 1
  apply Array.ext_getElem?
  intro j
  by_cases hj : j < fs.size
  · have := hx' j hj
    have e : (cf x).toArray[j]? = (cf x)[j]? := by simp
    rw [e, this]
    have hjc : j < cs.size := by rw [hsz, hC]; exact hj
    simp [hjc]
  · rw [Array.getElem?_eq_none (by rw [hsz, hC]; omega), Array.getElem?_eq_none (by rw [List.size_toArray, hcf]; omega)]
end
end Go.Proofs.YtolidiafomceiaaGreatDoor
