/- Chapter 30: what Read returned, beside a stream. No condition. -/
import Derived.Test.YtmichbpfmachcaaDoorStmO
namespace Go.Proofs.YtmichbpfmachcaaDoor
set_option linter.unusedVariables false
set_option linter.unusedSimpArgs false
open Go.RowKit
variable {W w w' : World} {b n : Nat} {st : Stm} {K : List Nat → World → Prop} {S : List Nat}
theorem SlIs.keptAt {α : Type} {cf : α → List Value} {sz : Nat} {a : Option Addr} {m : Nat} {l : List α} (h : SlIs cf sz w a m l) (hc : Chg S w w') (hS : ∀ x, a = some x → 0 < l.length → x.block ∉ S) : SlIs cf sz w' a m l := by
  obtain ⟨h1, h2⟩ := h
  refine ⟨h1, fun k hk => ?_⟩
  obtain ⟨q, o, e1, e2, e3⟩ := h2 k hk
  refine ⟨q, o, e1, hc.lt e2, fun j hj => ?_⟩
  rw [← e3 j hj]
  have hq := hc.block q e2 (hS _ e1 (by omega))
  unfold World.cell?
  simp only [hq]
/-- Records that can be read, as a side. -/
def JR (a : Option Addr) (M : List Rc) : List Nat → World → Prop := fun f w => RecsIn w a M ∧ (∀ x, a = some x → 0 < M.length → x.block ∈ f) ∧ (∀ r ∈ M, ∀ x, r.e.ba = some x → 0 < r.e.p.body.length → x.block ∈ f) ∧ ∀ x ∈ f, x < w.heap.size
theorem recSide (a : Option Addr) (M : List Rc) : Side (JR a M) := by
  refine ⟨fun h => h.2.2.2, fun {f S w w'} h hc hS => ?_⟩
  obtain ⟨⟨h1, h2⟩, h3, h4, h5⟩ := h
  exact ⟨⟨h1.keptAt hc (fun x hx hl => hS _ (h3 x hx hl)), fun r hr => ⟨(h2 r hr).1.keptAt hc (fun x hx hl => hS _ (h4 r hr x hx hl)), (h2 r hr).2⟩⟩, h3, h4, fun x hx => hc.lt (h5 x hx)⟩
theorem recs_new {a : Option Addr} {M : List Rc} {B : Nat} (h : RecsIn w a M) (hn : RecsNew B a M) : ∃ f, JR a M f w ∧ ∀ x ∈ f, B ≤ x := by
  refine ⟨(if 0 < M.length then a.toList.map (·.block) else []) ++ M.filterMap (fun r => if 0 < r.e.p.body.length then r.e.ba.map (·.block) else none), ⟨h, fun x hx hl => ?_, fun r hr x hx hl => ?_, fun x hx => ?_⟩, fun x hx => ?_⟩
  · rw [if_pos hl, hx]; simp
  · exact List.mem_append_right _ (List.mem_filterMap.2 ⟨r, hr, by rw [if_pos hl, hx]; rfl⟩)
  · rcases List.mem_append.1 hx with hx | hx
    · split at hx
      · rename_i hl
        obtain ⟨q, o, e1, e2, _⟩ := h.1.2 0 hl
        subst e1
        simp at hx
        subst hx
        exact e2
      · cases hx
    · obtain ⟨r, hr, he⟩ := List.mem_filterMap.1 hx
      split at he
      · rename_i hl
        obtain ⟨q, o, e1, e2, _⟩ := (h.2 r hr).1.2 0 hl
        rw [e1] at he
        simp at he
        subst he
        exact e2
      · cases he
  · rcases List.mem_append.1 hx with hx | hx
    · split at hx
      · cases ha : a with
        | none => rw [ha] at hx; simp at hx
        | some y => rw [ha] at hx; simp at hx; subst hx; exact hn.1 y ha
      · cases hx
    · obtain ⟨r, hr, he⟩ := List.mem_filterMap.1 hx
      split at he
      · cases ha : r.e.ba with
        | none => rw [ha] at he; simp at he
        | some y => rw [ha] at he; simp at he; subst he; exact hn.2 r hr y ha
      · cases he
theorem p_readC (sK : Side K) (h : Pair W w (JS b st) K) (ho : st.ok n) (hn : n ≤ 1048575) (k from_ most : Int) :
    Calls Tryd.prog 12 #[.pointer (some ⟨b, 0, none⟩), .int .i64 k, .int .i64 from_, .int .i64 most] w fun x w' => ∃ a c M, x = .returned (.tuple #[.slice a M.length c, .int .i64 (readR st k from_ most).2]) ∧ M.map Rc.p = (readR st k from_ most).1 ∧ Pair W w' (JS b st) (AndSide K (JR a M)) ∧ M.length ≤ c := by
  obtain ⟨f, k', h1, h2, h3, h4, h5, h6⟩ := h
  refine (read_any h1 ho hn k from_ most).mono ?_
  rintro x w' ⟨a, c, M, rfl, hM, hMp, hc, hN, hcap⟩
  obtain ⟨g, g1, g2⟩ := recs_new hM hN
  have l1 := (stmSide b st).lt h1
  have l2 := sK.lt h2
  refine ⟨a, c, M, rfl, hMp, ⟨f, k' ++ g, (stmSide b st).kept h1 hc (by simp), ⟨k', g, rfl, sK.kept h2 hc (by simp), g1, fun x hx hy => ?_⟩, h3, fun x hx => ?_, fun x hx hy => ?_, h6.thenSame hc⟩, hcap⟩
  · have := l2 x hx; have := g2 x hy; omega
  · rcases List.mem_append.1 hx with hx | hx
    · exact h4 x hx
    · exact Nat.le_trans h6.size (g2 x hx)
  · rcases List.mem_append.1 hy with hy | hy
    · exact h5 x hx hy
    · have := l1 x hx; have := g2 x hy; omega
theorem p_read (sK : Side K) (h : Pair W w (JS b st) K) (ho : st.ok n) (hn : n ≤ 1048575) (k from_ most : Int) :
    Calls Tryd.prog 12 #[.pointer (some ⟨b, 0, none⟩), .int .i64 k, .int .i64 from_, .int .i64 most] w fun x w' => ∃ a c M, x = .returned (.tuple #[.slice a M.length c, .int .i64 (readR st k from_ most).2]) ∧ M.map Rc.p = (readR st k from_ most).1 ∧ Pair W w' (JS b st) (AndSide K (JR a M)) := by
  refine (p_readC sK h ho hn k from_ most).mono ?_
  rintro x w' ⟨a, c, M, h1, h2, h3, -⟩
  exact ⟨a, c, M, h1, h2, h3⟩
theorem pair_recs {a : Option Addr} {M : List Rc} {J : List Nat → World → Prop} (h : Pair W w J (AndSide K (JR a M))) : RecsIn w a M := by
  obtain ⟨f, g, -, ⟨f2, g2, -, -, h3, -⟩, -⟩ := h
  exact h3.1
theorem pair_recs2 {a : Option Addr} {M : List Rc} {J L : List Nat → World → Prop} (h : Pair W w J (AndSide (AndSide K (JR a M)) L)) : RecsIn w a M := by
  obtain ⟨f, g, -, ⟨f2, g2, -, ⟨f3, g3, -, -, h3, -⟩, -⟩, -⟩ := h
  exact h3.1
end Go.Proofs.YtmichbpfmachcaaDoor
