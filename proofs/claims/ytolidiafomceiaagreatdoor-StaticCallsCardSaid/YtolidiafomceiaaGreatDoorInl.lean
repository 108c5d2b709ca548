/- Over any program: slices that came in (nil too): append(v, x...), pieces; a law of a list of operations at a step of a region that draws. No condition. -/
import Derived.Test.YtolidiafomceiaaGreatDoorApp
import Derived.Deep.RegionHeld3
import Derived.Deep.RegionLaw
namespace Go.Proofs.YtolidiafomceiaaGreatDoor
set_option linter.unusedVariables false
set_option linter.unusedSimpArgs false
open Go.RowKit
section
variable {P : Program} {α : Type} {cf : α → List Value} {sz : Nat}
/-- A slice that came in. -/
def InIs (cf : α → List Value) (sz : Nat) (w : World) (a : Option Addr) (c : Nat) (l : List α) : Prop := SlIs cf sz w a l.length l ∧ l.length ≤ c ∧ c ≤ maxLen ∧ (a = none → c = 0)
theorem InIs.kept {w w' : World} {a : Option Addr} {c : Nat} {l : List α} (h : InIs cf sz w a c l) (hc : Chg [] w w') : InIs cf sz w' a c l := ⟨h.1.kept hc, h.2⟩
theorem SlIs.none {w : World} {n : Nat} {l : List α} (h : SlIs cf sz w none n l) : n = 0 ∧ l = [] := by
  obtain ⟨h1, h2⟩ := h
  cases l with
  | nil => exact ⟨h1.symm, rfl⟩
  | cons x l =>
    obtain ⟨b, o, h, _⟩ := h2 0 (by simp)
    cases h
theorem InIs.src {w : World} {a : Option Addr} {c : Nat} {l : List α} (h : InIs cf sz w a c l) (hl : 0 < l.length) : SrcIs cf sz w (.slice a l.length c) l := by
  obtain ⟨h1, h2, h3, h4⟩ := h
  obtain ⟨b, o, rfl, hb, _⟩ := h1.2 0 hl
  refine .inr ⟨b, o, c, rfl, h2, h3, hb, fun k hk j hj => ?_⟩
  obtain ⟨b', o', e, _, h5⟩ := h1.2 k hk
  cases e
  rw [← h5 j hj]
  congr 2
  omega
theorem InIs.ofRow {w : World} {base : Nat} {e : TypeId} {a : Option Addr} {n c : Nat} {l : List α} (h : RowOf cf sz w base e (.slice a n c) l) (hc : ∀ x, (cf x).length = sz) : n = l.length ∧ InIs cf sz w a c l := by
  have hs := RowOf.sl h hc
  have hn : n = l.length := hs.1.1.symm
  subst hn
  refine ⟨rfl, hs.1, hs.2.1, ?_, ?_⟩
  · rcases RowOf.at h hc with ⟨h1, h2⟩ | ⟨g, cap, h1, h2, h3, _⟩
    · simp only [Value.slice.injEq] at h1; unfold maxLen; omega
    · simp only [Value.slice.injEq] at h1; omega
  · rintro rfl
    rcases RowOf.at h hc with ⟨h1, h2⟩ | ⟨g, cap, h1, h2, h3, _⟩
    · simp only [Value.slice.injEq] at h1; exact h1.2.2
    · simp at h1
/-- 'append(v, x...)'. -/
theorem wpl_appendsI {w : World} {ops : Array Oper} {rest : List Oper} {o : Oper} {a : Act} {Q : Exit → Act → World → Prop} (hgd : o.guard = none) (s x : Operand) (t : TypeId)
    (ho : o.op = .call { callee := .builtin .append, args := #[s, x], argTypes := #[t, t] }) (base : Nat) (e : TypeId) (z : Value) (bytes : Nat) (ht : P.underlying t = some (.slice e)) (hi : (P.info? e).map (fun i => (i.zero, i.size, i.bytes)) = some (some z, sz, bytes))
    (hzs : z.cells.size = sz) (hsz : 0 < sz) (hc : ∀ x, (cf x).length = sz) (h1 : ∀ x, ∀ u ∈ cf x, u.oneCell' = true) (v : Value) (l : List α) (hs : a.eval s = v) (hown : RowOf cf sz w base e v l)
    (ax : Option Addr) (c : Nat) (ys : List α) (hx : a.eval x = .slice ax ys.length c) (hsrc : InIs cf sz w ax c ys) (h63 : l.length + ys.length ≤ maxLen) (hbytes : (l.length + ys.length) * bytes ≤ 140737488355328) (hbase : base ≤ w.heap.size)
    (h : ∀ v' w', RowOf cf sz w' base e v' (l ++ ys) → Chg v.ownBlock.toList w w' → wpList P ops Q rest (a.put o.dst v') w') : wpList P ops Q (o :: rest) a w := by
  by_cases hys : 0 < ys.length
  · exact wpl_appendsX hgd s x t ho base e z bytes ht hi hzs hsz hc h1 v l hs hown _ ys hx (hsrc.src hys) h63 hbytes hbase h
  · have hn : ys = [] := by simpa using hys
    subst hn
    obtain ⟨i, hi0, hz0, hz1, hz2⟩ := info_parts hi
    cases ax with
    | none =>
      have hc0 := hsrc.2.2.2 rfl
      subst hc0
      exact wpl_appendsX hgd s x t ho base e z bytes ht hi hzs hsz hc h1 v l hs hown _ [] hx (.inl ⟨rfl, rfl⟩) h63 hbytes hbase h
    | some ad =>
      refine wpList_append_own _ hgd s x t ho base e i z sz bytes ht hi0 hz0 hz1 hz2 hzs hsz v l.length (l.flatMap cf) hs hown ad 0 c [] hx (by simp) (by intro j u hj; simp at hj) (by intro u hu; simp at hu) h63 hbytes hbase ?_
      intro v' w' hown' hg _
      exact h v' w' (by unfold RowOf; simpa using hown') (Chg.ofRow hg)
/-- A law of a list of operations, at a step of a region that draws. -/
theorem step_list {ops : Array Oper} {o : Oper} {a : Act} {w : World} {K : Act → World → Prop} {Q : Exit → Act → World → Prop} {E : Prop} {tm : Array Value} (hgd : o.guard = none)
    (h : wpList P ops (fun e a' w' => e = .normal ∧ K a' w') [o] a w) : if Region.wanted o (yielded ops tm) = true then Oper.wp P o a w K Q else E := by
  have hw : ∀ tm, Region.wanted o (yielded ops tm) = true := fun tm => by simp [Region.wanted, hgd]
  rw [if_pos (hw _)]
  have h2 : Oper.wp P o a w (fun a' w' => True ∧ K a' w') (fun e a' w' => e = .normal ∧ K a' w') := by
    unfold wpList at h
    rw [if_pos (hw _)] at h
    rcases h with h | ⟨_, a', w', h, _⟩
    · exact Oper.wp_mono (fun a w h => ⟨trivial, h.2⟩) h
    · cases h
  unfold Oper.wp Oper.upon at h2 ⊢
  revert h2
  generalize (execOp a.eval o).run P w = r
  rcases r with ⟨r, w'⟩ | ⟨r, w'⟩
  · cases r with
    | value v => exact fun h => h.2
    | skip => exact fun h => h.2
    | defer d => exact fun h => h.2
    | enter f args =>
      intro h
      refine Calls.mono h ?_
      intro e w'' he
      cases e with
      | returned v => exact he.2
      | panicked chain => exact absurd he.1 (by simp)
      | outgrown => obtain ⟨a', w', h, _⟩ := he; cases h
    | row r args => intro h; exact Rows.mono h (fun v w h => h.2)
    | _ => exact fun h => h
  · cases r with
    | panic v => intro h; exact absurd h.1 (by simp)
    | _ => exact fun h => h
end
end Go.Proofs.YtolidiafomceiaaGreatDoor
