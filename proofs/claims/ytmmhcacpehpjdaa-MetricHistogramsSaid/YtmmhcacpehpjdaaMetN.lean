/- Chapter 18: contract: Histogram of the program. No condition. -/
import Derived.Test.YtmmhcacpehpjdaaMetM
namespace Go.Proofs.Ytmmhcacpehpjdaa
set_option linter.unusedVariables false
set_option linter.unusedSimpArgs false
open Go.RowKit

def bchkL : Option Int → List Int → Int
  | _, [] => 0
  | p, x :: l => if amountB x = true then (if (match p with | some q => decide (x ≤ q) | none => false) = true then 11 else bchkL (some x) l) else 2
def prevI (l : List Int) : Nat → Option Int
  | 0 => none
  | j + 1 => l[j]?
theorem bchk_step (l : List Int) (k : Nat) (hk : k < l.length) : bchkL (prevI l k) (l.drop k) = if amountB l[k] = true then (if (match prevI l k with | some q => decide (l[k] ≤ q) | none => false) = true then 11 else bchkL (prevI l (k + 1)) (l.drop (k + 1))) else 2 := by
  rw [List.drop_eq_getElem_cons hk]
  have e : prevI l (k + 1) = some l[k] := List.getElem?_eq_getElem hk
  rw [e]; rfl
theorem bchk_ok : ∀ (l : List Int) (p : Option Int), bchkL p l = 0 → l.Pairwise (· < ·) ∧ (∀ q, p = some q → ∀ x ∈ l, q < x) := by
  intro l
  induction l with
  | nil => intro p _; simp
  | cons x l ih =>
    intro p h
    unfold bchkL at h
    by_cases ha : amountB x = true
    · rw [if_pos ha] at h
      have h2 : bchkL (some x) l = 0 ∧ (∀ q, p = some q → q < x) := by
        cases p with
        | none => simpa using h
        | some q =>
          by_cases hq : x ≤ q
          · simp [hq] at h
          · simp [hq] at h
            exact ⟨h, fun q' e => by cases e; omega⟩
      obtain ⟨h3, h4⟩ := ih _ h2.1
      refine ⟨List.pairwise_cons.2 ⟨fun y hy => h4 x rfl y hy, h3⟩, fun q e y hy => ?_⟩
      rcases List.mem_cons.1 hy with rfl | hy
      · exact h2.2 q e
      · have := h2.2 q e; have := h4 x rfl y hy; omega
    · rw [if_neg ha] at h; simp at h

def bump (o : List Int) (k : Nat) : List Int := o.set k (o.getD k 0 + 1)
def cntB (bs : List Int) (x : Int) : Nat := bs.countP (fun y => decide (y < x))
def histL (bs : List Int) (l : List Pt) : List Int := l.foldl (fun o p => bump o (cntB bs p.v)) (List.replicate (bs.length + 1) 0)
def histE (l : List Pt) (bs : List Int) : Int := if checkP l = 0 then (if 256 < bs.length then 3 else bchkL none bs) else checkP l
def histS (l : List Pt) (bs : List Int) : List Int × Int := if histE l bs = 0 then (histL bs l, 0) else ([], histE l bs)
def HiPost (w : World) (r : List Int × Int) (e : Ending) (w' : World) : Prop := ∃ v, e = .returned (.tuple #[v, .int .i64 r.2]) ∧ RowOf ic 1 w' w.heap.size 3 v r.1 ∧ Chg [] w w'

theorem cnt_le (bs : List Int) (x : Int) : cntB bs x ≤ bs.length := List.countP_le_length
theorem hist_step (bs : List Int) (l : List Pt) (k : Nat) (hk : k < l.length) : histL bs (l.take (k + 1)) = bump (histL bs (l.take k)) (cntB bs l[k].v) := by
  unfold histL
  rw [List.take_succ_eq_append_getElem hk, List.foldl_append]; rfl
theorem hist_len (bs : List Int) (l : List Pt) : (histL bs l).length = bs.length + 1 := by
  have : ∀ (l : List Pt) (o : List Int), (l.foldl (fun o p => bump o (cntB bs p.v)) o).length = o.length := by
    intro l
    induction l with
    | nil => intro o; rfl
    | cons x l ih => intro o; rw [List.foldl_cons, ih]; simp [bump]
  unfold histL
  rw [this]; simp
theorem hist_bd (bs : List Int) (l : List Pt) : ∀ x ∈ histL bs l, 0 ≤ x ∧ x ≤ (l.length : Int) := by
  have : ∀ (l : List Pt) (o : List Int) (N : Int), 0 ≤ N → (∀ x ∈ o, 0 ≤ x ∧ x ≤ N) → ∀ x ∈ l.foldl (fun o p => bump o (cntB bs p.v)) o, 0 ≤ x ∧ x ≤ N + l.length := by
    intro l
    induction l with
    | nil => intro o N hN h x hx; have := h x hx; simp; omega
    | cons p l ih =>
      intro o N hN h x hx
      rw [List.foldl_cons] at hx
      have h2 : ∀ y ∈ bump o (cntB bs p.v), 0 ≤ y ∧ y ≤ N + 1 := by
        intro y hy
        unfold bump at hy
        rcases List.mem_or_eq_of_mem_set hy with hy | hy
        · have := h y hy; omega
        · by_cases hk : cntB bs p.v < o.length
          · rw [List.getD_eq_getElem?_getD, List.getElem?_eq_getElem hk] at hy
            have := h _ (List.getElem_mem hk)
            simp only [Option.getD_some] at hy
            omega
          · rw [List.getD_eq_getElem?_getD, List.getElem?_eq_none (by omega)] at hy
            simp at hy; omega
      have := ih _ (N + 1) (by omega) h2 x hx
      simp only [List.length_cons]
      omega
  intro x hx
  have := this l (List.replicate (bs.length + 1) 0) 0 (by omega) (by intro y hy; have := List.eq_of_mem_replicate hy; omega) x hx
  omega

theorem search_any (a : Option Addr) (n c : Nat) (bs : List Int) (x : Int) (w : World) (h : SlIs ic 1 w a n bs) (hn : n ≤ 256) (hp : bs.Pairwise (· < ·)) : Calls Try.prog 54 #[.slice a n c, .int .i64 x] w fun e w' => e = .returned (.tuple #[.int .i64 (cntB bs x : Nat), .bool (bs.contains x)]) ∧ Chg [] w w' := by
  obtain ⟨hl, hc⟩ := h
  by_cases h0 : n = 0
  · have hb : bs = [] := List.eq_nil_of_length_eq_zero (by omega)
    subst h0 hb
    refine (Try.slices_BinarySearch_int_empty a c x w).mono ?_
    rintro e w' ⟨rfl, rfl⟩
    exact ⟨by simp [cntB], Chg.refl _ _⟩
  · obtain ⟨b, off, rfl, hb, _⟩ := hc 0 (by omega)
    have ht : bs.take n = bs := List.take_of_length_le (by omega)
    have := Try.slices_BinarySearch_int b off n c bs x w (by omega) (by omega) (fun j hj => by
      obtain ⟨b', off', e, _, h4⟩ := hc j hj
      cases e
      have := h4 0 (by omega)
      simp only [ic, List.getElem?_cons_zero, Nat.add_zero, Nat.mul_one] at this
      rw [this, List.getD_eq_getElem?_getD, List.getElem?_eq_getElem hj]; rfl) (by rw [ht]; exact hp.imp (fun h => by omega))
    rw [ht] at this
    refine this.mono ?_
    rintro e w' ⟨rfl, q, rfl⟩
    exact ⟨rfl, (Chg.refl _ _).drewN _⟩
end Go.Proofs.Ytmmhcacpehpjdaa
