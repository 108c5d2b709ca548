/- Chapter 50, plain: what a step leaves is valid; the search. No condition. -/
import Derived.Lib.ItoaLen
import Derived.Test.YtnhemokmgpelaaaGreatDoorLinE
namespace Go.Proofs.YtnhemokmgpelaaaGreatDoor
set_option linter.unusedVariables false
set_option linter.unusedSimpArgs false
open Go.RowKit
theorem check_int {n : Int} (h : validB n = true) : checkZ [intC n] = 0 := by
  obtain ⟨h1, h2⟩ := validB_iff.1 h
  have hlen : (Lib.itoa n).length ≤ 21 := Lib.itoa_length_le n (by omega) (by omega)
  have hsz : sizeZ (intC n) = ((Lib.itoa n).length : Int) := by simp [sizeZ, intC]
  have hw : IntKind.i64.wrap (0 + ((Lib.itoa n).length : Int)) = ((Lib.itoa n).length : Int) := by rw [Int.zero_add]; exact IntWalk.i64_in _ (by omega)
  have hlk : lookS [intC n] = (1, ⟨1, ((Lib.itoa n).length : Int), false, false⟩, true) := by
    unfold lookS
    rw [look_done (s' := ⟨1, ((Lib.itoa n).length : Int), false, false⟩)]
    · rfl
    · have he : emptyB ⟨#[]⟩ = true := by kernel_rfl
      rw [lookC_val (by simp [plainB, intC, he]) keyTop_nil]
      unfold valL
      rw [if_neg (by simp [intC])]
      have hv : valSh (intC n) sh0 ([] : List Opn).length = ⟨1, ((Lib.itoa n).length : Int), false, false⟩ := by
        unfold valSh
        rw [hsz]
        simp [sh0, intC, h, hw]
        exact ⟨by decide, by rw [Int.zero_add] at hw; exact hw, rfl⟩
      rw [hv]
      rfl
  unfold checkZ checkQ
  rw [hlk]
  simp
  omega
theorem check_null : checkZ [nullC] = 0 := by kernel_rfl
theorem check_bool (b : Bool) : checkZ [boolC b] = 0 := by cases b <;> kernel_rfl
theorem intC_good {n : Int} (h : validB n = true) : (intC n).good := by
  obtain ⟨h1, h2⟩ := validB_iff.1 h
  refine ⟨?_, ?_, (show (⟨#[]⟩ : ByteArray).size ≤ maxLen from Nat.zero_le _), ?_⟩
  · exact (by decide : (Lit.int .i64 3).wf = true)
  · simp [Lit.wf, intC, IntKind.min, IntKind.max, IntKind.bits, IntKind.signed]
    omega
  · exact (by decide : (Lit.int .i64 0).wf = true)
theorem intC_goodL {n : Int} (h : validB n = true) : goodL [intC n] := ⟨by simp, fun x hx => by simp at hx; subst hx; exact intC_good h⟩
/-- What an operation leaves is valid. -/
theorem doZ_next {st : List Ce} {o : POp} (h : (doZ st o).1 = 0) : checkZ (doZ st o).2.1 = 0 := by
  obtain ⟨h1, h2, h3⟩ := doZ_zero h
  rw [h3]
  obtain ⟨k0, k1, k2⟩ := chk_zero h1
  simp only [doF]
  split
  · exact h2
  · split
    · rename_i e
      rw [e] at k1
      match ha : o.args, k1 with
      | [v], _ => exact k2 v (by rw [ha]; simp)
    · split
      · rcases (addF_ans (a := o.args.headD []) (check_zero h2).2).2 with e | ⟨n, e, hv⟩
        · rw [e]; exact h2
        · rw [e]; exact check_int hv
      · split
        · rename_i e1 e2 e3 _
          have e4 : opN o.op = 4 := by
            rcases opN_cases o.op with ⟨_, e⟩ | ⟨_, e⟩ | ⟨_, e⟩ | ⟨_, e⟩ | ⟨_, e⟩ <;> first | exact e | exact absurd e (by assumption)
          rw [e4] at k1
          match ha : o.args, k1 with
          | [v, u], _ => exact k2 u (by rw [ha]; simp)
        · exact h2
theorem doZ_good {st : List Ce} {o : EOp} (h : (doZ st o.p).1 = 0) (hg : goodL st) (ho : o.good) : goodL (doZ st o.p).2.1 := by
  obtain ⟨h1, h2, h3⟩ := doZ_zero h
  rw [h3]
  obtain ⟨k0, k1, k2⟩ := chk_zero h1
  have hm : ∀ v ∈ o.p.args, goodL v := fun v hv => by
    obtain ⟨d, hd, rfl⟩ := List.mem_map.1 hv
    exact ho.2.2.2.2 d hd
  simp only [doF]
  split
  · exact hg
  · split
    · rename_i e
      rw [e] at k1
      match ha : o.p.args, k1 with
      | [v], _ => exact hm v (by rw [ha]; simp)
    · split
      · rcases (addF_ans (a := o.p.args.headD []) (check_zero h2).2).2 with e | ⟨n, e, hv⟩
        · rw [e]; exact hg
        · rw [e]; exact intC_goodL hv
      · split
        · have e4 : opN o.p.op = 4 := by
            rcases opN_cases o.p.op with ⟨_, e⟩ | ⟨_, e⟩ | ⟨_, e⟩ | ⟨_, e⟩ | ⟨_, e⟩ <;> first | exact e | exact absurd e (by assumption)
          rw [e4] at k1
          match ha : o.p.args, k1 with
          | [v, u], _ => exact hm u (by rw [ha]; simp)
        · exact hg
theorem sameB_iff {l m : List Ce} : sameB ceE l m = true ↔ l = m := by
  constructor
  · intro h
    unfold sameB at h
    rw [Bool.and_eq_true] at h
    obtain ⟨h1, h2⟩ := h
    have h1 : l.length = m.length := by simpa using h1
    unfold sameTo at h2
    rw [List.all_eq_true] at h2
    refine List.ext_getElem h1 (fun i hi hj => ?_)
    have := h2 i (by simpa using hi)
    rw [List.getElem?_eq_getElem hi, List.getElem?_eq_getElem hj] at this
    exact ceE_iff.1 this
  · rintro rfl
    exact same_refl (fun x => ceE_iff.2 rfl) l
theorem fits_some {st s : List Ce} {x : PCl} (h : fitsF st x = some s) : (doZ st x.o).1 = 0 ∧ s = (doZ st x.o).2.1 ∧ (openB x = false → (doZ st x.o).2.2.1 = x.err ∧ (doZ st x.o).2.2.2 = x.ans) := by
  unfold fitsF at h
  split at h
  · simp at h
  · rename_i h1
    split at h
    · rename_i h2
      simp only [Option.some.injEq] at h
      refine ⟨by simpa using h1, h.symm, fun ho => ?_⟩
      rw [ho, Bool.false_or, Bool.and_eq_true] at h2
      exact ⟨by simpa using h2.1, sameB_iff.1 h2.2⟩
    · simp at h
theorem fits_of {st : List Ce} {x : PCl} (h : (doZ st x.o).1 = 0) (ho : openB x = false → (doZ st x.o).2.2.1 = x.err ∧ (doZ st x.o).2.2.2 = x.ans) : fitsF st x = some (doZ st x.o).2.1 := by
  unfold fitsF
  rw [if_neg (by simp [h])]
  cases hx : openB x
  · obtain ⟨h1, h2⟩ := ho hx
    rw [if_pos (by rw [h1, h2]; simp [sameB_iff.2])]
  · rw [if_pos (by simp)]
/-! the search -/
def doneTo (l : List PCl) (pl : List Bool) (k : Nat) : Bool := (List.range k).all (fun i => match l[i]?, pl[i]? with | some x, some b => openB x || b | _, _ => true)
def doneB (l : List PCl) (pl : List Bool) : Bool := doneTo l pl l.length
theorem doneTo_step {l : List PCl} {pl : List Bool} {k : Nat} (h1 : k < l.length) (h2 : k < pl.length) : doneTo l pl (k + 1) = (doneTo l pl k && (openB l[k] || pl[k])) := by
  unfold doneTo
  rw [List.range_succ, List.all_append, List.all_cons, List.all_nil, Bool.and_true, List.getElem?_eq_getElem h1, List.getElem?_eq_getElem h2]
theorem doneB_no {l : List PCl} {pl : List Bool} {k : Nat} (h1 : k < l.length) (h2 : k < pl.length) (h : (openB l[k] || pl[k]) = false) : doneB l pl = false := by
  unfold doneB doneTo
  rw [List.all_eq_false]
  exact ⟨k, by simpa using h1, by rw [List.getElem?_eq_getElem h1, List.getElem?_eq_getElem h2]; simpa using h⟩
theorem doneB_iff {l : List PCl} {pl : List Bool} (hl : pl.length = l.length) : doneB l pl = true ↔ ∀ k (hk : k < l.length), openB l[k] = true ∨ pl[k]'(by omega) = true := by
  unfold doneB doneTo
  rw [List.all_eq_true]
  constructor
  · intro h k hk
    have := h k (by simpa using hk)
    rw [List.getElem?_eq_getElem hk, List.getElem?_eq_getElem (by omega)] at this
    simpa using this
  · intro h k hk
    have hk : k < l.length := by simpa using hk
    rw [List.getElem?_eq_getElem hk, List.getElem?_eq_getElem (by omega)]
    simpa using h k hk
def blockTo (l : List PCl) (pl : List Bool) (x : PCl) (m : Nat) : Bool := (List.range m).any (fun j => match l[j]?, pl[j]? with | some y, some b => !b && befB y x | _, _ => false)
def blockB (l : List PCl) (pl : List Bool) (x : PCl) : Bool := blockTo l pl x l.length
theorem blockTo_step {l : List PCl} {pl : List Bool} {x : PCl} {k : Nat} (h1 : k < l.length) (h2 : k < pl.length) : blockTo l pl x (k + 1) = (blockTo l pl x k || (!pl[k] && befB l[k] x)) := by
  unfold blockTo
  rw [List.range_succ, List.any_append, List.any_cons, List.any_nil, Bool.or_false, List.getElem?_eq_getElem h1, List.getElem?_eq_getElem h2]
theorem blockB_yes {l : List PCl} {pl : List Bool} {x : PCl} {k : Nat} (h1 : k < l.length) (h2 : k < pl.length) (h : (!pl[k] && befB l[k] x) = true) : blockB l pl x = true := by
  unfold blockB blockTo
  rw [List.any_eq_true]
  exact ⟨k, by simpa using h1, by rw [List.getElem?_eq_getElem h1, List.getElem?_eq_getElem h2]; exact h⟩
def goF (F : List Ce → List Bool → List Int → Option (List Int)) (st : List Ce) (pl : List Bool) (od : List Int) (k : Nat) (x : PCl) : Option (List Int) :=
  match fitsF st x with
  | none => none
  | some s => F s (pl.set k true) (od ++ [(k : Int)])
def tryF (l : List PCl) (F : List Ce → List Bool → List Int → Option (List Int)) (st : List Ce) (pl : List Bool) (od : List Int) (k : Nat) : Option (List Int) :=
  match l[k]?, pl[k]? with
  | some x, some false => if blockB l pl x = true then none else goF F st pl od k x
  | _, _ => none
def firstO (f : Nat → Option (List Int)) : Nat → Nat → Option (List Int)
  | _, 0 => none
  | k, n + 1 => match f k with | some r => some r | none => firstO f (k + 1) n
def findF (l : List PCl) : Nat → List Ce → List Bool → List Int → Option (List Int)
  | 0, _, pl, od => if doneB l pl = true then some od else none
  | n + 1, st, pl, od => if doneB l pl = true then some od else firstO (tryF l (findF l n) st pl od) 0 l.length
theorem firstO_at {f : Nat → Option (List Int)} : ∀ {n k0 k : Nat} {r : List Int}, k0 ≤ k → k < k0 + n → (∀ j, k0 ≤ j → j < k → f j = none) → f k = some r → firstO f k0 n = some r := by
  intro n
  induction n with
  | zero => intro k0 k r h1 h2; omega
  | succ n ih =>
    intro k0 k r h1 h2 h3 h4
    unfold firstO
    by_cases e : k0 = k
    · subst e; rw [h4]
    · rw [h3 k0 (Nat.le_refl _) (by omega)]
      exact ih (by omega) (by omega) (fun j hj hk => h3 j (by omega) hk) h4
theorem firstO_none {f : Nat → Option (List Int)} : ∀ {n k0 : Nat}, (∀ j, k0 ≤ j → j < k0 + n → f j = none) → firstO f k0 n = none := by
  intro n
  induction n with
  | zero => intro k0 _; rfl
  | succ n ih =>
    intro k0 h
    unfold firstO
    rw [h k0 (Nat.le_refl _) (by omega)]
    exact ih (fun j hj hk => h j (by omega) (by omega))
theorem firstO_some {f : Nat → Option (List Int)} : ∀ {n k0 : Nat} {r : List Int}, firstO f k0 n = some r → ∃ k, k0 ≤ k ∧ k < k0 + n ∧ f k = some r ∧ ∀ j, k0 ≤ j → j < k → f j = none := by
  intro n
  induction n with
  | zero => intro k0 r h; simp [firstO] at h
  | succ n ih =>
    intro k0 r h
    unfold firstO at h
    cases hf : f k0 with
    | some r' => rw [hf] at h; exact ⟨k0, Nat.le_refl _, by omega, by rw [hf]; exact h, fun j hj hk => by omega⟩
    | none =>
      rw [hf] at h
      obtain ⟨k, h1, h2, h3, h4⟩ := ih h
      refine ⟨k, by omega, by omega, h3, fun j hj hk => ?_⟩
      by_cases e : j = k0
      · rw [e]; exact hf
      · exact h4 j (by omega) hk
theorem done_count {l : List PCl} {pl : List Bool} (hl : pl.length = l.length) (h : pl.count false = 0) : doneB l pl = true := by
  rw [doneB_iff hl]
  intro k hk
  right
  have := List.count_eq_zero.1 h
  cases hb : pl[k]'(by omega) with
  | true => rfl
  | false => exact absurd (hb ▸ List.getElem_mem _) this
theorem count_set {pl : List Bool} {k : Nat} (h : pl[k]? = some false) : (pl.set k true).count false + 1 = pl.count false := by
  induction pl generalizing k with
  | nil => simp at h
  | cons b r ih =>
    cases k with
    | zero => simp at h; subst h; simp
    | succ k =>
      have := ih (by simpa using h)
      cases b <;> simp [List.count_cons] <;> omega
end Go.Proofs.YtnhemokmgpelaaaGreatDoor
