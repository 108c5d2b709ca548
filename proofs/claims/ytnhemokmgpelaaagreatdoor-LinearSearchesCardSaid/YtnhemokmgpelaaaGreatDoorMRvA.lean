/- Values: the reference's parser as a plain function; what the program's look does along it. No condition. Values: the program's look does as the reference's parser; the checks are equal. No condition. Values: contracts of the reference's small functions. No condition. Values: contracts of the reference's Next, elements, pairs. No condition. -/
import Derived.Test.YtnhemokmgpelaaaGreatDoorStmA
import Derived.Lib.ItoaLen
namespace Go.Proofs.YtnhemokmgpelaaaGreatDoor
set_option linter.unusedVariables false
set_option linter.unusedSimpArgs false
open Go.RowKit
/-- The index behind a value, its levels, its text's length. -/
abbrev Par := Option (Nat × Nat × Int)
def elsP (g : Nat → Par) : Nat → Nat → Nat → Int → Par
  | 0, i, m, t => some (i, m, t)
  | n + 1, i, m, t => match g i with
    | none => none
    | some (j, lv, tl) => elsP g n j (max m lv) (t + tl)
def keyOk (c : Ce) (last : Option ByteArray) : Bool := c.kind == 4 && plainB c && !(match last with | none => false | some s => leS c.str s)
def quotN (s : ByteArray) : Int := (s.size : Int) + 2 + (Lib.countByte s.data.toList 34 : Nat) + (Lib.countByte s.data.toList 92 : Nat)
def prsP (v : List Ce) (g : Nat → Par) : Nat → Nat → Option ByteArray → Nat → Int → Par
  | 0, i, _, m, t => some (i, m, t)
  | n + 1, i, last, m, t => match v[i]? with
    | none => none
    | some c => if keyOk c last = false then none else match g (i + 1) with
      | none => none
      | some (j, lv, tl) => prsP v g n j (some c.str) (max m lv) (t + (quotN c.str + 1) + tl)
def leafN (c : Ce) : Int := if c.kind = 1 then 4 else if c.kind = 2 then 5 - c.n else if c.kind = 3 then ((Lib.itoa c.n).length : Int) else quotN c.str
def wrapP (n : Nat) : Par → Par
  | none => none
  | some (j, m, t) => some (j, m + 1, 2 + (n - 1 : Nat) + t)
def parP (v : List Ce) : Nat → Nat → Par
  | 0, _ => none
  | f + 1, i => match v[i]? with
    | none => none
    | some c => if plainB c = false then none else if c.kind = 5 then wrapP c.cn.toNat (elsP (parP v f) c.cn.toNat (i + 1) 0 0) else if c.kind = 6 then wrapP c.cn.toNat (prsP v (parP v f) c.cn.toNat (i + 1) none 0 0) else some (i + 1, 1, leafN c)
/-- Each value has a cell at least. -/
def Grows (v : List Ce) (g : Nat → Par) : Prop := ∀ i j lv tl, g i = some (j, lv, tl) → i < j ∧ j ≤ v.length
theorem els_grows {v : List Ce} {g : Nat → Par} (hg : Grows v g) : ∀ n i m t j m' t', elsP g n i m t = some (j, m', t') → i + n ≤ j ∧ (j ≤ v.length ∨ n = 0) := by
  intro n
  induction n with
  | zero => intro i m t j m' t' h; simp [elsP] at h; omega
  | succ n ih =>
    intro i m t j m' t' h
    rw [elsP] at h
    split at h
    · cases h
    · rename_i q1 j1 lv tl hj
      obtain ⟨h1, h2⟩ := hg _ _ _ _ hj
      obtain ⟨h3, h4⟩ := ih _ _ _ _ _ _ h
      refine ⟨by omega, ?_⟩
      rcases h4 with h4 | h4
      · exact .inl h4
      · subst h4; simp [elsP] at h; omega
theorem prs_grows {v : List Ce} {g : Nat → Par} (hg : Grows v g) : ∀ n i last m t j m' t', prsP v g n i last m t = some (j, m', t') → i + n ≤ j ∧ (j ≤ v.length ∨ n = 0) := by
  intro n
  induction n with
  | zero => intro i last m t j m' t' h; simp [prsP] at h; omega
  | succ n ih =>
    intro i last m t j m' t' h
    rw [prsP] at h
    split at h
    · cases h
    · split at h
      · cases h
      · split at h
        · cases h
        · rename_i q1 j1 lv tl hj
          obtain ⟨h1, h2⟩ := hg _ _ _ _ hj
          obtain ⟨h3, h4⟩ := ih _ _ _ _ _ _ _ h
          refine ⟨by omega, ?_⟩
          rcases h4 with h4 | h4
          · exact .inl h4
          · subst h4; simp [prsP] at h; omega
theorem wrapP_some {n : Nat} {p : Par} {j lv : Nat} {tl : Int} (h : wrapP n p = some (j, lv, tl)) : ∃ m t, p = some (j, m, t) ∧ lv = m + 1 ∧ tl = 2 + (n - 1 : Nat) + t := by
  cases p with
  | none => cases h
  | some q =>
    obtain ⟨j', m, t⟩ := q
    simp only [wrapP, Option.some.injEq, Prod.mk.injEq] at h
    obtain ⟨rfl, rfl, rfl⟩ := h
    exact ⟨m, t, rfl, rfl, rfl⟩
theorem par_grows (v : List Ce) : ∀ f, Grows v (parP v f) := by
  intro f
  induction f with
  | zero => intro i j lv tl h; cases h
  | succ f ih =>
    intro i j lv tl h
    rw [parP] at h
    split at h
    · cases h
    · rename_i c hc
      obtain ⟨hi, -⟩ := List.getElem?_eq_some_iff.1 hc
      split at h
      · cases h
      · split at h
        · obtain ⟨m, t, h1, -, -⟩ := wrapP_some h
          obtain ⟨h2, h3⟩ := els_grows ih _ _ _ _ _ _ _ h1
          refine ⟨by omega, ?_⟩
          rcases h3 with h3 | h3
          · exact h3
          · rw [h3] at h1; simp [elsP] at h1; omega
        · split at h
          · obtain ⟨m, t, h1, -, -⟩ := wrapP_some h
            obtain ⟨h2, h3⟩ := prs_grows ih _ _ _ _ _ _ _ _ h1
            refine ⟨by omega, ?_⟩
            rcases h3 with h3 | h3
            · exact h3
            · rw [h3] at h1; simp [prsP] at h1; omega
          · simp at h; omega
def badN (c : Ce) : Bool := c.kind == 3 && !validB c.n
def longN (c : Ce) : Bool := decide (200 < (c.str.size : Int))
def anyIn (p : Ce → Bool) (v : List Ce) (i j : Nat) : Bool := ((v.drop i).take (j - i)).any p
theorem anyIn_one (p : Ce → Bool) (v : List Ce) (i : Nat) (c : Ce) (h : v[i]? = some c) : anyIn p v i (i + 1) = p c := by
  obtain ⟨hi, hc⟩ := List.getElem?_eq_some_iff.1 h
  unfold anyIn
  rw [Nat.add_sub_cancel_left, List.drop_eq_getElem_cons hi, hc]
  simp
theorem anyIn_join (p : Ce → Bool) (v : List Ce) (i j k : Nat) (h1 : i ≤ j) (h2 : j ≤ k) : (anyIn p v i j || anyIn p v j k) = anyIn p v i k := by
  unfold anyIn
  have h3 : (v.drop i).take (k - i) = (v.drop i).take (j - i) ++ ((v.drop i).drop (j - i)).take (k - j) := by
    rw [show k - i = (j - i) + (k - j) by omega, List.take_add]
  rw [h3, List.any_append, List.drop_drop, show i + (j - i) = j by omega]
theorem anyIn_self (p : Ce → Bool) (v : List Ce) (i : Nat) : anyIn p v i i = false := by
  unfold anyIn; simp
/-- Few cells, short strings. -/
def Tiny (v : List Ce) : Prop := v.length ≤ 200 ∧ ∀ c ∈ v, c.str.size ≤ 200
/-- How a value's cells turn the shape. -/
structure Rel (v : List Ce) (i j : Nat) (D : Int) (lv : Int) (tl : Int) (s s' : Sh) : Prop where
  depth : s'.depth = max D lv
  out : s'.outside = (s.outside || anyIn badN v i j)
  long : s'.long = (s.long || anyIn longN v i j)
  bytes : Tiny v → 0 ≤ s.bytes → s.bytes ≤ 1000 * (i : Int) → s'.bytes = s.bytes + tl ∧ 0 ≤ tl ∧ s'.bytes ≤ 1000 * (j : Int)
/-- What look goes on to behind a value. -/
def contL (v : List Ce) (j : Nat) (s : Sh) (st : List Opn) : Int × Sh × Bool := if (closedL st).length = 0 then ((j : Int), s, true) else lookR v.length (v.drop j) j s (closedL st)
def Dead (v : List Ce) (i : Nat) (s : Sh) (st : List Opn) : Prop := ∃ s', lookR v.length (v.drop i) i s st = (0, s', false)
def Goes (v : List Ce) (g : Nat → Par) (lo : Nat) : Prop := ∀ i s st, lo ≤ i → keyTop st = none → (g i = none → Dead v i s st) ∧
  ∀ j lv tl, g i = some (j, lv, tl) → 1 ≤ lv ∧ ∃ s', lookR v.length (v.drop i) i s st = contL v j s' st ∧ Rel v i j s.depth (st.length + lv : Nat) tl s s'
theorem drop_cons {v : List Ce} {i : Nat} {c : Ce} (h : v[i]? = some c) : v.drop i = c :: v.drop (i + 1) := by
  obtain ⟨hi, hc⟩ := List.getElem?_eq_some_iff.1 h
  rw [List.drop_eq_getElem_cons hi, hc]
theorem dead_end {v : List Ce} {i : Nat} {s : Sh} {st : List Opn} (h : v[i]? = none) : Dead v i s st := by
  have := List.getElem?_eq_none_iff.1 h
  exact ⟨s, by rw [List.drop_eq_nil_of_le this]; rfl⟩
theorem keyTop_list (st : List Opn) (n : Int) (l : ByteArray) (b : Bool) (p : Bool) : keyTop (st ++ [⟨p, n, false, l, b⟩]) = none := keyTop_no st rfl
theorem look_els {v : List Ce} {g : Nat → Par} {lo : Nat} (hg : Goes v g lo) (hw : Grows v g) (st : List Opn) (l : ByteArray) (b : Bool) (D : Int) : ∀ n i m t s, lo ≤ i → s.depth = max D ((st.length + 1 + m : Nat) : Int) →
    (elsP g (n + 1) i m t = none → Dead v i s (st ++ [⟨false, (n + 1 : Nat), false, l, b⟩])) ∧
    ∀ j m' t', elsP g (n + 1) i m t = some (j, m', t') → ∃ s', lookR v.length (v.drop i) i s (st ++ [⟨false, (n + 1 : Nat), false, l, b⟩]) = contL v j s' st ∧ Rel v i j D ((st.length + 1 + m' : Nat) : Int) (t' - t) s s' := by
  intro n
  induction n with
  | zero =>
    intro i m t s hlo hs
    obtain ⟨h1, h2⟩ := hg i s (st ++ [⟨false, ((0 + 1 : Nat) : Int), false, l, b⟩]) hlo (keyTop_list ..)
    constructor
    · intro h
      rw [elsP] at h
      split at h
      · rename_i hn; exact h1 hn
      · simp [elsP] at h
    · intro j m' t' h
      rw [elsP] at h
      split at h
      · cases h
      · rename_i q1 j1 lv tl hj
        simp only [elsP, Option.some.injEq, Prod.mk.injEq] at h
        obtain ⟨rfl, rfl, rfl⟩ := h
        obtain ⟨h3, s', h4, h5⟩ := h2 _ _ _ hj
        refine ⟨s', ?_, ?_, h5.out, h5.long, fun ht hb hi => ?_⟩
        · rw [h4]
          have hcl : closedL (st ++ [⟨false, ((0 + 1 : Nat) : Int), false, l, b⟩]) = closedL st := by rw [closed_snoc, if_neg (by simp)]
          unfold contL
          rw [hcl]
        · rw [h5.depth, hs, List.length_append, List.length_singleton]
          omega
        · have := h5.bytes ht hb hi
          omega
  | succ n ih =>
    intro i m t s hlo hs
    obtain ⟨h1, h2⟩ := hg i s (st ++ [⟨false, ((n + 1 + 1 : Nat) : Int), false, l, b⟩]) hlo (keyTop_list ..)
    have step : ∀ j1 lv tl, g i = some (j1, lv, tl) → ∃ s1, lookR v.length (v.drop i) i s (st ++ [⟨false, ((n + 1 + 1 : Nat) : Int), false, l, b⟩]) = lookR v.length (v.drop j1) j1 s1 (st ++ [⟨false, ((n + 1 : Nat) : Int), false, l, b⟩]) ∧ Rel v i j1 D ((st.length + 1 + max m lv : Nat) : Int) tl s s1 := by
      intro j1 lv tl hj
      obtain ⟨h3, s', h4, h5⟩ := h2 _ _ _ hj
      refine ⟨s', ?_, ?_, h5.out, h5.long, h5.bytes⟩
      · rw [h4]
        have hcl : closedL (st ++ [⟨false, ((n + 1 + 1 : Nat) : Int), false, l, b⟩]) = st ++ [⟨false, ((n + 1 : Nat) : Int), false, l, b⟩] := by
          rw [closed_snoc, if_pos (by simp only; omega)]
          simp only
          congr 3
          omega
        unfold contL
        rw [hcl, if_neg (by simp)]
      · rw [h5.depth, hs, List.length_append, List.length_singleton]
        omega
    constructor
    · intro h
      rw [elsP] at h
      split at h
      · rename_i hn; exact h1 hn
      · rename_i q1 j1 lv tl hj
        obtain ⟨s1, e1, e2⟩ := step _ _ _ hj
        obtain ⟨s2, e3⟩ := (ih j1 (max m lv) (t + tl) s1 (by have := (hw _ _ _ _ hj).1; omega) e2.depth).1 h
        exact ⟨s2, by rw [e1, e3]⟩
    · intro j m' t' h
      rw [elsP] at h
      split at h
      · cases h
      · rename_i q1 j1 lv tl hj
        obtain ⟨s1, e1, e2⟩ := step _ _ _ hj
        obtain ⟨s2, e3, e4⟩ := (ih j1 (max m lv) (t + tl) s1 (by have := (hw _ _ _ _ hj).1; omega) e2.depth).2 _ _ _ h
        have q1 := (hw _ _ _ _ hj).1
        have q2 := (els_grows hw _ _ _ _ _ _ _ h).1
        refine ⟨s2, by rw [e1, e3], e4.depth, ?_, ?_, fun ht hb hi => ?_⟩
        · rw [e4.out, e2.out, Bool.or_assoc, anyIn_join _ _ _ _ _ (by omega) (by omega)]
        · rw [e4.long, e2.long, Bool.or_assoc, anyIn_join _ _ _ _ _ (by omega) (by omega)]
        · obtain ⟨a1, a2, a3⟩ := e2.bytes ht hb hi
          have := e4.bytes ht (by omega) (by omega)
          omega
end Go.Proofs.YtnhemokmgpelaaaGreatDoor
namespace Go.Proofs.YtnhemokmgpelaaaGreatDoor
set_option linter.unusedVariables false
set_option linter.unusedSimpArgs false
open Go.RowKit
def lastOf (b : Bool) (l : ByteArray) : Option ByteArray := if b then some l else none
theorem keyOk_no {c : Ce} {b : Bool} {l : ByteArray} (h : keyOk c (lastOf b l) = false) : plainB c = false ∨ (!(c.kind == 4) || (b && leS c.str l)) = true := by
  unfold keyOk at h
  cases hp : plainB c
  · exact .inl rfl
  · right
    rw [hp] at h
    cases hk : c.kind == 4
    · rfl
    · rw [hk] at h
      cases b
      · simp [lastOf] at h
      · simp only [lastOf, if_pos rfl, Bool.true_and] at h ⊢
        simpa using h
theorem keyOk_yes {c : Ce} {b : Bool} {l : ByteArray} (h : keyOk c (lastOf b l) = true) : plainB c = true ∧ c.kind = 4 ∧ (!(c.kind == 4) || (b && leS c.str l)) = false := by
  unfold keyOk at h
  simp only [Bool.and_eq_true] at h
  obtain ⟨⟨h1, h2⟩, h3⟩ := h
  refine ⟨h2, by simpa using h1, ?_⟩
  rw [h1]
  cases b
  · rfl
  · simp only [lastOf, if_pos rfl] at h3
    simpa using h3
theorem count_le (l : List UInt8) (c : UInt8) : Lib.countByte l c ≤ l.length := by
  unfold Lib.countByte
  first | exact List.count_le_length | exact List.countP_le_length | (exact List.length_filter_le _ _)
theorem quot_small {s : ByteArray} (h : s.size ≤ 200) : quotZ s = quotN s ∧ 0 ≤ quotN s ∧ quotN s ≤ 602 := by
  have h1 := count_le s.data.toList 34
  have h2 := count_le s.data.toList 92
  have h3 : s.data.toList.length = s.size := by simp
  unfold quotZ quotN
  refine ⟨?_, by omega, by omega⟩
  rw [IntWalk.i64_in ((s.size : Int) + 2) (by omega), IntWalk.i64_in ((s.size : Int) + 2 + (Lib.countByte s.data.toList 34 : Nat)) (by omega), IntWalk.i64_in _ (by omega)]
theorem look_prs {v : List Ce} {g : Nat → Par} {lo : Nat} (hg : Goes v g lo) (hw : Grows v g) (st : List Opn) (D : Int) : ∀ n i l b m t s, lo ≤ i → s.depth = max D ((st.length + 1 + m : Nat) : Int) →
    (prsP v g (n + 1) i (lastOf b l) m t = none → Dead v i s (st ++ [⟨true, (n + 1 : Nat), true, l, b⟩])) ∧
    ∀ j m' t', prsP v g (n + 1) i (lastOf b l) m t = some (j, m', t') → ∃ s', lookR v.length (v.drop i) i s (st ++ [⟨true, (n + 1 : Nat), true, l, b⟩]) = contL v j s' st ∧ Rel v i j D ((st.length + 1 + m' : Nat) : Int) (t' - t) s s' := by
  intro n
  induction n with
  | zero =>
    intro i l b m t s hlo hs
    rw [prsP]
    split
    · rename_i hn
      exact ⟨fun _ => dead_end hn, fun j m' t' h => by cases h⟩
    rename_i c hc
    have hdr := drop_cons hc
    have hmem : c ∈ v := List.mem_of_getElem? hc
    split
    · rename_i hk
      refine ⟨fun _ => ?_, fun j m' t' h => by cases h⟩
      unfold Dead
      rw [hdr]
      rcases keyOk_no hk with h1 | h1
      · exact ⟨s, look_fail (lookC_plain h1)⟩
      · cases hp : plainB c
        · exact ⟨s, look_fail (lookC_plain hp)⟩
        · exact ⟨s, look_fail (by rw [lookC_key hp rfl, if_pos h1])⟩
    rename_i hk
    obtain ⟨k1, k2, k3⟩ := keyOk_yes (by simpa using hk)
    have hst : lookR v.length (v.drop i) i s (st ++ [⟨true, ((0 + 1 : Nat) : Int), true, l, b⟩]) = lookR v.length (v.drop (i + 1)) (i + 1) (keySh c s) (st ++ [⟨true, ((0 + 1 : Nat) : Int), false, c.str, true⟩]) := by
      rw [hdr]
      exact look_next (by rw [lookC_key k1 rfl, if_neg (by rw [k3]; decide)])
    obtain ⟨h1, h2⟩ := hg (i + 1) (keySh c s) (st ++ [⟨true, ((0 + 1 : Nat) : Int), false, c.str, true⟩]) (by omega) (keyTop_list ..)
    constructor
    · intro h
      unfold Dead
      rw [hst]
      split at h
      · rename_i hn; exact h1 hn
      · simp [prsP] at h
    · intro j m' t' h
      split at h
      · cases h
      · rename_i q1 j1 lv tl hj
        simp only [prsP, Option.some.injEq, Prod.mk.injEq] at h
        obtain ⟨rfl, rfl, rfl⟩ := h
        obtain ⟨h3, s', h4, h5⟩ := h2 _ _ _ hj
        have hgr := (hw _ _ _ _ hj).1
        have o1 := h5.out
        have o2 := h5.long
        refine ⟨s', ?_, ?_, ?_, ?_, fun ht hb hi => ?_⟩
        · rw [hst, h4]
          have hcl : closedL (st ++ [⟨true, ((0 + 1 : Nat) : Int), false, c.str, true⟩]) = closedL st := by rw [closed_snoc, if_neg (by simp)]
          unfold contL
          rw [hcl]
        · rw [h5.depth, List.length_append, List.length_singleton]
          simp only [keySh, hs]
          omega
        · rw [o1, ← anyIn_join badN v i (i + 1) j1 (by omega) (by omega), anyIn_one badN v i c hc]
          simp [keySh, badN, k2]
        · rw [o2, ← anyIn_join longN v i (i + 1) j1 (by omega) (by omega), anyIn_one longN v i c hc]
          simp only [keySh, longN, Bool.or_assoc]
        · obtain ⟨z1, z2, z3⟩ := quot_small (ht.2 c hmem)
          have hkb : (keySh c s).bytes = s.bytes + (quotN c.str + 1) := by
            have hl := ht.1
            obtain ⟨hii, -⟩ := List.getElem?_eq_some_iff.1 hc
            simp only [keySh]
            rw [z1, IntWalk.i64_in (quotN c.str + 1) (by omega), IntWalk.i64_in _ (by omega)]
          have := h5.bytes ht (by omega) (by omega)
          omega
  | succ n ih =>
    intro i l b m t s hlo hs
    rw [prsP]
    split
    · rename_i hn
      exact ⟨fun _ => dead_end hn, fun j m' t' h => by cases h⟩
    rename_i c hc
    have hdr := drop_cons hc
    have hmem : c ∈ v := List.mem_of_getElem? hc
    split
    · rename_i hk
      refine ⟨fun _ => ?_, fun j m' t' h => by cases h⟩
      unfold Dead
      rw [hdr]
      rcases keyOk_no hk with h1 | h1
      · exact ⟨s, look_fail (lookC_plain h1)⟩
      · cases hp : plainB c
        · exact ⟨s, look_fail (lookC_plain hp)⟩
        · exact ⟨s, look_fail (by rw [lookC_key hp rfl, if_pos h1])⟩
    rename_i hk
    obtain ⟨k1, k2, k3⟩ := keyOk_yes (by simpa using hk)
    have hst : lookR v.length (v.drop i) i s (st ++ [⟨true, ((n + 1 + 1 : Nat) : Int), true, l, b⟩]) = lookR v.length (v.drop (i + 1)) (i + 1) (keySh c s) (st ++ [⟨true, ((n + 1 + 1 : Nat) : Int), false, c.str, true⟩]) := by
      rw [hdr]
      exact look_next (by rw [lookC_key k1 rfl, if_neg (by rw [k3]; decide)])
    obtain ⟨h1, h2⟩ := hg (i + 1) (keySh c s) (st ++ [⟨true, ((n + 1 + 1 : Nat) : Int), false, c.str, true⟩]) (by omega) (keyTop_list ..)
    have step : ∀ j1 lv tl, g (i + 1) = some (j1, lv, tl) → ∃ s1, lookR v.length (v.drop i) i s (st ++ [⟨true, ((n + 1 + 1 : Nat) : Int), true, l, b⟩]) = lookR v.length (v.drop j1) j1 s1 (st ++ [⟨true, ((n + 1 : Nat) : Int), true, c.str, true⟩]) ∧ Rel v i j1 D ((st.length + 1 + max m lv : Nat) : Int) (quotN c.str + 1 + tl) s s1 := by
      intro j1 lv tl hj
      obtain ⟨h3, s', h4, h5⟩ := h2 _ _ _ hj
      have hgr := (hw _ _ _ _ hj).1
      have o1 := h5.out
      have o2 := h5.long
      refine ⟨s', ?_, ?_, ?_, ?_, fun ht hb hi => ?_⟩
      · rw [hst, h4]
        have hcl : closedL (st ++ [⟨true, ((n + 1 + 1 : Nat) : Int), false, c.str, true⟩]) = st ++ [⟨true, ((n + 1 : Nat) : Int), true, c.str, true⟩] := by
          rw [closed_snoc, if_pos (by simp only; omega)]
          simp only
          congr 3
          omega
        unfold contL
        rw [hcl, if_neg (by simp)]
      · rw [h5.depth, List.length_append, List.length_singleton]
        simp only [keySh, hs]
        omega
      · rw [o1, ← anyIn_join badN v i (i + 1) j1 (by omega) (by omega), anyIn_one badN v i c hc]
        simp [keySh, badN, k2]
      · rw [o2, ← anyIn_join longN v i (i + 1) j1 (by omega) (by omega), anyIn_one longN v i c hc]
        simp only [keySh, longN, Bool.or_assoc]
      · obtain ⟨z1, z2, z3⟩ := quot_small (ht.2 c hmem)
        have hkb : (keySh c s).bytes = s.bytes + (quotN c.str + 1) := by
          have hl := ht.1
          obtain ⟨hii, -⟩ := List.getElem?_eq_some_iff.1 hc
          simp only [keySh]
          rw [z1, IntWalk.i64_in (quotN c.str + 1) (by omega), IntWalk.i64_in _ (by omega)]
        have := h5.bytes ht (by omega) (by omega)
        omega
    constructor
    · intro h
      split at h
      · rename_i hn
        unfold Dead
        rw [hst]
        exact h1 hn
      · rename_i q1 j1 lv tl hj
        obtain ⟨s1, e1, e2⟩ := step _ _ _ hj
        obtain ⟨s2, e3⟩ := (ih j1 c.str true (max m lv) (t + (quotN c.str + 1) + tl) s1 (by have := (hw _ _ _ _ hj).1; omega) e2.depth).1 h
        exact ⟨s2, by rw [e1, e3]⟩
    · intro j m' t' h
      split at h
      · cases h
      · rename_i q1 j1 lv tl hj
        obtain ⟨s1, e1, e2⟩ := step _ _ _ hj
        obtain ⟨s2, e3, e4⟩ := (ih j1 c.str true (max m lv) (t + (quotN c.str + 1) + tl) s1 (by have := (hw _ _ _ _ hj).1; omega) e2.depth).2 _ _ _ h
        have q1 := (hw _ _ _ _ hj).1
        have q2 := (prs_grows hw _ _ _ _ _ _ _ _ h).1
        refine ⟨s2, by rw [e1, e3], e4.depth, ?_, ?_, fun ht hb hi => ?_⟩
        · rw [e4.out, e2.out, Bool.or_assoc, anyIn_join _ _ _ _ _ (by omega) (by omega)]
        · rw [e4.long, e2.long, Bool.or_assoc, anyIn_join _ _ _ _ _ (by omega) (by omega)]
        · obtain ⟨a1, a2, a3⟩ := e2.bytes ht hb hi
          have := e4.bytes ht (by omega) (by omega)
          omega
theorem size_leaf {c : Ce} (hc : c.good) (h5 : c.kind ≠ 5) (h6 : c.kind ≠ 6) (hp : plainB c = true) (ht : c.str.size ≤ 200) : sizeZ c = leafN c ∧ 0 ≤ leafN c ∧ leafN c ≤ 602 := by
  unfold sizeZ leafN
  unfold plainB at hp
  by_cases h1 : c.kind = 1
  · rw [if_pos h1, if_pos h1]; omega
  rw [if_neg h1, if_neg h1] at *
  by_cases h2 : c.kind = 2
  · rw [if_pos h2, if_pos h2] at *
    simp only [Bool.and_eq_true, Bool.or_eq_true, beq_iff_eq] at hp
    rw [IntWalk.i64_in _ (by omega)]
    omega
  rw [if_neg h2, if_neg h2] at *
  by_cases h3 : c.kind = 3
  · rw [if_pos h3, if_pos h3] at *
    have hb : -9223372036854775808 ≤ c.n ∧ c.n ≤ 9223372036854775807 := by
      have := hc.2.1
      obtain ⟨u1, u2⟩ : IntKind.i64.min ≤ c.n ∧ c.n ≤ IntKind.i64.max := by simpa [Lit.wf] using this
      exact ⟨u1, u2⟩
    have := Lib.itoa_length_le c.n hb.1 hb.2
    omega
  rw [if_neg h3, if_neg h3] at *
  by_cases h4 : c.kind = 4
  · rw [if_pos h4] at *
    obtain ⟨q1, q2, q3⟩ := quot_small ht
    exact ⟨q1, q2, q3⟩
  · exfalso
    rw [if_neg h4, if_neg (by omega)] at hp
    cases hp
theorem closed_len0 (st : List Opn) : (closedL st).length = 0 ∨ (closedL st).length ≠ 0 := by omega
theorem sh_val {c : Ce} {s : Sh} {d : Nat} : (valSh c s d).outside = (s.outside || badN c) ∧ (valSh c s d).long = (s.long || longN c) ∧ (valSh c s d).depth = max s.depth ((d : Int) + 1) := ⟨rfl, rfl, rfl⟩
theorem kinds56 {c : Ce} (h : c.kind = 5 ∨ c.kind = 6) (hp : plainB c = true) : 0 ≤ c.cn ∧ badN c = false ∧ (c.kind == 6) = decide (c.kind = 6) := by
  unfold plainB at hp
  refine ⟨?_, ?_, by by_cases h6 : c.kind = 6 <;> simp [h6]⟩
  · rw [if_neg (by omega), if_neg (by omega), if_neg (by omega), if_neg (by omega), if_pos h] at hp
    simp only [Bool.and_eq_true, decide_eq_true_eq] at hp
    exact hp.2
  · unfold badN
    have : (c.kind == 3) = false := beq_eq_false_iff_ne.2 (by omega)
    rw [this]; rfl
theorem leaf_cn {c : Ce} (h5 : c.kind ≠ 5) (h6 : c.kind ≠ 6) (hp : plainB c = true) : ¬ (0 < c.cn) := by
  unfold plainB at hp
  split at hp
  · simp only [Bool.and_eq_true, beq_iff_eq] at hp; omega
  split at hp
  · simp only [Bool.and_eq_true, beq_iff_eq] at hp; omega
  split at hp
  · simp only [Bool.and_eq_true, beq_iff_eq] at hp; omega
  split at hp
  · simp only [Bool.and_eq_true, beq_iff_eq] at hp; omega
  split at hp
  · omega
  · cases hp
theorem size_56 {c : Ce} (h : c.kind = 5 ∨ c.kind = 6) (h0 : 0 ≤ c.cn) (h1 : c.cn ≤ 1000000) : sizeZ c = 2 + (c.cn.toNat - 1 : Nat) := by
  unfold sizeZ
  rw [if_neg (by omega), if_neg (by omega), if_neg (by omega), if_neg (by omega), IntWalk.i64_in (c.cn - 1) (by omega), IntWalk.i64_in _ (by omega)]
  omega
theorem look_par (v : List Ce) (hgood : ∀ c ∈ v, c.good) : ∀ f i, v.length < f + i → ∀ s st, keyTop st = none → (parP v f i = none → Dead v i s st) ∧
    ∀ j lv tl, parP v f i = some (j, lv, tl) → 1 ≤ lv ∧ ∃ s', lookR v.length (v.drop i) i s st = contL v j s' st ∧ Rel v i j s.depth (st.length + lv : Nat) tl s s' := by
  intro f
  induction f with
  | zero =>
    intro i hi s st hst
    exact ⟨fun _ => dead_end (List.getElem?_eq_none (by omega)), fun j lv tl h => by cases h⟩
  | succ f ih =>
    intro i hi s st hst
    rw [parP]
    split
    · rename_i hn
      exact ⟨fun _ => dead_end hn, fun j lv tl h => by cases h⟩
    rename_i c hc
    have hdr := drop_cons hc
    have hmem : c ∈ v := List.mem_of_getElem? hc
    obtain ⟨hii, -⟩ := List.getElem?_eq_some_iff.1 hc
    split
    · rename_i hp
      refine ⟨fun _ => ?_, fun j lv tl h => by cases h⟩
      unfold Dead
      rw [hdr]
      exact ⟨s, look_fail (lookC_plain hp)⟩
    rename_i hp
    have hp : plainB c = true := by simpa using hp
    have hval := lookC_val (len := v.length) (s := s) hp hst
    obtain ⟨v1, v2, v3⟩ := sh_val (c := c) (s := s) (d := st.length)
    have vb : (valSh c s st.length).bytes = IntKind.i64.wrap (s.bytes + sizeZ c) := rfl
    have hG : Goes v (parP v f) (i + 1) := fun i' s st h1 h2 => ih i' (by omega) s st h2
    have hW := par_grows v f
    -- a cell alone
    have leaf : ∀ tl : Int, ¬ (0 < c.cn) → (Tiny v → sizeZ c = tl ∧ 0 ≤ tl ∧ tl ≤ 1000) → ∃ s', lookR v.length (v.drop i) i s st = contL v (i + 1) s' st ∧ Rel v i (i + 1) s.depth (st.length + 1 : Nat) tl s s' := by
      intro tl hcn hsz
      refine ⟨valSh c s st.length, ?_, ⟨by rw [v3]; push_cast; rfl, by rw [v1, anyIn_one _ _ _ _ hc], by rw [v2, anyIn_one _ _ _ _ hc], fun ht hb hib => ?_⟩⟩
      · rw [hdr]
        unfold contL
        rcases closed_len0 st with h0 | h0
        · rw [if_pos h0]
          exact look_done (by rw [hval]; unfold valL; rw [if_neg hcn, if_pos h0])
        · rw [if_neg h0]
          exact look_next (by rw [hval]; unfold valL; rw [if_neg hcn, if_neg h0])
      · obtain ⟨z1, z2, z3⟩ := hsz ht
        have := ht.1
        rw [vb, z1, IntWalk.i64_in _ (by omega)]
        omega
    have down : 0 < c.cn → ¬ ((v.length : Int) < c.cn) → lookR v.length (v.drop i) i s st = lookR v.length (v.drop (i + 1)) (i + 1) (valSh c s st.length) (st ++ [⟨c.kind == 6, c.cn, c.kind == 6, ⟨#[]⟩, false⟩]) := by
      intro h1 h2
      rw [hdr]
      exact look_next (by rw [hval]; unfold valL; rw [if_pos h1, if_neg h2])
    have over : 0 < c.cn → ((v.length : Int) < c.cn) → Dead v i s st := by
      intro h1 h2
      unfold Dead
      rw [hdr]
      exact ⟨_, look_fail (by rw [hval]; unfold valL; rw [if_pos h1, if_pos h2])⟩
    -- a list or map with parts
    have many : ∀ (P : Par) (n : Nat), c.cn.toNat = n + 1 → (c.kind = 5 ∨ c.kind = 6) → (∀ j m t, P = some (j, m, t) → i + 1 + (n + 1) ≤ j ∧ j ≤ v.length) →
        ((P = none → Dead v (i + 1) (valSh c s st.length) (st ++ [⟨c.kind == 6, c.cn, c.kind == 6, ⟨#[]⟩, false⟩])) ∧ ∀ j m' t', P = some (j, m', t') → ∃ s', lookR v.length (v.drop (i + 1)) (i + 1) (valSh c s st.length) (st ++ [⟨c.kind == 6, c.cn, c.kind == 6, ⟨#[]⟩, false⟩]) = contL v j s' st ∧ Rel v (i + 1) j s.depth ((st.length + 1 + m' : Nat) : Int) (t' - 0) (valSh c s st.length) s') →
        (wrapP (n + 1) P = none → Dead v i s st) ∧ ∀ j lv tl, wrapP (n + 1) P = some (j, lv, tl) → 1 ≤ lv ∧ ∃ s', lookR v.length (v.drop i) i s st = contL v j s' st ∧ Rel v i j s.depth (st.length + lv : Nat) tl s s' := by
      intro P n hn hk hgr hP
      obtain ⟨k1, k2, -⟩ := kinds56 hk hp
      have hpos : 0 < c.cn := by omega
      constructor
      · intro h
        by_cases hov : (v.length : Int) < c.cn
        · exact over hpos hov
        · unfold Dead
          rw [down hpos hov]
          cases P with
          | none => exact hP.1 rfl
          | some q => cases h
      · intro j lv tl h
        obtain ⟨m, t, h1, rfl, rfl⟩ := wrapP_some h
        obtain ⟨g1, g2⟩ := hgr _ _ _ h1
        have hov : ¬ ((v.length : Int) < c.cn) := by omega
        obtain ⟨s', h2, h3⟩ := hP.2 _ _ _ h1
        refine ⟨by omega, s', by rw [down hpos hov, h2], ?_, ?_, ?_, fun ht hb hib => ?_⟩
        · rw [h3.depth]; congr 1; omega
        · rw [h3.out, v1, k2, Bool.or_false, ← anyIn_join badN v i (i + 1) j (by omega) (by omega), anyIn_one badN v i c hc, k2, Bool.false_or]
        · rw [h3.long, v2, Bool.or_assoc, ← anyIn_one longN v i c hc, anyIn_join longN v i (i + 1) j (by omega) (by omega)]
        · have hl := ht.1
          have hsz := size_56 hk k1 (by omega)
          have hbb : (valSh c s st.length).bytes = s.bytes + (2 + (n : Int)) := by
            rw [vb, hsz, IntWalk.i64_in _ (by omega)]
            omega
          have := h3.bytes ht (by omega) (by omega)
          omega
    split
    · rename_i h5
      cases hn : c.cn.toNat with
      | zero =>
        obtain ⟨k1, k2, -⟩ := kinds56 (.inl h5) hp
        refine ⟨fun h => by simp [elsP, wrapP] at h, fun j lv tl h => ?_⟩
        simp only [elsP, wrapP, Option.some.injEq, Prod.mk.injEq] at h
        obtain ⟨rfl, rfl, rfl⟩ := h
        refine ⟨by omega, ?_⟩
        exact leaf _ (by omega) (fun _ => ⟨by rw [size_56 (.inl h5) k1 (by omega), hn]; simp, by simp, by simp⟩)
      | succ n =>
        refine many _ n hn (.inl h5) (fun j m t h => ?_) ?_
        · obtain ⟨h1, h2⟩ := els_grows hW _ _ _ _ _ _ _ h
          exact ⟨h1, by omega⟩
        · have hE := look_els hG hW st ⟨#[]⟩ false s.depth n (i + 1) 0 0 (valSh c s st.length) (Nat.le_refl _) (by rw [v3]; push_cast; rfl)
          have e6 : (c.kind == 6) = false := beq_eq_false_iff_ne.2 (by omega)
          have ecn : c.cn = ((n + 1 : Nat) : Int) := by omega
          rw [e6, ecn]
          exact hE
    split
    · rename_i h5 h6
      cases hn : c.cn.toNat with
      | zero =>
        obtain ⟨k1, k2, -⟩ := kinds56 (.inr h6) hp
        refine ⟨fun h => by simp [prsP, wrapP] at h, fun j lv tl h => ?_⟩
        simp only [prsP, wrapP, Option.some.injEq, Prod.mk.injEq] at h
        obtain ⟨rfl, rfl, rfl⟩ := h
        refine ⟨by omega, ?_⟩
        exact leaf _ (by omega) (fun _ => ⟨by rw [size_56 (.inr h6) k1 (by omega), hn]; simp, by simp, by simp⟩)
      | succ n =>
        refine many _ n hn (.inr h6) (fun j m t h => ?_) ?_
        · obtain ⟨h1, h2⟩ := prs_grows hW _ _ _ _ _ _ _ _ h
          exact ⟨h1, by omega⟩
        · have hE := look_prs hG hW st s.depth n (i + 1) ⟨#[]⟩ false 0 0 (valSh c s st.length) (Nat.le_refl _) (by rw [v3]; push_cast; rfl)
          have e6 : (c.kind == 6) = true := beq_iff_eq.2 h6
          have ecn : c.cn = ((n + 1 : Nat) : Int) := by omega
          rw [e6, ecn]
          exact hE
    · rename_i h5 h6
      refine ⟨fun h => (by cases h), fun j lv tl h => ?_⟩
      simp only [Option.some.injEq, Prod.mk.injEq] at h
      obtain ⟨rfl, rfl, rfl⟩ := h
      refine ⟨Nat.le_refl _, ?_⟩
      refine leaf _ (leaf_cn h5 h6 hp) (fun ht => ?_)
      obtain ⟨q1, q2, q3⟩ := size_leaf (hgood c hmem) h5 h6 hp (ht.2 c hmem)
      exact ⟨q1, q2, by omega⟩
/-- What the reference's Check computes. -/
def checkR (v : List Ce) : Int :=
  match parP v (v.length + 1) 0 with
  | none => 1
  | some (j, lv, tl) => if v.length = 0 then 1 else if j ≠ v.length then 1 else if v.any badN = true then 2 else if 200 < v.length then 3 else if 8 < lv then 3 else if v.any longN = true then 3 else if 4000 < tl then 3 else 0
theorem checkR_eq (v : List Ce) (hgood : ∀ c ∈ v, c.good) : checkR v = checkZ v := by
  obtain ⟨h1, h2⟩ := look_par v hgood (v.length + 1) 0 (by omega) sh0 [] keyTop_nil
  rw [List.drop_zero] at h2
  unfold checkR checkZ
  cases hP : parP v (v.length + 1) 0 with
  | none =>
    obtain ⟨s', h3⟩ := h1 hP
    rw [List.drop_zero] at h3
    simp only
    unfold checkQ lookS
    rw [h3, if_pos rfl]
  | some q =>
    obtain ⟨j, lv, tl⟩ := q
    obtain ⟨h3, s', h4, h5⟩ := h2 _ _ _ hP
    have hL : lookS v = ((j : Int), s', true) := by
      unfold lookS
      rw [h4]
      unfold contL
      rw [closed_nil]
      rfl
    have hgr := par_grows v _ _ _ _ _ hP
    simp only
    unfold checkQ
    rw [hL]
    simp only
    rw [if_neg (show v.length ≠ 0 by omega), if_neg (show ¬ (true = false) by simp)]
    by_cases hj : j = v.length
    · subst hj
      have hany : ∀ p : Ce → Bool, anyIn p v 0 v.length = v.any p := fun p => by unfold anyIn; simp
      have ho : s'.outside = v.any badN := by rw [h5.out, hany]; rfl
      have hlg : s'.long = v.any longN := by rw [h5.long, hany]; rfl
      have hd : s'.depth = (lv : Int) := by rw [h5.depth]; simp only [sh0, List.length_nil]; omega
      rw [if_neg (show ¬ (v.length ≠ v.length) by simp), if_neg (show ¬ ((v.length : Int) ≠ (v.length : Int)) by simp), ho, hlg, hd]
      split
      · rfl
      by_cases h200 : 200 < v.length
      · rw [if_pos h200]
        split
        · rfl
        · rw [if_pos (by omega)]
      · rw [if_neg h200]
        by_cases hl8 : 8 < lv
        · rw [if_pos hl8]
          split
          · rfl
          · rw [if_neg (by omega), if_pos (by omega)]
        · rw [if_neg hl8]
          split
          · rfl
          · rename_i hnl
            have hb := h5.bytes ⟨by omega, fun c hc => by
              have : ¬ (v.any longN = true) := hnl
              rw [List.any_eq_true] at this
              have h6 : ¬ (longN c = true) := fun h => this ⟨c, hc, h⟩
              unfold longN at h6
              simp only [decide_eq_true_eq] at h6
              omega⟩ (by simp [sh0]) (by simp [sh0])
            have hbb : s'.bytes = tl := by rw [hb.1]; simp [sh0]
            rw [hbb, if_neg (show ¬ (200 < (v.length : Int)) by omega), if_neg (show ¬ (8 < (lv : Int)) by omega)]
    · rw [if_pos hj, if_pos (show (j : Int) ≠ (v.length : Int) by omega)]
end Go.Proofs.YtnhemokmgpelaaaGreatDoor
namespace Go.Proofs.YtnhemokmgpelaaaGreatDoor
set_option linter.unusedVariables false
set_option linter.unusedSimpArgs false
open Go.RowKit
theorem rplain_any (s : ByteArray) (w : World) (hs : s.size ≤ maxLen) : Calls Tryz.prog 91 #[.string s] w fun e w' => e = .returned (.bool (textB s)) ∧ w = w' := by
  unfold maxLen at hs
  obtain ⟨R, hR⟩ : ∃ R, R = textB s := ⟨_, rfl⟩
  rw [← hR]
  have HR := Lib.hid hR
  clear hR
  go_enter Tryz.func91, Tryz.ntmps91
  go_wp2_with fail
  go_loop [3] (fun i => ∃ p : Nat, i = .int .i64 p ∧ p ≤ s.size ∧ (s.data.toList.take p).all (fun c => decide (32 ≤ c.toNat) && decide (c.toNat ≤ 126)) = true) (fun i => s.size - (intOf i).toNat)
  case atStart => exact ⟨0, rfl, Nat.zero_le _, by simp⟩
  case round =>
    obtain ⟨p, rfl, hp, hall⟩ := hrel
    have Hall := Lib.hid hall
    clear hall
    by_cases hlt : p < s.size
    · have hst := all_take_succ s.data.toList (fun c => decide (32 ≤ c.toNat) && decide (c.toNat ≤ 126)) p (by simpa using hlt)
      rw [Hall.out, Bool.true_and] at hst
      have hno : (decide (32 ≤ (s[p]'hlt).toNat) && decide ((s[p]'hlt).toNat ≤ 126)) = false → textB s = false := fun h => by
        unfold textB
        rw [List.all_eq_false]
        exact ⟨s[p]'hlt, by simp [ByteArray.getElem_eq_getElem_data], by simp [h]⟩
      have he : s.data.toList[p]'(by simpa using hlt) = s[p]'hlt := by simp [ByteArray.getElem_eq_getElem_data]
      rw [he] at hst
      have HST := Lib.hid hst
      have HNO := Lib.hid hno
      clear hst hno he
      by_cases h1 : ((s[p]'hlt).toNat : Int) < 32
      · have HE : Hid (R = false) := Lib.hid (by rw [HR.out, HNO.out]; rw [decide_eq_false (by omega)]; rfl)
        go_wp2_with fail
        go_ret
        exact ⟨by rw [HE.out]; rfl, rfl⟩
      · have h1' : (32 : Int) ≤ ((s[p]'hlt).toNat : Int) := by omega
        by_cases h2 : (126 : Int) < ((s[p]'hlt).toNat : Int)
        · have HE : Hid (R = false) := Lib.hid (by rw [HR.out, HNO.out]; rw [show decide ((s[p]'hlt).toNat ≤ 126) = false from decide_eq_false (by omega), Bool.and_false])
          go_wp2_with fail
          go_ret
          exact ⟨by rw [HE.out]; rfl, rfl⟩
        · have h2' : ((s[p]'hlt).toNat : Int) ≤ 126 := by omega
          have HS2 := Lib.hid (HST.out.trans (show (decide (32 ≤ (s[p]'hlt).toNat) && decide ((s[p]'hlt).toNat ≤ 126)) = true by rw [decide_eq_true (by omega), decide_eq_true (by omega)]; rfl))
          go_wp2_with fail
          exact ⟨⟨p + 1, by go_num, by omega, HS2.out⟩, by simp [intOf]; omega⟩
    · have hps : p = s.size := by omega
      have HE : Hid (R = true) := Lib.hid (by
        rw [HR.out]
        have := Hall.out
        rw [List.take_of_length_le (by simp; omega)] at this
        exact this)
      subst hps
      go_wp2_with fail
      go_ret
      exact ⟨by rw [HE.out]; rfl, rfl⟩
theorem after_any (b : Bool) (i : Nat) (w : World) (hi : (i : Int) ≤ 3518437208780) : Calls Tryz.prog 80 #[.bool b, .int .i64 i] w fun e w' => e = .returned (.int .i64 (if b then (i : Int) + 1 else -1)) ∧ w = w' := by
  cases b
  · go_enter Tryz.func80, Tryz.ntmps80
    go_wp2
    go_ret
    exact ⟨rfl, rfl⟩
  · have i0 : (0 : Int) ≤ (i : Int) := by omega
    go_enter Tryz.func80, Tryz.ntmps80
    go_wp2
    go_ret
    exact ⟨rfl, rfl⟩
theorem rkey_any (x : Ce) (w : World) (hs : x.str.size ≤ maxLen) : Calls Tryz.prog 81 #[ceV x] w fun e w' => e = .returned (.bool (x.kind == 4 && plainB x)) ∧ Chg [] w w' := by
  obtain ⟨k, n, s, cn⟩ := x
  have A := Lib.hid (fun w' => rplain_any s w' hs)
  obtain ⟨R, hR⟩ : ∃ R, R = ((k : Int) == 4 && plainB ⟨k, n, s, cn⟩) := ⟨_, rfl⟩
  obtain ⟨W1, hW1⟩ : ∃ W1, W1 = w.alloc (ceO ⟨k, n, s, cn⟩) := ⟨_, rfl⟩
  have C1 := Lib.hid (show Chg [] w W1 by rw [hW1]; exact (Chg.refl _ _).alloc _)
  have X1 := Lib.hid (show W1.heap[w.heap.size]? = some (ceO ⟨k, n, s, cn⟩) by rw [hW1]; exact heap_alloc_new _ _)
  have x1 := blk_cell X1.out
  unfold ceV
  unfold ceO at hW1 x1
  show Calls Tryz.prog 81 _ w fun e w' => e = .returned (.bool ((k : Int) == 4 && plainB ⟨k, n, s, cn⟩)) ∧ Chg [] w w'
  rw [← hR]
  have HW1 := Lib.hid hW1
  clear hW1
  unfold plainB at hR
  simp only at hR ⊢
  generalize hts : textB s = q at *
  cases h4 : (k == 4)
  · rw [h4] at hR
    have HE : Hid (R = false) := Lib.hid (by rw [hR]; rfl)
    clear hR hts
    go_enter Tryz.func81, Tryz.ntmps81
    go_wp2_with fail
    rw [← HW1.out]
    go_wp2_with fail
    go_ret
    exact ⟨by rw [HE.out]; rfl, C1.out⟩
  · have hk : k = 4 := by simpa using h4
    subst hk
    rw [if_neg (by decide), if_neg (by decide), if_neg (by decide), if_pos rfl] at hR
    cases hn : (n == 0)
    · have HE : Hid (R = false) := Lib.hid (by rw [hR, hn]; rfl)
      clear hR hts
      go_enter Tryz.func81, Tryz.ntmps81
      go_wp2_with fail
      rw [← HW1.out]
      go_wp2_with fail
      go_ret
      exact ⟨by rw [HE.out]; rfl, C1.out⟩
    · cases hcn : (cn == 0)
      · have HE : Hid (R = false) := Lib.hid (by rw [hR, hn, hcn]; rfl)
        clear hR hts
        go_enter Tryz.func81, Tryz.ntmps81
        go_wp2_with fail
        rw [← HW1.out]
        go_wp2_with fail
        go_ret
        exact ⟨by rw [HE.out]; rfl, C1.out⟩
      · have HE : Hid (R = q) := Lib.hid (by rw [hR, hn, hcn]; cases q <;> rfl)
        clear hR hts
        go_enter Tryz.func81, Tryz.ntmps81
        go_wp2_with fail
        rw [← HW1.out]
        go_wp2_with fail
        refine (A.out W1).mono ?_; rintro e w1 ⟨rfl, rfl⟩
        go_wp2_with fail
        go_ret
        exact ⟨by rw [HE.out]; rfl, C1.out⟩
end Go.Proofs.YtnhemokmgpelaaaGreatDoor
namespace Go.Proofs.YtnhemokmgpelaaaGreatDoor
set_option linter.unusedVariables false
set_option linter.unusedSimpArgs false
open Go.RowKit
def jZ : Par → Int
  | none => -1
  | some (j, _, _) => (j : Int)
def oZ : Option Nat → Int
  | none => -1
  | some j => (j : Int)
theorem jZ_map (p : Par) : jZ p = oZ (p.map (·.1)) := by cases p <;> rfl
/-- Next, at indices from lo on. -/
def NextC (l : List Ce) (a : Option Addr) (c : Nat) (f lo : Nat) (w : World) : Prop := ∀ (i : Nat) (w' : World), Chg [] w w' → lo ≤ i → i ≤ l.length → Calls Tryz.prog 62 #[.slice a l.length c, .int .i64 i] w' fun e w'' => e = .returned (.int .i64 (jZ (parP l f i))) ∧ Chg [] w' w''
set_option maxHeartbeats 4000000 in
set_option maxRecDepth 100000 in
theorem els_any (a : Option Addr) (c : Nat) (l : List Ce) (f lo : Nat) (w : World) (hl : l.length ≤ 3518437208780) (H : NextC l a c f lo w) (i : Nat) (hi : lo ≤ i) (hil : i ≤ l.length) (n : Int) (h0 : 0 ≤ n) (hn : n ≤ 9223372036854775807) :
    Calls Tryz.prog 82 #[.slice a l.length c, .int .i64 i, .int .i64 n] w fun e w' => e = .returned (.int .i64 (jZ (elsP (parP l f) n.toNat i 0 0))) ∧ Chg [] w w' := by
  obtain ⟨N, rfl⟩ : ∃ N : Nat, n = (N : Int) := ⟨n.toNat, by omega⟩
  rw [Int.toNat_natCast]
  obtain ⟨R, hR⟩ : ∃ R, R = (elsP (parP l f) N i 0 0).map (·.1) := ⟨_, rfl⟩
  rw [jZ_map, ← hR]
  have HR := Lib.hid hR.symm
  have HG := Lib.hid (par_grows l f)
  have HH := Lib.hid H
  clear hR H
  go_enter Tryz.func82, Tryz.ntmps82
  go_wp2_with fail
  go_loopw [1, 7] (fun u t wr => ∃ (k i m : Nat) (s : Int), u = .int .i64 i ∧ t = .int .i64 k ∧ k ≤ N ∧ lo ≤ i ∧ i ≤ l.length ∧ Hid ((elsP (parP l f) (N - k) i m s).map (·.1) = R) ∧ Hid (Chg [] w wr)) (fun _ t _ => N - (intOf t).toNat)
  case atStart => exact ⟨0, i, 0, 0, rfl, rfl, Nat.zero_le _, hi, hil, HR, Lib.hid (Chg.refl _ _)⟩
  case round =>
    obtain ⟨k, q, m, s, rfl, rfl, hk, hlo, hq, HE, D⟩ := hrel
    have k0 : (0 : Int) ≤ (k : Int) := by omega
    by_cases hlt : k < N
    · have k1 : (k : Int) < (N : Int) := by omega
      have hst : N - k = (N - (k + 1)) + 1 := by omega
      have hE := HE.out
      rw [hst, elsP] at hE
      have A := Lib.hid (HH.out q wr D.out hlo hq)
      cases hp : parP l f q with
      | none =>
        rw [hp] at hE A
        have HE2 : Hid (R = none) := Lib.hid hE.symm
        simp only [jZ] at A
        clear hE hst
        go_wp2_with fail
        refine A.out.mono ?_; rintro e w2 ⟨rfl, hc⟩
        have D2 := Lib.hid (D.out.thenSame hc)
        clear hc A
        go_wp2_with fail
        go_ret
        exact ⟨by rw [HE2.out]; rfl, D2.out⟩
      | some p =>
        obtain ⟨j, lv, tl⟩ := p
        obtain ⟨g1, g2⟩ := HG.out _ _ _ _ hp
        rw [hp] at hE A
        simp only [jZ] at A hE
        have HE2 := Lib.hid hE
        have j0 : ¬ ((j : Int) < 0) := by omega
        clear hE hst
        go_wp2_with fail
        refine A.out.mono ?_; rintro e w2 ⟨rfl, hc⟩
        have D2 := Lib.hid (D.out.thenSame hc)
        clear hc A
        go_wp2_with fail
        exact ⟨⟨k + 1, j, _, _, rfl, by go_num, by omega, by omega, by omega, HE2, D2⟩, by simp [intOf]; omega⟩
    · have hks : N - k = 0 := by omega
      have hE := HE.out
      rw [hks, elsP] at hE
      have HE2 : Hid (R = some q) := Lib.hid hE.symm
      have hkn : ¬ ((k : Int) < (N : Int)) := by omega
      clear hE hks
      go_wp2_with fail
      go_ret
      exact ⟨by rw [HE2.out]; rfl, D.out⟩
set_option maxHeartbeats 8000000 in
set_option maxRecDepth 100000 in
theorem prs_any (a : Option Addr) (c : Nat) (l : List Ce) (f lo : Nat) (w : World) (hl : l.length ≤ 3518437208780) (hs : SlIs ceC 4 w a l.length l) (hg : ∀ x ∈ l, x.good) (H : NextC l a c f lo w) (i : Nat) (hi : lo ≤ i) (hil : i ≤ l.length) (n : Int) (h0 : 0 ≤ n) (hn : n ≤ 9223372036854775807) :
    Calls Tryz.prog 83 #[.slice a l.length c, .int .i64 i, .int .i64 n] w fun e w' => e = .returned (.int .i64 (jZ (prsP l (parP l f) n.toNat i none 0 0))) ∧ Chg [] w w' := by
  obtain ⟨N, rfl⟩ : ∃ N : Nat, n = (N : Int) := ⟨n.toNat, by omega⟩
  rw [Int.toNat_natCast]
  obtain ⟨R, hR⟩ : ∃ R, R = (prsP l (parP l f) N i none 0 0).map (·.1) := ⟨_, rfl⟩
  rw [jZ_map, ← hR]
  have HR := Lib.hid hR.symm
  have HG := Lib.hid (par_grows l f)
  have HH := Lib.hid H
  have HS := Lib.hid hs
  have HGD := Lib.hid hg
  clear hR H hs hg
  go_enter Tryz.func83, Tryz.ntmps83
  go_wp2_with fail
  go_loopw [1, 7, 8] (fun u ls t wr => ∃ (k i m : Nat) (s : Int) (lst : ByteArray), u = .int .i64 i ∧ ls = .string lst ∧ t = .int .i64 k ∧ k ≤ N ∧ lo ≤ i ∧ i ≤ l.length ∧ Hid ((prsP l (parP l f) (N - k) i (lastOf (decide (0 < k)) lst) m s).map (·.1) = R) ∧ Hid (Chg [] w wr)) (fun _ _ t _ => N - (intOf t).toNat)
  case atStart => exact ⟨0, i, 0, 0, ⟨#[]⟩, rfl, rfl, rfl, Nat.zero_le _, hi, hil, HR, Lib.hid (Chg.refl _ _)⟩
  case round =>
    obtain ⟨k, q, m, s, lst, rfl, rfl, rfl, hk, hlo, hq, HE, D⟩ := hrel
    have k0 : (0 : Int) ≤ (k : Int) := by omega
    have q0 : (0 : Int) ≤ (q : Int) := by omega
    by_cases hlt : k < N
    · have k1 : (k : Int) < (N : Int) := by omega
      have hst : N - k = (N - (k + 1)) + 1 := by omega
      have hE := HE.out
      rw [hst, prsP] at hE
      by_cases hql : q < l.length
      · rw [List.getElem?_eq_getElem hql] at hE
        simp only at hE
        have q1 : (q : Int) < (l.length : Int) := by omega
        have HEL := Lib.hid (fun w' (hc : Chg [] w w') => HS.out.elem hc q hql)
        obtain ⟨g1, o1, rfl, hb1, hbr, hcc⟩ := HS.out.elem D.out q hql
        have hxg := HGD.out _ (List.getElem_mem hql)
        generalize l[q] = x at *
        have KA := Lib.hid (rkey_any x wr hxg.2.2.1)
        have HCC := Lib.hid (fun w' (hc : Chg [] w w') (j : Nat) (hj : j < 4) => by
          obtain ⟨g2, o2, e2, -, -, hcc⟩ := HEL.out w' hc
          cases e2
          exact hcc j hj)
        have US := Lib.hid (fun w' (hc : Chg [] w w') => show w'.cell? ⟨g1, o1 + q * 4 + 2, none⟩ = some (.string x.str) from HCC.out w' hc 2 (by omega))
        have d0 := hcc 0 (by omega)
        have d1 := hcc 1 (by omega)
        have d2 := hcc 2 (by omega)
        have d3 := hcc 3 (by omega)
        simp only [ceC, List.getElem?_cons_zero, List.getElem?_cons_succ, Nat.add_zero] at d0 d1 d2 d3
        clear hcc HEL
        unfold ceV at KA
        unfold keyOk at hE
        cases hkk : (x.kind == 4 && plainB x)
        · rw [hkk] at hE KA
          simp only [Bool.false_and, if_pos] at hE
          have HE2 : Hid (R = none) := Lib.hid hE.symm
          clear hE hst
          go_wp2_with (go_at_call 81; refine KA.out.mono ?_; rintro e w2 ⟨rfl, hc⟩; have D2 := Lib.hid (D.out.thenSame hc); have u2 := US.out w2 D2.out; clear hc KA)
          go_ret
          exact ⟨by rw [HE2.out]; rfl, D2.out⟩
        · rw [hkk] at hE KA
          by_cases hk00 : k = 0
          · have hn0 : ¬ (0 < k) := by omega
            rw [decide_eq_false hn0] at hE
            simp only [lastOf, Bool.false_eq_true, if_false, Bool.not_false, Bool.and_self, Bool.true_eq_false] at hE
            clear hk00
            have hdk : lastOf (decide (0 < k + 1)) x.str = some x.str := by simp [lastOf]
            rw [← hdk] at hE
            have A := Lib.hid (fun w2 (hc : Chg [] w w2) => HH.out (q + 1) w2 hc (by omega) (by omega))
            cases hp : parP l f (q + 1) with
            | none =>
              rw [hp] at hE A
              have HE2 : Hid (R = none) := Lib.hid hE.symm
              simp only [jZ] at A
              clear hE hst
              go_wp2_with (first | (go_at_call 81; refine KA.out.mono ?_; rintro e w2 ⟨rfl, hc⟩; have D2 := Lib.hid (D.out.thenSame hc); have u2 := US.out w2 D2.out; clear hc KA) | (go_at_call 62; refine (A.out _ D2.out).mono ?_; rintro e w3 ⟨rfl, hc⟩; have D3 := Lib.hid (D2.out.thenSame hc); clear hc A))
              go_ret
              exact ⟨by rw [HE2.out]; rfl, D3.out⟩
            | some p =>
              obtain ⟨j, lv, tl⟩ := p
              obtain ⟨g1, g2⟩ := HG.out _ _ _ _ hp
              rw [hp] at hE A
              simp only [jZ] at A hE
              have HE2 := Lib.hid hE
              have j0 : ¬ ((j : Int) < 0) := by omega
              clear hE hst
              go_wp2_with (first | (go_at_call 81; refine KA.out.mono ?_; rintro e w2 ⟨rfl, hc⟩; have D2 := Lib.hid (D.out.thenSame hc); have u2 := US.out w2 D2.out; clear hc KA) | (go_at_call 62; refine (A.out _ D2.out).mono ?_; rintro e w3 ⟨rfl, hc⟩; have D3 := Lib.hid (D2.out.thenSame hc); clear hc A))
              exact ⟨⟨k + 1, j, _, _, x.str, rfl, rfl, by go_num, by omega, by omega, by omega, HE2, D3⟩, by simp [intOf]; omega⟩
          · have hp0 : 0 < k := by omega
            rw [decide_eq_true hp0] at hE
            clear hk00
            cases k4 : Op.bytesLess x.str.toList lst.toList
            · cases k5 : x.str.toList == lst.toList
              · simp only [lastOf, if_true, leS, k4, k5, Bool.or_self, Bool.not_false, Bool.and_self, Bool.true_eq_false, if_false] at hE
                have hdk : lastOf (decide (0 < k + 1)) x.str = some x.str := by simp [lastOf]
                rw [← hdk] at hE
                have A := Lib.hid (fun w2 (hc : Chg [] w w2) => HH.out (q + 1) w2 hc (by omega) (by omega))
                cases hp : parP l f (q + 1) with
                | none =>
                  rw [hp] at hE A
                  have HE2 : Hid (R = none) := Lib.hid hE.symm
                  simp only [jZ] at A
                  clear hE hst
                  go_wp2_with (first | (go_at_call 81; refine KA.out.mono ?_; rintro e w2 ⟨rfl, hc⟩; have D2 := Lib.hid (D.out.thenSame hc); have u2 := US.out w2 D2.out; clear hc KA) | (go_at_call 62; refine (A.out _ D2.out).mono ?_; rintro e w3 ⟨rfl, hc⟩; have D3 := Lib.hid (D2.out.thenSame hc); clear hc A))
                  go_ret
                  exact ⟨by rw [HE2.out]; rfl, D3.out⟩
                | some p =>
                  obtain ⟨j, lv, tl⟩ := p
                  obtain ⟨g1, g2⟩ := HG.out _ _ _ _ hp
                  rw [hp] at hE A
                  simp only [jZ] at A hE
                  have HE2 := Lib.hid hE
                  have j0 : ¬ ((j : Int) < 0) := by omega
                  clear hE hst
                  go_wp2_with (first | (go_at_call 81; refine KA.out.mono ?_; rintro e w2 ⟨rfl, hc⟩; have D2 := Lib.hid (D.out.thenSame hc); have u2 := US.out w2 D2.out; clear hc KA) | (go_at_call 62; refine (A.out _ D2.out).mono ?_; rintro e w3 ⟨rfl, hc⟩; have D3 := Lib.hid (D2.out.thenSame hc); clear hc A))
                  exact ⟨⟨k + 1, j, _, _, x.str, rfl, rfl, by go_num, by omega, by omega, by omega, HE2, D3⟩, by simp [intOf]; omega⟩
              · simp only [lastOf, if_true, leS, k4, k5, Bool.or_true, Bool.not_true, Bool.and_false, if_true] at hE
                have HE2 : Hid (R = none) := Lib.hid hE.symm
                clear hE hst
                go_wp2_with (go_at_call 81; refine KA.out.mono ?_; rintro e w2 ⟨rfl, hc⟩; have D2 := Lib.hid (D.out.thenSame hc); have u2 := US.out w2 D2.out; clear hc KA)
                go_ret
                exact ⟨by rw [HE2.out]; rfl, D2.out⟩
            · simp only [lastOf, if_true, leS, k4, Bool.true_or, Bool.not_true, Bool.and_false, if_true] at hE
              have HE2 : Hid (R = none) := Lib.hid hE.symm
              clear hE hst
              go_wp2_with (go_at_call 81; refine KA.out.mono ?_; rintro e w2 ⟨rfl, hc⟩; have D2 := Lib.hid (D.out.thenSame hc); have u2 := US.out w2 D2.out; clear hc KA)
              go_ret
              exact ⟨by rw [HE2.out]; rfl, D2.out⟩
      · rw [List.getElem?_eq_none (by omega)] at hE
        have HE2 : Hid (R = none) := Lib.hid hE.symm
        have hqn : (l.length : Int) ≤ (q : Int) := by omega
        clear hE hst
        go_wp2_with fail
        go_ret
        exact ⟨by rw [HE2.out]; rfl, D.out⟩
    · have hks : N - k = 0 := by omega
      have hE := HE.out
      rw [hks, prsP] at hE
      have HE2 : Hid (R = some q) := Lib.hid hE.symm
      have hkn : ¬ ((k : Int) < (N : Int)) := by omega
      clear hE hks
      go_wp2_with fail
      go_ret
      exact ⟨by rw [HE2.out]; rfl, D.out⟩
end Go.Proofs.YtnhemokmgpelaaaGreatDoor
