/- Chapter 50: plain laws: a history of operations that were performed one at a time has just this order; a read of a number that is never written has none. No condition. Chapter 50: plain: the operations of LinearAlone; the rows that it builds. No condition. Chapter 50: the openers of arguments that are arrays and slices of small numbers. No condition. -/
import Derived.Test.YtnhemokmgpelaaaDoorMLinL
import Derived.Test.YtnhemokmgpelaaaDoorLinK
import Derived.Test.YtnhemokmgpelaaaDoorSerA
import Derived.Test.YtnhemokmgpelaaaDoorLinO
namespace Go.Proofs.YtnhemokmgpelaaaDoor
set_option linter.unusedVariables false
set_option linter.unusedSimpArgs false
open Go.RowKit
def nmL : List ByteArray := [⟨#[97]⟩, ⟨#[98]⟩, ⟨#[99]⟩, ⟨#[100]⟩, ⟨#[101]⟩, ⟨#[102]⟩, ⟨#[103]⟩, ⟨#[104]⟩]
theorem nmL_len : nmL.length = 8 := rfl
theorem nmL_id {i : Nat} {s : ByteArray} (h : nmL[i]? = some s) : idB s = true :=
  List.all_eq_true.1 (show nmL.all idB = true by kernel_rfl) s (List.mem_of_getElem? h)
theorem nmL_size {i : Nat} {s : ByteArray} (h : nmL[i]? = some s) : s.size ≤ maxLen := by
  have := nmL_id h
  simp only [idB, Bool.and_eq_true, decide_eq_true_eq] at this
  have := this.2
  unfold maxLen
  omega
theorem nmL_byte {i : Nat} {s : ByteArray} (h : nmL[i]? = some s) : s.data[0]?.map UInt8.toNat = some (97 + i) := by
  obtain ⟨hl, e⟩ := List.getElem?_eq_some_iff.1 h
  rw [nmL_len] at hl
  have : i = 0 ∨ i = 1 ∨ i = 2 ∨ i = 3 ∨ i = 4 ∨ i = 5 ∨ i = 6 ∨ i = 7 := by omega
  rcases this with rfl | rfl | rfl | rfl | rfl | rfl | rfl | rfl <;> (rw [← e]; rfl)
theorem nmL_inj {i j : Nat} {s : ByteArray} (h : nmL[i]? = some s) (g : nmL[j]? = some s) : i = j := by
  have := (nmL_byte h).symm.trans (nmL_byte g)
  simpa using this
theorem idX_ok : idB idX = true := by kernel_rfl
/-- Calls with names of their own, times and operations as they should be. -/
def IdsOk (l : List PCl) : Prop := ∀ k (hk : k < l.length), l[k].o.ent = idX ∧ nmL[k]? = some l[k].o.id ∧ badT l[k] = false ∧ chkZ l[k].o = 0
theorem ids_check {l : List PCl} (h8 : l.length ≤ 8) (h : IdsOk l) : hcheckZ l = 0 := by
  refine hcheck_ok h8 (fun j hj => ?_)
  obtain ⟨h1, h2, h3, h4⟩ := h j hj
  obtain ⟨g1, -, -, -⟩ := h 0 (by omega)
  unfold chkAt
  rw [List.getElem?_eq_getElem hj, List.getElem?_eq_getElem (by omega)]
  simp only
  rw [chk1_do (by rw [h1, g1, idX_ok, nmL_id h2]; simp) ?_ h3]
  · unfold doZ
    rw [if_neg (by simp [h4]), if_neg (by rw [check_null]; simp)]
  · rw [List.any_eq_false]
    intro y hy
    obtain ⟨i, hi, e⟩ := List.mem_take_iff_getElem.1 hy
    subst e
    have hij : i < j := by omega
    obtain ⟨-, f2, -, -⟩ := h i (by omega)
    have hne : l[i].o.id ≠ l[j].o.id := by
      intro e
      rw [e] at f2
      have := nmL_inj f2 h2
      omega
    simpa using hne
/-- Calls that were performed one at a time, from the state s to the state t. -/
def AloOk : List PCl → Nat → List Ce → List Ce → Prop
  | [], _, s, t => s = t
  | x :: r, i, s, t => x.o.ent = idX ∧ nmL[i]? = some x.o.id ∧ x.from_ = ((2 * i : Nat) : Int) ∧ x.to_ = ((2 * i + 1 : Nat) : Int) ∧ (doZ s x.o).1 = 0 ∧ (doZ s x.o).2.2.1 = x.err ∧ (doZ s x.o).2.2.2 = x.ans ∧ AloOk r (i + 1) (doZ s x.o).2.1 t
theorem AloOk.snoc {x : PCl} : ∀ {l : List PCl} {i : Nat} {s t : List Ce}, AloOk l i s t → x.o.ent = idX → nmL[i + l.length]? = some x.o.id → x.from_ = ((2 * (i + l.length) : Nat) : Int) → x.to_ = ((2 * (i + l.length) + 1 : Nat) : Int) → (doZ t x.o).1 = 0 → (doZ t x.o).2.2.1 = x.err → (doZ t x.o).2.2.2 = x.ans → AloOk (l ++ [x]) i s (doZ t x.o).2.1 := by
  intro l
  induction l with
  | nil =>
    intro i s t h h1 h2 h3 h4 h5 h6 h7
    have h : s = t := h
    subst h
    exact ⟨h1, h2, h3, h4, h5, h6, h7, rfl⟩
  | cons y r ih =>
    intro i s t h h1 h2 h3 h4 h5 h6 h7
    obtain ⟨g1, g2, g3, g4, g5, g6, g7, g8⟩ := h
    rw [List.length_cons] at h2 h3 h4
    exact ⟨g1, g2, g3, g4, g5, g6, g7, ih g8 h1 (by rw [show i + 1 + r.length = i + (r.length + 1) by omega]; exact h2) (by rw [h3]; congr 1; omega) (by rw [h4]; congr 1; omega) h5 h6 h7⟩
theorem AloOk.get : ∀ {l : List PCl} {i : Nat} {s t : List Ce}, AloOk l i s t → ∀ k (hk : k < l.length), l[k].o.ent = idX ∧ nmL[i + k]? = some l[k].o.id ∧ l[k].from_ = ((2 * (i + k) : Nat) : Int) ∧ l[k].to_ = ((2 * (i + k) + 1 : Nat) : Int) ∧ chkZ l[k].o = 0 := by
  intro l
  induction l with
  | nil => intro i s t h k hk; simp at hk
  | cons y r ih =>
    intro i s t h k hk
    obtain ⟨g1, g2, g3, g4, g5, g6, g7, g8⟩ := h
    cases k with
    | zero => exact ⟨g1, g2, g3, g4, (doZ_zero g5).1⟩
    | succ k =>
      have := ih g8 k (by simpa using hk)
      simp only [List.getElem_cons_succ]
      rw [show i + (k + 1) = i + 1 + k by omega]
      exact this
theorem alo_ids {l : List PCl} {s t : List Ce} (h8 : l.length ≤ 8) (h : AloOk l 0 s t) : IdsOk l := by
  intro k hk
  obtain ⟨h1, h2, h3, h4, h5⟩ := h.get k hk
  rw [Nat.zero_add] at h2 h3 h4
  refine ⟨h1, h2, ?_, h5⟩
  unfold badT timeB openB
  rw [h3, h4]
  have e1 : decide ((0 : Int) ≤ ((2 * k : Nat) : Int)) = true := decide_eq_true (by omega)
  have e2 : decide (((2 * k : Nat) : Int) ≤ 1073741824) = true := decide_eq_true (by omega)
  have e3 : decide ((0 : Int) ≤ ((2 * k + 1 : Nat) : Int)) = true := decide_eq_true (by omega)
  have e4 : decide (((2 * k + 1 : Nat) : Int) ≤ 1073741824) = true := decide_eq_true (by omega)
  have e5 : decide (((2 * k + 1 : Nat) : Int) < ((2 * k : Nat) : Int)) = false := decide_eq_false (by omega)
  rw [e1, e2, e3, e4, e5]
  simp
def rngI (n : Nat) : List Int := (List.range n).map (fun k => ((k : Nat) : Int))
theorem rngI_len (n : Nat) : (rngI n).length = n := by simp [rngI]
theorem rngI_succ (n : Nat) : rngI (n + 1) = rngI n ++ [(n : Int)] := by simp [rngI, List.range_succ]
def plK (k n : Nat) : List Bool := List.replicate k true ++ List.replicate (n - k) false
theorem plK_at {k n j : Nat} (hj : j < n) (hk : k ≤ n) : (plK k n)[j]? = some (decide (j < k)) := by
  unfold plK
  by_cases h : j < k
  · rw [List.getElem?_append_left (by simpa using h), List.getElem?_replicate, if_pos h, decide_eq_true h]
  · rw [List.getElem?_append_right (by simpa using h), List.length_replicate, List.getElem?_replicate, if_pos (by omega), decide_eq_false h]
theorem plK_len {k n : Nat} (hk : k ≤ n) : (plK k n).length = n := by simp [plK]; omega
theorem plK_set {k n : Nat} (hk : k < n) : (plK k n).set k true = plK (k + 1) n := by
  refine List.ext_getElem? (fun j => ?_)
  by_cases hj : j < n
  · rw [List.getElem?_set, plK_at (k := k) hj (Nat.le_of_lt hk), plK_at (k := k + 1) hj hk, plK_len (Nat.le_of_lt hk)]
    by_cases e : k = j
    · subst e
      simp [hj]
    · rw [if_neg e]
      have : (j < k) ↔ (j < k + 1) := by omega
      simp [this]
  · rw [List.getElem?_eq_none (by rw [List.length_set, plK_len (Nat.le_of_lt hk)]; omega), List.getElem?_eq_none (by rw [plK_len hk]; omega)]
theorem alo_open {l : List PCl} {s t : List Ce} (h : AloOk l 0 s t) {k : Nat} (hk : k < l.length) : openB l[k] = false := by
  obtain ⟨h1, h2, h3, h4, h5⟩ := h.get k hk
  unfold openB
  rw [h4]
  exact beq_eq_false_iff_ne.2 (by omega)
theorem alo_bef {l : List PCl} {s t : List Ce} (h : AloOk l 0 s t) {j k : Nat} (hj : j < l.length) (hk : k < l.length) (hkj : k ≤ j) : befB l[j] l[k] = false := by
  obtain ⟨h1, h2, h3, h4, h5⟩ := h.get k hk
  obtain ⟨g1, g2, g3, g4, g5⟩ := h.get j hj
  unfold befB
  rw [g4, h3, decide_eq_false (by omega), Bool.and_false]
theorem find_alo {l : List PCl} {s0 t : List Ce} (h0 : AloOk l 0 s0 t) : ∀ n k s, n = l.length - k → k ≤ l.length → AloOk (l.drop k) k s t → findF l n s (plK k l.length) (rngI k) = some (rngI l.length) := by
  intro n
  induction n with
  | zero =>
    intro k s hn hk h
    have hk : k = l.length := by omega
    subst hk
    have hd : doneB l (plK l.length l.length) = true := by
      rw [doneB_iff (plK_len (Nat.le_refl _))]
      intro j hj
      right
      have := plK_at (n := l.length) hj (Nat.le_refl _)
      rw [List.getElem?_eq_getElem (by rw [plK_len (Nat.le_refl _)]; exact hj)] at this
      rw [Option.some.inj this, decide_eq_true hj]
    rw [findF, if_pos hd]
  | succ n ih =>
    intro k s hn hk h
    have hkl : k < l.length := by omega
    have hpk : (plK k l.length)[k]? = some false := by rw [plK_at hkl hk]; simp
    have hd : doneB l (plK k l.length) = false := by
      refine doneB_no (k := k) hkl (by rw [plK_len hk]; exact hkl) ?_
      have e := (List.getElem?_eq_some_iff.1 hpk).2
      rw [e, alo_open h0 hkl]
      rfl
    rw [findF, if_neg (by rw [hd]; simp)]
    rw [List.drop_eq_getElem_cons hkl] at h
    obtain ⟨g1, g2, g3, g4, g5, g6, g7, g8⟩ := h
    refine firstO_at (k := k) (Nat.zero_le _) (by omega) (fun j _ hj => tryF_placed (by rw [plK_at (by omega) hk, decide_eq_true hj])) ?_
    rw [tryF_go (List.getElem?_eq_getElem hkl) hpk ?_]
    · unfold goF
      rw [fits_of g5 (fun _ => ⟨g6, g7⟩)]
      simp only
      rw [plK_set hkl, ← rngI_succ]
      exact ih (k + 1) _ (by omega) hkl g8
    · unfold blockB blockTo
      rw [List.any_eq_false]
      intro j hj
      have hj : j < l.length := by simpa using hj
      rw [List.getElem?_eq_getElem hj, plK_at hj hk]
      simp only
      by_cases hjk : j < k
      · simp [hjk]
      · rw [alo_bef h0 hj hkl (by omega)]
        simp
theorem alo_find {l : List PCl} {n : Int} {t : List Ce} (hn : validB n = true) (h8 : l.length ≤ 8) (h : AloOk l 0 [intC n] t) : findZ [intC n] l = (rngI l.length, 0) := by
  have hz : hchkZ [intC n] l = 0 := by
    unfold hchkZ
    rw [ids_check h8 (alo_ids h8 h), if_neg (by simp)]
    exact check_int hn
  unfold findZ
  rw [if_neg (by simp [hz])]
  have := find_alo h l.length 0 [intC n] (by omega) (Nat.zero_le _) (by simpa using h)
  have e : plK 0 l.length = List.replicate l.length false := by simp [plK]
  have e2 : rngI 0 = [] := rfl
  rw [e, e2] at this
  rw [this]
/-! a read of a number that is never written -/
def smallI (n : Int) : Prop := -128 ≤ n ∧ n ≤ 127
theorem small_valid {n : Int} (h : smallI n) : validB n = true := by
  unfold smallI at h
  unfold validB
  simp
  omega
/-- A write of a small number, or a read of 1000. -/
def UnsOk (x : PCl) : Prop := openB x = false ∧ ((opN x.o.op = 2 ∧ ∃ m, smallI m ∧ x.o.args = [[intC m]]) ∨ (opN x.o.op = 1 ∧ x.ans = [intC 1000]))
theorem uns_legal {l : List PCl} (hu : ∀ x ∈ l, UnsOk x) : ∀ {r : List Int} {m : Int} {i : Nat}, smallI m → (∀ k ∈ r, 0 ≤ k ∧ k < l.length) → (legalGo l r [intC m] i).2 = 0 → ∀ k ∈ r, ∀ x, l[k.toNat]? = some x → opN x.o.op = 2 := by
  intro r
  induction r with
  | nil => intro m i _ _ _ k hk; cases hk
  | cons k r ih =>
    intro m i hm hk h
    rw [legalGo] at h
    split at h
    · simp at h
    · cases hf : fitsI l [intC m] k with
      | none => rw [hf] at h; simp at h
      | some s =>
        rw [hf] at h
        unfold fitsI at hf
        cases hx : l[k.toNat]? with
        | none => rw [hx] at hf; simp at hf
        | some x =>
          rw [hx] at hf
          obtain ⟨f1, f2, f3⟩ := fits_some hf
          obtain ⟨u1, u2⟩ := hu x (List.mem_of_getElem? hx)
          obtain ⟨c1, c2⟩ := f3 u1
          have hd := (doZ_zero f1).2.2
          rcases u2 with ⟨v1, m', v2, v3⟩ | ⟨v1, v2⟩
          · have hs : s = [intC m'] := by rw [f2, hd, v1, v3]; rfl
            subst hs
            have hrec := ih v2 (fun j hj => hk j (by simp [hj])) h
            intro j hj y hy
            rcases List.mem_cons.1 hj with rfl | hj
            · rw [hx] at hy
              cases hy
              exact v1
            · exact hrec j hj y hy
          · exfalso
            rw [hd, v1, v2] at c2
            have c2 : [intC m] = [intC 1000] := c2
            unfold smallI at hm
            simp only [intC, List.cons.injEq, Ce.mk.injEq, and_true, true_and] at c2
            omega
theorem uns_find {l : List PCl} (h8 : l.length ≤ 8) (h : IdsOk l) (hu : ∀ x ∈ l, UnsOk x) {n : Nat} (hn : n < l.length) (hr : opN l[n].o.op = 1) : findZ [intC 0] l = ([], 19) := by
  have h0 : smallI 0 := by unfold smallI; omega
  have hz : hchkZ [intC 0] l = 0 := by
    unfold hchkZ
    rw [ids_check h8 h, if_neg (by simp)]
    exact check_int (small_valid h0)
  unfold findZ
  rw [if_neg (by simp [hz])]
  cases hf : findF l l.length [intC 0] (List.replicate l.length false) [] with
  | none => rfl
  | some o =>
    exfalso
    obtain ⟨r, e1, e2, q, e3, e4⟩ := find_sound l.length [intC 0] (List.replicate l.length false) [] o 0 List.length_replicate hf
    have hrg := placeAll_range e3
    rw [List.length_replicate] at hrg
    have hL := uns_legal hu (i := 0) h0 hrg (by rw [e2])
    by_cases hm : (n : Int) ∈ r
    · have := hL _ hm l[n] (by rw [Int.toNat_natCast, List.getElem?_eq_getElem hn])
      omega
    · have := placeAll_at e3 n hm
      rw [List.getElem?_replicate, if_pos hn] at this
      have hql := placeAll_len e3
      rw [List.length_replicate] at hql
      rcases (doneB_iff hql).1 e4 n hn with d | d
      · rw [(hu _ (List.getElem_mem hn)).1] at d
        cases d
      · rw [List.getElem?_eq_getElem (by omega), d] at this
        cases this
end Go.Proofs.YtnhemokmgpelaaaDoor
namespace Go.Proofs.YtnhemokmgpelaaaDoor
set_option linter.unusedVariables false
set_option linter.unusedSimpArgs false
open Go.RowKit
theorem addZ_err (a b : Int) : (addZ a b).2 = 0 ∨ (addZ a b).2 = 8 ∨ (addZ a b).2 = 2 := by
  unfold addZ
  split
  · split
    · exact .inl rfl
    · exact .inr (.inl rfl)
  · exact .inr (.inr rfl)
theorem addF_err (s a : List Ce) : (addF s a).2.1 = 0 ∨ (addF s a).2.1 = 8 ∨ (addF s a).2.1 = 2 ∨ (addF s a).2.1 = 7 := by
  cases s with
  | nil => exact .inr (.inr (.inr rfl))
  | cons x r =>
    cases a with
    | nil => exact .inr (.inr (.inr rfl))
    | cons y q =>
      simp only [addF]
      by_cases h1 : x.kind = 3 ∨ x.kind = 1
      · rw [if_pos h1]
        by_cases h2 : y.kind = 3
        · rw [if_pos h2]
          by_cases h3 : (addZ (if x.kind = 3 then x.n else 0) y.n).2 = 0
          · rw [if_pos h3]; exact .inl rfl
          · rw [if_neg h3]
            rcases addZ_err (if x.kind = 3 then x.n else 0) y.n with h | h | h
            · exact .inl h
            · exact .inr (.inl h)
            · exact .inr (.inr (.inl h))
        · rw [if_neg h2]; exact .inr (.inr (.inr rfl))
      · rw [if_neg h1]; exact .inr (.inr (.inr rfl))
theorem doZ_err (st : List Ce) (o : POp) : (Lit.int .i64 (doZ st o).2.2.1).wf = true := by
  unfold doZ
  split
  · rfl
  · split
    · rfl
    · simp only
      unfold doF
      split
      · rfl
      · split
        · rfl
        · split
          · rcases addF_err st (o.args.headD []) with h | h | h | h <;> (rw [h]; rfl)
          · split <;> rfl
/-- The operation of a kind. -/
def aloOp (q : Int) : ByteArray := if q = 1 then opWrite else if q = 2 then opAdd else if q = 3 then opCas else opRead
def aloA (q m : Int) : List (List Ce) := if q = 1 then [[intC m]] else if q = 2 then [[intC m]] else if q = 3 then [[intC 0], [intC m]] else []
def aloP (q m : Int) (id : ByteArray) : POp := ⟨idX, id, aloOp q, aloA q m⟩
theorem aloP_chk {q m : Int} {id : ByteArray} (hq : q = 0 ∨ q = 1 ∨ q = 2 ∨ q = 3) (hm : validB m = true) (hid : idB id = true) : chkZ (aloP q m id) = 0 := by
  have h0 : validB 0 = true := by rfl
  unfold chkZ aloP
  simp only
  rw [idX_ok, hid, if_neg (by simp)]
  rcases hq with rfl | rfl | rfl | rfl
  · have : opN (aloOp 0) = 1 := by kernel_rfl
    rw [this]
    simp [aloA, ariN, firstE]
  · have : opN (aloOp 1) = 2 := by kernel_rfl
    rw [this]
    simp [aloA, ariN, firstE, check_int hm]
  · have : opN (aloOp 2) = 3 := by kernel_rfl
    rw [this]
    simp [aloA, ariN, firstE, check_int hm]
  · have : opN (aloOp 3) = 4 := by kernel_rfl
    rw [this]
    simp [aloA, ariN, firstE, check_int hm, check_int h0]
/-- The rows that the law builds: the calls D, the numbers wanted; s1: the state. -/
structure AloI (w wr : World) (a : Option Addr) (c : Nat) (D : List Cl) (wa : Option Addr) (wc : Nat) (na : Option Addr) (nc : Nat) (s1 : List Ce) : Prop where
  ser : SerI w wr a c D
  want : RowOf icI 1 wr w.heap.size 3 (.slice wa D.length wc) (rngI D.length)
  sep : ∀ b, ob wa = some b → ob a ≠ some b ∧ ∀ d ∈ D, ¬ d.on b
  st : InIs ceC 4 wr na nc s1
  far : ∀ y, na = some y → 0 < s1.length → ob a ≠ some y.block ∧ ob wa ≠ some y.block
theorem AloI.keptN {w wr wx : World} {a : Option Addr} {c : Nat} {D : List Cl} {wa : Option Addr} {wc : Nat} {na : Option Addr} {nc : Nat} {s1 : List Ce} (h : AloI w wr a c D wa wc na nc s1) (hc : Chg [] wr wx) : AloI w wx a c D wa wc na nc s1 where
  ser := h.ser.keptN hc
  want := h.want.kept hc (by simp)
  sep := h.sep
  st := h.st.kept hc
  far := h.far
theorem SerI.keptS {w wr wx : World} {a : Option Addr} {c : Nat} {D : List Cl} {S : List Nat} (h : SerI w wr a c D) (hc : Chg S wr wx) (hS : ∀ b ∈ S, w.heap.size ≤ b ∧ ob a ≠ some b ∧ ∀ d ∈ D, ¬ d.on b) : SerI w wx a c D where
  chg := h.chg.then hc (fun x hx hl => by have := (hS x hx).1; omega)
  row := h.row.kept hc (fun g hg hm => by rw [ob_eq] at hg; exact (hS g hm).2.1 hg)
  ins := fun d hd => ⟨(h.ins d hd).1.keptOn hc (fun b hb hm => (hS b hm).2.2 d hd hb), (h.ins d hd).2⟩
/-- One more call and one more number: w5 before the first append, w6 behind it, w8 behind the second. -/
theorem AloI.step {w wr w5 w6 w7 w8 : World} {a : Option Addr} {c : Nat} {D : List Cl} {wa : Option Addr} {wc : Nat} {na : Option Addr} {nc : Nat} {s1 : List Ce} (h : AloI w wr a c D wa wc na nc s1) (h5 : Chg [] wr w5)
    {y : Cl} (hy : ClIn w5 y) (hyn : ∀ b, y.on b → wr.heap.size ≤ b) {g cap : Nat}
    (hg : Chg (ob a).toList w5 w6) (hrow : RowOf clC 8 w6 w.heap.size 41 (.slice (some ⟨g, 0, none⟩) (D.length + 1) cap) (D ++ [y])) (hat : ob a = some g ∨ g = w5.heap.size)
    (h7 : Chg [] w6 w7) {g2 cap2 : Nat} (hg2 : Chg (ob wa).toList w7 w8) (hrow2 : RowOf icI 1 w8 w.heap.size 3 (.slice (some ⟨g2, 0, none⟩) (D.length + 1) cap2) (rngI D.length ++ [(D.length : Int)])) (hat2 : ob wa = some g2 ∨ g2 = w7.heap.size)
    {na2 : Option Addr} {nc2 : Nat} {s2 : List Ce} (hst : InIs ceC 4 w5 na2 nc2 s2) (hfar : ∀ y, na2 = some y → wr.heap.size ≤ y.block) :
    AloI w w8 (some ⟨g, 0, none⟩) cap (D ++ [y]) (some ⟨g2, 0, none⟩) cap2 na2 nc2 s2 := by
  have hba := h.ser.row.block
  rw [ob_eq] at hba
  have hbw := h.want.block
  rw [ob_eq] at hbw
  have z5 := h5.size
  have z6 := hg.size
  have z7 := h7.size
  have z8 := hg2.size
  have hys : ∀ b, y.on b → ob a ≠ some b := fun b hb e => by have := hyn b hb; have := (hba b e).2; omega
  have S6 := (h.ser.keptN h5).step hy hys hg hrow hat
  have S7 := S6.keptN h7
  have onD : ∀ d ∈ D, ∀ b, d.on b → b < wr.heap.size := fun d hd b hb => (h.ser.ins d hd).1.on_lt hb
  have onY : ∀ b, y.on b → b < w5.heap.size := fun b hb => hy.on_lt hb
  have hsepW : ∀ b, ob wa = some b → w.heap.size ≤ b ∧ ob (some ⟨g, 0, none⟩) ≠ some b ∧ ∀ d ∈ D ++ [y], ¬ d.on b := by
    intro b hb
    have hb1 := hbw b hb
    refine ⟨hb1.1, fun e => ?_, fun d hd hon => ?_⟩
    · have e : g = b := by simpa [ob] using e
      subst e
      rcases hat with e | e
      · exact (h.sep g hb).1 e
      · omega
    · rcases List.mem_append.1 hd with hd | hd
      · exact (h.sep b hb).2 d hd hon
      · simp at hd
        subst hd
        have := hyn b hon
        omega
  refine ⟨S7.keptS hg2 (fun b hb => hsepW b (by simpa using hb)), ?_, ?_, ?_, ?_⟩
  · rw [List.length_append, List.length_singleton, rngI_succ]; exact hrow2
  · intro b hb
    have hb : g2 = b := by simpa [ob] using hb
    subst hb
    rcases hat2 with e | e
    · exact (hsepW g2 e).2
    · refine ⟨fun e2 => ?_, fun d hd hon => ?_⟩
      · have e2 : g = g2 := by simpa [ob] using e2
        have := S7.row.block g (by rw [ob_eq]; rfl)
        omega
      · have := (S7.ins d hd).1.on_lt hon
        omega
  · have hst6 := hst.keptP hg (fun x hx _ hm => by
      have := hfar x hx
      have := (hba x.block (by simpa using hm)).2
      omega)
    exact (hst6.kept h7).keptP hg2 (fun x hx _ hm => by
      have := hfar x hx
      have := (hbw x.block (by simpa using hm)).2
      omega)
  · intro x hx hl
    have h1 := hfar x hx
    have h2 := hst.lt hx hl
    refine ⟨fun e => ?_, fun e => ?_⟩
    · have e : g = x.block := by simpa [ob] using e
      rcases hat with e3 | e3
      · have := (hba g e3).2
        omega
      · omega
    · have e : g2 = x.block := by simpa [ob] using e
      rcases hat2 with e3 | e3
      · have := (hbw g2 e3).2
        omega
      · omega
end Go.Proofs.YtnhemokmgpelaaaDoor
namespace Go.Proofs.YtnhemokmgpelaaaDoor
set_option linter.unusedVariables false
set_option linter.unusedSimpArgs false
open Go.RowKit Go.ChangeShapes Go.WideShapes Go.Deep
section
variable {H : Type} {enc : TypeId × Value → H} {w : World} {base : Nat} {spare : Nat → Bool} {held : Bool}
def u8I (n : Int) : List Value := [.int .u8 n]
def i8I (n : Int) : List Value := [.int .i8 n]
theorem opens_U8s {a : Option Addr} {len cap : Nat} {d : DataW H} {ps : List MemPlace} (h : DataW.Trod enc Tryd.prog w base spare held 22 (.slice a len cap) d ps) : ∃ l : List Int, SlIs u8I 1 w a len l ∧ (∀ x ∈ l, (Lit.int .u8 x).wf = true) ∧ len ≤ maxLen ∧ len ≤ cap :=
  open_sl1 u8I (fun x => (Lit.int .u8 x).wf = true) Tryd.underlying22 (by kernel_rfl) (fun v n y hy => by
    obtain ⟨m, e, _, hw⟩ := DataW.trod_int Tryd.underlying5 hy
    simp at e
    exact ⟨m, hw, by simp [u8I, e]⟩) h
theorem opens_I8s {a : Option Addr} {len cap : Nat} {d : DataW H} {ps : List MemPlace} (h : DataW.Trod enc Tryd.prog w base spare held 46 (.slice a len cap) d ps) : ∃ l : List Int, SlIs i8I 1 w a len l ∧ (∀ x ∈ l, (Lit.int .i8 x).wf = true) ∧ len ≤ maxLen ∧ len ≤ cap :=
  open_sl1 i8I (fun x => (Lit.int .i8 x).wf = true) Tryd.underlying46 (by kernel_rfl) (fun v n y hy => by
    obtain ⟨m, e, _, hw⟩ := DataW.trod_int Tryd.underlying23 hy
    simp at e
    exact ⟨m, hw, by simp [i8I, e]⟩) h
theorem okWide_array {P : Program} {r : Reach} {b0 : Nat} {t e : TypeId} {n : Nat} {v : Value} (ht : P.underlying t = some (.array n e)) (h : Value.okWide P w r b0 t v) : ∃ cs, v = .agg cs ∧ cs.size = P.cellsOf t := by
  unfold Value.okWide at h
  simp only [ht] at h
  obtain ⟨cs, h1, h2, _⟩ := h
  exact ⟨cs, h1, h2⟩
theorem open_arr {P : Program} {r : Reach} {b0 : Nat} {t e : TypeId} {n : Nat} {k : IntKind} {v : Value} {d : DataW H} {ps : List MemPlace} (ht : P.underlying t = some (.array n e)) (he : P.underlying e = some (.int k)) (hce : P.cellsOf e = 1) (hct : P.cellsOf t = n)
    (hv : Value.okWide P w r b0 t v) (h : DataW.Trod enc P w base spare held t v d ps) : ∃ x : List Int, v = .agg (x.map (Value.int k)).toArray ∧ (x.length = n ∧ ∀ y ∈ x, (Lit.int k y).wf = true) := by
  obtain ⟨cs, rfl, hsz⟩ := okWide_array ht hv
  obtain ⟨fuel, hf⟩ := h
  obtain ⟨xs, m, _, hx, _, hlen, hg⟩ := DataW.trod_array ht hf
  rw [hct] at hsz
  have hstep : ∀ i, i < n → ∃ y : Int, (Lit.int k y).wf = true ∧ cs[i]? = some (.int k y) := by
    intro i hi
    have h1 := hg i hi
    rw [hce, Nat.mul_one] at h1
    have hic : i < cs.size := by omega
    have h2 : ((Value.agg cs).cells.toList.drop i).take 1 = [cs[i]] := by
      show (cs.toList.drop i).take 1 = _
      rw [List.drop_eq_getElem_cons (by simpa using hic)]; simp
    rw [h2, List.getElem?_eq_getElem (by omega)] at h1
    obtain ⟨q, e1, _, hw⟩ := DataW.trod_int he h1
    simp at e1
    exact ⟨q, hw, by rw [Array.getElem?_eq_getElem hic, e1]⟩
  obtain ⟨l, hll, hp⟩ := choose_list n _ hstep
  refine ⟨l, ?_, hll, fun y hy => ?_⟩
  · congr 1
    apply Array.ext_getElem?
    intro j
    have e0 : (l.map (Value.int k)).toArray[j]? = (l[j]?).map (Value.int k) := by simp
    rw [e0]
    by_cases hj : j < n
    · rw [(hp j (by omega)).2, List.getElem?_eq_getElem (by omega)]; rfl
    · rw [Array.getElem?_eq_none (by omega), List.getElem?_eq_none (by omega)]; rfl
  · obtain ⟨j, hj, rfl⟩ := List.mem_iff_getElem.1 hy
    exact (hp j hj).1
set_option maxRecDepth 100000 in
theorem open_A8u {r : Reach} {b0 : Nat} {v : Value} {d : DataW H} {ps : List MemPlace} (hv : Value.okWide Tryd.prog w r b0 47 v) (h : DataW.Trod enc Tryd.prog w base spare held 47 v d ps) : ∃ x : List Int, v = .agg (x.map (Value.int .u8)).toArray ∧ (x.length = 8 ∧ ∀ y ∈ x, (Lit.int .u8 y).wf = true) :=
  open_arr Tryd.underlying47 Tryd.underlying5 (by kernel_rfl) (by kernel_rfl) hv h
set_option maxRecDepth 100000 in
theorem open_A8i {r : Reach} {b0 : Nat} {v : Value} {d : DataW H} {ps : List MemPlace} (hv : Value.okWide Tryd.prog w r b0 24 v) (h : DataW.Trod enc Tryd.prog w base spare held 24 v d ps) : ∃ x : List Int, v = .agg (x.map (Value.int .i8)).toArray ∧ (x.length = 8 ∧ ∀ y ∈ x, (Lit.int .i8 y).wf = true) :=
  open_arr Tryd.underlying24 Tryd.underlying23 (by kernel_rfl) (by kernel_rfl) hv h
end
end Go.Proofs.YtnhemokmgpelaaaDoor
