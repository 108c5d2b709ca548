/- Chapter 50, the reference: plain: place, isOrder; they say what the program's complete says. No condition. Chapter 50, the reference: contracts: place, same, isOrder. No condition. Chapter 50, the reference: contract: step. Condition: the table of Itoa lies as the program lays it. Chapter 50, the reference: plain: its steps are those of the program's Legal and search. No condition. Chapter 50, the reference: contract: Legal; the walk of LinearLegals. Condition: the table of Itoa lies as the program lays it. -/
import Derived.Test.YtnhemokmgpelaaaGreatDoorMLinL
import Derived.Deep.DeepCutAuto
import Derived.Test.YtnhemokmgpelaaaGreatDoorCsm
import Derived.Test.YtnhemokmgpelaaaGreatDoorMRnt
import Derived.Test.YtnhemokmgpelaaaGreatDoorMLok
namespace Go.Proofs.YtnhemokmgpelaaaGreatDoor
set_option linter.unusedVariables false
set_option linter.unusedSimpArgs false
open Go.RowKit
def plcGo (i : Int) : List Int → Nat → Int
  | [], _ => -1
  | x :: r, k => if x = i then (k : Int) else plcGo i r (k + 1)
def plcZ (o : List Int) (i : Int) : Int := plcGo i o 0
theorem plcGo_out {i : Int} : ∀ {o : List Int} {k : Nat}, i ∉ o → plcGo i o k = -1 := by
  intro o
  induction o with
  | nil => intros; rfl
  | cons x r ih =>
    intro k h
    rw [plcGo, if_neg (fun e => h (by simp [e]))]
    exact ih (fun hm => h (by simp [hm]))
theorem plcGo_in {i : Int} : ∀ {o : List Int} {k : Nat}, i ∈ o → (k : Int) ≤ plcGo i o k ∧ plcGo i o k < (k : Int) + o.length := by
  intro o
  induction o with
  | nil => intro k h; cases h
  | cons x r ih =>
    intro k h
    rw [plcGo, List.length_cons]
    split
    · omega
    · rename_i hx
      have := ih (k := k + 1) (by
        rcases List.mem_cons.1 h with e | e
        · exact absurd e.symm hx
        · exact e)
      omega
theorem plcGo_app {i : Int} {b : List Int} : ∀ {a : List Int} {k : Nat}, plcGo i (a ++ b) k = if i ∈ a then plcGo i a k else plcGo i b (k + a.length) := by
  intro a
  induction a with
  | nil => intro k; simp
  | cons x r ih =>
    intro k
    rw [List.cons_append, plcGo, plcGo]
    by_cases hx : x = i
    · rw [if_pos hx, if_pos hx, if_pos (by simp [hx])]
    · rw [if_neg hx, if_neg hx, ih]
      by_cases hr : i ∈ r
      · rw [if_pos hr, if_pos (by simp [hr])]
      · rw [if_neg hr, if_neg (by simp [hr, Ne.symm hx]), List.length_cons]
        congr 1
        omega
theorem plcZ_neg {o : List Int} {i : Int} : plcZ o i < 0 ↔ i ∉ o := by
  constructor
  · intro h hm
    have := (plcGo_in (k := 0) hm).1
    unfold plcZ at h
    omega
  · intro h
    unfold plcZ
    rw [plcGo_out h]
    omega
theorem plcZ_at {o : List Int} {k : Nat} (hk : k < o.length) : plcZ o o[k] = (k : Int) ↔ o[k] ∉ o.take k := by
  have e : plcZ o o[k] = if o[k] ∈ o.take k then plcGo o[k] (o.take k) 0 else plcGo o[k] (o.drop k) (0 + (o.take k).length) := by
    have := plcGo_app (i := o[k]) (a := o.take k) (b := o.drop k) (k := 0)
    rw [List.take_append_drop] at this
    exact this
  have hl : (o.take k).length = k := by rw [List.length_take]; omega
  rw [e]
  by_cases h : o[k] ∈ o.take k
  · rw [if_pos h]
    have := (plcGo_in (k := 0) h).2
    rw [hl] at this
    simp only [h, not_true_eq_false, iff_false]
    omega
  · rw [if_neg h, List.drop_eq_getElem_cons hk, plcGo, if_pos rfl, hl]
    simp [h]
theorem plcZ_snoc {o : List Int} {i k : Int} (hi : i ∉ o) : plcZ (o ++ [i]) k = if k ∈ o then plcZ o k else if k = i then (o.length : Int) else -1 := by
  unfold plcZ
  rw [plcGo_app]
  by_cases h : k ∈ o
  · rw [if_pos h, if_pos h]
  · rw [if_neg h, if_neg h, plcGo, plcGo]
    by_cases e : k = i
    · rw [if_pos e.symm, if_pos e]; simp
    · rw [if_neg (Ne.symm e), if_neg e]
/-! isOrder -/
def isoA (l : List PCl) (o : List Int) (k : Nat) : Bool := (List.range k).all (fun j => match o[j]? with | some x => decide (0 ≤ x) && decide (x < l.length) && (plcZ o x == (j : Int)) | none => true)
def isoC (l : List PCl) (o : List Int) (k : Nat) : Bool := (List.range k).all (fun i => match l[i]? with | some x => openB x || decide (0 ≤ plcZ o (i : Int)) | none => true)
def isoB (l : List PCl) (o : List Int) : Bool := isoA l o o.length && isoC l o l.length
theorem isoA_step {l : List PCl} {o : List Int} {k : Nat} (hk : k < o.length) : isoA l o (k + 1) = (isoA l o k && (decide (0 ≤ o[k]) && decide (o[k] < l.length) && (plcZ o o[k] == (k : Int)))) := by
  unfold isoA
  rw [List.range_succ, List.all_append, List.all_cons, List.all_nil, Bool.and_true, List.getElem?_eq_getElem hk]
theorem isoA_no {l : List PCl} {o : List Int} {k : Nat} (hk : k < o.length) (h : (decide (0 ≤ o[k]) && decide (o[k] < l.length) && (plcZ o o[k] == (k : Int))) = false) : isoB l o = false := by
  have : isoA l o o.length = false := by
    unfold isoA
    rw [List.all_eq_false]
    exact ⟨k, by simpa using hk, by rw [List.getElem?_eq_getElem hk]; simp only; rw [h]; simp⟩
  unfold isoB
  rw [this]; rfl
theorem isoC_step {l : List PCl} {o : List Int} {k : Nat} (hk : k < l.length) : isoC l o (k + 1) = (isoC l o k && (openB l[k] || decide (0 ≤ plcZ o (k : Int)))) := by
  unfold isoC
  rw [List.range_succ, List.all_append, List.all_cons, List.all_nil, Bool.and_true, List.getElem?_eq_getElem hk]
theorem isoC_no {l : List PCl} {o : List Int} {k : Nat} (hk : k < l.length) (h : (openB l[k] || decide (0 ≤ plcZ o (k : Int))) = false) : isoB l o = false := by
  have : isoC l o l.length = false := by
    unfold isoC
    rw [List.all_eq_false]
    exact ⟨k, by simpa using hk, by rw [List.getElem?_eq_getElem hk]; simp only; rw [h]; simp⟩
  unfold isoB
  rw [this]; simp
theorem isoA_iff {l : List PCl} {o : List Int} : isoA l o o.length = true ↔ o.Nodup ∧ ∀ x ∈ o, 0 ≤ x ∧ x < l.length := by
  have key : isoA l o o.length = true ↔ ∀ k (hk : k < o.length), 0 ≤ o[k] ∧ o[k] < l.length ∧ o[k] ∉ o.take k := by
    unfold isoA
    rw [List.all_eq_true]
    constructor
    · intro h k hk
      have := h k (by simpa using hk)
      rw [List.getElem?_eq_getElem hk] at this
      simp only [Bool.and_eq_true, decide_eq_true_eq, beq_iff_eq] at this
      exact ⟨this.1.1, this.1.2, (plcZ_at hk).1 this.2⟩
    · intro h j hj
      have hj : j < o.length := by simpa using hj
      rw [List.getElem?_eq_getElem hj]
      obtain ⟨h1, h2, h3⟩ := h j hj
      simp only [Bool.and_eq_true, decide_eq_true_eq, beq_iff_eq]
      exact ⟨⟨h1, h2⟩, (plcZ_at hj).2 h3⟩
  rw [key]
  constructor
  · intro h
    refine ⟨?_, fun x hx => ?_⟩
    · rw [List.nodup_iff_pairwise_ne, List.pairwise_iff_getElem]
      intro i j hi hj hij e
      exact (h j hj).2.2 (by rw [← e]; exact List.mem_take_iff_getElem.2 ⟨i, by omega, rfl⟩)
    · obtain ⟨k, hk, rfl⟩ := List.mem_iff_getElem.1 hx
      exact ⟨(h k hk).1, (h k hk).2.1⟩
  · rintro ⟨h1, h2⟩ k hk
    refine ⟨(h2 _ (List.getElem_mem hk)).1, (h2 _ (List.getElem_mem hk)).2, fun hm => ?_⟩
    obtain ⟨i, hi, e⟩ := List.mem_take_iff_getElem.1 hm
    rw [List.nodup_iff_pairwise_ne, List.pairwise_iff_getElem] at h1
    exact h1 i k (by omega) hk (by omega) e
theorem placeAll_iff {o : List Int} : ∀ {pl : List Bool}, (∃ q, placeAll pl o = some q) ↔ o.Nodup ∧ ∀ x ∈ o, 0 ≤ x ∧ x < pl.length ∧ pl[x.toNat]? = some false := by
  induction o with
  | nil => intro pl; simp [placeAll]
  | cons m r ih =>
    intro pl
    rw [placeAll]
    by_cases hm : m < 0 ∨ (pl.length : Int) ≤ m ∨ pl[m.toNat]? = some true
    · rw [if_pos hm]
      constructor
      · rintro ⟨q, h⟩; cases h
      · rintro ⟨-, h⟩
        obtain ⟨h1, h2, h3⟩ := h m (by simp)
        rcases hm with hm | hm | hm
        · omega
        · omega
        · rw [h3] at hm; cases hm
    · rw [if_neg hm, ih]
      simp only [not_or] at hm
      obtain ⟨m1, m2, m3⟩ := hm
      have ml : m.toNat < pl.length := by omega
      have mf : pl[m.toNat]? = some false := by
        rw [List.getElem?_eq_getElem ml] at m3 ⊢
        cases h : pl[m.toNat] <;> simp_all
      have hset : ∀ x : Int, 0 ≤ x → x < pl.length → ((pl.set m.toNat true)[x.toNat]? = some false ↔ x ≠ m ∧ pl[x.toNat]? = some false) := by
        intro x h1 h2
        rw [List.getElem?_set]
        by_cases e : m.toNat = x.toNat
        · have : x = m := by omega
          subst this
          simp [ml]
        · rw [if_neg e]
          have : x ≠ m := fun e2 => e (by rw [e2])
          simp [this]
      constructor
      · rintro ⟨n1, n2⟩
        have hmr : m ∉ r := fun hm => by
          obtain ⟨a1, a2, a3⟩ := n2 m hm
          rw [List.length_set] at a2
          exact ((hset m a1 a2).1 a3).1 rfl
        refine ⟨List.nodup_cons.2 ⟨hmr, n1⟩, fun x hx => ?_⟩
        rcases List.mem_cons.1 hx with rfl | hx
        · exact ⟨by omega, by omega, mf⟩
        · obtain ⟨a1, a2, a3⟩ := n2 x hx
          rw [List.length_set] at a2
          exact ⟨a1, a2, ((hset x a1 a2).1 a3).2⟩
      · rintro ⟨n1, n2⟩
        obtain ⟨hmr, n1⟩ := List.nodup_cons.1 n1
        refine ⟨n1, fun x hx => ?_⟩
        obtain ⟨a1, a2, a3⟩ := n2 x (by simp [hx])
        rw [List.length_set]
        exact ⟨a1, a2, (hset x a1 a2).2 ⟨fun e => hmr (e ▸ hx), a3⟩⟩
/-- The marks of an order. -/
def plM (n : Nat) (o : List Int) : List Bool := (List.range n).map (fun i : Nat => decide ((i : Int) ∈ o))
theorem plM_len (n : Nat) (o : List Int) : (plM n o).length = n := by simp [plM]
theorem plM_at {n : Nat} {o : List Int} {j : Nat} (hj : j < n) : (plM n o)[j]? = some (decide ((j : Int) ∈ o)) := by
  unfold plM
  rw [List.getElem?_map, List.getElem?_range hj]; rfl
theorem plM_nil (n : Nat) : plM n [] = List.replicate n false := by
  refine List.ext_getElem? (fun j => ?_)
  by_cases hj : j < n
  · rw [plM_at hj, List.getElem?_replicate, if_pos hj]; simp
  · rw [List.getElem?_eq_none (by rw [plM_len]; omega), List.getElem?_eq_none (by simp; omega)]
theorem plM_snoc {n k : Nat} {o : List Int} (hk : k < n) : plM n (o ++ [(k : Int)]) = (plM n o).set k true := by
  refine List.ext_getElem? (fun j => ?_)
  by_cases hj : j < n
  · rw [plM_at hj, List.getElem?_set, plM_at hj, plM_len]
    by_cases e : k = j
    · subst e; simp [hk]
    · rw [if_neg e]
      have : (j : Int) ≠ (k : Int) := by omega
      simp [this]
  · rw [List.getElem?_eq_none (by rw [plM_len]; omega), List.getElem?_eq_none (by rw [List.length_set, plM_len]; omega)]
theorem placeAll_plM {n : Nat} : ∀ {r o : List Int} {q : List Bool}, placeAll (plM n o) r = some q → q = plM n (o ++ r) := by
  intro r
  induction r with
  | nil => intro o q h; simp only [placeAll, Option.some.injEq] at h; rw [← h, List.append_nil]
  | cons m r ih =>
    intro o q h
    rw [placeAll] at h
    split at h
    · cases h
    · rename_i hm
      simp only [not_or] at hm
      rw [plM_len] at hm
      obtain ⟨k, rfl⟩ : ∃ k : Nat, m = k := ⟨m.toNat, by omega⟩
      rw [Int.toNat_natCast, ← plM_snoc (by omega)] at h
      have := ih h
      rw [this]
      simp
/-- An order so far: each index once, in range. -/
def OrdOk (n : Nat) (o : List Int) : Prop := o.Nodup ∧ ∀ x ∈ o, 0 ≤ x ∧ x < n
theorem ord_place {n : Nat} {o : List Int} (h : OrdOk n o) : placeAll (List.replicate n false) o = some (plM n o) := by
  obtain ⟨q, hq⟩ := placeAll_iff.2 (show o.Nodup ∧ ∀ x ∈ o, 0 ≤ x ∧ x < (List.replicate n false).length ∧ (List.replicate n false)[x.toNat]? = some false from ⟨h.1, fun x hx => by
    obtain ⟨h1, h2⟩ := h.2 x hx
    refine ⟨h1, by rw [List.length_replicate]; exact h2, ?_⟩
    rw [List.getElem?_replicate, if_pos (by omega)]⟩)
  have e := hq
  rw [← plM_nil] at e
  have := placeAll_plM e
  rw [List.nil_append] at this
  rw [hq, this]
theorem isoC_done {l : List PCl} {o : List Int} : isoC l o l.length = doneB l (plM l.length o) := by
  unfold isoC doneB doneTo
  have h : ∀ i ∈ List.range l.length, (match l[i]? with | some x => openB x || decide (0 ≤ plcZ o (i : Int)) | none => true) = (match l[i]?, (plM l.length o)[i]? with | some x, some b => openB x || b | _, _ => true) := by
    intro i hi
    have hi : i < l.length := by simpa using hi
    rw [List.getElem?_eq_getElem hi, plM_at hi]
    simp only
    congr 1
    have := plcZ_neg (o := o) (i := (i : Int))
    by_cases hm : (i : Int) ∈ o
    · rw [decide_eq_true hm]
      refine decide_eq_true ?_
      have := mt this.1 (by simpa using hm)
      omega
    · rw [decide_eq_false hm]
      refine decide_eq_false ?_
      have := this.2 hm
      omega
  rw [Bool.eq_iff_iff, List.all_eq_true, List.all_eq_true]
  constructor
  · intro g i hi; exact (h i hi).symm.trans (g i hi)
  · intro g i hi; exact (h i hi).trans (g i hi)
theorem iso_ord {l : List PCl} {o : List Int} (h : OrdOk l.length o) : isoB l o = doneB l (plM l.length o) := by
  unfold isoB
  rw [isoA_iff.2 ⟨h.1, fun x hx => by have := h.2 x hx; exact ⟨this.1, by omega⟩⟩, isoC_done]
  simp
theorem iso_eq {l : List PCl} {o : List Int} : isoB l o = completeB l o := by
  by_cases h : OrdOk l.length o
  · rw [iso_ord h]
    unfold completeB
    rw [ord_place h]
  · have h1 : isoA l o o.length = false := by
      refine Bool.eq_false_iff.2 (fun e => h ?_)
      have := isoA_iff.1 e
      exact ⟨this.1, fun x hx => by have := this.2 x hx; exact ⟨this.1, by omega⟩⟩
    have h2 : placeAll (List.replicate l.length false) o = none := by
      cases hp : placeAll (List.replicate l.length false) o with
      | none => rfl
      | some q =>
        have := placeAll_iff.1 ⟨q, hp⟩
        exact absurd ⟨this.1, fun x hx => by have := this.2 x hx; rw [List.length_replicate] at this; exact ⟨this.1, by omega⟩⟩ h
    unfold isoB completeB
    rw [h1, h2]
    rfl
end Go.Proofs.YtnhemokmgpelaaaGreatDoor
namespace Go.Proofs.YtnhemokmgpelaaaGreatDoor
set_option linter.unusedVariables false
set_option linter.unusedSimpArgs false
open Go.RowKit
variable {w : World} {la : Option Addr} {lc : Nat} {l : List Cl} {oa : Option Addr} {oc : Nat} {o : List Int}
set_option maxHeartbeats 4000000 in
set_option maxRecDepth 100000 in
theorem rplace_any (h : InIs icI 1 w oa oc o) (hl : o.length ≤ 1099511627776000) (i : Int) : Calls Tryz.prog 45 #[.slice oa o.length oc, .int .i64 i] w fun e w' => e = .returned (.int .i64 (plcZ o i)) ∧ Chg [] w w' := by
  have H := Lib.hid h
  have hl' : (o.length : Int) ≤ 1099511627776000 := by omega
  obtain ⟨R, hR⟩ : ∃ R, R = plcZ o i := ⟨_, rfl⟩
  rw [← hR]
  have HR := Lib.hid hR
  clear h hR
  go_enter Tryz.func45, Tryz.ntmps45
  go_wp2_with fail
  go_loopw [5] (fun u wr => ∃ k : Nat, u = .int .i64 k ∧ k ≤ o.length ∧ Hid (R = plcGo i (o.drop k) k) ∧ Hid (Chg [] w wr)) (fun u _ => o.length - (intOf u).toNat)
  case atStart => exact ⟨0, rfl, Nat.zero_le _, Lib.hid HR.out, Lib.hid (Chg.refl _ _)⟩
  case round =>
    obtain ⟨k, rfl, hk, HS, D⟩ := hrel
    have hk0 : (0 : Int) ≤ (k : Int) := by omega
    by_cases hko : k < o.length
    · have hko' : (k : Int) < (o.length : Int) := by omega
      obtain ⟨b1, o1, rfl, -, -, hc1⟩ := H.out.1.elem D.out k hko
      have u1 := hc1 0 (by omega)
      simp only [icI, List.getElem?_cons_zero, Nat.add_zero, Nat.mul_one] at u1
      have hs := HS.out
      rw [List.drop_eq_getElem_cons hko, plcGo] at hs
      generalize o[k] = x at *
      clear hc1
      by_cases hx : x = i
      · rw [if_pos hx] at hs
        have HE := Lib.hid hs
        have hxb : (x == i) = true := by simp [hx]
        clear hs hx
        go_wp2_with fail
        go_ret
        exact ⟨retI HE.out.symm, D.out⟩
      · rw [if_neg hx] at hs
        have HE := Lib.hid hs
        have hxb : (x == i) = false := by simp [hx]
        clear hs hx
        go_wp2_with fail
        exact ⟨⟨k + 1, by go_num, by omega, HE, D⟩, by simp [intOf]; omega⟩
    · have hke : k = o.length := by omega
      have HE := Lib.hid (show R = -1 by rw [HS.out, hke, List.drop_length]; rfl)
      clear hke
      go_wp2_with fail
      go_ret
      exact ⟨retI HE.out.symm, D.out⟩
set_option maxHeartbeats 4000000 in
set_option maxRecDepth 100000 in
theorem rsamea_any (e1 : Int) (a1 : Option Addr) (c1 : Nat) (v1 : List Ce) (e2 : Int) (a2 : Option Addr) (c2 : Nat) (v2 : List Ce) (w : World) (h1 : InIs ceC 4 w a1 c1 v1) (h2 : InIs ceC 4 w a2 c2 v2) (g1 : v1.length ≤ 3518437208780) (g2 : v2.length ≤ 3518437208780) :
    Calls Tryz.prog 51 #[.agg #[.int .i64 e1, .slice a1 v1.length c1], .agg #[.int .i64 e2, .slice a2 v2.length c2]] w fun e w' => e = .returned (.bool (e1 == e2 && sameB ceE v1 v2)) ∧ Chg [] w w' := by
  obtain ⟨W1, hW1⟩ : ∃ W1, W1 = (w.alloc (.cells #[.int .i64 e1, .slice a1 v1.length c1] 38)).alloc (.cells #[.int .i64 e2, .slice a2 v2.length c2] 38) := ⟨_, rfl⟩
  have C1 := Lib.hid (show Chg [] w W1 by rw [hW1]; exact ((Chg.refl [] w).alloc _).alloc _)
  have B1 := Lib.hid (show W1.heap[w.heap.size]? = some (.cells #[.int .i64 e1, .slice a1 v1.length c1] 38 (0, 0)) by rw [hW1]; exact blk_alloc (heap_alloc_new w _))
  have B2 := Lib.hid (show W1.heap[w.heap.size + 1]? = some (.cells #[.int .i64 e2, .slice a2 v2.length c2] 38 (0, 0)) by have := heap_alloc_new (w.alloc (.cells #[.int .i64 e1, .slice a1 v1.length c1] 38)) (.cells #[.int .i64 e2, .slice a2 v2.length c2] 38); rw [World.size_alloc] at this; rw [hW1]; exact this)
  have HW1 := Lib.hid hW1
  have k1 := blk_cell B1.out
  have k2 := blk_cell B2.out
  have S := Lib.hid (csame_any a1 c1 v1 a2 c2 v2 W1 (h1.kept C1.out).1 (h2.kept C1.out).1 g1 g2)
  have hn1 : (0 : Int) ≤ (v1.length : Int) := by omega
  have hn2 : (0 : Int) ≤ (v2.length : Int) := by omega
  clear hW1 h1 h2
  by_cases he : e1 = e2
  case neg =>
    have heb : (e1 != e2) = true := by simp [he]
    have HE := Lib.hid (show (e1 == e2 && sameB ceE v1 v2) = false by simp [he])
    rw [HE.out]
    clear he
    go_enter Tryz.func51, Tryz.ntmps51
    go_upto_region 1 with fail
    rw [← HW1.out]
    go_wp2_with fail
    go_ret
    exact ⟨rfl, C1.out⟩
  have heb : (e1 != e2) = false := by simp [he]
  by_cases h0 : v1.length = 0 ∨ v2.length = 0
  · have HE := Lib.hid (show (e1 == e2 && sameB ceE v1 v2) = ((v1.length : Int) == (v2.length : Int)) by
      rw [Bool.eq_iff_iff]
      unfold sameB
      simp only [he, beq_self_eq_true, Bool.true_and, Bool.and_eq_true, decide_eq_true_eq, beq_iff_eq]
      constructor
      · rintro ⟨h, -⟩; omega
      · intro h
        have : v1.length = 0 := by omega
        refine ⟨by omega, ?_⟩
        rw [this]; rfl)
    rw [HE.out]
    have q1 : ((v1.length : Int) == 0) = true ∨ (((v1.length : Int) == 0) = false ∧ ((v2.length : Int) == 0) = true) := by
      rcases Nat.eq_zero_or_pos v1.length with h | h
      · exact .inl (by simp [h])
      · refine .inr ⟨beq_eq_false_iff_ne.2 (by omega), ?_⟩
        have : v2.length = 0 := by omega
        simp [this]
    clear he h0 HE
    generalize hB : ((v1.length : Int) == (v2.length : Int)) = B at *
    rcases q1 with q1 | ⟨q1, q2⟩
    all_goals
      go_enter Tryz.func51, Tryz.ntmps51
      go_upto_region 1 with fail
      rw [← HW1.out]
      go_wp2_with fail
      go_ret
      exact ⟨rfl, C1.out⟩
  · have q1 : ((v1.length : Int) == 0) = false := beq_eq_false_iff_ne.2 (by omega)
    have q2 : ((v2.length : Int) == 0) = false := beq_eq_false_iff_ne.2 (by omega)
    have HE := Lib.hid (show (e1 == e2 && sameB ceE v1 v2) = sameB ceE v1 v2 by simp [he])
    rw [HE.out]
    generalize sameB ceE v1 v2 = B at *
    clear he h0 HE
    go_enter Tryz.func51, Tryz.ntmps51
    go_upto_region 1 with fail
    rw [← HW1.out]
    go_wp2_with fail
    refine S.out.mono ?_; rintro e w2 ⟨rfl, hc⟩
    have C2 := Lib.hid (C1.out.thenSame hc)
    clear hc
    go_wp2_with fail
    go_ret
    exact ⟨rfl, C2.out⟩
set_option maxHeartbeats 8000000 in
set_option maxRecDepth 100000 in
theorem riso_any (hl : LIn w la lc l) (h : InIs icI 1 w oa oc o) (hlo : o.length ≤ 1099511627776000) (hll : l.length ≤ 1099511627776) : Calls Tryz.prog 31 #[.slice la l.length lc, .slice oa o.length oc] w fun e w' => e = .returned (.bool (isoB (l.map Cl.p) o)) ∧ Chg [] w w' := by
  have H := Lib.hid h
  have HL := Lib.hid hl
  have hl' : (o.length : Int) ≤ 1099511627776000 := by omega
  have hll' : (l.length : Int) ≤ 1099511627776 := by omega
  have PL := Lib.hid (fun i w' (hc : Chg [] w w') => rplace_any (h.kept hc) hlo i)
  obtain ⟨R, hR⟩ : ∃ R, R = isoB (l.map Cl.p) o := ⟨_, rfl⟩
  rw [← hR]
  have HR := Lib.hid hR
  clear h hR hl
  go_enter Tryz.func31, Tryz.ntmps31
  go_wp2_with fail
  go_loopw [5] (fun u wr => ∃ k : Nat, u = .int .i64 k ∧ k ≤ o.length ∧ Hid (isoA (l.map Cl.p) o k = true) ∧ Hid (Chg [] w wr)) (fun u _ => o.length - (intOf u).toNat)
  case atStart => exact ⟨0, rfl, Nat.zero_le _, Lib.hid rfl, Lib.hid (Chg.refl _ _)⟩
  case round =>
    obtain ⟨k, rfl, hk, HS, D⟩ := hrel
    have hk0 : (0 : Int) ≤ (k : Int) := by omega
    by_cases hko : k < o.length
    · have hko' : (k : Int) < (o.length : Int) := by omega
      obtain ⟨b1, o1, rfl, -, -, hc1⟩ := H.out.1.elem D.out k hko
      have u1 := hc1 0 (by omega)
      simp only [icI, List.getElem?_cons_zero, Nat.add_zero, Nat.mul_one] at u1
      have hst := isoA_step (l := l.map Cl.p) hko
      have hno := Lib.hid (isoA_no (l := l.map Cl.p) hko)
      rw [List.length_map] at hst hno
      generalize o[k] = x at *
      clear hc1
      by_cases hx0 : x < 0
      · have HE := Lib.hid (show R = false by rw [HR.out]; refine hno.out ?_; rw [decide_eq_false (show ¬ 0 ≤ x by omega)]; rfl)
        clear hst
        go_wp2_with fail
        go_ret
        exact ⟨retB HE.out.symm, D.out⟩
      have hx0' : 0 ≤ x := by omega
      by_cases hxl : (l.length : Int) ≤ x
      · have HE := Lib.hid (show R = false by rw [HR.out]; refine hno.out ?_; rw [decide_eq_false (show ¬ x < l.length by omega)]; simp)
        clear hst
        go_wp2_with fail
        go_ret
        exact ⟨retB HE.out.symm, D.out⟩
      have hxl' : x < (l.length : Int) := by omega
      have P := Lib.hid (PL.out x _ D.out)
      rw [decide_eq_true hx0', decide_eq_true hxl', Bool.true_and, Bool.true_and] at hst
      by_cases hp : plcZ o x = (k : Int)
      · rw [hp] at P
        have hpb : ((k : Int) != (k : Int)) = false := by simp
        have HST := Lib.hid (show isoA (l.map Cl.p) o (k + 1) = true by rw [hst, HS.out, hp]; simp)
        clear hst hp
        go_wp2_with (go_at_call 45; (with_reducible refine Calls.mono P.out ?_); rintro e w2 ⟨rfl, hc⟩; have D2 := Lib.hid (D.out.thenSame hc); clear hc)
        exact ⟨⟨k + 1, by go_num, by omega, HST, D2⟩, by simp [intOf]; omega⟩
      · have hpb : (plcZ o x != (k : Int)) = true := by simp [hp]
        have HE := Lib.hid (show R = false by rw [HR.out]; refine hno.out ?_; rw [beq_eq_false_iff_ne.2 hp]; simp)
        clear hst hp
        generalize plcZ o x = z at *
        go_wp2_with (go_at_call 45; (with_reducible refine Calls.mono P.out ?_); rintro e w2 ⟨rfl, hc⟩; have D2 := Lib.hid (D.out.thenSame hc); clear hc)
        go_ret
        exact ⟨retB HE.out.symm, D2.out⟩
    · have hke : k = o.length := by omega
      have HA := Lib.hid (show isoA (l.map Cl.p) o o.length = true by rw [← hke]; exact HS.out)
      have HR2 := Lib.hid (show R = isoC (l.map Cl.p) o l.length by rw [HR.out]; unfold isoB; rw [HA.out, Bool.true_and, List.length_map])
      have W0 := D
      clear hke HS D
      obtain ⟨wa, rfl⟩ : ∃ wa, wa = wr := ⟨wr, rfl⟩
      go_wp2_with fail
      go_loopw [6] (fun u wr => ∃ k : Nat, u = .int .i64 k ∧ k ≤ l.length ∧ Hid (isoC (l.map Cl.p) o k = true) ∧ Hid (Chg [] w wr)) (fun u _ => l.length - (intOf u).toNat)
      case atStart => exact ⟨0, rfl, Nat.zero_le _, Lib.hid rfl, W0⟩
      case round =>
        obtain ⟨j, rfl, hj, HS, D⟩ := hrel
        have hj0 : (0 : Int) ≤ (j : Int) := by omega
        by_cases hjl : j < l.length
        · have hjl' : (j : Int) < (l.length : Int) := by omega
          obtain ⟨b2, o2, rfl, -, hc2⟩ := HL.out.at8 (w' := wr) j hjl
          obtain ⟨x0, x1, x2, x3, x4, x5, x6, x7⟩ := hc2 _ D.out
          have hjm : j < (l.map Cl.p).length := by rw [List.length_map]; exact hjl
          have hst := isoC_step (o := o) hjm
          have hno := Lib.hid (isoC_no (o := o) hjm)
          rw [List.getElem_map] at hst hno
          have P := Lib.hid (PL.out (j : Int) _ D.out)
          generalize l[j] = x at *
          clear hc2 x0 x1 x2 x3 x4 x5 x6 hjm
          by_cases ht : x.to_ = -1
          · have htb : (x.to_ != -1) = false := by simp [ht]
            have HST := Lib.hid (show isoC (l.map Cl.p) o (j + 1) = true by rw [hst, HS.out]; simp [openB, Cl.p, ht])
            clear hst ht
            go_wp2_with fail
            exact ⟨⟨j + 1, by go_num, by omega, HST, D⟩, by simp [intOf]; omega⟩
          have htb : (x.to_ != -1) = true := by simp [ht]
          have hop : openB x.p = false := beq_eq_false_iff_ne.2 ht
          rw [hop, Bool.false_or] at hst hno
          clear hop ht
          by_cases hp : plcZ o (j : Int) < 0
          · have HE := Lib.hid (show R = false by rw [HR.out]; exact hno.out (decide_eq_false (by omega)))
            clear hst
            generalize plcZ o (j : Int) = z at *
            go_wp2_with (go_at_call 45; (with_reducible refine Calls.mono P.out ?_); rintro e w2 ⟨rfl, hc⟩; have D2 := Lib.hid (D.out.thenSame hc); clear hc)
            go_ret
            exact ⟨retB HE.out.symm, D2.out⟩
          · have hp' : 0 ≤ plcZ o (j : Int) := by omega
            have HST := Lib.hid (show isoC (l.map Cl.p) o (j + 1) = true by rw [hst, HS.out, decide_eq_true hp']; rfl)
            clear hst
            generalize plcZ o (j : Int) = z at *
            go_wp2_with (go_at_call 45; (with_reducible refine Calls.mono P.out ?_); rintro e w2 ⟨rfl, hc⟩; have D2 := Lib.hid (D.out.thenSame hc); clear hc)
            exact ⟨⟨j + 1, by go_num, by omega, HST, D2⟩, by simp [intOf]; omega⟩
        · have hje : j = l.length := by omega
          have HE := Lib.hid (show R = true by rw [HR2.out, ← hje]; exact HS.out)
          clear hje
          go_wp2_with fail
          go_ret
          exact ⟨retB HE.out.symm, D.out⟩
end Go.Proofs.YtnhemokmgpelaaaGreatDoor
namespace Go.Proofs.YtnhemokmgpelaaaGreatDoor
set_option linter.unusedVariables false
set_option linter.unusedSimpArgs false
open Go.RowKit
def blkAt (l : List PCl) (o : List Int) (k : Nat) (x : PCl) (i : Nat) : Bool := match l[i]? with | some y => (decide (plcZ o (i : Int) < 0) || decide ((k : Int) < plcZ o (i : Int))) && befB y x | none => false
def blkTo (l : List PCl) (o : List Int) (k : Nat) (x : PCl) (m : Nat) : Bool := (List.range m).any (blkAt l o k x)
theorem blkTo_step {l : List PCl} {o : List Int} {k : Nat} {x : PCl} {i : Nat} (hi : i < l.length) : blkTo l o k x (i + 1) = (blkTo l o k x i || ((decide (plcZ o (i : Int) < 0) || decide ((k : Int) < plcZ o (i : Int))) && befB l[i] x)) := by
  unfold blkTo
  rw [List.range_succ, List.any_append, List.any_cons, List.any_nil, Bool.or_false]
  congr 1
  unfold blkAt
  rw [List.getElem?_eq_getElem hi]
theorem blkTo_yes {l : List PCl} {o : List Int} {k : Nat} {x : PCl} {i : Nat} (hi : i < l.length) (h : ((decide (plcZ o (i : Int) < 0) || decide ((k : Int) < plcZ o (i : Int))) && befB l[i] x) = true) : blkTo l o k x l.length = true := by
  unfold blkTo
  rw [List.any_eq_true]
  refine ⟨i, by simpa using hi, ?_⟩
  unfold blkAt
  rw [List.getElem?_eq_getElem hi]
  exact h
/-- What step returns for the call x. -/
def stepX (l : List PCl) (st : List Ce) (o : List Int) (k : Nat) (x : PCl) : Int × List Ce × Int × List Ce :=
  if blkTo l o k x l.length = true then (11, [], 0, []) else if (openB x || ((doZ st x.o).2.2.1 == x.err && sameB ceE (doZ st x.o).2.2.2 x.ans)) = true then (0, (doZ st x.o).2) else (19, [], 0, [])
variable {w : World} {la : Option Addr} {lc : Nat} {l : List Cl} {oa : Option Addr} {oc : Nat} {o : List Int} {sa : Option Addr} {sc : Nat} {st : List Ce}
set_option maxHeartbeats 8000000 in
set_option maxRecDepth 100000 in
theorem rstep_any (hl : LIn w la lc l) (hg : ∀ x ∈ l, goodCl x) (hga : ∀ x ∈ l, goodL x.ans) (hs : InIs ceC 4 w sa sc st) (hsg : goodL st) (h : InIs icI 1 w oa oc o) (hlo : o.length ≤ 1099511627776000) (h20 : l.length ≤ 20) (ht : TabW w)
    (k n : Nat) (hk : k < o.length) (hok : o[k] = (n : Int)) (hn : n < l.length) (hz : (doZ st l[n].p.o).1 = 0) :
    Calls Tryz.prog 32 #[.slice sa st.length sc, .slice la l.length lc, .slice oa o.length oc, .int .i64 k] w (RDoP w (stepX (l.map Cl.p) st o k l[n].p)) := by
  have H := Lib.hid h
  have HL := Lib.hid hl
  have HS0 := Lib.hid hs
  have HT := Lib.hid ht
  have HG := Lib.hid hg
  have HGA := Lib.hid hga
  have HSG := Lib.hid hsg
  have HZ := Lib.hid hz
  have hl' : (o.length : Int) ≤ 1099511627776000 := by omega
  have hll' : (l.length : Int) ≤ 20 := by omega
  have hk0 : (0 : Int) ≤ (k : Int) := by omega
  have hk1 : (k : Int) < (o.length : Int) := by omega
  have hn0 : (0 : Int) ≤ (n : Int) := by omega
  have hn1 : (n : Int) < (l.length : Int) := by omega
  have PL := Lib.hid (fun i w' (hc : Chg [] w w') => rplace_any (h.kept hc) hlo i)
  obtain ⟨b3, o3, rfl, -, -, hc3⟩ := h.1.elem (Chg.refl [] w) k hk
  have U3 := Lib.hid (fun w' (hc : Chg [] w w') => show w'.cell? ⟨b3, o3 + k, none⟩ = some (.int .i64 (n : Int)) from by
    obtain ⟨b, o', e, -, -, hcc⟩ := h.1.elem hc k hk
    cases e
    have := hcc 0 (by omega)
    rw [hok] at this
    simpa [icI] using this)
  have BF := Lib.hid (fun (i : Nat) w' (hc : Chg [] w w') => rbefore_any (hl.kept hc) (i : Int) (n : Int))
  obtain ⟨R, hR⟩ : ∃ R, R = stepX (l.map Cl.p) st o k l[n].p := ⟨_, rfl⟩
  rw [← hR]
  have HRX := Lib.hid hR
  clear h hR hl hs ht hg hga hsg hz hc3 hok
  go_enter Tryz.func32, Tryz.ntmps32
  go_wp2_with fail
  obtain ⟨W1, hW1⟩ : ∃ W1, W1 = w.alloc (.cells #[.int .i64 0, .slice none 0 0] 38) := ⟨_, rfl⟩
  have C1 := Lib.hid (show Chg [] w W1 by rw [hW1]; exact (Chg.refl [] w).alloc _)
  have B1 := Lib.hid (show W1.heap[w.heap.size]? = some (.cells #[.int .i64 0, .slice none 0 0] 38 (0, 0)) by rw [hW1]; exact heap_alloc_new w _)
  rw [← hW1]
  clear hW1
  go_loopw [11] (fun u wr => ∃ i : Nat, u = .int .i64 i ∧ i ≤ l.length ∧ Hid (blkTo (l.map Cl.p) o k l[n].p i = false) ∧ Hid (Chg [] w wr) ∧ Hid (wr.heap[w.heap.size]? = some (.cells #[.int .i64 0, .slice none 0 0] 38 (0, 0)))) (fun u _ => l.length - (intOf u).toNat)
  case atStart => exact ⟨0, rfl, Nat.zero_le _, Lib.hid rfl, C1, B1⟩
  case round =>
    obtain ⟨i, rfl, hi, HS, D, K⟩ := hrel
    have hi0 : (0 : Int) ≤ (i : Int) := by omega
    by_cases hil : i < l.length
    · have hil' : (i : Int) < (l.length : Int) := by omega
      have him : i < (l.map Cl.p).length := by rw [List.length_map]; exact hil
      have hst := blkTo_step (o := o) (k := k) (x := l[n].p) him
      have hno := blkTo_yes (o := o) (k := k) (x := l[n].p) him
      have hbz := befZ_at him (show n < (l.map Cl.p).length by rw [List.length_map]; exact hn)
      rw [List.getElem_map] at hst hno hbz
      rw [List.getElem_map] at hbz
      have P := Lib.hid (PL.out (i : Int) _ D.out)
      have BF := Lib.hid (fun w' (hc : Chg [] w w') => show Calls Tryz.prog 50 #[.slice la l.length lc, .int .i64 (i : Int), .int .i64 (n : Int)] w' fun e w'' => e = .returned (.bool (befB l[i].p l[n].p)) ∧ Chg [] w' w'' from by have := BF.out i w' hc; rwa [hbz] at this)
      clear hbz
      by_cases h1 : plcZ o (i : Int) < 0
      · have hzb : (decide (plcZ o (i : Int) < 0) || decide ((k : Int) < plcZ o (i : Int))) = true := by rw [decide_eq_true h1]; rfl
        generalize plcZ o (i : Int) = z at *
        cases hb : befB l[i].p l[n].p
        · rw [hb] at BF hst
          have HST := Lib.hid (show blkTo (l.map Cl.p) o k l[n].p (i + 1) = false by rw [hst, HS.out, Bool.and_false]; rfl)
          clear hst hno hb
          go_wp2_with (first | (go_at_call 45; (with_reducible refine Calls.mono P.out ?_); rintro e w2 ⟨rfl, hc⟩; have D2 := Lib.hid (D.out.thenSame hc); have K2 := Lib.hid (hc.at (by simp) K.out); have y3 := U3.out w2 D2.out; clear hc) | (go_at_call 50; (with_reducible refine Calls.mono (BF.out _ D2.out) ?_); rintro e w3 ⟨rfl, hc⟩; have D3 := Lib.hid (D2.out.thenSame hc); have K3 := Lib.hid (hc.at (by simp) K2.out); clear hc))
          exact ⟨⟨i + 1, by go_num, by omega, HST, D3, K3⟩, by simp [intOf]; omega⟩
        · rw [hb] at BF hno
          have HE := Lib.hid (show blkTo (l.map Cl.p) o k l[n].p (l.map Cl.p).length = true from hno (by rw [Bool.and_true]; exact hzb))
          have HR := Lib.hid (show R = (11, [], 0, []) by rw [HRX.out]; unfold stepX; rw [if_pos HE.out])
          clear hst hno hb
          go_wp2_with (first | (go_at_call 45; (with_reducible refine Calls.mono P.out ?_); rintro e w2 ⟨rfl, hc⟩; have D2 := Lib.hid (D.out.thenSame hc); have K2 := Lib.hid (hc.at (by simp) K.out); have y3 := U3.out w2 D2.out; clear hc) | (go_at_call 50; (with_reducible refine Calls.mono (BF.out _ D2.out) ?_); rintro e w3 ⟨rfl, hc⟩; have D3 := Lib.hid (D2.out.thenSame hc); have K3 := Lib.hid (hc.at (by simp) K2.out); have k3 := blk_cell K3.out; have f3 := blk_free K3.out; clear hc))
          rw [HR.out]
          have r1 := blk_cell (ans_two K3.out 0 none 0 0).1
          unfold ansW at r1
          refine bodyPost_ret (v := .tuple #[.slice none 0 0, .agg #[.int .i64 0, .slice none 0 0], .int .i64 11]) (by simp [results, Tryz.results32, go_sem, r1]) rfl ?_
          exact rdoP_end (r := (11, [], 0, [])) K3.out (Nat.le_refl _) D3.out InIs.nil InIs.nil
      by_cases h2 : (k : Int) < plcZ o (i : Int)
      · have hzb : (decide (plcZ o (i : Int) < 0) || decide ((k : Int) < plcZ o (i : Int))) = true := by rw [decide_eq_true h2]; simp
        generalize plcZ o (i : Int) = z at *
        cases hb : befB l[i].p l[n].p
        · rw [hb] at BF hst
          have HST := Lib.hid (show blkTo (l.map Cl.p) o k l[n].p (i + 1) = false by rw [hst, HS.out, Bool.and_false]; rfl)
          clear hst hno hb
          go_wp2_with (first | (go_at_call 45; (with_reducible refine Calls.mono P.out ?_); rintro e w2 ⟨rfl, hc⟩; have D2 := Lib.hid (D.out.thenSame hc); have K2 := Lib.hid (hc.at (by simp) K.out); have y3 := U3.out w2 D2.out; clear hc) | (go_at_call 50; (with_reducible refine Calls.mono (BF.out _ D2.out) ?_); rintro e w3 ⟨rfl, hc⟩; have D3 := Lib.hid (D2.out.thenSame hc); have K3 := Lib.hid (hc.at (by simp) K2.out); clear hc))
          exact ⟨⟨i + 1, by go_num, by omega, HST, D3, K3⟩, by simp [intOf]; omega⟩
        · rw [hb] at BF hno
          have HE := Lib.hid (show blkTo (l.map Cl.p) o k l[n].p (l.map Cl.p).length = true from hno (by rw [Bool.and_true]; exact hzb))
          have HR := Lib.hid (show R = (11, [], 0, []) by rw [HRX.out]; unfold stepX; rw [if_pos HE.out])
          clear hst hno hb
          go_wp2_with (first | (go_at_call 45; (with_reducible refine Calls.mono P.out ?_); rintro e w2 ⟨rfl, hc⟩; have D2 := Lib.hid (D.out.thenSame hc); have K2 := Lib.hid (hc.at (by simp) K.out); have y3 := U3.out w2 D2.out; clear hc) | (go_at_call 50; (with_reducible refine Calls.mono (BF.out _ D2.out) ?_); rintro e w3 ⟨rfl, hc⟩; have D3 := Lib.hid (D2.out.thenSame hc); have K3 := Lib.hid (hc.at (by simp) K2.out); have k3 := blk_cell K3.out; have f3 := blk_free K3.out; clear hc))
          rw [HR.out]
          have r1 := blk_cell (ans_two K3.out 0 none 0 0).1
          unfold ansW at r1
          refine bodyPost_ret (v := .tuple #[.slice none 0 0, .agg #[.int .i64 0, .slice none 0 0], .int .i64 11]) (by simp [results, Tryz.results32, go_sem, r1]) rfl ?_
          exact rdoP_end (r := (11, [], 0, [])) K3.out (Nat.le_refl _) D3.out InIs.nil InIs.nil
      · have h1' : 0 ≤ plcZ o (i : Int) := by omega
        have h2' : plcZ o (i : Int) ≤ (k : Int) := by omega
        have HST := Lib.hid (show blkTo (l.map Cl.p) o k l[n].p (i + 1) = false by rw [hst, HS.out, decide_eq_false h1, decide_eq_false h2]; rfl)
        clear hst hno
        generalize plcZ o (i : Int) = z at *
        go_wp2_with (go_at_call 45; (with_reducible refine Calls.mono P.out ?_); rintro e w2 ⟨rfl, hc⟩; have D2 := Lib.hid (D.out.thenSame hc); have K2 := Lib.hid (hc.at (by simp) K.out); clear hc)
        exact ⟨⟨i + 1, by go_num, by omega, HST, D2, K2⟩, by simp [intOf]; omega⟩
    · have hie : i = l.length := by omega
      have HB := Lib.hid (show blkTo (l.map Cl.p) o k l[n].p (l.map Cl.p).length = false by rw [List.length_map, ← hie]; exact HS.out)
      clear hie hi HS
      have y3 := U3.out _ D.out
      obtain ⟨b2, o2, rfl, -, hc2⟩ := HL.out.at8 (w' := wr) n hn
      obtain ⟨x0, x1, x2, x3, x4, x5, x6, x7⟩ := hc2 _ D.out
      have INX := Lib.hid ((HL.out.2 _ (List.getElem_mem hn)).kept D.out)
      have GX := Lib.hid (HG.out _ (List.getElem_mem hn))
      have GAX := Lib.hid (HGA.out _ (List.getElem_mem hn))
      generalize l[n] = x at *
      have HRY := Lib.hid (show R = if (openB x.p || ((doZ st x.p.o).2.2.1 == x.p.err && sameB ceE (doZ st x.p.o).2.2.2 x.p.ans)) = true then (0, (doZ st x.p.o).2) else (19, [], 0, []) by rw [HRX.out]; unfold stepX; rw [if_neg (by rw [HB.out]; simp)])
      clear hc2
      go_upto_region 8 with fail
      generalize hW7' : World.alloc wr _ = W7
      have hW7 : W7 = wr.alloc (clO x) := hW7'.symm
      clear hW7'
      have C7 := Lib.hid (show Chg [] w W7 by rw [hW7]; exact D.out.alloc _)
      have B7 := Lib.hid (show W7.heap[wr.heap.size]? = some (clO x) by rw [hW7]; exact heap_alloc_new _ _)
      have K7 := Lib.hid (show W7.heap[w.heap.size]? = some (.cells #[.int .i64 0, .slice none 0 0] 38 (0, 0)) by rw [hW7]; exact blk_alloc K.out)
      have IN7 := Lib.hid (show ClIn W7 x by rw [hW7]; exact INX.out.kept ((Chg.refl _ _).alloc _))
      unfold clO at B7
      clear hW7 x0 x1 x2 x3 x4 x5 x6 x7 y3 INX
      have k7 := blk_cell B7.out
      have A := rdo_any sa sc st x.o W7 (HS0.out.kept C7.out) HSG.out IN7.out.1 GX.out.1 (HT.out.kept C7.out)
      have HZA := doZ_ans HZ.out
      have e1 : x.p.o = x.o.p := rfl
      rw [e1] at HRY HZA
      generalize doZ st x.o.p = Z at *
      obtain ⟨ze, zs, zr, za⟩ := Z
      simp only [eoC] at A
      have A := Lib.hid A
      rename_i A0
      simp only at HRY HZA
      have HZA := Lib.hid HZA
      clear A0 e1
      go_wp2_with fail
      refine A.out.mono ?_; rintro e w8 ⟨na, nc, va, vc, rfl, hn8, hv8, hc8⟩
      have C8 := Lib.hid (C7.out.thenSame hc8)
      have E8 := Lib.hid hc8
      have B8 := Lib.hid (hc8.at (by simp) B7.out)
      have K8 := Lib.hid (hc8.at (by simp) K7.out)
      have N8 := Lib.hid hn8
      have V8 := Lib.hid hv8
      clear hn8 hv8 hc8 k7 A
      go_upto_region 9 with fail
      obtain ⟨W8, hW8⟩ : ∃ W8, W8 = w8.alloc (.cells #[.int .i64 zr, .slice va za.length vc] 38) := ⟨_, rfl⟩
      have D8 := Lib.hid (show Chg [] w8 W8 by rw [hW8]; exact (Chg.refl [] w8).alloc _)
      have T8 := Lib.hid (show W8.heap[w8.heap.size]? = some (.cells #[.int .i64 zr, .slice va za.length vc] 38 (0, 0)) by rw [hW8]; exact heap_alloc_new _ _)
      have B9 := Lib.hid (D8.out.at (by simp) B8.out)
      have K9 := Lib.hid (D8.out.at (by simp) K8.out)
      have C9 := Lib.hid (C8.out.thenSame D8.out)
      rw [← hW8]
      clear hW8
      have k8 := blk_cell B9.out
      have t8 := blk_cell T8.out
      by_cases hto : x.to_ = -1
      · have htb : (x.to_ != -1) = false := by simp [hto]
        have HR := Lib.hid (show R = (0, zs, zr, za) by rw [HRY.out, if_pos]; have : openB x.p = true := (show (x.to_ == -1) = true by simp [hto]); rw [this]; rfl)
        clear hto
        go_upto_region 11 with fail
        have k9 := blk_cell K9.out
        have f9 := blk_free K9.out
        go_region_law (fail)
        all_goals go_wp2_with fail
        all_goals
          rw [HR.out]
          have r1 := blk_cell (ans_two K9.out zr va za.length vc).1
          unfold ansW at r1
          refine bodyPost_ret (v := .tuple #[.slice na zs.length nc, .agg #[.int .i64 zr, .slice va za.length vc], .int .i64 0]) (by simp [results, Tryz.results32, go_sem, r1]) rfl ?_
          exact (rdoP_end (r := (0, zs, zr, za)) K9.out (Nat.le_refl _) C9.out (N8.out.kept D8.out) (V8.out.kept D8.out)).drew
      have htb : (x.to_ != -1) = true := by simp [hto]
      have hop : openB x.p = false := beq_eq_false_iff_ne.2 hto
      have SA := Lib.hid (rsamea_any zr va vc za x.err x.va x.vc x.ans W8 (V8.out.kept D8.out) ((IN7.out.2.kept E8.out).kept D8.out) (by have := HZA.out; omega) GAX.out.1)
      have HRZ := Lib.hid (show R = if (zr == x.err && sameB ceE za x.ans) = true then (0, zs, zr, za) else (19, [], 0, []) by rw [HRY.out, hop]; rfl)
      clear hto hop
      generalize (zr == x.err && sameB ceE za x.ans) = q at *
      cases q
      · have HR := Lib.hid (show R = (19, [], 0, []) by rw [HRZ.out]; rfl)
        go_wp2_with (go_at_call 51; (with_reducible refine Calls.mono SA.out ?_); rintro e w10 ⟨rfl, hc⟩; have C10 := Lib.hid (C9.out.thenSame hc); have K10 := Lib.hid (hc.at (by simp) K9.out); have k10 := blk_cell K10.out; have f10 := blk_free K10.out; clear hc)
        rw [HR.out]
        have r1 := blk_cell (ans_two K10.out 0 none 0 0).1
        unfold ansW at r1
        refine bodyPost_ret (v := .tuple #[.slice none 0 0, .agg #[.int .i64 0, .slice none 0 0], .int .i64 19]) (by simp [results, Tryz.results32, go_sem, r1]) rfl ?_
        exact rdoP_end (r := (19, [], 0, [])) K10.out (Nat.le_refl _) C10.out InIs.nil InIs.nil
      · have HR := Lib.hid (show R = (0, zs, zr, za) by rw [HRZ.out]; rfl)
        go_upto_region 11 with (go_at_call 51; (with_reducible refine Calls.mono SA.out ?_); rintro e w10 ⟨rfl, hc⟩; have C10 := Lib.hid (C9.out.thenSame hc); have E10 := Lib.hid (D8.out.thenSame hc); have K10 := Lib.hid (hc.at (by simp) K9.out); have T10 := Lib.hid (hc.at (by simp) T8.out); have t10 := blk_cell T10.out; have k10 := blk_cell K10.out; have f10 := blk_free K10.out; clear hc)
        go_region_law (fail)
        all_goals go_wp2_with fail
        all_goals
          rw [HR.out]
          have r1 := blk_cell (ans_two K10.out zr va za.length vc).1
          unfold ansW at r1
          refine bodyPost_ret (v := .tuple #[.slice na zs.length nc, .agg #[.int .i64 zr, .slice va za.length vc], .int .i64 0]) (by simp [results, Tryz.results32, go_sem, r1]) rfl ?_
          exact (rdoP_end (r := (0, zs, zr, za)) K10.out (Nat.le_refl _) C10.out (N8.out.kept E10.out) (V8.out.kept E10.out)).drew
end Go.Proofs.YtnhemokmgpelaaaGreatDoor
namespace Go.Proofs.YtnhemokmgpelaaaGreatDoor
set_option linter.unusedVariables false
set_option linter.unusedSimpArgs false
open Go.RowKit
variable {l : List PCl} {st : List Ce} {o : List Int}
theorem plc_drop {i : Int} {k : Nat} : (k : Int) < plcZ o i ↔ i ∉ o.take (k + 1) ∧ i ∈ o.drop (k + 1) := by
  have e : plcZ o i = if i ∈ o.take (k + 1) then plcGo i (o.take (k + 1)) 0 else plcGo i (o.drop (k + 1)) (0 + (o.take (k + 1)).length) := by
    have := plcGo_app (i := i) (a := o.take (k + 1)) (b := o.drop (k + 1)) (k := 0)
    rw [List.take_append_drop] at this
    exact this
  have hl : (o.take (k + 1)).length ≤ k + 1 := by rw [List.length_take]; omega
  by_cases h : i ∈ o.take (k + 1)
  · rw [e, if_pos h]
    have := (plcGo_in (k := 0) h).2
    constructor
    · intro h2; omega
    · rintro ⟨h2, -⟩; exact absurd h h2
  · rw [e, if_neg h]
    by_cases h2 : i ∈ o.drop (k + 1)
    · have h3 : k + 1 < o.length := by
        rcases Nat.lt_or_ge (k + 1) o.length with h3 | h3
        · exact h3
        · rw [List.drop_eq_nil_of_le h3] at h2; cases h2
      have h4 : (o.take (k + 1)).length = k + 1 := by rw [List.length_take]; omega
      have := (plcGo_in (k := 0 + (o.take (k + 1)).length) h2).1
      rw [h4] at this ⊢
      simp only [h, h2, not_false_eq_true, and_self, iff_true]
      omega
    · rw [plcGo_out h2]
      constructor
      · intro h3; omega
      · rintro ⟨-, h3⟩; exact absurd h3 h2
theorem befB_open {x y : PCl} (h : openB y = true) : befB y x = false := by unfold befB; rw [h]; rfl
theorem blk_legal {k : Nat} (ho : OrdOk l.length o) (hd : doneB l (plM l.length o) = true) {x : PCl} (hk : k < o.length) (hx : l[(o[k]).toNat]? = some x) :
    blkTo l o k x l.length = (o.drop (k + 1)).any (fun j => befI l j o[k]) := by
  rw [Bool.eq_iff_iff]
  unfold blkTo
  rw [List.any_eq_true, List.any_eq_true]
  constructor
  · rintro ⟨i, hi, hb⟩
    have hi : i < l.length := by simpa using hi
    unfold blkAt at hb
    rw [List.getElem?_eq_getElem hi] at hb
    simp only [Bool.and_eq_true, Bool.or_eq_true, decide_eq_true_eq] at hb
    obtain ⟨h1, h2⟩ := hb
    have hin : (i : Int) ∈ o := by
      rcases (doneB_iff (plM_len _ _)).1 hd i hi with h3 | h3
      · rw [befB_open h3] at h2; cases h2
      · have := plM_at (n := l.length) (o := o) hi
        rw [List.getElem?_eq_getElem (by rw [plM_len]; exact hi), h3] at this
        simpa using this.symm
    rcases h1 with h1 | h1
    · exact absurd hin (plcZ_neg.1 h1)
    · refine ⟨(i : Int), (plc_drop.1 h1).2, ?_⟩
      unfold befI
      rw [Int.toNat_natCast, List.getElem?_eq_getElem hi, hx]
      exact h2
  · rintro ⟨j, hj, hb⟩
    obtain ⟨j0, j1⟩ := ho.2 j (List.mem_of_mem_drop hj)
    have hjn : j.toNat < l.length := by omega
    refine ⟨j.toNat, by simpa using hjn, ?_⟩
    unfold blkAt
    rw [List.getElem?_eq_getElem hjn]
    unfold befI at hb
    rw [List.getElem?_eq_getElem hjn, hx] at hb
    simp only [Bool.and_eq_true, Bool.or_eq_true, decide_eq_true_eq]
    refine ⟨.inr ?_, hb⟩
    have e : ((j.toNat : Nat) : Int) = j := by omega
    rw [e]
    refine plc_drop.2 ⟨fun hm => ?_, hj⟩
    have hnd := ho.1
    rw [← List.take_append_drop (k + 1) o, List.nodup_append] at hnd
    exact hnd.2.2 j hm j hj rfl
/-- A position of an order that is checked: the same result. -/
theorem step_legal {k : Nat} (ho : OrdOk l.length o) (hd : doneB l (plM l.length o) = true) {x : PCl} (hk : k < o.length) (hx : l[(o[k]).toNat]? = some x) (hz : (doZ st x.o).1 = 0) :
    legalGo l (o.drop k) st k = if (stepX l st o k x).1 = 0 then legalGo l (o.drop (k + 1)) (stepX l st o k x).2.1 (k + 1) else ((k : Int), (stepX l st o k x).1) := by
  rw [List.drop_eq_getElem_cons hk, legalGo, ← blk_legal ho hd hk hx]
  unfold stepX
  by_cases hb : blkTo l o k x l.length = true
  · rw [if_pos hb, if_pos hb]
    simp
  · rw [if_neg hb, if_neg hb]
    have hf : fitsI l st o[k] = if (openB x || ((doZ st x.o).2.2.1 == x.err && sameB ceE (doZ st x.o).2.2.2 x.ans)) = true then some (doZ st x.o).2.1 else none := by
      unfold fitsI
      rw [hx]
      simp only
      unfold fitsF
      rw [if_neg (by simp [hz])]
    rw [hf]
    by_cases hq : (openB x || ((doZ st x.o).2.2.1 == x.err && sameB ceE (doZ st x.o).2.2.2 x.ans)) = true
    · rw [if_pos hq, if_pos hq]; simp
    · rw [if_neg hq, if_neg hq]; simp
theorem valid_do {x : PCl} (h : hcheckZ l = 0) (hx : x ∈ l) (hs : checkZ st = 0) : (doZ st x.o).1 = 0 := by
  obtain ⟨h8, hz⟩ := hcheck_zero h
  obtain ⟨j, hj, rfl⟩ := List.mem_iff_getElem.1 hx
  have h1 := hz j hj
  unfold chkAt at h1
  rw [List.getElem?_eq_getElem hj, List.getElem?_eq_getElem (by omega)] at h1
  simp only at h1
  unfold chk1 at h1
  split at h1
  · cases h1
  · split at h1
    · cases h1
    · split at h1
      · cases h1
      · have := (doZ_zero h1).1
        unfold doZ
        rw [if_neg (by simp [this]), if_neg (by simp [hs])]
theorem stepX_next {k : Nat} {x : PCl} (hz : (doZ st x.o).1 = 0) (h : (stepX l st o k x).1 = 0) : (stepX l st o k x).2.1 = (doZ st x.o).2.1 := by
  unfold stepX at h ⊢
  split at h
  · cases h
  · rename_i hb
    rw [if_neg hb]
    split at h
    · rename_i hq; rw [if_pos hq]
    · cases h
theorem compl_ord (h : completeB l o = true) : OrdOk l.length o ∧ doneB l (plM l.length o) = true := by
  unfold completeB at h
  cases hp : placeAll (List.replicate l.length false) o with
  | none => rw [hp] at h; simp at h
  | some q =>
    rw [hp] at h
    have h1 := placeAll_iff.1 ⟨q, hp⟩
    have ho : OrdOk l.length o := ⟨h1.1, fun x hx => by have := h1.2 x hx; rw [List.length_replicate] at this; exact ⟨this.1, by omega⟩⟩
    have h2 := ord_place ho
    rw [hp] at h2
    cases h2
    exact ⟨ho, h⟩
/-! the search -/
theorem plc_range {i : Int} (h : i ∈ o) : 0 ≤ plcZ o i ∧ plcZ o i < o.length := by
  have := plcGo_in (k := 0) h
  unfold plcZ
  omega
theorem blk_search {i : Nat} {x : PCl} (hi : l[i]? = some x) (hio : (i : Int) ∉ o) (hself : befB x x = false) : blkTo l (o ++ [(i : Int)]) o.length x l.length = blockB l (plM l.length o) x := by
  rw [Bool.eq_iff_iff]
  unfold blkTo blockB blockTo
  rw [List.any_eq_true, List.any_eq_true]
  have key : ∀ j, j < l.length → ∀ y, l[j]? = some y → (((decide (plcZ (o ++ [(i : Int)]) (j : Int) < 0) || decide ((o.length : Int) < plcZ (o ++ [(i : Int)]) (j : Int))) && befB y x) = true ↔ (!decide ((j : Int) ∈ o) && befB y x) = true) := by
    intro j hj y hy
    rw [plcZ_snoc hio]
    by_cases hjo : (j : Int) ∈ o
    · have := plc_range hjo
      rw [if_pos hjo, decide_eq_true hjo, decide_eq_false (by omega), decide_eq_false (by omega)]
      simp
    · rw [if_neg hjo, decide_eq_false hjo]
      by_cases e : (j : Int) = (i : Int)
      · have : j = i := by omega
        subst this
        rw [hi] at hy
        cases hy
        rw [hself]
        simp
      · rw [if_neg e]
        simp
  constructor
  · rintro ⟨j, hj, hb⟩
    have hj' : j < l.length := by simpa using hj
    refine ⟨j, hj, ?_⟩
    unfold blkAt at hb
    rw [List.getElem?_eq_getElem hj'] at hb
    rw [List.getElem?_eq_getElem hj', plM_at hj']
    exact (key j hj' _ (List.getElem?_eq_getElem hj')).1 hb
  · rintro ⟨j, hj, hb⟩
    have hj' : j < l.length := by simpa using hj
    refine ⟨j, hj, ?_⟩
    unfold blkAt
    rw [List.getElem?_eq_getElem hj']
    rw [List.getElem?_eq_getElem hj', plM_at hj'] at hb
    exact (key j hj' _ (List.getElem?_eq_getElem hj')).2 hb
theorem try_step {i : Nat} {x : PCl} {F : List Ce → List Bool → List Int → Option (List Int)} (hi : l[i]? = some x) (hio : (i : Int) ∉ o) (hself : befB x x = false) (hz : (doZ st x.o).1 = 0) :
    tryF l F st (plM l.length o) o i = if (stepX l st (o ++ [(i : Int)]) o.length x).1 = 0 then F (stepX l st (o ++ [(i : Int)]) o.length x).2.1 (plM l.length (o ++ [(i : Int)])) (o ++ [(i : Int)]) else none := by
  have hil : i < l.length := (List.getElem?_eq_some_iff.1 hi).1
  have hb := blk_search hi hio hself
  have hp : (plM l.length o)[i]? = some false := by rw [plM_at hil, decide_eq_false hio]
  unfold stepX
  rw [hb]
  by_cases hq : blockB l (plM l.length o) x = true
  · rw [tryF_block hi hq, if_pos hq]; rfl
  · rw [tryF_go hi hp (by simpa using hq), if_neg hq]
    unfold goF fitsF
    rw [if_neg (by simp [hz])]
    by_cases hf : (openB x || ((doZ st x.o).2.2.1 == x.err && sameB ceE (doZ st x.o).2.2.2 x.ans)) = true
    · rw [if_pos hf, if_pos hf, plM_snoc hil]; rfl
    · rw [if_neg hf, if_neg hf]; rfl
theorem try_in {i : Nat} {F : List Ce → List Bool → List Int → Option (List Int)} (hi : i < l.length) (hio : (i : Int) ∈ o) : tryF l F st (plM l.length o) o i = none := tryF_placed (by rw [plM_at hi, decide_eq_true hio])
theorem ord_snoc {n i : Nat} (h : OrdOk n o) (hi : i < n) (hio : (i : Int) ∉ o) : OrdOk n (o ++ [(i : Int)]) := by
  refine ⟨?_, fun x hx => ?_⟩
  · rw [List.nodup_append]
    exact ⟨h.1, by simp, fun a ha b hb => by simp at hb; subst hb; exact fun e => hio (e ▸ ha)⟩
  · rcases List.mem_append.1 hx with hx | hx
    · exact h.2 x hx
    · simp at hx; subst hx; omega
theorem ord_full {n : Nat} (h : OrdOk n o) (hl : o.length = n) : plM n o = List.replicate n true := by
  have hall : ∀ j : Nat, j < n → (j : Int) ∈ o := by
    intro j hj
    have hp := ord_place h
    have hc := placeAll_count hp
    simp only [List.count_replicate_self] at hc
    have h0 : (plM n o).count false = 0 := by omega
    have hm := plM_at (o := o) hj
    by_cases hm2 : (j : Int) ∈ o
    · exact hm2
    · rw [decide_eq_false hm2] at hm
      have := List.count_pos_iff.2 (List.mem_of_getElem? hm)
      omega
  refine List.ext_getElem? (fun j => ?_)
  by_cases hj : j < n
  · rw [plM_at hj, decide_eq_true (hall j hj), List.getElem?_replicate, if_pos hj]
  · rw [List.getElem?_eq_none (by rw [plM_len]; omega), List.getElem?_eq_none (by simp; omega)]
end Go.Proofs.YtnhemokmgpelaaaGreatDoor
namespace Go.Proofs.YtnhemokmgpelaaaGreatDoor
set_option linter.unusedVariables false
set_option linter.unusedSimpArgs false
open Go.RowKit
variable {w : World} {la : Option Addr} {lc : Nat} {l : List Cl} {oa : Option Addr} {oc : Nat} {o : List Int} {sa : Option Addr} {sc : Nat} {st : List Ce}
set_option maxHeartbeats 8000000 in
set_option maxRecDepth 100000 in
theorem rlegal_any (hl : LIn w la lc l) (hg : ∀ x ∈ l, goodCl x) (hga : ∀ x ∈ l, goodL x.ans) (hs : InIs ceC 4 w sa sc st) (hsg : goodL st) (h : InIs icI 1 w oa oc o) (hlo : o.length ≤ 20) (h20 : l.length ≤ 20) (ht : TabW w) :
    Calls Tryz.prog 14 #[.slice sa st.length sc, .slice la l.length lc, .slice oa o.length oc] w fun e w' => e = .returned (.tuple #[.int .i64 (legalZ st (l.map Cl.p) o).1, .int .i64 (legalZ st (l.map Cl.p) o).2]) ∧ Chg [] w w' := by
  obtain ⟨R, hR⟩ : ∃ R, R = legalZ st (l.map Cl.p) o := ⟨_, rfl⟩
  rw [← hR]
  have HR := Lib.hid hR
  have A1 := Lib.hid (rhcheck_any hl hg ht)
  have A2 := Lib.hid (fun w' (hc : Chg [] w w') => rcheck_any sa sc st w' (hs.kept hc).1 hsg.1 hsg.2 (ht.kept hc))
  have A3 := Lib.hid (fun w' (hc : Chg [] w w') => riso_any (hl.kept hc) (h.kept hc) (by omega) (by omega))
  by_cases h1 : hcheckZ (l.map Cl.p) = 0
  case neg =>
    have HE := Lib.hid (show R = (0, hcheckZ (l.map Cl.p)) by
      have e : hchkZ st (l.map Cl.p) = hcheckZ (l.map Cl.p) := by unfold hchkZ; rw [if_pos h1]
      rw [HR.out]; unfold legalZ; rw [e, if_pos h1])
    have hb : (hcheckZ (l.map Cl.p) != 0) = true := by simp [h1]
    rw [HE.out]
    clear hR hl hg hga hs hsg h ht h1 HE HR A2 A3
    generalize hcheckZ (l.map Cl.p) = z at *
    go_enter Tryz.func14, Tryz.ntmps14
    go_wp2_with fail
    refine A1.out.mono ?_; rintro e w2 ⟨rfl, hc⟩
    have C2 := Lib.hid hc
    clear hc
    go_wp2_with fail
    go_ret2
    exact ⟨rfl, C2.out⟩
  rw [h1] at A1
  by_cases h2 : checkZ st = 0
  case neg =>
    have HE := Lib.hid (show R = (0, checkZ st) by
      have e : hchkZ st (l.map Cl.p) = checkZ st := by unfold hchkZ; rw [if_neg (by simp [h1])]
      rw [HR.out]; unfold legalZ; rw [e, if_pos h2])
    have hb : (checkZ st != 0) = true := by simp [h2]
    rw [HE.out]
    clear hR hl hg hga hs hsg h ht h1 h2 HE HR A3
    generalize checkZ st = z at *
    go_enter Tryz.func14, Tryz.ntmps14
    go_wp2_with fail
    refine A1.out.mono ?_; rintro e w2 ⟨rfl, hc⟩
    have C2 := Lib.hid hc
    clear hc
    go_wp2_with fail
    refine (A2.out _ C2.out).mono ?_; rintro e w3 ⟨rfl, hc⟩
    have C3 := Lib.hid (C2.out.thenSame hc)
    clear hc
    go_wp2_with fail
    go_ret2
    exact ⟨rfl, C3.out⟩
  rw [h2] at A2
  have hcz : hchkZ st (l.map Cl.p) = 0 := by unfold hchkZ; rw [if_neg (by simp [h1])]; exact h2
  have eI := iso_eq (l := l.map Cl.p) (o := o)
  by_cases h3 : completeB (l.map Cl.p) o = true
  case neg =>
    have h3f : completeB (l.map Cl.p) o = false := by simpa using h3
    have HE := Lib.hid (show R = (0, 2) by rw [HR.out]; unfold legalZ; rw [if_neg (by simp [hcz]), if_pos h3f])
    rw [eI, h3f] at A3
    rw [HE.out]
    clear hR hl hg hga hs hsg h ht h1 h2 h3 h3f HE HR eI hcz
    go_enter Tryz.func14, Tryz.ntmps14
    go_wp2_with fail
    refine A1.out.mono ?_; rintro e w2 ⟨rfl, hc⟩
    have C2 := Lib.hid hc
    clear hc
    go_wp2_with fail
    refine (A2.out _ C2.out).mono ?_; rintro e w3 ⟨rfl, hc⟩
    have C3 := Lib.hid (C2.out.thenSame hc)
    clear hc
    go_wp2_with fail
    refine (A3.out _ C3.out).mono ?_; rintro e w4 ⟨rfl, hc⟩
    have C4 := Lib.hid (C3.out.thenSame hc)
    clear hc
    go_wp2_with fail
    go_ret2
    exact ⟨rfl, C4.out⟩
  rw [eI, h3] at A3
  obtain ⟨ho, hd⟩ := compl_ord h3
  have HO := Lib.hid ho
  have HD := Lib.hid hd
  have HGo := Lib.hid (show legalGo (l.map Cl.p) (o.drop 0) st 0 = R by rw [HR.out]; unfold legalZ; rw [if_neg (by simp [hcz]), if_neg (by simp [h3])]; rfl)
  have H := Lib.hid h
  have HL := Lib.hid hl
  have HS0 := Lib.hid hs
  have HT := Lib.hid ht
  have HSG := Lib.hid (show goodL st ∧ checkZ st = 0 from ⟨hsg, h2⟩)
  have HG := Lib.hid hg
  have HV := Lib.hid (fun (s : List Ce) (hs : checkZ s = 0) n (hn : n < l.length) => valid_do (st := s) h1 (List.mem_map_of_mem (f := Cl.p) (List.getElem_mem hn)) hs)
  have ST := Lib.hid (fun w' (hc : Chg [] w w') na nc (s : List Ce) (hs : InIs ceC 4 w' na nc s) (hsg : goodL s) k n hk hok hn hz => rstep_any (hl.kept hc) hg hga hs hsg (h.kept hc) (by omega) h20 (ht.kept hc) k n hk hok hn hz)
  have hlo' : (o.length : Int) ≤ 20 := by omega
  clear hR hl hg hga hs hsg h ht h1 h2 h3 hcz eI ho hd
  go_enter Tryz.func14, Tryz.ntmps14
  go_wp2_with fail
  refine A1.out.mono ?_; rintro e w2 ⟨rfl, hc⟩
  have C2 := Lib.hid hc
  clear hc
  go_wp2_with fail
  refine (A2.out _ C2.out).mono ?_; rintro e w3 ⟨rfl, hc⟩
  have C3 := Lib.hid (C2.out.thenSame hc)
  clear hc
  go_wp2_with fail
  refine (A3.out _ C3.out).mono ?_; rintro e w4 ⟨rfl, hc⟩
  have C4 := Lib.hid (C3.out.thenSame hc)
  clear hc
  go_wp2_with fail
  go_loopw [10, 11] (fun s u wr => ∃ (k : Nat) (na : Option Addr) (nc : Nat) (s1 : List Ce), s = .slice na s1.length nc ∧ u = .int .i64 k ∧ k ≤ o.length ∧ Hid (Chg [] w wr) ∧ Hid (InIs ceC 4 wr na nc s1) ∧ Hid (goodL s1 ∧ checkZ s1 = 0) ∧ Hid (legalGo (l.map Cl.p) (o.drop k) s1 k = R)) (fun _ u _ => o.length - (intOf u).toNat)
  case atStart => exact ⟨0, sa, sc, st, rfl, rfl, Nat.zero_le _, C4, Lib.hid (HS0.out.kept C4.out), HSG, HGo⟩
  case round =>
    obtain ⟨k, na, nc, s1, rfl, rfl, hk, D, IS, SG, GO⟩ := hrel
    have hk0 : (0 : Int) ≤ (k : Int) := by omega
    by_cases hko : k < o.length
    · have hko' : (k : Int) < (o.length : Int) := by omega
      obtain ⟨r1, r2⟩ := HO.out.2 _ (List.getElem_mem hko)
      rw [List.length_map] at r2
      obtain ⟨n, hn⟩ : ∃ n : Nat, o[k] = (n : Int) := ⟨(o[k]).toNat, by omega⟩
      have hnl : n < l.length := by omega
      have hz := HV.out s1 SG.out.2 n hnl
      have hx : (l.map Cl.p)[(o[k]).toNat]? = some (l[n]).p := by rw [hn, Int.toNat_natCast, List.getElem?_map, List.getElem?_eq_getElem hnl]; rfl
      have hgo := step_legal HO.out HD.out hko hx hz
      have GZ := doZ_good (o := (l[n]).o) (st := s1) hz SG.out.1 (HG.out _ (List.getElem_mem hnl)).1
      have CZ := doZ_next hz
      have S := ST.out _ D.out na nc s1 IS.out SG.out.1 k n hko hn hnl hz
      have NX := stepX_next (l := l.map Cl.p) (o := o) (k := k) hz
      rw [GO.out] at hgo
      rw [show (l[n]).o.p = (l[n]).p.o from rfl] at GZ
      generalize (l[n]).p = x at *
      generalize stepX (l.map Cl.p) s1 o k x = Z at *
      obtain ⟨ze, zs, zr, za⟩ := Z
      simp only at hgo S NX
      have S := Lib.hid S
      rename_i S0
      clear S0 hx hn r1 r2 hz
      by_cases hze : ze = 0
      · subst hze
        rw [if_pos rfl] at hgo
        have HG2 := Lib.hid hgo.symm
        have NG := Lib.hid (show goodL zs ∧ checkZ zs = 0 by rw [NX rfl]; exact ⟨GZ, CZ⟩)
        clear hgo NX GZ CZ
        go_wp2_with fail
        refine S.out.mono ?_; rintro e w5 ⟨na2, nc2, va2, vc2, rfl, hn5, hv5, hc5⟩
        have D5 := Lib.hid ((D.out.thenSame hc5).alloc (.cells #[.int .i64 zr, .slice va2 za.length vc2] 38))
        have N5 := Lib.hid (hn5.kept ((Chg.refl [] w5).alloc (.cells #[.int .i64 zr, .slice va2 za.length vc2] 38)))
        clear hn5 hv5 hc5 S
        go_wp2_with fail
        exact ⟨⟨k + 1, na2, nc2, zs, rfl, by go_num, by omega, D5, N5, NG, HG2⟩, by simp [intOf]; omega⟩
      · rw [if_neg hze] at hgo
        have HG2 := Lib.hid hgo
        have hzb : (ze != 0) = true := by simp [hze]
        clear hgo NX GZ CZ hze
        go_wp2_with fail
        refine S.out.mono ?_; rintro e w5 ⟨na2, nc2, va2, vc2, rfl, hn5, hv5, hc5⟩
        have D5 := Lib.hid ((D.out.thenSame hc5).alloc (.cells #[.int .i64 zr, .slice va2 za.length vc2] 38))
        clear hn5 hv5 hc5 S
        go_wp2_with fail
        rw [HG2.out]
        go_ret2
        exact ⟨rfl, D5.out⟩
    · have hke : k = o.length := by omega
      have HE := Lib.hid (show R = ((o.length : Int), 0) by rw [← GO.out, hke, List.drop_length]; rfl)
      clear hke
      go_wp2_with fail
      rw [HE.out]
      go_ret2
      exact ⟨rfl, D.out⟩
set_option maxHeartbeats 8000000 in
set_option maxRecDepth 100000 in
theorem legals_walk (a0 : Option Addr) (len0 cap0 : Nat) (l0 : List Ce) (a1 : Option Addr) (len1 cap1 : Nat) (l1 : List Cl) (a2 : Option Addr) (len2 cap2 : Nat) (l2 : List Int) (w : World)
    (h0 : l0.length = len0 ∧ InIs ceC 4 w a0 cap0 l0 ∧ goodL l0) (h1 : l1.length = len1 ∧ LIn w a1 cap1 l1 ∧ (∀ x ∈ l1, goodCl x) ∧ ∀ x ∈ l1, goodL x.ans) (h2 : l2.length = len2 ∧ InIs icI 1 w a2 cap2 l2 ∧ (∀ x ∈ l2, (Lit.int .i64 x).wf = true) ∧ len2 ≤ 1099511627776000) (ht : TabW w) :
    Calls Tryz.prog 4 #[.slice a0 len0 cap0, .slice a1 len1 cap1, .slice a2 len2 cap2] w fun e w' => e = .returned (.bool true) ∧ Below w.heap.size w w' := by
  obtain ⟨rfl, hs, hsg⟩ := h0
  obtain ⟨rfl, hl, hg, hga⟩ := h1
  obtain ⟨rfl, hi, -, hlen⟩ := h2
  refine Calls.mono (R := fun e w' => e = .returned (.bool true) ∧ Chg [] w w') ?_ (fun e w' h => ⟨h.1, h.2.toBelow (Nat.le_refl _) (by simp)⟩)
  have AW := Lib.hid (fun w' (hc : Chg [] w w') => awake_any w' (ht.kept hc))
  by_cases hbig : 20 < l1.length ∨ 20 < l2.length
  · have AWC := Lib.hid (AW.out _ (Chg.refl _ _))
    have hb : (20 : Int) < (l1.length : Int) ∨ ((l1.length : Int) ≤ 20 ∧ (20 : Int) < (l2.length : Int)) := by omega
    clear hbig hl hg hga hi hs hsg ht
    rcases hb with hb | ⟨hb, hb2⟩
    all_goals
      go_enter Tryz.func4, Tryz.ntmps4
      go_wp2_with fail
      refine AWC.out.mono ?_; rintro e w2 ⟨rfl, hc⟩
      have C2 := Lib.hid hc
      clear hc
      go_wp2_with fail
      go_ret
      exact ⟨rfl, C2.out⟩
  have hb1 : (l1.length : Int) ≤ 20 := by omega
  have hb2 : (l2.length : Int) ≤ 20 := by omega
  have A := Lib.hid (legal_any hl hg hs hsg ht hi hlen)
  have B := Lib.hid (fun w' (hc : Chg [] w w') => rlegal_any (hl.kept hc) hg hga (hs.kept hc) hsg (hi.kept hc) (by omega) (by omega) (ht.kept hc))
  clear hbig hl hg hga hi hs hsg ht
  generalize legalZ l0 (l1.map Cl.p) l2 = z at *
  obtain ⟨z1, z2⟩ := z
  simp only at A B
  have e1 : (z1 == z1) = true := beq_self_eq_true _
  have e2 : (z2 == z2) = true := beq_self_eq_true _
  go_enter Tryz.func4, Tryz.ntmps4
  go_wp2_with fail
  refine A.out.mono ?_; rintro e w2 ⟨rfl, hc⟩
  have C2 := Lib.hid hc
  clear hc A
  go_wp2_with fail
  refine (B.out _ C2.out).mono ?_; rintro e w3 ⟨rfl, hc⟩
  have C3 := Lib.hid (C2.out.thenSame hc)
  have AWD := Lib.hid (AW.out _ C3.out)
  clear hc B
  go_wp2_with (go_at_call 6; (with_reducible refine Calls.mono AWD.out ?_); rintro e w9 ⟨rfl, hc⟩; have CC := Lib.hid (C3.out.thenSame hc); clear hc)
  go_ret
  exact ⟨rfl, CC.out⟩
end Go.Proofs.YtnhemokmgpelaaaGreatDoor
