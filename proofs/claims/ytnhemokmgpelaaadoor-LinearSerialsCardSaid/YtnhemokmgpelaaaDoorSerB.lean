/- Chapter 50, plain: the calls that Serial returns. No condition. -/
import Derived.Test.YtnhemokmgpelaaaDoorSerA
namespace Go.Proofs.YtnhemokmgpelaaaDoor
set_option linter.unusedVariables false
set_option linter.unusedSimpArgs false
open Go.RowKit
theorem ansP_o (st : List Ce) (x : PCl) : (ansP st x).o = x.o ∧ (ansP st x).from_ = x.from_ ∧ (ansP st x).to_ = x.to_ := by
  unfold ansP; split <;> exact ⟨rfl, rfl, rfl⟩
/-- Performed one after the other, the calls have their answers. -/
def SerOk : List PCl → List Ce → Prop
  | [], _ => True
  | z :: r, st => (doZ st z.o).1 = 0 ∧ (doZ st z.o).2.2.1 = z.err ∧ (doZ st z.o).2.2.2 = z.ans ∧ SerOk r (doZ st z.o).2.1
theorem serOk_of {l : List PCl} : ∀ {o : List Int} {st : List Ce}, LegOk l o st → SerOk (serGo l o st) st := by
  intro o
  induction o with
  | nil => intros; trivial
  | cons k r ih =>
    rintro st ⟨n, x, rfl, hx, h1, h2, h3⟩
    rw [serGo, Int.toNat_natCast, hx]
    refine ⟨by rw [(ansP_o st x).1]; exact h1, ?_, ?_, by rw [(ansP_o st x).1]; exact ih h3⟩
    · rw [(ansP_o st x).1]
      unfold ansP
      cases ho : openB x
      · exact (h2 ho).1
      · rfl
    · rw [(ansP_o st x).1]
      unfold ansP
      cases ho : openB x
      · exact (h2 ho).2
      · rfl
theorem serOk_drop {R : List PCl} {k : Nat} {st : List Ce} (hk : k < R.length) (h : SerOk (R.drop k) st) : (doZ st R[k].o).1 = 0 ∧ (doZ st R[k].o).2.2.1 = R[k].err ∧ (doZ st R[k].o).2.2.2 = R[k].ans ∧ SerOk (R.drop (k + 1)) (doZ st R[k].o).2.1 := by
  rw [List.drop_eq_getElem_cons hk] at h
  exact h
theorem serGo_len {l : List PCl} : ∀ {o : List Int} {st : List Ce}, LegOk l o st → (serGo l o st).length = o.length := by
  intro o
  induction o with
  | nil => intros; rfl
  | cons k r ih =>
    rintro st ⟨n, x, rfl, hx, h1, h2, h3⟩
    rw [serGo, Int.toNat_natCast, hx]
    simp [ih h3]
def idOf (l : List PCl) (k : Int) : ByteArray := match l[k.toNat]? with | some x => x.o.id | none => ⟨#[]⟩
theorem serGo_ids {l : List PCl} : ∀ {o : List Int} {st : List Ce}, LegOk l o st → (serGo l o st).map (fun z => z.o.id) = o.map (idOf l) := by
  intro o
  induction o with
  | nil => intros; rfl
  | cons k r ih =>
    rintro st ⟨n, x, rfl, hx, h1, h2, h3⟩
    rw [serGo, Int.toNat_natCast, hx]
    simp only [List.map_cons, ih h3, (ansP_o st x).1]
    unfold idOf
    rw [Int.toNat_natCast, hx]
theorem serGo_mem {l : List PCl} : ∀ {o : List Int} {st : List Ce}, LegOk l o st → ∀ z ∈ serGo l o st, ∃ x ∈ l, z.o = x.o ∧ z.from_ = x.from_ ∧ z.to_ = x.to_ := by
  intro o
  induction o with
  | nil => intro st h z hz; cases hz
  | cons k r ih =>
    rintro st ⟨n, x, rfl, hx, h1, h2, h3⟩ z hz
    rw [serGo, Int.toNat_natCast, hx] at hz
    rcases List.mem_cons.1 hz with rfl | hz
    · exact ⟨x, List.mem_of_getElem? hx, ansP_o st x⟩
    · exact ih h3 z hz
/-- Identifiers of a valid history are different. -/
theorem ids_inj {l : List PCl} (h : hcheckZ l = 0) {i j : Nat} (hi : i < l.length) (hj : j < l.length) (e : l[i].o.id = l[j].o.id) : i = j := by
  have key : ∀ i j (hi : i < l.length) (hj : j < l.length), i < j → l[i].o.id ≠ l[j].o.id := by
    intro i j hi hj hij e
    have h1 := (hcheck_zero h).2 j hj
    unfold chkAt at h1
    rw [List.getElem?_eq_getElem hj, List.getElem?_eq_getElem (by omega)] at h1
    simp only at h1
    unfold chk1 at h1
    split at h1
    · simp at h1
    · split at h1
      · simp at h1
      · rename_i hp
        apply hp
        rw [List.any_eq_true]
        refine ⟨l[i], ?_, by simp [e]⟩
        rw [List.mem_take_iff_getElem]
        exact ⟨i, by omega, rfl⟩
  rcases Nat.lt_trichotomy i j with h1 | h1 | h1
  · exact absurd e (key i j hi hj h1)
  · exact h1
  · exact absurd e.symm (key j i hj hi h1)
theorem placeAll_nodup {r : List Int} : ∀ {pl q : List Bool}, placeAll pl r = some q → r.Nodup := by
  induction r with
  | nil => intros; exact List.nodup_nil
  | cons k r ih =>
    intro pl q h
    unfold placeAll at h
    split at h
    · simp at h
    · rename_i hk
      refine List.nodup_cons.2 ⟨fun hm => ?_, ih h⟩
      have := (placeAll_fresh h k hm).2
      rw [List.getElem?_set, if_pos rfl] at this
      split at this <;> simp at this
def cntTo (R : List PCl) (s : ByteArray) (k : Nat) : Nat := (R.take k).countP (fun z => z.o.id == s)
theorem cntTo_step {R : List PCl} {s : ByteArray} {k : Nat} (hk : k < R.length) : cntTo R s (k + 1) = cntTo R s k + if (R[k].o.id == s) = true then 1 else 0 := by
  unfold cntTo
  rw [List.take_succ_eq_append_getElem hk, List.countP_append, List.countP_cons, List.countP_nil, Nat.zero_add]
theorem cntTo_le {R : List PCl} {s : ByteArray} {k : Nat} : cntTo R s k ≤ k := by
  unfold cntTo
  refine Nat.le_trans List.countP_le_length ?_
  rw [List.length_take]; omega
theorem count_nodup {o : List Int} (h : o.Nodup) (k : Int) : o.countP (fun j => j == k) ≤ 1 ∧ (o.countP (fun j => j == k) = 0 → k ∉ o) := by
  induction o with
  | nil => exact ⟨by simp, fun _ => by simp⟩
  | cons j r ih =>
    obtain ⟨h1, h2⟩ := List.nodup_cons.1 h
    obtain ⟨i1, i2⟩ := ih h2
    rw [List.countP_cons]
    by_cases e : j = k
    · subst e
      have : r.countP (fun i => i == j) = 0 := by
        rw [List.countP_eq_zero]
        intro i hi hij
        have : i = j := by simpa using hij
        exact h1 (this ▸ hi)
      rw [this]
      simp
    · have hjk : (j == k) = false := by simpa using e
      rw [hjk]
      simp only [Bool.false_eq_true, if_false, Nat.add_zero]
      exact ⟨i1, fun h0 => by simp; exact ⟨fun h => e h.symm, i2 h0⟩⟩
/-- Each call of the history is in what Serial returns, once, as it was. -/
theorem ser_count {l : List PCl} {o : List Int} {q : List Bool} {st : List Ce} (hz : hcheckZ l = 0) (hp : placeAll (List.replicate l.length false) o = some q) (hd : doneB l q = true) (hL : LegOk l o st) {i : Nat} (hi : i < l.length) :
    (∀ z ∈ serGo l o st, z.o.id = l[i].o.id → z.from_ = l[i].from_ ∧ z.to_ = l[i].to_) ∧ cntTo (serGo l o st) l[i].o.id (serGo l o st).length ≤ 1 ∧ (cntTo (serGo l o st) l[i].o.id (serGo l o st).length = 0 → l[i].to_ = -1) := by
  have hcnt : cntTo (serGo l o st) l[i].o.id (serGo l o st).length = o.countP (fun j => j == (i : Int)) := by
    unfold cntTo
    rw [List.take_of_length_le (Nat.le_refl _)]
    have e1 : (serGo l o st).countP (fun z => z.o.id == l[i].o.id) = ((serGo l o st).map (fun z => z.o.id)).countP (fun s => s == l[i].o.id) := by rw [List.countP_map]; rfl
    rw [e1, serGo_ids hL, List.countP_map]
    refine List.countP_congr (fun k hk => ?_)
    obtain ⟨k0, k1⟩ := placeAll_fresh hp k hk
    have hkl : k.toNat < l.length := by
      have := (List.getElem?_eq_some_iff.1 k1).1
      simpa using this
    have : idOf l k = l[k.toNat].o.id := by unfold idOf; rw [List.getElem?_eq_getElem hkl]
    simp only [Function.comp, this, beq_iff_eq]
    constructor
    · intro e
      have := ids_inj hz hkl hi e
      omega
    · intro e
      subst e
      simp
  refine ⟨fun z hzm e => ?_, ?_, ?_⟩
  · obtain ⟨x, hx, h1, h2, h3⟩ := serGo_mem hL z hzm
    obtain ⟨j, hj, rfl⟩ := List.mem_iff_getElem.1 hx
    rw [h1] at e
    have := ids_inj hz hj hi e
    subst this
    exact ⟨h2, h3⟩
  · rw [hcnt]
    exact (count_nodup (placeAll_nodup hp) _).1
  · rw [hcnt]
    intro h0
    have hn := (count_nodup (placeAll_nodup hp) _).2 h0
    have hq := placeAll_at hp i hn
    have hql := placeAll_len hp
    rw [List.length_replicate] at hql
    rw [List.getElem?_replicate, if_pos hi] at hq
    rcases (doneB_iff hql).1 hd i hi with h1 | h1
    · simpa [openB] using h1
    · rw [List.getElem?_eq_getElem (by omega), h1] at hq
      simp at hq
end Go.Proofs.YtnhemokmgpelaaaDoor
