/- Chapter 50: contracts: the law's comparisons of cells and of numbers. No condition. Chapter 50: contract: the law's comparison of numbers. No condition. Chapter 50, plain: the calls that Serial returns. No condition. Chapter 50, the reference: plain: place, isOrder; they say what the program's complete says. No condition. Chapter 50, the reference: contracts: place, same, isOrder. No condition. Chapter 50, the reference: contract: step. Condition: the table of Itoa lies as the program lays it. Chapter 50, the reference: plain: its steps are those of the program's Legal and search. No condition. Chapter 50, the reference: contract: Legal; the walk of LinearLegals. Condition: the table of Itoa lies as the program lays it. Chapter 50, the reference: contract: search. Condition: the table of Itoa lies as the program lays it. Chapter 50, the reference: contracts: Find, Serial. Condition: the table of Itoa lies as the program lays it. Chapter 50: contract: the law's comparison of calls, for calls that are the same. No condition. Chapter 50: the walk of LinearSearches. Condition: the table of Itoa lies as the program lays it. -/
import Derived.Test.YtnhemokmgpelaaaGreatDoorCsm
import Derived.Test.YtnhemokmgpelaaaGreatDoorRowi
import Derived.Test.YtnhemokmgpelaaaGreatDoorInl
import Derived.Test.YtnhemokmgpelaaaGreatDoorMLok
import Derived.Test.YtnhemokmgpelaaaGreatDoorMLinL
import Derived.Deep.DeepCutAuto
import Derived.Test.YtnhemokmgpelaaaGreatDoorMRnt
import Derived.Laws.CopyOwn
import Derived.Test.YtnhemokmgpelaaaGreatDoorAppL
namespace Go.Proofs.YtnhemokmgpelaaaGreatDoor
set_option linter.unusedVariables false
set_option linter.unusedSimpArgs false
open Go.RowKit
set_option maxHeartbeats 4000000 in
set_option maxRecDepth 100000 in
theorem lcells_any (a : Option Addr) (c : Nat) (l : List Ce) (a2 : Option Addr) (c2 : Nat) (m : List Ce) (w : World) (h : SlIs ceC 4 w a l.length l) (hm : SlIs ceC 4 w a2 m.length m) (hl : l.length ≤ 3518437208780) (hml : m.length ≤ 3518437208780) :
    Calls Tryz.prog 27 #[.slice a l.length c, .slice a2 m.length c2] w fun e w' => e = .returned (.bool (sameB ceE l m)) ∧ Chg [] w w' := by
  have H := Lib.hid h
  have HM := Lib.hid hm
  obtain ⟨R, hR⟩ : ∃ R, R = sameB ceE l m := ⟨_, rfl⟩
  rw [← hR]
  have HR := Lib.hid hR
  clear h hm hR
  by_cases hlen : l.length = m.length
  case neg =>
    have HE : Hid (R = false) := Lib.hid (by rw [HR.out]; unfold sameB; rw [decide_eq_false hlen]; rfl)
    have hlen' : ((l.length : Int) != (m.length : Int)) = true := bne_iff_ne.2 (by omega)
    go_enter Tryz.func27, Tryz.ntmps27
    go_wp2_with fail
    go_ret
    exact ⟨by rw [HE.out]; rfl, Chg.refl _ _⟩
  have hlen' : ((l.length : Int) != (m.length : Int)) = false := by simp [hlen]
  have HLen := Lib.hid hlen
  clear hlen
  go_enter Tryz.func27, Tryz.ntmps27
  go_wp2_with fail
  go_loopw [5] (fun i wr => ∃ k : Nat, i = .int .i64 k ∧ k ≤ l.length ∧ Hid (sameTo ceE l m k = true) ∧ Hid (Chg [] w wr)) (fun i _ => l.length - (intOf i).toNat)
  case atStart => exact ⟨0, rfl, Nat.zero_le _, Lib.hid rfl, Lib.hid (Chg.refl _ _)⟩
  case round =>
    obtain ⟨k, rfl, hkl, HS, D⟩ := hrel
    by_cases hk : k < l.length
    · have hk2 : k < m.length := by have := HLen.out; omega
      obtain ⟨g1, o1, rfl, -, hbr1, hcc1⟩ := H.out.elem D.out k hk
      obtain ⟨g2, o2, rfl, -, hbr2, hcc2⟩ := HM.out.elem D.out k hk2
      have hst := sameTo_step (e := ceE) hk hk2
      rw [HS.out, Bool.true_and] at hst
      have hno := same_no (e := ceE) hk hk2
      generalize l[k] = x at *
      generalize m[k] = y at *
      have d0 := hcc1 0 (by omega)
      have d1 := hcc1 1 (by omega)
      have d2 := hcc1 2 (by omega)
      have d3 := hcc1 3 (by omega)
      have e0 := hcc2 0 (by omega)
      have e1 := hcc2 1 (by omega)
      have e2 := hcc2 2 (by omega)
      have e3 := hcc2 3 (by omega)
      simp only [ceC, List.getElem?_cons_zero, List.getElem?_cons_succ, Nat.add_zero] at d0 d1 d2 d3 e0 e1 e2 e3
      have hk0 : (0 : Int) ≤ (k : Int) := by omega
      have hk1 : (k : Int) < (l.length : Int) := by omega
      have hk2' : (k : Int) < (m.length : Int) := by omega
      have qn := fun w => neqCe x y w
      have HR0 := Lib.hid HR.out
      unfold ceV at qn
      clear hcc1 hcc2
      cases hq : ceE x y
      · rw [hq] at qn
        have HE : Hid (R = false) := Lib.hid (by rw [HR0.out]; exact hno hq)
        clear hst hno
        go_wp2_with fail
        go_quiet (fail)
        go_wp2_with fail
        go_ret
        exact ⟨by rw [HE.out]; rfl, D.out.drewN _⟩
      · rw [hq] at qn hst
        have HST := Lib.hid hst
        clear hst hno
        go_wp2_with fail
        go_quiet (fail)
        go_wp2_with fail
        exact ⟨⟨k + 1, by go_num, by omega, HST, Lib.hid (D.out.drewN _)⟩, by simp [intOf]; omega⟩
    · have hks : k = l.length := by omega
      subst hks
      have HE : Hid (R = true) := Lib.hid (by rw [HR.out]; unfold sameB; rw [decide_eq_true HLen.out, HS.out]; rfl)
      go_wp2_with fail
      go_ret
      exact ⟨by rw [HE.out]; rfl, D.out⟩
end Go.Proofs.YtnhemokmgpelaaaGreatDoor
namespace Go.Proofs.YtnhemokmgpelaaaGreatDoor
set_option linter.unusedVariables false
set_option linter.unusedSimpArgs false
open Go.RowKit
def inE (a b : Int) : Bool := a == b
set_option maxHeartbeats 4000000 in
set_option maxRecDepth 100000 in
theorem lints_any (a : Option Addr) (c : Nat) (l : List Int) (a2 : Option Addr) (c2 : Nat) (m : List Int) (w : World) (h : SlIs icI 1 w a l.length l) (hm : SlIs icI 1 w a2 m.length m) (hl : l.length ≤ 3518437208780) (hml : m.length ≤ 3518437208780) :
    Calls Tryz.prog 11 #[.slice a l.length c, .slice a2 m.length c2] w fun e w' => e = .returned (.bool (sameB inE l m)) ∧ Chg [] w w' := by
  have H := Lib.hid h
  have HM := Lib.hid hm
  obtain ⟨R, hR⟩ : ∃ R, R = sameB inE l m := ⟨_, rfl⟩
  rw [← hR]
  have HR := Lib.hid hR
  clear h hm hR
  by_cases hlen : l.length = m.length
  case neg =>
    have HE : Hid (R = false) := Lib.hid (by rw [HR.out]; unfold sameB; rw [decide_eq_false hlen]; rfl)
    have hlen' : ((l.length : Int) != (m.length : Int)) = true := bne_iff_ne.2 (by omega)
    go_enter Tryz.func11, Tryz.ntmps11
    go_wp2_with fail
    go_ret
    exact ⟨by rw [HE.out]; rfl, Chg.refl _ _⟩
  have hlen' : ((l.length : Int) != (m.length : Int)) = false := by simp [hlen]
  have HLen := Lib.hid hlen
  clear hlen
  go_enter Tryz.func11, Tryz.ntmps11
  go_wp2_with fail
  go_loopw [5] (fun i wr => ∃ k : Nat, i = .int .i64 k ∧ k ≤ l.length ∧ Hid (sameTo inE l m k = true) ∧ Hid (Chg [] w wr)) (fun i _ => l.length - (intOf i).toNat)
  case atStart => exact ⟨0, rfl, Nat.zero_le _, Lib.hid rfl, Lib.hid (Chg.refl _ _)⟩
  case round =>
    obtain ⟨k, rfl, hkl, HS, D⟩ := hrel
    by_cases hk : k < l.length
    · have hk2 : k < m.length := by have := HLen.out; omega
      obtain ⟨g1, o1, rfl, -, hbr1, hcc1⟩ := H.out.elem D.out k hk
      obtain ⟨g2, o2, rfl, -, hbr2, hcc2⟩ := HM.out.elem D.out k hk2
      have hst := sameTo_step (e := inE) hk hk2
      rw [HS.out, Bool.true_and] at hst
      have hno := same_no (e := inE) hk hk2
      generalize l[k] = x at *
      generalize m[k] = y at *
      have d0 := hcc1 0 (by omega)
      have e0 := hcc2 0 (by omega)
      simp only [icI, List.getElem?_cons_zero, Nat.add_zero, Nat.mul_one] at d0 e0
      have hk0 : (0 : Int) ≤ (k : Int) := by omega
      have hk1 : (k : Int) < (l.length : Int) := by omega
      have hk2' : (k : Int) < (m.length : Int) := by omega
      have HR0 := Lib.hid HR.out
      clear hcc1 hcc2
      cases hq : inE x y
      · have HE : Hid (R = false) := Lib.hid (by rw [HR0.out]; exact hno hq)
        have hxy : (x != y) = true := by unfold inE at hq; rw [bne, hq]; rfl
        clear hst hno hq
        go_wp2_with fail
        go_quiet (fail)
        go_wp2_with fail
        go_ret
        exact ⟨by rw [HE.out]; rfl, D.out.drewN _⟩
      · rw [hq] at hst
        have HST := Lib.hid hst
        have hxy : (x != y) = false := by unfold inE at hq; rw [bne, hq]; rfl
        clear hst hno hq
        go_wp2_with fail
        go_quiet (fail)
        go_wp2_with fail
        exact ⟨⟨k + 1, by go_num, by omega, HST, Lib.hid (D.out.drewN _)⟩, by simp [intOf]; omega⟩
    · have hks : k = l.length := by omega
      subst hks
      have HE : Hid (R = true) := Lib.hid (by rw [HR.out]; unfold sameB; rw [decide_eq_true HLen.out, HS.out]; rfl)
      go_wp2_with fail
      go_ret
      exact ⟨by rw [HE.out]; rfl, D.out⟩
end Go.Proofs.YtnhemokmgpelaaaGreatDoor
namespace Go.Proofs.YtnhemokmgpelaaaGreatDoor
set_option linter.unusedVariables false
set_option linter.unusedSimpArgs false
open Go.RowKit
theorem ansP_o (st : List Ce) (x : PCl) : (ansP st x).o = x.o ∧ (ansP st x).from_ = x.from_ ∧ (ansP st x).to_ = x.to_ := by
  unfold ansP; split <;> exact ⟨rfl, rfl, rfl⟩
/-- Performed one after the other, the calls have their answers. -/
def SerOk : List PCl → List Ce → Prop
  | [], _ => True
  | z :: r, st => (doZ st z.o).1 = 0 ∧ (doZ st z.o).2.2.1 = z.err ∧ (doZ st z.o).2.2.2 = z.ans ∧ SerOk r (doZ st z.o).2.1
theorem serOk_of {l : List PCl} : ∀ {o : List Int} {st : List Ce}, LegOk l o st → SerOk (serGo l o st) st := by
  intro o
  induction o with
  | nil => intros; trivial
  | cons k r ih =>
    rintro st ⟨n, x, rfl, hx, h1, h2, h3⟩
    rw [serGo, Int.toNat_natCast, hx]
    refine ⟨by rw [(ansP_o st x).1]; exact h1, ?_, ?_, by rw [(ansP_o st x).1]; exact ih h3⟩
    · rw [(ansP_o st x).1]
      unfold ansP
      cases ho : openB x
      · exact (h2 ho).1
      · rfl
    · rw [(ansP_o st x).1]
      unfold ansP
      cases ho : openB x
      · exact (h2 ho).2
      · rfl
theorem serOk_drop {R : List PCl} {k : Nat} {st : List Ce} (hk : k < R.length) (h : SerOk (R.drop k) st) : (doZ st R[k].o).1 = 0 ∧ (doZ st R[k].o).2.2.1 = R[k].err ∧ (doZ st R[k].o).2.2.2 = R[k].ans ∧ SerOk (R.drop (k + 1)) (doZ st R[k].o).2.1 := by
  rw [List.drop_eq_getElem_cons hk] at h
  exact h
theorem serGo_len {l : List PCl} : ∀ {o : List Int} {st : List Ce}, LegOk l o st → (serGo l o st).length = o.length := by
  intro o
  induction o with
  | nil => intros; rfl
  | cons k r ih =>
    rintro st ⟨n, x, rfl, hx, h1, h2, h3⟩
    rw [serGo, Int.toNat_natCast, hx]
    simp [ih h3]
def idOf (l : List PCl) (k : Int) : ByteArray := match l[k.toNat]? with | some x => x.o.id | none => ⟨#[]⟩
theorem serGo_ids {l : List PCl} : ∀ {o : List Int} {st : List Ce}, LegOk l o st → (serGo l o st).map (fun z => z.o.id) = o.map (idOf l) := by
  intro o
  induction o with
  | nil => intros; rfl
  | cons k r ih =>
    rintro st ⟨n, x, rfl, hx, h1, h2, h3⟩
    rw [serGo, Int.toNat_natCast, hx]
    simp only [List.map_cons, ih h3, (ansP_o st x).1]
    unfold idOf
    rw [Int.toNat_natCast, hx]
theorem serGo_mem {l : List PCl} : ∀ {o : List Int} {st : List Ce}, LegOk l o st → ∀ z ∈ serGo l o st, ∃ x ∈ l, z.o = x.o ∧ z.from_ = x.from_ ∧ z.to_ = x.to_ := by
  intro o
  induction o with
  | nil => intro st h z hz; cases hz
  | cons k r ih =>
    rintro st ⟨n, x, rfl, hx, h1, h2, h3⟩ z hz
    rw [serGo, Int.toNat_natCast, hx] at hz
    rcases List.mem_cons.1 hz with rfl | hz
    · exact ⟨x, List.mem_of_getElem? hx, ansP_o st x⟩
    · exact ih h3 z hz
/-- Identifiers of a valid history are different. -/
theorem ids_inj {l : List PCl} (h : hcheckZ l = 0) {i j : Nat} (hi : i < l.length) (hj : j < l.length) (e : l[i].o.id = l[j].o.id) : i = j := by
  have key : ∀ i j (hi : i < l.length) (hj : j < l.length), i < j → l[i].o.id ≠ l[j].o.id := by
    intro i j hi hj hij e
    have h1 := (hcheck_zero h).2 j hj
    unfold chkAt at h1
    rw [List.getElem?_eq_getElem hj, List.getElem?_eq_getElem (by omega)] at h1
    simp only at h1
    unfold chk1 at h1
    split at h1
    · simp at h1
    · split at h1
      · simp at h1
      · rename_i hp
        apply hp
        rw [List.any_eq_true]
        refine ⟨l[i], ?_, by simp [e]⟩
        rw [List.mem_take_iff_getElem]
        exact ⟨i, by omega, rfl⟩
  rcases Nat.lt_trichotomy i j with h1 | h1 | h1
  · exact absurd e (key i j hi hj h1)
  · exact h1
  · exact absurd e.symm (key j i hj hi h1)
theorem placeAll_nodup {r : List Int} : ∀ {pl q : List Bool}, placeAll pl r = some q → r.Nodup := by
  induction r with
  | nil => intros; exact List.nodup_nil
  | cons k r ih =>
    intro pl q h
    unfold placeAll at h
    split at h
    · simp at h
    · rename_i hk
      refine List.nodup_cons.2 ⟨fun hm => ?_, ih h⟩
      have := (placeAll_fresh h k hm).2
      rw [List.getElem?_set, if_pos rfl] at this
      split at this <;> simp at this
def cntTo (R : List PCl) (s : ByteArray) (k : Nat) : Nat := (R.take k).countP (fun z => z.o.id == s)
theorem cntTo_step {R : List PCl} {s : ByteArray} {k : Nat} (hk : k < R.length) : cntTo R s (k + 1) = cntTo R s k + if (R[k].o.id == s) = true then 1 else 0 := by
  unfold cntTo
  rw [List.take_succ_eq_append_getElem hk, List.countP_append, List.countP_cons, List.countP_nil, Nat.zero_add]
theorem cntTo_le {R : List PCl} {s : ByteArray} {k : Nat} : cntTo R s k ≤ k := by
  unfold cntTo
  refine Nat.le_trans List.countP_le_length ?_
  rw [List.length_take]; omega
theorem count_nodup {o : List Int} (h : o.Nodup) (k : Int) : o.countP (fun j => j == k) ≤ 1 ∧ (o.countP (fun j => j == k) = 0 → k ∉ o) := by
  induction o with
  | nil => exact ⟨by simp, fun _ => by simp⟩
  | cons j r ih =>
    obtain ⟨h1, h2⟩ := List.nodup_cons.1 h
    obtain ⟨i1, i2⟩ := ih h2
    rw [List.countP_cons]
    by_cases e : j = k
    · subst e
      have : r.countP (fun i => i == j) = 0 := by
        rw [List.countP_eq_zero]
        intro i hi hij
        have : i = j := by simpa using hij
        exact h1 (this ▸ hi)
      rw [this]
      simp
    · have hjk : (j == k) = false := by simpa using e
      rw [hjk]
      simp only [Bool.false_eq_true, if_false, Nat.add_zero]
      exact ⟨i1, fun h0 => by simp; exact ⟨fun h => e h.symm, i2 h0⟩⟩
/-- Each call of the history is in what Serial returns, once, as it was. -/
theorem ser_count {l : List PCl} {o : List Int} {q : List Bool} {st : List Ce} (hz : hcheckZ l = 0) (hp : placeAll (List.replicate l.length false) o = some q) (hd : doneB l q = true) (hL : LegOk l o st) {i : Nat} (hi : i < l.length) :
    (∀ z ∈ serGo l o st, z.o.id = l[i].o.id → z.from_ = l[i].from_ ∧ z.to_ = l[i].to_) ∧ cntTo (serGo l o st) l[i].o.id (serGo l o st).length ≤ 1 ∧ (cntTo (serGo l o st) l[i].o.id (serGo l o st).length = 0 → l[i].to_ = -1) := by
  have hcnt : cntTo (serGo l o st) l[i].o.id (serGo l o st).length = o.countP (fun j => j == (i : Int)) := by
    unfold cntTo
    rw [List.take_of_length_le (Nat.le_refl _)]
    have e1 : (serGo l o st).countP (fun z => z.o.id == l[i].o.id) = ((serGo l o st).map (fun z => z.o.id)).countP (fun s => s == l[i].o.id) := by rw [List.countP_map]; rfl
    rw [e1, serGo_ids hL, List.countP_map]
    refine List.countP_congr (fun k hk => ?_)
    obtain ⟨k0, k1⟩ := placeAll_fresh hp k hk
    have hkl : k.toNat < l.length := by
      have := (List.getElem?_eq_some_iff.1 k1).1
      simpa using this
    have : idOf l k = l[k.toNat].o.id := by unfold idOf; rw [List.getElem?_eq_getElem hkl]
    simp only [Function.comp, this, beq_iff_eq]
    constructor
    · intro e
      have := ids_inj hz hkl hi e
      omega
    · intro e
      subst e
      simp
  refine ⟨fun z hzm e => ?_, ?_, ?_⟩
  · obtain ⟨x, hx, h1, h2, h3⟩ := serGo_mem hL z hzm
    obtain ⟨j, hj, rfl⟩ := List.mem_iff_getElem.1 hx
    rw [h1] at e
    have := ids_inj hz hj hi e
    subst this
    exact ⟨h2, h3⟩
  · rw [hcnt]
    exact (count_nodup (placeAll_nodup hp) _).1
  · rw [hcnt]
    intro h0
    have hn := (count_nodup (placeAll_nodup hp) _).2 h0
    have hq := placeAll_at hp i hn
    have hql := placeAll_len hp
    rw [List.length_replicate] at hql
    rw [List.getElem?_replicate, if_pos hi] at hq
    rcases (doneB_iff hql).1 hd i hi with h1 | h1
    · simpa [openB] using h1
    · rw [List.getElem?_eq_getElem (by omega), h1] at hq
      simp at hq
end Go.Proofs.YtnhemokmgpelaaaGreatDoor
namespace Go.Proofs.YtnhemokmgpelaaaGreatDoor
set_option linter.unusedVariables false
set_option linter.unusedSimpArgs false
open Go.RowKit
def plcGo (i : Int) : List Int → Nat → Int
  | [], _ => -1
  | x :: r, k => if x = i then (k : Int) else plcGo i r (k + 1)
def plcZ (o : List Int) (i : Int) : Int := plcGo i o 0
theorem plcGo_out {i : Int} : ∀ {o : List Int} {k : Nat}, i ∉ o → plcGo i o k = -1 := by
  intro o
  induction o with
  | nil => intros; rfl
  | cons x r ih =>
    intro k h
    rw [plcGo, if_neg (fun e => h (by simp [e]))]
    exact ih (fun hm => h (by simp [hm]))
theorem plcGo_in {i : Int} : ∀ {o : List Int} {k : Nat}, i ∈ o → (k : Int) ≤ plcGo i o k ∧ plcGo i o k < (k : Int) + o.length := by
  intro o
  induction o with
  | nil => intro k h; cases h
  | cons x r ih =>
    intro k h
    rw [plcGo, List.length_cons]
    split
    · omega
    · rename_i hx
      have := ih (k := k + 1) (by
        rcases List.mem_cons.1 h with e | e
        · exact absurd e.symm hx
        · exact e)
      omega
theorem plcGo_app {i : Int} {b : List Int} : ∀ {a : List Int} {k : Nat}, plcGo i (a ++ b) k = if i ∈ a then plcGo i a k else plcGo i b (k + a.length) := by
  intro a
  induction a with
  | nil => intro k; simp
  | cons x r ih =>
    intro k
    rw [List.cons_append, plcGo, plcGo]
    by_cases hx : x = i
    · rw [if_pos hx, if_pos hx, if_pos (by simp [hx])]
    · rw [if_neg hx, if_neg hx, ih]
      by_cases hr : i ∈ r
      · rw [if_pos hr, if_pos (by simp [hr])]
      · rw [if_neg hr, if_neg (by simp [hr, Ne.symm hx]), List.length_cons]
        congr 1
        omega
theorem plcZ_neg {o : List Int} {i : Int} : plcZ o i < 0 ↔ i ∉ o := by
  constructor
  · intro h hm
    have := (plcGo_in (k := 0) hm).1
    unfold plcZ at h
    omega
  · intro h
    unfold plcZ
    rw [plcGo_out h]
    omega
theorem plcZ_at {o : List Int} {k : Nat} (hk : k < o.length) : plcZ o o[k] = (k : Int) ↔ o[k] ∉ o.take k := by
  have e : plcZ o o[k] = if o[k] ∈ o.take k then plcGo o[k] (o.take k) 0 else plcGo o[k] (o.drop k) (0 + (o.take k).length) := by
    have := plcGo_app (i := o[k]) (a := o.take k) (b := o.drop k) (k := 0)
    rw [List.take_append_drop] at this
    exact this
  have hl : (o.take k).length = k := by rw [List.length_take]; omega
  rw [e]
  by_cases h : o[k] ∈ o.take k
  · rw [if_pos h]
    have := (plcGo_in (k := 0) h).2
    rw [hl] at this
    simp only [h, not_true_eq_false, iff_false]
    omega
  · rw [if_neg h, List.drop_eq_getElem_cons hk, plcGo, if_pos rfl, hl]
    simp [h]
theorem plcZ_snoc {o : List Int} {i k : Int} (hi : i ∉ o) : plcZ (o ++ [i]) k = if k ∈ o then plcZ o k else if k = i then (o.length : Int) else -1 := by
  unfold plcZ
  rw [plcGo_app]
  by_cases h : k ∈ o
  · rw [if_pos h, if_pos h]
  · rw [if_neg h, if_neg h, plcGo, plcGo]
    by_cases e : k = i
    · rw [if_pos e.symm, if_pos e]; simp
    · rw [if_neg (Ne.symm e), if_neg e]
/-! isOrder -/
def isoA (l : List PCl) (o : List Int) (k : Nat) : Bool := (List.range k).all (fun j => match o[j]? with | some x => decide (0 ≤ x) && decide (x < l.length) && (plcZ o x == (j : Int)) | none => true)
def isoC (l : List PCl) (o : List Int) (k : Nat) : Bool := (List.range k).all (fun i => match l[i]? with | some x => openB x || decide (0 ≤ plcZ o (i : Int)) | none => true)
def isoB (l : List PCl) (o : List Int) : Bool := isoA l o o.length && isoC l o l.length
theorem isoA_step {l : List PCl} {o : List Int} {k : Nat} (hk : k < o.length) : isoA l o (k + 1) = (isoA l o k && (decide (0 ≤ o[k]) && decide (o[k] < l.length) && (plcZ o o[k] == (k : Int)))) := by
  unfold isoA
  rw [List.range_succ, List.all_append, List.all_cons, List.all_nil, Bool.and_true, List.getElem?_eq_getElem hk]
theorem isoA_no {l : List PCl} {o : List Int} {k : Nat} (hk : k < o.length) (h : (decide (0 ≤ o[k]) && decide (o[k] < l.length) && (plcZ o o[k] == (k : Int))) = false) : isoB l o = false := by
  have : isoA l o o.length = false := by
    unfold isoA
    rw [List.all_eq_false]
    exact ⟨k, by simpa using hk, by rw [List.getElem?_eq_getElem hk]; simp only; rw [h]; simp⟩
  unfold isoB
  rw [this]; rfl
theorem isoC_step {l : List PCl} {o : List Int} {k : Nat} (hk : k < l.length) : isoC l o (k + 1) = (isoC l o k && (openB l[k] || decide (0 ≤ plcZ o (k : Int)))) := by
  unfold isoC
  rw [List.range_succ, List.all_append, List.all_cons, List.all_nil, Bool.and_true, List.getElem?_eq_getElem hk]
theorem isoC_no {l : List PCl} {o : List Int} {k : Nat} (hk : k < l.length) (h : (openB l[k] || decide (0 ≤ plcZ o (k : Int))) = false) : isoB l o = false := by
  have : isoC l o l.length = false := by
    unfold isoC
    rw [List.all_eq_false]
    exact ⟨k, by simpa using hk, by rw [List.getElem?_eq_getElem hk]; simp only; rw [h]; simp⟩
  unfold isoB
  rw [this]; simp
theorem isoA_iff {l : List PCl} {o : List Int} : isoA l o o.length = true ↔ o.Nodup ∧ ∀ x ∈ o, 0 ≤ x ∧ x < l.length := by
  have key : isoA l o o.length = true ↔ ∀ k (hk : k < o.length), 0 ≤ o[k] ∧ o[k] < l.length ∧ o[k] ∉ o.take k := by
    unfold isoA
    rw [List.all_eq_true]
    constructor
    · intro h k hk
      have := h k (by simpa using hk)
      rw [List.getElem?_eq_getElem hk] at this
      simp only [Bool.and_eq_true, decide_eq_true_eq, beq_iff_eq] at this
      exact ⟨this.1.1, this.1.2, (plcZ_at hk).1 this.2⟩
    · intro h j hj
      have hj : j < o.length := by simpa using hj
      rw [List.getElem?_eq_getElem hj]
      obtain ⟨h1, h2, h3⟩ := h j hj
      simp only [Bool.and_eq_true, decide_eq_true_eq, beq_iff_eq]
      exact ⟨⟨h1, h2⟩, (plcZ_at hj).2 h3⟩
  rw [key]
  constructor
  · intro h
    refine ⟨?_, fun x hx => ?_⟩
    · rw [List.nodup_iff_pairwise_ne, List.pairwise_iff_getElem]
      intro i j hi hj hij e
      exact (h j hj).2.2 (by rw [← e]; exact List.mem_take_iff_getElem.2 ⟨i, by omega, rfl⟩)
    · obtain ⟨k, hk, rfl⟩ := List.mem_iff_getElem.1 hx
      exact ⟨(h k hk).1, (h k hk).2.1⟩
  · rintro ⟨h1, h2⟩ k hk
    refine ⟨(h2 _ (List.getElem_mem hk)).1, (h2 _ (List.getElem_mem hk)).2, fun hm => ?_⟩
    obtain ⟨i, hi, e⟩ := List.mem_take_iff_getElem.1 hm
    rw [List.nodup_iff_pairwise_ne, List.pairwise_iff_getElem] at h1
    exact h1 i k (by omega) hk (by omega) e
theorem placeAll_iff {o : List Int} : ∀ {pl : List Bool}, (∃ q, placeAll pl o = some q) ↔ o.Nodup ∧ ∀ x ∈ o, 0 ≤ x ∧ x < pl.length ∧ pl[x.toNat]? = some false := by
  induction o with
  | nil => intro pl; simp [placeAll]
  | cons m r ih =>
    intro pl
    rw [placeAll]
    by_cases hm : m < 0 ∨ (pl.length : Int) ≤ m ∨ pl[m.toNat]? = some true
    · rw [if_pos hm]
      constructor
      · rintro ⟨q, h⟩; cases h
      · rintro ⟨-, h⟩
        obtain ⟨h1, h2, h3⟩ := h m (by simp)
        rcases hm with hm | hm | hm
        · omega
        · omega
        · rw [h3] at hm; cases hm
    · rw [if_neg hm, ih]
      simp only [not_or] at hm
      obtain ⟨m1, m2, m3⟩ := hm
      have ml : m.toNat < pl.length := by omega
      have mf : pl[m.toNat]? = some false := by
        rw [List.getElem?_eq_getElem ml] at m3 ⊢
        cases h : pl[m.toNat] <;> simp_all
      have hset : ∀ x : Int, 0 ≤ x → x < pl.length → ((pl.set m.toNat true)[x.toNat]? = some false ↔ x ≠ m ∧ pl[x.toNat]? = some false) := by
        intro x h1 h2
        rw [List.getElem?_set]
        by_cases e : m.toNat = x.toNat
        · have : x = m := by omega
          subst this
          simp [ml]
        · rw [if_neg e]
          have : x ≠ m := fun e2 => e (by rw [e2])
          simp [this]
      constructor
      · rintro ⟨n1, n2⟩
        have hmr : m ∉ r := fun hm => by
          obtain ⟨a1, a2, a3⟩ := n2 m hm
          rw [List.length_set] at a2
          exact ((hset m a1 a2).1 a3).1 rfl
        refine ⟨List.nodup_cons.2 ⟨hmr, n1⟩, fun x hx => ?_⟩
        rcases List.mem_cons.1 hx with rfl | hx
        · exact ⟨by omega, by omega, mf⟩
        · obtain ⟨a1, a2, a3⟩ := n2 x hx
          rw [List.length_set] at a2
          exact ⟨a1, a2, ((hset x a1 a2).1 a3).2⟩
      · rintro ⟨n1, n2⟩
        obtain ⟨hmr, n1⟩ := List.nodup_cons.1 n1
        refine ⟨n1, fun x hx => ?_⟩
        obtain ⟨a1, a2, a3⟩ := n2 x (by simp [hx])
        rw [List.length_set]
        exact ⟨a1, a2, (hset x a1 a2).2 ⟨fun e => hmr (e ▸ hx), a3⟩⟩
/-- The marks of an order. -/
def plM (n : Nat) (o : List Int) : List Bool := (List.range n).map (fun i : Nat => decide ((i : Int) ∈ o))
theorem plM_len (n : Nat) (o : List Int) : (plM n o).length = n := by simp [plM]
theorem plM_at {n : Nat} {o : List Int} {j : Nat} (hj : j < n) : (plM n o)[j]? = some (decide ((j : Int) ∈ o)) := by
  unfold plM
  rw [List.getElem?_map, List.getElem?_range hj]; rfl
theorem plM_nil (n : Nat) : plM n [] = List.replicate n false := by
  refine List.ext_getElem? (fun j => ?_)
  by_cases hj : j < n
  · rw [plM_at hj, List.getElem?_replicate, if_pos hj]; simp
  · rw [List.getElem?_eq_none (by rw [plM_len]; omega), List.getElem?_eq_none (by simp; omega)]
theorem plM_snoc {n k : Nat} {o : List Int} (hk : k < n) : plM n (o ++ [(k : Int)]) = (plM n o).set k true := by
  refine List.ext_getElem? (fun j => ?_)
  by_cases hj : j < n
  · rw [plM_at hj, List.getElem?_set, plM_at hj, plM_len]
    by_cases e : k = j
    · subst e; simp [hk]
    · rw [if_neg e]
      have : (j : Int) ≠ (k : Int) := by omega
      simp [this]
  · rw [List.getElem?_eq_none (by rw [plM_len]; omega), List.getElem?_eq_none (by rw [List.length_set, plM_len]; omega)]
theorem placeAll_plM {n : Nat} : ∀ {r o : List Int} {q : List Bool}, placeAll (plM n o) r = some q → q = plM n (o ++ r) := by
  intro r
  induction r with
  | nil => intro o q h; simp only [placeAll, Option.some.injEq] at h; rw [← h, List.append_nil]
  | cons m r ih =>
    intro o q h
    rw [placeAll] at h
    split at h
    · cases h
    · rename_i hm
      simp only [not_or] at hm
      rw [plM_len] at hm
      obtain ⟨k, rfl⟩ : ∃ k : Nat, m = k := ⟨m.toNat, by omega⟩
      rw [Int.toNat_natCast, ← plM_snoc (by omega)] at h
      have := ih h
      rw [this]
      simp
/-- An order so far: each index once, in range. -/
def OrdOk (n : Nat) (o : List Int) : Prop := o.Nodup ∧ ∀ x ∈ o, 0 ≤ x ∧ x < n
theorem ord_place {n : Nat} {o : List Int} (h : OrdOk n o) : placeAll (List.replicate n false) o = some (plM n o) := by
  obtain ⟨q, hq⟩ := placeAll_iff.2 (show o.Nodup ∧ ∀ x ∈ o, 0 ≤ x ∧ x < (List.replicate n false).length ∧ (List.replicate n false)[x.toNat]? = some false from ⟨h.1, fun x hx => by
    obtain ⟨h1, h2⟩ := h.2 x hx
    refine ⟨h1, by rw [List.length_replicate]; exact h2, ?_⟩
    rw [List.getElem?_replicate, if_pos (by omega)]⟩)
  have e := hq
  rw [← plM_nil] at e
  have := placeAll_plM e
  rw [List.nil_append] at this
  rw [hq, this]
theorem isoC_done {l : List PCl} {o : List Int} : isoC l o l.length = doneB l (plM l.length o) := by
  unfold isoC doneB doneTo
  have h : ∀ i ∈ List.range l.length, (match l[i]? with | some x => openB x || decide (0 ≤ plcZ o (i : Int)) | none => true) = (match l[i]?, (plM l.length o)[i]? with | some x, some b => openB x || b | _, _ => true) := by
    intro i hi
    have hi : i < l.length := by simpa using hi
    rw [List.getElem?_eq_getElem hi, plM_at hi]
    simp only
    congr 1
    have := plcZ_neg (o := o) (i := (i : Int))
    by_cases hm : (i : Int) ∈ o
    · rw [decide_eq_true hm]
      refine decide_eq_true ?_
      have := mt this.1 (by simpa using hm)
      omega
    · rw [decide_eq_false hm]
      refine decide_eq_false ?_
      have := this.2 hm
      omega
  rw [Bool.eq_iff_iff, List.all_eq_true, List.all_eq_true]
  constructor
  · intro g i hi; exact (h i hi).symm.trans (g i hi)
  · intro g i hi; exact (h i hi).trans (g i hi)
theorem iso_ord {l : List PCl} {o : List Int} (h : OrdOk l.length o) : isoB l o = doneB l (plM l.length o) := by
  unfold isoB
  rw [isoA_iff.2 ⟨h.1, fun x hx => by have := h.2 x hx; exact ⟨this.1, by omega⟩⟩, isoC_done]
  simp
theorem iso_eq {l : List PCl} {o : List Int} : isoB l o = completeB l o := by
  by_cases h : OrdOk l.length o
  · rw [iso_ord h]
    unfold completeB
    rw [ord_place h]
  · have h1 : isoA l o o.length = false := by
      refine Bool.eq_false_iff.2 (fun e => h ?_)
      have := isoA_iff.1 e
      exact ⟨this.1, fun x hx => by have := this.2 x hx; exact ⟨this.1, by omega⟩⟩
    have h2 : placeAll (List.replicate l.length false) o = none := by
      cases hp : placeAll (List.replicate l.length false) o with
      | none => rfl
      | some q =>
        have := placeAll_iff.1 ⟨q, hp⟩
        exact absurd ⟨this.1, fun x hx => by have := this.2 x hx; rw [List.length_replicate] at this; exact ⟨this.1, by omega⟩⟩ h
    unfold isoB completeB
    rw [h1, h2]
    rfl
end Go.Proofs.YtnhemokmgpelaaaGreatDoor
namespace Go.Proofs.YtnhemokmgpelaaaGreatDoor
set_option linter.unusedVariables false
set_option linter.unusedSimpArgs false
open Go.RowKit
variable {w : World} {la : Option Addr} {lc : Nat} {l : List Cl} {oa : Option Addr} {oc : Nat} {o : List Int}
set_option maxHeartbeats 4000000 in
set_option maxRecDepth 100000 in
theorem rplace_any (h : InIs icI 1 w oa oc o) (hl : o.length ≤ 1099511627776000) (i : Int) : Calls Tryz.prog 45 #[.slice oa o.length oc, .int .i64 i] w fun e w' => e = .returned (.int .i64 (plcZ o i)) ∧ Chg [] w w' := by
  have H := Lib.hid h
  have hl' : (o.length : Int) ≤ 1099511627776000 := by omega
  obtain ⟨R, hR⟩ : ∃ R, R = plcZ o i := ⟨_, rfl⟩
  rw [← hR]
  have HR := Lib.hid hR
  clear h hR
  go_enter Tryz.func45, Tryz.ntmps45
  go_wp2_with fail
  go_loopw [5] (fun u wr => ∃ k : Nat, u = .int .i64 k ∧ k ≤ o.length ∧ Hid (R = plcGo i (o.drop k) k) ∧ Hid (Chg [] w wr)) (fun u _ => o.length - (intOf u).toNat)
  case atStart => exact ⟨0, rfl, Nat.zero_le _, Lib.hid HR.out, Lib.hid (Chg.refl _ _)⟩
  case round =>
    obtain ⟨k, rfl, hk, HS, D⟩ := hrel
    have hk0 : (0 : Int) ≤ (k : Int) := by omega
    by_cases hko : k < o.length
    · have hko' : (k : Int) < (o.length : Int) := by omega
      obtain ⟨b1, o1, rfl, -, -, hc1⟩ := H.out.1.elem D.out k hko
      have u1 := hc1 0 (by omega)
      simp only [icI, List.getElem?_cons_zero, Nat.add_zero, Nat.mul_one] at u1
      have hs := HS.out
      rw [List.drop_eq_getElem_cons hko, plcGo] at hs
      generalize o[k] = x at *
      clear hc1
      by_cases hx : x = i
      · rw [if_pos hx] at hs
        have HE := Lib.hid hs
        have hxb : (x == i) = true := by simp [hx]
        clear hs hx
        go_wp2_with fail
        go_ret
        exact ⟨retI HE.out.symm, D.out⟩
      · rw [if_neg hx] at hs
        have HE := Lib.hid hs
        have hxb : (x == i) = false := by simp [hx]
        clear hs hx
        go_wp2_with fail
        exact ⟨⟨k + 1, by go_num, by omega, HE, D⟩, by simp [intOf]; omega⟩
    · have hke : k = o.length := by omega
      have HE := Lib.hid (show R = -1 by rw [HS.out, hke, List.drop_length]; rfl)
      clear hke
      go_wp2_with fail
      go_ret
      exact ⟨retI HE.out.symm, D.out⟩
set_option maxHeartbeats 4000000 in
set_option maxRecDepth 100000 in
theorem rsamea_any (e1 : Int) (a1 : Option Addr) (c1 : Nat) (v1 : List Ce) (e2 : Int) (a2 : Option Addr) (c2 : Nat) (v2 : List Ce) (w : World) (h1 : InIs ceC 4 w a1 c1 v1) (h2 : InIs ceC 4 w a2 c2 v2) (g1 : v1.length ≤ 3518437208780) (g2 : v2.length ≤ 3518437208780) :
    Calls Tryz.prog 51 #[.agg #[.int .i64 e1, .slice a1 v1.length c1], .agg #[.int .i64 e2, .slice a2 v2.length c2]] w fun e w' => e = .returned (.bool (e1 == e2 && sameB ceE v1 v2)) ∧ Chg [] w w' := by
  obtain ⟨W1, hW1⟩ : ∃ W1, W1 = (w.alloc (.cells #[.int .i64 e1, .slice a1 v1.length c1] 38)).alloc (.cells #[.int .i64 e2, .slice a2 v2.length c2] 38) := ⟨_, rfl⟩
  have C1 := Lib.hid (show Chg [] w W1 by rw [hW1]; exact ((Chg.refl [] w).alloc _).alloc _)
  have B1 := Lib.hid (show W1.heap[w.heap.size]? = some (.cells #[.int .i64 e1, .slice a1 v1.length c1] 38 (0, 0)) by rw [hW1]; exact blk_alloc (heap_alloc_new w _))
  have B2 := Lib.hid (show W1.heap[w.heap.size + 1]? = some (.cells #[.int .i64 e2, .slice a2 v2.length c2] 38 (0, 0)) by have := heap_alloc_new (w.alloc (.cells #[.int .i64 e1, .slice a1 v1.length c1] 38)) (.cells #[.int .i64 e2, .slice a2 v2.length c2] 38); rw [World.size_alloc] at this; rw [hW1]; exact this)
  have HW1 := Lib.hid hW1
  have k1 := blk_cell B1.out
  have k2 := blk_cell B2.out
  have S := Lib.hid (csame_any a1 c1 v1 a2 c2 v2 W1 (h1.kept C1.out).1 (h2.kept C1.out).1 g1 g2)
  have hn1 : (0 : Int) ≤ (v1.length : Int) := by omega
  have hn2 : (0 : Int) ≤ (v2.length : Int) := by omega
  clear hW1 h1 h2
  by_cases he : e1 = e2
  case neg =>
    have heb : (e1 != e2) = true := by simp [he]
    have HE := Lib.hid (show (e1 == e2 && sameB ceE v1 v2) = false by simp [he])
    rw [HE.out]
    clear he
    go_enter Tryz.func51, Tryz.ntmps51
    go_upto_region 1 with fail
    rw [← HW1.out]
    go_wp2_with fail
    go_ret
    exact ⟨rfl, C1.out⟩
  have heb : (e1 != e2) = false := by simp [he]
  by_cases h0 : v1.length = 0 ∨ v2.length = 0
  · have HE := Lib.hid (show (e1 == e2 && sameB ceE v1 v2) = ((v1.length : Int) == (v2.length : Int)) by
      rw [Bool.eq_iff_iff]
      unfold sameB
      simp only [he, beq_self_eq_true, Bool.true_and, Bool.and_eq_true, decide_eq_true_eq, beq_iff_eq]
      constructor
      · rintro ⟨h, -⟩; omega
      · intro h
        have : v1.length = 0 := by omega
        refine ⟨by omega, ?_⟩
        rw [this]; rfl)
    rw [HE.out]
    have q1 : ((v1.length : Int) == 0) = true ∨ (((v1.length : Int) == 0) = false ∧ ((v2.length : Int) == 0) = true) := by
      rcases Nat.eq_zero_or_pos v1.length with h | h
      · exact .inl (by simp [h])
      · refine .inr ⟨beq_eq_false_iff_ne.2 (by omega), ?_⟩
        have : v2.length = 0 := by omega
        simp [this]
    clear he h0 HE
    generalize hB : ((v1.length : Int) == (v2.length : Int)) = B at *
    rcases q1 with q1 | ⟨q1, q2⟩
    all_goals
      go_enter Tryz.func51, Tryz.ntmps51
      go_upto_region 1 with fail
      rw [← HW1.out]
      go_wp2_with fail
      go_ret
      exact ⟨rfl, C1.out⟩
  · have q1 : ((v1.length : Int) == 0) = false := beq_eq_false_iff_ne.2 (by omega)
    have q2 : ((v2.length : Int) == 0) = false := beq_eq_false_iff_ne.2 (by omega)
    have HE := Lib.hid (show (e1 == e2 && sameB ceE v1 v2) = sameB ceE v1 v2 by simp [he])
    rw [HE.out]
    generalize sameB ceE v1 v2 = B at *
    clear he h0 HE
    go_enter Tryz.func51, Tryz.ntmps51
    go_upto_region 1 with fail
    rw [← HW1.out]
    go_wp2_with fail
    refine S.out.mono ?_; rintro e w2 ⟨rfl, hc⟩
    have C2 := Lib.hid (C1.out.thenSame hc)
    clear hc
    go_wp2_with fail
    go_ret
    exact ⟨rfl, C2.out⟩
set_option maxHeartbeats 8000000 in
set_option maxRecDepth 100000 in
theorem riso_any (hl : LIn w la lc l) (h : InIs icI 1 w oa oc o) (hlo : o.length ≤ 1099511627776000) (hll : l.length ≤ 1099511627776) : Calls Tryz.prog 31 #[.slice la l.length lc, .slice oa o.length oc] w fun e w' => e = .returned (.bool (isoB (l.map Cl.p) o)) ∧ Chg [] w w' := by
  have H := Lib.hid h
  have HL := Lib.hid hl
  have hl' : (o.length : Int) ≤ 1099511627776000 := by omega
  have hll' : (l.length : Int) ≤ 1099511627776 := by omega
  have PL := Lib.hid (fun i w' (hc : Chg [] w w') => rplace_any (h.kept hc) hlo i)
  obtain ⟨R, hR⟩ : ∃ R, R = isoB (l.map Cl.p) o := ⟨_, rfl⟩
  rw [← hR]
  have HR := Lib.hid hR
  clear h hR hl
  go_enter Tryz.func31, Tryz.ntmps31
  go_wp2_with fail
  go_loopw [5] (fun u wr => ∃ k : Nat, u = .int .i64 k ∧ k ≤ o.length ∧ Hid (isoA (l.map Cl.p) o k = true) ∧ Hid (Chg [] w wr)) (fun u _ => o.length - (intOf u).toNat)
  case atStart => exact ⟨0, rfl, Nat.zero_le _, Lib.hid rfl, Lib.hid (Chg.refl _ _)⟩
  case round =>
    obtain ⟨k, rfl, hk, HS, D⟩ := hrel
    have hk0 : (0 : Int) ≤ (k : Int) := by omega
    by_cases hko : k < o.length
    · have hko' : (k : Int) < (o.length : Int) := by omega
      obtain ⟨b1, o1, rfl, -, -, hc1⟩ := H.out.1.elem D.out k hko
      have u1 := hc1 0 (by omega)
      simp only [icI, List.getElem?_cons_zero, Nat.add_zero, Nat.mul_one] at u1
      have hst := isoA_step (l := l.map Cl.p) hko
      have hno := Lib.hid (isoA_no (l := l.map Cl.p) hko)
      rw [List.length_map] at hst hno
      generalize o[k] = x at *
      clear hc1
      by_cases hx0 : x < 0
      · have HE := Lib.hid (show R = false by rw [HR.out]; refine hno.out ?_; rw [decide_eq_false (show ¬ 0 ≤ x by omega)]; rfl)
        clear hst
        go_wp2_with fail
        go_ret
        exact ⟨retB HE.out.symm, D.out⟩
      have hx0' : 0 ≤ x := by omega
      by_cases hxl : (l.length : Int) ≤ x
      · have HE := Lib.hid (show R = false by rw [HR.out]; refine hno.out ?_; rw [decide_eq_false (show ¬ x < l.length by omega)]; simp)
        clear hst
        go_wp2_with fail
        go_ret
        exact ⟨retB HE.out.symm, D.out⟩
      have hxl' : x < (l.length : Int) := by omega
      have P := Lib.hid (PL.out x _ D.out)
      rw [decide_eq_true hx0', decide_eq_true hxl', Bool.true_and, Bool.true_and] at hst
      by_cases hp : plcZ o x = (k : Int)
      · rw [hp] at P
        have hpb : ((k : Int) != (k : Int)) = false := by simp
        have HST := Lib.hid (show isoA (l.map Cl.p) o (k + 1) = true by rw [hst, HS.out, hp]; simp)
        clear hst hp
        go_wp2_with (go_at_call 45; (with_reducible refine Calls.mono P.out ?_); rintro e w2 ⟨rfl, hc⟩; have D2 := Lib.hid (D.out.thenSame hc); clear hc)
        exact ⟨⟨k + 1, by go_num, by omega, HST, D2⟩, by simp [intOf]; omega⟩
      · have hpb : (plcZ o x != (k : Int)) = true := by simp [hp]
        have HE := Lib.hid (show R = false by rw [HR.out]; refine hno.out ?_; rw [beq_eq_false_iff_ne.2 hp]; simp)
        clear hst hp
        generalize plcZ o x = z at *
        go_wp2_with (go_at_call 45; (with_reducible refine Calls.mono P.out ?_); rintro e w2 ⟨rfl, hc⟩; have D2 := Lib.hid (D.out.thenSame hc); clear hc)
        go_ret
        exact ⟨retB HE.out.symm, D2.out⟩
    · have hke : k = o.length := by omega
      have HA := Lib.hid (show isoA (l.map Cl.p) o o.length = true by rw [← hke]; exact HS.out)
      have HR2 := Lib.hid (show R = isoC (l.map Cl.p) o l.length by rw [HR.out]; unfold isoB; rw [HA.out, Bool.true_and, List.length_map])
      have W0 := D
      clear hke HS D
      obtain ⟨wa, rfl⟩ : ∃ wa, wa = wr := ⟨wr, rfl⟩
      go_wp2_with fail
      go_loopw [6] (fun u wr => ∃ k : Nat, u = .int .i64 k ∧ k ≤ l.length ∧ Hid (isoC (l.map Cl.p) o k = true) ∧ Hid (Chg [] w wr)) (fun u _ => l.length - (intOf u).toNat)
      case atStart => exact ⟨0, rfl, Nat.zero_le _, Lib.hid rfl, W0⟩
      case round =>
        obtain ⟨j, rfl, hj, HS, D⟩ := hrel
        have hj0 : (0 : Int) ≤ (j : Int) := by omega
        by_cases hjl : j < l.length
        · have hjl' : (j : Int) < (l.length : Int) := by omega
          obtain ⟨b2, o2, rfl, -, hc2⟩ := HL.out.at8 (w' := wr) j hjl
          obtain ⟨x0, x1, x2, x3, x4, x5, x6, x7⟩ := hc2 _ D.out
          have hjm : j < (l.map Cl.p).length := by rw [List.length_map]; exact hjl
          have hst := isoC_step (o := o) hjm
          have hno := Lib.hid (isoC_no (o := o) hjm)
          rw [List.getElem_map] at hst hno
          have P := Lib.hid (PL.out (j : Int) _ D.out)
          generalize l[j] = x at *
          clear hc2 x0 x1 x2 x3 x4 x5 x6 hjm
          by_cases ht : x.to_ = -1
          · have htb : (x.to_ != -1) = false := by simp [ht]
            have HST := Lib.hid (show isoC (l.map Cl.p) o (j + 1) = true by rw [hst, HS.out]; simp [openB, Cl.p, ht])
            clear hst ht
            go_wp2_with fail
            exact ⟨⟨j + 1, by go_num, by omega, HST, D⟩, by simp [intOf]; omega⟩
          have htb : (x.to_ != -1) = true := by simp [ht]
          have hop : openB x.p = false := beq_eq_false_iff_ne.2 ht
          rw [hop, Bool.false_or] at hst hno
          clear hop ht
          by_cases hp : plcZ o (j : Int) < 0
          · have HE := Lib.hid (show R = false by rw [HR.out]; exact hno.out (decide_eq_false (by omega)))
            clear hst
            generalize plcZ o (j : Int) = z at *
            go_wp2_with (go_at_call 45; (with_reducible refine Calls.mono P.out ?_); rintro e w2 ⟨rfl, hc⟩; have D2 := Lib.hid (D.out.thenSame hc); clear hc)
            go_ret
            exact ⟨retB HE.out.symm, D2.out⟩
          · have hp' : 0 ≤ plcZ o (j : Int) := by omega
            have HST := Lib.hid (show isoC (l.map Cl.p) o (j + 1) = true by rw [hst, HS.out, decide_eq_true hp']; rfl)
            clear hst
            generalize plcZ o (j : Int) = z at *
            go_wp2_with (go_at_call 45; (with_reducible refine Calls.mono P.out ?_); rintro e w2 ⟨rfl, hc⟩; have D2 := Lib.hid (D.out.thenSame hc); clear hc)
            exact ⟨⟨j + 1, by go_num, by omega, HST, D2⟩, by simp [intOf]; omega⟩
        · have hje : j = l.length := by omega
          have HE := Lib.hid (show R = true by rw [HR2.out, ← hje]; exact HS.out)
          clear hje
          go_wp2_with fail
          go_ret
          exact ⟨retB HE.out.symm, D.out⟩
end Go.Proofs.YtnhemokmgpelaaaGreatDoor
namespace Go.Proofs.YtnhemokmgpelaaaGreatDoor
set_option linter.unusedVariables false
set_option linter.unusedSimpArgs false
open Go.RowKit
def blkAt (l : List PCl) (o : List Int) (k : Nat) (x : PCl) (i : Nat) : Bool := match l[i]? with | some y => (decide (plcZ o (i : Int) < 0) || decide ((k : Int) < plcZ o (i : Int))) && befB y x | none => false
def blkTo (l : List PCl) (o : List Int) (k : Nat) (x : PCl) (m : Nat) : Bool := (List.range m).any (blkAt l o k x)
theorem blkTo_step {l : List PCl} {o : List Int} {k : Nat} {x : PCl} {i : Nat} (hi : i < l.length) : blkTo l o k x (i + 1) = (blkTo l o k x i || ((decide (plcZ o (i : Int) < 0) || decide ((k : Int) < plcZ o (i : Int))) && befB l[i] x)) := by
  unfold blkTo
  rw [List.range_succ, List.any_append, List.any_cons, List.any_nil, Bool.or_false]
  congr 1
  unfold blkAt
  rw [List.getElem?_eq_getElem hi]
theorem blkTo_yes {l : List PCl} {o : List Int} {k : Nat} {x : PCl} {i : Nat} (hi : i < l.length) (h : ((decide (plcZ o (i : Int) < 0) || decide ((k : Int) < plcZ o (i : Int))) && befB l[i] x) = true) : blkTo l o k x l.length = true := by
  unfold blkTo
  rw [List.any_eq_true]
  refine ⟨i, by simpa using hi, ?_⟩
  unfold blkAt
  rw [List.getElem?_eq_getElem hi]
  exact h
/-- What step returns for the call x. -/
def stepX (l : List PCl) (st : List Ce) (o : List Int) (k : Nat) (x : PCl) : Int × List Ce × Int × List Ce :=
  if blkTo l o k x l.length = true then (11, [], 0, []) else if (openB x || ((doZ st x.o).2.2.1 == x.err && sameB ceE (doZ st x.o).2.2.2 x.ans)) = true then (0, (doZ st x.o).2) else (19, [], 0, [])
variable {w : World} {la : Option Addr} {lc : Nat} {l : List Cl} {oa : Option Addr} {oc : Nat} {o : List Int} {sa : Option Addr} {sc : Nat} {st : List Ce}
set_option maxHeartbeats 8000000 in
set_option maxRecDepth 100000 in
theorem rstep_any (hl : LIn w la lc l) (hg : ∀ x ∈ l, goodCl x) (hga : ∀ x ∈ l, goodL x.ans) (hs : InIs ceC 4 w sa sc st) (hsg : goodL st) (h : InIs icI 1 w oa oc o) (hlo : o.length ≤ 1099511627776000) (h20 : l.length ≤ 20) (ht : TabW w)
    (k n : Nat) (hk : k < o.length) (hok : o[k] = (n : Int)) (hn : n < l.length) (hz : (doZ st l[n].p.o).1 = 0) :
    Calls Tryz.prog 32 #[.slice sa st.length sc, .slice la l.length lc, .slice oa o.length oc, .int .i64 k] w (RDoP w (stepX (l.map Cl.p) st o k l[n].p)) := by
  have H := Lib.hid h
  have HL := Lib.hid hl
  have HS0 := Lib.hid hs
  have HT := Lib.hid ht
  have HG := Lib.hid hg
  have HGA := Lib.hid hga
  have HSG := Lib.hid hsg
  have HZ := Lib.hid hz
  have hl' : (o.length : Int) ≤ 1099511627776000 := by omega
  have hll' : (l.length : Int) ≤ 20 := by omega
  have hk0 : (0 : Int) ≤ (k : Int) := by omega
  have hk1 : (k : Int) < (o.length : Int) := by omega
  have hn0 : (0 : Int) ≤ (n : Int) := by omega
  have hn1 : (n : Int) < (l.length : Int) := by omega
  have PL := Lib.hid (fun i w' (hc : Chg [] w w') => rplace_any (h.kept hc) hlo i)
  obtain ⟨b3, o3, rfl, -, -, hc3⟩ := h.1.elem (Chg.refl [] w) k hk
  have U3 := Lib.hid (fun w' (hc : Chg [] w w') => show w'.cell? ⟨b3, o3 + k, none⟩ = some (.int .i64 (n : Int)) from by
    obtain ⟨b, o', e, -, -, hcc⟩ := h.1.elem hc k hk
    cases e
    have := hcc 0 (by omega)
    rw [hok] at this
    simpa [icI] using this)
  have BF := Lib.hid (fun (i : Nat) w' (hc : Chg [] w w') => rbefore_any (hl.kept hc) (i : Int) (n : Int))
  obtain ⟨R, hR⟩ : ∃ R, R = stepX (l.map Cl.p) st o k l[n].p := ⟨_, rfl⟩
  rw [← hR]
  have HRX := Lib.hid hR
  clear h hR hl hs ht hg hga hsg hz hc3 hok
  go_enter Tryz.func32, Tryz.ntmps32
  go_wp2_with fail
  obtain ⟨W1, hW1⟩ : ∃ W1, W1 = w.alloc (.cells #[.int .i64 0, .slice none 0 0] 38) := ⟨_, rfl⟩
  have C1 := Lib.hid (show Chg [] w W1 by rw [hW1]; exact (Chg.refl [] w).alloc _)
  have B1 := Lib.hid (show W1.heap[w.heap.size]? = some (.cells #[.int .i64 0, .slice none 0 0] 38 (0, 0)) by rw [hW1]; exact heap_alloc_new w _)
  rw [← hW1]
  clear hW1
  go_loopw [11] (fun u wr => ∃ i : Nat, u = .int .i64 i ∧ i ≤ l.length ∧ Hid (blkTo (l.map Cl.p) o k l[n].p i = false) ∧ Hid (Chg [] w wr) ∧ Hid (wr.heap[w.heap.size]? = some (.cells #[.int .i64 0, .slice none 0 0] 38 (0, 0)))) (fun u _ => l.length - (intOf u).toNat)
  case atStart => exact ⟨0, rfl, Nat.zero_le _, Lib.hid rfl, C1, B1⟩
  case round =>
    obtain ⟨i, rfl, hi, HS, D, K⟩ := hrel
    have hi0 : (0 : Int) ≤ (i : Int) := by omega
    by_cases hil : i < l.length
    · have hil' : (i : Int) < (l.length : Int) := by omega
      have him : i < (l.map Cl.p).length := by rw [List.length_map]; exact hil
      have hst := blkTo_step (o := o) (k := k) (x := l[n].p) him
      have hno := blkTo_yes (o := o) (k := k) (x := l[n].p) him
      have hbz := befZ_at him (show n < (l.map Cl.p).length by rw [List.length_map]; exact hn)
      rw [List.getElem_map] at hst hno hbz
      rw [List.getElem_map] at hbz
      have P := Lib.hid (PL.out (i : Int) _ D.out)
      have BF := Lib.hid (fun w' (hc : Chg [] w w') => show Calls Tryz.prog 50 #[.slice la l.length lc, .int .i64 (i : Int), .int .i64 (n : Int)] w' fun e w'' => e = .returned (.bool (befB l[i].p l[n].p)) ∧ Chg [] w' w'' from by have := BF.out i w' hc; rwa [hbz] at this)
      clear hbz
      by_cases h1 : plcZ o (i : Int) < 0
      · have hzb : (decide (plcZ o (i : Int) < 0) || decide ((k : Int) < plcZ o (i : Int))) = true := by rw [decide_eq_true h1]; rfl
        generalize plcZ o (i : Int) = z at *
        cases hb : befB l[i].p l[n].p
        · rw [hb] at BF hst
          have HST := Lib.hid (show blkTo (l.map Cl.p) o k l[n].p (i + 1) = false by rw [hst, HS.out, Bool.and_false]; rfl)
          clear hst hno hb
          go_wp2_with (first | (go_at_call 45; (with_reducible refine Calls.mono P.out ?_); rintro e w2 ⟨rfl, hc⟩; have D2 := Lib.hid (D.out.thenSame hc); have K2 := Lib.hid (hc.at (by simp) K.out); have y3 := U3.out w2 D2.out; clear hc) | (go_at_call 50; (with_reducible refine Calls.mono (BF.out _ D2.out) ?_); rintro e w3 ⟨rfl, hc⟩; have D3 := Lib.hid (D2.out.thenSame hc); have K3 := Lib.hid (hc.at (by simp) K2.out); clear hc))
          exact ⟨⟨i + 1, by go_num, by omega, HST, D3, K3⟩, by simp [intOf]; omega⟩
        · rw [hb] at BF hno
          have HE := Lib.hid (show blkTo (l.map Cl.p) o k l[n].p (l.map Cl.p).length = true from hno (by rw [Bool.and_true]; exact hzb))
          have HR := Lib.hid (show R = (11, [], 0, []) by rw [HRX.out]; unfold stepX; rw [if_pos HE.out])
          clear hst hno hb
          go_wp2_with (first | (go_at_call 45; (with_reducible refine Calls.mono P.out ?_); rintro e w2 ⟨rfl, hc⟩; have D2 := Lib.hid (D.out.thenSame hc); have K2 := Lib.hid (hc.at (by simp) K.out); have y3 := U3.out w2 D2.out; clear hc) | (go_at_call 50; (with_reducible refine Calls.mono (BF.out _ D2.out) ?_); rintro e w3 ⟨rfl, hc⟩; have D3 := Lib.hid (D2.out.thenSame hc); have K3 := Lib.hid (hc.at (by simp) K2.out); have k3 := blk_cell K3.out; have f3 := blk_free K3.out; clear hc))
          rw [HR.out]
          have r1 := blk_cell (ans_two K3.out 0 none 0 0).1
          unfold ansW at r1
          refine bodyPost_ret (v := .tuple #[.slice none 0 0, .agg #[.int .i64 0, .slice none 0 0], .int .i64 11]) (by simp [results, Tryz.results32, go_sem, r1]) rfl ?_
          exact rdoP_end (r := (11, [], 0, [])) K3.out (Nat.le_refl _) D3.out InIs.nil InIs.nil
      by_cases h2 : (k : Int) < plcZ o (i : Int)
      · have hzb : (decide (plcZ o (i : Int) < 0) || decide ((k : Int) < plcZ o (i : Int))) = true := by rw [decide_eq_true h2]; simp
        generalize plcZ o (i : Int) = z at *
        cases hb : befB l[i].p l[n].p
        · rw [hb] at BF hst
          have HST := Lib.hid (show blkTo (l.map Cl.p) o k l[n].p (i + 1) = false by rw [hst, HS.out, Bool.and_false]; rfl)
          clear hst hno hb
          go_wp2_with (first | (go_at_call 45; (with_reducible refine Calls.mono P.out ?_); rintro e w2 ⟨rfl, hc⟩; have D2 := Lib.hid (D.out.thenSame hc); have K2 := Lib.hid (hc.at (by simp) K.out); have y3 := U3.out w2 D2.out; clear hc) | (go_at_call 50; (with_reducible refine Calls.mono (BF.out _ D2.out) ?_); rintro e w3 ⟨rfl, hc⟩; have D3 := Lib.hid (D2.out.thenSame hc); have K3 := Lib.hid (hc.at (by simp) K2.out); clear hc))
          exact ⟨⟨i + 1, by go_num, by omega, HST, D3, K3⟩, by simp [intOf]; omega⟩
        · rw [hb] at BF hno
          have HE := Lib.hid (show blkTo (l.map Cl.p) o k l[n].p (l.map Cl.p).length = true from hno (by rw [Bool.and_true]; exact hzb))
          have HR := Lib.hid (show R = (11, [], 0, []) by rw [HRX.out]; unfold stepX; rw [if_pos HE.out])
          clear hst hno hb
          go_wp2_with (first | (go_at_call 45; (with_reducible refine Calls.mono P.out ?_); rintro e w2 ⟨rfl, hc⟩; have D2 := Lib.hid (D.out.thenSame hc); have K2 := Lib.hid (hc.at (by simp) K.out); have y3 := U3.out w2 D2.out; clear hc) | (go_at_call 50; (with_reducible refine Calls.mono (BF.out _ D2.out) ?_); rintro e w3 ⟨rfl, hc⟩; have D3 := Lib.hid (D2.out.thenSame hc); have K3 := Lib.hid (hc.at (by simp) K2.out); have k3 := blk_cell K3.out; have f3 := blk_free K3.out; clear hc))
          rw [HR.out]
          have r1 := blk_cell (ans_two K3.out 0 none 0 0).1
          unfold ansW at r1
          refine bodyPost_ret (v := .tuple #[.slice none 0 0, .agg #[.int .i64 0, .slice none 0 0], .int .i64 11]) (by simp [results, Tryz.results32, go_sem, r1]) rfl ?_
          exact rdoP_end (r := (11, [], 0, [])) K3.out (Nat.le_refl _) D3.out InIs.nil InIs.nil
      · have h1' : 0 ≤ plcZ o (i : Int) := by omega
        have h2' : plcZ o (i : Int) ≤ (k : Int) := by omega
        have HST := Lib.hid (show blkTo (l.map Cl.p) o k l[n].p (i + 1) = false by rw [hst, HS.out, decide_eq_false h1, decide_eq_false h2]; rfl)
        clear hst hno
        generalize plcZ o (i : Int) = z at *
        go_wp2_with (go_at_call 45; (with_reducible refine Calls.mono P.out ?_); rintro e w2 ⟨rfl, hc⟩; have D2 := Lib.hid (D.out.thenSame hc); have K2 := Lib.hid (hc.at (by simp) K.out); clear hc)
        exact ⟨⟨i + 1, by go_num, by omega, HST, D2, K2⟩, by simp [intOf]; omega⟩
    · have hie : i = l.length := by omega
      have HB := Lib.hid (show blkTo (l.map Cl.p) o k l[n].p (l.map Cl.p).length = false by rw [List.length_map, ← hie]; exact HS.out)
      clear hie hi HS
      have y3 := U3.out _ D.out
      obtain ⟨b2, o2, rfl, -, hc2⟩ := HL.out.at8 (w' := wr) n hn
      obtain ⟨x0, x1, x2, x3, x4, x5, x6, x7⟩ := hc2 _ D.out
      have INX := Lib.hid ((HL.out.2 _ (List.getElem_mem hn)).kept D.out)
      have GX := Lib.hid (HG.out _ (List.getElem_mem hn))
      have GAX := Lib.hid (HGA.out _ (List.getElem_mem hn))
      generalize l[n] = x at *
      have HRY := Lib.hid (show R = if (openB x.p || ((doZ st x.p.o).2.2.1 == x.p.err && sameB ceE (doZ st x.p.o).2.2.2 x.p.ans)) = true then (0, (doZ st x.p.o).2) else (19, [], 0, []) by rw [HRX.out]; unfold stepX; rw [if_neg (by rw [HB.out]; simp)])
      clear hc2
      go_upto_region 8 with fail
      generalize hW7' : World.alloc wr _ = W7
      have hW7 : W7 = wr.alloc (clO x) := hW7'.symm
      clear hW7'
      have C7 := Lib.hid (show Chg [] w W7 by rw [hW7]; exact D.out.alloc _)
      have B7 := Lib.hid (show W7.heap[wr.heap.size]? = some (clO x) by rw [hW7]; exact heap_alloc_new _ _)
      have K7 := Lib.hid (show W7.heap[w.heap.size]? = some (.cells #[.int .i64 0, .slice none 0 0] 38 (0, 0)) by rw [hW7]; exact blk_alloc K.out)
      have IN7 := Lib.hid (show ClIn W7 x by rw [hW7]; exact INX.out.kept ((Chg.refl _ _).alloc _))
      unfold clO at B7
      clear hW7 x0 x1 x2 x3 x4 x5 x6 x7 y3 INX
      have k7 := blk_cell B7.out
      have A := rdo_any sa sc st x.o W7 (HS0.out.kept C7.out) HSG.out IN7.out.1 GX.out.1 (HT.out.kept C7.out)
      have HZA := doZ_ans HZ.out
      have e1 : x.p.o = x.o.p := rfl
      rw [e1] at HRY HZA
      generalize doZ st x.o.p = Z at *
      obtain ⟨ze, zs, zr, za⟩ := Z
      simp only [eoC] at A
      have A := Lib.hid A
      rename_i A0
      simp only at HRY HZA
      have HZA := Lib.hid HZA
      clear A0 e1
      go_wp2_with fail
      refine A.out.mono ?_; rintro e w8 ⟨na, nc, va, vc, rfl, hn8, hv8, hc8⟩
      have C8 := Lib.hid (C7.out.thenSame hc8)
      have E8 := Lib.hid hc8
      have B8 := Lib.hid (hc8.at (by simp) B7.out)
      have K8 := Lib.hid (hc8.at (by simp) K7.out)
      have N8 := Lib.hid hn8
      have V8 := Lib.hid hv8
      clear hn8 hv8 hc8 k7 A
      go_upto_region 9 with fail
      obtain ⟨W8, hW8⟩ : ∃ W8, W8 = w8.alloc (.cells #[.int .i64 zr, .slice va za.length vc] 38) := ⟨_, rfl⟩
      have D8 := Lib.hid (show Chg [] w8 W8 by rw [hW8]; exact (Chg.refl [] w8).alloc _)
      have T8 := Lib.hid (show W8.heap[w8.heap.size]? = some (.cells #[.int .i64 zr, .slice va za.length vc] 38 (0, 0)) by rw [hW8]; exact heap_alloc_new _ _)
      have B9 := Lib.hid (D8.out.at (by simp) B8.out)
      have K9 := Lib.hid (D8.out.at (by simp) K8.out)
      have C9 := Lib.hid (C8.out.thenSame D8.out)
      rw [← hW8]
      clear hW8
      have k8 := blk_cell B9.out
      have t8 := blk_cell T8.out
      by_cases hto : x.to_ = -1
      · have htb : (x.to_ != -1) = false := by simp [hto]
        have HR := Lib.hid (show R = (0, zs, zr, za) by rw [HRY.out, if_pos]; have : openB x.p = true := (show (x.to_ == -1) = true by simp [hto]); rw [this]; rfl)
        clear hto
        go_upto_region 11 with fail
        have k9 := blk_cell K9.out
        have f9 := blk_free K9.out
        go_region_law (fail)
        all_goals go_wp2_with fail
        all_goals
          rw [HR.out]
          have r1 := blk_cell (ans_two K9.out zr va za.length vc).1
          unfold ansW at r1
          refine bodyPost_ret (v := .tuple #[.slice na zs.length nc, .agg #[.int .i64 zr, .slice va za.length vc], .int .i64 0]) (by simp [results, Tryz.results32, go_sem, r1]) rfl ?_
          exact (rdoP_end (r := (0, zs, zr, za)) K9.out (Nat.le_refl _) C9.out (N8.out.kept D8.out) (V8.out.kept D8.out)).drew
      have htb : (x.to_ != -1) = true := by simp [hto]
      have hop : openB x.p = false := beq_eq_false_iff_ne.2 hto
      have SA := Lib.hid (rsamea_any zr va vc za x.err x.va x.vc x.ans W8 (V8.out.kept D8.out) ((IN7.out.2.kept E8.out).kept D8.out) (by have := HZA.out; omega) GAX.out.1)
      have HRZ := Lib.hid (show R = if (zr == x.err && sameB ceE za x.ans) = true then (0, zs, zr, za) else (19, [], 0, []) by rw [HRY.out, hop]; rfl)
      clear hto hop
      generalize (zr == x.err && sameB ceE za x.ans) = q at *
      cases q
      · have HR := Lib.hid (show R = (19, [], 0, []) by rw [HRZ.out]; rfl)
        go_wp2_with (go_at_call 51; (with_reducible refine Calls.mono SA.out ?_); rintro e w10 ⟨rfl, hc⟩; have C10 := Lib.hid (C9.out.thenSame hc); have K10 := Lib.hid (hc.at (by simp) K9.out); have k10 := blk_cell K10.out; have f10 := blk_free K10.out; clear hc)
        rw [HR.out]
        have r1 := blk_cell (ans_two K10.out 0 none 0 0).1
        unfold ansW at r1
        refine bodyPost_ret (v := .tuple #[.slice none 0 0, .agg #[.int .i64 0, .slice none 0 0], .int .i64 19]) (by simp [results, Tryz.results32, go_sem, r1]) rfl ?_
        exact rdoP_end (r := (19, [], 0, [])) K10.out (Nat.le_refl _) C10.out InIs.nil InIs.nil
      · have HR := Lib.hid (show R = (0, zs, zr, za) by rw [HRZ.out]; rfl)
        go_upto_region 11 with (go_at_call 51; (with_reducible refine Calls.mono SA.out ?_); rintro e w10 ⟨rfl, hc⟩; have C10 := Lib.hid (C9.out.thenSame hc); have E10 := Lib.hid (D8.out.thenSame hc); have K10 := Lib.hid (hc.at (by simp) K9.out); have T10 := Lib.hid (hc.at (by simp) T8.out); have t10 := blk_cell T10.out; have k10 := blk_cell K10.out; have f10 := blk_free K10.out; clear hc)
        go_region_law (fail)
        all_goals go_wp2_with fail
        all_goals
          rw [HR.out]
          have r1 := blk_cell (ans_two K10.out zr va za.length vc).1
          unfold ansW at r1
          refine bodyPost_ret (v := .tuple #[.slice na zs.length nc, .agg #[.int .i64 zr, .slice va za.length vc], .int .i64 0]) (by simp [results, Tryz.results32, go_sem, r1]) rfl ?_
          exact (rdoP_end (r := (0, zs, zr, za)) K10.out (Nat.le_refl _) C10.out (N8.out.kept E10.out) (V8.out.kept E10.out)).drew
end Go.Proofs.YtnhemokmgpelaaaGreatDoor
namespace Go.Proofs.YtnhemokmgpelaaaGreatDoor
set_option linter.unusedVariables false
set_option linter.unusedSimpArgs false
open Go.RowKit
variable {l : List PCl} {st : List Ce} {o : List Int}
theorem plc_drop {i : Int} {k : Nat} : (k : Int) < plcZ o i ↔ i ∉ o.take (k + 1) ∧ i ∈ o.drop (k + 1) := by
  have e : plcZ o i = if i ∈ o.take (k + 1) then plcGo i (o.take (k + 1)) 0 else plcGo i (o.drop (k + 1)) (0 + (o.take (k + 1)).length) := by
    have := plcGo_app (i := i) (a := o.take (k + 1)) (b := o.drop (k + 1)) (k := 0)
    rw [List.take_append_drop] at this
    exact this
  have hl : (o.take (k + 1)).length ≤ k + 1 := by rw [List.length_take]; omega
  by_cases h : i ∈ o.take (k + 1)
  · rw [e, if_pos h]
    have := (plcGo_in (k := 0) h).2
    constructor
    · intro h2; omega
    · rintro ⟨h2, -⟩; exact absurd h h2
  · rw [e, if_neg h]
    by_cases h2 : i ∈ o.drop (k + 1)
    · have h3 : k + 1 < o.length := by
        rcases Nat.lt_or_ge (k + 1) o.length with h3 | h3
        · exact h3
        · rw [List.drop_eq_nil_of_le h3] at h2; cases h2
      have h4 : (o.take (k + 1)).length = k + 1 := by rw [List.length_take]; omega
      have := (plcGo_in (k := 0 + (o.take (k + 1)).length) h2).1
      rw [h4] at this ⊢
      simp only [h, h2, not_false_eq_true, and_self, iff_true]
      omega
    · rw [plcGo_out h2]
      constructor
      · intro h3; omega
      · rintro ⟨-, h3⟩; exact absurd h3 h2
theorem befB_open {x y : PCl} (h : openB y = true) : befB y x = false := by unfold befB; rw [h]; rfl
theorem blk_legal {k : Nat} (ho : OrdOk l.length o) (hd : doneB l (plM l.length o) = true) {x : PCl} (hk : k < o.length) (hx : l[(o[k]).toNat]? = some x) :
    blkTo l o k x l.length = (o.drop (k + 1)).any (fun j => befI l j o[k]) := by
  rw [Bool.eq_iff_iff]
  unfold blkTo
  rw [List.any_eq_true, List.any_eq_true]
  constructor
  · rintro ⟨i, hi, hb⟩
    have hi : i < l.length := by simpa using hi
    unfold blkAt at hb
    rw [List.getElem?_eq_getElem hi] at hb
    simp only [Bool.and_eq_true, Bool.or_eq_true, decide_eq_true_eq] at hb
    obtain ⟨h1, h2⟩ := hb
    have hin : (i : Int) ∈ o := by
      rcases (doneB_iff (plM_len _ _)).1 hd i hi with h3 | h3
      · rw [befB_open h3] at h2; cases h2
      · have := plM_at (n := l.length) (o := o) hi
        rw [List.getElem?_eq_getElem (by rw [plM_len]; exact hi), h3] at this
        simpa using this.symm
    rcases h1 with h1 | h1
    · exact absurd hin (plcZ_neg.1 h1)
    · refine ⟨(i : Int), (plc_drop.1 h1).2, ?_⟩
      unfold befI
      rw [Int.toNat_natCast, List.getElem?_eq_getElem hi, hx]
      exact h2
  · rintro ⟨j, hj, hb⟩
    obtain ⟨j0, j1⟩ := ho.2 j (List.mem_of_mem_drop hj)
    have hjn : j.toNat < l.length := by omega
    refine ⟨j.toNat, by simpa using hjn, ?_⟩
    unfold blkAt
    rw [List.getElem?_eq_getElem hjn]
    unfold befI at hb
    rw [List.getElem?_eq_getElem hjn, hx] at hb
    simp only [Bool.and_eq_true, Bool.or_eq_true, decide_eq_true_eq]
    refine ⟨.inr ?_, hb⟩
    have e : ((j.toNat : Nat) : Int) = j := by omega
    rw [e]
    refine plc_drop.2 ⟨fun hm => ?_, hj⟩
    have hnd := ho.1
    rw [← List.take_append_drop (k + 1) o, List.nodup_append] at hnd
    exact hnd.2.2 j hm j hj rfl
/-- A position of an order that is checked: the same result. -/
theorem step_legal {k : Nat} (ho : OrdOk l.length o) (hd : doneB l (plM l.length o) = true) {x : PCl} (hk : k < o.length) (hx : l[(o[k]).toNat]? = some x) (hz : (doZ st x.o).1 = 0) :
    legalGo l (o.drop k) st k = if (stepX l st o k x).1 = 0 then legalGo l (o.drop (k + 1)) (stepX l st o k x).2.1 (k + 1) else ((k : Int), (stepX l st o k x).1) := by
  rw [List.drop_eq_getElem_cons hk, legalGo, ← blk_legal ho hd hk hx]
  unfold stepX
  by_cases hb : blkTo l o k x l.length = true
  · rw [if_pos hb, if_pos hb]
    simp
  · rw [if_neg hb, if_neg hb]
    have hf : fitsI l st o[k] = if (openB x || ((doZ st x.o).2.2.1 == x.err && sameB ceE (doZ st x.o).2.2.2 x.ans)) = true then some (doZ st x.o).2.1 else none := by
      unfold fitsI
      rw [hx]
      simp only
      unfold fitsF
      rw [if_neg (by simp [hz])]
    rw [hf]
    by_cases hq : (openB x || ((doZ st x.o).2.2.1 == x.err && sameB ceE (doZ st x.o).2.2.2 x.ans)) = true
    · rw [if_pos hq, if_pos hq]; simp
    · rw [if_neg hq, if_neg hq]; simp
theorem valid_do {x : PCl} (h : hcheckZ l = 0) (hx : x ∈ l) (hs : checkZ st = 0) : (doZ st x.o).1 = 0 := by
  obtain ⟨h8, hz⟩ := hcheck_zero h
  obtain ⟨j, hj, rfl⟩ := List.mem_iff_getElem.1 hx
  have h1 := hz j hj
  unfold chkAt at h1
  rw [List.getElem?_eq_getElem hj, List.getElem?_eq_getElem (by omega)] at h1
  simp only at h1
  unfold chk1 at h1
  split at h1
  · cases h1
  · split at h1
    · cases h1
    · split at h1
      · cases h1
      · have := (doZ_zero h1).1
        unfold doZ
        rw [if_neg (by simp [this]), if_neg (by simp [hs])]
theorem stepX_next {k : Nat} {x : PCl} (hz : (doZ st x.o).1 = 0) (h : (stepX l st o k x).1 = 0) : (stepX l st o k x).2.1 = (doZ st x.o).2.1 := by
  unfold stepX at h ⊢
  split at h
  · cases h
  · rename_i hb
    rw [if_neg hb]
    split at h
    · rename_i hq; rw [if_pos hq]
    · cases h
theorem compl_ord (h : completeB l o = true) : OrdOk l.length o ∧ doneB l (plM l.length o) = true := by
  unfold completeB at h
  cases hp : placeAll (List.replicate l.length false) o with
  | none => rw [hp] at h; simp at h
  | some q =>
    rw [hp] at h
    have h1 := placeAll_iff.1 ⟨q, hp⟩
    have ho : OrdOk l.length o := ⟨h1.1, fun x hx => by have := h1.2 x hx; rw [List.length_replicate] at this; exact ⟨this.1, by omega⟩⟩
    have h2 := ord_place ho
    rw [hp] at h2
    cases h2
    exact ⟨ho, h⟩
/-! the search -/
theorem plc_range {i : Int} (h : i ∈ o) : 0 ≤ plcZ o i ∧ plcZ o i < o.length := by
  have := plcGo_in (k := 0) h
  unfold plcZ
  omega
theorem blk_search {i : Nat} {x : PCl} (hi : l[i]? = some x) (hio : (i : Int) ∉ o) (hself : befB x x = false) : blkTo l (o ++ [(i : Int)]) o.length x l.length = blockB l (plM l.length o) x := by
  rw [Bool.eq_iff_iff]
  unfold blkTo blockB blockTo
  rw [List.any_eq_true, List.any_eq_true]
  have key : ∀ j, j < l.length → ∀ y, l[j]? = some y → (((decide (plcZ (o ++ [(i : Int)]) (j : Int) < 0) || decide ((o.length : Int) < plcZ (o ++ [(i : Int)]) (j : Int))) && befB y x) = true ↔ (!decide ((j : Int) ∈ o) && befB y x) = true) := by
    intro j hj y hy
    rw [plcZ_snoc hio]
    by_cases hjo : (j : Int) ∈ o
    · have := plc_range hjo
      rw [if_pos hjo, decide_eq_true hjo, decide_eq_false (by omega), decide_eq_false (by omega)]
      simp
    · rw [if_neg hjo, decide_eq_false hjo]
      by_cases e : (j : Int) = (i : Int)
      · have : j = i := by omega
        subst this
        rw [hi] at hy
        cases hy
        rw [hself]
        simp
      · rw [if_neg e]
        simp
  constructor
  · rintro ⟨j, hj, hb⟩
    have hj' : j < l.length := by simpa using hj
    refine ⟨j, hj, ?_⟩
    unfold blkAt at hb
    rw [List.getElem?_eq_getElem hj'] at hb
    rw [List.getElem?_eq_getElem hj', plM_at hj']
    exact (key j hj' _ (List.getElem?_eq_getElem hj')).1 hb
  · rintro ⟨j, hj, hb⟩
    have hj' : j < l.length := by simpa using hj
    refine ⟨j, hj, ?_⟩
    unfold blkAt
    rw [List.getElem?_eq_getElem hj']
    rw [List.getElem?_eq_getElem hj', plM_at hj'] at hb
    exact (key j hj' _ (List.getElem?_eq_getElem hj')).2 hb
theorem try_step {i : Nat} {x : PCl} {F : List Ce → List Bool → List Int → Option (List Int)} (hi : l[i]? = some x) (hio : (i : Int) ∉ o) (hself : befB x x = false) (hz : (doZ st x.o).1 = 0) :
    tryF l F st (plM l.length o) o i = if (stepX l st (o ++ [(i : Int)]) o.length x).1 = 0 then F (stepX l st (o ++ [(i : Int)]) o.length x).2.1 (plM l.length (o ++ [(i : Int)])) (o ++ [(i : Int)]) else none := by
  have hil : i < l.length := (List.getElem?_eq_some_iff.1 hi).1
  have hb := blk_search hi hio hself
  have hp : (plM l.length o)[i]? = some false := by rw [plM_at hil, decide_eq_false hio]
  unfold stepX
  rw [hb]
  by_cases hq : blockB l (plM l.length o) x = true
  · rw [tryF_block hi hq, if_pos hq]; rfl
  · rw [tryF_go hi hp (by simpa using hq), if_neg hq]
    unfold goF fitsF
    rw [if_neg (by simp [hz])]
    by_cases hf : (openB x || ((doZ st x.o).2.2.1 == x.err && sameB ceE (doZ st x.o).2.2.2 x.ans)) = true
    · rw [if_pos hf, if_pos hf, plM_snoc hil]; rfl
    · rw [if_neg hf, if_neg hf]; rfl
theorem try_in {i : Nat} {F : List Ce → List Bool → List Int → Option (List Int)} (hi : i < l.length) (hio : (i : Int) ∈ o) : tryF l F st (plM l.length o) o i = none := tryF_placed (by rw [plM_at hi, decide_eq_true hio])
theorem ord_snoc {n i : Nat} (h : OrdOk n o) (hi : i < n) (hio : (i : Int) ∉ o) : OrdOk n (o ++ [(i : Int)]) := by
  refine ⟨?_, fun x hx => ?_⟩
  · rw [List.nodup_append]
    exact ⟨h.1, by simp, fun a ha b hb => by simp at hb; subst hb; exact fun e => hio (e ▸ ha)⟩
  · rcases List.mem_append.1 hx with hx | hx
    · exact h.2 x hx
    · simp at hx; subst hx; omega
theorem ord_full {n : Nat} (h : OrdOk n o) (hl : o.length = n) : plM n o = List.replicate n true := by
  have hall : ∀ j : Nat, j < n → (j : Int) ∈ o := by
    intro j hj
    have hp := ord_place h
    have hc := placeAll_count hp
    simp only [List.count_replicate_self] at hc
    have h0 : (plM n o).count false = 0 := by omega
    have hm := plM_at (o := o) hj
    by_cases hm2 : (j : Int) ∈ o
    · exact hm2
    · rw [decide_eq_false hm2] at hm
      have := List.count_pos_iff.2 (List.mem_of_getElem? hm)
      omega
  refine List.ext_getElem? (fun j => ?_)
  by_cases hj : j < n
  · rw [plM_at hj, decide_eq_true (hall j hj), List.getElem?_replicate, if_pos hj]
  · rw [List.getElem?_eq_none (by rw [plM_len]; omega), List.getElem?_eq_none (by simp; omega)]
end Go.Proofs.YtnhemokmgpelaaaGreatDoor
namespace Go.Proofs.YtnhemokmgpelaaaGreatDoor
set_option linter.unusedVariables false
set_option linter.unusedSimpArgs false
open Go.RowKit
variable {w : World} {la : Option Addr} {lc : Nat} {l : List Cl} {oa : Option Addr} {oc : Nat} {o : List Int} {sa : Option Addr} {sc : Nat} {st : List Ce}
set_option maxHeartbeats 8000000 in
set_option maxRecDepth 100000 in
theorem rlegal_any (hl : LIn w la lc l) (hg : ∀ x ∈ l, goodCl x) (hga : ∀ x ∈ l, goodL x.ans) (hs : InIs ceC 4 w sa sc st) (hsg : goodL st) (h : InIs icI 1 w oa oc o) (hlo : o.length ≤ 20) (h20 : l.length ≤ 20) (ht : TabW w) :
    Calls Tryz.prog 14 #[.slice sa st.length sc, .slice la l.length lc, .slice oa o.length oc] w fun e w' => e = .returned (.tuple #[.int .i64 (legalZ st (l.map Cl.p) o).1, .int .i64 (legalZ st (l.map Cl.p) o).2]) ∧ Chg [] w w' := by
  obtain ⟨R, hR⟩ : ∃ R, R = legalZ st (l.map Cl.p) o := ⟨_, rfl⟩
  rw [← hR]
  have HR := Lib.hid hR
  have A1 := Lib.hid (rhcheck_any hl hg ht)
  have A2 := Lib.hid (fun w' (hc : Chg [] w w') => rcheck_any sa sc st w' (hs.kept hc).1 hsg.1 hsg.2 (ht.kept hc))
  have A3 := Lib.hid (fun w' (hc : Chg [] w w') => riso_any (hl.kept hc) (h.kept hc) (by omega) (by omega))
  by_cases h1 : hcheckZ (l.map Cl.p) = 0
  case neg =>
    have HE := Lib.hid (show R = (0, hcheckZ (l.map Cl.p)) by
      have e : hchkZ st (l.map Cl.p) = hcheckZ (l.map Cl.p) := by unfold hchkZ; rw [if_pos h1]
      rw [HR.out]; unfold legalZ; rw [e, if_pos h1])
    have hb : (hcheckZ (l.map Cl.p) != 0) = true := by simp [h1]
    rw [HE.out]
    clear hR hl hg hga hs hsg h ht h1 HE HR A2 A3
    generalize hcheckZ (l.map Cl.p) = z at *
    go_enter Tryz.func14, Tryz.ntmps14
    go_wp2_with fail
    refine A1.out.mono ?_; rintro e w2 ⟨rfl, hc⟩
    have C2 := Lib.hid hc
    clear hc
    go_wp2_with fail
    go_ret2
    exact ⟨rfl, C2.out⟩
  rw [h1] at A1
  by_cases h2 : checkZ st = 0
  case neg =>
    have HE := Lib.hid (show R = (0, checkZ st) by
      have e : hchkZ st (l.map Cl.p) = checkZ st := by unfold hchkZ; rw [if_neg (by simp [h1])]
      rw [HR.out]; unfold legalZ; rw [e, if_pos h2])
    have hb : (checkZ st != 0) = true := by simp [h2]
    rw [HE.out]
    clear hR hl hg hga hs hsg h ht h1 h2 HE HR A3
    generalize checkZ st = z at *
    go_enter Tryz.func14, Tryz.ntmps14
    go_wp2_with fail
    refine A1.out.mono ?_; rintro e w2 ⟨rfl, hc⟩
    have C2 := Lib.hid hc
    clear hc
    go_wp2_with fail
    refine (A2.out _ C2.out).mono ?_; rintro e w3 ⟨rfl, hc⟩
    have C3 := Lib.hid (C2.out.thenSame hc)
    clear hc
    go_wp2_with fail
    go_ret2
    exact ⟨rfl, C3.out⟩
  rw [h2] at A2
  have hcz : hchkZ st (l.map Cl.p) = 0 := by unfold hchkZ; rw [if_neg (by simp [h1])]; exact h2
  have eI := iso_eq (l := l.map Cl.p) (o := o)
  by_cases h3 : completeB (l.map Cl.p) o = true
  case neg =>
    have h3f : completeB (l.map Cl.p) o = false := by simpa using h3
    have HE := Lib.hid (show R = (0, 2) by rw [HR.out]; unfold legalZ; rw [if_neg (by simp [hcz]), if_pos h3f])
    rw [eI, h3f] at A3
    rw [HE.out]
    clear hR hl hg hga hs hsg h ht h1 h2 h3 h3f HE HR eI hcz
    go_enter Tryz.func14, Tryz.ntmps14
    go_wp2_with fail
    refine A1.out.mono ?_; rintro e w2 ⟨rfl, hc⟩
    have C2 := Lib.hid hc
    clear hc
    go_wp2_with fail
    refine (A2.out _ C2.out).mono ?_; rintro e w3 ⟨rfl, hc⟩
    have C3 := Lib.hid (C2.out.thenSame hc)
    clear hc
    go_wp2_with fail
    refine (A3.out _ C3.out).mono ?_; rintro e w4 ⟨rfl, hc⟩
    have C4 := Lib.hid (C3.out.thenSame hc)
    clear hc
    go_wp2_with fail
    go_ret2
    exact ⟨rfl, C4.out⟩
  rw [eI, h3] at A3
  obtain ⟨ho, hd⟩ := compl_ord h3
  have HO := Lib.hid ho
  have HD := Lib.hid hd
  have HGo := Lib.hid (show legalGo (l.map Cl.p) (o.drop 0) st 0 = R by rw [HR.out]; unfold legalZ; rw [if_neg (by simp [hcz]), if_neg (by simp [h3])]; rfl)
  have H := Lib.hid h
  have HL := Lib.hid hl
  have HS0 := Lib.hid hs
  have HT := Lib.hid ht
  have HSG := Lib.hid (show goodL st ∧ checkZ st = 0 from ⟨hsg, h2⟩)
  have HG := Lib.hid hg
  have HV := Lib.hid (fun (s : List Ce) (hs : checkZ s = 0) n (hn : n < l.length) => valid_do (st := s) h1 (List.mem_map_of_mem (f := Cl.p) (List.getElem_mem hn)) hs)
  have ST := Lib.hid (fun w' (hc : Chg [] w w') na nc (s : List Ce) (hs : InIs ceC 4 w' na nc s) (hsg : goodL s) k n hk hok hn hz => rstep_any (hl.kept hc) hg hga hs hsg (h.kept hc) (by omega) h20 (ht.kept hc) k n hk hok hn hz)
  have hlo' : (o.length : Int) ≤ 20 := by omega
  clear hR hl hg hga hs hsg h ht h1 h2 h3 hcz eI ho hd
  go_enter Tryz.func14, Tryz.ntmps14
  go_wp2_with fail
  refine A1.out.mono ?_; rintro e w2 ⟨rfl, hc⟩
  have C2 := Lib.hid hc
  clear hc
  go_wp2_with fail
  refine (A2.out _ C2.out).mono ?_; rintro e w3 ⟨rfl, hc⟩
  have C3 := Lib.hid (C2.out.thenSame hc)
  clear hc
  go_wp2_with fail
  refine (A3.out _ C3.out).mono ?_; rintro e w4 ⟨rfl, hc⟩
  have C4 := Lib.hid (C3.out.thenSame hc)
  clear hc
  go_wp2_with fail
  go_loopw [10, 11] (fun s u wr => ∃ (k : Nat) (na : Option Addr) (nc : Nat) (s1 : List Ce), s = .slice na s1.length nc ∧ u = .int .i64 k ∧ k ≤ o.length ∧ Hid (Chg [] w wr) ∧ Hid (InIs ceC 4 wr na nc s1) ∧ Hid (goodL s1 ∧ checkZ s1 = 0) ∧ Hid (legalGo (l.map Cl.p) (o.drop k) s1 k = R)) (fun _ u _ => o.length - (intOf u).toNat)
  case atStart => exact ⟨0, sa, sc, st, rfl, rfl, Nat.zero_le _, C4, Lib.hid (HS0.out.kept C4.out), HSG, HGo⟩
  case round =>
    obtain ⟨k, na, nc, s1, rfl, rfl, hk, D, IS, SG, GO⟩ := hrel
    have hk0 : (0 : Int) ≤ (k : Int) := by omega
    by_cases hko : k < o.length
    · have hko' : (k : Int) < (o.length : Int) := by omega
      obtain ⟨r1, r2⟩ := HO.out.2 _ (List.getElem_mem hko)
      rw [List.length_map] at r2
      obtain ⟨n, hn⟩ : ∃ n : Nat, o[k] = (n : Int) := ⟨(o[k]).toNat, by omega⟩
      have hnl : n < l.length := by omega
      have hz := HV.out s1 SG.out.2 n hnl
      have hx : (l.map Cl.p)[(o[k]).toNat]? = some (l[n]).p := by rw [hn, Int.toNat_natCast, List.getElem?_map, List.getElem?_eq_getElem hnl]; rfl
      have hgo := step_legal HO.out HD.out hko hx hz
      have GZ := doZ_good (o := (l[n]).o) (st := s1) hz SG.out.1 (HG.out _ (List.getElem_mem hnl)).1
      have CZ := doZ_next hz
      have S := ST.out _ D.out na nc s1 IS.out SG.out.1 k n hko hn hnl hz
      have NX := stepX_next (l := l.map Cl.p) (o := o) (k := k) hz
      rw [GO.out] at hgo
      rw [show (l[n]).o.p = (l[n]).p.o from rfl] at GZ
      generalize (l[n]).p = x at *
      generalize stepX (l.map Cl.p) s1 o k x = Z at *
      obtain ⟨ze, zs, zr, za⟩ := Z
      simp only at hgo S NX
      have S := Lib.hid S
      rename_i S0
      clear S0 hx hn r1 r2 hz
      by_cases hze : ze = 0
      · subst hze
        rw [if_pos rfl] at hgo
        have HG2 := Lib.hid hgo.symm
        have NG := Lib.hid (show goodL zs ∧ checkZ zs = 0 by rw [NX rfl]; exact ⟨GZ, CZ⟩)
        clear hgo NX GZ CZ
        go_wp2_with fail
        refine S.out.mono ?_; rintro e w5 ⟨na2, nc2, va2, vc2, rfl, hn5, hv5, hc5⟩
        have D5 := Lib.hid ((D.out.thenSame hc5).alloc (.cells #[.int .i64 zr, .slice va2 za.length vc2] 38))
        have N5 := Lib.hid (hn5.kept ((Chg.refl [] w5).alloc (.cells #[.int .i64 zr, .slice va2 za.length vc2] 38)))
        clear hn5 hv5 hc5 S
        go_wp2_with fail
        exact ⟨⟨k + 1, na2, nc2, zs, rfl, by go_num, by omega, D5, N5, NG, HG2⟩, by simp [intOf]; omega⟩
      · rw [if_neg hze] at hgo
        have HG2 := Lib.hid hgo
        have hzb : (ze != 0) = true := by simp [hze]
        clear hgo NX GZ CZ hze
        go_wp2_with fail
        refine S.out.mono ?_; rintro e w5 ⟨na2, nc2, va2, vc2, rfl, hn5, hv5, hc5⟩
        have D5 := Lib.hid ((D.out.thenSame hc5).alloc (.cells #[.int .i64 zr, .slice va2 za.length vc2] 38))
        clear hn5 hv5 hc5 S
        go_wp2_with fail
        rw [HG2.out]
        go_ret2
        exact ⟨rfl, D5.out⟩
    · have hke : k = o.length := by omega
      have HE := Lib.hid (show R = ((o.length : Int), 0) by rw [← GO.out, hke, List.drop_length]; rfl)
      clear hke
      go_wp2_with fail
      rw [HE.out]
      go_ret2
      exact ⟨rfl, D.out⟩
set_option maxHeartbeats 8000000 in
set_option maxRecDepth 100000 in
theorem legals_walk (a0 : Option Addr) (len0 cap0 : Nat) (l0 : List Ce) (a1 : Option Addr) (len1 cap1 : Nat) (l1 : List Cl) (a2 : Option Addr) (len2 cap2 : Nat) (l2 : List Int) (w : World)
    (h0 : l0.length = len0 ∧ InIs ceC 4 w a0 cap0 l0 ∧ goodL l0) (h1 : l1.length = len1 ∧ LIn w a1 cap1 l1 ∧ (∀ x ∈ l1, goodCl x) ∧ ∀ x ∈ l1, goodL x.ans) (h2 : l2.length = len2 ∧ InIs icI 1 w a2 cap2 l2 ∧ (∀ x ∈ l2, (Lit.int .i64 x).wf = true) ∧ len2 ≤ 1099511627776000) (ht : TabW w) :
    Calls Tryz.prog 4 #[.slice a0 len0 cap0, .slice a1 len1 cap1, .slice a2 len2 cap2] w fun e w' => e = .returned (.bool true) ∧ Below w.heap.size w w' := by
  obtain ⟨rfl, hs, hsg⟩ := h0
  obtain ⟨rfl, hl, hg, hga⟩ := h1
  obtain ⟨rfl, hi, -, hlen⟩ := h2
  refine Calls.mono (R := fun e w' => e = .returned (.bool true) ∧ Chg [] w w') ?_ (fun e w' h => ⟨h.1, h.2.toBelow (Nat.le_refl _) (by simp)⟩)
  have AW := Lib.hid (fun w' (hc : Chg [] w w') => awake_any w' (ht.kept hc))
  by_cases hbig : 20 < l1.length ∨ 20 < l2.length
  · have AWC := Lib.hid (AW.out _ (Chg.refl _ _))
    have hb : (20 : Int) < (l1.length : Int) ∨ ((l1.length : Int) ≤ 20 ∧ (20 : Int) < (l2.length : Int)) := by omega
    clear hbig hl hg hga hi hs hsg ht
    rcases hb with hb | ⟨hb, hb2⟩
    all_goals
      go_enter Tryz.func4, Tryz.ntmps4
      go_wp2_with fail
      refine AWC.out.mono ?_; rintro e w2 ⟨rfl, hc⟩
      have C2 := Lib.hid hc
      clear hc
      go_wp2_with fail
      go_ret
      exact ⟨rfl, C2.out⟩
  have hb1 : (l1.length : Int) ≤ 20 := by omega
  have hb2 : (l2.length : Int) ≤ 20 := by omega
  have A := Lib.hid (legal_any hl hg hs hsg ht hi hlen)
  have B := Lib.hid (fun w' (hc : Chg [] w w') => rlegal_any (hl.kept hc) hg hga (hs.kept hc) hsg (hi.kept hc) (by omega) (by omega) (ht.kept hc))
  clear hbig hl hg hga hi hs hsg ht
  generalize legalZ l0 (l1.map Cl.p) l2 = z at *
  obtain ⟨z1, z2⟩ := z
  simp only at A B
  have e1 : (z1 == z1) = true := beq_self_eq_true _
  have e2 : (z2 == z2) = true := beq_self_eq_true _
  go_enter Tryz.func4, Tryz.ntmps4
  go_wp2_with fail
  refine A.out.mono ?_; rintro e w2 ⟨rfl, hc⟩
  have C2 := Lib.hid hc
  clear hc A
  go_wp2_with fail
  refine (B.out _ C2.out).mono ?_; rintro e w3 ⟨rfl, hc⟩
  have C3 := Lib.hid (C2.out.thenSame hc)
  have AWD := Lib.hid (AW.out _ C3.out)
  clear hc B
  go_wp2_with (go_at_call 6; (with_reducible refine Calls.mono AWD.out ?_); rintro e w9 ⟨rfl, hc⟩; have CC := Lib.hid (C3.out.thenSame hc); clear hc)
  go_ret
  exact ⟨rfl, CC.out⟩
end Go.Proofs.YtnhemokmgpelaaaGreatDoor
namespace Go.Proofs.YtnhemokmgpelaaaGreatDoor
set_option linter.unusedVariables false
set_option linter.unusedSimpArgs false
open Go.RowKit
theorem intInfo3 : (Tryz.prog.info? 3).map (fun i => (i.zero, i.size, i.bytes)) = some (some (.int .i64 0), 1, 8) := by kernel_rfl
theorem intSize : (Tryz.prog.info? 3).map (·.size) = some 1 := by kernel_rfl
/-- 'copy(d, s)': a row of the call's own, a slice of its length. -/
theorem wpl_copyI {w : World} {ops : Array Oper} {rest : List Oper} {o : Oper} {a : Act} {Q : Exit → Act → World → Prop} (hgd : o.guard = none) (d s : Operand)
    (ho : o.op = .call { callee := .builtin .copy, args := #[d, s], argTypes := #[27, 27] }) (base : Nat) {g c sc : Nat} {sa : Option Addr} {L0 l : List Int} (hd : a.eval d = .slice (some ⟨g, 0, none⟩) l.length c) (hs : a.eval s = .slice sa l.length sc)
    (hrow : RowOf icI 1 w base 3 (.slice (some ⟨g, 0, none⟩) l.length c) L0) (hL0 : L0.length = l.length) (hsrc : InIs icI 1 w sa sc l)
    (hK : ∀ w', RowOf icI 1 w' base 3 (.slice (some ⟨g, 0, none⟩) l.length c) l → Chg [g] w w' → w'.heap.size = w.heap.size → wpList Tryz.prog ops Q rest (a.put o.dst (goInt l.length)) w') : wpList Tryz.prog ops Q (o :: rest) a w := by
  by_cases h0 : l.length = 0
  · have hl : l = [] := List.eq_nil_of_length_eq_zero h0
    have hl0 : L0 = [] := List.eq_nil_of_length_eq_zero (by omega)
    subst hl
    subst hl0
    refine wpList_copy_nothing hgd d s _ _ ho 3 Tryz.underlying27 intSize _ _ _ _ _ _ hd hs rfl ?_
    exact hK w hrow (Chg.refl _ _) rfl
  · obtain ⟨b, off, rfl, -⟩ := hsrc.1.2 0 (by omega)
    rcases hrow.2 with ⟨e, -⟩ | ⟨g', cap, cur, hv, hg, hh, h4, h5, h6, h7⟩
    · simp at e
    · simp only [Value.slice.injEq, Option.some.injEq, Addr.mk.injEq, and_true] at hv
      obtain ⟨rfl, -, rfl⟩ := hv
      have hcl : (l.map (Value.int .i64)).length = l.length := List.length_map _
      have hcs : cur.toList.length = cur.size := Array.length_toList
      refine wpList_copy_own hgd d s _ _ ho 3 Tryz.underlying27 intSize g 0 _ _ ⟨b, off, none⟩ _ _ hd hs cur 3 hh (l.map (Value.int .i64)) (by rw [hcl]; exact (Nat.min_self _).symm) (fun j v hj => ?_) (by rw [hcl, h6]; omega) (fun v hv => ?_) ?_
      · obtain ⟨hjl, e⟩ := List.getElem?_eq_some_iff.1 hj
        rw [hcl] at hjl
        rw [List.getElem_map] at e
        obtain ⟨b2, o2, e2, -, hc⟩ := hsrc.1.2 j hjl
        cases e2
        have := hc 0 (by omega)
        simp only [icI, List.getElem?_cons_zero, Nat.add_zero, Nat.mul_one] at this
        have e3 : (⟨b, off, none⟩ : Addr).add j = ⟨b, off + j, none⟩ := by
          unfold Addr.add; split
          · rename_i e; rw [e]; rfl
          · rfl
        rw [e3, this, e]
      · obtain ⟨x, -, rfl⟩ := List.mem_map.1 hv
        rfl
      · rw [hcl]
        refine hK _ ⟨by rw [flatMap_len icI_len], .inr ⟨g, c, _, rfl, hg, setRow_heap w g _ _ _ _ hh, by omega, h5, ?_, ?_⟩⟩ ⟨rfl, rfl, rfl, by simp [World.setRow], fun k hk hn => setRow_other w g k _ (by simpa using hn)⟩ (by simp [World.setRow])
        · simp only [List.size_toArray, List.length_append, List.length_take, List.length_drop, hcl, hcs, h6]
          omega
        · rw [flat_icI]
          simp only [List.take_zero, List.nil_append, Nat.mul_one]
          rw [List.take_append_of_le_length (by rw [hcl]; exact Nat.le_refl _), List.take_of_length_le (by rw [hcl]; exact Nat.le_refl _)]
/-- What search returns. -/
def RSP (w : World) (r : Option (List Int)) (e : Ending) (w' : World) : Prop :=
  ∃ ra rc, e = .returned (.tuple #[.slice ra (r.getD []).length rc, .bool r.isSome]) ∧ InIs icI 1 w' ra rc (r.getD []) ∧ Chg [] w w'
theorem plc_bef {o : List Int} {i : Int} (h : i ∈ o) : 0 ≤ plcZ o i := (plc_range h).1
theorem InIs.nilI {w : World} : InIs icI 1 w none 0 ([] : List Int) := ⟨⟨rfl, fun k hk => by simp at hk⟩, Nat.le_refl _, Nat.zero_le _, fun _ => rfl⟩
set_option maxHeartbeats 16000000 in
set_option maxRecDepth 100000 in
theorem rsearch_all {l : List Cl} (hh : hcheckZ (l.map Cl.p) = 0) (hg : ∀ x ∈ l, goodCl x) (hga : ∀ x ∈ l, goodL x.ans) : ∀ n (w : World) (la : Option Addr) (lc : Nat) (_ : LIn w la lc l) (_ : TabW w) (sa : Option Addr) (sc : Nat) (st : List Ce) (_ : InIs ceC 4 w sa sc st) (_ : goodL st) (_ : checkZ st = 0)
    (oa : Option Addr) (oc : Nat) (o : List Int) (_ : InIs icI 1 w oa oc o) (_ : OrdOk l.length o) (_ : o.length + n = l.length), Calls Tryz.prog 23 #[.slice sa st.length sc, .slice la l.length lc, .slice oa o.length oc] w (RSP w (findF (l.map Cl.p) n st (plM l.length o) o)) := by
  have h8 : l.length ≤ 8 := by have := (hcheck_zero hh).1; rwa [List.length_map] at this
  have hself := hcheck_self hh
  intro n
  induction n with
  | zero =>
    intro w la lc hl ht sa sc st hs hsg hcs oa oc o h ho hn
    have A := riso_any hl h (by omega) (by omega)
    have ho' : OrdOk (l.map Cl.p).length o := by rw [List.length_map]; exact ho
    rw [iso_ord ho', List.length_map] at A
    have hd : doneB (l.map Cl.p) (plM l.length o) = true := by
      refine done_count (by rw [plM_len, List.length_map]) ?_
      rw [ord_full ho (by omega), List.count_eq_zero]
      intro hm
      have := List.eq_of_mem_replicate hm
      cases this
    rw [hd] at A
    have A := Lib.hid A
    rename_i A0
    have HR := Lib.hid (show findF (l.map Cl.p) 0 st (plM l.length o) o = some o by rw [findF, if_pos hd])
    rw [HR.out]
    have HI := Lib.hid h
    clear A0 hl ht hs hsg hcs h ho hn ho' hd
    go_enter Tryz.func23, Tryz.ntmps23
    go_wp2_with fail
    refine A.out.mono ?_; rintro e w2 ⟨rfl, hc⟩
    have C2 := Lib.hid hc
    clear hc
    go_wp2_with fail
    go_ret2
    exact ⟨oa, oc, rfl, HI.out.kept C2.out, C2.out⟩
  | succ n ih =>
    intro w la lc hl ht sa sc st hs hsg hcs oa oc o h ho hn
    have A := riso_any hl h (by omega) (by omega)
    have ho' : OrdOk (l.map Cl.p).length o := by rw [List.length_map]; exact ho
    rw [iso_ord ho', List.length_map] at A
    obtain ⟨R, hR⟩ : ∃ R, R = findF (l.map Cl.p) (n + 1) st (plM l.length o) o := ⟨_, rfl⟩
    rw [← hR]
    rw [findF] at hR
    have HI := Lib.hid h
    cases hd : doneB (l.map Cl.p) (plM l.length o)
    case true =>
      rw [hd] at A
      rw [if_pos hd] at hR
      have A := Lib.hid A
      rename_i A0
      have HR := Lib.hid hR
      rw [HR.out]
      clear A0 hl ht hs hsg hcs h ho hn ho' hd ih hR
      go_enter Tryz.func23, Tryz.ntmps23
      go_wp2_with fail
      refine A.out.mono ?_; rintro e w2 ⟨rfl, hc⟩
      have C2 := Lib.hid hc
      clear hc
      go_wp2_with fail
      go_ret2
      exact ⟨oa, oc, rfl, HI.out.kept C2.out, C2.out⟩
    rw [hd] at A
    rw [if_neg (by rw [hd]; simp)] at hR
    have A := Lib.hid A
    rename_i A0
    have HR := Lib.hid hR
    have HL := Lib.hid hl
    have HT := Lib.hid ht
    have HS := Lib.hid hs
    have PL := Lib.hid (fun i w' (hc : Chg [] w w') => rplace_any (h.kept hc) (by omega) i)
    have IH := Lib.hid ih
    have HO := Lib.hid ho
    have HN := Lib.hid hn
    have hl8 : (l.length : Int) ≤ 8 := by omega
    have ho8 : (o.length : Int) ≤ 8 := by omega
    have ho8' : o.length < 8 := by omega
    have HCS := Lib.hid hcs
    have HSG := Lib.hid hsg
    have HHH := Lib.hid hh
    have HG := Lib.hid hg
    have HGA := Lib.hid hga
    have HSF := Lib.hid hself
    clear A0 hl ht hs hsg hcs h ho hn ho' hd ih hR hh hg hga hself
    go_enter Tryz.func23, Tryz.ntmps23
    go_wp2_with fail
    refine A.out.mono ?_; rintro e w2 ⟨rfl, hc⟩
    have C2 := Lib.hid hc
    clear hc
    go_wp2_with fail
    go_loopw [8] (fun u wr => ∃ i : Nat, u = .int .i64 i ∧ i ≤ l.length ∧ Hid (∀ j, j < i → tryF (l.map Cl.p) (findF (l.map Cl.p) n) st (plM l.length o) o j = none) ∧ Hid (Chg [] w wr)) (fun u _ => l.length - (intOf u).toNat)
    case atStart => exact ⟨0, rfl, Nat.zero_le _, Lib.hid (fun j hj => by omega), C2⟩
    case round =>
      obtain ⟨i, rfl, hi, TN, D⟩ := hrel
      have hi0 : (0 : Int) ≤ (i : Int) := by omega
      by_cases hil : i < l.length
      · have hil' : (i : Int) < (l.length : Int) := by omega
        have him : i < (l.map Cl.p).length := by rw [List.length_map]; exact hil
        have P := Lib.hid (PL.out (i : Int) _ D.out)
        by_cases hio : (i : Int) ∈ o
        · have hz : 0 ≤ plcZ o (i : Int) := plc_bef hio
          have T1 := Lib.hid (show ∀ j, j < i + 1 → tryF (l.map Cl.p) (findF (l.map Cl.p) n) st (plM l.length o) o j = none from fun j hj => by
            by_cases e : j < i
            · exact TN.out j e
            · have : j = i := by omega
              subst this
              have := try_in (st := st) (F := findF (l.map Cl.p) n) him hio
              rwa [List.length_map] at this)
          clear hio him
          generalize plcZ o (i : Int) = z at *
          go_wp2_with (go_at_call 45; (with_reducible refine Calls.mono P.out ?_); rintro e w3 ⟨rfl, hc⟩; have D3 := Lib.hid (D.out.thenSame hc); clear hc)
          exact ⟨⟨i + 1, by go_num, by omega, T1, D3⟩, by simp [intOf]; omega⟩
        · have hz : plcZ o (i : Int) < 0 := plcZ_neg.2 hio
          have hx : (l.map Cl.p)[i]? = some (l[i]).p := by rw [List.getElem?_map, List.getElem?_eq_getElem hil]; rfl
          have hdo := valid_do (st := st) HHH.out (List.mem_map_of_mem (f := Cl.p) (List.getElem_mem hil)) HCS.out
          have TS := try_step (o := o) (st := st) (F := findF (l.map Cl.p) n) hx hio (HSF.out _ (List.mem_map_of_mem (f := Cl.p) (List.getElem_mem hil))) hdo
          rw [List.length_map] at TS
          have OS := Lib.hid (ord_snoc HO.out hil hio)
          have GZ := doZ_good (o := (l[i]).o) (st := st) hdo HSG.out (HG.out _ (List.getElem_mem hil)).1
          have CZ := doZ_next hdo
          have NX := stepX_next (l := l.map Cl.p) (o := o ++ [(i : Int)]) (k := o.length) hdo
          have ST := fun w' (hc : Chg [] w w') a c (h : InIs icI 1 w' a c (o ++ [(i : Int)])) => rstep_any (HL.out.kept hc) HG.out HGA.out (HS.out.kept hc) HSG.out h (by rw [List.length_append]; simp; omega) (by omega) (HT.out.kept hc) o.length i (by rw [List.length_append]; simp) (by simp) hil hdo
          rw [show (l[i]).o.p = (l[i]).p.o from rfl] at GZ
          generalize (l[i]).p = x at *
          generalize stepX (l.map Cl.p) st (o ++ [(i : Int)]) o.length x = Z at *
          obtain ⟨ze, zs, zr, za⟩ := Z
          simp only at TS NX ST
          have e1 : (o ++ [(i : Int)]).length = o.length + 1 := by simp
          have ST2 := Lib.hid (fun w' (hc : Chg [] w w') a c (h : InIs icI 1 w' a c (o ++ [(i : Int)])) => show Calls Tryz.prog 32 #[.slice sa st.length sc, .slice la l.length lc, .slice a (o.length + 1) c, .int .i64 (o.length : Int)] w' (RDoP w' (ze, zs, zr, za)) from by have := ST w' hc a c h; rwa [e1] at this)
          have E1 := Lib.hid e1
          clear ST hx hio him hdo e1
          generalize plcZ o (i : Int) = z at *
          by_cases hze : ze = 0
          case neg =>
            have hzb : (ze != 0) = true := by simp [hze]
            rw [if_neg hze] at TS
            have T1 := Lib.hid (show ∀ j, j < i + 1 → tryF (l.map Cl.p) (findF (l.map Cl.p) n) st (plM l.length o) o j = none from fun j hj => by
              by_cases e : j < i
              · exact TN.out j e
              · have : j = i := by omega
                subst this
                exact TS)
            clear TS NX GZ CZ hze
            go_upto_region 8 with (first | (go_at_call 45; (with_reducible refine Calls.mono P.out ?_); rintro e w3 ⟨rfl, hc⟩; have D3 := Lib.hid (D.out.thenSame hc); clear hc) | (at_make; (refine wpl_make (cf := icI) rfl _ _ 27 rfl w.heap.size 3 _ 8 Tryz.underlying27 intInfo3 (0 : Int) rfl rfl o.length rfl rfl (by omega) (by unfold maxLen; omega) D3.out.size ?_); intro w4 hr4 hc4 hl4; have R4 := Lib.hid hr4; have D4 := Lib.hid (D3.out.thenSame hc4); clear hr4 hc4))
            go_upto_region 9 with ((refine wpl_copyI rfl _ _ rfl w.heap.size rfl rfl R4.out (by simp) (HI.out.kept D4.out) ?_); intro w5 hr5 hc5 hz5; have R5 := Lib.hid hr5; have D5 := Lib.hid (D4.out.then hc5 (by intro x hx hlt; have := D3.out.size; simp at hx; omega)); clear hr5 hc5 hz5)
            go_wp2_with (first | (at_builtin; (refine wpl_appendL rfl _ _ 27 rfl w.heap.size 3 _ 8 Tryz.underlying27 intInfo3 rfl (by decide) icI_len icI_one (.slice (some ⟨w3.heap.size, 0, none⟩) o.length o.length) o rfl (R5.out.kept ((Chg.refl [] w5).alloc (.cells #[.int .i64 (i : Int)] 3 (0, 0))) (by simp)) w5.heap.size 1 (i : Int) _ _ _ rfl (heap_alloc_new w5 _) rfl (by unfold maxLen; omega) (by omega) (by rw [World.size_alloc]; have := D5.out.size; omega) ?_); intro g8 c8 w8 hr8 hg8 ho8 hl8; have K8 := Chg.ofRow hg8; have I8 := Lib.hid (InIs.ofRow hr8 icI_len).2; have D8 := Lib.hid ((D5.out.alloc (.cells #[.int .i64 (i : Int)] 3 (0, 0))).then K8 (by intro x hx hlt; have := D3.out.size; simp [Value.ownBlock] at hx; omega)); clear hr8 hg8 ho8 K8) | (go_at_call 32; (with_reducible refine Calls.mono (ST2.out _ D8.out _ _ I8.out) ?_); rintro e w9 ⟨na2, nc2, va2, vc2, rfl, hn9, hv9, hc9⟩; have N9 := Lib.hid (hn9.kept ((Chg.refl [] w9).alloc (.cells #[.int .i64 zr, .slice va2 za.length vc2] 38))); have C9 := Lib.hid (hc9.alloc (.cells #[.int .i64 zr, .slice va2 za.length vc2] 38)); have D9 := Lib.hid (D8.out.thenSame C9.out); clear hn9 hv9 hc9))
            exact ⟨⟨i + 1, by go_num, by omega, T1, D9⟩, by simp [intOf]; omega⟩
          subst hze
          rw [if_pos rfl] at TS
          have NG := Lib.hid (show goodL zs ∧ checkZ zs = 0 by rw [NX rfl]; exact ⟨GZ, CZ⟩)
          obtain ⟨r, hr⟩ : ∃ r, r = findF (l.map Cl.p) n zs (plM l.length (o ++ [(i : Int)])) (o ++ [(i : Int)]) := ⟨_, rfl⟩
          have SR := Lib.hid (fun w' (hc : Chg [] w w') na nc (hs : InIs ceC 4 w' na nc zs) a c (h : InIs icI 1 w' a c (o ++ [(i : Int)])) => show Calls Tryz.prog 23 #[.slice na zs.length nc, .slice la l.length lc, .slice a (o.length + 1) c] w' (RSP w' r) from by
            have := IH.out w' la lc (HL.out.kept hc) (HT.out.kept hc) na nc zs hs NG.out.1 NG.out.2 a c (o ++ [(i : Int)]) h OS.out (by rw [E1.out]; have := HN.out; omega)
            rw [← hr, E1.out] at this
            exact this)
          rw [← hr] at TS
          clear NX GZ CZ hr
          cases r with
          | none =>
            have T1 := Lib.hid (show ∀ j, j < i + 1 → tryF (l.map Cl.p) (findF (l.map Cl.p) n) st (plM l.length o) o j = none from fun j hj => by
              by_cases e : j < i
              · exact TN.out j e
              · have : j = i := by omega
                subst this
                exact TS)
            clear TS
            go_upto_region 8 with (first | (go_at_call 45; (with_reducible refine Calls.mono P.out ?_); rintro e w3 ⟨rfl, hc⟩; have D3 := Lib.hid (D.out.thenSame hc); clear hc) | (at_make; (refine wpl_make (cf := icI) rfl _ _ 27 rfl w.heap.size 3 _ 8 Tryz.underlying27 intInfo3 (0 : Int) rfl rfl o.length rfl rfl (by omega) (by unfold maxLen; omega) D3.out.size ?_); intro w4 hr4 hc4 hl4; have R4 := Lib.hid hr4; have D4 := Lib.hid (D3.out.thenSame hc4); clear hr4 hc4))
            go_upto_region 9 with ((refine wpl_copyI rfl _ _ rfl w.heap.size rfl rfl R4.out (by simp) (HI.out.kept D4.out) ?_); intro w5 hr5 hc5 hz5; have R5 := Lib.hid hr5; have D5 := Lib.hid (D4.out.then hc5 (by intro x hx hlt; have := D3.out.size; simp at hx; omega)); clear hr5 hc5 hz5)
            go_wp2_with (first | (at_builtin; (refine wpl_appendL rfl _ _ 27 rfl w.heap.size 3 _ 8 Tryz.underlying27 intInfo3 rfl (by decide) icI_len icI_one (.slice (some ⟨w3.heap.size, 0, none⟩) o.length o.length) o rfl (R5.out.kept ((Chg.refl [] w5).alloc (.cells #[.int .i64 (i : Int)] 3 (0, 0))) (by simp)) w5.heap.size 1 (i : Int) _ _ _ rfl (heap_alloc_new w5 _) rfl (by unfold maxLen; omega) (by omega) (by rw [World.size_alloc]; have := D5.out.size; omega) ?_); intro g8 c8 w8 hr8 hg8 ho8 hl8; have K8 := Chg.ofRow hg8; have I8 := Lib.hid (InIs.ofRow hr8 icI_len).2; have D8 := Lib.hid ((D5.out.alloc (.cells #[.int .i64 (i : Int)] 3 (0, 0))).then K8 (by intro x hx hlt; have := D3.out.size; simp [Value.ownBlock] at hx; omega)); clear hr8 hg8 ho8 K8) | (go_at_call 32; (with_reducible refine Calls.mono (ST2.out _ D8.out _ _ I8.out) ?_); rintro e w9 ⟨na2, nc2, va2, vc2, rfl, hn9, hv9, hc9⟩; have N9 := Lib.hid (hn9.kept ((Chg.refl [] w9).alloc (.cells #[.int .i64 zr, .slice va2 za.length vc2] 38))); have C9 := Lib.hid (hc9.alloc (.cells #[.int .i64 zr, .slice va2 za.length vc2] 38)); have D9 := Lib.hid (D8.out.thenSame C9.out); clear hn9 hv9 hc9) | (go_at_call 23; (with_reducible refine Calls.mono (SR.out _ D9.out _ _ N9.out _ _ (I8.out.kept C9.out)) ?_); rintro e w10 ⟨ra, rc, rfl, -, hc⟩; have D10 := Lib.hid (D9.out.thenSame hc); clear hc))
            exact ⟨⟨i + 1, by go_num, by omega, T1, D10⟩, by simp [intOf]; omega⟩
          | some r =>
            have HE := Lib.hid (show R = some r by rw [HR.out, List.length_map]; exact firstO_at (Nat.zero_le i) (by omega) (fun j _ hj => TN.out j hj) TS)
            clear TS
            go_upto_region 8 with (first | (go_at_call 45; (with_reducible refine Calls.mono P.out ?_); rintro e w3 ⟨rfl, hc⟩; have D3 := Lib.hid (D.out.thenSame hc); clear hc) | (at_make; (refine wpl_make (cf := icI) rfl _ _ 27 rfl w.heap.size 3 _ 8 Tryz.underlying27 intInfo3 (0 : Int) rfl rfl o.length rfl rfl (by omega) (by unfold maxLen; omega) D3.out.size ?_); intro w4 hr4 hc4 hl4; have R4 := Lib.hid hr4; have D4 := Lib.hid (D3.out.thenSame hc4); clear hr4 hc4))
            go_upto_region 9 with ((refine wpl_copyI rfl _ _ rfl w.heap.size rfl rfl R4.out (by simp) (HI.out.kept D4.out) ?_); intro w5 hr5 hc5 hz5; have R5 := Lib.hid hr5; have D5 := Lib.hid (D4.out.then hc5 (by intro x hx hlt; have := D3.out.size; simp at hx; omega)); clear hr5 hc5 hz5)
            go_wp2_with (first | (at_builtin; (refine wpl_appendL rfl _ _ 27 rfl w.heap.size 3 _ 8 Tryz.underlying27 intInfo3 rfl (by decide) icI_len icI_one (.slice (some ⟨w3.heap.size, 0, none⟩) o.length o.length) o rfl (R5.out.kept ((Chg.refl [] w5).alloc (.cells #[.int .i64 (i : Int)] 3 (0, 0))) (by simp)) w5.heap.size 1 (i : Int) _ _ _ rfl (heap_alloc_new w5 _) rfl (by unfold maxLen; omega) (by omega) (by rw [World.size_alloc]; have := D5.out.size; omega) ?_); intro g8 c8 w8 hr8 hg8 ho8 hl8; have K8 := Chg.ofRow hg8; have I8 := Lib.hid (InIs.ofRow hr8 icI_len).2; have D8 := Lib.hid ((D5.out.alloc (.cells #[.int .i64 (i : Int)] 3 (0, 0))).then K8 (by intro x hx hlt; have := D3.out.size; simp [Value.ownBlock] at hx; omega)); clear hr8 hg8 ho8 K8) | (go_at_call 32; (with_reducible refine Calls.mono (ST2.out _ D8.out _ _ I8.out) ?_); rintro e w9 ⟨na2, nc2, va2, vc2, rfl, hn9, hv9, hc9⟩; have N9 := Lib.hid (hn9.kept ((Chg.refl [] w9).alloc (.cells #[.int .i64 zr, .slice va2 za.length vc2] 38))); have C9 := Lib.hid (hc9.alloc (.cells #[.int .i64 zr, .slice va2 za.length vc2] 38)); have D9 := Lib.hid (D8.out.thenSame C9.out); clear hn9 hv9 hc9) | (go_at_call 23; (with_reducible refine Calls.mono (SR.out _ D9.out _ _ N9.out _ _ (I8.out.kept C9.out)) ?_); rintro e w10 ⟨ra, rc, rfl, hi10, hc⟩; have I10 := Lib.hid hi10; have D10 := Lib.hid (D9.out.thenSame hc); clear hc hi10))
            rw [HE.out]
            go_ret2
            exact ⟨ra, rc, rfl, I10.out, D10.out⟩
      · have hie : i = l.length := by omega
        have HE := Lib.hid (show R = none by rw [HR.out, List.length_map]; exact firstO_none (fun j _ hj => TN.out j (by omega)))
        clear hie
        go_wp2_with fail
        rw [HE.out]
        go_ret2
        exact ⟨none, 0, rfl, InIs.nilI, D.out⟩
end Go.Proofs.YtnhemokmgpelaaaGreatDoor
namespace Go.Proofs.YtnhemokmgpelaaaGreatDoor
set_option linter.unusedVariables false
set_option linter.unusedSimpArgs false
open Go.RowKit
variable {w : World} {la : Option Addr} {lc : Nat} {l : List Cl} {sa : Option Addr} {sc : Nat} {st : List Ce}
/-- What the reference's Find returns. -/
def RFP (w : World) (r : List Int × Int) (e : Ending) (w' : World) : Prop :=
  ∃ oa oc, e = .returned (.tuple #[.slice oa r.1.length oc, .int .i64 r.2]) ∧ InIs icI 1 w' oa oc r.1 ∧ Chg [] w w'
def frO (r : Option (List Int)) : List Int × Int := match r with | none => ([], 19) | some o => (o, 0)
theorem findZ_frO {st : List Ce} {l : List PCl} (h : hchkZ st l = 0) : findZ st l = frO (findF l l.length st (List.replicate l.length false) []) := by
  unfold findZ
  rw [if_neg (by simp [h])]
  rfl
set_option maxHeartbeats 8000000 in
set_option maxRecDepth 100000 in
theorem rfind_any (hl : LIn w la lc l) (hg : ∀ x ∈ l, goodCl x) (hga : ∀ x ∈ l, goodL x.ans) (hs : InIs ceC 4 w sa sc st) (hsg : goodL st) (ht : TabW w) :
    Calls Tryz.prog 8 #[.slice sa st.length sc, .slice la l.length lc] w (RFP w (findZ st (l.map Cl.p))) := by
  obtain ⟨R, hR⟩ : ∃ R, R = findZ st (l.map Cl.p) := ⟨_, rfl⟩
  rw [← hR]
  have HR := Lib.hid hR
  have A1 := Lib.hid (rhcheck_any hl hg ht)
  have A2 := Lib.hid (fun w' (hc : Chg [] w w') => rcheck_any sa sc st w' (hs.kept hc).1 hsg.1 hsg.2 (ht.kept hc))
  by_cases h1 : hcheckZ (l.map Cl.p) = 0
  case neg =>
    have HE := Lib.hid (show R = ([], hcheckZ (l.map Cl.p)) by
      have e : hchkZ st (l.map Cl.p) = hcheckZ (l.map Cl.p) := by unfold hchkZ; rw [if_pos h1]
      rw [HR.out]; unfold findZ; rw [e, if_pos h1])
    have hb : (hcheckZ (l.map Cl.p) != 0) = true := by simp [h1]
    rw [HE.out]
    clear hR hl hg hga hs hsg ht h1 HE HR A2
    generalize hcheckZ (l.map Cl.p) = z at *
    go_enter Tryz.func8, Tryz.ntmps8
    go_wp2_with fail
    refine A1.out.mono ?_; rintro e w2 ⟨rfl, hc⟩
    have C2 := Lib.hid hc
    clear hc
    go_wp2_with fail
    go_ret2
    exact ⟨none, 0, rfl, InIs.nilI, C2.out⟩
  rw [h1] at A1
  by_cases h2 : checkZ st = 0
  case neg =>
    have HE := Lib.hid (show R = ([], checkZ st) by
      have e : hchkZ st (l.map Cl.p) = checkZ st := by unfold hchkZ; rw [if_neg (by simp [h1])]
      rw [HR.out]; unfold findZ; rw [e, if_pos h2])
    have hb : (checkZ st != 0) = true := by simp [h2]
    rw [HE.out]
    clear hR hl hg hga hs hsg ht h1 h2 HE HR
    generalize checkZ st = z at *
    go_enter Tryz.func8, Tryz.ntmps8
    go_wp2_with fail
    refine A1.out.mono ?_; rintro e w2 ⟨rfl, hc⟩
    have C2 := Lib.hid hc
    clear hc
    go_wp2_with fail
    refine (A2.out _ C2.out).mono ?_; rintro e w3 ⟨rfl, hc⟩
    have C3 := Lib.hid (C2.out.thenSame hc)
    clear hc
    go_wp2_with fail
    go_ret2
    exact ⟨none, 0, rfl, InIs.nilI, C3.out⟩
  rw [h2] at A2
  have hcz : hchkZ st (l.map Cl.p) = 0 := by unfold hchkZ; rw [if_neg (by simp [h1])]; exact h2
  obtain ⟨r, hr⟩ : ∃ r, r = findF (l.map Cl.p) l.length st (List.replicate l.length false) [] := ⟨_, rfl⟩
  have SR := Lib.hid (fun w' (hc : Chg [] w w') => show Calls Tryz.prog 23 #[.slice sa st.length sc, .slice la l.length lc, .slice none 0 0] w' (RSP w' r) from by
    have := rsearch_all h1 hg hga l.length w' la lc (hl.kept hc) (ht.kept hc) sa sc st (hs.kept hc) hsg h2 none 0 [] InIs.nilI ⟨by simp, fun x hx => by cases hx⟩ (by simp)
    rw [plM_nil, ← hr] at this
    exact this)
  have HF := Lib.hid (show R = frO r by rw [HR.out, findZ_frO hcz, List.length_map, ← hr])
  clear hR hl hg hga hs hsg ht h1 h2 hcz hr HR
  cases r with
  | none =>
    have HE := Lib.hid (show R = ([], 19) from HF.out)
    rw [HE.out]
    go_enter Tryz.func8, Tryz.ntmps8
    go_wp2_with fail
    refine A1.out.mono ?_; rintro e w2 ⟨rfl, hc⟩
    have C2 := Lib.hid hc
    clear hc
    go_wp2_with fail
    refine (A2.out _ C2.out).mono ?_; rintro e w3 ⟨rfl, hc⟩
    have C3 := Lib.hid (C2.out.thenSame hc)
    clear hc
    go_wp2_with fail
    refine (SR.out _ C3.out).mono ?_; rintro e w4 ⟨ra, rc, rfl, -, hc⟩
    have C4 := Lib.hid (C3.out.thenSame hc)
    clear hc
    go_wp2_with fail
    go_ret2
    exact ⟨none, 0, rfl, InIs.nilI, C4.out⟩
  | some o =>
    have HE := Lib.hid (show R = (o, 0) from HF.out)
    rw [HE.out]
    go_enter Tryz.func8, Tryz.ntmps8
    go_wp2_with fail
    refine A1.out.mono ?_; rintro e w2 ⟨rfl, hc⟩
    have C2 := Lib.hid hc
    clear hc
    go_wp2_with fail
    refine (A2.out _ C2.out).mono ?_; rintro e w3 ⟨rfl, hc⟩
    have C3 := Lib.hid (C2.out.thenSame hc)
    clear hc
    go_wp2_with fail
    refine (SR.out _ C3.out).mono ?_; rintro e w4 ⟨ra, rc, rfl, hi, hc⟩
    have C4 := Lib.hid (C3.out.thenSame hc)
    have I4 := Lib.hid hi
    clear hc hi
    go_wp2_with fail
    go_ret2
    exact ⟨ra, rc, rfl, I4.out, C4.out⟩
theorem eop_args {x : EOp} {w : World} (h : ArgsIn w x.aa x.ac x.args) (hc : ∀ v ∈ x.p.args, checkZ v = 0) : ∀ d ∈ x.args, ∀ p, d.a = some p → p.block < w.heap.size := by
  intro d hd p hp
  have := check_zero (hc d.L (List.mem_map_of_mem (f := Rr.L) hd))
  exact (h.2 d hd).lt hp (List.length_pos_iff.2 this.1)
set_option maxHeartbeats 16000000 in
set_option maxRecDepth 100000 in
theorem rserial_any (hl : LIn w la lc l) (hg : ∀ x ∈ l, goodCl x) (hga : ∀ x ∈ l, goodL x.ans) (hs : InIs ceC 4 w sa sc st) (hsg : goodL st) (ht : TabW w) :
    Calls Tryz.prog 10 #[.slice sa st.length sc, .slice la l.length lc] w (SerP w (serZ st (l.map Cl.p))) := by
  have A := Lib.hid (rfind_any hl hg hga hs hsg ht)
  by_cases hz : (findZ st (l.map Cl.p)).2 = 0
  case neg =>
    have HE := Lib.hid (show serZ st (l.map Cl.p) = ([], (findZ st (l.map Cl.p)).2) by unfold serZ; rw [if_pos hz])
    rw [HE.out]
    have hzb : ((findZ st (l.map Cl.p)).2 != 0) = true := by simpa using hz
    clear hl hg hga hs hsg ht hz HE
    generalize findZ st (l.map Cl.p) = z at *
    obtain ⟨z1, z2⟩ := z
    simp only at hzb A
    go_enter Tryz.func10, Tryz.ntmps10
    go_wp2_with fail
    refine A.out.mono ?_; rintro e w2 ⟨oa, oc, rfl, -, hc⟩
    have C2 := Lib.hid hc
    clear hc
    go_wp2_with fail
    go_ret2
    exact ⟨none, 0, [], rfl, rfl, ⟨⟨⟨rfl, fun k hk => by simp at hk⟩, Nat.le_refl _, Nat.zero_le _, fun _ => rfl⟩, fun x hx => by cases hx⟩, C2.out⟩
  obtain ⟨f1, f2, q, f3, f4⟩ := find_facts hz
  have HE := Lib.hid (show serZ st (l.map Cl.p) = (serGo (l.map Cl.p) (findZ st (l.map Cl.p)).1 st, 0) by unfold serZ; rw [if_neg (by simp [hz])])
  rw [HE.out]
  have hcl := compl_len (l := l.map Cl.p) (order := (findZ st (l.map Cl.p)).1) (by unfold completeB; rw [f3]; exact f4)
  rw [List.length_map] at hcl
  have hh : hcheckZ (l.map Cl.p) = 0 ∧ checkZ st = 0 := by
    unfold hchkZ at f1
    split at f1
    · rename_i h1; exact absurd f1 h1
    · rename_i h1; exact ⟨by simpa using h1, f1⟩
  have h8 : l.length ≤ 8 := by have := (hcheck_zero hh.1).1; rwa [List.length_map] at this
  generalize findZ st (l.map Cl.p) = z at *
  obtain ⟨o, z2⟩ := z
  simp only at hz f2 f3 f4 hcl A
  subst hz
  obtain ⟨R, hR⟩ : ∃ R, R = serGo (l.map Cl.p) o st := ⟨_, rfl⟩
  simp only
  rw [← hR]
  have RR0 := Lib.hid hR
  have F2 := Lib.hid f2
  have H := Lib.hid hl
  have HG := Lib.hid hg
  have HS := Lib.hid hs
  have HSG := Lib.hid hsg
  have HT := Lib.hid ht
  have HSL := Lib.hid (show ∀ y, sa = some y → y.block < w.heap.size from fun y hy => hs.lt hy (List.length_pos_iff.2 (check_zero hh.2).1))
  have ho8 : o.length ≤ 8 := by omega
  have ho8' : (o.length : Int) ≤ 8 := by omega
  have hl8 : (l.length : Int) ≤ 8 := by omega
  have hl0 : (0 : Int) ≤ (l.length : Int) := by omega
  clear hl hg hga hs hsg ht f1 f2 f3 f4 hh hR HE hcl h8
  go_enter Tryz.func10, Tryz.ntmps10
  go_wp2_with fail
  refine A.out.mono ?_; rintro e w2 ⟨oa, oc, rfl, ho, hc⟩
  have C2 := Lib.hid hc
  have HO := Lib.hid ho
  clear hc ho A
  go_wp2_with fail
  go_loopw [8, 9, 10] (fun u s i wr => ∃ (k : Nat) (a : Option Addr) (c : Nat) (D : List Cl) (na : Option Addr) (nc : Nat) (s1 : List Ce), u = .slice a D.length c ∧ s = .slice na s1.length nc ∧ i = .int .i64 k ∧ k ≤ o.length ∧ Hid (D.length = k) ∧ Hid (SerI w2 wr a c D) ∧ Hid (InIs ceC 4 wr na nc s1) ∧ Hid (∀ y, na = some y → y.block < wr.heap.size ∧ ob a ≠ some y.block) ∧ Hid (goodL s1) ∧ Hid (LegOk (l.map Cl.p) (o.drop k) s1) ∧ Hid (R = D.map Cl.p ++ serGo (l.map Cl.p) (o.drop k) s1)) (fun _ _ i _ => o.length - (intOf i).toNat)
  case atStart => exact ⟨0, none, 0, [], sa, sc, st, rfl, rfl, rfl, Nat.zero_le _, Lib.hid rfl, Lib.hid ⟨Chg.refl _ _, RowOf.nil _ _ _, fun d hd => by cases hd⟩, Lib.hid (HS.out.kept C2.out), Lib.hid (fun y hy => ⟨C2.out.lt (HSL.out y hy), fun e => by cases e⟩), HSG, F2, Lib.hid (by rw [RR0.out]; rfl)⟩
  case round =>
    obtain ⟨k, a, c, D, na, nc, s1, rfl, rfl, rfl, hk, hDk, SI, IS, SF, SG, LO, RR⟩ := hrel
    have hk0 : (0 : Int) ≤ (k : Int) := by omega
    by_cases hko : k < o.length
    · have hko' : (k : Int) < (o.length : Int) := by omega
      obtain ⟨n, x, e1, hx, hz0, hans, hleg, hser⟩ := legOk_drop hko LO.out
      obtain ⟨b1, o1, e2, -, -, hc1⟩ := HO.out.1.elem SI.out.chg k hko
      subst e2
      have u1 := hc1 0 (by omega)
      rw [e1] at u1
      simp only [icI, List.getElem?_cons_zero, Nat.add_zero, Nat.mul_one] at u1
      clear hc1 e1
      have hn : n < l.length := by have := (List.getElem?_eq_some_iff.1 hx).1; rwa [List.length_map] at this
      have CW := Lib.hid (C2.out.thenSame SI.out.chg)
      obtain ⟨b2, o2, e3, -, hc2⟩ := H.out.at8 (w' := wr) n hn
      subst e3
      have hxe : (l[n]).p = x := by have := (List.getElem?_eq_some_iff.1 hx).2; rwa [List.getElem_map] at this
      have hgx := HG.out _ (List.getElem_mem hn)
      have hiw := H.out.2 _ (List.getElem_mem hn)
      obtain ⟨x0, x1, x2, x3, x4, x5, x6, x7⟩ := hc2 _ CW.out
      have hn0 : (0 : Int) ≤ (n : Int) := by omega
      have hn1 : (n : Int) < (l.length : Int) := by omega
      generalize l[n] = xc at *
      subst hxe
      obtain ⟨p1, p2, p3⟩ := chk_zero (doZ_zero hz0).1
      have HXA := Lib.hid (eop_args hiw.1 p3)
      have HIW := Lib.hid hiw
      obtain ⟨W3, hW3⟩ : ∃ W3, W3 = wr.alloc (clO xc) := ⟨_, rfl⟩
      have D3 := Lib.hid (show Chg [] wr W3 by rw [hW3]; exact (Chg.refl _ _).alloc _)
      have B3 := Lib.hid (show W3.heap[wr.heap.size]? = some (clO xc) by rw [hW3]; exact heap_alloc_new _ _)
      have z3 : W3.heap.size = wr.heap.size + 1 := by rw [hW3, World.size_alloc]
      have DO := rdo_orig na nc s1 xc.o W3 (IS.out.kept D3.out) SG.out (hiw.1.kept (CW.out.thenSame D3.out)) hgx.1 (HT.out.kept (CW.out.thenSame D3.out))
      have GZ := doZ_good (o := xc.o) (st := s1) hz0 SG.out hgx.1
      have NZ := doZ_next hz0
      have YE : ansP s1 xc.p = ⟨xc.p.o, (doZ s1 xc.p.o).2.2.1, (doZ s1 xc.p.o).2.2.2, xc.p.from_, xc.p.to_⟩ := by
        unfold ansP
        cases hq : openB xc.p
        · obtain ⟨a1, a2⟩ := hans hq
          rw [if_neg (by simp), a1, a2]
        · rw [if_pos rfl]
      rw [show xc.o.p = xc.p.o from rfl] at DO GZ
      have HRR := Lib.hid (show R = D.map Cl.p ++ ⟨xc.p.o, (doZ s1 xc.p.o).2.2.1, (doZ s1 xc.p.o).2.2.2, xc.p.from_, xc.p.to_⟩ :: serGo (l.map Cl.p) (o.drop (k + 1)) (doZ s1 xc.p.o).2.1 by rw [RR.out, hser, YE])
      generalize doZ s1 xc.p.o = Z at *
      obtain ⟨ze, zs, zr, za⟩ := Z
      simp only at hz0 GZ NZ hleg DO HRR
      subst hz0
      simp only [eoC] at DO
      have DO := Lib.hid DO
      rename_i DO0
      have HLEG := Lib.hid hleg
      have GZ := Lib.hid GZ
      have NZ := Lib.hid NZ
      have Z3 := Lib.hid z3
      have hob := SI.out.row.block
      rw [ob_eq] at hob
      have HOB := Lib.hid hob
      have zw := CW.out.size
      have zw2 := C2.out.size
      clear DO0 hgx hiw p1 p2 p3 hser hleg hans hc2 hx YE hob z3
      unfold clO at hW3 B3
      go_upto_region 10 with fail
      rw [← hW3]
      have k3 := blk_cell B3.out
      clear hW3 x0 x1 x2 x3 x4 x5 x6 x7
      go_upto_region 11 with (go_at_call 16; (with_reducible refine Calls.mono DO.out ?_); rintro e w4 ⟨na2, nc2, va2, vc2, rfl, hn4, hv4, hf4, hc4⟩; have N4 := Lib.hid hn4; have V4 := Lib.hid hv4; have F4 := Lib.hid hf4; have C4 := Lib.hid hc4; clear hn4 hv4 hf4 hc4 DO)
      obtain ⟨W4, hW4⟩ : ∃ W4, W4 = w4.alloc (.cells #[.int .i64 zr, .slice va2 za.length vc2] 38) := ⟨_, rfl⟩
      have D4 := Lib.hid (show Chg [] w4 W4 by rw [hW4]; exact (Chg.refl _ _).alloc _)
      have T4 := Lib.hid (show W4.heap[w4.heap.size]? = some (.cells #[.int .i64 zr, .slice va2 za.length vc2] 38 (0, 0)) by rw [hW4]; exact heap_alloc_new _ _)
      have B4 := Lib.hid (D4.out.at (by simp) (C4.out.at (by simp) B3.out))
      rw [← hW4]
      clear hW4 k3
      have OR := Lib.hid (show ∀ y, na2 = some y ∨ va2 = some y → (y.block < wr.heap.size ∧ ob a ≠ some y.block) ∨ wr.heap.size < y.block from fun y hy => by
        rcases F4.out y hy with hm | hm
        · rcases List.mem_cons.1 hm with e | hm
          · exact .inl (SF.out y e.symm)
          · obtain ⟨d, hd, e⟩ := List.mem_map.1 hm
            have h1 := HXA.out d hd y e
            exact .inl ⟨by omega, fun e2 => by have := HOB.out _ e2; omega⟩
        · have := Z3.out
          exact .inr (by omega))
      have k4 := blk_cell B4.out
      have f4 := blk_free B4.out
      have t4 := blk_cell T4.out
      go_upto_region 13 with fail
      obtain ⟨W6, hW6⟩ : ∃ W6, W6 = (W4.setCell ⟨wr.heap.size, 4, none⟩ (.int .i64 zr)).setCell ⟨wr.heap.size, 5, none⟩ (.slice va2 za.length vc2) := ⟨_, rfl⟩
      have B6 := blk_set (blk_set (show W4.heap[wr.heap.size]? = some (.cells _ _ (0, 0)) from B4.out) 4 (.int .i64 zr)) 5 (.slice va2 za.length vc2)
      rw [← hW6] at B6
      have k6 := blk_cell B6
      have E6 := Lib.hid (show Chg [wr.heap.size] W4 W6 by rw [hW6]; exact ((Chg.refl _ _).setCell _ _ (by simp)).setCell _ _ (by simp))
      rw [← hW6]
      clear hW6 k4 f4 t4 B6
      have Y6 := Lib.hid (show Chg [wr.heap.size] w4 W6 from (D4.out.mono (by simp)).thenSame E6.out)
      have K6 := Lib.hid (show Chg [wr.heap.size] wr W6 from (((D3.out.thenSame C4.out).thenSame D4.out).mono (by simp)).thenSame E6.out)
      have hD8 : D.length ≤ 7 := by have := hDk.out; omega
      have SI6 := Lib.hid (SI.out.keptB K6.out (fun b hb => by simp at hb; omega))
      have s6 := Y6.out.size
      have s7 := SI6.out.chg.size
      have ON := Lib.hid (show ∀ b, xc.on b → b < w.heap.size from fun b hb => HIW.out.on_lt hb)
      have YI3 := Lib.hid ((HIW.out.kept ((CW.out.thenSame D3.out).thenSame C4.out)).keptOn Y6.out (fun b hb hm => by have := ON.out b hb; simp at hm; omega))
      have YV := Lib.hid (V4.out.keptN Y6.out (fun x hx hm => by have := OR.out x (.inr hx); simp at hm; omega))
      have N6 := Lib.hid (N4.out.keptN Y6.out (fun x hx hm => by have := OR.out x (.inl hx); simp at hm; omega))
      have YI := Lib.hid (show ClIn W6 ⟨xc.o, zr, va2, vc2, za, xc.from_, xc.to_⟩ from ⟨YI3.out.1, YV.out⟩)
      have YB := Lib.hid (show ∀ b, Cl.on ⟨xc.o, zr, va2, vc2, za, xc.from_, xc.to_⟩ b → ob a ≠ some b from fun b hb e => by
        have h2 := HOB.out b e
        rcases hb with hb | ⟨x, h1, -, rfl⟩ | hb
        · have := ON.out b (.inl hb); omega
        · rcases OR.out x (.inr h1) with ⟨-, h3⟩ | h3
          · exact h3 e
          · omega
        · have := ON.out b (.inr (.inr hb)); omega)
      go_wp2_with (at_builtin; (refine wpl_appendL rfl _ _ 23 rfl w2.heap.size 40 _ 120 Tryz.underlying23 callInfo rfl (by decide) clC_len clC_one (.slice a D.length c) D rfl (SI6.out.keptN ((Chg.refl [] W6).alloc (clO ⟨xc.o, zr, va2, vc2, za, xc.from_, xc.to_⟩))).row W6.heap.size 1 (⟨xc.o, zr, va2, vc2, za, xc.from_, xc.to_⟩ : Cl) _ _ _ rfl (heap_alloc_new W6 _) rfl (by unfold maxLen; omega) (by omega) (by rw [World.size_alloc]; omega) ?_); intro g8 c8 w8 hr8 hg8 ho8 hl8; have K8 := Lib.hid (Chg.ofRow (v := .slice a D.length c) hg8); have R8 := Lib.hid hr8; have O8 := Lib.hid ho8; clear hr8 hg8 ho8)
      have G8 := Lib.hid (show Chg (ob a).toList (W6.alloc (clO ⟨xc.o, zr, va2, vc2, za, xc.from_, xc.to_⟩)) w8 by have := K8.out; rwa [ob_eq] at this)
      have SI7 := Lib.hid (SI6.out.keptN ((Chg.refl [] W6).alloc (clO ⟨xc.o, zr, va2, vc2, za, xc.from_, xc.to_⟩)))
      have SI8 := Lib.hid (SI7.out.step (y := ⟨xc.o, zr, va2, vc2, za, xc.from_, xc.to_⟩) (YI.out.kept ((Chg.refl [] _).alloc _)) YB.out G8.out R8.out (by have := O8.out; rwa [ob_eq] at this))
      have N7 := Lib.hid (N6.out.kept ((Chg.refl [] _).alloc (clO ⟨xc.o, zr, va2, vc2, za, xc.from_, xc.to_⟩)))
      have hzs := List.length_pos_iff.2 (check_zero NZ.out).1
      have N8 := Lib.hid (N7.out.keptN G8.out (fun x hx hm => by
        have h2 := HOB.out x.block (by simpa using hm)
        rcases OR.out x (.inl hx) with ⟨-, h3⟩ | h3
        · exact h3 (by simpa using hm)
        · omega))
      have SF8 := Lib.hid (show ∀ y, na2 = some y → y.block < w8.heap.size ∧ ob (some ⟨g8, 0, none⟩) ≠ some y.block from fun y hy => by
        refine ⟨N8.out.lt hy hzs, fun e => ?_⟩
        have e : g8 = y.block := by simpa [ob] using e
        have h6 := N6.out.lt hy hzs
        rcases O8.out with e2 | e2
        · rw [ob_eq] at e2
          have h2 := HOB.out _ e2
          rcases OR.out y (.inl hy) with ⟨-, h3⟩ | h3
          · exact h3 (by rw [← e]; exact e2)
          · omega
        · rw [World.size_alloc] at e2
          omega)
      clear hzs
      exact ⟨⟨k + 1, _, _, D ++ [⟨xc.o, zr, va2, vc2, za, xc.from_, xc.to_⟩], na2, nc2, zs, by simp, rfl, by go_num, by omega, Lib.hid (by simp [hDk.out]), SI8, N8, SF8, GZ, HLEG, Lib.hid (by rw [HRR.out]; simp [Cl.p])⟩, by simp [intOf]; omega⟩
    · have hks : k = o.length := by omega
      have HX := Lib.hid (show D.map Cl.p = R by rw [RR.out, hks, List.drop_length]; simp [serGo])
      clear hks
      go_wp2_with fail
      go_ret2
      obtain ⟨e1, e2⟩ := InIs.ofRow SI.out.row clC_len
      exact ⟨a, c, D, rfl, HX.out, ⟨e2, fun d hd => (SI.out.ins d hd).1⟩, C2.out.thenSame SI.out.chg⟩
end Go.Proofs.YtnhemokmgpelaaaGreatDoor
namespace Go.Proofs.YtnhemokmgpelaaaGreatDoor
set_option linter.unusedVariables false
set_option linter.unusedSimpArgs false
open Go.RowKit
set_option maxHeartbeats 8000000 in
set_option maxRecDepth 100000 in
theorem lcall_any (x y : Cl) (w : World) (hx : ClIn w x) (hy : ClIn w y) (h : x.p = y.p) (ha : x.ans.length ≤ 3518437208780) (hv : ∀ d ∈ x.o.args, d.L.length ≤ 3518437208780) (hn : x.o.args.length ≤ 1099511627776) :
    Calls Tryz.prog 12 #[.agg (clC x).toArray, .agg (clC y).toArray] w fun e w' => e = .returned (.bool true) ∧ Chg [] w w' := by
  obtain ⟨W1, hW1⟩ : ∃ W1, W1 = (w.alloc (clO x)).alloc (clO y) := ⟨_, rfl⟩
  have C1 := Lib.hid (show Chg [] w W1 by rw [hW1]; exact ((Chg.refl [] w).alloc _).alloc _)
  have B1 := Lib.hid (show W1.heap[w.heap.size]? = some (clO x) by rw [hW1]; exact blk_alloc (heap_alloc_new w _))
  have B2 := Lib.hid (show W1.heap[w.heap.size + 1]? = some (clO y) by have := heap_alloc_new (w.alloc (clO x)) (clO y); rw [World.size_alloc] at this; rw [hW1]; exact this)
  have HX := Lib.hid (hx.kept C1.out)
  have HY := Lib.hid (hy.kept C1.out)
  obtain ⟨⟨ent, id, op, aa, ac, args⟩, err, va, vc, ans, fr, tt⟩ := x
  obtain ⟨⟨ent', id', op', aa', ac', args'⟩, err', va', vc', ans', fr', tt'⟩ := y
  simp only [Cl.p, EOp.p, PCl.mk.injEq, POp.mk.injEq] at h
  obtain ⟨⟨rfl, rfl, rfl, hargs⟩, rfl, rfl, rfl, rfl⟩ := h
  simp only at ha hv hn
  have hlen : args.length = args'.length := by have := congrArg List.length hargs; simpa using this
  have HLen := Lib.hid hlen
  have HAr := Lib.hid (show ∀ k (h1 : k < args.length) (h2 : k < args'.length), args[k].L = args'[k].L from fun k h1 h2 => by
    have : (args.map Rr.L)[k]? = (args'.map Rr.L)[k]? := by rw [hargs]
    rw [List.getElem?_map, List.getElem?_map, List.getElem?_eq_getElem h1, List.getElem?_eq_getElem h2] at this
    exact Option.some.inj this)
  have hlb : ((args.length : Int) != (args'.length : Int)) = false := by simp [hlen]
  have HV := Lib.hid hv
  have hn' : (args.length : Int) ≤ 1099511627776 := by omega
  unfold clO at hW1 B1 B2
  simp only at hW1 B1 B2
  have HW1 := Lib.hid hW1
  have SB := Lib.hid (fun (v : List Ce) => same_refl (e := ceE) (fun x => ceE_iff.2 rfl) v)
  have KP := Lib.hid (fun w' (hc : Chg [] W1 w') => And.intro (blk_cell (show w'.heap[w.heap.size]? = some (.cells _ _ (0, 0)) from hc.at (by simp) B1.out)) (blk_cell (show w'.heap[w.heap.size + 1]? = some (.cells _ _ (0, 0)) from hc.at (by simp) B2.out)))
  have CV := Lib.hid (fun w' (hc : Chg [] W1 w') => by
    have := lcells_any va vc ans va' vc' ans w' (HX.out.2.kept hc).1 (HY.out.2.kept hc).1 ha ha
    rw [SB.out ans] at this
    exact this)
  clear hW1 hx hy hargs hlen hv hn
  simp only [clC]
  go_enter Tryz.func12, Tryz.ntmps12
  go_upto_region 1 with fail
  rw [← HW1.out]
  have k1 := blk_cell B1.out
  have k2 := blk_cell B2.out
  go_wp2_with fail
  clear k1 k2
  go_loopw [5] (fun u wr => ∃ k : Nat, u = .int .i64 k ∧ k ≤ args.length ∧ Hid (Chg [] W1 wr)) (fun u _ => args.length - (intOf u).toNat)
  case atStart => exact ⟨0, rfl, Nat.zero_le _, Lib.hid (Chg.refl _ _)⟩
  case round =>
    obtain ⟨k, rfl, hk, D⟩ := hrel
    have hk0 : (0 : Int) ≤ (k : Int) := by omega
    obtain ⟨k1, k2⟩ := KP.out _ D.out
    by_cases hka : k < args.length
    · have hka' : (k : Int) < (args.length : Int) := by omega
      have hkb : k < args'.length := by have := HLen.out; omega
      have hkb' : (k : Int) < (args'.length : Int) := by omega
      obtain ⟨b1, o1, e1, -, -, hc1⟩ := HX.out.1.1.1.elem D.out k hka
      obtain ⟨b2, o2, e2, -, -, hc2⟩ := HY.out.1.1.1.elem D.out k hkb
      simp only at e1 e2
      subst e1
      subst e2
      have u1 := hc1 0 (by omega)
      have u2 := hc2 0 (by omega)
      simp only [rrC, List.getElem?_cons_zero, Nat.add_zero, Nat.mul_one] at u1 u2
      have UW := Lib.hid (fun w' (hc : Chg [] wr w') => show w'.cell? ⟨w.heap.size, 3, none⟩ = some (.slice (some ⟨b1, o1, none⟩) args.length ac) ∧ w'.cell? ⟨w.heap.size + 1, 3, none⟩ = some (.slice (some ⟨b2, o2, none⟩) args'.length ac') ∧ w'.cell? ⟨b1, o1 + k, none⟩ = some (.slice (args[k]).a (args[k]).L.length (args[k]).c) ∧ w'.cell? ⟨b2, o2 + k, none⟩ = some (.slice (args'[k]).a (args'[k]).L.length (args'[k]).c) from by
        obtain ⟨q1, q2⟩ := KP.out w' (D.out.thenSame hc)
        refine ⟨q1 3, q2 3, ?_, ?_⟩
        · obtain ⟨b, o', e, -, -, hcc⟩ := HX.out.1.1.1.elem (D.out.thenSame hc) k hka
          simp only [Option.some.injEq, Addr.mk.injEq, and_true] at e
          obtain ⟨rfl, rfl⟩ := e
          simpa [rrC] using hcc 0 (by omega)
        · obtain ⟨b, o', e, -, -, hcc⟩ := HY.out.1.1.1.elem (D.out.thenSame hc) k hkb
          simp only [Option.some.injEq, Addr.mk.injEq, and_true] at e
          obtain ⟨rfl, rfl⟩ := e
          simpa [rrC] using hcc 0 (by omega))
      have hL := HAr.out k hka hkb
      have hin1 := HX.out.1.2 _ (List.getElem_mem hka)
      have hin2 := HY.out.1.2 _ (List.getElem_mem hkb)
      have hsz := HV.out _ (List.getElem_mem hka)
      generalize args[k] = d at *
      generalize args'[k] = d' at *
      obtain ⟨da, dc, dL⟩ := d
      obtain ⟨da', dc', dL'⟩ := d'
      simp only at hL hin1 hin2 hsz UW u1 u2
      subst hL
      have CA := Lib.hid (fun w' (hc : Chg [] wr w') => show Calls Tryz.prog 27 #[.slice da dL.length dc, .slice da' dL.length dc'] w' fun e w'' => e = .returned (.bool true) ∧ Chg [] w' w'' from by
        have := lcells_any da dc dL da' dc' dL w' (hin1.kept (D.out.thenSame hc)).1 (hin2.kept (D.out.thenSame hc)).1 hsz hsz
        rw [SB.out dL] at this
        exact this)
      clear hc1 hc2 hin1 hin2 k1 k2 u1 u2 hsz
      have k1 := (UW.out _ (Chg.refl _ _)).1
      go_upto_region 6 with fail
      go_region_held3 (fun w' => w'.cell? ⟨w.heap.size, 3, none⟩ = some (.slice (some ⟨b1, o1, none⟩) args.length ac) ∧ w'.cell? ⟨w.heap.size + 1, 3, none⟩ = some (.slice (some ⟨b2, o2, none⟩) args'.length ac') ∧ w'.cell? ⟨b1, o1 + k, none⟩ = some (.slice da dL.length dc) ∧ w'.cell? ⟨b2, o2 + k, none⟩ = some (.slice da' dL.length dc'))
        (first | exact UW.out _ CC.out | exact UW.out _ (Chg.refl _ _).drew)
        (first | (go_at_call 27; (with_reducible refine Calls.mono (CA.out _ (Chg.refl _ _).drew) ?_); rintro e w9 ⟨rfl, hc⟩; have CC := Lib.hid ((Chg.refl [] wr).drew.thenSame hc); clear hc) | fail)
      go_wp2_with fail
      exact ⟨⟨k + 1, by go_num, by omega, Lib.hid (D.out.thenSame CC.out)⟩, by simp [intOf]; omega⟩
    · have CE := Lib.hid (CV.out _ D.out)
      have heb : (err == err) = true := beq_self_eq_true _
      go_wp2_with (go_at_call 27; (with_reducible refine Calls.mono CE.out ?_); rintro e w9 ⟨rfl, hc⟩; have CC := Lib.hid (C1.out.thenSame (D.out.thenSame hc)); clear hc)
      go_ret
      exact ⟨rfl, CC.out⟩
end Go.Proofs.YtnhemokmgpelaaaGreatDoor
namespace Go.Proofs.YtnhemokmgpelaaaGreatDoor
set_option linter.unusedVariables false
set_option linter.unusedSimpArgs false
open Go.RowKit
theorem serOk_all : ∀ {R : List PCl} {st : List Ce}, SerOk R st → ∀ z ∈ R, ∃ s, (doZ s z.o).1 = 0 ∧ (doZ s z.o).2.2.2 = z.ans := by
  intro R
  induction R with
  | nil => intro st _ z hz; cases hz
  | cons x r ih =>
    intro st h z hz
    obtain ⟨h1, -, h3, h4⟩ := h
    rcases List.mem_cons.1 hz with rfl | hz
    · exact ⟨st, h1, h3⟩
    · exact ih h4 z hz
/-- The calls that Serial returns are small. -/
theorem ser_small {l : List PCl} {st : List Ce} : ∀ z ∈ (serZ st l).1, z.ans.length ≤ 200 ∧ (∀ v ∈ z.o.args, v.length ≤ 200) ∧ z.o.args.length ≤ 2 := by
  intro z hz
  unfold serZ at hz
  split at hz
  · cases hz
  · rename_i h0
    obtain ⟨-, f2, -⟩ := find_facts (by simpa using h0)
    obtain ⟨s, h1, h2⟩ := serOk_all (serOk_of f2) z hz
    obtain ⟨-, p2, p3⟩ := chk_zero (doZ_zero h1).1
    refine ⟨by rw [← h2]; exact doZ_ans h1, fun v hv => (check_zero (p3 v hv)).2, ?_⟩
    rw [p2]
    rcases opN_cases z.o.op with ⟨_, e⟩ | ⟨_, e⟩ | ⟨_, e⟩ | ⟨_, e⟩ | ⟨_, e⟩ <;> rw [e] <;> decide
theorem find_len {l : List PCl} {st : List Ce} : (findZ st l).1.length ≤ l.length := by
  by_cases h : (findZ st l).2 = 0
  · obtain ⟨-, -, q, f3, f4⟩ := find_facts h
    exact compl_len (by unfold completeB; rw [f3]; exact f4)
  · unfold findZ at h ⊢
    split
    · simp
    · rename_i h1
      rw [if_neg h1] at h
      split
      · simp
      · rename_i o ho
        rw [ho] at h
        simp at h
theorem ser_len {l : List PCl} {st : List Ce} : (serZ st l).1.length ≤ l.length := by
  unfold serZ
  split
  · simp
  · rename_i h0
    obtain ⟨-, f2, -⟩ := find_facts (by simpa using h0)
    rw [serGo_len f2]
    exact find_len
set_option maxHeartbeats 16000000 in
set_option maxRecDepth 100000 in
theorem searches_walk (a0 : Option Addr) (len0 cap0 : Nat) (l0 : List Ce) (a1 : Option Addr) (len1 cap1 : Nat) (l1 : List Cl) (w : World)
    (h0 : l0.length = len0 ∧ InIs ceC 4 w a0 cap0 l0 ∧ goodL l0) (h1 : l1.length = len1 ∧ LIn w a1 cap1 l1 ∧ (∀ x ∈ l1, goodCl x) ∧ ∀ x ∈ l1, goodL x.ans) (ht : TabW w) :
    Calls Tryz.prog 3 #[.slice a0 len0 cap0, .slice a1 len1 cap1] w fun e w' => e = .returned (.bool true) ∧ Below w.heap.size w w' := by
  obtain ⟨rfl, hs, hsg⟩ := h0
  obtain ⟨rfl, hl, hg, hga⟩ := h1
  refine Calls.mono (R := fun e w' => e = .returned (.bool true) ∧ Chg [] w w') ?_ (fun e w' h => ⟨h.1, h.2.toBelow (Nat.le_refl _) (by simp)⟩)
  have AW := Lib.hid (fun w' (hc : Chg [] w w') => awake_any w' (ht.kept hc))
  by_cases h20 : 20 < l1.length
  · have h20' : (20 : Int) < (l1.length : Int) := by omega
    have AWC := Lib.hid (AW.out _ (Chg.refl _ _))
    clear hl hg hga hs hsg ht
    go_enter Tryz.func3, Tryz.ntmps3
    go_wp2_with fail
    refine AWC.out.mono ?_; rintro e w2 ⟨rfl, hc⟩
    have C2 := Lib.hid hc
    clear hc
    go_wp2_with fail
    go_ret
    exact ⟨rfl, C2.out⟩
  have h20' : (l1.length : Int) ≤ 20 := by omega
  have K := Lib.hid (rhcheck_any hl hg ht)
  by_cases hbad : 6 < l1.length ∧ hcheckZ (l1.map Cl.p) = 0
  · obtain ⟨h6, hz⟩ := hbad
    have h6' : (6 : Int) < (l1.length : Int) := by omega
    rw [hz] at K
    clear hl hg hga hs hsg ht hz
    go_enter Tryz.func3, Tryz.ntmps3
    go_wp2_with (go_at_call 5; (with_reducible refine Calls.mono K.out ?_); rintro e w2 ⟨rfl, hc⟩; have C2 := Lib.hid hc; have AWC := Lib.hid (AW.out _ hc); clear hc)
    refine AWC.out.mono ?_; rintro e w3 ⟨rfl, hc⟩
    have C3 := Lib.hid (C2.out.thenSame hc)
    clear hc
    go_wp2_with fail
    go_ret
    exact ⟨rfl, C3.out⟩
  have h6 : Hid ((l1.length : Int) ≤ 6 ∨ ((6 : Int) < (l1.length : Int) ∧ (hcheckZ (l1.map Cl.p) == 0) = false)) := Lib.hid (by
    by_cases h : l1.length ≤ 6
    · exact .inl (by omega)
    · exact .inr ⟨by omega, beq_eq_false_iff_ne.2 (fun e => hbad ⟨by omega, e⟩)⟩)
  have A := Lib.hid (fun w' (hc : Chg [] w w') => lfind_any (hl.kept hc) hg (hs.kept hc) hsg (ht.kept hc))
  have B := Lib.hid (fun w' (hc : Chg [] w w') => rfind_any (hl.kept hc) hg hga (hs.kept hc) hsg (ht.kept hc))
  have S := Lib.hid (fun w' (hc : Chg [] w w') => serial_any (hl.kept hc) hg hga (hs.kept hc) hsg (ht.kept hc))
  have T := Lib.hid (fun w' (hc : Chg [] w w') => rserial_any (hl.kept hc) hg hga (hs.kept hc) hsg (ht.kept hc))
  have SM := Lib.hid (ser_small (l := l1.map Cl.p) (st := l0))
  have fl := find_len (l := l1.map Cl.p) (st := l0)
  have sl := ser_len (l := l1.map Cl.p) (st := l0)
  rw [List.length_map] at fl sl
  clear hl hg hga hs hsg ht hbad
  generalize hcheckZ (l1.map Cl.p) = cz at *
  generalize findZ l0 (l1.map Cl.p) = z at *
  generalize serZ l0 (l1.map Cl.p) = y at *
  obtain ⟨z1, z2⟩ := z
  obtain ⟨R, y2⟩ := y
  simp only at A B S T SM fl sl
  have e1 : (z2 != z2) = false := by simp
  have e2 : (y2 != y2) = false := by simp
  have IN := Lib.hid (fun (a : Option Addr) (c : Nat) (a' : Option Addr) (c' : Nat) w' (h1 : InIs icI 1 w' a c z1) (h2 : InIs icI 1 w' a' c' z1) => show Calls Tryz.prog 11 #[.slice a z1.length c, .slice a' z1.length c'] w' fun e w'' => e = .returned (.bool true) ∧ Chg [] w' w'' from by
    have := lints_any a c z1 a' c' z1 w' h1.1 h2.1 (by omega) (by omega)
    rwa [same_refl (e := inE) (fun x => by unfold inE; exact beq_self_eq_true x)] at this)
  go_enter Tryz.func3, Tryz.ntmps3
  go_upto_region 1 with fail
  go_cut [26] (fun v wx => v = .bool false ∧ Hid (Chg [] w wx))
  case first =>
    rcases h6.out with h | ⟨h, hz⟩
    · go_wp2_with fail
      go_meet
      exact ⟨by rw [decide_eq_false (by omega)], Lib.hid (Chg.refl _ _)⟩
    · go_wp2_with (go_at_call 5; (with_reducible refine Calls.mono K.out ?_); rintro e w2 ⟨rfl, hc⟩; have C2 := Lib.hid hc; clear hc)
      go_meet
      exact ⟨by rw [decide_eq_false (by omega)], C2⟩
  case rest =>
    obtain ⟨rfl, C2⟩ := hcut
    go_wp2_with fail
    refine (A.out _ C2.out).mono ?_; rintro e w3 ⟨oa, oc, rfl, hi3, -, hc⟩
    have C3 := Lib.hid (C2.out.thenSame hc)
    have I3 := Lib.hid hi3
    clear hc hi3
    go_wp2_with fail
    refine (B.out _ C3.out).mono ?_; rintro e w4 ⟨pa, pc, rfl, hi4, hc⟩
    have C4 := Lib.hid (C3.out.thenSame hc)
    have I3' := Lib.hid (I3.out.kept hc)
    have I4 := Lib.hid hi4
    clear hc hi4
    go_wp2_with fail
    refine (S.out _ C4.out).mono ?_; rintro e w5 ⟨qa, qc, D, rfl, hD, hL5, hc⟩
    have C5 := Lib.hid (C4.out.thenSame hc)
    have E5 := Lib.hid hc
    have L5 := Lib.hid hL5
    simp only at hD
    have HD := Lib.hid hD
    clear hc hL5 hD
    go_wp2_with fail
    refine (T.out _ C5.out).mono ?_; rintro e w6 ⟨ra, rc, D', rfl, hD, hL6, hc⟩
    have C6 := Lib.hid (C5.out.thenSame hc)
    have I6 := Lib.hid (IN.out oa oc pa pc w6 ((I3'.out.kept E5.out).kept hc) ((I4.out.kept E5.out).kept hc))
    have L6 := Lib.hid hL6
    have L56 := Lib.hid (L5.out.kept hc)
    simp only at hD
    have HD2 := Lib.hid hD
    have hdl : D.length = R.length := by rw [← HD.out, List.length_map]
    have hdl' : D'.length = R.length := by rw [← hD, List.length_map]
    have hlb : ((D.length : Int) != (D'.length : Int)) = false := by simp [hdl, hdl']
    have HDL := Lib.hid hdl
    have HDL2 := Lib.hid hdl'
    have hD20 : (D.length : Int) ≤ 20 := by omega
    have hD20' : (D'.length : Int) ≤ 20 := by omega
    clear hc hL6 hD hdl hdl'
    go_wp2_with (go_at_call 11; (with_reducible refine Calls.mono I6.out ?_); rintro e w7 ⟨rfl, hc⟩; have C7 := Lib.hid (C6.out.thenSame hc); have L57 := Lib.hid (L56.out.kept hc); have L67 := Lib.hid (L6.out.kept hc); clear hc)
    go_loopw [13] (fun u wr => ∃ k : Nat, u = .int .i64 k ∧ k ≤ D.length ∧ Hid (Chg [] w7 wr)) (fun u _ => D.length - (intOf u).toNat)
    case atStart => exact ⟨0, rfl, Nat.zero_le _, Lib.hid (Chg.refl _ _)⟩
    case round =>
      obtain ⟨k, rfl, hk, E⟩ := hrel
      have hk0 : (0 : Int) ≤ (k : Int) := by omega
      by_cases hkd : k < D.length
      · have hkd1 : (k : Int) < (D.length : Int) := by omega
        have hkd' : k < D'.length := by have := HDL.out; have := HDL2.out; omega
        have hkd2 : (k : Int) < (D'.length : Int) := by omega
        obtain ⟨b2, o2, rfl, -, hc2⟩ := L57.out.at8 (w' := wr) k hkd
        obtain ⟨b3, o3, rfl, -, hc3⟩ := L67.out.at8 (w' := wr) k hkd'
        have hp : (D[k]).p = (D'[k]).p := by
          have : (D.map Cl.p)[k]? = (D'.map Cl.p)[k]? := by rw [HD.out, HD2.out]
          rw [List.getElem?_map, List.getElem?_map, List.getElem?_eq_getElem hkd, List.getElem?_eq_getElem hkd'] at this
          exact Option.some.inj this
        have hm : (D[k]).p ∈ R := by rw [← HD.out]; exact List.mem_map_of_mem (List.getElem_mem hkd)
        obtain ⟨m1, m2, m3⟩ := SM.out _ hm
        have hin2 := L57.out.2 _ (List.getElem_mem hkd)
        have hin3 := L67.out.2 _ (List.getElem_mem hkd')
        generalize D[k] = x at *
        generalize D'[k] = y at *
        have CA := fun w' (hc : Chg [] w7 w') => lcall_any x y w' (hin2.kept hc) (hin3.kept hc) hp (by have : x.p.ans.length ≤ 200 := m1; exact Nat.le_trans this (by decide)) (fun d hd => Nat.le_trans (m2 d.L (List.mem_map_of_mem (f := Rr.L) hd)) (by decide)) (by have h : (x.o.args.map Rr.L).length ≤ 2 := m3; rw [List.length_map] at h; exact Nat.le_trans h (by decide))
        simp only [clC] at CA
        have CA := Lib.hid CA
        rename_i CA0
        have UW := Lib.hid (fun w' (hc : Chg [] w7 w') => And.intro (hc2 w' hc) (hc3 w' hc))
        unfold At8 at UW
        clear CA0 hc2 hc3 hp hm m1 m2 m3 hin2 hin3
        go_upto_region 12 with fail
        go_region_held3 (fun w' => (w'.cell? ⟨b2, o2 + k * 8, none⟩ = some (.string x.o.ent) ∧ w'.cell? ⟨b2, o2 + k * 8 + 1, none⟩ = some (.string x.o.id) ∧ w'.cell? ⟨b2, o2 + k * 8 + 2, none⟩ = some (.string x.o.op) ∧ w'.cell? ⟨b2, o2 + k * 8 + 3, none⟩ = some (.slice x.o.aa x.o.args.length x.o.ac) ∧ w'.cell? ⟨b2, o2 + k * 8 + 4, none⟩ = some (.int .i64 x.err) ∧ w'.cell? ⟨b2, o2 + k * 8 + 5, none⟩ = some (.slice x.va x.ans.length x.vc) ∧ w'.cell? ⟨b2, o2 + k * 8 + 6, none⟩ = some (.int .i64 x.from_) ∧ w'.cell? ⟨b2, o2 + k * 8 + 7, none⟩ = some (.int .i64 x.to_)) ∧ w'.cell? ⟨b3, o3 + k * 8, none⟩ = some (.string y.o.ent) ∧ w'.cell? ⟨b3, o3 + k * 8 + 1, none⟩ = some (.string y.o.id) ∧ w'.cell? ⟨b3, o3 + k * 8 + 2, none⟩ = some (.string y.o.op) ∧ w'.cell? ⟨b3, o3 + k * 8 + 3, none⟩ = some (.slice y.o.aa y.o.args.length y.o.ac) ∧ w'.cell? ⟨b3, o3 + k * 8 + 4, none⟩ = some (.int .i64 y.err) ∧ w'.cell? ⟨b3, o3 + k * 8 + 5, none⟩ = some (.slice y.va y.ans.length y.vc) ∧ w'.cell? ⟨b3, o3 + k * 8 + 6, none⟩ = some (.int .i64 y.from_) ∧ w'.cell? ⟨b3, o3 + k * 8 + 7, none⟩ = some (.int .i64 y.to_))
          (first | exact UW.out _ CC.out | exact UW.out _ E.out.drew)
          (first | (go_at_call 12; (with_reducible refine Calls.mono (CA.out _ E.out.drew) ?_); rintro e w9 ⟨rfl, hc⟩; have CC := Lib.hid (E.out.drew.thenSame hc); clear hc) | fail)
        go_wp2_with fail
        exact ⟨⟨k + 1, by go_num, by omega, CC⟩, by simp [intOf]; omega⟩
      · have AWD := Lib.hid (AW.out _ (C7.out.thenSame E.out))
        go_wp2_with (go_at_call 6; (with_reducible refine Calls.mono AWD.out ?_); rintro e w9 ⟨rfl, hc⟩; have CC := Lib.hid ((C7.out.thenSame E.out).thenSame hc); clear hc)
        go_ret
        exact ⟨rfl, CC.out⟩
end Go.Proofs.YtnhemokmgpelaaaGreatDoor
