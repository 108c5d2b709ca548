/- Chapter 43: contracts of the reference: Same, SameWorkers; one. No condition. -/
import Derived.Test.YtjbnfaapkicejaaPlcE
import Derived.Laws.StructEq
namespace Go.Proofs.Ytjbnfaapkicejaa
set_option linter.unusedVariables false
set_option linter.unusedSimpArgs false
open Go.RowKit
theorem listS (a b : ByteArray) : a.toList = b.toList ↔ a = b := by
  have := beq_toListBytes a b
  constructor
  · intro h
    rw [h] at this
    simpa using this
  · rintro rfl
    rfl
def eqP (a b : Pl) : Bool := a.id == b.id && a.tn == b.tn && a.mem == b.mem && a.wk == b.wk
def eqK (a b : Wk) : Bool := a.name == b.name && a.mem == b.mem && a.dr == b.dr
theorem eqP_iff {a b : Pl} : eqP a b = true ↔ a = b := by
  obtain ⟨a1, a2, a3, a4⟩ := a
  obtain ⟨b1, b2, b3, b4⟩ := b
  simp [eqP, and_assoc]
theorem eqK_iff {a b : Wk} : eqK a b = true ↔ a = b := by
  obtain ⟨a1, a2, a3⟩ := a
  obtain ⟨b1, b2, b3⟩ := b
  simp [eqK, and_assoc]
theorem structPl : Try.prog.underlying 25 = some (.struct (Try.prog.fieldsOf 25)) := by kernel_rfl
theorem structWk : Try.prog.underlying 36 = some (.struct (Try.prog.fieldsOf 36)) := by kernel_rfl
theorem heldPl : Try.prog.stoodInHeld 25 = false := by kernel_rfl
theorem heldWk : Try.prog.stoodInHeld 36 = false := by kernel_rfl
set_option maxRecDepth 100000 in
set_option maxHeartbeats 4000000 in
theorem eqlP_in (d : Nat) (a b : Pl) (w : World) : (Op.equalIn (d + 2) 25 (plV a) (plV b)).run Try.prog w = .ok (eqP a b) w := by
  obtain ⟨a1, a2, a3, a4⟩ := a
  obtain ⟨b1, b2, b3, b4⟩ := b
  simp only [plV, eqP]
  rw [show d + 2 = (d + 1) + 1 from rfl, run_equalIn_struct w (d + 1) 25 _ _ structPl heldPl]
  simp only [Program.fieldsOf, Try.underlying25]
  go_simp
  cases h1 : a1 == b1 <;> cases h2 : a2 == b2 <;> cases h3 : a3 == b3 <;> cases h4 : a4 == b4 <;> simp [listS] <;> simp_all
set_option maxRecDepth 100000 in
set_option maxHeartbeats 4000000 in
theorem eqlK_in (d : Nat) (a b : Wk) (w : World) : (Op.equalIn (d + 2) 36 (wkV a) (wkV b)).run Try.prog w = .ok (eqK a b) w := by
  obtain ⟨a1, a2, a3⟩ := a
  obtain ⟨b1, b2, b3⟩ := b
  simp only [wkV, eqK]
  rw [show d + 2 = (d + 1) + 1 from rfl, run_equalIn_struct w (d + 1) 36 _ _ structWk heldWk]
  simp only [Program.fieldsOf, Try.underlying36]
  go_simp
  cases h1 : a1 == b1 <;> cases h2 : a2 == b2 <;> cases h3 : a3 == b3 <;> simp [listS] <;> simp_all
theorem neqP (a b : Pl) (w : World) : (binOp .neq 25 (plV a) (plV b)).run Try.prog w = .ok (.bool (!eqP a b)) w := by
  unfold plV
  rw [run_neq_struct]
  have := eqlP_in 9998 a b w
  unfold plV at this
  rw [this]
  rfl
theorem neqK (a b : Wk) (w : World) : (binOp .neq 36 (wkV a) (wkV b)).run Try.prog w = .ok (.bool (!eqK a b)) w := by
  unfold wkV
  rw [run_neq_struct]
  have := eqlK_in 9998 a b w
  unfold wkV at this
  rw [this]
  rfl
/-- Two lists are the same, as far as the first k. -/
def sameTo {α : Type} (e : α → α → Bool) (l m : List α) (k : Nat) : Bool := (List.range k).all (fun i => match l[i]?, m[i]? with | some x, some y => e x y | _, _ => true)
theorem sameTo_step {α : Type} {e : α → α → Bool} {l m : List α} {k : Nat} (h1 : k < l.length) (h2 : k < m.length) : sameTo e l m (k + 1) = (sameTo e l m k && e l[k] m[k]) := by
  unfold sameTo
  rw [List.range_succ, List.all_append]
  simp [List.getElem?_eq_getElem h1, List.getElem?_eq_getElem h2]
def sameB {α : Type} (e : α → α → Bool) (l m : List α) : Bool := decide (l.length = m.length) && sameTo e l m l.length
theorem same_no {α : Type} {e : α → α → Bool} {l m : List α} {k : Nat} (h1 : k < l.length) (h2 : k < m.length) (h : e l[k] m[k] = false) : sameB e l m = false := by
  unfold sameB sameTo
  have : (List.range l.length).all (fun i => match l[i]?, m[i]? with | some x, some y => e x y | _, _ => true) = false := by
    rw [List.all_eq_false]
    refine ⟨k, List.mem_range.2 h1, ?_⟩
    rw [List.getElem?_eq_getElem h1, List.getElem?_eq_getElem h2]
    simp [h]
  rw [this, Bool.and_false]
theorem same_refl {α : Type} {e : α → α → Bool} (he : ∀ x, e x x = true) (l : List α) : sameB e l l = true := by
  unfold sameB sameTo
  rw [decide_eq_true rfl, Bool.true_and, List.all_eq_true]
  intro i hi
  rw [List.mem_range] at hi
  rw [List.getElem?_eq_getElem hi]
  exact he _
set_option maxHeartbeats 4000000 in
set_option maxRecDepth 100000 in
theorem same_any (a : Option Addr) (c : Nat) (l : List Pl) (a2 : Option Addr) (c2 : Nat) (m : List Pl) (w : World) (h : SlIs plC 4 w a l.length l) (hm : SlIs plC 4 w a2 m.length m) (hl : l.length ≤ 4096) (hml : m.length ≤ 4096) :
    Calls Try.prog 14 #[.slice a l.length c, .slice a2 m.length c2] w fun e w' => e = .returned (.bool (sameB eqP l m)) ∧ Chg [] w w' := by
  have H := Lib.hid h
  have HM := Lib.hid hm
  obtain ⟨R, hR⟩ : ∃ R, R = sameB eqP l m := ⟨_, rfl⟩
  rw [← hR]
  have HR := Lib.hid hR
  clear h hm hR
  by_cases hlen : l.length = m.length
  case neg =>
    have HE : Hid (R = false) := Lib.hid (by rw [HR.out]; unfold sameB; rw [decide_eq_false hlen]; rfl)
    have hlen' : ((l.length : Int) == (m.length : Int)) = false := beq_eq_false_iff_ne.2 (by omega)
    go_enter Try.func14, Try.ntmps14
    go_wp2_with fail
    go_ret
    exact ⟨by rw [HE.out]; rfl, Chg.refl _ _⟩
  have hlen' : ((l.length : Int) == (m.length : Int)) = true := beq_iff_eq.2 (by omega)
  have HLen := Lib.hid hlen
  clear hlen
  go_enter Try.func14, Try.ntmps14
  go_wp2_with fail
  go_loopw [13] (fun i wr => ∃ k : Nat, i = .int .i64 k ∧ k ≤ l.length ∧ Hid (sameTo eqP l m k = true) ∧ Hid (Chg [] w wr)) (fun i _ => l.length - (intOf i).toNat)
  case atStart => exact ⟨0, rfl, Nat.zero_le _, Lib.hid rfl, Lib.hid (Chg.refl _ _)⟩
  case round =>
    obtain ⟨k, rfl, hkl, HS, D⟩ := hrel
    by_cases hk : k < l.length
    · have hk2 : k < m.length := by have := HLen.out; omega
      obtain ⟨g1, o1, rfl, -, hbr1, hcc1⟩ := H.out.elem D.out k hk
      obtain ⟨g2, o2, rfl, -, hbr2, hcc2⟩ := HM.out.elem D.out k hk2
      have hst := sameTo_step (e := eqP) hk hk2
      rw [HS.out, Bool.true_and] at hst
      have hno := same_no (e := eqP) hk hk2
      have c1 := fun j (h : j < 4) => hcc1 j h
      have c2 := fun j (h : j < 4) => hcc2 j h
      generalize l[k] = x at *
      generalize m[k] = y at *
      have d0 := c1 0 (by omega)
      have d1 := c1 1 (by omega)
      have d2 := c1 2 (by omega)
      have d3 := fun (h : 3 < 4) => c1 3 h
      have e0 := c2 0 (by omega)
      have e1 := c2 1 (by omega)
      have e2 := c2 2 (by omega)
      have e3 := fun (h : 3 < 4) => c2 3 h
      simp only [plC, List.getElem?_cons_zero, List.getElem?_cons_succ, Nat.add_zero] at d0 d1 d2 d3 e0 e1 e2 e3
      have d3 := d3
      have e3 := e3
      simp at d3 e3
      have hk0 : (0 : Int) ≤ (k : Int) := by omega
      have hk1 : (k : Int) < (l.length : Int) := by omega
      have hk2' : (k : Int) < (m.length : Int) := by omega
      have qn := fun w => neqP x y w
      have HR0 := Lib.hid HR.out
      unfold plV at qn
      clear hcc1 hcc2 c1 c2
      cases hq : eqP x y
      · rw [hq] at qn
        have HE : Hid (R = false) := Lib.hid (by rw [HR0.out]; exact hno hq)
        clear hst hno
        go_wp2_with fail
        go_quiet (fail)
        go_wp2_with fail
        go_ret
        exact ⟨by rw [HE.out]; rfl, D.out.drewN _⟩
      · rw [hq] at qn hst
        have HST := Lib.hid hst
        clear hst hno
        go_wp2_with fail
        go_quiet (fail)
        go_wp2_with fail
        exact ⟨⟨k + 1, by go_num, by omega, HST, Lib.hid (D.out.drewN _)⟩, by simp [intOf]; omega⟩
    · have hks : k = l.length := by omega
      subst hks
      have HE : Hid (R = true) := Lib.hid (by rw [HR.out]; unfold sameB; rw [decide_eq_true HLen.out, HS.out]; rfl)
      go_wp2_with fail
      go_ret
      exact ⟨by rw [HE.out]; rfl, D.out⟩
set_option maxHeartbeats 4000000 in
set_option maxRecDepth 100000 in
theorem samew_any (a : Option Addr) (c : Nat) (l : List Wk) (a2 : Option Addr) (c2 : Nat) (m : List Wk) (w : World) (h : SlIs wkC 3 w a l.length l) (hm : SlIs wkC 3 w a2 m.length m) (hl : l.length ≤ 4096) (hml : m.length ≤ 4096) :
    Calls Try.prog 19 #[.slice a l.length c, .slice a2 m.length c2] w fun e w' => e = .returned (.bool (sameB eqK l m)) ∧ Chg [] w w' := by
  have H := Lib.hid h
  have HM := Lib.hid hm
  obtain ⟨R, hR⟩ : ∃ R, R = sameB eqK l m := ⟨_, rfl⟩
  rw [← hR]
  have HR := Lib.hid hR
  clear h hm hR
  by_cases hlen : l.length = m.length
  case neg =>
    have HE : Hid (R = false) := Lib.hid (by rw [HR.out]; unfold sameB; rw [decide_eq_false hlen]; rfl)
    have hlen' : ((l.length : Int) == (m.length : Int)) = false := beq_eq_false_iff_ne.2 (by omega)
    go_enter Try.func19, Try.ntmps19
    go_wp2_with fail
    go_ret
    exact ⟨by rw [HE.out]; rfl, Chg.refl _ _⟩
  have hlen' : ((l.length : Int) == (m.length : Int)) = true := beq_iff_eq.2 (by omega)
  have HLen := Lib.hid hlen
  clear hlen
  go_enter Try.func19, Try.ntmps19
  go_wp2_with fail
  go_loopw [13] (fun i wr => ∃ k : Nat, i = .int .i64 k ∧ k ≤ l.length ∧ Hid (sameTo eqK l m k = true) ∧ Hid (Chg [] w wr)) (fun i _ => l.length - (intOf i).toNat)
  case atStart => exact ⟨0, rfl, Nat.zero_le _, Lib.hid rfl, Lib.hid (Chg.refl _ _)⟩
  case round =>
    obtain ⟨k, rfl, hkl, HS, D⟩ := hrel
    by_cases hk : k < l.length
    · have hk2 : k < m.length := by have := HLen.out; omega
      obtain ⟨g1, o1, rfl, -, hbr1, hcc1⟩ := H.out.elem D.out k hk
      obtain ⟨g2, o2, rfl, -, hbr2, hcc2⟩ := HM.out.elem D.out k hk2
      have hst := sameTo_step (e := eqK) hk hk2
      rw [HS.out, Bool.true_and] at hst
      have hno := same_no (e := eqK) hk hk2
      have c1 := fun j (h : j < 3) => hcc1 j h
      have c2 := fun j (h : j < 3) => hcc2 j h
      generalize l[k] = x at *
      generalize m[k] = y at *
      have d0 := c1 0 (by omega)
      have d1 := c1 1 (by omega)
      have d2 := c1 2 (by omega)
      have d3 := fun (h : 3 < 3) => c1 3 h
      have e0 := c2 0 (by omega)
      have e1 := c2 1 (by omega)
      have e2 := c2 2 (by omega)
      have e3 := fun (h : 3 < 3) => c2 3 h
      simp only [wkC, List.getElem?_cons_zero, List.getElem?_cons_succ, Nat.add_zero] at d0 d1 d2 d3 e0 e1 e2 e3
      have d3 := d3
      have e3 := e3
      simp at d3 e3
      have hk0 : (0 : Int) ≤ (k : Int) := by omega
      have hk1 : (k : Int) < (l.length : Int) := by omega
      have hk2' : (k : Int) < (m.length : Int) := by omega
      have qn := fun w => neqK x y w
      have HR0 := Lib.hid HR.out
      unfold wkV at qn
      clear hcc1 hcc2 c1 c2
      cases hq : eqK x y
      · rw [hq] at qn
        have HE : Hid (R = false) := Lib.hid (by rw [HR0.out]; exact hno hq)
        clear hst hno
        go_wp2_with fail
        go_quiet (fail)
        go_wp2_with fail
        go_ret
        exact ⟨by rw [HE.out]; rfl, D.out.drewN _⟩
      · rw [hq] at qn hst
        have HST := Lib.hid hst
        clear hst hno
        go_wp2_with fail
        go_quiet (fail)
        go_wp2_with fail
        exact ⟨⟨k + 1, by go_num, by omega, HST, Lib.hid (D.out.drewN _)⟩, by simp [intOf]; omega⟩
    · have hks : k = l.length := by omega
      subst hks
      have HE : Hid (R = true) := Lib.hid (by rw [HR.out]; unfold sameB; rw [decide_eq_true HLen.out, HS.out]; rfl)
      go_wp2_with fail
      go_ret
      exact ⟨by rw [HE.out]; rfl, D.out⟩
theorem one_any (s : ByteArray) (n : Int) (w : World) : Calls Try.prog 27 #[.string s, .int .i64 n] w fun e w' => e = .returned (plV ⟨s, ⟨#[116]⟩, n, ⟨#[]⟩⟩) ∧ Chg [] w w' := by
  go_enter Try.func27, Try.ntmps27
  go_wp2_with fail
  have r1 := blk_cell (heap_alloc_new w (.cells #[.string s, .string ⟨#[116]⟩, .int .i64 n, .string ⟨#[]⟩] 25))
  exact bodyPost_ret (v := plV ⟨s, ⟨#[116]⟩, n, ⟨#[]⟩⟩) (by simp [results, Try.results27, go_sem, plV, r1]) rfl ⟨rfl, (Chg.refl _ _).alloc _⟩
end Go.Proofs.Ytjbnfaapkicejaa
