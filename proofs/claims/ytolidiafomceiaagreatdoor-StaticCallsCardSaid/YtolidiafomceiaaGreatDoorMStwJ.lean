/- Chapter 9: StaticChecks: the walk. Condition: the table of Itoa lies as the program lays it; the form's own bound on texts. Chapter 9: the reference's Sorted and Has (lines of XUrs). No condition. Chapter 9: the reference's Slots, Locals. Condition: the form's own bound on texts. Chapter 9: the reference's Ops. Condition: the form's own bound on texts. Chapter 9: StaticSlots: the walk. Condition: the table of Itoa lies as the program lays it; the form's own bound on texts. Chapter 9, plain: what the reference's Calls computes is what the program's computes. No condition. Chapter 9: the reference's Owner, Calls. Condition: the form's own bound on texts. Chapter 9, plain: what the reference's Reachable computes is what main reaches. No condition. Chapter 9: the reference's Reachable. Condition: the form's own bound on texts. Chapter 9: StaticCalls: the walk. Condition: the table of Itoa lies as the program lays it; the form's own bound on texts. -/
import Derived.Test.YtolidiafomceiaaGreatDoorStuF
import Derived.Test.YtolidiafomceiaaGreatDoorMSttM
import Derived.Test.YtolidiafomceiaaGreatDoorStwH
import Derived.Test.YtolidiafomceiaaGreatDoorProg
import Derived.Deep.DeepCutAuto
import Derived.Test.YtolidiafomceiaaGreatDoorLex
import Derived.Test.YtolidiafomceiaaGreatDoorApp
import Derived.Test.YtolidiafomceiaaGreatDoorInl
namespace Go.Proofs.YtolidiafomceiaaGreatDoor
set_option linter.unusedVariables false
set_option linter.unusedSimpArgs false
open Go.RowKit
theorem rcheck8c_any (x : Pr) (w : World) (h : PrIn w x) (hz : szPr x) : Calls Tryz.prog 29 #[.agg (prC x).toArray] w fun e w' => e = .returned (.int .i64 (scheckZ x.p)) ∧ Chg [] w w' := by
  have := rcheck8_of x w h (fun h1 h2 w' hc => rmeasure_any x w' (h.kept hc) hz h1 h2)
  rw [rvalid_eq] at this
  exact this
theorem rcheck9_any (x : Pr) (w : World) (h : PrIn w x) (hz : szPr x) : Calls Tryz.prog 11 #[.agg (prC x).toArray] w fun e w' => e = .returned (.tuple #[.int .i64 (studyZ x.p).2.2.1, .int .i64 (studyZ x.p).2.2.2]) ∧ Chg [] w w' := by
  have := rcheck9_of x w h (fun w' hc => rcheck8c_any x w' (h.kept hc) hz)
  rw [rcheck_eq] at this
  exact this
end Go.Proofs.YtolidiafomceiaaGreatDoor
namespace Go.Proofs.YtolidiafomceiaaGreatDoor
set_option linter.unusedVariables false
set_option linter.unusedSimpArgs false
open Go.RowKit


/-! insertion is the sort -/




end Go.Proofs.YtolidiafomceiaaGreatDoor
namespace Go.Proofs.YtolidiafomceiaaGreatDoor
set_option linter.unusedVariables false
set_option linter.unusedSimpArgs false
open Go.RowKit
end Go.Proofs.YtolidiafomceiaaGreatDoor
namespace Go.Proofs.YtolidiafomceiaaGreatDoor
set_option linter.unusedVariables false
set_option linter.unusedSimpArgs false
open Go.RowKit
end Go.Proofs.YtolidiafomceiaaGreatDoor
namespace Go.Proofs.YtolidiafomceiaaGreatDoor
set_option linter.unusedVariables false
set_option linter.unusedSimpArgs false
open Go.RowKit
end Go.Proofs.YtolidiafomceiaaGreatDoor
namespace Go.Proofs.YtolidiafomceiaaGreatDoor
set_option linter.unusedVariables false
set_option linter.unusedSimpArgs false
open Go.RowKit Go.Sort
def ownZ (p : PPr) (i : Int) : Int := if idxFrom (fun f : PFn => decide (i ≤ f.body)) p.funcs 0 < 0 then (p.funcs.length : Int) - 1 else idxFrom (fun f : PFn => decide (i ≤ f.body)) p.funcs 0
def callAt (p : PPr) (f g : Int) (i : Nat) : Bool := match p.nodes[i]? with
  | none => false
  | some x => (ownZ p i == f && x.kind == 11) && idxFrom (fun h : PFn => h.name == x.text) p.funcs 0 == g
def rcallB (p : PPr) (f g : Int) : Bool := (List.range p.nodes.length).any (callAt p f g)
def rcallsZ (p : PPr) (f : Int) : List Int := if (studyZ p).2.2.2 = 0 ∧ 0 ≤ f ∧ f.toNat < p.funcs.length then ((List.range p.funcs.length).filter (fun g : Nat => rcallB p f (g : Int))).map (fun g : Nat => (g : Int)) else []
theorem idx_first {α : Type} {p : α → Bool} : ∀ {l : List α} {k : Int} {m : Nat} (hm : m < l.length), p l[m] = true → (∀ j (h : j < l.length), j < m → p l[j] = false) → idxFrom p l k = k + (m : Int) := by
  intro l
  induction l with
  | nil => intro k m hm; simp at hm
  | cons x r ih =>
    intro k m hm h1 h2
    rw [idxFrom]
    cases m with
    | zero =>
      have : p x = true := by simpa using h1
      rw [if_pos this]
      simp
    | succ m =>
      have h0 : p x = false := h2 0 (by simp) (by omega)
      rw [if_neg (by rw [h0]; simp), ih (k := k + 1) (m := m) (by simpa using hm) (by simpa using h1) (fun j hj hjm => by
        have := h2 (j + 1) (by simpa using hj) (by omega)
        simpa using this)]
      push_cast
      omega
theorem ord_asc {l : List PNd} : ∀ {r : List PFn} {s : Int}, ordGo l r s = true → (∀ f ∈ r, s ≤ f.body) ∧ r.Pairwise (fun a b => a.body < b.body) ∧ (∀ i : Int, s ≤ i → i < (l.length : Int) → ∃ f ∈ r, i ≤ f.body) := by
  intro r
  induction r with
  | nil =>
    intro s h
    rw [ordGo] at h
    have := eq_of_beq h
    exact ⟨fun f hf => (by cases hf), List.Pairwise.nil, fun i h1 h2 => by omega⟩
  | cons g r ih =>
    intro s h
    rw [ordGo] at h
    split at h
    · cases h
    · split at h
      · cases h
      · split at h
        · cases h
        · rename_i h1
          split at h
          · cases h
          · split at h
            · cases h
            · split at h
              · cases h
              · obtain ⟨a1, a2, a3⟩ := ih h
                refine ⟨fun f hf => ?_, List.pairwise_cons.2 ⟨fun b hb => ?_, a2⟩, fun i i1 i2 => ?_⟩
                · rcases List.mem_cons.1 hf with rfl | hf
                  · omega
                  · have := a1 f hf; omega
                · have := a1 b hb; omega
                · by_cases hi : i ≤ g.body
                  · exact ⟨g, by simp, hi⟩
                  · obtain ⟨f, hf, hfi⟩ := a3 i (by omega) i2
                    exact ⟨f, by simp [hf], hfi⟩
theorem le_same {a b : List Int} (h1 : a.Pairwise (· ≤ ·)) (h2 : b.Pairwise (· ≤ ·)) (n1 : a.Nodup) (n2 : b.Nodup) (hm : ∀ t, t ∈ a ↔ t ∈ b) : a = b :=
  List.Perm.eq_of_pairwise (le := fun a b => a ≤ b) (fun a b _ _ h1 h2 => Int.le_antisymm h1 h2) h1 h2 ((List.perm_ext_iff_of_nodup n1 n2).2 hm)
theorem nodup_pick {α : Type} {g : α → Int} : ∀ {l : List α}, l.Nodup → (∀ a ∈ l, ∀ b ∈ l, 0 ≤ g a → g a = g b → a = b) → ((l.map g).filter (fun k => decide (0 ≤ k))).Nodup := by
  intro l
  induction l with
  | nil => intro _ _; simp
  | cons x r ih =>
    intro hn hi
    rw [List.nodup_cons] at hn
    have ih2 := ih hn.2 (fun a ha b hb => hi a (by simp [ha]) b (by simp [hb]))
    rw [List.map_cons, List.filter_cons]
    split
    · rename_i h0
      rw [List.nodup_cons]
      refine ⟨fun hm => ?_, ih2⟩
      obtain ⟨h1, h2⟩ := List.mem_filter.1 hm
      obtain ⟨b, hb, he⟩ := List.mem_map.1 h1
      have := hi x (by simp) b (by simp [hb]) (by simpa using h0) he.symm
      subst this
      exact hn.1 hb
    · exact ih2
theorem findT_inj {p : PPr} {s t : List UInt8} (h0 : 0 ≤ findT p s) (h : findT p s = findT p t) : s = t := by
  unfold findT at h0 h
  rcases idxFrom_get (p := fun g : PFn => g.name == ⟨⟨s⟩⟩) (l := p.funcs) (k := 0) with e | ⟨m, e, hm, hp⟩
  · omega
  · rcases idxFrom_get (p := fun g : PFn => g.name == ⟨⟨t⟩⟩) (l := p.funcs) (k := 0) with e2 | ⟨m2, e2, hm2, hp2⟩
    · omega
    · have : m = m2 := by omega
      subst this
      have h1 := eq_of_beq hp
      have h2 := eq_of_beq hp2
      rw [h1] at h2
      have := congrArg (fun b : ByteArray => b.data.toList) h2
      simpa using this
/-- A node's owner. -/
theorem own_iff {p : PPr} (ho : ordB p = true) {i m : Nat} (hi : i < p.nodes.length) (hm : m < p.funcs.length) : ownZ p i = (m : Int) ↔ fromZ p m ≤ i ∧ i < toZ p m := by
  obtain ⟨a1, a2, a3⟩ := ord_asc (show ordGo p.nodes p.funcs 0 = true from ho)
  have asc : ∀ j k (hj : j < p.funcs.length) (hk : k < p.funcs.length), j < k → (p.funcs[j]).body < (p.funcs[k]).body := fun j k hj hk h => List.pairwise_iff_getElem.1 a2 j k hj hk h
  have pos : ∀ j (hj : j < p.funcs.length), 0 ≤ (p.funcs[j]).body := fun j hj => a1 _ (List.getElem_mem hj)
  have hto : toZ p m = (p.funcs[m]).body.toNat + 1 := by unfold toZ; rw [List.getElem?_eq_getElem hm]
  have hfrom : ∀ q (hq : m = q + 1), fromZ p m = (p.funcs[q]'(by omega)).body.toNat + 1 := fun q hq => by
    subst hq
    unfold fromZ
    rw [if_neg (by omega), Nat.add_sub_cancel, List.getElem?_eq_getElem (by omega)]
  have hfz : m = 0 → fromZ p m = 0 := fun h => by unfold fromZ; rw [if_pos h]
  have hb := pos m hm
  constructor
  · intro h
    obtain ⟨f, hf, hfi⟩ := a3 (i : Int) (by omega) (by omega)
    obtain ⟨k, hk, rfl⟩ := List.mem_iff_getElem.1 hf
    have hex : ∃ k, ∃ hk : k < p.funcs.length, (i : Int) ≤ (p.funcs[k]).body := ⟨k, hk, hfi⟩
    -- the least such
    have hleast : ∃ k, ∃ hk : k < p.funcs.length, (i : Int) ≤ (p.funcs[k]).body ∧ ∀ j (hj : j < p.funcs.length), j < k → ¬ (i : Int) ≤ (p.funcs[j]).body := by
      clear hfi hf hk k
      obtain ⟨k, hk, hki⟩ := hex
      induction k using Nat.strongRecOn with
      | _ k ih =>
        by_cases hj : ∃ j, ∃ hj : j < p.funcs.length, j < k ∧ (i : Int) ≤ (p.funcs[j]).body
        · obtain ⟨j, hj1, hj2, hj3⟩ := hj
          exact ih j hj2 hj1 hj3
        · exact ⟨k, hk, hki, fun j hj1 hj2 hj3 => hj ⟨j, hj1, hj2, hj3⟩⟩
    obtain ⟨q, hq, hqi, hql⟩ := hleast
    have he := idx_first (p := fun f : PFn => decide ((i : Int) ≤ f.body)) (l := p.funcs) (k := 0) hq (by simpa using hqi) (fun j hj hjq => by simpa using hql j hj hjq)
    unfold ownZ at h
    rw [he, if_neg (by omega)] at h
    have : q = m := by omega
    subst this
    refine ⟨?_, by rw [hto]; omega⟩
    cases q with
    | zero => rw [hfz rfl]; omega
    | succ q =>
      rw [hfrom q rfl]
      have := hql q (by omega) (by omega)
      have := pos q (by omega)
      omega
  · rintro ⟨h1, h2⟩
    rw [hto] at h2
    have he := idx_first (p := fun f : PFn => decide ((i : Int) ≤ f.body)) (l := p.funcs) (k := 0) hm (by simp only [decide_eq_true_eq]; omega) (fun j hj hjm => by
      simp only [decide_eq_false_iff_not]
      obtain ⟨q, rfl⟩ : ∃ q, m = q + 1 := ⟨m - 1, by omega⟩
      rw [hfrom q rfl] at h1
      have h3 := pos q (by omega)
      have h4 : (p.funcs[j]).body ≤ (p.funcs[q]'(by omega)).body := by
        by_cases e : j = q
        · subst e; exact Int.le_refl _
        · exact Int.le_of_lt (asc j q hj (by omega) (by omega))
      omega)
    unfold ownZ
    rw [he, if_neg (by omega)]
    omega
theorem mem_part {α : Type} {l : List α} {a b : Nat} {x : α} : x ∈ (l.take b).drop a ↔ ∃ i, a ≤ i ∧ i < b ∧ l[i]? = some x := by
  constructor
  · intro h
    obtain ⟨j, hj, rfl⟩ := List.mem_iff_getElem.1 h
    rw [List.length_drop, List.length_take] at hj
    refine ⟨a + j, by omega, by omega, ?_⟩
    rw [List.getElem_drop, List.getElem_take, List.getElem?_eq_getElem (by omega)]
  · rintro ⟨i, h1, h2, h3⟩
    obtain ⟨hl, rfl⟩ := List.getElem?_eq_some_iff.1 h3
    refine List.mem_iff_getElem.2 ⟨i - a, by rw [List.length_drop, List.length_take]; omega, ?_⟩
    rw [List.getElem_drop, List.getElem_take]
    congr 1
    omega
theorem rcalls_eq (p : PPr) (f : Int) : rcallsZ p f = callsZ p f := by
  unfold rcallsZ callsZ
  by_cases h : (studyZ p).2.2.2 = 0 ∧ 0 ≤ f ∧ f.toNat < p.funcs.length
  · rw [if_pos h, if_pos h]
    obtain ⟨he, hf0, hfl⟩ := h
    obtain ⟨m, rfl⟩ : ∃ m : Nat, f = (m : Int) := ⟨f.toNat, by omega⟩
    rw [Int.toNat_natCast] at hfl ⊢
    have ho : ordB p = true := (scheckZ_ok (study_zero he).1).2.2
    have hraw : (callRaw p m).Nodup := by
      unfold callRaw pickZ
      exact nodup_pick (nodup_lt (textsZ_lt _ _)) (fun a _ b _ h0 hab => findT_inj h0 hab)
    refine le_same ?_ (leI_sorted _) ?_ ((List.mergeSort_perm _ _).nodup_iff.2 hraw) (fun t => ?_)
    · have h1 : (List.range p.funcs.length).Pairwise (· < ·) := List.pairwise_lt_range
      have h2 : ((List.range p.funcs.length).filter (fun g : Nat => rcallB p m (g : Int))).Pairwise (· < ·) := List.Pairwise.filter _ h1
      rw [List.pairwise_map]
      exact h2.imp (fun {a b} h => by omega)
    · have h1 : (List.range p.funcs.length).Nodup := List.nodup_range
      have h2 : ((List.range p.funcs.length).filter (fun g : Nat => rcallB p m (g : Int))).Pairwise (· ≠ ·) := List.Pairwise.filter _ h1
      unfold List.Nodup
      rw [List.pairwise_map]
      exact h2.imp (fun {a b} h e => h (by omega))
    · rw [(List.mergeSort_perm _ _).mem_iff]
      unfold callRaw pickZ
      rw [List.mem_filter, List.mem_map, List.mem_map]
      constructor
      · rintro ⟨g, hg, rfl⟩
        obtain ⟨hg1, hg2⟩ := List.mem_filter.1 hg
        refine ⟨?_, by simp⟩
        unfold rcallB at hg2
        obtain ⟨i, hi, hc⟩ := List.any_eq_true.1 hg2
        have hil := List.mem_range.1 hi
        unfold callAt at hc
        rw [List.getElem?_eq_getElem hil] at hc
        simp only [Bool.and_eq_true, beq_iff_eq] at hc
        obtain ⟨⟨c1, c2⟩, c3⟩ := hc
        obtain ⟨f1, f2⟩ := (own_iff ho hil hfl).1 c1
        exact ⟨bs (p.nodes[i]).text, textsZ_mem.2 ⟨p.nodes[i], mem_part.2 ⟨i, f1, f2, List.getElem?_eq_getElem hil⟩, c2, rfl⟩, c3⟩
      · rintro ⟨⟨t', ht, rfl⟩, h0⟩
        obtain ⟨x, hx, hk, rfl⟩ := textsZ_mem.1 ht
        obtain ⟨i, i1, i2, hi⟩ := mem_part.1 hx
        have hil := (List.getElem?_eq_some_iff.1 hi).1
        have h0' : 0 ≤ findT p (bs x.text) := by simpa using h0
        rcases idxFrom_get (p := fun g : PFn => g.name == x.text) (l := p.funcs) (k := 0) with e | ⟨q, e, hq, -⟩
        · have : findT p (bs x.text) = -1 := e
          omega
        · have e2 : findT p (bs x.text) = (q : Int) := by
            have : findT p (bs x.text) = 0 + (q : Int) := e
            omega
          refine ⟨q, List.mem_filter.2 ⟨List.mem_range.2 hq, ?_⟩, e2.symm⟩
          unfold rcallB
          refine List.any_eq_true.2 ⟨i, List.mem_range.2 hil, ?_⟩
          unfold callAt
          rw [hi]
          simp only [Bool.and_eq_true, beq_iff_eq]
          exact ⟨⟨(own_iff ho hil hfl).2 ⟨i1, i2⟩, hk⟩, e2⟩
  · rw [if_neg h, if_neg h]
end Go.Proofs.YtolidiafomceiaaGreatDoor
namespace Go.Proofs.YtolidiafomceiaaGreatDoor
set_option linter.unusedVariables false
set_option linter.unusedSimpArgs false
open Go.RowKit
set_option maxHeartbeats 16000000 in
set_option maxRecDepth 100000 in
theorem owner_any (x : Pr) (q : Int) (w : World) (h : PrIn w x) : Calls Tryz.prog 40 #[.agg (prC x).toArray, .int .i64 q] w fun e w' => e = .returned (.int .i64 (ownZ x.p q)) ∧ Chg [] w w' := by
  obtain ⟨R, hR⟩ : ∃ R, R = ownZ x.p q := ⟨_, rfl⟩
  rw [← hR]
  unfold ownZ at hR
  rw [show x.p.funcs.length = x.funcs.length from List.length_map _, show x.p.funcs = x.funcs.map Fn'.p from rfl, idxFrom_map] at hR
  obtain ⟨v, hv⟩ : ∃ v, v = idxFrom (fun g : Fn' => decide (q ≤ g.p.body)) x.funcs 0 := ⟨_, rfl⟩
  rw [← hv] at hR
  have HV := Lib.hid hv
  have HR := Lib.hid hR
  obtain ⟨W1, hW1⟩ : ∃ W1, W1 = w.alloc (prO x) := ⟨_, rfl⟩
  have C1 := Lib.hid (show Chg [] w W1 by rw [hW1]; exact (Chg.refl _ _).alloc _)
  have B1 := Lib.hid (show W1.heap[w.heap.size]? = some (prO x) by rw [hW1]; exact heap_alloc_new _ _)
  unfold prO at hW1 B1
  have HP := Lib.hid (h.kept C1.out)
  have k1 := blk_cell B1.out
  have hfl : (x.funcs.length : Int) ≤ 9223372036854775807 := by have h0 := HP.out.2.1; have h1 := h0.2.1; have h2 := h0.2.2.1; unfold maxLen at h2; omega
  simp only [prC]
  clear h hR hv
  go_enter Tryz.func40, Tryz.ntmps40
  go_upto_region 1 with fail
  rw [← hW1]
  clear hW1
  go_wp2_with fail
  go_loopw [5] (fun u wi => ∃ i : Nat, u = .int .i64 i ∧ i ≤ x.funcs.length ∧ Hid (v = idxFrom (fun g : Fn' => decide (q ≤ g.p.body)) (x.funcs.drop i) (i : Int)) ∧ wi = W1) (fun u _ => x.funcs.length - (intOf u).toNat)
  case atStart => exact ⟨0, rfl, Nat.zero_le _, HV, rfl⟩
  case round =>
    obtain ⟨i, rfl, hi, HQ, rfl⟩ := hrel
    have hi0 : (0 : Int) ≤ (i : Int) := by omega
    by_cases hil : i < x.funcs.length
    · have hil' : (i : Int) < (x.funcs.length : Int) := by omega
      obtain ⟨b2, o2, e2, -, -, hc2⟩ := (HP.out.2.1.1).elem (Chg.refl [] _) i hil
      have u0 := hc2 2 (by omega)
      simp only [fnC, List.getElem?_cons_zero, List.getElem?_cons_succ, Nat.add_zero] at u0
      have HQ2 := HQ.out
      rw [List.drop_eq_getElem_cons hil, idxFrom] at HQ2
      rw [show (x.funcs[i]).p.body = (x.funcs[i]).body from rfl] at HQ2
      generalize x.funcs[i] = fn at *
      have k2 := blk_cell (by have := B1.out; rw [e2] at this; exact this)
      have q1 : IntKind.i64.wrap ((i : Int) + 1) = (i : Int) + 1 := IntWalk.i64_in _ (by omega)
      clear hc2 k1
      rw [e2]
      by_cases hq : q ≤ fn.body
      · rw [if_pos (decide_eq_true hq)] at HQ2
        have HE := Lib.hid (show R = (i : Int) by rw [HR.out, if_neg (by omega), HQ2])
        clear HQ2
        go_wp2_with fail
        go_ret
        exact ⟨retI HE.out.symm, C1.out⟩
      · rw [if_neg (by simpa using hq)] at HQ2
        have HQ3 := Lib.hid HQ2
        clear HQ2
        go_wp2_with fail
        exact ⟨⟨i + 1, rfl, by omega, HQ3, trivial⟩, by simp [intOf]; omega⟩
    · have hie : i = x.funcs.length := by omega
      have hil' : ¬ (i : Int) < (x.funcs.length : Int) := by omega
      have HQ2 := HQ.out
      rw [hie, List.drop_length, idxFrom] at HQ2
      have HE := Lib.hid (show R = (x.funcs.length : Int) - 1 by rw [HR.out, if_pos (by omega)])
      have q1 : IntKind.i64.wrap ((x.funcs.length : Int) - 1) = (x.funcs.length : Int) - 1 := IntWalk.i64_in _ (by omega)
      clear HQ2 hie
      go_wp2_with fail
      go_ret
      exact ⟨retI HE.out.symm, C1.out⟩
theorem rcalls_step {p : PPr} {m g : Nat} : ((List.range (g + 1)).filter (fun q : Nat => rcallB p m (q : Int))).map (fun q : Nat => (q : Int)) = if rcallB p m (g : Int) = true then ((List.range g).filter (fun q : Nat => rcallB p m (q : Int))).map (fun q : Nat => (q : Int)) ++ [(g : Int)] else ((List.range g).filter (fun q : Nat => rcallB p m (q : Int))).map (fun q : Nat => (q : Int)) := by
  rw [List.range_succ, List.filter_append, List.map_append]
  cases h : rcallB p m (g : Int)
  · simp [h]
  · simp [h]
theorem rany_step {p : Nat → Bool} {i : Nat} : (List.range (i + 1)).any p = ((List.range i).any p || p i) := by
  rw [List.range_succ, List.any_append]
  simp
set_option maxHeartbeats 16000000 in
set_option maxRecDepth 100000 in
theorem rcalls_any (x : Pr) (f : Int) (w : World) (h : PrIn w x) (hz : szPr x) : Calls Tryz.prog 23 #[.agg (prC x).toArray, .int .i64 f] w (IntsPost w (rcallsZ x.p f)) := by
  obtain ⟨W1, hW1⟩ : ∃ W1, W1 = w.alloc (prO x) := ⟨_, rfl⟩
  have C1 := Lib.hid (show Chg [] w W1 by rw [hW1]; exact (Chg.refl _ _).alloc _)
  have B1 := Lib.hid (show W1.heap[w.heap.size]? = some (prO x) by rw [hW1]; exact heap_alloc_new _ _)
  have ZZ1 := Lib.hid (show W1.heap.size = w.heap.size + 1 by rw [hW1]; exact Array.size_push _)
  have CK := Lib.hid (fun w' (hc : Chg [] w w') => rcheck9_any x w' (h.kept hc) hz)
  obtain ⟨R, hR⟩ : ∃ R, R = rcallsZ x.p f := ⟨_, rfl⟩
  rw [← hR]
  unfold rcallsZ at hR
  rw [show x.p.funcs.length = x.funcs.length from List.length_map _] at hR
  unfold prO at hW1 B1
  have k1 := blk_cell B1.out
  by_cases he : (studyZ x.p).2.2.2 = 0
  · obtain ⟨hn6, hf16⟩ := study_nodes he
    have hn6i : (x.nodes.length : Int) ≤ 600 := by omega
    have hf16i : (x.funcs.length : Int) ≤ 16 := by omega
    by_cases hf : 0 ≤ f ∧ f.toNat < x.funcs.length
    · rw [if_pos ⟨he, hf⟩] at hR
      obtain ⟨m, rfl⟩ : ∃ m : Nat, f = (m : Int) := ⟨f.toNat, by omega⟩
      have HP := Lib.hid (fun w' (hc : Chg [] w w') => h.kept hc)
      have OW := Lib.hid (fun w' (hc : Chg [] w w') (i : Nat) => owner_any x (i : Int) w' (h.kept hc))
      have FN := Lib.hid (fun w' (hc : Chg [] w w') (s : ByteArray) => rfunction_any x w' (h.kept hc) s)
      have hm0 : ¬ (m : Int) < 0 := by omega
      have hm1 : ¬ (m : Int) ≥ (x.funcs.length : Int) := by omega
      have hmd : decide ((m : Int) < 0) = false := decide_eq_false hm0
      have hmd2 : decide (x.funcs.length ≤ m) = false := decide_eq_false (by omega)
      have HR := Lib.hid hR
      rw [he] at CK
      simp only [prC] at CK OW FN ⊢
      generalize (studyZ x.p).2.2.1 = ea at *
      clear h hz he hf hR
      go_enter Tryz.func23, Tryz.ntmps23
      go_upto_region 1 with fail
      rw [← hW1]
      clear hW1
      go_wp2_with (go_at_call 11; (with_reducible refine Calls.mono (CK.out _ C1.out) ?_); rintro e w2 ⟨rfl, hc⟩; have C2 := Lib.hid (C1.out.thenSame hc); have B2 := Lib.hid (hc.at (by simp) B1.out); have k2 := blk_cell B2.out; clear k1 hc)
      clear k2
      go_loopw [5, 8] (fun u5 u8 wi => ∃ (g : Nat) (a : Option Addr) (c : Nat) (out : List Int), u5 = .slice a out.length c ∧ u8 = .int .i64 g ∧ g ≤ x.funcs.length ∧ out.length ≤ g ∧ Hid (out = ((List.range g).filter (fun q : Nat => rcallB x.p m (q : Int))).map (fun q : Nat => (q : Int))) ∧ Hid (RowOf icI 1 wi W1.heap.size 3 (.slice a out.length c) out) ∧ Hid (Chg [] w wi) ∧ Hid (wi.heap[w.heap.size]? = some (.cells #[.slice x.na x.nodes.length x.nc, .slice x.fa x.funcs.length x.fc] 25 (0, 0)))) (fun _ v _ => x.funcs.length - (intOf v).toNat)
      case atStart => exact ⟨0, none, 0, [], rfl, rfl, Nat.zero_le _, Nat.le_refl _, Lib.hid rfl, Lib.hid ⟨rfl, .inl ⟨rfl, rfl⟩⟩, C2, B2⟩
      case round =>
        obtain ⟨g, a, c, out, rfl, rfl, hg, hol, HO, RO, C, B⟩ := hrel
        have hg0 : (0 : Int) ≤ (g : Int) := by omega
        have k3 := blk_cell B.out
        by_cases hgl : g < x.funcs.length
        · have hgl' : (g : Int) < (x.funcs.length : Int) := by omega
          have HST := Lib.hid (rcalls_step (p := x.p) (m := m) (g := g))
          have HCB := Lib.hid (show rcallB x.p m (g : Int) = (List.range x.nodes.length).any (callAt x.p m (g : Int)) by unfold rcallB; rw [show x.p.nodes.length = x.nodes.length from List.length_map _])
          have qg : IntKind.i64.wrap ((g : Int) + 1) = (g : Int) + 1 := IntWalk.i64_in _ (by omega)
          go_wp2_with fail
          clear k3
          go_loopw [9, 10] (fun u9 u10 wi => ∃ (i : Nat) (fd : Bool), u9 = .bool fd ∧ u10 = .int .i64 i ∧ i ≤ x.nodes.length ∧ Hid (fd = (List.range i).any (callAt x.p m (g : Int))) ∧ Hid (Chg [] wr wi)) (fun _ v _ => x.nodes.length - (intOf v).toNat)
          case atStart => exact ⟨0, false, rfl, rfl, Nat.zero_le _, Lib.hid rfl, Lib.hid (Chg.refl _ _)⟩
          case round =>
            obtain ⟨i, fd, rfl, rfl, hi, HFD, D⟩ := hrel
            have hi0 : (0 : Int) ≤ (i : Int) := by omega
            have C4 := Lib.hid (C.out.thenSame D.out)
            have B4 := Lib.hid (D.out.at (by simp) B.out)
            by_cases hil : i < x.nodes.length
            · have hil' : (i : Int) < (x.nodes.length : Int) := by omega
              have qi : IntKind.i64.wrap ((i : Int) + 1) = (i : Int) + 1 := IntWalk.i64_in _ (by omega)
              obtain ⟨b3, o3, e3, -, -, -⟩ := ((HP.out _ C4.out).1.1.1).elem (Chg.refl [] _) i hil
              have UN := Lib.hid (fun w' (hc : Chg [] w w') => show w'.cell? ⟨b3, o3 + i * 5, none⟩ = some (.int .i64 (x.nodes[i]).kind) ∧ w'.cell? ⟨b3, o3 + i * 5 + 1, none⟩ = some (.string (x.nodes[i]).text) from by
                obtain ⟨b7, o7, e7, -, -, hc7⟩ := ((HP.out w' hc).1.1.1).elem (Chg.refl [] _) i hil
                have e8 := e3.symm.trans e7
                simp only [Option.some.injEq, Addr.mk.injEq, and_true] at e8
                obtain ⟨rfl, rfl⟩ := e8
                have g0 := hc7 0 (by omega)
                have g1 := hc7 1 (by omega)
                simp only [ndC, List.getElem?_cons_zero, List.getElem?_cons_succ, Nat.add_zero] at g0 g1
                exact ⟨g0, g1⟩)
              have hca : callAt x.p m (g : Int) i = ((ownZ x.p i == (m : Int) && (x.nodes[i]).kind == 11) && idxFrom (fun h : PFn => h.name == (x.nodes[i]).text) x.p.funcs 0 == (g : Int)) := by
                unfold callAt
                rw [show x.p.nodes[i]? = some (x.nodes[i]).p from by
                  show (x.nodes.map Nd.p)[i]? = _
                  rw [List.getElem?_map, List.getElem?_eq_getElem hil]
                  rfl]
                rfl
              have HCA := Lib.hid hca
              generalize x.nodes[i] = d at *
              have HFS := Lib.hid (rany_step (p := callAt x.p m (g : Int)) (i := i))
              have OW2' := OW.out
              have FN2' := FN.out
              rw [e3] at OW2' FN2'
              have OW2 := Lib.hid (fun (w' : World) (hc : Chg [] w w') => OW2' w' hc i)
              have FN2 := Lib.hid FN2'
              have E3 := Lib.hid e3
              clear hca OW2' FN2'
              generalize ownZ x.p (i : Int) = ov at *
              generalize hidx : idxFrom (fun h : PFn => h.name == d.text) x.p.funcs 0 = iv at *
              have HIX := Lib.hid hidx
              have k4 := blk_cell (by have := B4.out; rw [E3.out] at this; exact this)
              clear hidx
              rw [e3]
              go_upto_region 12 with fail
              clear k4
              have VK := Lib.hid (fun (w' : World) (hc : Chg [] wr w') => show w'.cell? ⟨w.heap.size, 0, none⟩ = some (.slice (some ⟨b3, o3, none⟩) x.nodes.length x.nc) ∧ w'.cell? ⟨w.heap.size, 1, none⟩ = some (.slice x.fa x.funcs.length x.fc) ∧ w'.cell? ⟨b3, o3 + i * 5, none⟩ = some (.int .i64 d.kind) ∧ w'.cell? ⟨b3, o3 + i * 5 + 1, none⟩ = some (.string d.text) from by
                have h1 := blk_cell (by have := hc.at (by simp) B4.out; rw [E3.out] at this; exact this)
                obtain ⟨g0, g1⟩ := UN.out w' (C4.out.thenSame hc)
                exact ⟨h1 0, h1 1, g0, g1⟩)
              have FN3' := FN2.out
              have FN3 := Lib.hid (fun w' (hc : Chg [] w w') => show Calls Tryz.prog 31 #[.agg #[.slice (some ⟨b3, o3, none⟩) x.nodes.length x.nc, .slice x.fa x.funcs.length x.fc], .string d.text] w' fun e w2 => e = .returned (.int .i64 iv) ∧ Chg [] w' w2 from by have := FN3' w' hc d.text; rw [HIX.out] at this; exact this)
              clear FN3' FN2 FN
              cases ho : (ov == (m : Int))
              · have HFE := Lib.hid (show fd = (List.range (i + 1)).any (callAt x.p m (g : Int)) by rw [HFS.out, ← HFD.out, HCA.out, ho]; simp)
                obtain ⟨wd, hwd⟩ : ∃ wd, wd = wr.drew := ⟨_, rfl⟩
                have D0 := Lib.hid (show Chg [] wr wd by rw [hwd]; exact (Chg.refl _ _).drew)
                have C5 := Lib.hid (C4.out.thenSame D0.out)
                refine wp_region_noPanic ?_
                refine wp_region_held_drew (S := (fun w' => w'.cell? ⟨w.heap.size, 0, none⟩ = some (.slice (some ⟨b3, o3, none⟩) x.nodes.length x.nc) ∧ w'.cell? ⟨w.heap.size, 1, none⟩ = some (.slice x.fa x.funcs.length x.fc) ∧ w'.cell? ⟨b3, o3 + i * 5, none⟩ = some (.int .i64 d.kind) ∧ w'.cell? ⟨b3, o3 + i * 5 + 1, none⟩ = some (.string d.text))) (by kernel_rfl) (by rw [← hwd]; exact VK.out _ D0.out) (fun hHeld => ?_)
                rw [← hwd] at hHeld ⊢
                clear hwd
                refine wpAnyH_take (i := 0) (oi := _) (v := ?vA_0) rfl (by kernel_rfl) (by kernel_rfl) (by kernel_rfl) (fun _ _ _ h => h) (Or.inl ⟨by rfl, ?yA_0⟩) hHeld ?rA_0
                case yA_0 => (intro w hSw; (try dsimp only at hSw); (try simp only [List.getElem_toArray, List.getElem_cons_zero, List.getElem_cons_succ]); go_simp <;> with_reducible rfl)
                (try simp only [List.getElem_toArray, List.getElem_cons_zero, List.getElem_cons_succ, Act.put, List.setIfInBounds_toArray, List.set_cons_zero, List.set_cons_succ])
                refine wpAnyH_take (i := 1) (oi := _) (v := ?vA_1) rfl (by kernel_rfl) (by kernel_rfl) (by kernel_rfl) (fun _ _ _ h => h) (Or.inl ⟨by rfl, ?yA_1⟩) hHeld ?rA_1
                case yA_1 => (intro w hSw; (try dsimp only at hSw); (try simp only [List.getElem_toArray, List.getElem_cons_zero, List.getElem_cons_succ]); go_simp <;> with_reducible rfl)
                (try simp only [List.getElem_toArray, List.getElem_cons_zero, List.getElem_cons_succ, Act.put, List.setIfInBounds_toArray, List.set_cons_zero, List.set_cons_succ])
                refine wpAnyH_take (i := 3) (oi := _) (v := ?vA_3) rfl (by kernel_rfl) (by kernel_rfl) (by kernel_rfl) (fun _ _ _ h => h) (Or.inl ⟨by rfl, ?yA_3⟩) hHeld ?rA_3
                case yA_3 => (intro w hSw; (try dsimp only at hSw); (try simp only [List.getElem_toArray, List.getElem_cons_zero, List.getElem_cons_succ]); go_simp <;> with_reducible rfl)
                (try simp only [List.getElem_toArray, List.getElem_cons_zero, List.getElem_cons_succ, Act.put, List.setIfInBounds_toArray, List.set_cons_zero, List.set_cons_succ])
                refine wpAnyH_ready (rs := [2]) (by kernel_rfl) (by simp) ?_
                refine AllReadyH.cons (o := _) rfl (fun K hK => ?_) AllReadyH.nil
                (try simp only [List.getElem_toArray, List.getElem_cons_zero, List.getElem_cons_succ])
                go_simp
                (go_at_call 40; (with_reducible refine Calls.mono (OW2.out _ C5.out) ?_); rintro e w5 ⟨rfl, hc5⟩; have K5 := Lib.hid (D0.out.thenSame hc5); have C6 := Lib.hid (C5.out.thenSame hc5); clear hc5)
                refine hK.out _ _ ?_ (fun hHeld => ?_)
                exact VK.out _ K5.out
                clear hK K
                (try simp only [List.getElem_toArray, List.getElem_cons_zero, List.getElem_cons_succ, Act.put, List.setIfInBounds_toArray, List.set_cons_zero, List.set_cons_succ])
                refine wpAnyH_take (i := 4) (oi := _) (v := ?vA_4) rfl (by kernel_rfl) (by kernel_rfl) (by kernel_rfl) (fun _ _ _ h => h) (Or.inl ⟨by rfl, ?yA_4⟩) hHeld ?rA_4
                case yA_4 => (intro w hSw; (try dsimp only at hSw); (try simp only [List.getElem_toArray, List.getElem_cons_zero, List.getElem_cons_succ]); go_simp <;> with_reducible rfl)
                (try simp only [List.getElem_toArray, List.getElem_cons_zero, List.getElem_cons_succ, Act.put, List.setIfInBounds_toArray, List.set_cons_zero, List.set_cons_succ])
                refine wpAnyH_take (i := 5) (oi := _) (v := ?vA_5) rfl (by kernel_rfl) (by kernel_rfl) (by kernel_rfl) (fun _ _ _ h => h) (Or.inl ⟨by rfl, ?yA_5⟩) hHeld ?rA_5
                case yA_5 => (intro w hSw; (try dsimp only at hSw); (try simp only [List.getElem_toArray, List.getElem_cons_zero, List.getElem_cons_succ]); go_simp <;> with_reducible rfl)
                (try simp only [List.getElem_toArray, List.getElem_cons_zero, List.getElem_cons_succ, Act.put, List.setIfInBounds_toArray, List.set_cons_zero, List.set_cons_succ])
                refine wpAnyH_take (i := 6) (oi := _) (v := _) rfl (by kernel_rfl) (by kernel_rfl) (by kernel_rfl) (fun _ _ _ h => h) (Or.inr ⟨by rfl, rfl⟩) hHeld ?_
                (try simp only [List.getElem_toArray, List.getElem_cons_zero, List.getElem_cons_succ, Act.put, List.setIfInBounds_toArray, List.set_cons_zero, List.set_cons_succ])
                refine wpAnyH_take (i := 7) (oi := _) (v := _) rfl (by kernel_rfl) (by kernel_rfl) (by kernel_rfl) (fun _ _ _ h => h) (Or.inr ⟨by rfl, rfl⟩) hHeld ?_
                (try simp only [List.getElem_toArray, List.getElem_cons_zero, List.getElem_cons_succ, Act.put, List.setIfInBounds_toArray, List.set_cons_zero, List.set_cons_succ])
                refine wpAnyH_take (i := 8) (oi := _) (v := _) rfl (by kernel_rfl) (by kernel_rfl) (by kernel_rfl) (fun _ _ _ h => h) (Or.inr ⟨by rfl, rfl⟩) hHeld ?_
                (try simp only [List.getElem_toArray, List.getElem_cons_zero, List.getElem_cons_succ, Act.put, List.setIfInBounds_toArray, List.set_cons_zero, List.set_cons_succ])
                refine wpAnyH_take (i := 9) (oi := _) (v := _) rfl (by kernel_rfl) (by kernel_rfl) (by kernel_rfl) (fun _ _ _ h => h) (Or.inr ⟨by rfl, rfl⟩) hHeld ?_
                (try simp only [List.getElem_toArray, List.getElem_cons_zero, List.getElem_cons_succ, Act.put, List.setIfInBounds_toArray, List.set_cons_zero, List.set_cons_succ])
                refine wpAnyH_take (i := 10) (oi := _) (v := _) rfl (by kernel_rfl) (by kernel_rfl) (by kernel_rfl) (fun _ _ _ h => h) (Or.inr ⟨by rfl, rfl⟩) hHeld ?_
                (try simp only [List.getElem_toArray, List.getElem_cons_zero, List.getElem_cons_succ, Act.put, List.setIfInBounds_toArray, List.set_cons_zero, List.set_cons_succ])
                refine wpAnyH_take (i := 11) (oi := _) (v := _) rfl (by kernel_rfl) (by kernel_rfl) (by kernel_rfl) (fun _ _ _ h => h) (Or.inr ⟨by rfl, rfl⟩) hHeld ?_
                (try simp only [List.getElem_toArray, List.getElem_cons_zero, List.getElem_cons_succ, Act.put, List.setIfInBounds_toArray, List.set_cons_zero, List.set_cons_succ])
                refine wpAnyH_take (i := 12) (oi := _) (v := _) rfl (by kernel_rfl) (by kernel_rfl) (by kernel_rfl) (fun _ _ _ h => h) (Or.inr ⟨by rfl, rfl⟩) hHeld ?_
                (try simp only [List.getElem_toArray, List.getElem_cons_zero, List.getElem_cons_succ, Act.put, List.setIfInBounds_toArray, List.set_cons_zero, List.set_cons_succ])
                refine wpAnyH_take (i := 13) (oi := _) (v := ?vA_13) rfl (by kernel_rfl) (by kernel_rfl) (by kernel_rfl) (fun _ _ _ h => h) (Or.inl ⟨by rfl, ?yA_13⟩) hHeld ?rA_13
                case yA_13 => (intro w hSw; (try dsimp only at hSw); (try simp only [List.getElem_toArray, List.getElem_cons_zero, List.getElem_cons_succ]); go_simp <;> with_reducible rfl)
                (try simp only [List.getElem_toArray, List.getElem_cons_zero, List.getElem_cons_succ, Act.put, List.setIfInBounds_toArray, List.set_cons_zero, List.set_cons_succ])
                refine wpAnyH_take (i := 14) (oi := _) (v := ?vA_14) rfl (by kernel_rfl) (by kernel_rfl) (by kernel_rfl) (fun _ _ _ h => h) (Or.inl ⟨by rfl, ?yA_14⟩) hHeld ?rA_14
                case yA_14 => (intro w hSw; (try dsimp only at hSw); (try simp only [List.getElem_toArray, List.getElem_cons_zero, List.getElem_cons_succ]); go_simp <;> with_reducible rfl)
                (try simp only [List.getElem_toArray, List.getElem_cons_zero, List.getElem_cons_succ, Act.put, List.setIfInBounds_toArray, List.set_cons_zero, List.set_cons_succ])
                refine wpAnyH_take (i := 15) (oi := _) (v := _) rfl (by kernel_rfl) (by kernel_rfl) (by kernel_rfl) (fun _ _ _ h => h) (Or.inr ⟨by rfl, rfl⟩) hHeld ?_
                (try simp only [List.getElem_toArray, List.getElem_cons_zero, List.getElem_cons_succ, Act.put, List.setIfInBounds_toArray, List.set_cons_zero, List.set_cons_succ])
                refine wpAnyH_take (i := 16) (oi := _) (v := _) rfl (by kernel_rfl) (by kernel_rfl) (by kernel_rfl) (fun _ _ _ h => h) (Or.inr ⟨by rfl, rfl⟩) hHeld ?_
                (try simp only [List.getElem_toArray, List.getElem_cons_zero, List.getElem_cons_succ, Act.put, List.setIfInBounds_toArray, List.set_cons_zero, List.set_cons_succ])
                refine wpAnyH_take (i := 17) (oi := _) (v := _) rfl (by kernel_rfl) (by kernel_rfl) (by kernel_rfl) (fun _ _ _ h => h) (Or.inr ⟨by rfl, rfl⟩) hHeld ?_
                (try simp only [List.getElem_toArray, List.getElem_cons_zero, List.getElem_cons_succ, Act.put, List.setIfInBounds_toArray, List.set_cons_zero, List.set_cons_succ])
                refine wpAnyH_take (i := 18) (oi := _) (v := _) rfl (by kernel_rfl) (by kernel_rfl) (by kernel_rfl) (fun _ _ _ h => h) (Or.inr ⟨by rfl, rfl⟩) hHeld ?_
                (try simp only [List.getElem_toArray, List.getElem_cons_zero, List.getElem_cons_succ, Act.put, List.setIfInBounds_toArray, List.set_cons_zero, List.set_cons_succ])
                refine wpAnyH_take (i := 19) (oi := _) (v := _) rfl (by kernel_rfl) (by kernel_rfl) (by kernel_rfl) (fun _ _ _ h => h) (Or.inr ⟨by rfl, rfl⟩) hHeld ?_
                (try simp only [List.getElem_toArray, List.getElem_cons_zero, List.getElem_cons_succ, Act.put, List.setIfInBounds_toArray, List.set_cons_zero, List.set_cons_succ])
                refine wpAnyH_take (i := 20) (oi := _) (v := _) rfl (by kernel_rfl) (by kernel_rfl) (by kernel_rfl) (fun _ _ _ h => h) (Or.inr ⟨by rfl, rfl⟩) hHeld ?_
                (try simp only [List.getElem_toArray, List.getElem_cons_zero, List.getElem_cons_succ, Act.put, List.setIfInBounds_toArray, List.set_cons_zero, List.set_cons_succ])
                refine wpAnyH_take (i := 21) (oi := _) (v := _) rfl (by kernel_rfl) (by kernel_rfl) (by kernel_rfl) (fun _ _ _ h => h) (Or.inr ⟨by rfl, rfl⟩) hHeld ?_
                (try simp only [List.getElem_toArray, List.getElem_cons_zero, List.getElem_cons_succ, Act.put, List.setIfInBounds_toArray, List.set_cons_zero, List.set_cons_succ])
                refine wpAnyH_take (i := 22) (oi := _) (v := _) rfl (by kernel_rfl) (by kernel_rfl) (by kernel_rfl) (fun _ _ _ h => h) (Or.inr ⟨by rfl, rfl⟩) hHeld ?_
                (try simp only [List.getElem_toArray, List.getElem_cons_zero, List.getElem_cons_succ, Act.put, List.setIfInBounds_toArray, List.set_cons_zero, List.set_cons_succ])
                refine wpAnyH_take (i := 23) (oi := _) (v := _) rfl (by kernel_rfl) (by kernel_rfl) (by kernel_rfl) (fun _ _ _ h => h) (Or.inr ⟨by rfl, rfl⟩) hHeld ?_
                (try simp only [List.getElem_toArray, List.getElem_cons_zero, List.getElem_cons_succ, Act.put, List.setIfInBounds_toArray, List.set_cons_zero, List.set_cons_succ])
                refine wpAnyH_take (i := 24) (oi := _) (v := _) rfl (by kernel_rfl) (by kernel_rfl) (by kernel_rfl) (fun _ _ _ h => h) (Or.inr ⟨by rfl, rfl⟩) hHeld ?_
                (try simp only [List.getElem_toArray, List.getElem_cons_zero, List.getElem_cons_succ, Act.put, List.setIfInBounds_toArray, List.set_cons_zero, List.set_cons_succ])
                refine wpAnyH_take (i := 25) (oi := _) (v := ?vA_25) rfl (by kernel_rfl) (by kernel_rfl) (by kernel_rfl) (fun _ _ _ h => h) (Or.inl ⟨by rfl, ?yA_25⟩) hHeld ?rA_25
                case yA_25 => (intro w hSw; (try dsimp only at hSw); (try simp only [List.getElem_toArray, List.getElem_cons_zero, List.getElem_cons_succ]); go_simp <;> with_reducible rfl)
                (try simp only [List.getElem_toArray, List.getElem_cons_zero, List.getElem_cons_succ, Act.put, List.setIfInBounds_toArray, List.set_cons_zero, List.set_cons_succ])
                refine wpAnyH_done (by kernel_rfl) ?_ _
                refine NoPanic.normal ?_
                go_wp2_with fail
                exact ⟨⟨i + 1, fd, rfl, rfl, by omega, HFE, Lib.hid (D.out.thenSame K5.out)⟩, by simp [intOf]; omega⟩
              · cases hk : (d.kind == 11)
                · have HFE := Lib.hid (show fd = (List.range (i + 1)).any (callAt x.p m (g : Int)) by rw [HFS.out, ← HFD.out, HCA.out, ho, hk]; simp)
                  obtain ⟨wd, hwd⟩ : ∃ wd, wd = wr.drew := ⟨_, rfl⟩
                  have D0 := Lib.hid (show Chg [] wr wd by rw [hwd]; exact (Chg.refl _ _).drew)
                  have C5 := Lib.hid (C4.out.thenSame D0.out)
                  refine wp_region_noPanic ?_
                  refine wp_region_held_drew (S := (fun w' => w'.cell? ⟨w.heap.size, 0, none⟩ = some (.slice (some ⟨b3, o3, none⟩) x.nodes.length x.nc) ∧ w'.cell? ⟨w.heap.size, 1, none⟩ = some (.slice x.fa x.funcs.length x.fc) ∧ w'.cell? ⟨b3, o3 + i * 5, none⟩ = some (.int .i64 d.kind) ∧ w'.cell? ⟨b3, o3 + i * 5 + 1, none⟩ = some (.string d.text))) (by kernel_rfl) (by rw [← hwd]; exact VK.out _ D0.out) (fun hHeld => ?_)
                  rw [← hwd] at hHeld ⊢
                  clear hwd
                  refine wpAnyH_take (i := 0) (oi := _) (v := ?vB_0) rfl (by kernel_rfl) (by kernel_rfl) (by kernel_rfl) (fun _ _ _ h => h) (Or.inl ⟨by rfl, ?yB_0⟩) hHeld ?rB_0
                  case yB_0 => (intro w hSw; (try dsimp only at hSw); (try simp only [List.getElem_toArray, List.getElem_cons_zero, List.getElem_cons_succ]); go_simp <;> with_reducible rfl)
                  (try simp only [List.getElem_toArray, List.getElem_cons_zero, List.getElem_cons_succ, Act.put, List.setIfInBounds_toArray, List.set_cons_zero, List.set_cons_succ])
                  refine wpAnyH_take (i := 1) (oi := _) (v := ?vB_1) rfl (by kernel_rfl) (by kernel_rfl) (by kernel_rfl) (fun _ _ _ h => h) (Or.inl ⟨by rfl, ?yB_1⟩) hHeld ?rB_1
                  case yB_1 => (intro w hSw; (try dsimp only at hSw); (try simp only [List.getElem_toArray, List.getElem_cons_zero, List.getElem_cons_succ]); go_simp <;> with_reducible rfl)
                  (try simp only [List.getElem_toArray, List.getElem_cons_zero, List.getElem_cons_succ, Act.put, List.setIfInBounds_toArray, List.set_cons_zero, List.set_cons_succ])
                  refine wpAnyH_take (i := 3) (oi := _) (v := ?vB_3) rfl (by kernel_rfl) (by kernel_rfl) (by kernel_rfl) (fun _ _ _ h => h) (Or.inl ⟨by rfl, ?yB_3⟩) hHeld ?rB_3
                  case yB_3 => (intro w hSw; (try dsimp only at hSw); (try simp only [List.getElem_toArray, List.getElem_cons_zero, List.getElem_cons_succ]); go_simp <;> with_reducible rfl)
                  (try simp only [List.getElem_toArray, List.getElem_cons_zero, List.getElem_cons_succ, Act.put, List.setIfInBounds_toArray, List.set_cons_zero, List.set_cons_succ])
                  refine wpAnyH_ready (rs := [2]) (by kernel_rfl) (by simp) ?_
                  refine AllReadyH.cons (o := _) rfl (fun K hK => ?_) AllReadyH.nil
                  (try simp only [List.getElem_toArray, List.getElem_cons_zero, List.getElem_cons_succ])
                  go_simp
                  (go_at_call 40; (with_reducible refine Calls.mono (OW2.out _ C5.out) ?_); rintro e w5 ⟨rfl, hc5⟩; have K5 := Lib.hid (D0.out.thenSame hc5); have C6 := Lib.hid (C5.out.thenSame hc5); clear hc5)
                  refine hK.out _ _ ?_ (fun hHeld => ?_)
                  exact VK.out _ K5.out
                  clear hK K
                  (try simp only [List.getElem_toArray, List.getElem_cons_zero, List.getElem_cons_succ, Act.put, List.setIfInBounds_toArray, List.set_cons_zero, List.set_cons_succ])
                  refine wpAnyH_take (i := 4) (oi := _) (v := ?vB_4) rfl (by kernel_rfl) (by kernel_rfl) (by kernel_rfl) (fun _ _ _ h => h) (Or.inl ⟨by rfl, ?yB_4⟩) hHeld ?rB_4
                  case yB_4 => (intro w hSw; (try dsimp only at hSw); (try simp only [List.getElem_toArray, List.getElem_cons_zero, List.getElem_cons_succ]); go_simp <;> with_reducible rfl)
                  (try simp only [List.getElem_toArray, List.getElem_cons_zero, List.getElem_cons_succ, Act.put, List.setIfInBounds_toArray, List.set_cons_zero, List.set_cons_succ])
                  refine wpAnyH_take (i := 5) (oi := _) (v := ?vB_5) rfl (by kernel_rfl) (by kernel_rfl) (by kernel_rfl) (fun _ _ _ h => h) (Or.inl ⟨by rfl, ?yB_5⟩) hHeld ?rB_5
                  case yB_5 => (intro w hSw; (try dsimp only at hSw); (try simp only [List.getElem_toArray, List.getElem_cons_zero, List.getElem_cons_succ]); go_simp <;> with_reducible rfl)
                  (try simp only [List.getElem_toArray, List.getElem_cons_zero, List.getElem_cons_succ, Act.put, List.setIfInBounds_toArray, List.set_cons_zero, List.set_cons_succ])
                  refine wpAnyH_take (i := 6) (oi := _) (v := ?vB_6) rfl (by kernel_rfl) (by kernel_rfl) (by kernel_rfl) (fun _ _ _ h => h) (Or.inl ⟨by rfl, ?yB_6⟩) hHeld ?rB_6
                  case yB_6 => (intro w hSw; (try dsimp only at hSw); (try simp only [List.getElem_toArray, List.getElem_cons_zero, List.getElem_cons_succ]); go_simp <;> with_reducible rfl)
                  (try simp only [List.getElem_toArray, List.getElem_cons_zero, List.getElem_cons_succ, Act.put, List.setIfInBounds_toArray, List.set_cons_zero, List.set_cons_succ])
                  refine wpAnyH_take (i := 7) (oi := _) (v := ?vB_7) rfl (by kernel_rfl) (by kernel_rfl) (by kernel_rfl) (fun _ _ _ h => h) (Or.inl ⟨by rfl, ?yB_7⟩) hHeld ?rB_7
                  case yB_7 => (intro w hSw; (try dsimp only at hSw); (try simp only [List.getElem_toArray, List.getElem_cons_zero, List.getElem_cons_succ]); go_simp <;> with_reducible rfl)
                  (try simp only [List.getElem_toArray, List.getElem_cons_zero, List.getElem_cons_succ, Act.put, List.setIfInBounds_toArray, List.set_cons_zero, List.set_cons_succ])
                  refine wpAnyH_take (i := 8) (oi := _) (v := ?vB_8) rfl (by kernel_rfl) (by kernel_rfl) (by kernel_rfl) (fun _ _ _ h => h) (Or.inl ⟨by rfl, ?yB_8⟩) hHeld ?rB_8
                  case yB_8 => (intro w hSw; (try dsimp only at hSw); (try simp only [List.getElem_toArray, List.getElem_cons_zero, List.getElem_cons_succ]); go_simp <;> with_reducible rfl)
                  (try simp only [List.getElem_toArray, List.getElem_cons_zero, List.getElem_cons_succ, Act.put, List.setIfInBounds_toArray, List.set_cons_zero, List.set_cons_succ])
                  refine wpAnyH_take (i := 9) (oi := _) (v := ?vB_9) rfl (by kernel_rfl) (by kernel_rfl) (by kernel_rfl) (fun _ _ _ h => h) (Or.inl ⟨by rfl, ?yB_9⟩) hHeld ?rB_9
                  case yB_9 => (intro w hSw; (try dsimp only at hSw); (try simp only [List.getElem_toArray, List.getElem_cons_zero, List.getElem_cons_succ]); go_simp <;> with_reducible rfl)
                  (try simp only [List.getElem_toArray, List.getElem_cons_zero, List.getElem_cons_succ, Act.put, List.setIfInBounds_toArray, List.set_cons_zero, List.set_cons_succ])
                  refine wpAnyH_take (i := 10) (oi := _) (v := ?vB_10) rfl (by kernel_rfl) (by kernel_rfl) (by kernel_rfl) (fun _ _ _ h => h) (Or.inl ⟨by rfl, ?yB_10⟩) hHeld ?rB_10
                  case yB_10 => (intro w hSw; (try dsimp only at hSw); (try simp only [List.getElem_toArray, List.getElem_cons_zero, List.getElem_cons_succ]); go_simp <;> with_reducible rfl)
                  (try simp only [List.getElem_toArray, List.getElem_cons_zero, List.getElem_cons_succ, Act.put, List.setIfInBounds_toArray, List.set_cons_zero, List.set_cons_succ])
                  refine wpAnyH_take (i := 11) (oi := _) (v := ?vB_11) rfl (by kernel_rfl) (by kernel_rfl) (by kernel_rfl) (fun _ _ _ h => h) (Or.inl ⟨by rfl, ?yB_11⟩) hHeld ?rB_11
                  case yB_11 => (intro w hSw; (try dsimp only at hSw); (try simp only [List.getElem_toArray, List.getElem_cons_zero, List.getElem_cons_succ]); go_simp <;> with_reducible rfl)
                  (try simp only [List.getElem_toArray, List.getElem_cons_zero, List.getElem_cons_succ, Act.put, List.setIfInBounds_toArray, List.set_cons_zero, List.set_cons_succ])
                  refine wpAnyH_take (i := 12) (oi := _) (v := ?vB_12) rfl (by kernel_rfl) (by kernel_rfl) (by kernel_rfl) (fun _ _ _ h => h) (Or.inl ⟨by rfl, ?yB_12⟩) hHeld ?rB_12
                  case yB_12 => (intro w hSw; (try dsimp only at hSw); (try simp only [List.getElem_toArray, List.getElem_cons_zero, List.getElem_cons_succ]); go_simp <;> with_reducible rfl)
                  (try simp only [List.getElem_toArray, List.getElem_cons_zero, List.getElem_cons_succ, Act.put, List.setIfInBounds_toArray, List.set_cons_zero, List.set_cons_succ])
                  refine wpAnyH_take (i := 13) (oi := _) (v := ?vB_13) rfl (by kernel_rfl) (by kernel_rfl) (by kernel_rfl) (fun _ _ _ h => h) (Or.inl ⟨by rfl, ?yB_13⟩) hHeld ?rB_13
                  case yB_13 => (intro w hSw; (try dsimp only at hSw); (try simp only [List.getElem_toArray, List.getElem_cons_zero, List.getElem_cons_succ]); go_simp <;> with_reducible rfl)
                  (try simp only [List.getElem_toArray, List.getElem_cons_zero, List.getElem_cons_succ, Act.put, List.setIfInBounds_toArray, List.set_cons_zero, List.set_cons_succ])
                  refine wpAnyH_take (i := 14) (oi := _) (v := ?vB_14) rfl (by kernel_rfl) (by kernel_rfl) (by kernel_rfl) (fun _ _ _ h => h) (Or.inl ⟨by rfl, ?yB_14⟩) hHeld ?rB_14
                  case yB_14 => (intro w hSw; (try dsimp only at hSw); (try simp only [List.getElem_toArray, List.getElem_cons_zero, List.getElem_cons_succ]); go_simp <;> with_reducible rfl)
                  (try simp only [List.getElem_toArray, List.getElem_cons_zero, List.getElem_cons_succ, Act.put, List.setIfInBounds_toArray, List.set_cons_zero, List.set_cons_succ])
                  refine wpAnyH_take (i := 15) (oi := _) (v := _) rfl (by kernel_rfl) (by kernel_rfl) (by kernel_rfl) (fun _ _ _ h => h) (Or.inr ⟨by rfl, rfl⟩) hHeld ?_
                  (try simp only [List.getElem_toArray, List.getElem_cons_zero, List.getElem_cons_succ, Act.put, List.setIfInBounds_toArray, List.set_cons_zero, List.set_cons_succ])
                  refine wpAnyH_take (i := 16) (oi := _) (v := _) rfl (by kernel_rfl) (by kernel_rfl) (by kernel_rfl) (fun _ _ _ h => h) (Or.inr ⟨by rfl, rfl⟩) hHeld ?_
                  (try simp only [List.getElem_toArray, List.getElem_cons_zero, List.getElem_cons_succ, Act.put, List.setIfInBounds_toArray, List.set_cons_zero, List.set_cons_succ])
                  refine wpAnyH_take (i := 17) (oi := _) (v := _) rfl (by kernel_rfl) (by kernel_rfl) (by kernel_rfl) (fun _ _ _ h => h) (Or.inr ⟨by rfl, rfl⟩) hHeld ?_
                  (try simp only [List.getElem_toArray, List.getElem_cons_zero, List.getElem_cons_succ, Act.put, List.setIfInBounds_toArray, List.set_cons_zero, List.set_cons_succ])
                  refine wpAnyH_take (i := 18) (oi := _) (v := _) rfl (by kernel_rfl) (by kernel_rfl) (by kernel_rfl) (fun _ _ _ h => h) (Or.inr ⟨by rfl, rfl⟩) hHeld ?_
                  (try simp only [List.getElem_toArray, List.getElem_cons_zero, List.getElem_cons_succ, Act.put, List.setIfInBounds_toArray, List.set_cons_zero, List.set_cons_succ])
                  refine wpAnyH_take (i := 19) (oi := _) (v := _) rfl (by kernel_rfl) (by kernel_rfl) (by kernel_rfl) (fun _ _ _ h => h) (Or.inr ⟨by rfl, rfl⟩) hHeld ?_
                  (try simp only [List.getElem_toArray, List.getElem_cons_zero, List.getElem_cons_succ, Act.put, List.setIfInBounds_toArray, List.set_cons_zero, List.set_cons_succ])
                  refine wpAnyH_take (i := 20) (oi := _) (v := _) rfl (by kernel_rfl) (by kernel_rfl) (by kernel_rfl) (fun _ _ _ h => h) (Or.inr ⟨by rfl, rfl⟩) hHeld ?_
                  (try simp only [List.getElem_toArray, List.getElem_cons_zero, List.getElem_cons_succ, Act.put, List.setIfInBounds_toArray, List.set_cons_zero, List.set_cons_succ])
                  refine wpAnyH_take (i := 21) (oi := _) (v := _) rfl (by kernel_rfl) (by kernel_rfl) (by kernel_rfl) (fun _ _ _ h => h) (Or.inr ⟨by rfl, rfl⟩) hHeld ?_
                  (try simp only [List.getElem_toArray, List.getElem_cons_zero, List.getElem_cons_succ, Act.put, List.setIfInBounds_toArray, List.set_cons_zero, List.set_cons_succ])
                  refine wpAnyH_take (i := 22) (oi := _) (v := _) rfl (by kernel_rfl) (by kernel_rfl) (by kernel_rfl) (fun _ _ _ h => h) (Or.inr ⟨by rfl, rfl⟩) hHeld ?_
                  (try simp only [List.getElem_toArray, List.getElem_cons_zero, List.getElem_cons_succ, Act.put, List.setIfInBounds_toArray, List.set_cons_zero, List.set_cons_succ])
                  refine wpAnyH_take (i := 23) (oi := _) (v := _) rfl (by kernel_rfl) (by kernel_rfl) (by kernel_rfl) (fun _ _ _ h => h) (Or.inr ⟨by rfl, rfl⟩) hHeld ?_
                  (try simp only [List.getElem_toArray, List.getElem_cons_zero, List.getElem_cons_succ, Act.put, List.setIfInBounds_toArray, List.set_cons_zero, List.set_cons_succ])
                  refine wpAnyH_take (i := 24) (oi := _) (v := _) rfl (by kernel_rfl) (by kernel_rfl) (by kernel_rfl) (fun _ _ _ h => h) (Or.inr ⟨by rfl, rfl⟩) hHeld ?_
                  (try simp only [List.getElem_toArray, List.getElem_cons_zero, List.getElem_cons_succ, Act.put, List.setIfInBounds_toArray, List.set_cons_zero, List.set_cons_succ])
                  refine wpAnyH_take (i := 25) (oi := _) (v := ?vB_25) rfl (by kernel_rfl) (by kernel_rfl) (by kernel_rfl) (fun _ _ _ h => h) (Or.inl ⟨by rfl, ?yB_25⟩) hHeld ?rB_25
                  case yB_25 => (intro w hSw; (try dsimp only at hSw); (try simp only [List.getElem_toArray, List.getElem_cons_zero, List.getElem_cons_succ]); go_simp <;> with_reducible rfl)
                  (try simp only [List.getElem_toArray, List.getElem_cons_zero, List.getElem_cons_succ, Act.put, List.setIfInBounds_toArray, List.set_cons_zero, List.set_cons_succ])
                  refine wpAnyH_done (by kernel_rfl) ?_ _
                  refine NoPanic.normal ?_
                  go_wp2_with fail
                  exact ⟨⟨i + 1, fd, rfl, rfl, by omega, HFE, Lib.hid (D.out.thenSame K5.out)⟩, by simp [intOf]; omega⟩
                · cases hv : (iv == (g : Int))
                  · have HFE := Lib.hid (show fd = (List.range (i + 1)).any (callAt x.p m (g : Int)) by rw [HFS.out, ← HFD.out, HCA.out, ho, hk, hv]; simp)
                    obtain ⟨wd, hwd⟩ : ∃ wd, wd = wr.drew := ⟨_, rfl⟩
                    have D0 := Lib.hid (show Chg [] wr wd by rw [hwd]; exact (Chg.refl _ _).drew)
                    have C5 := Lib.hid (C4.out.thenSame D0.out)
                    refine wp_region_noPanic ?_
                    refine wp_region_held_drew (S := (fun w' => w'.cell? ⟨w.heap.size, 0, none⟩ = some (.slice (some ⟨b3, o3, none⟩) x.nodes.length x.nc) ∧ w'.cell? ⟨w.heap.size, 1, none⟩ = some (.slice x.fa x.funcs.length x.fc) ∧ w'.cell? ⟨b3, o3 + i * 5, none⟩ = some (.int .i64 d.kind) ∧ w'.cell? ⟨b3, o3 + i * 5 + 1, none⟩ = some (.string d.text))) (by kernel_rfl) (by rw [← hwd]; exact VK.out _ D0.out) (fun hHeld => ?_)
                    rw [← hwd] at hHeld ⊢
                    clear hwd
                    refine wpAnyH_take (i := 0) (oi := _) (v := ?vC_0) rfl (by kernel_rfl) (by kernel_rfl) (by kernel_rfl) (fun _ _ _ h => h) (Or.inl ⟨by rfl, ?yC_0⟩) hHeld ?rC_0
                    case yC_0 => (intro w hSw; (try dsimp only at hSw); (try simp only [List.getElem_toArray, List.getElem_cons_zero, List.getElem_cons_succ]); go_simp <;> with_reducible rfl)
                    (try simp only [List.getElem_toArray, List.getElem_cons_zero, List.getElem_cons_succ, Act.put, List.setIfInBounds_toArray, List.set_cons_zero, List.set_cons_succ])
                    refine wpAnyH_take (i := 1) (oi := _) (v := ?vC_1) rfl (by kernel_rfl) (by kernel_rfl) (by kernel_rfl) (fun _ _ _ h => h) (Or.inl ⟨by rfl, ?yC_1⟩) hHeld ?rC_1
                    case yC_1 => (intro w hSw; (try dsimp only at hSw); (try simp only [List.getElem_toArray, List.getElem_cons_zero, List.getElem_cons_succ]); go_simp <;> with_reducible rfl)
                    (try simp only [List.getElem_toArray, List.getElem_cons_zero, List.getElem_cons_succ, Act.put, List.setIfInBounds_toArray, List.set_cons_zero, List.set_cons_succ])
                    refine wpAnyH_take (i := 3) (oi := _) (v := ?vC_3) rfl (by kernel_rfl) (by kernel_rfl) (by kernel_rfl) (fun _ _ _ h => h) (Or.inl ⟨by rfl, ?yC_3⟩) hHeld ?rC_3
                    case yC_3 => (intro w hSw; (try dsimp only at hSw); (try simp only [List.getElem_toArray, List.getElem_cons_zero, List.getElem_cons_succ]); go_simp <;> with_reducible rfl)
                    (try simp only [List.getElem_toArray, List.getElem_cons_zero, List.getElem_cons_succ, Act.put, List.setIfInBounds_toArray, List.set_cons_zero, List.set_cons_succ])
                    refine wpAnyH_ready (rs := [2]) (by kernel_rfl) (by simp) ?_
                    refine AllReadyH.cons (o := _) rfl (fun K hK => ?_) AllReadyH.nil
                    (try simp only [List.getElem_toArray, List.getElem_cons_zero, List.getElem_cons_succ])
                    go_simp
                    (go_at_call 40; (with_reducible refine Calls.mono (OW2.out _ C5.out) ?_); rintro e w5 ⟨rfl, hc5⟩; have K5 := Lib.hid (D0.out.thenSame hc5); have C6 := Lib.hid (C5.out.thenSame hc5); clear hc5)
                    refine hK.out _ _ ?_ (fun hHeld => ?_)
                    exact VK.out _ K5.out
                    clear hK K
                    (try simp only [List.getElem_toArray, List.getElem_cons_zero, List.getElem_cons_succ, Act.put, List.setIfInBounds_toArray, List.set_cons_zero, List.set_cons_succ])
                    refine wpAnyH_take (i := 4) (oi := _) (v := ?vC_4) rfl (by kernel_rfl) (by kernel_rfl) (by kernel_rfl) (fun _ _ _ h => h) (Or.inl ⟨by rfl, ?yC_4⟩) hHeld ?rC_4
                    case yC_4 => (intro w hSw; (try dsimp only at hSw); (try simp only [List.getElem_toArray, List.getElem_cons_zero, List.getElem_cons_succ]); go_simp <;> with_reducible rfl)
                    (try simp only [List.getElem_toArray, List.getElem_cons_zero, List.getElem_cons_succ, Act.put, List.setIfInBounds_toArray, List.set_cons_zero, List.set_cons_succ])
                    refine wpAnyH_take (i := 5) (oi := _) (v := ?vC_5) rfl (by kernel_rfl) (by kernel_rfl) (by kernel_rfl) (fun _ _ _ h => h) (Or.inl ⟨by rfl, ?yC_5⟩) hHeld ?rC_5
                    case yC_5 => (intro w hSw; (try dsimp only at hSw); (try simp only [List.getElem_toArray, List.getElem_cons_zero, List.getElem_cons_succ]); go_simp <;> with_reducible rfl)
                    (try simp only [List.getElem_toArray, List.getElem_cons_zero, List.getElem_cons_succ, Act.put, List.setIfInBounds_toArray, List.set_cons_zero, List.set_cons_succ])
                    refine wpAnyH_take (i := 6) (oi := _) (v := ?vC_6) rfl (by kernel_rfl) (by kernel_rfl) (by kernel_rfl) (fun _ _ _ h => h) (Or.inl ⟨by rfl, ?yC_6⟩) hHeld ?rC_6
                    case yC_6 => (intro w hSw; (try dsimp only at hSw); (try simp only [List.getElem_toArray, List.getElem_cons_zero, List.getElem_cons_succ]); go_simp <;> with_reducible rfl)
                    (try simp only [List.getElem_toArray, List.getElem_cons_zero, List.getElem_cons_succ, Act.put, List.setIfInBounds_toArray, List.set_cons_zero, List.set_cons_succ])
                    refine wpAnyH_take (i := 7) (oi := _) (v := ?vC_7) rfl (by kernel_rfl) (by kernel_rfl) (by kernel_rfl) (fun _ _ _ h => h) (Or.inl ⟨by rfl, ?yC_7⟩) hHeld ?rC_7
                    case yC_7 => (intro w hSw; (try dsimp only at hSw); (try simp only [List.getElem_toArray, List.getElem_cons_zero, List.getElem_cons_succ]); go_simp <;> with_reducible rfl)
                    (try simp only [List.getElem_toArray, List.getElem_cons_zero, List.getElem_cons_succ, Act.put, List.setIfInBounds_toArray, List.set_cons_zero, List.set_cons_succ])
                    refine wpAnyH_take (i := 8) (oi := _) (v := ?vC_8) rfl (by kernel_rfl) (by kernel_rfl) (by kernel_rfl) (fun _ _ _ h => h) (Or.inl ⟨by rfl, ?yC_8⟩) hHeld ?rC_8
                    case yC_8 => (intro w hSw; (try dsimp only at hSw); (try simp only [List.getElem_toArray, List.getElem_cons_zero, List.getElem_cons_succ]); go_simp <;> with_reducible rfl)
                    (try simp only [List.getElem_toArray, List.getElem_cons_zero, List.getElem_cons_succ, Act.put, List.setIfInBounds_toArray, List.set_cons_zero, List.set_cons_succ])
                    refine wpAnyH_take (i := 9) (oi := _) (v := ?vC_9) rfl (by kernel_rfl) (by kernel_rfl) (by kernel_rfl) (fun _ _ _ h => h) (Or.inl ⟨by rfl, ?yC_9⟩) hHeld ?rC_9
                    case yC_9 => (intro w hSw; (try dsimp only at hSw); (try simp only [List.getElem_toArray, List.getElem_cons_zero, List.getElem_cons_succ]); go_simp <;> with_reducible rfl)
                    (try simp only [List.getElem_toArray, List.getElem_cons_zero, List.getElem_cons_succ, Act.put, List.setIfInBounds_toArray, List.set_cons_zero, List.set_cons_succ])
                    refine wpAnyH_take (i := 10) (oi := _) (v := ?vC_10) rfl (by kernel_rfl) (by kernel_rfl) (by kernel_rfl) (fun _ _ _ h => h) (Or.inl ⟨by rfl, ?yC_10⟩) hHeld ?rC_10
                    case yC_10 => (intro w hSw; (try dsimp only at hSw); (try simp only [List.getElem_toArray, List.getElem_cons_zero, List.getElem_cons_succ]); go_simp <;> with_reducible rfl)
                    (try simp only [List.getElem_toArray, List.getElem_cons_zero, List.getElem_cons_succ, Act.put, List.setIfInBounds_toArray, List.set_cons_zero, List.set_cons_succ])
                    refine wpAnyH_take (i := 11) (oi := _) (v := ?vC_11) rfl (by kernel_rfl) (by kernel_rfl) (by kernel_rfl) (fun _ _ _ h => h) (Or.inl ⟨by rfl, ?yC_11⟩) hHeld ?rC_11
                    case yC_11 => (intro w hSw; (try dsimp only at hSw); (try simp only [List.getElem_toArray, List.getElem_cons_zero, List.getElem_cons_succ]); go_simp <;> with_reducible rfl)
                    (try simp only [List.getElem_toArray, List.getElem_cons_zero, List.getElem_cons_succ, Act.put, List.setIfInBounds_toArray, List.set_cons_zero, List.set_cons_succ])
                    refine wpAnyH_take (i := 12) (oi := _) (v := ?vC_12) rfl (by kernel_rfl) (by kernel_rfl) (by kernel_rfl) (fun _ _ _ h => h) (Or.inl ⟨by rfl, ?yC_12⟩) hHeld ?rC_12
                    case yC_12 => (intro w hSw; (try dsimp only at hSw); (try simp only [List.getElem_toArray, List.getElem_cons_zero, List.getElem_cons_succ]); go_simp <;> with_reducible rfl)
                    (try simp only [List.getElem_toArray, List.getElem_cons_zero, List.getElem_cons_succ, Act.put, List.setIfInBounds_toArray, List.set_cons_zero, List.set_cons_succ])
                    refine wpAnyH_take (i := 13) (oi := _) (v := ?vC_13) rfl (by kernel_rfl) (by kernel_rfl) (by kernel_rfl) (fun _ _ _ h => h) (Or.inl ⟨by rfl, ?yC_13⟩) hHeld ?rC_13
                    case yC_13 => (intro w hSw; (try dsimp only at hSw); (try simp only [List.getElem_toArray, List.getElem_cons_zero, List.getElem_cons_succ]); go_simp <;> with_reducible rfl)
                    (try simp only [List.getElem_toArray, List.getElem_cons_zero, List.getElem_cons_succ, Act.put, List.setIfInBounds_toArray, List.set_cons_zero, List.set_cons_succ])
                    refine wpAnyH_take (i := 14) (oi := _) (v := ?vC_14) rfl (by kernel_rfl) (by kernel_rfl) (by kernel_rfl) (fun _ _ _ h => h) (Or.inl ⟨by rfl, ?yC_14⟩) hHeld ?rC_14
                    case yC_14 => (intro w hSw; (try dsimp only at hSw); (try simp only [List.getElem_toArray, List.getElem_cons_zero, List.getElem_cons_succ]); go_simp <;> with_reducible rfl)
                    (try simp only [List.getElem_toArray, List.getElem_cons_zero, List.getElem_cons_succ, Act.put, List.setIfInBounds_toArray, List.set_cons_zero, List.set_cons_succ])
                    refine wpAnyH_take (i := 15) (oi := _) (v := ?vC_15) rfl (by kernel_rfl) (by kernel_rfl) (by kernel_rfl) (fun _ _ _ h => h) (Or.inl ⟨by rfl, ?yC_15⟩) hHeld ?rC_15
                    case yC_15 => (intro w hSw; (try dsimp only at hSw); (try simp only [List.getElem_toArray, List.getElem_cons_zero, List.getElem_cons_succ]); go_simp <;> with_reducible rfl)
                    (try simp only [List.getElem_toArray, List.getElem_cons_zero, List.getElem_cons_succ, Act.put, List.setIfInBounds_toArray, List.set_cons_zero, List.set_cons_succ])
                    refine wpAnyH_take (i := 16) (oi := _) (v := ?vC_16) rfl (by kernel_rfl) (by kernel_rfl) (by kernel_rfl) (fun _ _ _ h => h) (Or.inl ⟨by rfl, ?yC_16⟩) hHeld ?rC_16
                    case yC_16 => (intro w hSw; (try dsimp only at hSw); (try simp only [List.getElem_toArray, List.getElem_cons_zero, List.getElem_cons_succ]); go_simp <;> with_reducible rfl)
                    (try simp only [List.getElem_toArray, List.getElem_cons_zero, List.getElem_cons_succ, Act.put, List.setIfInBounds_toArray, List.set_cons_zero, List.set_cons_succ])
                    refine wpAnyH_take (i := 17) (oi := _) (v := ?vC_17) rfl (by kernel_rfl) (by kernel_rfl) (by kernel_rfl) (fun _ _ _ h => h) (Or.inl ⟨by rfl, ?yC_17⟩) hHeld ?rC_17
                    case yC_17 => (intro w hSw; (try dsimp only at hSw); (try simp only [List.getElem_toArray, List.getElem_cons_zero, List.getElem_cons_succ]); go_simp <;> with_reducible rfl)
                    (try simp only [List.getElem_toArray, List.getElem_cons_zero, List.getElem_cons_succ, Act.put, List.setIfInBounds_toArray, List.set_cons_zero, List.set_cons_succ])
                    refine wpAnyH_take (i := 18) (oi := _) (v := ?vC_18) rfl (by kernel_rfl) (by kernel_rfl) (by kernel_rfl) (fun _ _ _ h => h) (Or.inl ⟨by rfl, ?yC_18⟩) hHeld ?rC_18
                    case yC_18 => (intro w hSw; (try dsimp only at hSw); (try simp only [List.getElem_toArray, List.getElem_cons_zero, List.getElem_cons_succ]); go_simp <;> with_reducible rfl)
                    (try simp only [List.getElem_toArray, List.getElem_cons_zero, List.getElem_cons_succ, Act.put, List.setIfInBounds_toArray, List.set_cons_zero, List.set_cons_succ])
                    refine wpAnyH_take (i := 19) (oi := _) (v := ?vC_19) rfl (by kernel_rfl) (by kernel_rfl) (by kernel_rfl) (fun _ _ _ h => h) (Or.inl ⟨by rfl, ?yC_19⟩) hHeld ?rC_19
                    case yC_19 => (intro w hSw; (try dsimp only at hSw); (try simp only [List.getElem_toArray, List.getElem_cons_zero, List.getElem_cons_succ]); go_simp <;> with_reducible rfl)
                    (try simp only [List.getElem_toArray, List.getElem_cons_zero, List.getElem_cons_succ, Act.put, List.setIfInBounds_toArray, List.set_cons_zero, List.set_cons_succ])
                    refine wpAnyH_take (i := 20) (oi := _) (v := ?vC_20) rfl (by kernel_rfl) (by kernel_rfl) (by kernel_rfl) (fun _ _ _ h => h) (Or.inl ⟨by rfl, ?yC_20⟩) hHeld ?rC_20
                    case yC_20 => (intro w hSw; (try dsimp only at hSw); (try simp only [List.getElem_toArray, List.getElem_cons_zero, List.getElem_cons_succ]); go_simp <;> with_reducible rfl)
                    (try simp only [List.getElem_toArray, List.getElem_cons_zero, List.getElem_cons_succ, Act.put, List.setIfInBounds_toArray, List.set_cons_zero, List.set_cons_succ])
                    refine wpAnyH_take (i := 21) (oi := _) (v := ?vC_21) rfl (by kernel_rfl) (by kernel_rfl) (by kernel_rfl) (fun _ _ _ h => h) (Or.inl ⟨by rfl, ?yC_21⟩) hHeld ?rC_21
                    case yC_21 => (intro w hSw; (try dsimp only at hSw); (try simp only [List.getElem_toArray, List.getElem_cons_zero, List.getElem_cons_succ]); go_simp <;> with_reducible rfl)
                    (try simp only [List.getElem_toArray, List.getElem_cons_zero, List.getElem_cons_succ, Act.put, List.setIfInBounds_toArray, List.set_cons_zero, List.set_cons_succ])
                    refine wpAnyH_take (i := 23) (oi := _) (v := ?vC_23) rfl (by kernel_rfl) (by kernel_rfl) (by kernel_rfl) (fun _ _ _ h => h) (Or.inl ⟨by rfl, ?yC_23⟩) hHeld ?rC_23
                    case yC_23 => (intro w hSw; (try dsimp only at hSw); (try simp only [List.getElem_toArray, List.getElem_cons_zero, List.getElem_cons_succ]); go_simp <;> with_reducible rfl)
                    (try simp only [List.getElem_toArray, List.getElem_cons_zero, List.getElem_cons_succ, Act.put, List.setIfInBounds_toArray, List.set_cons_zero, List.set_cons_succ])
                    refine wpAnyH_ready (rs := [22]) (by kernel_rfl) (by simp) ?_
                    refine AllReadyH.cons (o := _) rfl (fun K hK => ?_) AllReadyH.nil
                    (try simp only [List.getElem_toArray, List.getElem_cons_zero, List.getElem_cons_succ])
                    go_simp
                    (go_at_call 31; (with_reducible refine Calls.mono (FN3.out _ C6.out) ?_); rintro e w6 ⟨rfl, hc6⟩; have K6 := Lib.hid (K5.out.thenSame hc6); clear hc6)
                    refine hK.out _ _ ?_ (fun hHeld => ?_)
                    exact VK.out _ K6.out
                    clear hK K
                    (try simp only [List.getElem_toArray, List.getElem_cons_zero, List.getElem_cons_succ, Act.put, List.setIfInBounds_toArray, List.set_cons_zero, List.set_cons_succ])
                    refine wpAnyH_take (i := 24) (oi := _) (v := ?vC_24) rfl (by kernel_rfl) (by kernel_rfl) (by kernel_rfl) (fun _ _ _ h => h) (Or.inl ⟨by rfl, ?yC_24⟩) hHeld ?rC_24
                    case yC_24 => (intro w hSw; (try dsimp only at hSw); (try simp only [List.getElem_toArray, List.getElem_cons_zero, List.getElem_cons_succ]); go_simp <;> with_reducible rfl)
                    (try simp only [List.getElem_toArray, List.getElem_cons_zero, List.getElem_cons_succ, Act.put, List.setIfInBounds_toArray, List.set_cons_zero, List.set_cons_succ])
                    refine wpAnyH_take (i := 25) (oi := _) (v := ?vC_25) rfl (by kernel_rfl) (by kernel_rfl) (by kernel_rfl) (fun _ _ _ h => h) (Or.inl ⟨by rfl, ?yC_25⟩) hHeld ?rC_25
                    case yC_25 => (intro w hSw; (try dsimp only at hSw); (try simp only [List.getElem_toArray, List.getElem_cons_zero, List.getElem_cons_succ]); go_simp <;> with_reducible rfl)
                    (try simp only [List.getElem_toArray, List.getElem_cons_zero, List.getElem_cons_succ, Act.put, List.setIfInBounds_toArray, List.set_cons_zero, List.set_cons_succ])
                    refine wpAnyH_done (by kernel_rfl) ?_ _
                    refine NoPanic.normal ?_
                    go_wp2_with fail
                    exact ⟨⟨i + 1, fd, rfl, rfl, by omega, HFE, Lib.hid (D.out.thenSame K6.out)⟩, by simp [intOf]; omega⟩
                  · have HFE := Lib.hid (show true = (List.range (i + 1)).any (callAt x.p m (g : Int)) by rw [HFS.out, ← HFD.out, HCA.out, ho, hk, hv]; simp)
                    obtain ⟨wd, hwd⟩ : ∃ wd, wd = wr.drew := ⟨_, rfl⟩
                    have D0 := Lib.hid (show Chg [] wr wd by rw [hwd]; exact (Chg.refl _ _).drew)
                    have C5 := Lib.hid (C4.out.thenSame D0.out)
                    refine wp_region_noPanic ?_
                    refine wp_region_held_drew (S := (fun w' => w'.cell? ⟨w.heap.size, 0, none⟩ = some (.slice (some ⟨b3, o3, none⟩) x.nodes.length x.nc) ∧ w'.cell? ⟨w.heap.size, 1, none⟩ = some (.slice x.fa x.funcs.length x.fc) ∧ w'.cell? ⟨b3, o3 + i * 5, none⟩ = some (.int .i64 d.kind) ∧ w'.cell? ⟨b3, o3 + i * 5 + 1, none⟩ = some (.string d.text))) (by kernel_rfl) (by rw [← hwd]; exact VK.out _ D0.out) (fun hHeld => ?_)
                    rw [← hwd] at hHeld ⊢
                    clear hwd
                    refine wpAnyH_take (i := 0) (oi := _) (v := ?vE_0) rfl (by kernel_rfl) (by kernel_rfl) (by kernel_rfl) (fun _ _ _ h => h) (Or.inl ⟨by rfl, ?yE_0⟩) hHeld ?rE_0
                    case yE_0 => (intro w hSw; (try dsimp only at hSw); (try simp only [List.getElem_toArray, List.getElem_cons_zero, List.getElem_cons_succ]); go_simp <;> with_reducible rfl)
                    (try simp only [List.getElem_toArray, List.getElem_cons_zero, List.getElem_cons_succ, Act.put, List.setIfInBounds_toArray, List.set_cons_zero, List.set_cons_succ])
                    refine wpAnyH_take (i := 1) (oi := _) (v := ?vE_1) rfl (by kernel_rfl) (by kernel_rfl) (by kernel_rfl) (fun _ _ _ h => h) (Or.inl ⟨by rfl, ?yE_1⟩) hHeld ?rE_1
                    case yE_1 => (intro w hSw; (try dsimp only at hSw); (try simp only [List.getElem_toArray, List.getElem_cons_zero, List.getElem_cons_succ]); go_simp <;> with_reducible rfl)
                    (try simp only [List.getElem_toArray, List.getElem_cons_zero, List.getElem_cons_succ, Act.put, List.setIfInBounds_toArray, List.set_cons_zero, List.set_cons_succ])
                    refine wpAnyH_take (i := 3) (oi := _) (v := ?vE_3) rfl (by kernel_rfl) (by kernel_rfl) (by kernel_rfl) (fun _ _ _ h => h) (Or.inl ⟨by rfl, ?yE_3⟩) hHeld ?rE_3
                    case yE_3 => (intro w hSw; (try dsimp only at hSw); (try simp only [List.getElem_toArray, List.getElem_cons_zero, List.getElem_cons_succ]); go_simp <;> with_reducible rfl)
                    (try simp only [List.getElem_toArray, List.getElem_cons_zero, List.getElem_cons_succ, Act.put, List.setIfInBounds_toArray, List.set_cons_zero, List.set_cons_succ])
                    refine wpAnyH_ready (rs := [2]) (by kernel_rfl) (by simp) ?_
                    refine AllReadyH.cons (o := _) rfl (fun K hK => ?_) AllReadyH.nil
                    (try simp only [List.getElem_toArray, List.getElem_cons_zero, List.getElem_cons_succ])
                    go_simp
                    (go_at_call 40; (with_reducible refine Calls.mono (OW2.out _ C5.out) ?_); rintro e w5 ⟨rfl, hc5⟩; have K5 := Lib.hid (D0.out.thenSame hc5); have C6 := Lib.hid (C5.out.thenSame hc5); clear hc5)
                    refine hK.out _ _ ?_ (fun hHeld => ?_)
                    exact VK.out _ K5.out
                    clear hK K
                    (try simp only [List.getElem_toArray, List.getElem_cons_zero, List.getElem_cons_succ, Act.put, List.setIfInBounds_toArray, List.set_cons_zero, List.set_cons_succ])
                    refine wpAnyH_take (i := 4) (oi := _) (v := ?vE_4) rfl (by kernel_rfl) (by kernel_rfl) (by kernel_rfl) (fun _ _ _ h => h) (Or.inl ⟨by rfl, ?yE_4⟩) hHeld ?rE_4
                    case yE_4 => (intro w hSw; (try dsimp only at hSw); (try simp only [List.getElem_toArray, List.getElem_cons_zero, List.getElem_cons_succ]); go_simp <;> with_reducible rfl)
                    (try simp only [List.getElem_toArray, List.getElem_cons_zero, List.getElem_cons_succ, Act.put, List.setIfInBounds_toArray, List.set_cons_zero, List.set_cons_succ])
                    refine wpAnyH_take (i := 5) (oi := _) (v := ?vE_5) rfl (by kernel_rfl) (by kernel_rfl) (by kernel_rfl) (fun _ _ _ h => h) (Or.inl ⟨by rfl, ?yE_5⟩) hHeld ?rE_5
                    case yE_5 => (intro w hSw; (try dsimp only at hSw); (try simp only [List.getElem_toArray, List.getElem_cons_zero, List.getElem_cons_succ]); go_simp <;> with_reducible rfl)
                    (try simp only [List.getElem_toArray, List.getElem_cons_zero, List.getElem_cons_succ, Act.put, List.setIfInBounds_toArray, List.set_cons_zero, List.set_cons_succ])
                    refine wpAnyH_take (i := 6) (oi := _) (v := ?vE_6) rfl (by kernel_rfl) (by kernel_rfl) (by kernel_rfl) (fun _ _ _ h => h) (Or.inl ⟨by rfl, ?yE_6⟩) hHeld ?rE_6
                    case yE_6 => (intro w hSw; (try dsimp only at hSw); (try simp only [List.getElem_toArray, List.getElem_cons_zero, List.getElem_cons_succ]); go_simp <;> with_reducible rfl)
                    (try simp only [List.getElem_toArray, List.getElem_cons_zero, List.getElem_cons_succ, Act.put, List.setIfInBounds_toArray, List.set_cons_zero, List.set_cons_succ])
                    refine wpAnyH_take (i := 7) (oi := _) (v := ?vE_7) rfl (by kernel_rfl) (by kernel_rfl) (by kernel_rfl) (fun _ _ _ h => h) (Or.inl ⟨by rfl, ?yE_7⟩) hHeld ?rE_7
                    case yE_7 => (intro w hSw; (try dsimp only at hSw); (try simp only [List.getElem_toArray, List.getElem_cons_zero, List.getElem_cons_succ]); go_simp <;> with_reducible rfl)
                    (try simp only [List.getElem_toArray, List.getElem_cons_zero, List.getElem_cons_succ, Act.put, List.setIfInBounds_toArray, List.set_cons_zero, List.set_cons_succ])
                    refine wpAnyH_take (i := 8) (oi := _) (v := ?vE_8) rfl (by kernel_rfl) (by kernel_rfl) (by kernel_rfl) (fun _ _ _ h => h) (Or.inl ⟨by rfl, ?yE_8⟩) hHeld ?rE_8
                    case yE_8 => (intro w hSw; (try dsimp only at hSw); (try simp only [List.getElem_toArray, List.getElem_cons_zero, List.getElem_cons_succ]); go_simp <;> with_reducible rfl)
                    (try simp only [List.getElem_toArray, List.getElem_cons_zero, List.getElem_cons_succ, Act.put, List.setIfInBounds_toArray, List.set_cons_zero, List.set_cons_succ])
                    refine wpAnyH_take (i := 9) (oi := _) (v := ?vE_9) rfl (by kernel_rfl) (by kernel_rfl) (by kernel_rfl) (fun _ _ _ h => h) (Or.inl ⟨by rfl, ?yE_9⟩) hHeld ?rE_9
                    case yE_9 => (intro w hSw; (try dsimp only at hSw); (try simp only [List.getElem_toArray, List.getElem_cons_zero, List.getElem_cons_succ]); go_simp <;> with_reducible rfl)
                    (try simp only [List.getElem_toArray, List.getElem_cons_zero, List.getElem_cons_succ, Act.put, List.setIfInBounds_toArray, List.set_cons_zero, List.set_cons_succ])
                    refine wpAnyH_take (i := 10) (oi := _) (v := ?vE_10) rfl (by kernel_rfl) (by kernel_rfl) (by kernel_rfl) (fun _ _ _ h => h) (Or.inl ⟨by rfl, ?yE_10⟩) hHeld ?rE_10
                    case yE_10 => (intro w hSw; (try dsimp only at hSw); (try simp only [List.getElem_toArray, List.getElem_cons_zero, List.getElem_cons_succ]); go_simp <;> with_reducible rfl)
                    (try simp only [List.getElem_toArray, List.getElem_cons_zero, List.getElem_cons_succ, Act.put, List.setIfInBounds_toArray, List.set_cons_zero, List.set_cons_succ])
                    refine wpAnyH_take (i := 11) (oi := _) (v := ?vE_11) rfl (by kernel_rfl) (by kernel_rfl) (by kernel_rfl) (fun _ _ _ h => h) (Or.inl ⟨by rfl, ?yE_11⟩) hHeld ?rE_11
                    case yE_11 => (intro w hSw; (try dsimp only at hSw); (try simp only [List.getElem_toArray, List.getElem_cons_zero, List.getElem_cons_succ]); go_simp <;> with_reducible rfl)
                    (try simp only [List.getElem_toArray, List.getElem_cons_zero, List.getElem_cons_succ, Act.put, List.setIfInBounds_toArray, List.set_cons_zero, List.set_cons_succ])
                    refine wpAnyH_take (i := 12) (oi := _) (v := ?vE_12) rfl (by kernel_rfl) (by kernel_rfl) (by kernel_rfl) (fun _ _ _ h => h) (Or.inl ⟨by rfl, ?yE_12⟩) hHeld ?rE_12
                    case yE_12 => (intro w hSw; (try dsimp only at hSw); (try simp only [List.getElem_toArray, List.getElem_cons_zero, List.getElem_cons_succ]); go_simp <;> with_reducible rfl)
                    (try simp only [List.getElem_toArray, List.getElem_cons_zero, List.getElem_cons_succ, Act.put, List.setIfInBounds_toArray, List.set_cons_zero, List.set_cons_succ])
                    refine wpAnyH_take (i := 13) (oi := _) (v := ?vE_13) rfl (by kernel_rfl) (by kernel_rfl) (by kernel_rfl) (fun _ _ _ h => h) (Or.inl ⟨by rfl, ?yE_13⟩) hHeld ?rE_13
                    case yE_13 => (intro w hSw; (try dsimp only at hSw); (try simp only [List.getElem_toArray, List.getElem_cons_zero, List.getElem_cons_succ]); go_simp <;> with_reducible rfl)
                    (try simp only [List.getElem_toArray, List.getElem_cons_zero, List.getElem_cons_succ, Act.put, List.setIfInBounds_toArray, List.set_cons_zero, List.set_cons_succ])
                    refine wpAnyH_take (i := 14) (oi := _) (v := ?vE_14) rfl (by kernel_rfl) (by kernel_rfl) (by kernel_rfl) (fun _ _ _ h => h) (Or.inl ⟨by rfl, ?yE_14⟩) hHeld ?rE_14
                    case yE_14 => (intro w hSw; (try dsimp only at hSw); (try simp only [List.getElem_toArray, List.getElem_cons_zero, List.getElem_cons_succ]); go_simp <;> with_reducible rfl)
                    (try simp only [List.getElem_toArray, List.getElem_cons_zero, List.getElem_cons_succ, Act.put, List.setIfInBounds_toArray, List.set_cons_zero, List.set_cons_succ])
                    refine wpAnyH_take (i := 15) (oi := _) (v := ?vE_15) rfl (by kernel_rfl) (by kernel_rfl) (by kernel_rfl) (fun _ _ _ h => h) (Or.inl ⟨by rfl, ?yE_15⟩) hHeld ?rE_15
                    case yE_15 => (intro w hSw; (try dsimp only at hSw); (try simp only [List.getElem_toArray, List.getElem_cons_zero, List.getElem_cons_succ]); go_simp <;> with_reducible rfl)
                    (try simp only [List.getElem_toArray, List.getElem_cons_zero, List.getElem_cons_succ, Act.put, List.setIfInBounds_toArray, List.set_cons_zero, List.set_cons_succ])
                    refine wpAnyH_take (i := 16) (oi := _) (v := ?vE_16) rfl (by kernel_rfl) (by kernel_rfl) (by kernel_rfl) (fun _ _ _ h => h) (Or.inl ⟨by rfl, ?yE_16⟩) hHeld ?rE_16
                    case yE_16 => (intro w hSw; (try dsimp only at hSw); (try simp only [List.getElem_toArray, List.getElem_cons_zero, List.getElem_cons_succ]); go_simp <;> with_reducible rfl)
                    (try simp only [List.getElem_toArray, List.getElem_cons_zero, List.getElem_cons_succ, Act.put, List.setIfInBounds_toArray, List.set_cons_zero, List.set_cons_succ])
                    refine wpAnyH_take (i := 17) (oi := _) (v := ?vE_17) rfl (by kernel_rfl) (by kernel_rfl) (by kernel_rfl) (fun _ _ _ h => h) (Or.inl ⟨by rfl, ?yE_17⟩) hHeld ?rE_17
                    case yE_17 => (intro w hSw; (try dsimp only at hSw); (try simp only [List.getElem_toArray, List.getElem_cons_zero, List.getElem_cons_succ]); go_simp <;> with_reducible rfl)
                    (try simp only [List.getElem_toArray, List.getElem_cons_zero, List.getElem_cons_succ, Act.put, List.setIfInBounds_toArray, List.set_cons_zero, List.set_cons_succ])
                    refine wpAnyH_take (i := 18) (oi := _) (v := ?vE_18) rfl (by kernel_rfl) (by kernel_rfl) (by kernel_rfl) (fun _ _ _ h => h) (Or.inl ⟨by rfl, ?yE_18⟩) hHeld ?rE_18
                    case yE_18 => (intro w hSw; (try dsimp only at hSw); (try simp only [List.getElem_toArray, List.getElem_cons_zero, List.getElem_cons_succ]); go_simp <;> with_reducible rfl)
                    (try simp only [List.getElem_toArray, List.getElem_cons_zero, List.getElem_cons_succ, Act.put, List.setIfInBounds_toArray, List.set_cons_zero, List.set_cons_succ])
                    refine wpAnyH_take (i := 19) (oi := _) (v := ?vE_19) rfl (by kernel_rfl) (by kernel_rfl) (by kernel_rfl) (fun _ _ _ h => h) (Or.inl ⟨by rfl, ?yE_19⟩) hHeld ?rE_19
                    case yE_19 => (intro w hSw; (try dsimp only at hSw); (try simp only [List.getElem_toArray, List.getElem_cons_zero, List.getElem_cons_succ]); go_simp <;> with_reducible rfl)
                    (try simp only [List.getElem_toArray, List.getElem_cons_zero, List.getElem_cons_succ, Act.put, List.setIfInBounds_toArray, List.set_cons_zero, List.set_cons_succ])
                    refine wpAnyH_take (i := 20) (oi := _) (v := ?vE_20) rfl (by kernel_rfl) (by kernel_rfl) (by kernel_rfl) (fun _ _ _ h => h) (Or.inl ⟨by rfl, ?yE_20⟩) hHeld ?rE_20
                    case yE_20 => (intro w hSw; (try dsimp only at hSw); (try simp only [List.getElem_toArray, List.getElem_cons_zero, List.getElem_cons_succ]); go_simp <;> with_reducible rfl)
                    (try simp only [List.getElem_toArray, List.getElem_cons_zero, List.getElem_cons_succ, Act.put, List.setIfInBounds_toArray, List.set_cons_zero, List.set_cons_succ])
                    refine wpAnyH_take (i := 21) (oi := _) (v := ?vE_21) rfl (by kernel_rfl) (by kernel_rfl) (by kernel_rfl) (fun _ _ _ h => h) (Or.inl ⟨by rfl, ?yE_21⟩) hHeld ?rE_21
                    case yE_21 => (intro w hSw; (try dsimp only at hSw); (try simp only [List.getElem_toArray, List.getElem_cons_zero, List.getElem_cons_succ]); go_simp <;> with_reducible rfl)
                    (try simp only [List.getElem_toArray, List.getElem_cons_zero, List.getElem_cons_succ, Act.put, List.setIfInBounds_toArray, List.set_cons_zero, List.set_cons_succ])
                    refine wpAnyH_take (i := 23) (oi := _) (v := ?vE_23) rfl (by kernel_rfl) (by kernel_rfl) (by kernel_rfl) (fun _ _ _ h => h) (Or.inl ⟨by rfl, ?yE_23⟩) hHeld ?rE_23
                    case yE_23 => (intro w hSw; (try dsimp only at hSw); (try simp only [List.getElem_toArray, List.getElem_cons_zero, List.getElem_cons_succ]); go_simp <;> with_reducible rfl)
                    (try simp only [List.getElem_toArray, List.getElem_cons_zero, List.getElem_cons_succ, Act.put, List.setIfInBounds_toArray, List.set_cons_zero, List.set_cons_succ])
                    refine wpAnyH_ready (rs := [22]) (by kernel_rfl) (by simp) ?_
                    refine AllReadyH.cons (o := _) rfl (fun K hK => ?_) AllReadyH.nil
                    (try simp only [List.getElem_toArray, List.getElem_cons_zero, List.getElem_cons_succ])
                    go_simp
                    (go_at_call 31; (with_reducible refine Calls.mono (FN3.out _ C6.out) ?_); rintro e w6 ⟨rfl, hc6⟩; have K6 := Lib.hid (K5.out.thenSame hc6); clear hc6)
                    refine hK.out _ _ ?_ (fun hHeld => ?_)
                    exact VK.out _ K6.out
                    clear hK K
                    (try simp only [List.getElem_toArray, List.getElem_cons_zero, List.getElem_cons_succ, Act.put, List.setIfInBounds_toArray, List.set_cons_zero, List.set_cons_succ])
                    refine wpAnyH_take (i := 24) (oi := _) (v := ?vE_24) rfl (by kernel_rfl) (by kernel_rfl) (by kernel_rfl) (fun _ _ _ h => h) (Or.inl ⟨by rfl, ?yE_24⟩) hHeld ?rE_24
                    case yE_24 => (intro w hSw; (try dsimp only at hSw); (try simp only [List.getElem_toArray, List.getElem_cons_zero, List.getElem_cons_succ]); go_simp <;> with_reducible rfl)
                    (try simp only [List.getElem_toArray, List.getElem_cons_zero, List.getElem_cons_succ, Act.put, List.setIfInBounds_toArray, List.set_cons_zero, List.set_cons_succ])
                    refine wpAnyH_take (i := 25) (oi := _) (v := ?vE_25) rfl (by kernel_rfl) (by kernel_rfl) (by kernel_rfl) (fun _ _ _ h => h) (Or.inl ⟨by rfl, ?yE_25⟩) hHeld ?rE_25
                    case yE_25 => (intro w hSw; (try dsimp only at hSw); (try simp only [List.getElem_toArray, List.getElem_cons_zero, List.getElem_cons_succ]); go_simp <;> with_reducible rfl)
                    (try simp only [List.getElem_toArray, List.getElem_cons_zero, List.getElem_cons_succ, Act.put, List.setIfInBounds_toArray, List.set_cons_zero, List.set_cons_succ])
                    refine wpAnyH_done (by kernel_rfl) ?_ _
                    refine NoPanic.normal ?_
                    go_wp2_with fail
                    exact ⟨⟨i + 1, true, rfl, rfl, by omega, HFE, Lib.hid (D.out.thenSame K6.out)⟩, by simp [intOf]; omega⟩
            · have hie : i = x.nodes.length := by omega
              have hil' : ¬ (i : Int) < (x.nodes.length : Int) := by omega
              have HFF := Lib.hid (show rcallB x.p m (g : Int) = fd by rw [HCB.out, HFD.out, hie])
              have k4 := blk_cell B4.out
              have RO4 := Lib.hid (RO.out.kept D.out (by simp))
              clear hie HFD
              cases fd
              · go_wp2_with fail
                exact ⟨⟨g + 1, a, c, out, rfl, rfl, by omega, by omega, Lib.hid (by rw [HST.out, HFF.out, ← HO.out]; rfl), RO4, C4, B4⟩, by simp [intOf]; omega⟩
              · have X4 := Lib.hid (RO4.out.kept ((Chg.refl [] _).alloc (.cells #[.int .i64 (g : Int)] 3 (0, 0))) (by simp))
                go_wp2_with (at_builtin; refine wpl_appendL rfl _ _ 32 rfl W1.heap.size 3 _ 8 Tryz.underlying32 intInfoS rfl (by decide) icI_len1 icI_one1 (.slice a out.length c) out rfl X4.out wr.heap.size 1 (g : Int) _ _ _ rfl (heap_alloc_new wr _) rfl (by unfold maxLen; omega) (by omega) (by have h1 := lt_of_heap B4.out; have h2 := ZZ1.out; simp; omega) ?_; intro g9 c9 w9 hr9 hg9 ho9 hl9; have R9 := Lib.hid hr9; have H9 := Lib.hid (show ∀ y ∈ (Value.slice a out.length c).ownBlock.toList, w.heap.size < y from fun y hy => by have h1 := (X4.out.block y (by simpa using hy)).1; have h2 := ZZ1.out; omega); have C9 := Lib.hid ((C4.out.alloc (.cells #[.int .i64 (g : Int)] 3 (0, 0))).then (Chg.ofRow (v := .slice a out.length c) hg9) (fun y hy hlt => by have := H9.out y hy; omega)); have B9 := Lib.hid ((Chg.ofRow (v := .slice a out.length c) hg9).at (fun hm => by have := H9.out _ hm; omega) (blk_alloc B4.out)); clear hr9 hg9 ho9 hl9 k4)
                exact ⟨⟨g + 1, some ⟨g9, 0, none⟩, c9, out ++ [(g : Int)], by simp, rfl, by omega, by simp; omega, Lib.hid (by rw [HST.out, HFF.out, ← HO.out]; rfl), Lib.hid (by rw [List.length_append]; exact R9.out), C9, B9⟩, by simp [intOf]; omega⟩
        · have hge : g = x.funcs.length := by omega
          have hgl' : ¬ (g : Int) < (x.funcs.length : Int) := by omega
          have HE := Lib.hid (show R = out by rw [HR.out, HO.out, hge])
          clear hge
          go_wp2_with fail
          go_ret
          exact ⟨a, c, by rw [HE.out]; rfl, by rw [HE.out]; exact RO.out.mono (by have := ZZ1.out; omega), C.out⟩
    · rw [if_neg (fun q => hf q.2)] at hR
      have HE := Lib.hid hR
      rw [he] at CK
      simp only [prC] at CK ⊢
      generalize (studyZ x.p).2.2.1 = ea at *
      clear h hz he hR
      by_cases h0 : f < 0
      · go_enter Tryz.func23, Tryz.ntmps23
        go_upto_region 1 with fail
        rw [← hW1]
        clear hW1
        go_wp2_with (go_at_call 11; (with_reducible refine Calls.mono (CK.out _ C1.out) ?_); rintro e w2 ⟨rfl, hc⟩; have C2 := Lib.hid (C1.out.thenSame hc); have B2 := Lib.hid (hc.at (by simp) B1.out); have k2 := blk_cell B2.out; clear k1 hc)
        go_ret
        rw [HE.out]
        exact ints_nil C2.out
      · have h1 : f ≥ (x.funcs.length : Int) := by omega
        go_enter Tryz.func23, Tryz.ntmps23
        go_upto_region 1 with fail
        rw [← hW1]
        clear hW1
        go_wp2_with (go_at_call 11; (with_reducible refine Calls.mono (CK.out _ C1.out) ?_); rintro e w2 ⟨rfl, hc⟩; have C2 := Lib.hid (C1.out.thenSame hc); have B2 := Lib.hid (hc.at (by simp) B1.out); have k2 := blk_cell B2.out; clear k1 hc)
        go_ret
        rw [HE.out]
        exact ints_nil C2.out
  · rw [if_neg (fun q => he q.1)] at hR
    have HE := Lib.hid hR
    have heb : ((studyZ x.p).2.2.2 != 0) = true := bne_iff_ne.2 he
    simp only [prC] at CK ⊢
    generalize (studyZ x.p).2.2.1 = ea at *
    generalize (studyZ x.p).2.2.2 = er at *
    clear h hz he hR
    go_enter Tryz.func23, Tryz.ntmps23
    go_upto_region 1 with fail
    rw [← hW1]
    clear hW1
    go_wp2_with (go_at_call 11; (with_reducible refine Calls.mono (CK.out _ C1.out) ?_); rintro e w2 ⟨rfl, hc⟩; have C2 := Lib.hid (C1.out.thenSame hc); have B2 := Lib.hid (hc.at (by simp) B1.out); have k2 := blk_cell B2.out; clear k1 hc)
    go_ret
    rw [HE.out]
    exact ints_nil C2.out
end Go.Proofs.YtolidiafomceiaaGreatDoor
namespace Go.Proofs.YtolidiafomceiaaGreatDoor
set_option linter.unusedVariables false
set_option linter.unusedSimpArgs false
open Go.RowKit Go.Sort
def sAt (s : List Bool) (g : Nat) : Bool := (s[g]?).getD false
def setAll (s : List Bool) (l : List Int) : List Bool := l.foldl (fun s g => s.set g.toNat true) s
def passF (p : PPr) (s : List Bool) (f : Nat) : List Bool := if sAt s f = true then setAll s (callsZ p f) else s
def passZ (p : PPr) (s : List Bool) : List Bool := (List.range p.funcs.length).foldl (passF p) s
def roundsZ (p : PPr) : Nat → List Bool → List Bool
  | 0, s => s
  | n + 1, s => roundsZ p n (passZ p s)
/-- More is seen. -/
def sLe (s t : List Bool) : Prop := s.length = t.length ∧ ∀ g, sAt s g = true → sAt t g = true
theorem sLe.refl (s : List Bool) : sLe s s := ⟨rfl, fun _ h => h⟩
theorem sLe.trans {s t u : List Bool} (h1 : sLe s t) (h2 : sLe t u) : sLe s u := ⟨h1.1.trans h2.1, fun g h => h2.2 g (h1.2 g h)⟩
theorem sAt_set {s : List Bool} {m g : Nat} : sAt (s.set m true) g = true ↔ sAt s g = true ∨ (g = m ∧ m < s.length) := by
  unfold sAt
  by_cases h : g = m
  · subst h
    by_cases hl : g < s.length
    · rw [List.getElem?_set_self hl]
      simp [hl]
    · rw [List.getElem?_eq_none (by simp; omega), List.getElem?_eq_none (by omega)]
      simp [hl]
  · rw [List.getElem?_set_ne (fun e => h e.symm)]
    simp [h]
theorem setAll_facts : ∀ {l : List Int} {s : List Bool}, (setAll s l).length = s.length ∧ ∀ g, sAt (setAll s l) g = true ↔ sAt s g = true ∨ ∃ c ∈ l, g = c.toNat ∧ g < s.length := by
  intro l
  induction l with
  | nil => intro s; exact ⟨rfl, fun g => by simp [setAll]⟩
  | cons c l ih =>
    intro s
    obtain ⟨h1, h2⟩ := ih (s := s.set c.toNat true)
    refine ⟨by show (setAll (s.set c.toNat true) l).length = _; rw [h1, List.length_set], fun g => ?_⟩
    show sAt (setAll (s.set c.toNat true) l) g = true ↔ _
    rw [h2, sAt_set, List.length_set]
    constructor
    · rintro ((h | ⟨rfl, h⟩) | ⟨d, hd, h⟩)
      · exact .inl h
      · exact .inr ⟨c, by simp, rfl, h⟩
      · exact .inr ⟨d, by simp [hd], h⟩
    · rintro (h | ⟨d, hd, h, hl⟩)
      · exact .inl (.inl h)
      · rcases List.mem_cons.1 hd with rfl | hd
        · exact .inl (.inr ⟨h, by rw [← h]; exact hl⟩)
        · exact .inr ⟨d, hd, h, hl⟩
theorem passF_le {p : PPr} {s : List Bool} {f : Nat} : sLe s (passF p s f) := by
  unfold passF
  split
  · exact ⟨setAll_facts.1.symm, fun g h => (setAll_facts.2 g).2 (.inl h)⟩
  · exact sLe.refl s
theorem fold_le {p : PPr} : ∀ {fs : List Nat} {s : List Bool}, sLe s (fs.foldl (passF p) s) := by
  intro fs
  induction fs with
  | nil => intro s; exact sLe.refl s
  | cons f fs ih => intro s; rw [List.foldl_cons]; exact passF_le.trans ih
/-- A pass adds what the seen ones call. -/
theorem fold_adds {p : PPr} {f : Nat} {g : Nat} : ∀ {fs : List Nat} {s : List Bool}, f ∈ fs → sAt s f = true → (g : Int) ∈ callsZ p f → g < s.length → sAt (fs.foldl (passF p) s) g = true := by
  intro fs
  induction fs with
  | nil => intro s h; cases h
  | cons e fs ih =>
    intro s hf hs hg hl
    rw [List.foldl_cons]
    rcases List.mem_cons.1 hf with rfl | hf
    · refine fold_le.2 g ?_
      unfold passF
      rw [if_pos hs]
      exact (setAll_facts.2 g).2 (.inr ⟨(g : Int), hg, rfl, hl⟩)
    · exact ih hf (passF_le.2 f hs) hg (by rw [← passF_le.1]; exact hl)
def Closed (p : PPr) (s : List Bool) : Prop := ∀ f g : Nat, sAt s f = true → (g : Int) ∈ callsZ p f → sAt s g = true
def Sound (p : PPr) (s : List Bool) : Prop := ∀ g, sAt s g = true → ReachZ p (g : Int)
theorem fold_sound {p : PPr} : ∀ {fs : List Nat} {s : List Bool}, Sound p s → Sound p (fs.foldl (passF p) s) := by
  intro fs
  induction fs with
  | nil => intro s h; exact h
  | cons e fs ih =>
    intro s h
    rw [List.foldl_cons]
    refine ih (fun g hg => ?_)
    unfold passF at hg
    split at hg
    · rename_i he
      rcases (setAll_facts.2 g).1 hg with hg | ⟨c, hc, rfl, -⟩
      · exact h g hg
      · obtain ⟨m, rfl, -⟩ := callsZ_mem hc
        rw [Int.toNat_natCast]
        exact .call (h e he) hc
    · exact h g hg
theorem passZ_closed {p : PPr} {s : List Bool} (h : Closed p s) : ∀ g, sAt (passZ p s) g = true → sAt s g = true := by
  have : ∀ (fs : List Nat) (t : List Bool), (∀ g, sAt t g = true → sAt s g = true) → ∀ g, sAt (fs.foldl (passF p) t) g = true → sAt s g = true := by
    intro fs
    induction fs with
    | nil => intro t ht g hg; exact ht g hg
    | cons e fs ih =>
      intro t ht g hg
      rw [List.foldl_cons] at hg
      refine ih _ (fun c hc => ?_) g hg
      unfold passF at hc
      split at hc
      · rename_i he
        rcases (setAll_facts.2 c).1 hc with hc | ⟨d, hd, rfl, -⟩
        · exact ht c hc
        · obtain ⟨m, rfl, -⟩ := callsZ_mem hd
          rw [Int.toNat_natCast]
          exact h e m (ht e he) hd
      · exact ht c hc
  exact this _ s (fun _ h => h)
theorem count_le : ∀ {s t : List Bool}, sLe s t → s.count true ≤ t.count true ∧ ((∃ g, sAt t g = true ∧ sAt s g = false) → s.count true < t.count true) := by
  intro s
  induction s with
  | nil =>
    intro t h
    have ht : t = [] := List.length_eq_zero_iff.1 h.1.symm
    subst ht
    exact ⟨Nat.le_refl _, fun ⟨g, h1, _⟩ => by simp [sAt] at h1⟩
  | cons a s ih =>
    intro t h
    cases t with
    | nil => have := h.1; simp at this
    | cons b t =>
      have hl : s.length = t.length := by have := h.1; simpa using this
      have h2 : sLe s t := ⟨hl, fun g hg => by have := h.2 (g + 1); simpa [sAt] using this (by simpa [sAt] using hg)⟩
      obtain ⟨i1, i2⟩ := ih h2
      have h0 : a = true → b = true := fun ha => by have := h.2 0 (by simpa [sAt] using ha); simpa [sAt] using this
      rw [List.count_cons, List.count_cons]
      refine ⟨?_, fun ⟨g, g1, g2⟩ => ?_⟩
      · cases a <;> cases b <;> simp at h0 ⊢ <;> omega
      · cases g with
        | zero =>
          have e1 : b = true := by simpa [sAt] using g1
          have e2 : a = false := by simpa [sAt] using g2
          subst e1
          subst e2
          simp
          omega
        | succ g =>
          have := i2 ⟨g, by simpa [sAt] using g1, by simpa [sAt] using g2⟩
          cases a <;> cases b <;> simp at h0 ⊢ <;> omega
theorem passZ_le {p : PPr} {s : List Bool} : sLe s (passZ p s) := fold_le
theorem rounds_facts {p : PPr} : ∀ {n : Nat} {s : List Bool}, s.length = p.funcs.length → Sound p s → sLe s (roundsZ p n s) ∧ Sound p (roundsZ p n s) ∧ (Closed p (roundsZ p n s) ∨ s.count true + n ≤ (roundsZ p n s).count true) := by
  intro n
  induction n with
  | zero => intro s _ h; exact ⟨sLe.refl s, h, .inr (Nat.le_refl _)⟩
  | succ n ih =>
    intro s hl h
    have hl2 : (passZ p s).length = p.funcs.length := by rw [← passZ_le.1]; exact hl
    obtain ⟨i1, i2, i3⟩ := ih hl2 (fold_sound h)
    refine ⟨passZ_le.trans i1, i2, ?_⟩
    show Closed p (roundsZ p n (passZ p s)) ∨ _
    rcases i3 with i3 | i3
    · exact .inl i3
    · by_cases hc : Closed p s
      · -- a closed one stays
        have hst : ∀ (k : Nat) (t : List Bool), Closed p t → Closed p (roundsZ p k t) := by
          intro k
          induction k with
          | zero => intro t ht; exact ht
          | succ k ihk =>
            intro t ht
            refine ihk (passZ p t) (fun f g hf hg => passZ_le.2 g (ht f g (passZ_closed ht f hf) hg))
        exact .inl (hst (n + 1) s hc)
      · refine .inr ?_
        have hlt : s.count true < (passZ p s).count true := by
          refine (count_le passZ_le).2 ?_
          have : ∃ f g : Nat, sAt s f = true ∧ (g : Int) ∈ callsZ p f ∧ sAt s g = false := by
            refine Classical.byContradiction fun hn => hc (fun f g hf hg => ?_)
            refine Classical.byContradiction fun hb => hn ⟨f, g, hf, hg, by simpa using hb⟩
          obtain ⟨f, g, hf, hg, hs⟩ := this
          have hfl : f < p.funcs.length := by
            rw [← hl]
            unfold sAt at hf
            rcases Nat.lt_or_ge f s.length with h | h
            · exact h
            · rw [List.getElem?_eq_none h] at hf; cases hf
          obtain ⟨m, hm, hml⟩ := callsZ_mem hg
          have hgm : g = m := by omega
          exact ⟨g, fold_adds (List.mem_range.2 hfl) hf hg (by rw [hl]; omega), hs⟩
        show s.count true + (n + 1) ≤ (roundsZ p n (passZ p s)).count true
        omega
/-- The functions that the reference finds. -/
def rreachZ (p : PPr) : List Int := ((List.range p.funcs.length).filter (sAt (roundsZ p p.funcs.length ((List.replicate p.funcs.length false).set (idxFrom (fun g : PFn => g.name == mainS) p.funcs 0).toNat true)))).map (fun g : Nat => (g : Int))
theorem rreach_ok {p : PPr} {m : Nat} (hm : idxFrom (fun g : PFn => g.name == mainS) p.funcs 0 = (m : Int)) (hml : m < p.funcs.length) : ReachL p (rreachZ p) := by
  unfold rreachZ
  rw [hm, Int.toNat_natCast]
  obtain ⟨s, hs⟩ : ∃ s, s = (List.replicate p.funcs.length false).set m true := ⟨_, rfl⟩
  rw [← hs]
  have hl : s.length = p.funcs.length := by rw [hs]; simp
  have hmain : sAt s m = true := by rw [hs]; exact sAt_set.2 (.inr ⟨rfl, by simpa using hml⟩)
  have hsnd : Sound p s := fun g hg => by
    rw [hs] at hg
    rcases sAt_set.1 hg with hg | ⟨rfl, -⟩
    · unfold sAt at hg
      rw [List.getElem?_replicate] at hg
      split at hg <;> cases hg
    · rw [← hm]; exact .main
  obtain ⟨f1, f2, f3⟩ := rounds_facts (n := p.funcs.length) hl hsnd
  have hcl : Closed p (roundsZ p p.funcs.length s) := by
    rcases f3 with f3 | f3
    · exact f3
    · have h1 : 1 ≤ s.count true := by
        rw [List.one_le_count_iff]
        unfold sAt at hmain
        cases hq : s[m]? with
        | none => rw [hq] at hmain; cases hmain
        | some b => rw [hq] at hmain; have : b = true := hmain; subst this; exact List.mem_of_getElem? hq
      have h2 := List.count_le_length (a := true) (l := roundsZ p p.funcs.length s)
      have h3 := f1.1
      omega
  have hall : ∀ q : Int, ReachZ p q → ∃ g : Nat, q = (g : Int) ∧ g < p.funcs.length ∧ sAt (roundsZ p p.funcs.length s) g = true := by
    intro q hq
    induction hq with
    | main => exact ⟨m, hm, hml, f1.2 m hmain⟩
    | call _ hg ih =>
      obtain ⟨f, rfl, -, hfs⟩ := ih
      obtain ⟨g, rfl, hgl⟩ := callsZ_mem hg
      exact ⟨g, rfl, hgl, hcl f g hfs hg⟩
  refine ⟨fun q => ?_, ?_, ?_, fun q hq => ?_⟩
  · constructor
    · intro h
      obtain ⟨g, hg, rfl⟩ := List.mem_map.1 h
      exact f2 g (List.mem_filter.1 hg).2
    · intro h
      obtain ⟨g, rfl, hgl, hgs⟩ := hall q h
      exact List.mem_map.2 ⟨g, List.mem_filter.2 ⟨List.mem_range.2 hgl, hgs⟩, rfl⟩
  · have h2 : ((List.range p.funcs.length).filter (sAt (roundsZ p p.funcs.length s))).Pairwise (· ≠ ·) := List.Pairwise.filter _ List.nodup_range
    unfold List.Nodup
    rw [List.pairwise_map]
    exact h2.imp (fun {a b} h e => h (by omega))
  · have h2 : ((List.range p.funcs.length).filter (sAt (roundsZ p p.funcs.length s))).Pairwise (· < ·) := List.Pairwise.filter _ List.pairwise_lt_range
    rw [List.pairwise_map]
    exact h2.imp (fun {a b} h => by omega)
  · obtain ⟨g, hg, rfl⟩ := List.mem_map.1 hq
    exact ⟨g, rfl, List.mem_range.1 (List.mem_filter.1 hg).1⟩
end Go.Proofs.YtolidiafomceiaaGreatDoor
namespace Go.Proofs.YtolidiafomceiaaGreatDoor
set_option linter.unusedVariables false
set_option linter.unusedSimpArgs false
open Go.RowKit
theorem range_drop {n f : Nat} (h : f < n) : (List.range n).drop f = f :: (List.range n).drop (f + 1) := by
  rw [List.drop_eq_getElem_cons (by simpa using h)]
  simp
set_option maxHeartbeats 16000000 in
set_option maxRecDepth 100000 in
theorem rreach_any (x : Pr) (w : World) (h : PrIn w x) (hz : szPr x) (he : (studyZ x.p).2.2.2 = 0) : Calls Tryz.prog 25 #[.agg (prC x).toArray] w (IntsPost w (rreachZ x.p)) := by
  obtain ⟨W1, hW1⟩ : ∃ W1, W1 = w.alloc (prO x) := ⟨_, rfl⟩
  have C1 := Lib.hid (show Chg [] w W1 by rw [hW1]; exact (Chg.refl _ _).alloc _)
  have B1 := Lib.hid (show W1.heap[w.heap.size]? = some (prO x) by rw [hW1]; exact heap_alloc_new _ _)
  have ZZ1 := Lib.hid (show W1.heap.size = w.heap.size + 1 by rw [hW1]; exact Array.size_push _)
  have CK := Lib.hid (fun w' (hc : Chg [] w w') => rcheck9_any x w' (h.kept hc) hz)
  have RC := Lib.hid (fun w' (hc : Chg [] w w') (f : Nat) => by have := rcalls_any x (f : Int) w' (h.kept hc) hz; rw [rcalls_eq] at this; exact this)
  have FN := Lib.hid (fun w' (hc : Chg [] w w') => rfunction_any x w' (h.kept hc) ⟨#[109, 97, 105, 110]⟩)
  obtain ⟨m, hm', hml⟩ := funcsZ_main (study_zero he).2
  have hm : idxFrom (fun g : PFn => g.name == mainS) x.p.funcs 0 = (m : Int) := by
    rw [show x.p.funcs = x.funcs.map Fn'.p from rfl, idxFrom_map]
    exact hm'
  obtain ⟨hn6, hf16⟩ := study_nodes he
  obtain ⟨R, hR⟩ : ∃ R, R = rreachZ x.p := ⟨_, rfl⟩
  rw [← hR]
  unfold rreachZ at hR
  rw [hm, Int.toNat_natCast, show x.p.funcs.length = x.funcs.length from List.length_map _] at hR
  obtain ⟨N, hN⟩ : ∃ N, N = x.funcs.length := ⟨_, rfl⟩
  have hf16i : (x.funcs.length : Int) ≤ 16 := by omega
  have hml' : (m : Int) < (x.funcs.length : Int) := by omega
  have hm0 : (0 : Int) ≤ (m : Int) := by omega
  have FN2' := FN.out
  have FN2 := Lib.hid (fun w' (hc : Chg [] w w') => show Calls Tryz.prog 31 #[.agg (prC x).toArray, .string ⟨#[109, 97, 105, 110]⟩] w' fun e w2 => e = .returned (.int .i64 (m : Int)) ∧ Chg [] w' w2 from by have := FN2' w' hc; rw [show idxFrom (fun g : PFn => g.name == (⟨#[109, 97, 105, 110]⟩ : ByteArray)) x.p.funcs 0 = (m : Int) from hm] at this; exact this)
  obtain ⟨SS, hSS⟩ : ∃ SS, SS = roundsZ x.p x.funcs.length ((List.replicate x.funcs.length false).set m true) := ⟨_, rfl⟩
  rw [← hSS] at hR
  have HR := Lib.hid hR
  have HSS := Lib.hid hSS
  have HCM := Lib.hid (fun (f : Int) (g : Int) (hg : g ∈ callsZ x.p f) => callsZ_mem hg)
  have HCL := Lib.hid (fun (f : Int) => callsZ_len x hn6 f)
  unfold prO at hW1 B1
  have k1 := blk_cell B1.out
  rw [he] at CK
  simp only [prC] at CK RC FN2 ⊢
  generalize (studyZ x.p).2.2.1 = ea at *
  clear h hz he hR hm' hm hSS FN FN2' hN
  go_enter Tryz.func25, Tryz.ntmps25
  go_upto_region 1 with fail
  rw [← hW1]
  clear hW1
  go_upto_region 6 with (first | (go_at_call 11; (with_reducible refine Calls.mono (CK.out _ C1.out) ?_); rintro e w2 ⟨rfl, hc⟩; have C2 := Lib.hid (C1.out.thenSame hc); have B2 := Lib.hid (hc.at (by simp) B1.out); have k2 := blk_cell B2.out; clear k1 hc) | (at_make; (refine wpl_make (cf := blC) rfl _ _ 46 rfl W1.heap.size 4 _ 1 Tryz.underlying46 boolInfoS false rfl rfl x.funcs.length rfl rfl (by omega) (by unfold maxLen; omega) (by have h1 := lt_of_heap B2.out; have h2 := ZZ1.out; omega) ?_); intro w5 hr5 hc5 hl5; have R5 := Lib.hid hr5; have C5 := Lib.hid (C2.out.thenSame hc5); have B5 := Lib.hid (hc5.at (by simp) B2.out); clear k2 hr5 hc5 hl5))
  generalize w2.heap.size = sb at *
  have HSB := Lib.hid (show w.heap.size < sb from by have h1 := (R5.out.block sb rfl).1; have h2 := ZZ1.out; omega)
  have k5 := blk_cell B5.out
  go_upto_region 7 with (go_at_call 31; (with_reducible refine Calls.mono (FN2.out _ C5.out) ?_); rintro e w6 ⟨rfl, hc⟩; have C6 := Lib.hid (C5.out.thenSame hc); have B6 := Lib.hid (hc.at (by simp) B5.out); have R6 := Lib.hid (RowOf.kept R5.out hc (by simp)); have e6 := (RowOf.atS R6.out blC_len).2.2.2.1 m (by simp; omega) 0 (by omega); simp only [blC, List.getElem_replicate, List.getElem?_cons_zero, Nat.add_zero, Nat.mul_one] at e6; have g6 := (RowOf.atS R6.out blC_len).2.2.2.2.1; clear k5 hc)
  obtain ⟨W7, hW7⟩ : ∃ W7, W7 = w6.setCell ⟨sb, m, none⟩ (.bool true) := ⟨_, rfl⟩
  have R7 := Lib.hid (show RowOf blC 1 W7 W1.heap.size 4 (.slice (some ⟨sb, 0, none⟩) x.funcs.length x.funcs.length) ((List.replicate x.funcs.length false).set m true) from by
    rw [hW7]
    have := RowOf.stored R6.out (by simp) blC_len m (by simp; omega) 0 (by omega) (.bool true) true rfl
    simpa using this)
  have C7 := Lib.hid (show Chg [] w W7 from by rw [hW7]; exact C6.out.then ((Chg.refl [sb] w6).setCell ⟨sb, m, none⟩ (.bool true) (by simp)) (fun y hy hlt => by simp at hy; have := HSB.out; omega))
  have B7 := Lib.hid (show W7.heap[w.heap.size]? = some (.cells #[.slice x.na x.nodes.length x.nc, .slice x.fa x.funcs.length x.fc] 25 (0, 0)) from by rw [hW7]; exact (blk_set_ne m (.bool true) (by have := HSB.out; omega : w.heap.size ≠ sb)).trans B6.out)
  have LN7 := Lib.hid (show ((List.replicate x.funcs.length false).set m true).length = x.funcs.length by simp)
  rw [← hW7]
  clear hW7 e6 g6 R6 R5
  generalize (List.replicate x.funcs.length false).set m true = s0 at *
  go_wp2_with fail
  go_loopw [7] (fun u wi => ∃ (k : Nat) (s : List Bool), u = .int .i64 k ∧ k ≤ x.funcs.length ∧ Hid (s.length = x.funcs.length) ∧ Hid (SS = roundsZ x.p (x.funcs.length - k) s) ∧ Hid (RowOf blC 1 wi W1.heap.size 4 (.slice (some ⟨sb, 0, none⟩) x.funcs.length x.funcs.length) s) ∧ Hid (Chg [] w wi) ∧ Hid (wi.heap[w.heap.size]? = some (.cells #[.slice x.na x.nodes.length x.nc, .slice x.fa x.funcs.length x.fc] 25 (0, 0)))) (fun v _ => x.funcs.length - (intOf v).toNat)
  case atStart => exact ⟨0, s0, rfl, Nat.zero_le _, LN7, HSS, R7, C7, B7⟩
  case round =>
    obtain ⟨k, s, rfl, hk, HL, HQ, RR, C, B⟩ := hrel
    have hk0 : (0 : Int) ≤ (k : Int) := by omega
    have k8 := blk_cell B.out
    by_cases hkl : k < x.funcs.length
    · have hkl' : (k : Int) < (x.funcs.length : Int) := by omega
      have HQ2 := Lib.hid (show SS = roundsZ x.p (x.funcs.length - (k + 1)) (((List.range x.funcs.length).drop 0).foldl (passF x.p) s) from by
        rw [HQ.out, show x.funcs.length - k = (x.funcs.length - (k + 1)) + 1 by omega, roundsZ]
        unfold passZ
        rw [show x.p.funcs.length = x.funcs.length from List.length_map _, List.drop_zero])
      have qk : IntKind.i64.wrap ((k : Int) + 1) = (k : Int) + 1 := IntWalk.i64_in _ (by omega)
      go_wp2_with fail
      clear k8
      go_loopw [8] (fun u wi => ∃ (f : Nat) (s : List Bool), u = .int .i64 f ∧ f ≤ x.funcs.length ∧ Hid (s.length = x.funcs.length) ∧ Hid (SS = roundsZ x.p (x.funcs.length - (k + 1)) (((List.range x.funcs.length).drop f).foldl (passF x.p) s)) ∧ Hid (RowOf blC 1 wi W1.heap.size 4 (.slice (some ⟨sb, 0, none⟩) x.funcs.length x.funcs.length) s) ∧ Hid (Chg [] w wi) ∧ Hid (wi.heap[w.heap.size]? = some (.cells #[.slice x.na x.nodes.length x.nc, .slice x.fa x.funcs.length x.fc] 25 (0, 0)))) (fun v _ => x.funcs.length - (intOf v).toNat)
      case atStart => exact ⟨0, s, rfl, Nat.zero_le _, HL, HQ2, RR, C, B⟩
      case round =>
        clear HQ HQ2 RR C B HL
        obtain ⟨f, s, rfl, hf, HL, HQ, RR, C, B⟩ := hrel
        have hf0 : (0 : Int) ≤ (f : Int) := by omega
        have k9 := blk_cell B.out
        by_cases hfl : f < x.funcs.length
        · have hfl' : (f : Int) < (x.funcs.length : Int) := by omega
          have qf : IntKind.i64.wrap ((f : Int) + 1) = (f : Int) + 1 := IntWalk.i64_in _ (by omega)
          have HQ2' := HQ.out
          rw [range_drop hfl, List.foldl_cons] at HQ2'
          unfold passF at HQ2'
          have RCF := Lib.hid (RC.out _ C.out f)
          have HLC := Lib.hid (HCL.out (f : Int))
          have HMC := Lib.hid (HCM.out (f : Int))
          generalize callsZ x.p (f : Int) = l at *
          have HQ2 := Lib.hid HQ2'
          clear HQ2' HQ
          go_wp2_with (go_at_call 23; (with_reducible refine Calls.mono RCF.out ?_); rintro e w9 ⟨la, lc, rfl, hr, hc⟩; have C9 := Lib.hid (C.out.thenSame hc); have B9 := Lib.hid (hc.at (by simp) B.out); have R9 := Lib.hid (RowOf.kept RR.out hc (by simp)); have L9 := Lib.hid hr; have G9 := Lib.hid (RR.out.block sb rfl).2; clear k9 hr hc)
          go_loopw [10] (fun u wi => ∃ (q : Nat) (t : List Bool), u = .int .i64 q ∧ q ≤ l.length ∧ Hid (t.length = x.funcs.length) ∧ Hid (SS = roundsZ x.p (x.funcs.length - (k + 1)) (((List.range x.funcs.length).drop (f + 1)).foldl (passF x.p) (if sAt t f = true then setAll t (l.drop q) else t))) ∧ Hid (RowOf blC 1 wi W1.heap.size 4 (.slice (some ⟨sb, 0, none⟩) x.funcs.length x.funcs.length) t) ∧ Hid (RowOf icI 1 wi wr.heap.size 3 (.slice la l.length lc) l) ∧ Hid (Chg [] w wi) ∧ Hid (wi.heap[w.heap.size]? = some (.cells #[.slice x.na x.nodes.length x.nc, .slice x.fa x.funcs.length x.fc] 25 (0, 0)))) (fun v _ => l.length - (intOf v).toNat)
          case atStart => exact ⟨0, s, rfl, Nat.zero_le _, HL, Lib.hid HQ2.out, R9, L9, C9, B9⟩
          case round =>
            obtain ⟨q, t, rfl, hq, HLt, HQt, Rt, Lt, Ct, Bt⟩ := hrel
            have hq0 : (0 : Int) ≤ (q : Int) := by omega
            have hft : f < t.length := by rw [HLt.out]; exact hfl
            have ef := (RowOf.atS Rt.out blC_len).2.2.2.1 f hft 0 (by omega)
            simp only [blC, List.getElem?_cons_zero, Nat.add_zero, Nat.mul_one] at ef
            have hsa : sAt t f = t[f] := by unfold sAt; rw [List.getElem?_eq_getElem hft]; rfl
            have HQt' := HQt.out
            rw [hsa] at HQt'
            have HSA := Lib.hid hsa
            clear hsa
            cases hv : t[f] with
            | false =>
              rw [hv] at ef HQt'
              rw [if_neg (by simp)] at HQt'
              have HQ4 := Lib.hid HQt'
              clear HQt' hv
              go_wp2_with fail
              exact ⟨⟨f + 1, t, rfl, by omega, HLt, HQ4, Rt, Ct, Bt⟩, by simp [intOf]; omega⟩
            | true =>
              have HSV := Lib.hid (show sAt t f = true by rw [HSA.out, hv])
              rw [hv] at ef HQt'
              rw [if_pos rfl] at HQt'
              clear hv
              by_cases hql : q < l.length
              · have hql' : (q : Int) < (l.length : Int) := by omega
                have qq : IntKind.i64.wrap ((q : Int) + 1) = (q : Int) + 1 := IntWalk.i64_in _ (by have := HLC.out; omega)
                obtain ⟨g, hg, hgl0⟩ := HMC.out _ (List.getElem_mem hql)
                have hgl : g < x.funcs.length := by rw [show x.p.funcs.length = x.funcs.length from List.length_map _] at hgl0; exact hgl0
                have hgl' : (g : Int) < (x.funcs.length : Int) := by omega
                have hg0 : (0 : Int) ≤ (g : Int) := by omega
                have hgt : g < t.length := by rw [HLt.out]; exact hgl
                obtain ⟨b4, o4, e4, -, -, hc4⟩ := (RowOf.sl Lt.out icI_len1).1.elem (Chg.refl [] _) q hql
                have u4 := hc4 0 (by omega)
                simp only [icI, List.getElem?_cons_zero, Nat.add_zero, Nat.mul_one] at u4
                rw [List.drop_eq_getElem_cons hql] at HQt'
                have HQ5 := Lib.hid (show SS = roundsZ x.p (x.funcs.length - (k + 1)) (((List.range x.funcs.length).drop (f + 1)).foldl (passF x.p) (if sAt (t.set g true) f = true then setAll (t.set g true) (l.drop (q + 1)) else t.set g true)) from by
                  rw [if_pos (sAt_set.2 (.inl HSV.out)), HQt', hg]
                  rfl)
                rw [hg] at u4
                have eg := (RowOf.atS Rt.out blC_len).2.2.2.1 g hgt 0 (by omega)
                simp only [blC, List.getElem?_cons_zero, Nat.add_zero, Nat.mul_one] at eg
                have gg := (RowOf.atS Rt.out blC_len).2.2.2.2.1
                have Rn := Lib.hid (by
                  have := RowOf.stored Rt.out HLt.out.symm blC_len g hgt 0 (by omega) (.bool true) true rfl
                  simpa using this : RowOf blC 1 (wr.setCell ⟨sb, g, none⟩ (.bool true)) W1.heap.size 4 (.slice (some ⟨sb, 0, none⟩) x.funcs.length x.funcs.length) (t.set g true))
                have Cn := Lib.hid (Ct.out.then ((Chg.refl [sb] wr).setCell ⟨sb, g, none⟩ (.bool true) (by simp)) (fun y hy hlt => by simp at hy; have := HSB.out; omega))
                have Bn := Lib.hid ((blk_set_ne g (.bool true) (by have := HSB.out; omega : w.heap.size ≠ sb)).trans Bt.out)
                have Ln := Lib.hid (RowOf.kept (S := [sb]) Lt.out ((Chg.refl _ _).setCell ⟨sb, g, none⟩ (.bool true) (by simp)) (fun y hy e => by have h1 := (Lt.out.block y hy).1; have h2 := G9.out; simp at e; omega))
                have HLn := Lib.hid (show (t.set g true).length = x.funcs.length by rw [List.length_set]; exact HLt.out)
                clear HQt' hc4 hg
                subst e4
                generalize t[g] = tg at *
                go_wp2_with fail
                exact ⟨⟨q + 1, t.set g true, rfl, by omega, HLn, HQ5, Rn, Ln, Cn, Bn⟩, by simp [intOf]; omega⟩
              · have hqe : q = l.length := by omega
                have hql' : ¬ (q : Int) < (l.length : Int) := by omega
                rw [hqe, List.drop_length] at HQt'
                have HQ4 := Lib.hid (show SS = roundsZ x.p (x.funcs.length - (k + 1)) (((List.range x.funcs.length).drop (f + 1)).foldl (passF x.p) t) from HQt')
                clear HQt' hqe
                go_wp2_with fail
                exact ⟨⟨f + 1, t, rfl, by omega, HLt, HQ4, Rt, Ct, Bt⟩, by simp [intOf]; omega⟩
        · have hfe : f = x.funcs.length := by omega
          have hfl' : ¬ (f : Int) < (x.funcs.length : Int) := by omega
          have HQ3 := Lib.hid (by have := HQ.out; rw [hfe, List.drop_of_length_le (by simp), List.foldl_nil] at this; exact this : SS = roundsZ x.p (x.funcs.length - (k + 1)) s)
          clear hfe
          go_wp2_with fail
          exact ⟨⟨k + 1, s, rfl, by omega, HL, HQ3, RR, C, B⟩, by simp [intOf]; omega⟩
    · have hke : k = x.funcs.length := by omega
      have hkl' : ¬ (k : Int) < (x.funcs.length : Int) := by omega
      have HE := Lib.hid (by have := HQ.out; rw [hke, Nat.sub_self, roundsZ] at this; exact this : SS = s)
      clear hke
      go_wp2_with fail
      clear k8
      go_loopw [3, 11] (fun u3 u11 wi => ∃ (g : Nat) (a : Option Addr) (c : Nat) (out : List Int), u3 = .slice a out.length c ∧ u11 = .int .i64 g ∧ g ≤ x.funcs.length ∧ out.length ≤ g ∧ Hid (out = ((List.range g).filter (sAt s)).map (fun q : Nat => (q : Int))) ∧ Hid (RowOf icI 1 wi wr.heap.size 3 (.slice a out.length c) out) ∧ Hid (RowOf blC 1 wi W1.heap.size 4 (.slice (some ⟨sb, 0, none⟩) x.funcs.length x.funcs.length) s) ∧ Hid (Chg [] w wi) ∧ Hid (wr.heap.size ≤ wi.heap.size)) (fun _ v _ => x.funcs.length - (intOf v).toNat)
      case atStart => exact ⟨0, none, 0, [], rfl, rfl, Nat.zero_le _, Nat.le_refl _, Lib.hid rfl, Lib.hid ⟨rfl, .inl ⟨rfl, rfl⟩⟩, RR, C, Lib.hid (Nat.le_refl _)⟩
      case round =>
        obtain ⟨g, a, c, out, rfl, rfl, hg, hol, HO, RO, Rs, Cs, Zs⟩ := hrel
        have hg0 : (0 : Int) ≤ (g : Int) := by omega
        have GSB := Lib.hid (RR.out.block sb rfl).2
        by_cases hgl : g < x.funcs.length
        · have hgl' : (g : Int) < (x.funcs.length : Int) := by omega
          have hgs : g < s.length := by rw [HL.out]; exact hgl
          have qg : IntKind.i64.wrap ((g : Int) + 1) = (g : Int) + 1 := IntWalk.i64_in _ (by omega)
          have eg := (RowOf.atS Rs.out blC_len).2.2.2.1 g hgs 0 (by omega)
          simp only [blC, List.getElem?_cons_zero, Nat.add_zero, Nat.mul_one] at eg
          have hsa : sAt s g = s[g] := by unfold sAt; rw [List.getElem?_eq_getElem hgs]; rfl
          have HST := Lib.hid (show ((List.range (g + 1)).filter (sAt s)).map (fun q : Nat => (q : Int)) = if sAt s g = true then out ++ [(g : Int)] else out from by
            rw [HO.out, List.range_succ, List.filter_append, List.map_append]
            cases h : sAt s g <;> simp [h])
          have HSA := Lib.hid hsa
          clear hsa
          cases hv : s[g] with
          | false =>
            rw [hv] at eg
            have HO2 := Lib.hid (show out = ((List.range (g + 1)).filter (sAt s)).map (fun q : Nat => (q : Int)) by rw [HST.out, HSA.out, hv]; rfl)
            clear hv
            go_wp2_with fail
            exact ⟨⟨g + 1, a, c, out, rfl, rfl, by omega, by omega, HO2, RO, Rs, Cs, Zs⟩, by simp [intOf]; omega⟩
          | true =>
            rw [hv] at eg
            have HO2 := Lib.hid (show out ++ [(g : Int)] = ((List.range (g + 1)).filter (sAt s)).map (fun q : Nat => (q : Int)) by rw [HST.out, HSA.out, hv]; rfl)
            clear hv
            have X4 := Lib.hid (RO.out.kept ((Chg.refl [] _).alloc (.cells #[.int .i64 (g : Int)] 3 (0, 0))) (by simp))
            have WB : ∃ ww, ww = wr := ⟨_, rfl⟩
            go_wp2_with (at_builtin; refine wpl_appendL rfl _ _ 32 rfl _ 3 _ 8 Tryz.underlying32 intInfoS rfl (by decide) icI_len1 icI_one1 (.slice a out.length c) out rfl X4.out _ 1 (g : Int) _ _ _ rfl (heap_alloc_new _ _) rfl (by unfold maxLen; omega) (by omega) (by have h1 := Zs.out; simp; omega) ?_; intro g9 c9 w9 hr9 hg9 ho9 hl9; have R9 := Lib.hid hr9; have H9 := Lib.hid (show ∀ y ∈ (Value.slice a out.length c).ownBlock.toList, sb < y ∧ w.heap.size < y from fun y hy => by have h1 := (X4.out.block y (by simpa using hy)).1; have h2 := GSB.out; have h3 := HSB.out; omega); have C9 := Lib.hid ((Cs.out.alloc (.cells #[.int .i64 (g : Int)] 3 (0, 0))).then (Chg.ofRow (v := .slice a out.length c) hg9) (fun y hy hlt => by have := (H9.out y hy).2; omega)); have S9 := Lib.hid ((Rs.out.kept ((Chg.refl [] _).alloc (.cells #[.int .i64 (g : Int)] 3 (0, 0))) (by simp)).kept (Chg.ofRow (v := .slice a out.length c) hg9) (fun y hy hm => by have h1 := (H9.out y hm).1; simp [Value.ownBlock] at hy; omega)); have Z9 := Lib.hid (Nat.le_trans Zs.out (Nat.le_trans ((Chg.refl [] _).alloc (.cells #[.int .i64 (g : Int)] 3 (0, 0))).size hg9.size)); clear hr9 hg9 ho9 hl9)
            exact ⟨⟨g + 1, some ⟨g9, 0, none⟩, c9, out ++ [(g : Int)], by simp, rfl, by omega, by simp; omega, HO2, Lib.hid (by rw [List.length_append]; exact R9.out), S9, C9, Z9⟩, by simp [intOf]; omega⟩
        · have hge : g = x.funcs.length := by omega
          have hgl' : ¬ (g : Int) < (x.funcs.length : Int) := by omega
          have HE2 := Lib.hid (show R = out by rw [HR.out, HE.out, HO.out, hge])
          clear hge
          go_wp2_with fail
          go_ret
          exact ⟨a, c, by rw [HE2.out]; rfl, by rw [HE2.out]; exact RO.out.mono C.out.size, Cs.out⟩
end Go.Proofs.YtolidiafomceiaaGreatDoor
namespace Go.Proofs.YtolidiafomceiaaGreatDoor
set_option linter.unusedVariables false
set_option linter.unusedSimpArgs false
open Go.RowKit
set_option maxHeartbeats 16000000 in
set_option maxRecDepth 100000 in
theorem rreach_none (x : Pr) (w : World) (h : PrIn w x) (hz : szPr x) (he : (studyZ x.p).2.2.2 ≠ 0) : Calls Tryz.prog 25 #[.agg (prC x).toArray] w (IntsPost w []) := by
  obtain ⟨W1, hW1⟩ : ∃ W1, W1 = w.alloc (prO x) := ⟨_, rfl⟩
  have C1 := Lib.hid (show Chg [] w W1 by rw [hW1]; exact (Chg.refl _ _).alloc _)
  have B1 := Lib.hid (show W1.heap[w.heap.size]? = some (prO x) by rw [hW1]; exact heap_alloc_new _ _)
  have CK := Lib.hid (fun w' (hc : Chg [] w w') => rcheck9_any x w' (h.kept hc) hz)
  unfold prO at hW1 B1
  have k1 := blk_cell B1.out
  have heb : ((studyZ x.p).2.2.2 != 0) = true := bne_iff_ne.2 he
  simp only [prC] at CK ⊢
  generalize (studyZ x.p).2.2.1 = ea at *
  generalize (studyZ x.p).2.2.2 = er at *
  clear h hz he
  go_enter Tryz.func25, Tryz.ntmps25
  go_upto_region 1 with fail
  rw [← hW1]
  clear hW1
  go_wp2_with (go_at_call 11; (with_reducible refine Calls.mono (CK.out _ C1.out) ?_); rintro e w2 ⟨rfl, hc⟩; have C2 := Lib.hid (C1.out.thenSame hc); clear k1 hc)
  go_ret
  exact ints_nil C2.out
/-- Both find the same functions. -/
theorem rreach_same (x : Pr) (w : World) (h : PrIn w x) (hz : szPr x) (hg : goodPr x) (l : List Int) (hl : if (studyZ x.p).2.2.2 = 0 then ReachL x.p l else l = []) : Calls Tryz.prog 25 #[.agg (prC x).toArray] w (IntsPost w l) := by
  by_cases he : (studyZ x.p).2.2.2 = 0
  · rw [if_pos he] at hl
    obtain ⟨m, hm', hml⟩ := funcsZ_main (study_zero he).2
    have hm : idxFrom (fun g : PFn => g.name == mainS) x.p.funcs 0 = (m : Int) := by
      rw [show x.p.funcs = x.funcs.map Fn'.p from rfl, idxFrom_map]
      exact hm'
    have hr := rreach_ok hm (by rw [show x.p.funcs.length = x.funcs.length from List.length_map _]; exact hml)
    have e : rreachZ x.p = l := le_same hr.up hl.up hr.nd hl.nd (fun t => by rw [hr.mem, hl.mem])
    rw [← e]
    exact rreach_any x w h hz he
  · rw [if_neg he] at hl
    rw [hl]
    exact rreach_none x w h hz he
set_option maxHeartbeats 16000000 in
set_option maxRecDepth 100000 in
theorem calls_walk (x : Pr) (f : Int) (w : World) (h : (PrIn w x ∧ goodPr x) ∧ szPr x) (hf : (Lit.int .i64 f).wf = true) (ht : TabW w) : Calls Tryz.prog 6 #[.agg (prC x).toArray, .int .i64 f] w fun e w' => e = .returned (.bool true) ∧ Below w.heap.size w w' := by
  obtain ⟨⟨hp, hg⟩, hz⟩ := h
  obtain ⟨W1, hW1⟩ : ∃ W1, W1 = w.alloc (prO x) := ⟨_, rfl⟩
  have C1 := Lib.hid (show Chg [] w W1 by rw [hW1]; exact (Chg.refl _ _).alloc _)
  have B1 := Lib.hid (show W1.heap[w.heap.size]? = some (prO x) by rw [hW1]; exact heap_alloc_new _ _)
  have SM := Lib.hid (small_any x W1 (hp.kept C1.out))
  have CA := Lib.hid (fun w' (hc : Chg [] w w') => calls_any x f w' (hp.kept hc) hg (ht.kept hc))
  have RCA := Lib.hid (fun w' (hc : Chg [] w w') => show Calls Tryz.prog 23 #[.agg (prC x).toArray, .int .i64 f] w' (IntsPost w' (callsZ x.p f)) from by rw [← rcalls_eq]; exact rcalls_any x f w' (hp.kept hc) hz)
  have RA := Lib.hid (fun w' (hc : Chg [] w w') => reach_any x w' (hp.kept hc) hg (ht.kept hc))
  have RR := Lib.hid (fun w' (hc : Chg [] w w') (l : List Int) (hl : if (studyZ x.p).2.2.2 = 0 then ReachL x.p l else l = []) => rreach_same x w' (hp.kept hc) hz hg l hl)
  have AW := Lib.hid (fun w' (hc : Chg [] w w') => stawake_any w' (ht.kept hc))
  unfold prO at hW1 B1
  have k1 := blk_cell B1.out
  simp only [prC] at SM CA RCA RA RR ⊢
  generalize callsZ x.p f = cz at *
  generalize smallN x = sm at *
  clear hp hg ht hz hf
  cases sm
  · go_enter Tryz.func6, Tryz.ntmps6
    go_upto_region 1 with fail
    rw [← hW1]
    clear hW1
    go_wp2_with (first | (go_at_call 8; (with_reducible refine Calls.mono SM.out ?_); rintro e w2 ⟨rfl, hc⟩; have C2 := Lib.hid (C1.out.thenSame hc); clear k1 hc) | (go_at_call 9; (with_reducible refine Calls.mono (AW.out _ C2.out) ?_); rintro e w3 ⟨rfl, hc⟩; have C3 := Lib.hid (C2.out.thenSame hc); clear hc))
    go_ret
    exact ⟨rfl, C3.out.toBelow (Nat.le_refl _) (by simp)⟩
  · go_enter Tryz.func6, Tryz.ntmps6
    go_upto_region 1 with fail
    rw [← hW1]
    clear hW1
    go_upto_region 3 with (go_at_call 8; (with_reducible refine Calls.mono SM.out ?_); rintro e w2 ⟨rfl, hc⟩; have C2 := Lib.hid (C1.out.thenSame hc); have B2 := Lib.hid (hc.at (by simp) B1.out); clear k1 hc)
    have VK := Lib.hid (fun (w' : World) (hc : Chg [] w2 w') => show w'.cell? ⟨w.heap.size, 0, none⟩ = some (.slice x.na x.nodes.length x.nc) ∧ w'.cell? ⟨w.heap.size, 1, none⟩ = some (.slice x.fa x.funcs.length x.fc) from by
      have h1 := blk_cell (hc.at (by simp) B2.out)
      exact ⟨h1 0, h1 1⟩)
    have hself : ∀ l : List Int, (l == l) = true := fun l => beq_self_eq_true l
    have EQ := Lib.hid (show ∀ (a1 a2 : Option Addr) (c1 c2 : Nat) (l : List Int) (w' : World), InIs icI 1 w' a1 c1 l → InIs icI 1 w' a2 c2 l → Calls Tryz.prog 18 #[.slice a1 l.length c1, .slice a2 l.length c2] w' (fun e w2 => e = .returned (.bool true) ∧ Chg [] w' w2) from fun a1 a2 c1 c2 l w' h1 h2 => by have := equal_any h1 h2; rw [hself] at this; exact this)
    clear hself
    go_region_held3 (fun w' => w'.cell? ⟨w.heap.size, 0, none⟩ = some (.slice x.na x.nodes.length x.nc) ∧ w'.cell? ⟨w.heap.size, 1, none⟩ = some (.slice x.fa x.funcs.length x.fc))
      (first | exact VK.out _ ((Chg.refl _ _).drew) | exact VK.out _ K9.out | exact VK.out _ K8.out | exact VK.out _ K7.out | exact VK.out _ K6.out | exact VK.out _ K5.out | exact VK.out _ K4.out | exact VK.out _ K3.out)
      (first
        | (go_at_call 22; (with_reducible refine Calls.mono (CA.out _ (C2.out.thenSame ((Chg.refl _ _).drew))) ?_); rintro e w3 ⟨a3, c3, rfl, hr, hc⟩; have K3 := Lib.hid (show Chg [] w2 w3 from ((Chg.refl _ _).drew).thenSame hc); have I3 := Lib.hid (InIs.ofRow hr icI_len1).2; clear hc hr)
        | (go_at_call 23; (with_reducible refine Calls.mono (RCA.out _ (C2.out.thenSame K3.out)) ?_); rintro e w4 ⟨a4, c4, rfl, hr, hc⟩; have K4 := Lib.hid (K3.out.thenSame hc); have I4 := Lib.hid (I3.out.kept hc); have J4 := Lib.hid (InIs.ofRow hr icI_len1).2; clear hc hr)
        | (go_at_call 18; (with_reducible refine Calls.mono (EQ.out _ _ _ _ _ _ I4.out J4.out) ?_); rintro e w5 ⟨rfl, hc⟩; have K5 := Lib.hid (K4.out.thenSame hc); clear hc)
        | (go_at_call 24; (with_reducible refine Calls.mono (RA.out _ (C2.out.thenSame K5.out)) ?_); rintro e w6 ⟨l, ⟨a6, c6, rfl, hr, hc⟩, hl⟩; have K6 := Lib.hid (K5.out.thenSame hc); have I6 := Lib.hid (InIs.ofRow hr icI_len1).2; have RR6 := Lib.hid (RR.out _ (C2.out.thenSame K6.out) l hl); clear hc hr hl)
        | (go_at_call 25; (with_reducible refine Calls.mono RR6.out ?_); rintro e w7 ⟨a7, c7, rfl, hr, hc⟩; have K7 := Lib.hid (K6.out.thenSame hc); have I7 := Lib.hid (I6.out.kept hc); have J7 := Lib.hid (InIs.ofRow hr icI_len1).2; clear hc hr)
        | (go_at_call 18; (with_reducible refine Calls.mono (EQ.out _ _ _ _ _ _ I7.out J7.out) ?_); rintro e w8 ⟨rfl, hc⟩; have K8 := Lib.hid (K7.out.thenSame hc); clear hc)
        | (go_at_call 9; (with_reducible refine Calls.mono (AW.out _ (C2.out.thenSame K8.out)) ?_); rintro e w9 ⟨rfl, hc⟩; have K9 := Lib.hid (K8.out.thenSame hc); clear hc)
        | fail)
    go_wp2_with fail
    go_ret
    exact ⟨rfl, (C2.out.thenSame K9.out).toBelow (Nat.le_refl _) (by simp)⟩
end Go.Proofs.YtolidiafomceiaaGreatDoor
