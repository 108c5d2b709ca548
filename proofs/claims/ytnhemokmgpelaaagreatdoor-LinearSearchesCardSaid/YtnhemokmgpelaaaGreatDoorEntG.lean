/- Chapter 48: contract: Do. Condition: the table of Itoa lies as the program lays it. -/
import Derived.Test.YtnhemokmgpelaaaGreatDoorEntE
import Derived.Test.YtnhemokmgpelaaaGreatDoorEntF
namespace Go.Proofs.YtnhemokmgpelaaaGreatDoor
set_option linter.unusedVariables false
set_option linter.unusedSimpArgs false
open Go.RowKit
theorem lookR_pos : ∀ (l : List Ce) (len i : Nat) (s : Sh) (st : List Opn), (lookR len l i s st).2.2 = true → l ≠ [] := by
  intro l len i s st h e
  subst e
  rw [look_nil] at h
  simp at h
theorem check_zero {l : List Ce} (h : checkZ l = 0) : l ≠ [] ∧ l.length ≤ 200 := by
  unfold checkZ checkQ at h
  split at h
  · simp at h
  · rename_i h1
    refine ⟨lookR_pos l l.length 0 sh0 [] (by unfold lookS at h1; simpa using h1), ?_⟩
    split at h
    · simp at h
    · split at h
      · simp at h
      · split at h
        · simp at h
        · split at h
          · simp at h
          · omega
theorem chk_zero {o : POp} (h : chkZ o = 0) : opN o.op ≠ 0 ∧ o.args.length = ariN (opN o.op) ∧ ∀ v ∈ o.args, checkZ v = 0 := by
  unfold chkZ at h
  split at h
  · simp at h
  · split at h
    · simp at h
    · rename_i h2
      split at h
      · simp at h
      · rename_i h3
        exact ⟨h2, by omega, firstE_zero h⟩
set_option maxRecDepth 100000 in
theorem do_any (sa : Option Addr) (sc : Nat) (st : List Ce) (o : EOp) (w : World) (h : InIs ceC 4 w sa sc st) (hg : goodL st) (ha : ArgsIn w o.aa o.ac o.args) (hog : o.good) (ht : TabW w) :
    Calls Tryz.prog 25 #[.slice sa st.length sc, .agg (eoC o).toArray] w (DoP w (doZ st o.p)) := by
  by_cases h1 : chkZ o.p = 0
  case neg => exact do_err sa sc st o w h hg ha hog ht (.inl h1)
  by_cases h2 : checkZ st = 0
  case neg => exact do_err sa sc st o w h hg ha hog ht (.inr h2)
  have hz : doZ st o.p = (0, doF (opN o.op) st o.p.args) := by unfold doZ; rw [if_neg (by simp [h1]), if_neg (by simp [h2])]; rfl
  rw [hz]
  obtain ⟨hs1, hs2⟩ := check_zero h2
  obtain ⟨k0, k1, k2⟩ := chk_zero h1
  obtain ⟨ent, id, op, aa, ac, args⟩ := o
  simp only [EOp.p, List.length_map] at k0 k1 k2 ⊢
  simp only at ha
  have hv : ∀ d ∈ args, checkZ d.L = 0 := fun d hd => k2 _ (List.mem_map_of_mem hd)
  rcases opN_cases op with ⟨rfl, e⟩ | ⟨rfl, e⟩ | ⟨rfl, e⟩ | ⟨rfl, e⟩ | ⟨_, e⟩
  · rw [e]
    exact do_ok1 sa sc st ⟨ent, id, opRead, aa, ac, args⟩ (st, 0, st) w h hg ha hog ht h1 h2 (by omega) rfl (fun w' hc a c hi => step1_any a c st _ w' hi (by omega))
  · rw [e] at k1 ⊢
    obtain ⟨d, rfl⟩ : ∃ d, args = [d] := List.length_eq_one_iff.1 k1
    have hd := check_zero (hv d (by simp))
    exact do_ok2 sa sc st ⟨ent, id, opWrite, aa, ac, [d]⟩ (d.L, 0, [nullC]) w h hg ha hog ht h1 h2 (by omega) rfl (fun w' hc a c hi => step2_any a _ aa ac d w' (ha.kept hc) (by omega))
  · rw [e] at k1 ⊢
    obtain ⟨d, rfl⟩ : ∃ d, args = [d] := List.length_eq_one_iff.1 k1
    obtain ⟨da, dc, dL⟩ := d
    have hd := check_zero (hv ⟨da, dc, dL⟩ (by simp))
    simp only at hd
    cases dL with
    | nil => exact absurd rfl hd.1
    | cons x rx =>
      cases st with
      | nil => exact absurd rfl hs1
      | cons s r =>
        exact do_ok3 sa sc (s :: r) ⟨ent, id, opAdd, aa, ac, [⟨da, dc, x :: rx⟩]⟩ (addF (s :: r) (x :: rx)) w h hg ha hog ht h1 h2 (by omega) rfl (fun w' hc a c hi => step3_any a c s r aa ac da dc x rx w' hi (ha.kept hc))
  · rw [e] at k1 ⊢
    obtain ⟨d, d2, rfl⟩ : ∃ d d2, args = [d, d2] := by
      match args, k1 with
      | [d, d2], _ => exact ⟨d, d2, rfl⟩
    have hd := check_zero (hv d2 (by simp))
    exact do_ok4 sa sc st ⟨ent, id, opCas, aa, ac, [d, d2]⟩ (if sameB ceE st d.L then (d2.L, 0, [boolC true]) else (st, 0, [boolC false])) w h hg ha hog ht h1 h2 (by omega) rfl (fun w' hc a c hi => step4_any a c st aa ac d d2 w' hi (ha.kept hc) (by omega) (by omega))
  · exact absurd e k0
end Go.Proofs.YtnhemokmgpelaaaGreatDoor
