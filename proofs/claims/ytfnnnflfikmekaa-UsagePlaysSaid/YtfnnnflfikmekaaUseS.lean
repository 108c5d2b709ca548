/- Chapter 52: the statements' own functions: texts, has, record, small. No condition. -/
import Derived.Test.YtfnnnflfikmekaaUseF
import Derived.Test.YtfnnnflfikmekaaRown
import Derived.Test.YtfnnnflfikmekaaRowm
namespace Go.Proofs.Ytfnnnflfikmekaa
set_option linter.unusedVariables false
set_option linter.unusedSimpArgs false
open Go.RowKit

set_option maxHeartbeats 4000000 in
set_option maxRecDepth 100000 in
theorem texts_any (a1 a2 : Option Addr) (c1 c2 : Nat) (l : List (List UInt8)) (w : World) (h1 : SlIs kc 1 w a1 l.length l) (h2 : SlIs kc 1 w a2 l.length l) (hl : l.length ≤ 4096) :
    Calls Try.prog 17 #[.slice a1 l.length c1, .slice a2 l.length c2] w fun e w' => e = .returned (.bool true) ∧ Chg [] w w' := by
  have H1 := Lib.hid h1
  have H2 := Lib.hid h2
  clear h1 h2
  go_enter Try.func17, Try.ntmps17
  go_wp2_with fail
  go_loopw [13] (fun i wr => ∃ k : Nat, i = .int .i64 k ∧ k ≤ l.length ∧ Chg [] w wr) (fun i _ => l.length - (intOf i).toNat)
  case atStart => exact ⟨0, rfl, Nat.zero_le _, Chg.refl _ _⟩
  case round =>
    obtain ⟨k, rfl, hkl, hch⟩ := hrel
    have HC := Lib.hid hch
    clear hch
    by_cases hk : k < l.length
    · obtain ⟨g1, o1, rfl, -, hbr1, hcc1⟩ := H1.out.elem HC.out k hk
      obtain ⟨g2, o2, rfl, -, hbr2, hcc2⟩ := H2.out.elem HC.out k hk
      have d1 := hcc1 0 (by omega)
      have d2 := hcc2 0 (by omega)
      simp only [kc, encStr, List.getElem?_cons_zero, Nat.add_zero, Nat.mul_one] at d1 d2
      have hk0 : (0 : Int) ≤ (k : Int) := by omega
      have hk1 : (k : Int) < (l.length : Int) := by omega
      generalize (⟨l[k].toArray⟩ : ByteArray) = s at *
      clear hcc1 hcc2
      go_wp2_with fail
      go_quiet (fail)
      go_wp2_with fail
      exact ⟨⟨k + 1, by go_num, by omega, HC.out.drewN _⟩, by simp [intOf]; omega⟩
    · have hkl2 : k = l.length := by omega
      subst hkl2
      go_wp2_with fail
      go_ret
      exact ⟨rfl, HC.out⟩
def okU (x : OpU) : Bool := decide (x.r.id.size ≤ 100) && decide (x.r.tn.size ≤ 100) && decide (x.r.fn.size ≤ 100)
def smallU (l : List OpU) : Bool := decide (l.length ≤ 60) && l.all okU
set_option maxHeartbeats 4000000 in
set_option maxRecDepth 100000 in
theorem smallF_any (a : Option Addr) (len cap : Nat) (l : List OpU) (w : World) (h : SlIs opC 11 w a len l) (hg : ∀ x ∈ l, x.good) (hm : len ≤ maxLen) : Calls Try.prog 9 #[.slice a len cap] w fun e w' => e = .returned (.bool (smallU l)) ∧ Chg [] w w' := by
  have hl := h.1
  have H := Lib.hid h
  have Hg := Lib.hid hg
  unfold maxLen at hm
  clear h hg
  obtain ⟨R, hR⟩ : ∃ R, R = smallU l := ⟨_, rfl⟩
  rw [← hR]
  have HR := Lib.hid hR
  clear hR
  subst hl
  by_cases h60 : l.length ≤ 60
  case neg =>
    have E : Hid (R = false) := Lib.hid (by rw [HR.out]; unfold smallU; simp [h60])
    have h60' : (60 : Int) < (l.length : Int) := by omega
    go_enter Try.func9, Try.ntmps9
    go_wp2_with fail
    go_ret
    exact ⟨by rw [E.out]; rfl, Chg.refl _ _⟩
  have h60' : (l.length : Int) ≤ 60 := by omega
  go_enter Try.func9, Try.ntmps9
  go_wp2_with fail
  go_loopw [10] (fun i wr => ∃ k : Nat, i = .int .i64 k ∧ k ≤ l.length ∧ Hid (∀ i (h : i < l.length), i < k → okU l[i] = true) ∧ Hid (Chg [] w wr)) (fun i _ => l.length - (intOf i).toNat)
  case atStart => exact ⟨0, rfl, Nat.zero_le _, Lib.hid (fun i _ h => absurd h (Nat.not_lt_zero i)), Lib.hid (Chg.refl _ _)⟩
  case round =>
    obtain ⟨k, rfl, hkl, Hall, D⟩ := hrel
    by_cases hk : k < l.length
    · obtain ⟨g1, o1, rfl, -, hbr1, hcc⟩ := H.out.elem D.out k hk
      obtain ⟨x, hx⟩ : ∃ x, x = l[k] := ⟨_, rfl⟩
      obtain ⟨_, ⟨g1, g2, g3, _⟩, _⟩ := Hg.out x (hx ▸ List.getElem_mem hk)
      rw [← hx] at hcc
      have d1 := hcc 1 (by omega)
      have d2 := hcc 2 (by omega)
      have d3 := hcc 3 (by omega)
      have d4 := hcc 4 (by omega)
      have d5 := hcc 5 (by omega)
      have d6 := hcc 6 (by omega)
      have d7 := hcc 7 (by omega)
      have d8 := hcc 8 (by omega)
      have d9 := hcc 9 (by omega)
      simp only [opC, List.getElem?_cons_zero, List.getElem?_cons_succ] at d1 d2 d3 d4 d5 d6 d7 d8 d9
      unfold maxLen at g1 g2 g3
      have hcs : ((100 : Int) < (x.r.id.size : Int) ∧ Hid (R = false)) ∨ ((x.r.id.size : Int) ≤ 100 ∧ (100 : Int) < (x.r.tn.size : Int) ∧ Hid (R = false)) ∨ ((x.r.id.size : Int) ≤ 100 ∧ (x.r.tn.size : Int) ≤ 100 ∧ (100 : Int) < (x.r.fn.size : Int) ∧ Hid (R = false)) ∨ ((x.r.id.size : Int) ≤ 100 ∧ (x.r.tn.size : Int) ≤ 100 ∧ (x.r.fn.size : Int) ≤ 100 ∧ Hid (∀ i (h : i < l.length), i < k + 1 → okU l[i] = true)) := by
        have hno : okU x = false → R = false := fun h => HR.out.trans (by
          unfold smallU
          have : l.all okU = false := by
            rw [List.all_eq_false]
            exact ⟨l[k], List.getElem_mem hk, by rw [← hx, h]; decide⟩
          rw [this]; simp)
        by_cases e1 : (x.r.id.size : Int) ≤ 100
        · by_cases e2 : (x.r.tn.size : Int) ≤ 100
          · by_cases e3 : (x.r.fn.size : Int) ≤ 100
            · refine .inr (.inr (.inr ⟨e1, e2, e3, Lib.hid (fun i hi hik => ?_)⟩))
              by_cases e : i = k
              · subst e
                rw [← hx]
                simp [okU]; omega
              · exact Hall.out i hi (by omega)
            · exact .inr (.inr (.inl ⟨e1, e2, by omega, Lib.hid (hno (by simp [okU]; omega))⟩))
          · exact .inr (.inl ⟨e1, by omega, Lib.hid (hno (by simp [okU]; omega))⟩)
        · exact .inl ⟨by omega, Lib.hid (hno (by simp [okU]; omega))⟩
      have hk0 : (0 : Int) ≤ (k : Int) := by omega
      have hk1 : (k : Int) < (l.length : Int) := by omega
      clear hcc hx Hall
      rcases hcs with ⟨e0, E⟩ | ⟨e0, e1, E⟩ | ⟨e0, e1, e2, E⟩ | ⟨e0, e1, e2, E⟩
      iterate 3
        · go_wp2_with fail
          go_ret
          exact ⟨by rw [E.out]; rfl, D.out.alloc _⟩
      · go_wp2_with fail
        exact ⟨⟨k + 1, by go_num, by omega, E, Lib.hid (D.out.alloc _)⟩, by simp [intOf]; omega⟩
    · have hE : Hid (R = true) := Lib.hid (by
        rw [HR.out]
        unfold smallU
        have : l.all okU = true := by
          rw [List.all_eq_true]
          intro x hx
          obtain ⟨i, hi, rfl⟩ := List.mem_iff_getElem.1 hx
          exact Hall.out i hi (by omega)
        rw [this]; simp [h60])
      go_wp2_with fail
      go_ret
      exact ⟨by rw [hE.out]; rfl, D.out⟩
end Go.Proofs.Ytfnnnflfikmekaa
