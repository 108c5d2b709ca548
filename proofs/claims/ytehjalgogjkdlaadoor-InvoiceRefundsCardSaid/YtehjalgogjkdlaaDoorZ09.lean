/- Chapter 52: contracts of the reference's checks: Valid, Add of faasref34. No condition. Names: what small letters, digits and names are; contracts of ident's small, digit. No condition. Names: contract of ident's Name, at every string. No condition. Plain: invoices: what Check, Refund, Total compute. No condition. -/
import Derived.Test.YtehjalgogjkdlaaDoorProg
import Derived.Test.YtehjalgogjkdlaaDoorZ08
import Derived.Test.YtehjalgogjkdlaaDoorZ01
namespace Go.Proofs.YtehjalgogjkdlaaDoor
set_option linter.unusedVariables false
set_option linter.unusedSimpArgs false
open Go.RowKit


end Go.Proofs.YtehjalgogjkdlaaDoor

namespace Go.Proofs.YtehjalgogjkdlaaDoor
set_option linter.unusedVariables false
set_option linter.unusedSimpArgs false
open Go.RowKit

def smallB (c : Int) : Bool := decide (97 ≤ c) && decide (c ≤ 122)
def digitB (c : Int) : Bool := decide (48 ≤ c) && decide (c ≤ 57)
def okAt (i : Nat) (c : Int) : Bool := smallB c || (decide (0 < i) && (digitB c || c == 45 || c == 95))
def byteAt (s : ByteArray) (i : Nat) : Int := ((s.data.toList.getD i 0).toNat : Int)
/-- Which strings are names. -/
def nameB (s : ByteArray) : Bool := (List.range s.size).all (fun i => okAt i (byteAt s i)) && decide (1 ≤ s.size) && decide (s.size ≤ 24)

theorem byteAt_eq (s : ByteArray) (p : Nat) (h : p < s.size) : byteAt s p = ((s[p]'h).toNat : Int) := by
  unfold byteAt
  rw [List.getD_eq_getElem?_getD, List.getElem?_eq_getElem (by simpa using h)]
  simp [ByteArray.getElem_eq_getElem_data]
theorem okAt_high {i : Nat} {c : Int} (h : 128 ≤ c) : okAt i c = false := by
  have h1 : decide (c ≤ 122) = false := by simp; omega
  have h2 : decide (c ≤ 57) = false := by simp; omega
  have h3 : (c == 45) = false := beq_eq_false_iff_ne.2 (by omega)
  have h4 : (c == 95) = false := beq_eq_false_iff_ne.2 (by omega)
  simp [okAt, smallB, digitB, h1, h2, h3, h4]
theorem range_step (p : Nat) (f : Nat → Bool) : (List.range (p + 1)).all f = ((List.range p).all f && f p) := by
  rw [List.range_succ, List.all_append]; simp
theorem nameB_no {s : ByteArray} {p : Nat} (hp : p < s.size) (h : okAt p (byteAt s p) = false) : nameB s = false := by
  have : (List.range s.size).all (fun i => okAt i (byteAt s i)) = false := by
    rw [List.all_eq_false]
    exact ⟨p, List.mem_range.2 hp, by simpa using h⟩
  simp [nameB, this]

theorem small_any (c : Int) (w : World) : Calls Tryd.prog 45 #[.int .i32 c] w fun e w' => e = .returned (.bool (smallB c)) ∧ w = w' := by
  by_cases h1 : 97 ≤ c
  · go_enter Tryd.func45, Tryd.ntmps45
    go_wp2
    go_ret
    exact ⟨by simp [smallB, h1], rfl⟩
  · go_enter Tryd.func45, Tryd.ntmps45
    go_wp2
    go_ret
    exact ⟨by simp [smallB]; omega, rfl⟩
theorem digit_any (c : Int) (w : World) : Calls Tryd.prog 46 #[.int .i32 c] w fun e w' => e = .returned (.bool (digitB c)) ∧ w = w' := by
  by_cases h1 : 48 ≤ c
  · go_enter Tryd.func46, Tryd.ntmps46
    go_wp2
    go_ret
    exact ⟨by simp [digitB, h1], rfl⟩
  · go_enter Tryd.func46, Tryd.ntmps46
    go_wp2
    go_ret
    exact ⟨by simp [digitB]; omega, rfl⟩
theorem decode_asc (s : ByteArray) (p : Nat) (h : p < s.size) : (Utf8.decode s p = ((s[p]'h).toNat, 1) ∧ (s[p]'h).toNat < 128) ∨ (128 ≤ (Utf8.decode s p).1 ∧ 128 ≤ (s[p]'h).toNat) := by
  by_cases ha : (s[p]'h).toNat < 128
  · exact .inl ⟨decode_ascii s p h ha, ha⟩
  · exact .inr ⟨(decode_high s p h (by omega)).1, by omega⟩
end Go.Proofs.YtehjalgogjkdlaaDoor

namespace Go.Proofs.YtehjalgogjkdlaaDoor
set_option linter.unusedVariables false
set_option linter.unusedSimpArgs false
open Go.RowKit

set_option maxHeartbeats 2000000 in
theorem name_any (s : ByteArray) (w : World) (hs : s.size ≤ maxLen) : Calls Tryd.prog 27 #[.string s] w fun e w' => e = .returned (.bool (nameB s)) ∧ Chg [] w w' := by
  unfold maxLen at hs
  obtain ⟨R, hR⟩ : ∃ R, R = nameB s := ⟨_, rfl⟩
  rw [← hR]
  have HR := Lib.hid hR
  clear hR
  go_enter Tryd.func27, Tryd.ntmps27
  go_wp2
  go_loopw [2] (fun r wr => ∃ p : Nat, wr = w.iter s p ∧ p ≤ s.size ∧ r = .bool false ∧ Hid ((List.range p).all (fun i => okAt i (byteAt s i)) = true)) (fun _ wr => s.size - wr.iterPos w.heap.size)
  case atStart => exact ⟨0, rfl, Nat.zero_le _, rfl, Lib.hid (by simp)⟩
  case round =>
    obtain ⟨p, rfl, hp, rfl, Hall⟩ := hrel
    by_cases hlt : p < s.size
    · have hnx := fun ty => run_next_any (P := Tryd.prog) w s p ty hlt
      have hbl : Hid (∀ q, Chg [] w (w.iter s q)) := Lib.hid (fun q => Chg.ofBelow ((Below.refl _ _).alloc (Nat.le_refl _) _))
      have hdec := decode_asc s p hlt
      have hbt := byteAt_eq s p hlt
      obtain ⟨c, hc⟩ : ∃ c : Nat, c = (Utf8.decode s p).fst := ⟨_, rfl⟩
      rw [← hc] at hnx hdec
      have hok : okAt p (byteAt s p) = okAt p c := by
        rcases hdec with ⟨hd, _⟩ | ⟨h1, h2⟩
        · have : c = (s[p]'hlt).toNat := by rw [hc, hd]
          rw [hbt, this]
        · rw [okAt_high (by omega), okAt_high (by omega)]
      have Hno : Hid (okAt p c = false → R = false) := Lib.hid (fun h => by rw [HR.out]; exact nameB_no hlt (hok.trans h))
      have Hyes : Hid (okAt p c = true → (Utf8.decode s p).2 = 1 ∧ (List.range (p + 1)).all (fun i => okAt i (byteAt s i)) = true) := Lib.hid (fun h => by
        refine ⟨?_, by rw [range_step, Hall.out, hok, h]; rfl⟩
        rcases hdec with ⟨hd, _⟩ | ⟨h1, h2⟩
        · rw [hd]
        · rw [okAt_high (by omega)] at h; cases h)
      have A1 := Lib.hid (fun w => small_any (c : Int) w)
      have A2 := Lib.hid (fun w => digit_any (c : Int) w)
      have hcs : (smallB c = true ∧ okAt p c = true) ∨ (smallB c = false ∧ p = 0 ∧ okAt p c = false) ∨ (smallB c = false ∧ ((p : Int) == 0) = false ∧ digitB c = true ∧ okAt p c = true) ∨ (smallB c = false ∧ ((p : Int) == 0) = false ∧ digitB c = false ∧ (((c : Int) == 45) = true ∧ ((c : Int) != 45) = false) ∧ okAt p c = true) ∨ (smallB c = false ∧ ((p : Int) == 0) = false ∧ digitB c = false ∧ ((c : Int) == 45) = false ∧ ((c : Int) != 45) = true ∧ ((c : Int) != 95) = false ∧ okAt p c = true) ∨ (smallB c = false ∧ ((p : Int) == 0) = false ∧ digitB c = false ∧ ((c : Int) == 45) = false ∧ ((c : Int) != 45) = true ∧ ((c : Int) != 95) = true ∧ okAt p c = false) := by
        unfold okAt
        cases h1 : smallB c
        · by_cases h0 : p = 0
          · subst h0; simp
          · have e0 : ((p : Int) == 0) = false := beq_eq_false_iff_ne.2 (by omega)
            have e1 : decide (0 < p) = true := by simp; omega
            rw [e0, e1]
            cases h2 : digitB c
            · cases h3 : ((c : Int) == 45)
              · cases h4 : ((c : Int) == 95)
                · simp [bne, h3, h4]
                · simp [bne, h3, h4]
              · simp [bne, h3]
            · simp
        · simp
      have HC := Lib.hid hc
      clear hdec hbt hok hc
      rcases hcs with ⟨h1, ho⟩ | ⟨h1, h2, ho⟩ | ⟨h1, h2, h3, ho⟩ | ⟨h1, h2, h3, ⟨h4, h5⟩, ho⟩ | ⟨h1, h2, h3, h4, h5, h6, ho⟩ | ⟨h1, h2, h3, h4, h5, h6, ho⟩
      · obtain ⟨d2, hall2⟩ := Hyes.out ho
        have HA := Lib.hid hall2
        clear ho hall2
        rw [h1] at A1
        go_wp2_with fail
        refine (A1.out _).mono ?_; rintro e w' ⟨rfl, rfl⟩
        go_wp2_with fail
        go_roundw
        case rel => exact ⟨p + 1, by first | rfl | rw [d2], by omega, rfl, HA⟩
        case measure => first | (simp; omega) | (simp [d2]; omega)
      · have HF := Lib.hid (Hno.out ho)
        clear ho
        rw [h1] at A1
        subst h2
        go_wp2_with fail
        refine (A1.out _).mono ?_; rintro e w' ⟨rfl, rfl⟩
        go_wp2_with fail
        go_ret
        exact ⟨by rw [HF.out]; rfl, hbl.out _⟩
      · obtain ⟨d2, hall2⟩ := Hyes.out ho
        have HA := Lib.hid hall2
        clear ho hall2
        rw [h1] at A1
        rw [h3] at A2
        go_wp2_with fail
        refine (A1.out _).mono ?_; rintro e w' ⟨rfl, rfl⟩
        go_wp2_with fail
        refine (A2.out _).mono ?_; rintro e w' ⟨rfl, rfl⟩
        go_wp2_with fail
        go_roundw
        case rel => exact ⟨p + 1, by first | rfl | rw [d2], by omega, rfl, HA⟩
        case measure => first | (simp; omega) | (simp [d2]; omega)
      · obtain ⟨d2, hall2⟩ := Hyes.out ho
        have HA := Lib.hid hall2
        clear ho hall2
        rw [h1] at A1
        rw [h3] at A2
        go_wp2_with fail
        refine (A1.out _).mono ?_; rintro e w' ⟨rfl, rfl⟩
        go_wp2_with fail
        refine (A2.out _).mono ?_; rintro e w' ⟨rfl, rfl⟩
        go_wp2_with fail
        go_roundw
        case rel => exact ⟨p + 1, by first | rfl | rw [d2], by omega, rfl, HA⟩
        case measure => first | (simp; omega) | (simp [d2]; omega)
      · obtain ⟨d2, hall2⟩ := Hyes.out ho
        have HA := Lib.hid hall2
        clear ho hall2
        rw [h1] at A1
        rw [h3] at A2
        go_wp2_with fail
        refine (A1.out _).mono ?_; rintro e w' ⟨rfl, rfl⟩
        go_wp2_with fail
        refine (A2.out _).mono ?_; rintro e w' ⟨rfl, rfl⟩
        go_wp2_with fail
        go_roundw
        case rel => exact ⟨p + 1, by first | rfl | rw [d2], by omega, rfl, HA⟩
        case measure => first | (simp; omega) | (simp [d2]; omega)
      · have HF := Lib.hid (Hno.out ho)
        clear ho
        rw [h1] at A1
        rw [h3] at A2
        go_wp2_with fail
        refine (A1.out _).mono ?_; rintro e w' ⟨rfl, rfl⟩
        go_wp2_with fail
        refine (A2.out _).mono ?_; rintro e w' ⟨rfl, rfl⟩
        go_wp2_with fail
        go_ret
        exact ⟨by rw [HF.out]; rfl, hbl.out _⟩
    · have hnx := fun ty => run_next_end (P := Tryd.prog) w s p ty hlt
      have hall := Hall.out
      have hpe : p = s.size := by omega
      subst hpe
      have HR2 : Hid (R = (decide (1 ≤ s.size) && decide (s.size ≤ 24))) := Lib.hid (by rw [HR.out, nameB, hall]; simp)
      have hcs : (s.size < 1 ∧ Hid (R = false)) ∨ (1 ≤ s.size ∧ s.size ≤ 24 ∧ Hid (R = true)) ∨ (1 ≤ s.size ∧ 24 < s.size ∧ Hid (R = false)) := by
        by_cases h1 : 1 ≤ s.size
        · by_cases h2 : s.size ≤ 24
          · exact .inr (.inl ⟨h1, h2, Lib.hid (by rw [HR2.out]; simp [h1, h2])⟩)
          · exact .inr (.inr ⟨h1, by omega, Lib.hid (by rw [HR2.out]; simp [h2])⟩)
        · exact .inl ⟨by omega, Lib.hid (by rw [HR2.out]; simp [h1])⟩
      clear hall
      rcases hcs with ⟨h1, h3⟩ | ⟨h1, h2, h3⟩ | ⟨h1, h2, h3⟩
      all_goals
        go_wp2
        go_ret
        exact ⟨by rw [h3.out]; first | rfl | (simp; omega), Chg.ofBelow ((Below.refl _ _).alloc (Nat.le_refl _) _)⟩
end Go.Proofs.YtehjalgogjkdlaaDoor

namespace Go.Proofs.YtehjalgogjkdlaaDoor
set_option linter.unusedVariables false
set_option linter.unusedSimpArgs false
open Go.RowKit
structure Ln where
  fn : ByteArray
  us : Us
  mi : Int
structure Inv where
  tn : ByteArray
  per : Int
  ls : List Ln
  gr : Int
  re : Int
  nt : Int
def inv0 : Inv := ⟨⟨#[]⟩, 0, [], 0, 0, 0⟩
/-- a ≤ b, as the program asks it. -/
def leqB (a b : ByteArray) : Bool := Op.bytesLess a.toList b.toList || a.toList == b.toList
def fnAt (l : List Ln) (k : Nat) : ByteArray := ((l[k]?).map Ln.fn).getD ⟨#[]⟩
/-- The error of the line k. -/
def lineE (l : List Ln) (k : Nat) : Int :=
  match l[k]? with
  | none => 0
  | some x => if nameB x.fn = false then 4 else if 0 < k ∧ leqB x.fn (fnAt l (k - 1)) = true then 11 else if usB x.us = false ∨ amtB x.mi = false then 2 else 0
def linesE (l : List Ln) : List Int := (List.range l.length).map (lineE l)
def sumMi (l : List Ln) : Int := (l.map Ln.mi).sum
def invZ (i : Inv) : Int :=
  if nameB i.tn = false then 4 else if i.per < 0 ∨ 1073741824 < i.per then 2 else if errs (linesE i.ls) ≠ 0 then errs (linesE i.ls)
  else if amtB i.gr = false ∨ amtB i.re = false ∨ amtB i.nt = false then 2
  else if sumMi i.ls = i.gr ∧ i.re ≤ i.gr ∧ i.nt = i.gr - i.re then 0 else 10
theorem amtB_in {n : Int} (h : amtB n = true) : 0 ≤ n ∧ n ≤ 1000000000000 := by simpa [amtB] using h
theorem linesE_at {l : List Ln} {k : Nat} (h : k < l.length) : (linesE l)[k]? = some (lineE l k) := by
  unfold linesE; rw [List.getElem?_map, List.getElem?_range h]; rfl
theorem lines_at {l : List Ln} (h : errs (linesE l) = 0) {k : Nat} (hk : k < l.length) : lineE l k = 0 := errs_zero h _ (List.mem_of_getElem? (linesE_at hk))
theorem lines_mi {l : List Ln} (h : errs (linesE l) = 0) : ∀ x ∈ l, nameB x.fn = true ∧ usB x.us = true ∧ 0 ≤ x.mi ∧ x.mi ≤ 1000000000000 := by
  intro x hx
  obtain ⟨k, hk, e⟩ := List.getElem_of_mem hx
  have h1 := lines_at h hk
  unfold lineE at h1
  rw [List.getElem?_eq_getElem hk, e] at h1
  simp only at h1
  split at h1
  · cases h1
  · rename_i h2
    split at h1
    · cases h1
    · split at h1
      · cases h1
      · rename_i h3
        simp only [not_or, Bool.not_eq_false] at h2 h3
        exact ⟨h2, h3.1, amtB_in h3.2⟩
theorem inv_ok {i : Inv} (h : invZ i = 0) : nameB i.tn = true ∧ (0 ≤ i.per ∧ i.per ≤ 1073741824) ∧ errs (linesE i.ls) = 0 ∧ (0 ≤ i.gr ∧ i.gr ≤ 1000000000000) ∧ (0 ≤ i.re ∧ i.re ≤ 1000000000000) ∧ (0 ≤ i.nt ∧ i.nt ≤ 1000000000000) ∧ sumMi i.ls = i.gr ∧ i.re ≤ i.gr ∧ i.nt = i.gr - i.re := by
  unfold invZ at h
  split at h
  · cases h
  · rename_i h1
    split at h
    · cases h
    · rename_i h2
      split at h
      · rename_i h3; exact (h3 h).elim
      · rename_i h3
        split at h
        · cases h
        · rename_i h4
          split at h
          · rename_i h5
            simp only [not_or, Bool.not_eq_false] at h1 h4
            exact ⟨h1, by omega, Classical.not_not.1 h3, amtB_in h4.1, amtB_in h4.2.1, amtB_in h4.2.2, h5⟩
          · cases h
theorem sumMi_take {l : List Ln} {k : Nat} {x : Ln} (h : l[k]? = some x) : sumMi (l.take (k + 1)) = sumMi (l.take k) + x.mi := by
  obtain ⟨hk, e⟩ := List.getElem?_eq_some_iff.1 h
  unfold sumMi
  rw [List.take_succ_eq_append_getElem hk, e]
  simp
theorem sumMi_nn {l : List Ln} (h : ∀ x ∈ l, 0 ≤ x.mi) : 0 ≤ sumMi l := by
  induction l with
  | nil => simp [sumMi]
  | cons x l ih =>
    have h1 := ih fun y hy => h y (by simp [hy])
    have h2 := h x (by simp)
    unfold sumMi at h1 ⊢
    simp; omega
theorem sumMi_drop {l : List Ln} (h : ∀ x ∈ l, 0 ≤ x.mi) (k : Nat) : sumMi (l.take k) ≤ sumMi l := by
  have e : sumMi l = sumMi (l.take k) + sumMi (l.drop k) := by
    unfold sumMi
    rw [← List.sum_append, ← List.map_append, List.take_append_drop]
  have := sumMi_nn (l := l.drop k) fun x hx => h x (List.mem_of_mem_drop hx)
  omega
theorem sumMi_len {l : List Ln} (h : ∀ x ∈ l, x.mi ≤ 1000000000000) : sumMi l ≤ 1000000000000 * l.length := by
  induction l with
  | nil => simp [sumMi]
  | cons x l ih =>
    have h1 := ih fun y hy => h y (by simp [hy])
    have h2 := h x (by simp)
    unfold sumMi at h1 ⊢
    simp only [List.map_cons, List.sum_cons, List.length_cons]
    omega
/-- The reference's sum: as far as it fits. -/
def sumR : List Ln → Int × Bool → Int × Bool
  | [], s => s
  | x :: l, s => sumR l (if 1000000000000 < s.1 + x.mi then (0, false) else (s.1 + x.mi, s.2))
theorem sumR_app (l : List Ln) (x : Ln) (s : Int × Bool) : sumR (l ++ [x]) s = if 1000000000000 < (sumR l s).1 + x.mi then (0, false) else ((sumR l s).1 + x.mi, (sumR l s).2) := by
  induction l generalizing s with
  | nil => rfl
  | cons y l ih => exact ih _
theorem sumR_take {l : List Ln} {k : Nat} {x : Ln} (h : l[k]? = some x) (s : Int × Bool) : sumR (l.take (k + 1)) s = if 1000000000000 < (sumR (l.take k) s).1 + x.mi then (0, false) else ((sumR (l.take k) s).1 + x.mi, (sumR (l.take k) s).2) := by
  obtain ⟨hk, e⟩ := List.getElem?_eq_some_iff.1 h
  rw [List.take_succ_eq_append_getElem hk, e, sumR_app]
theorem sumR_ok {l : List Ln} (h : ∀ x ∈ l, 0 ≤ x.mi) : (0 ≤ (sumR l (0, true)).1 ∧ (sumR l (0, true)).1 ≤ 1000000000000) ∧ (((sumR l (0, true)).2 = true ∧ (sumR l (0, true)).1 = sumMi l) ∨ ((sumR l (0, true)).2 = false ∧ 1000000000000 < sumMi l)) := by
  obtain ⟨m, hm⟩ : ∃ m, m = l.length := ⟨_, rfl⟩
  suffices ∀ k, k ≤ l.length → (0 ≤ (sumR (l.take k) (0, true)).1 ∧ (sumR (l.take k) (0, true)).1 ≤ 1000000000000) ∧ (((sumR (l.take k) (0, true)).2 = true ∧ (sumR (l.take k) (0, true)).1 = sumMi (l.take k)) ∨ ((sumR (l.take k) (0, true)).2 = false ∧ 1000000000000 < sumMi (l.take k))) by
    have := this l.length (Nat.le_refl _)
    rwa [List.take_length] at this
  intro k
  induction k with
  | zero => intro _; exact ⟨by simp [sumR], .inl ⟨rfl, rfl⟩⟩
  | succ k ih =>
    intro hk
    obtain ⟨h1, h2⟩ := ih (by omega)
    obtain ⟨x, hx⟩ : ∃ x, l[k]? = some x := ⟨l[k], List.getElem?_eq_getElem (by omega)⟩
    have h3 := h x (List.mem_of_getElem? hx)
    rw [sumR_take hx, sumMi_take hx]
    split
    · refine ⟨by simp, .inr ⟨rfl, ?_⟩⟩
      rcases h2 with ⟨h4, h5⟩ | ⟨h4, h5⟩ <;> omega
    · refine ⟨by simp only; omega, ?_⟩
      rcases h2 with ⟨h4, h5⟩ | ⟨h4, h5⟩
      · exact .inl ⟨h4, by simp only; omega⟩
      · exact .inr ⟨h4, by omega⟩
/-- An invoice with a refund, or the error. -/
def refZ (i : Inv) (pm : Int) : Inv × Int :=
  if invZ i ≠ 0 then (inv0, invZ i) else if pm < 0 ∨ 1000 < pm then (inv0, 2) else ({i with re := i.gr * pm / 1000, nt := i.gr - i.gr * pm / 1000}, 0)
def sumNt (l : List Inv) : Int := (l.map Inv.nt).sum
/-- The sum of the net amounts, or the error. -/
def totZ (l : List Inv) : Int × Int := if errs (l.map invZ) ≠ 0 then (0, errs (l.map invZ)) else if sumNt l ≤ 1000000000000 then (sumNt l, 0) else (0, 8)
theorem sumNt_take {l : List Inv} {k : Nat} {x : Inv} (h : l[k]? = some x) : sumNt (l.take (k + 1)) = sumNt (l.take k) + x.nt := by
  obtain ⟨hk, e⟩ := List.getElem?_eq_some_iff.1 h
  unfold sumNt
  rw [List.take_succ_eq_append_getElem hk, e]
  simp
theorem sumNt_nn {l : List Inv} (h : ∀ x ∈ l, 0 ≤ x.nt) : 0 ≤ sumNt l := by
  induction l with
  | nil => simp [sumNt]
  | cons x l ih =>
    have h1 := ih fun y hy => h y (by simp [hy])
    have h2 := h x (by simp)
    unfold sumNt at h1 ⊢
    simp; omega
theorem sumNt_drop {l : List Inv} (h : ∀ x ∈ l, 0 ≤ x.nt) (k : Nat) : sumNt (l.take k) ≤ sumNt l := by
  have e : sumNt l = sumNt (l.take k) + sumNt (l.drop k) := by
    unfold sumNt
    rw [← List.sum_append, ← List.map_append, List.take_append_drop]
  have := sumNt_nn (l := l.drop k) fun x hx => h x (List.mem_of_mem_drop hx)
  omega
theorem nets_in {l : List Inv} (h : errs (l.map invZ) = 0) : ∀ x ∈ l, invZ x = 0 ∧ 0 ≤ x.nt ∧ x.nt ≤ 1000000000000 := by
  intro x hx
  have := errs_zero h _ (List.mem_map.2 ⟨x, hx, rfl⟩)
  exact ⟨this, (inv_ok this).2.2.2.2.2.1⟩
end Go.Proofs.YtehjalgogjkdlaaDoor
