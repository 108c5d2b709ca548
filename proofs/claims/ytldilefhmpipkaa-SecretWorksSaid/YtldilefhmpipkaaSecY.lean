/- Chapter 22: contracts of the reference: New, find, place, secretText. No condition. -/
import Derived.Test.YtldilefhmpipkaaSecX
import Derived.Test.YtldilefhmpipkaaSecC
import Derived.Test.YtldilefhmpipkaaLex
import Derived.Test.YtldilefhmpipkaaSecQ
namespace Go.Proofs.Ytldilefhmpipkaa
set_option linter.unusedVariables false
set_option linter.unusedSimpArgs false
open Go.RowKit

theorem rnew_any (w : World) : Calls Try.prog 12 #[] w fun e w' => ∃ rb, e = .returned (.pointer (some ⟨rb, 0, none⟩)) ∧ RVIs w' rb (.slice none 0 0) [] ∧ w.heap.size ≤ rb ∧ Chg [] w w' := by
  go_enter Try.func12, Try.ntmps12
  go_wp2
  go_ret
  exact ⟨w.heap.size, rfl, ⟨heap_alloc_new _ _, RowOf.nil _ _ _, by simp⟩, Nat.le_refl _, (Chg.refl _ _).alloc _⟩

set_option maxHeartbeats 2000000 in
theorem rtext_any (s : ByteArray) (w : World) (hs : s.size ≤ maxLen) : Calls Try.prog 51 #[.string s] w fun e w' => e = .returned (.bool (textB s)) ∧ w = w' := by
  unfold maxLen at hs
  obtain ⟨R, hR⟩ : ∃ R, R = textB s := ⟨_, rfl⟩
  rw [← hR]
  have HR := Lib.hid hR
  clear hR
  go_enter Try.func51, Try.ntmps51
  go_wp2_with fail
  go_loop [6] (fun i => ∃ k : Nat, i = .int .i64 k ∧ k ≤ s.size ∧ Hid ((List.range k).all (fun i => !badC (byteAt s i)) = true)) (fun i => s.size - (intOf i).toNat)
  case atStart => exact ⟨0, rfl, Nat.zero_le _, Lib.hid (by simp)⟩
  case round =>
    obtain ⟨k, rfl, hkl, Hall⟩ := hrel
    by_cases hk : k < s.size
    · have hbt := byteAt_eq s k hk
      have hst := range_step k (fun i => !badC (byteAt s i))
      have hk0 : (0 : Int) ≤ (k : Int) := by omega
      have hk1 : (k : Int) < (s.size : Int) := by omega
      obtain ⟨c, hc⟩ : ∃ c : Int, c = ((s[k]'hk).toNat : Int) := ⟨_, rfl⟩
      have hcs : (c < 33 ∧ Hid (R = false)) ∨ (33 ≤ c ∧ 126 < c ∧ Hid (R = false)) ∨ (33 ≤ c ∧ c ≤ 126 ∧ Hid ((List.range (k + 1)).all (fun i => !badC (byteAt s i)) = true)) := by
        have hno : badC c = true → R = false := fun h => by
          rw [HR.out]
          unfold textB
          have : (List.range s.size).all (fun i => !badC (byteAt s i)) = false := by
            rw [List.all_eq_false]
            exact ⟨k, List.mem_range.2 hk, by simp only [hbt, ← hc, h]; decide⟩
          rw [this]; simp
        by_cases h1 : c < 33
        · exact .inl ⟨h1, Lib.hid (hno (by simp [badC, h1]))⟩
        · by_cases h2 : 126 < c
          · exact .inr (.inl ⟨by omega, h2, Lib.hid (hno (by simp [badC, h2]))⟩)
          · refine .inr (.inr ⟨by omega, by omega, Lib.hid ?_⟩)
            rw [hst, Hall.out, hbt, ← hc]
            simp [badC]; omega
      rw [hc] at hcs
      clear hst hbt hc
      rcases hcs with ⟨q1, E⟩ | ⟨q1, q2, E⟩ | ⟨q1, q2, E⟩
      · go_wp2_with fail
        go_ret
        exact ⟨by rw [E.out]; rfl, rfl⟩
      · go_wp2_with fail
        go_ret
        exact ⟨by rw [E.out]; rfl, rfl⟩
      · go_wp2_with fail
        exact ⟨⟨k + 1, by go_num, by omega, E⟩, by simp [intOf]; omega⟩
    · have hks : k = s.size := by omega
      subst hks
      have hcs : (s.size < 1 ∧ Hid (R = false)) ∨ (1 ≤ s.size ∧ (s.size : Int) ≤ 200 ∧ Hid (R = true)) ∨ (1 ≤ s.size ∧ (200 : Int) < (s.size : Int) ∧ Hid (R = false)) := by
        have h3 := Hall.out
        by_cases h1 : 1 ≤ s.size
        · by_cases h2 : s.size ≤ 200
          · exact .inr (.inl ⟨h1, by omega, Lib.hid (by rw [HR.out]; unfold textB; rw [h3]; simp [h1, h2])⟩)
          · exact .inr (.inr ⟨h1, by omega, Lib.hid (by rw [HR.out]; unfold textB; simp [h2])⟩)
        · exact .inl ⟨by omega, Lib.hid (by rw [HR.out]; unfold textB; simp [h1])⟩
      rcases hcs with ⟨h1, h3⟩ | ⟨h1, h2, h3⟩ | ⟨h1, h2, h3⟩
      all_goals
        go_wp2
        go_ret
        exact ⟨by rw [h3.out]; first | rfl | (simp; omega), rfl⟩

/-! the place of a string in a list, as both loops look for it -/
def posOf (l : List (List UInt8)) (x : List UInt8) : Nat := (l.takeWhile (fun y => decide (y < x))).length
def foundAt (l : List (List UInt8)) (x : List UInt8) : Bool := l[posOf l x]? == some x
theorem posOf_le (l : List (List UInt8)) (x : List UInt8) : posOf l x ≤ l.length := (List.takeWhile_sublist _).length_le
theorem posOf_eq {l : List (List UInt8)} {x : List UInt8} {k : Nat} (hk : k ≤ l.length) (h1 : ∀ i (hi : i < l.length), i < k → l[i] < x) (h2 : k = l.length ∨ ∃ h : k < l.length, ¬ l[k] < x) : posOf l x = k := by
  unfold posOf
  induction l generalizing k with
  | nil => simp at hk; subst hk; rfl
  | cons y l ih =>
    cases k with
    | zero =>
      rcases h2 with h2 | ⟨_, h2⟩
      · simp at h2
      · simp only [List.getElem_cons_zero] at h2
        rw [List.takeWhile_cons, if_neg (by simpa using h2)]; rfl
    | succ k =>
      have hy : y < x := h1 0 (by simp) (by omega)
      rw [List.takeWhile_cons, if_pos (by simpa using hy), List.length_cons]
      rw [ih (k := k) (by simpa using hk) (fun i hi hik => h1 (i + 1) (by simpa using hi) (by omega)) (by
        rcases h2 with h2 | ⟨h3, h2⟩
        · exact .inl (by simpa using h2)
        · exact .inr ⟨by simpa using h3, by simpa using h2⟩)]

set_option maxHeartbeats 4000000 in
set_option maxRecDepth 100000 in
theorem rplace_any (v : Value) (l : List (List UInt8)) (s : ByteArray) (w : World) (h : SrcIs kc 1 w v l) (hl : l.length ≤ 4096) : Calls Try.prog 45 #[v, .string s] w fun e w' => e = .returned (.tuple #[.int .i64 (posOf l (byt s) : Nat), .bool (foundAt l (byt s))]) ∧ Chg [] w w' := by
  obtain ⟨P, hP⟩ : ∃ P, P = posOf l (byt s) := ⟨_, rfl⟩
  obtain ⟨F, hF⟩ : ∃ F, F = foundAt l (byt s) := ⟨_, rfl⟩
  rw [← hP, ← hF]
  have HP := Lib.hid hP
  have HF := Lib.hid (show F = (l[P]? == some (byt s)) by rw [hF, hP]; rfl)
  clear hP hF
  rcases h with ⟨rfl, rfl⟩ | ⟨g, off, c, rfl, h2, h3, h4, h5⟩
  · have E1 : Hid (P = 0) := Lib.hid (by rw [HP.out]; rfl)
    have E2 : Hid (F = false) := Lib.hid (by rw [HF.out]; simp)
    go_enter Try.func45, Try.ntmps45
    go_wp2_with fail
    go_loop [6] (fun i => i = .int .i64 0) (fun _ => 0)
    case atStart => rfl
    case round =>
      subst hrel
      go_wp2_with fail
      go_quiet (fail)
      go_wp2_with fail
      go_ret2
      exact ⟨by rw [E1.out, E2.out]; rfl, (Chg.refl _ _).drewN _⟩
  · have Hcell := Lib.hid h5
    clear h5
    go_enter Try.func45, Try.ntmps45
    go_wp2_with fail
    go_loop [6] (fun i => ∃ k : Nat, i = .int .i64 k ∧ k ≤ l.length ∧ Hid (∀ i (hi : i < l.length), i < k → l[i] < byt s)) (fun i => l.length - (intOf i).toNat)
    case atStart => exact ⟨0, rfl, Nat.zero_le _, Lib.hid (fun i _ h => absurd h (Nat.not_lt_zero i))⟩
    case round =>
      obtain ⟨k, rfl, hkl, Hall⟩ := hrel
      by_cases hk : k < l.length
      · have c0 := Hcell.out k hk 0 (by omega)
        simp only [kc, encStr, List.getElem?_cons_zero, Nat.add_zero, Nat.mul_one] at c0
        have hk0 : (0 : Int) ≤ (k : Int) := by omega
        have hk1 : (k : Int) < (l.length : Int) := by omega
        by_cases hlt : l[k] < byt s
        · have E := Lib.hid (show ∀ i (hi : i < l.length), i < k + 1 → l[i] < byt s from fun i hi hik => by
            by_cases e : i = k
            · subst e; exact hlt
            · exact Hall.out i hi (by omega))
          have hb : Op.bytesLess (⟨l[k].toArray⟩ : ByteArray).toList s.toList = true := by rw [bless]; simpa [byt] using hlt
          generalize (⟨l[k].toArray⟩ : ByteArray) = x at *
          clear hlt
          go_wp2_with fail
          exact ⟨⟨k + 1, by go_num, by omega, E⟩, by simp [intOf]; omega⟩
        · have E1 : Hid (P = k) := Lib.hid (HP.out.trans (posOf_eq hkl Hall.out (.inr ⟨hk, hlt⟩)))
          have hb : Op.bytesLess (⟨l[k].toArray⟩ : ByteArray).toList s.toList = false := by rw [bless]; simpa [byt] using hlt
          have hcs : ((⟨l[k].toArray⟩ : ByteArray) = s ∧ Hid (F = true)) ∨ (((⟨l[k].toArray⟩ : ByteArray).toList == s.toList) = false ∧ Hid (F = false)) := by
            have hF := HF.out
            rw [E1.out, List.getElem?_eq_getElem hk] at hF
            by_cases h : (⟨l[k].toArray⟩ : ByteArray) = s
            · exact .inl ⟨h, Lib.hid (by rw [hF, ← h]; simp [byt])⟩
            · refine .inr ⟨bne_bytes h, Lib.hid ?_⟩
              rw [hF]
              simp only [beq_eq_false_iff_ne, ne_eq, Option.some.injEq]
              intro e
              apply h
              rw [e]; unfold byt; simp
          generalize (⟨l[k].toArray⟩ : ByteArray) = x at *
          clear hlt
          rcases hcs with ⟨rfl, E2⟩ | ⟨he, E2⟩
          all_goals
            go_wp2_with fail
            go_quiet (fail)
            go_wp2_with fail
            go_ret2
            exact ⟨by rw [E1.out, E2.out]; rfl, (Chg.refl _ _).drewN _⟩
      · have E1 : Hid (P = k) := Lib.hid (HP.out.trans (posOf_eq hkl Hall.out (.inl (by omega))))
        have E2 : Hid (F = false) := Lib.hid (by rw [HF.out, E1.out, List.getElem?_eq_none (by omega)]; rfl)
        go_wp2_with fail
        go_quiet (fail)
        go_wp2_with fail
        go_ret2
        exact ⟨by rw [E1.out, E2.out]; rfl, (Chg.refl _ _).drewN _⟩

set_option maxHeartbeats 4000000 in
set_option maxRecDepth 100000 in
theorem rfind_any (rb : Nat) (sv : Value) (l : List RSec) (s : ByteArray) (w : World) (h : RVIs w rb sv l) (hl : l.length ≤ 4096) : Calls Try.prog 44 #[.pointer (some ⟨rb, 0, none⟩), .string s] w fun e w' => e = .returned (.tuple #[.int .i64 (posOf (l.map fun x => byt x.s.name) (byt s) : Nat), .bool (foundAt (l.map fun x => byt x.s.name) (byt s))]) ∧ Chg [] w w' := by
  obtain ⟨P, hP⟩ : ∃ P, P = posOf (l.map fun x => byt x.s.name) (byt s) := ⟨_, rfl⟩
  obtain ⟨F, hF⟩ : ∃ F, F = foundAt (l.map fun x => byt x.s.name) (byt s) := ⟨_, rfl⟩
  rw [← hP, ← hF]
  have HP := Lib.hid hP
  have HF := Lib.hid (show F = ((l.map fun x => byt x.s.name)[P]? == some (byt s)) by rw [hF, hP]; rfl)
  have cr := blk_cell h.1
  clear hP hF
  rcases RowOf.src h.2.1 rsLen with ⟨rfl, rfl⟩ | ⟨g, off, c, rfl, h2, h3, h4, h5⟩
  · have E1 : Hid (P = 0) := Lib.hid (by rw [HP.out]; rfl)
    have E2 : Hid (F = false) := Lib.hid (by rw [HF.out]; simp)
    clear h
    go_enter Try.func44, Try.ntmps44
    go_wp2_with fail
    go_loop [6] (fun i => i = .int .i64 0) (fun _ => 0)
    case atStart => rfl
    case round =>
      subst hrel
      go_wp2_with fail
      go_quiet (fail)
      go_wp2_with fail
      go_ret2
      exact ⟨by rw [E1.out, E2.out]; rfl, (Chg.refl _ _).drewN _⟩
  · have Hcell := Lib.hid h5
    have hgk : ∀ i (hi : i < (l.map fun x => byt x.s.name).length), (l.map fun x => byt x.s.name)[i] = byt (l[i]'(by simpa using hi)).s.name := fun i hi => by simp
    have Hgk := Lib.hid hgk
    have hml : (l.map fun x => byt x.s.name).length = l.length := by simp
    have Hml := Lib.hid hml
    clear h5 h hgk hml
    go_enter Try.func44, Try.ntmps44
    go_wp2_with fail
    go_loop [6] (fun i => ∃ k : Nat, i = .int .i64 k ∧ k ≤ l.length ∧ Hid (∀ i (hi : i < l.length), i < k → byt l[i].s.name < byt s)) (fun i => l.length - (intOf i).toNat)
    case atStart => exact ⟨0, rfl, Nat.zero_le _, Lib.hid (fun i _ h => absurd h (Nat.not_lt_zero i))⟩
    case round =>
      obtain ⟨k, rfl, hkl, Hall⟩ := hrel
      have Hall' : Hid (∀ i (hi : i < (l.map fun x => byt x.s.name).length), i < k → (l.map fun x => byt x.s.name)[i] < byt s) := Lib.hid (fun i hi hik => by rw [Hgk.out i hi]; exact Hall.out i _ hik)
      by_cases hk : k < l.length
      · have c0 := Hcell.out k hk 0 (by omega)
        simp only [rsCells, List.getElem?_cons_zero, Nat.add_zero] at c0
        have hk0 : (0 : Int) ≤ (k : Int) := by omega
        have hk1 : (k : Int) < (l.length : Int) := by omega
        have hkm : k < (l.map fun x => byt x.s.name).length := by rw [Hml.out]; exact hk
        have hgk := Hgk.out k hkm
        obtain ⟨x, hx⟩ : ∃ x, x = l[k].s.name := ⟨_, rfl⟩
        rw [← hx] at c0 hgk
        have Hx := Lib.hid hx
        have HG := Lib.hid hgk
        clear hx hgk
        by_cases hlt : byt x < byt s
        · have E := Lib.hid (show ∀ i (hi : i < l.length), i < k + 1 → byt l[i].s.name < byt s from fun i hi hik => by
            by_cases e : i = k
            · subst e; rw [← Hx.out]; exact hlt
            · exact Hall.out i hi (by omega))
          have hb : Op.bytesLess x.toList s.toList = true := by rw [bless]; simpa [byt] using hlt
          clear HG hlt hkm
          go_wp2_with fail
          exact ⟨⟨k + 1, by go_num, by omega, E⟩, by simp [intOf]; omega⟩
        · have E1 : Hid (P = k) := Lib.hid (HP.out.trans (posOf_eq (by rw [Hml.out]; exact hkl) Hall'.out (.inr ⟨hkm, by rw [HG.out]; exact hlt⟩)))
          have hb : Op.bytesLess x.toList s.toList = false := by rw [bless]; simpa [byt] using hlt
          have hcs : (x = s ∧ Hid (F = true)) ∨ ((x.toList == s.toList) = false ∧ Hid (F = false)) := by
            have hF := HF.out
            rw [E1.out, List.getElem?_eq_getElem hkm, HG.out] at hF
            by_cases h : x = s
            · exact .inl ⟨h, Lib.hid (by rw [hF, ← h]; simp)⟩
            · refine .inr ⟨bne_bytes h, Lib.hid ?_⟩
              rw [hF]
              simp only [beq_eq_false_iff_ne, ne_eq, Option.some.injEq]
              exact fun e => h (bs_inj e)
          clear HG hlt hkm
          rcases hcs with ⟨rfl, E2⟩ | ⟨he, E2⟩
          all_goals
            go_wp2_with fail
            go_quiet (fail)
            go_wp2_with fail
            go_ret2
            exact ⟨by rw [E1.out, E2.out]; rfl, (Chg.refl _ _).drewN _⟩
      · have E1 : Hid (P = k) := Lib.hid (HP.out.trans (posOf_eq (by rw [Hml.out]; exact hkl) Hall'.out (.inl (by rw [Hml.out]; omega))))
        have E2 : Hid (F = false) := Lib.hid (by rw [HF.out, E1.out, List.getElem?_eq_none (by rw [Hml.out]; omega)]; rfl)
        go_wp2_with fail
        go_quiet (fail)
        go_wp2_with fail
        go_ret2
        exact ⟨by rw [E1.out, E2.out]; rfl, (Chg.refl _ _).drewN _⟩
end Go.Proofs.Ytldilefhmpipkaa
