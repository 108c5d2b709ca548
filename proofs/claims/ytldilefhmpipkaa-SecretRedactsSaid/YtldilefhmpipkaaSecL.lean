/- Chapter 22: SecretRedacts: no secret remains in a redacted text, and a text without secrets stays. No condition. -/
import Derived.Test.YtldilefhmpipkaaSecK
namespace Go.Proofs.Ytldilefhmpipkaa
set_option linter.unusedVariables false
set_option linter.unusedSimpArgs false
open Go.RowKit

theorem any_step {α : Type} (l : List α) (f : α → Bool) (k : Nat) (hk : k < l.length) : (l.take (k + 1)).any f = ((l.take k).any f || f l[k]) := by
  rw [List.take_succ_eq_append_getElem hk, List.any_append]; simp
theorem smallL_at {l : List OpD} (h : smallL l = true) {k : Nat} (hk : k < l.length) : l.length ≤ 300 ∧ l[k].name.size ≤ 300 ∧ l[k].text.size ≤ 300 ∧ l[k].fn.size ≤ 300 := by
  unfold smallL okOp at h
  rw [List.all_eq_true] at h
  have := h _ (List.getElem_mem hk)
  simp only [Bool.and_eq_true, decide_eq_true_eq] at this
  exact ⟨this.1, this.2.1.1, this.2.1.2, this.2.2⟩
theorem ne_em {t : ByteArray} (h : t ≠ em) : (¬ t.toList = []) ∧ (!t.toList.isEmpty) = true ∧ t.toList.isEmpty = false := by
  have h1 : ¬ t.toList = [] := fun e => h (nil_size.2 (toList_nil.1 e))
  have h2 : t.toList.isEmpty = false := by simpa using h1
  exact ⟨h1, by rw [h2]; rfl, h2⟩

set_option maxHeartbeats 16000000 in
set_option maxRecDepth 100000 in
theorem redacts_walk (a0 : Option Addr) (len0 cap0 : Nat) (l : List OpD) (s : ByteArray) (w : World) (h0 : SlIs oCells 6 w a0 len0 l ∧ (∀ x ∈ l, x.good) ∧ len0 ≤ maxLen ∧ len0 ≤ cap0) (h1 : s.size ≤ maxLen) :
    Calls Try.prog 4 #[.slice a0 len0 cap0, .string s] w fun e w' => e = .returned (.bool true) ∧ Below w.heap.size w w' := by
  obtain ⟨s0, g0, m0, _⟩ := h0
  have hA1 := smallF_any a0 len0 cap0 l w s0 g0 m0
  have hs1 : (s.size : Int) ≤ 9223372036854775807 := by unfold maxLen at h1; omega
  have S0' := Lib.hid s0
  have HL := Lib.hid s0.1
  by_cases b1 : smallL l = true
  case neg =>
    rw [show smallL l = false by simpa using b1] at hA1
    have A1 := Lib.hid hA1
    clear b1 hA1 h1 g0 m0 s0
    go_enter Try.func4, Try.ntmps4
    go_wp2_with fail
    refine A1.out.mono ?_; rintro e w1 ⟨rfl, rfl⟩
    go_wp2_with fail
    refine (awake_any _).mono ?_; rintro e w9 ⟨rfl, hc9⟩
    have C9 := Lib.hid hc9
    clear hc9
    go_wp2_with fail
    go_ret
    exact ⟨rfl, C9.out.toBelow (Nat.le_refl _) (by simp)⟩
  rw [b1] at hA1
  have A1 := Lib.hid hA1
  by_cases b2 : (s.size : Int) ≤ 2000
  case neg =>
    have b2' : (2000 : Int) < (s.size : Int) := by omega
    clear b1 b2 hA1 h1 g0 m0 s0
    go_enter Try.func4, Try.ntmps4
    go_wp2_with fail
    refine A1.out.mono ?_; rintro e w1 ⟨rfl, rfl⟩
    go_wp2_with fail
    refine (awake_any _).mono ?_; rintro e w9 ⟨rfl, hc9⟩
    have C9 := Lib.hid hc9
    clear hc9
    go_wp2_with fail
    go_ret
    exact ⟨rfl, C9.out.toBelow (Nat.le_refl _) (by simp)⟩
  have A3 := Lib.hid (oplayed (W := w) s0 g0 m0 (Chg.refl _ _) (cap := cap0))
  have hlen : (len0 : Int) ≤ 9223372036854775807 := by unfold maxLen at m0; omega
  have Hsm := Lib.hid (fun k hk => smallL_at b1 (k := k) hk)
  obtain ⟨L, hL⟩ : ∃ L, L = playS l := ⟨_, rfl⟩
  obtain ⟨r, hr⟩ : ∃ r, r = redS L s := ⟨_, rfl⟩
  have Hf := Lib.hid (show foundB L s l = false → r = s from fun h => by rw [hr, hL]; exact redact_found (hL ▸ h))
  have Hc := Lib.hid (show starsB L l = false → ∀ k (hk : k < l.length), isA L l[k] = true → insB r l[k].text = false from fun h k hk ha => by
    rw [hr, hL]; exact redact_clean (hL ▸ h) (List.getElem_mem hk) (hL ▸ ha))
  have hrl : r.size ≤ 1000000 := by have := redS_len L s; rw [← hr] at this; omega
  have hsl : s.size ≤ 1000000 := by omega
  rw [← hL] at A3
  have HR := Lib.hid hr
  have Hfs := Lib.hid (show ∀ k (hk : k < l.length), foundB L s (l.take (k + 1)) = (foundB L s (l.take k) || (isA L l[k] && insB s l[k].text)) from fun k hk => any_step l (fun x => isA L x && insB s x.text) k hk)
  have Hss := Lib.hid (show ∀ k (hk : k < l.length), starsB L (l.take (k + 1)) = (starsB L (l.take k) || (isA L l[k] && insB l[k].text star)) from fun k hk => any_step l (fun x => isA L x && insB x.text star) k hk)
  clear hL hr b1 hA1 h1 g0 m0 s0
  go_enter Try.func4, Try.ntmps4
  go_wp2_with fail
  refine A1.out.mono ?_; rintro e w1 ⟨rfl, rfl⟩
  go_wp2_with fail
  refine A3.out.mono ?_; rintro e w2 ⟨vb, rfl, ho2⟩
  have A4 := oredact ho2 s (by omega)
  rw [← HR.out] at A4
  have A4 := Lib.hid A4
  rename_i A40
  clear A40 ho2
  go_wp2_with fail
  refine A4.out.mono ?_; rintro e w3 ⟨rfl, ho3⟩
  have O3 := Lib.hid ho3
  have A5 := Lib.hid (fun name t => oacc ho3 name t 0)
  have S3 := Lib.hid (S0'.out.kept ho3.2)
  clear ho3
  go_wp2_with fail
  go_loop [7, 8, 31] (fun f st i => ∃ k : Nat, i = .int .i64 k ∧ k ≤ len0 ∧ f = .bool (foundB L s (l.take k)) ∧ st = .bool (starsB L (l.take k))) (fun _ _ i => len0 - (intOf i).toNat)
  case atStart => exact ⟨0, rfl, Nat.zero_le _, rfl, rfl⟩
  case round =>
    obtain ⟨k, rfl, hkl, rfl, rfl⟩ := hrel
    by_cases hlt : k < len0
    · have hk2 : k < l.length := by rw [HL.out]; exact hlt
      obtain ⟨b, off, rfl, -, hcc⟩ := S3.out.2 k hk2
      have hf1 := Hfs.out k hk2
      have hs2 := Hss.out k hk2
      have hsz := Hsm.out k hk2
      have d1 := hcc 1 (by omega)
      have d2 := hcc 2 (by omega)
      simp only [oCells, List.getElem?_cons_zero, List.getElem?_cons_succ] at d1 d2
      have hA5 := A5.out l[k].name l[k].text
      have hk0 : (0 : Int) ≤ (k : Int) := by omega
      have hk1 : (k : Int) < (len0 : Int) := by omega
      have hia : isA L l[k] = (decide (l[k].text ≠ em) && accB L l[k].name l[k].text 0) := rfl
      rw [hia] at hf1 hs2
      clear hia hcc
      generalize l[k].name = nm at *
      generalize l[k].text = t at *
      generalize foundB L s (l.take k) = F at *
      generalize starsB L (l.take k) = Q at *
      by_cases ht : t = em
      · subst ht
        have HF := Lib.hid (show foundB L s (l.take (k + 1)) = F by rw [hf1]; simp)
        have HS := Lib.hid (show starsB L (l.take (k + 1)) = Q by rw [hs2]; simp)
        clear hf1 hs2 hA5 hsz
        go_wp2_with fail
        exact ⟨⟨k + 1, by go_num, by omega, by rw [HF.out], by rw [HS.out]⟩, by simp [intOf]; omega⟩
      obtain ⟨n1, n2, n3⟩ := ne_em ht
      have hdt : decide (t ≠ em) = true := by simpa using ht
      rw [hdt, Bool.true_and] at hf1 hs2
      cases hac : accB L nm t 0
      · rw [hac] at hf1 hs2 hA5
        have HF := Lib.hid (show foundB L s (l.take (k + 1)) = F by rw [hf1]; simp)
        have HS := Lib.hid (show starsB L (l.take (k + 1)) = Q by rw [hs2]; simp)
        have A6 := Lib.hid hA5
        clear hf1 hs2 hA5 hsz ht hdt hac
        go_wp2_with fail
        refine A6.out.mono ?_; rintro e w4 ⟨rfl, rfl⟩
        go_wp2_with fail
        exact ⟨⟨k + 1, by go_num, by omega, by rw [HF.out], by rw [HS.out]⟩, by simp [intOf]; omega⟩
      · rw [hac, Bool.true_and] at hf1 hs2
        rw [hac] at hA5
        have A6 := Lib.hid hA5
        have A7 := Lib.hid (fun w => contains_any s t w hsl (by omega))
        have A8 := Lib.hid (fun w => contains_any t star w (by omega) (by decide))
        generalize insB s t = c1 at *
        generalize insB t star = c2 at *
        have HF := Lib.hid hf1
        have HS := Lib.hid hs2
        clear hf1 hs2 hA5 hsz ht hdt hac
        cases F <;> cases Q
        · go_wp2_with fail
          refine A6.out.mono ?_; rintro e w4 ⟨rfl, rfl⟩
          go_wp2_with fail
          refine (A7.out _).mono ?_; rintro e w4 ⟨rfl, rfl⟩
          go_wp2_with fail
          refine (A8.out _).mono ?_; rintro e w4 ⟨rfl, rfl⟩
          go_wp2_with fail
          exact ⟨⟨k + 1, by go_num, by omega, by rw [HF.out]; rfl, by rw [HS.out]; rfl⟩, by simp [intOf]; omega⟩
        · go_wp2_with fail
          refine A6.out.mono ?_; rintro e w4 ⟨rfl, rfl⟩
          go_wp2_with fail
          refine (A7.out _).mono ?_; rintro e w4 ⟨rfl, rfl⟩
          go_wp2_with fail
          exact ⟨⟨k + 1, by go_num, by omega, by rw [HF.out]; rfl, by rw [HS.out]; rfl⟩, by simp [intOf]; omega⟩
        · go_wp2_with fail
          refine A6.out.mono ?_; rintro e w4 ⟨rfl, rfl⟩
          go_wp2_with fail
          refine (A8.out _).mono ?_; rintro e w4 ⟨rfl, rfl⟩
          go_wp2_with fail
          exact ⟨⟨k + 1, by go_num, by omega, by rw [HF.out]; rfl, by rw [HS.out]; rfl⟩, by simp [intOf]; omega⟩
        · go_wp2_with fail
          refine A6.out.mono ?_; rintro e w4 ⟨rfl, rfl⟩
          go_wp2_with fail
          exact ⟨⟨k + 1, by go_num, by omega, by rw [HF.out]; rfl, by rw [HS.out]; rfl⟩, by simp [intOf]; omega⟩
    · have ht : l.take k = l := List.take_of_length_le (by rw [HL.out]; omega)
      rw [ht]
      clear ht
      obtain ⟨F, hF⟩ : ∃ F, F = foundB L s l := ⟨_, rfl⟩
      obtain ⟨Q, hQ⟩ : ∃ Q, Q = starsB L l := ⟨_, rfl⟩
      rw [← hF, ← hQ]
      rw [← hF] at Hf
      rw [← hQ] at Hc
      clear hF hQ
      go_wp2_with fail
      go_loop [66] (fun i => ∃ k : Nat, i = .int .i64 k ∧ k ≤ len0) (fun i => len0 - (intOf i).toNat)
      case atStart => exact ⟨0, rfl, Nat.zero_le _⟩
      case round =>
        obtain ⟨j, rfl, hjl⟩ := hrel
        by_cases hjt : j < len0
        · have hj2 : j < l.length := by rw [HL.out]; exact hjt
          obtain ⟨b, off, rfl, -, hcc⟩ := S3.out.2 j hj2
          have hsz := Hsm.out j hj2
          have d1 := hcc 1 (by omega)
          have d2 := hcc 2 (by omega)
          simp only [oCells, List.getElem?_cons_zero, List.getElem?_cons_succ] at d1 d2
          have hA5 := A5.out l[j].name l[j].text
          have hcl := fun h => Hc.out h j hj2
          have hia : isA L l[j] = (decide (l[j].text ≠ em) && accB L l[j].name l[j].text 0) := rfl
          rw [hia] at hcl
          have hk0 : (0 : Int) ≤ (j : Int) := by omega
          have hk1 : (j : Int) < (len0 : Int) := by omega
          clear hia hcc
          generalize l[j].name = nm at *
          generalize l[j].text = t at *
          by_cases ht : t = em
          · subst ht
            clear hcl hA5 hsz
            go_wp2_with fail
            exact ⟨⟨j + 1, by go_num, by omega⟩, by simp [intOf]; omega⟩
          obtain ⟨n1, n2, n3⟩ := ne_em ht
          have hdt : decide (t ≠ em) = true := by simpa using ht
          rw [hdt, Bool.true_and] at hcl
          cases hac : accB L nm t 0
          · rw [hac] at hA5
            have A6 := Lib.hid hA5
            clear hcl hA5 hsz ht hdt hac
            go_wp2_with fail
            refine A6.out.mono ?_; rintro e w4 ⟨rfl, rfl⟩
            go_wp2_with fail
            exact ⟨⟨j + 1, by go_num, by omega⟩, by simp [intOf]; omega⟩
          · rw [hac] at hA5 hcl
            have A6 := Lib.hid hA5
            cases Q
            · have A7 := fun w => contains_any r t w hrl (by omega)
              rw [hcl rfl rfl] at A7
              have A7 := Lib.hid A7
              rename_i A70
              clear A70 hcl hA5 hsz ht hdt hac
              go_wp2_with fail
              refine A6.out.mono ?_; rintro e w4 ⟨rfl, rfl⟩
              go_wp2_with fail
              refine (A7.out _).mono ?_; rintro e w4 ⟨rfl, rfl⟩
              go_wp2_with fail
              exact ⟨⟨j + 1, by go_num, by omega⟩, by simp [intOf]; omega⟩
            · clear hcl hA5 hsz ht hdt hac
              go_wp2_with fail
              refine A6.out.mono ?_; rintro e w4 ⟨rfl, rfl⟩
              go_wp2_with fail
              exact ⟨⟨j + 1, by go_num, by omega⟩, by simp [intOf]; omega⟩
        · cases F
          · have hrs := Hf.out rfl
            subst hrs
            go_wp2_with fail
            refine (awake_any _).mono ?_; rintro e w9 ⟨rfl, hc9⟩
            have C9 := Lib.hid hc9
            clear hc9
            go_wp2_with fail
            go_ret
            exact ⟨rfl, (O3.out.keptN C9.out).below⟩
          · go_wp2_with fail
            refine (awake_any _).mono ?_; rintro e w9 ⟨rfl, hc9⟩
            have C9 := Lib.hid hc9
            clear hc9
            go_wp2_with fail
            go_ret
            exact ⟨rfl, (O3.out.keptN C9.out).below⟩
end Go.Proofs.Ytldilefhmpipkaa
