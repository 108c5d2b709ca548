/- Chapter 22: SecretRotates: after a rotation the last two texts are accepted, the earlier one for its grace. No condition. -/
import Derived.Test.YtldilefhmpipkaaSecI
namespace Go.Proofs.Ytldilefhmpipkaa
set_option linter.unusedVariables false
set_option linter.unusedSimpArgs false
open Go.RowKit

theorem oLen (x : OpD) : (oCells x).length = 6 := rfl
def l3 (name old first second : ByteArray) : List OpD := [⟨0, name, old, em, 0, 0⟩, ⟨0, em, first, em, 0, 0⟩, ⟨0, em, second, em, 0, 0⟩]

set_option maxHeartbeats 16000000 in
set_option maxRecDepth 100000 in
theorem rotates_walk (a0 : Option Addr) (len0 cap0 : Nat) (l : List OpD) (name old first second : ByteArray) (grace now : Int) (w : World) (h0 : SlIs oCells 6 w a0 len0 l ∧ (∀ x ∈ l, x.good) ∧ len0 ≤ maxLen ∧ len0 ≤ cap0) (h1 : name.size ≤ maxLen) (h2 : old.size ≤ maxLen) (h3 : first.size ≤ maxLen) (h4 : second.size ≤ maxLen) (_g1 : (Lit.int .i64 grace).wf = true) (_g2 : (Lit.int .i64 now).wf = true) :
    Calls Try.prog 5 #[.slice a0 len0 cap0, .string name, .string old, .string first, .string second, .int .i64 grace, .int .i64 now] w fun e w' => e = .returned (.bool true) ∧ Below w.heap.size w w' := by
  obtain ⟨s0, g0, m0, _⟩ := h0
  have hA1 := smallF_any a0 len0 cap0 l w s0 g0 m0
  have S0' := Lib.hid s0
  have G0 := Lib.hid g0
  clear s0
  by_cases b1 : smallL l = true
  case neg =>
    rw [show smallL l = false by simpa using b1] at hA1
    have A1 := Lib.hid hA1
    clear b1 hA1 h1 h2 h3 h4 g0 m0
    go_enter Try.func5, Try.ntmps5
    go_wp2_with fail
    refine A1.out.mono ?_; rintro e w1 ⟨rfl, rfl⟩
    go_wp2_with fail
    refine (awake_any _).mono ?_; rintro e w9 ⟨rfl, hc9⟩
    have C9 := Lib.hid hc9
    clear hc9
    go_wp2_with fail
    go_ret
    exact ⟨rfl, C9.out.toBelow (Nat.le_refl _) (by simp)⟩
  rw [b1] at hA1
  have A1 := Lib.hid hA1
  obtain ⟨o, ho⟩ : ∃ o, o = (Obj.cells #[.int .i64 0, .string name, .string old, .string ⟨#[]⟩, .int .i64 0, .int .i64 0, .int .i64 0, .string ⟨#[]⟩, .string first, .string ⟨#[]⟩, .int .i64 0, .int .i64 0, .int .i64 0, .string ⟨#[]⟩, .string second, .string ⟨#[]⟩, .int .i64 0, .int .i64 0] 33) := ⟨_, rfl⟩
  have hb3 := heap_alloc_new w o
  have hs3 : SlIs oCells 6 (w.alloc o) (some ⟨w.heap.size, 0, none⟩) 3 (l3 name old first second) := by
    rw [ho] at hb3 ⊢
    exact SlIs.ofBlock (cf := oCells) (l3 name old first second) hb3 oLen rfl
  have hg3 : ∀ x ∈ l3 name old first second, x.good := by
    intro x hx
    simp only [l3, List.mem_cons, List.not_mem_nil, or_false] at hx
    rcases hx with rfl | rfl | rfl
    · exact ⟨rfl, h1, h2, Nat.zero_le _, rfl, rfl⟩
    · exact ⟨rfl, Nat.zero_le _, h3, Nat.zero_le _, rfl, rfl⟩
    · exact ⟨rfl, Nat.zero_le _, h4, Nat.zero_le _, rfl, rfl⟩
  have hA2 := smallF_any (some ⟨w.heap.size, 0, none⟩) 3 3 _ (w.alloc o) hs3 hg3 (by decide)
  have C1 := Lib.hid (show Chg [] w (w.alloc o) from (Chg.refl _ _).alloc _)
  clear hb3 hs3 hg3 b1 hA1
  by_cases b2 : smallL (l3 name old first second) = true
  case neg =>
    rw [show smallL (l3 name old first second) = false by simpa using b2] at hA2
    have A2 := Lib.hid hA2
    clear b2 hA2 h1 h2 h3 h4 g0 m0
    go_enter Try.func5, Try.ntmps5
    go_wp2_with fail
    refine A1.out.mono ?_; rintro e w1 ⟨rfl, rfl⟩
    go_wp2_with fail
    rw [← ho]
    refine A2.out.mono ?_; rintro e w2 ⟨rfl, rfl⟩
    go_wp2_with fail
    refine (awake_any _).mono ?_; rintro e w9 ⟨rfl, hc9⟩
    have C9 := Lib.hid hc9
    clear hc9
    go_wp2_with fail
    go_ret
    exact ⟨rfl, (((Chg.refl [] w).alloc _).thenSame C9.out).toBelow (Nat.le_refl _) (by simp)⟩
  rw [b2] at hA2
  have A2 := Lib.hid hA2
  have Ho := Lib.hid ho
  have A3 := Lib.hid (oplayed (W := w) (S0'.out.kept C1.out) g0 m0 C1.out (cap := cap0))
  have hok := play_ok l
  generalize playS l = L0 at A3 hok
  have K0 := Lib.hid hok
  have N1 := Lib.hid h1
  have N2 := Lib.hid h2
  have N3 := Lib.hid h3
  have N4 := Lib.hid h4
  obtain ⟨E, hE⟩ : ∃ E, E = putE L0 name old := ⟨_, rfl⟩
  clear b2 hA2 h1 h2 h3 h4 g0 m0 hok ho
  by_cases e1 : E = 0
  case neg =>
    have HE := Lib.hid hE
    have hEb : (E != 0) = true := by simpa using e1
    clear e1 hE
    go_enter Try.func5, Try.ntmps5
    go_wp2_with fail
    refine A1.out.mono ?_; rintro e w1 ⟨rfl, rfl⟩
    go_wp2_with fail
    rw [← Ho.out]
    refine A2.out.mono ?_; rintro e w2 ⟨rfl, rfl⟩
    go_wp2_with fail
    refine A3.out.mono ?_; rintro e w3 ⟨vb, rfl, ho3⟩
    have A4 := oput ho3 K0.out name old N1.out N2.out
    rw [← HE.out] at A4
    have A4 := Lib.hid A4
    rename_i A40
    clear A40 ho3
    go_wp2_with fail
    refine A4.out.mono ?_; rintro e w4 ⟨rfl, ho4⟩
    have O4 := Lib.hid ho4
    clear ho4
    go_wp2_with fail
    refine (awake_any _).mono ?_; rintro e w9 ⟨rfl, hc9⟩
    have C9 := Lib.hid hc9
    clear hc9
    go_wp2_with fail
    go_ret
    exact ⟨rfl, (O4.out.keptN C9.out).below⟩
  subst e1
  obtain ⟨L1, hL1⟩ : ∃ L1, L1 = putS L0 name old := ⟨_, rfl⟩
  have K1 : Hid (SOk L1) := Lib.hid (by rw [hL1]; exact K0.out.put _ _)
  have hk1 : look L1 name = some (newS0 name old) := by rw [hL1]; exact put_look hE.symm
  have HE := Lib.hid hE
  have HL1 := Lib.hid hL1
  obtain ⟨⟨r1, e1⟩, hR1⟩ : ∃ R, R = rotE L1 name first grace now := ⟨_, rfl⟩
  by_cases z1 : e1 = 0
  case neg =>
    have hr := rot_err (L := L1) (name := name) (text := first) (g := grace) (n := now) (by rw [← hR1]; exact z1)
    rw [← hR1] at hr
    obtain ⟨hr1, hr2⟩ := hr
    simp only at hr1
    subst hr1
    have hac : accB L1 name old now = true := by rw [acc_at hk1]; simp [newS0]
    have HR1 := Lib.hid hR1
    have HR2 := Lib.hid hr2
    have HA := Lib.hid hac
    have hEb : (e1 != 0) = true := by simpa using z1
    clear z1 hR1 hr2 hac hE hL1 hk1
    go_enter Try.func5, Try.ntmps5
    go_wp2_with fail
    refine A1.out.mono ?_; rintro e w1 ⟨rfl, rfl⟩
    go_wp2_with fail
    rw [← Ho.out]
    refine A2.out.mono ?_; rintro e w2 ⟨rfl, rfl⟩
    go_wp2_with fail
    refine A3.out.mono ?_; rintro e w3 ⟨vb, rfl, ho3⟩
    have A4 := oput ho3 K0.out name old N1.out N2.out
    rw [← HE.out, ← HL1.out] at A4
    have A4 := Lib.hid A4
    rename_i A40
    clear A40 ho3
    go_wp2_with fail
    refine A4.out.mono ?_; rintro e w4 ⟨rfl, ho4⟩
    have A5 := orot ho4 K1.out name first grace now N3.out
    rw [← HR1.out, HR2.out] at A5
    have A5 := Lib.hid A5
    rename_i A50
    clear A50 ho4
    go_wp2_with fail
    refine A5.out.mono ?_; rintro e w5 ⟨rfl, ho5⟩
    have A6 := oacc ho5 name old now
    rw [HA.out] at A6
    have A6 := Lib.hid A6
    have O5 := Lib.hid ho5
    rename_i A60
    clear A60 ho5
    go_wp2_with fail
    refine A6.out.mono ?_; rintro e w6 ⟨rfl, rfl⟩
    go_wp2_with fail
    refine (awake_any _).mono ?_; rintro e w9 ⟨rfl, hc9⟩
    have C9 := Lib.hid hc9
    clear hc9
    go_wp2_with fail
    go_ret
    exact ⟨rfl, (O5.out.keptN C9.out).below⟩
  subst z1
  obtain ⟨L2, hL2⟩ : ∃ L2, L2 = rotS L1 name first grace now := ⟨_, rfl⟩
  have K2 : Hid (SOk L2) := Lib.hid (by rw [hL2]; exact K1.out.rot _ _ _ _)
  obtain ⟨x, hx, hk2, q1, q2, q3, q4, q5⟩ := rot_look K1.out (name := name) (text := first) (g := grace) (n := now) (by rw [← hR1])
  rw [← hL2] at hk2
  rw [hk1] at hx
  cases hx
  rw [← hR1] at q5
  have hr1 : r1 = 2 := (Prod.mk.inj q5).1
  subst hr1
  have a1 : accB L2 name first now = true := by rw [acc_at hk2]; simp [rotF]
  have a2 : accB L2 name old (now + grace) = true := by rw [acc_at hk2]; simp [rotF, newS0]
  have a3 : accB L2 name old (now + grace + 1) = (old == first) := by
    rw [acc_at hk2]
    show (old == first || (decide ((1 : Int) < 1 + 1) && old == old && decide (now + grace + 1 ≤ now + grace))) = (old == first)
    rw [show decide (now + grace + 1 ≤ now + grace) = false by simp; omega]
    simp
  have HR1 := Lib.hid hR1
  have HL2 := Lib.hid hL2
  have B1 := Lib.hid a1
  have B2 := Lib.hid a2
  have B3 := Lib.hid a3
  obtain ⟨⟨r2, e2⟩, hR2⟩ : ∃ R, R = rotE L2 name second grace now := ⟨_, rfl⟩
  clear q5 a1 a2 a3 hR1 hL2 hL1 hE hk1
  by_cases z2 : e2 = 0
  case neg =>
    have hr := rot_err (L := L2) (name := name) (text := second) (g := grace) (n := now) (by rw [← hR2]; exact z2)
    rw [← hR2] at hr
    obtain ⟨hr1, hr2⟩ := hr
    simp only at hr1
    subst hr1
    have HR2 := Lib.hid hR2
    have HR3 := Lib.hid hr2
    have hEb : (e2 != 0) = true := by simpa using z2
    clear z2 hR2 hr2 hk2
    have hcs : old = first ∨ ((old.toList == first.toList) = false ∧ (old == first) = false) := by
      by_cases h : old = first
      · exact .inl h
      · exact .inr ⟨bne_bytes h, by simpa using h⟩
    rcases hcs with rfl | ⟨c1, c2⟩
    case' inl => have B3' := Lib.hid (show accB L2 name old (now + grace + 1) = true by rw [B3.out]; simp)
    case' inr => have B3' := Lib.hid (show accB L2 name old (now + grace + 1) = false by rw [B3.out, c2])
    case' inr => clear c2
    all_goals
      go_enter Try.func5, Try.ntmps5
      go_wp2_with fail
      refine A1.out.mono ?_; rintro e w1 ⟨rfl, rfl⟩
      go_wp2_with fail
      rw [← Ho.out]
      refine A2.out.mono ?_; rintro e w2 ⟨rfl, rfl⟩
      go_wp2_with fail
      refine A3.out.mono ?_; rintro e w3 ⟨vb, rfl, ho3⟩
      have A4 := oput ho3 K0.out name _ N1.out N2.out
      rw [← HE.out, ← HL1.out] at A4
      have A4 := Lib.hid A4
      rename_i A40
      clear A40 ho3
      go_wp2_with fail
      refine A4.out.mono ?_; rintro e w4 ⟨rfl, ho4⟩
      have A5 := orot ho4 K1.out name _ grace now N3.out
      rw [← HR1.out, ← HL2.out] at A5
      have A5 := Lib.hid A5
      rename_i A50
      clear A50 ho4
      go_wp2_with fail
      refine A5.out.mono ?_; rintro e w5 ⟨rfl, ho5⟩
      have A6 := Lib.hid (fun t n => oacc ho5 name t n)
      have A7 := orot ho5 K2.out name second grace now N4.out
      rw [← HR2.out, HR3.out] at A7
      have A7 := Lib.hid A7
      rename_i A70
      clear A70 ho5
      go_wp2_with fail
      refine (B1.out ▸ A6.out _ now).mono ?_; rintro e w6 ⟨rfl, rfl⟩
      go_wp2_with fail
      refine (B2.out ▸ A6.out _ (now + grace)).mono ?_; rintro e w6 ⟨rfl, rfl⟩
      go_wp2_with fail
      refine (B3'.out ▸ A6.out _ (now + grace + 1)).mono ?_; rintro e w6 ⟨rfl, rfl⟩
      go_wp2_with fail
      refine A7.out.mono ?_; rintro e w7 ⟨rfl, ho7⟩
      have A8 := Lib.hid (fun t n => oacc ho7 name t n)
      have O7 := Lib.hid ho7
      clear ho7
      go_wp2_with fail
      refine (B1.out ▸ A8.out _ now).mono ?_; rintro e w8 ⟨rfl, rfl⟩
      go_wp2_with fail
      refine (awake_any _).mono ?_; rintro e w9 ⟨rfl, hc9⟩
      have C9 := Lib.hid hc9
      clear hc9
      go_wp2_with fail
      go_ret
      exact ⟨rfl, (O7.out.keptN C9.out).below⟩
  subst z2
  obtain ⟨L3, hL3⟩ : ∃ L3, L3 = rotS L2 name second grace now := ⟨_, rfl⟩
  obtain ⟨x, hx, hk3, -, -, -, -, q5⟩ := rot_look K2.out (name := name) (text := second) (g := grace) (n := now) (by rw [← hR2])
  rw [← hL3] at hk3
  rw [hk2] at hx
  cases hx
  rw [← hR2] at q5
  have hr1 : r2 = 3 := (Prod.mk.inj q5).1
  subst hr1
  have a1 : accB L3 name second now = true := by rw [acc_at hk3]; simp [rotF]
  have a2 : accB L3 name first now = true := by
    rw [acc_at hk3]
    show (first == second || (decide ((1 : Int) < 1 + 1 + 1) && first == first && decide (now ≤ now + grace))) = true
    rw [show decide (now ≤ now + grace) = true by simp; omega]
    simp
  have a3 : accB L3 name old now = (old == second || old == first) := by
    rw [acc_at hk3]
    show (old == second || (decide ((1 : Int) < 1 + 1 + 1) && old == first && decide (now ≤ now + grace))) = (old == second || old == first)
    rw [show decide (now ≤ now + grace) = true by simp; omega]
    simp
  have HR2 := Lib.hid hR2
  have HL3 := Lib.hid hL3
  have D1 := Lib.hid a1
  have D2 := Lib.hid a2
  have hcs : (old = first ∧ accB L2 name old (now + grace + 1) = true ∧ accB L3 name old now = true) ∨ ((old.toList == first.toList) = false ∧ old = second ∧ accB L2 name old (now + grace + 1) = false ∧ accB L3 name old now = true) ∨ ((old.toList == first.toList) = false ∧ (old.toList == second.toList) = false ∧ accB L2 name old (now + grace + 1) = false ∧ accB L3 name old now = false) := by
    rw [B3.out, a3]
    by_cases h : old = first
    · exact .inl ⟨h, by simpa using h, by simp [h]⟩
    · by_cases h' : old = second
      · exact .inr (.inl ⟨bne_bytes h, h', by simpa using h, by simp [h']⟩)
      · exact .inr (.inr ⟨bne_bytes h, bne_bytes h', by simpa using h, by simp [h, h']⟩)
  clear q5 a1 a2 a3 hR2 hL3 hk2 hk3 B3
  rcases hcs with ⟨rfl, c3, c4⟩ | ⟨c1, rfl, c3, c4⟩ | ⟨c1, c2, c3, c4⟩
  all_goals
    have F3 := Lib.hid c3
    have F4 := Lib.hid c4
    clear c3 c4
    go_enter Try.func5, Try.ntmps5
    go_wp2_with fail
    refine A1.out.mono ?_; rintro e w1 ⟨rfl, rfl⟩
    go_wp2_with fail
    rw [← Ho.out]
    refine A2.out.mono ?_; rintro e w2 ⟨rfl, rfl⟩
    go_wp2_with fail
    refine A3.out.mono ?_; rintro e w3 ⟨vb, rfl, ho3⟩
    have A4 := oput ho3 K0.out name _ N1.out N2.out
    rw [← HE.out, ← HL1.out] at A4
    have A4 := Lib.hid A4
    rename_i A40
    clear A40 ho3
    go_wp2_with fail
    refine A4.out.mono ?_; rintro e w4 ⟨rfl, ho4⟩
    have A5 := orot ho4 K1.out name _ grace now N3.out
    rw [← HR1.out, ← HL2.out] at A5
    have A5 := Lib.hid A5
    rename_i A50
    clear A50 ho4
    go_wp2_with fail
    refine A5.out.mono ?_; rintro e w5 ⟨rfl, ho5⟩
    have A6 := Lib.hid (fun t n => oacc ho5 name t n)
    have A7 := orot ho5 K2.out name _ grace now N4.out
    rw [← HR2.out, ← HL3.out] at A7
    have A7 := Lib.hid A7
    rename_i A70
    clear A70 ho5
    go_wp2_with fail
    refine (B1.out ▸ A6.out _ now).mono ?_; rintro e w6 ⟨rfl, rfl⟩
    go_wp2_with fail
    refine (B2.out ▸ A6.out _ (now + grace)).mono ?_; rintro e w6 ⟨rfl, rfl⟩
    go_wp2_with fail
    refine (F3.out ▸ A6.out _ (now + grace + 1)).mono ?_; rintro e w6 ⟨rfl, rfl⟩
    go_wp2_with fail
    refine A7.out.mono ?_; rintro e w7 ⟨rfl, ho7⟩
    have A8 := Lib.hid (fun t n => oacc ho7 name t n)
    have O7 := Lib.hid ho7
    clear ho7
    go_wp2_with fail
    refine (D1.out ▸ A8.out _ now).mono ?_; rintro e w8 ⟨rfl, rfl⟩
    go_wp2_with fail
    refine (D2.out ▸ A8.out _ now).mono ?_; rintro e w8 ⟨rfl, rfl⟩
    go_wp2_with fail
    refine (F4.out ▸ A8.out _ now).mono ?_; rintro e w8 ⟨rfl, rfl⟩
    go_wp2_with fail
    refine (awake_any _).mono ?_; rintro e w9 ⟨rfl, hc9⟩
    have C9 := Lib.hid hc9
    clear hc9
    go_wp2_with fail
    go_ret
    exact ⟨rfl, (O7.out.keptN C9.out).below⟩
end Go.Proofs.Ytldilefhmpipkaa
