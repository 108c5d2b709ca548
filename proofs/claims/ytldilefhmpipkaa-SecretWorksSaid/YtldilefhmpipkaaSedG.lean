/- Chapter 22: contracts: specified; the two vaults side by side. No condition. -/
import Derived.Test.YtldilefhmpipkaaSedF
namespace Go.Proofs.Ytldilefhmpipkaa
set_option linter.unusedVariables false
set_option linter.unusedSimpArgs false
open Go.RowKit

theorem RVPost.ahead {w0 w w' : World} {rb : Nat} {sv : Value} {l : List RSec} {v : Value} {L' : List R0} {e : Ending} (h : RVPost w rb sv l v L' e w') (hc : Chg [] w0 w) : RVPost w0 rb sv l v L' e w' := by
  obtain ⟨h1, sv', l', h2, h3, h4, h5⟩ := h
  exact ⟨h1, sv', l', h2, h3, (hc.mono (T := rb :: sv.ownBlock.toList) (by simp)).thenSame h4, fun b hb => (h5 b hb).imp id (fun h => Nat.le_trans hc.size h)⟩

set_option maxHeartbeats 4000000 in
set_option maxRecDepth 100000 in
theorem rdone_any (rb : Nat) (sv : Value) (l : List RSec) (x : OpD) (w : World) (h : RVIs w rb sv l) (hk : l.length ≤ 4096 ∧ (∀ x ∈ l, x.s.bound.length ≤ 4096) ∧ ∀ x ∈ l, 0 ≤ x.s.ver ∧ x.s.ver ≤ 32) (hx : x.good) :
    Calls Try.prog 13 #[.pointer (some ⟨rb, 0, none⟩), .agg #[.int .i64 x.kind, .string x.name, .string x.text, .string x.fn, .int .i64 x.grace, .int .i64 x.now]] w (RVPost w rb sv l (.tuple #[.int .i64 (rstepR (l.map RSec.s) x).1, .int .i64 (rstepR (l.map RSec.s) x).2]) (rstepS (l.map RSec.s) x)) := by
  obtain ⟨kd, nm, tx, fn, gr, nw⟩ := x
  simp only [] at *
  obtain ⟨s1, s2, s3⟩ := hk
  obtain ⟨_, g1, g2, g3, _⟩ := hx
  have hc0 : Chg [] w (w.alloc (.cells #[.int .i64 kd, .string nm, .string tx, .string fn, .int .i64 gr, .int .i64 nw] 33)) := (Chg.refl _ _).alloc _
  have C0 := Lib.hid hc0
  have H0 := Lib.hid (h.keptN hc0)
  have A1 := Lib.hid (rput_any rb sv l nm tx _ H0.out g1 g2 s1)
  have A2 := Lib.hid (rbind_any rb sv l nm fn _ H0.out g3 s1 s2)
  have A3 := Lib.hid (runbind_any rb sv l nm fn _ H0.out s1 s2)
  have A4 := Lib.hid (rrot_any rb sv l nm tx gr nw _ H0.out g2 s1 s3)
  obtain ⟨R, hR⟩ : ∃ R, R = rstepR (l.map RSec.s) ⟨kd, nm, tx, fn, gr, nw⟩ := ⟨_, rfl⟩
  obtain ⟨L', hL⟩ : ∃ L', L' = rstepS (l.map RSec.s) ⟨kd, nm, tx, fn, gr, nw⟩ := ⟨_, rfl⟩
  rw [← hR, ← hL]
  unfold rstepR at hR
  unfold rstepS at hL
  simp only [] at hR hL
  clear s1 s2 s3 g1 g2 g3 hc0
  by_cases k0 : kd = 0
  · rw [if_pos k0] at hR hL
    subst k0
    have HR := Lib.hid hR
    have HL := Lib.hid hL
    clear hR hL A2 A3 A4
    go_enter Try.func13, Try.ntmps13
    go_wp2_with fail
    refine A1.out.mono ?_; rintro e w1 hp
    have HP := Lib.hid (hp.ahead C0.out)
    obtain ⟨rfl, _⟩ := hp
    go_wp2_with fail
    go_ret2
    rw [HR.out, HL.out]
    exact ⟨rfl, HP.out.2⟩
  rw [if_neg k0] at hR hL
  have b0 : (kd == 0) = false := by simpa using k0
  by_cases k1 : kd = 1
  · rw [if_pos k1] at hR hL
    subst k1
    have HR := Lib.hid hR
    have HL := Lib.hid hL
    clear hR hL A1 A3 A4
    go_enter Try.func13, Try.ntmps13
    go_wp2_with fail
    refine A2.out.mono ?_; rintro e w1 hp
    have HP := Lib.hid (hp.ahead C0.out)
    obtain ⟨rfl, _⟩ := hp
    go_wp2_with fail
    go_ret2
    rw [HR.out, HL.out]
    exact ⟨rfl, HP.out.2⟩
  rw [if_neg k1] at hR hL
  have b1 : (kd == 1) = false := by simpa using k1
  by_cases k2 : kd = 2
  · rw [if_pos k2] at hR hL
    subst k2
    have HR := Lib.hid hR
    have HL := Lib.hid hL
    clear hR hL A1 A2 A4
    go_enter Try.func13, Try.ntmps13
    go_wp2_with fail
    refine A3.out.mono ?_; rintro e w1 hp
    have HP := Lib.hid (hp.ahead C0.out)
    obtain ⟨rfl, _⟩ := hp
    go_wp2_with fail
    go_ret2
    rw [HR.out, HL.out]
    exact ⟨rfl, HP.out.2⟩
  rw [if_neg k2] at hR hL
  have b2 : (kd == 2) = false := by simpa using k2
  by_cases k3 : kd = 3
  · rw [if_pos k3] at hR hL
    subst k3
    rw [← hR] at A4
    have HL := Lib.hid hL
    obtain ⟨r1, r2⟩ := R
    clear hR hL A1 A2 A3
    go_enter Try.func13, Try.ntmps13
    go_wp2_with fail
    refine A4.out.mono ?_; rintro e w1 hp
    have HP := Lib.hid (hp.ahead C0.out)
    obtain ⟨rfl, _⟩ := hp
    go_wp2_with fail
    go_ret2
    rw [HL.out]
    exact ⟨rfl, HP.out.2⟩
  rw [if_neg k3] at hR hL
  have b3 : (kd == 3) = false := by simpa using k3
  subst hR hL
  clear A1 A2 A3 A4 k0 k1 k2 k3
  go_enter Try.func13, Try.ntmps13
  go_wp2_with fail
  go_ret2
  exact RVPost.same rfl h C0.out

/-- The program's vault and the reference's, both of the call's own; W the world when the call began. -/
def Two (W w : World) (vb : Nat) (L : List S0) (rb : Nat) (M : List R0) : Prop :=
  ∃ mb l sv k, l.map Sec.s = L ∧ k.map RSec.s = M ∧ VIs w vb mb l ∧ RVIs w rb sv k ∧ (∀ b ∈ fp vb mb l, W.heap.size ≤ b) ∧ (∀ b ∈ rfp rb sv k, W.heap.size ≤ b) ∧ (∀ b ∈ fp vb mb l, b ∉ rfp rb sv k) ∧ Chg [] W w
variable {W w : World} {vb rb : Nat} {L : List S0} {M : List R0}
theorem Two.chg (h : Two W w vb L rb M) : Chg [] W w := by
  obtain ⟨mb, l, sv, k, h1, h2, h3, h4, h5, h6, h7, h8⟩ := h; exact h8
theorem Two.below (h : Two W w vb L rb M) : Below W.heap.size W w := h.chg.toBelow (Nat.le_refl _) (by simp)
theorem Two.keptN {w' : World} (h : Two W w vb L rb M) (hc : Chg [] w w') : Two W w' vb L rb M := by
  obtain ⟨mb, l, sv, k, h1, h2, h3, h4, h5, h6, h7, h8⟩ := h
  exact ⟨mb, l, sv, k, h1, h2, h3.keptN hc, h4.keptN hc, h5, h6, h7, h8.thenSame hc⟩
theorem Two.own (h : Two W w vb L rb M) : OwnC W w vb L := by
  obtain ⟨mb, l, sv, k, h1, h2, h3, h4, h5, h6, h7, h8⟩ := h
  exact ⟨⟨mb, l, h1, h3, h5⟩, h8⟩
theorem two_start (h : OwnC W w vb L) : Calls Try.prog 12 #[] w fun e w' => ∃ rb, e = .returned (.pointer (some ⟨rb, 0, none⟩)) ∧ Two W w' vb L rb [] := by
  obtain ⟨⟨mb, l, h1, h2, h3⟩, h4⟩ := h
  refine (rnew_any w).mono ?_
  rintro e w' ⟨rb, rfl, hv, hrb, hc⟩
  refine ⟨rb, rfl, mb, l, _, [], h1, rfl, h2.keptN hc, hv, h3, ?_, ?_, h4.thenSame hc⟩
  · intro b hb
    simp [rfp, Value.ownBlock] at hb
    have := h4.size; omega
  · intro b hb hb2
    simp [rfp, Value.ownBlock] at hb2
    have := h2.lt b hb; omega
theorem two_done (h : Two W w vb L rb M) (hk : SOk L) (x : OpD) (hx : x.good) : Calls Try.prog 21 #[.pointer (some ⟨vb, 0, none⟩), .agg #[.int .i64 x.kind, .string x.name, .string x.text, .string x.fn, .int .i64 x.grace, .int .i64 x.now]] w fun e w' => e = .returned (.tuple #[.int .i64 (stepR L x).1, .int .i64 (stepR L x).2]) ∧ Two W w' vb (stepS L x) rb M := by
  obtain ⟨mb, l, sv, k, rfl, h2, h3, h4, h5, h6, h7, h8⟩ := h
  refine (done_any vb mb l x w h3 hk hx).mono ?_
  rintro e w' ⟨he, l', q1, q2, q3, q4⟩
  have hfp : ∀ b ∈ fp vb mb l', b ∈ fp vb mb l ∨ w.heap.size ≤ b := by
    intro b hb
    simp only [fp, List.mem_cons] at hb ⊢
    rcases hb with h | h | h
    · exact .inl (.inl h)
    · exact .inl (.inr (.inl h))
    · exact (q4 b h).imp (fun h => .inr (.inr h)) id
  refine ⟨he, mb, l', sv, k, q1, h2, q2, h4.kept q3 (fun b hb hb2 => h7 b hb2 hb), ?_, h6, ?_, h8.then q3 (fun y hy hl => by have := h5 y hy; omega)⟩
  · intro b hb
    rcases hfp b hb with h | h
    · exact h5 b h
    · exact Nat.le_trans h8.size h
  · intro b hb hb2
    rcases hfp b hb with h | h
    · exact h7 b h hb2
    · have := h4.lt b hb2; omega
theorem two_spec (h : Two W w vb L rb M) (hs : ∃ L, Sim L M) (x : OpD) (hx : x.good) : Calls Try.prog 13 #[.pointer (some ⟨rb, 0, none⟩), .agg #[.int .i64 x.kind, .string x.name, .string x.text, .string x.fn, .int .i64 x.grace, .int .i64 x.now]] w fun e w' => e = .returned (.tuple #[.int .i64 (rstepR M x).1, .int .i64 (rstepR M x).2]) ∧ Two W w' vb L rb (rstepS M x) := by
  obtain ⟨mb, l, sv, k, h1, rfl, h3, h4, h5, h6, h7, h8⟩ := h
  obtain ⟨L', hs⟩ := hs
  refine (rdone_any rb sv k x w h4 hs.secs hx).mono ?_
  rintro e w' ⟨he, sv', k', q1, q2, q3, q4⟩
  have hin : ∀ b ∈ rb :: sv.ownBlock.toList, b ∈ rfp rb sv k := by
    intro b hb
    rcases List.mem_cons.1 hb with rfl | hb
    · exact mem_rfp.2 (.inl rfl)
    · exact mem_rfp.2 (.inr (.inl (by simpa using hb)))
  refine ⟨he, mb, l, sv', k', h1, q1, h3.kept q3 (fun b hb hb2 => h7 b hb (hin b hb2)), q2, h5, ?_, ?_, h8.then q3 (fun y hy hl => by have := h6 y (hin y hy); omega)⟩
  · intro b hb
    rcases q4 b hb with h | h
    · exact h6 b h
    · exact Nat.le_trans h8.size h
  · intro b hb hb2
    rcases q4 b hb2 with h | h
    · exact h7 b hb h
    · have := h3.lt b hb; omega
theorem two_redact (h : Two W w vb L rb M) (s : ByteArray) (hs : s.size ≤ 4096) : Calls Try.prog 14 #[.pointer (some ⟨vb, 0, none⟩), .string s] w fun e w' => e = .returned (.string (redS L s)) ∧ Two W w' vb L rb M := by
  have H := h
  obtain ⟨mb, l, sv, k, rfl, rfl, h3, h4, h5, h6, h7, h8⟩ := h
  refine (redact_any vb mb l s w h3 hs).mono ?_
  rintro e w' ⟨rfl, hc⟩
  exact ⟨rfl, H.keptN hc⟩
theorem two_rredact (h : Two W w vb L rb M) (hsm : ∃ L, Sim L M) (s : ByteArray) (hs : s.size ≤ 4096) : Calls Try.prog 15 #[.pointer (some ⟨rb, 0, none⟩), .string s] w fun e w' => e = .returned (.string (rredS M s)) ∧ Two W w' vb L rb M := by
  have H := h
  obtain ⟨mb, l, sv, k, rfl, rfl, h3, h4, h5, h6, h7, h8⟩ := h
  obtain ⟨L', hsm⟩ := hsm
  refine (rredact_any rb sv k s w h4 hsm.secs.1 hs).mono ?_
  rintro e w' ⟨rfl, hc⟩
  exact ⟨rfl, H.keptN hc⟩
end Go.Proofs.Ytldilefhmpipkaa
