/- Chapter 43: PlaceFits: a placement is put on a worker with room, and nothing else changes. No condition. -/
import Derived.Test.YtjbnfaapkicejaaPldF
import Derived.Test.YtjbnfaapkicejaaPldG
namespace Go.Proofs.Ytjbnfaapkicejaa
set_option linter.unusedVariables false
set_option linter.unusedSimpArgs false
open Go.RowKit
theorem add_no {ws : List Wk} {l : List Pl} {q : Pl} (h : (addP ws l q).2 ≠ 0) : (addP ws l q).1 = [] := by
  unfold addP at h ⊢
  split
  · rename_i h1
    rw [if_pos h1] at h
    split
    · rfl
    · rename_i h2; rw [if_neg h2] at h; exact absurd rfl h
  · rfl
theorem add_ok {ws : List Wk} {l : List Pl} {q : Pl} (h : (addP ws l q).2 = 0) : Valid ws l ∧ freshE l q = 0 ∧ l.length < 256 ∧ ∃ m, ∃ (hm : m < ws.length), (addP ws l q).1 = l ++ [withW q ws[m].name] ∧ possB ws[m] l q = true := by
  unfold addP at h ⊢
  by_cases h1 : (choosePX ws l q).2 = 0
  · rw [if_pos h1] at h ⊢
    by_cases h2 : 256 ≤ l.length
    · rw [if_pos h2] at h; exact absurd h (by decide)
    · rw [if_neg h2]
      obtain ⟨v1, v2, v3, v4⟩ := choosex_ok h1
      obtain ⟨m, hm, v5, v6, -⟩ := choose_ok v3
      exact ⟨v1, v2, by omega, m, hm, by rw [v4, v5], v6⟩
  · rw [if_neg h1] at h; exact absurd h h1
theorem rem_last {l : List Pl} {p : Pl} (h : ∀ x ∈ l, x.id ≠ p.id) : remP (l ++ [p]) p.id = (l, 0) := by
  have hk : l.length < (l ++ [p]).length := by rw [List.length_append]; simp
  have hi : pIdx (l ++ [p]) p.id = (l.length : Int) := by
    refine idx_hit hk ?_ (by simp)
    rw [List.take_left]
    exact List.any_eq_false.2 (fun x hx => by simpa using h x hx)
  unfold remP
  rw [hi, if_neg (by omega), Int.toNat_natCast, List.take_left, List.drop_of_length_le (by rw [List.length_append]; simp), List.append_nil]
set_option maxHeartbeats 16000000 in
set_option maxRecDepth 100000 in
theorem fits_walk (a0 : Option Addr) (len0 cap0 : Nat) (l0 : List Wk) (a1 : Option Addr) (len1 cap1 : Nat) (l1 : List Pl) (q : Pl) (w : World)
    (h0 : SlIs wkC 3 w a0 len0 l0 ∧ (∀ x ∈ l0, x.good) ∧ len0 ≤ maxLen ∧ len0 ≤ cap0 ∧ (a0 = none → cap0 = 0) ∧ cap0 ≤ maxLen)
    (h1 : SlIs plC 4 w a1 len1 l1 ∧ (∀ x ∈ l1, x.good) ∧ len1 ≤ maxLen ∧ len1 ≤ cap1 ∧ (a1 = none → cap1 = 0) ∧ cap1 ≤ maxLen) (h2 : q.good) :
    Calls Try.prog 7 #[.slice a0 len0 cap0, .slice a1 len1 cap1, .agg (plC q).toArray] w fun e w' => e = .returned (.bool true) ∧ Below w.heap.size w w' := by
  rw [plV_eq]
  obtain ⟨s0, g0, m0, c0, n0, k0⟩ := h0
  obtain ⟨s1, g1, m1, c1, n1, k1⟩ := h1
  obtain rfl := s0.1
  obtain rfl := s1.1
  obtain ⟨W1, hW1⟩ : ∃ W1, W1 = w.alloc (plO q) := ⟨_, rfl⟩
  have C1 := Lib.hid (show Chg [] w W1 by rw [hW1]; exact (Chg.refl _ _).alloc _)
  have X1 := Lib.hid (show W1.heap[w.heap.size]? = some (plO q) by rw [hW1]; exact heap_alloc_new _ _)
  have I1 := Lib.hid (show InIs plC 4 w a1 cap1 l1 from ⟨s1, c1, k1, n1⟩)
  have A0 := Lib.hid (smallF_any a0 cap0 l0 a1 cap1 l1 W1 (s0.kept C1.out) m0 g0 (s1.kept C1.out) m1 g1)
  have K2 := Lib.hid (C1.out.alloc (plO q))
  have X2 := Lib.hid (blk_alloc (o' := plO q) X1.out)
  have N2 := Lib.hid (heap_alloc_new W1 (plO q))
  have B0 := Lib.hid (smallF_any none 0 [] (some ⟨W1.heap.size, 0, none⟩) 1 [q] (W1.alloc (plO q)) ⟨rfl, fun k hk => absurd hk (Nat.not_lt_zero k)⟩ (by unfold maxLen; simp) (by simp) (SlIs.ofBlock [q] N2.out plC_len rfl) (by unfold maxLen; simp) (by intro x hx; simp at hx; subst hx; exact h2))
  have hbad : (smallB2 l0 l1 = false ∨ (smallB2 l0 l1 = true ∧ smallB2 [] [q] = false)) ∨ (smallB2 l0 l1 = true ∧ smallB2 [] [q] = true) := by
    cases smallB2 l0 l1 <;> cases smallB2 [] [q] <;> simp
  have x1 := blk_cell X1.out
  have l1' := lt_of_heap X1.out
  unfold plV
  unfold plO at hW1 X1 X2 N2 K2 B0
  have HW1 := Lib.hid hW1
  clear hW1
  rcases hbad with hbad | ⟨b0, b2⟩
  · clear s0 g0 m0 c0 n0 k0 s1 g1 m1 c1 n1 k1 h2
    rcases hbad with b0 | ⟨b0, b2⟩
    · go_enter Try.func7, Try.ntmps7
      go_wp2_with fail
      rw [← HW1.out]
      go_wp2_with (first
        | (go_at_call 8; (with_reducible refine A0.out.mono ?_); rw [b0]; rintro e w1 ⟨rfl, rfl⟩)
        | (go_at_call 9; (with_reducible refine (awake_any _).mono ?_); rintro e w3 ⟨rfl, hc3⟩; have C3 := Lib.hid (C1.out.thenSame hc3); clear hc3))
      go_ret
      exact ⟨rfl, C3.out.toBelow (Nat.le_refl _) (by simp)⟩
    · go_enter Try.func7, Try.ntmps7
      go_wp2_with fail
      rw [← HW1.out]
      refine A0.out.mono ?_; rw [b0]; rintro e w1 ⟨rfl, rfl⟩
      go_wp2_with (first
        | (go_at_call 8; (refine B0.out.mono ?_); rw [b2]; rintro e w1 ⟨rfl, rfl⟩)
        | (go_at_call 9; (with_reducible refine (awake_any _).mono ?_); rintro e w3 ⟨rfl, hc3⟩; have C3 := Lib.hid (K2.out.thenSame hc3); clear hc3))
      go_ret
      exact ⟨rfl, C3.out.toBelow (Nat.le_refl _) (by simp)⟩
  have hs := b0
  unfold smallB2 at hs
  simp only [Bool.and_eq_true, decide_eq_true_eq] at hs
  obtain ⟨⟨⟨z0, z1⟩, -⟩, -⟩ := hs
  have A1 := Lib.hid (fun w' (hc : Chg [] w w') => add_any a0 cap0 l0 a1 cap1 l1 q w' (s0.kept hc) (by omega) c0 g0 (I1.out.kept hc) (by omega) g1 h2)
  have HO := Lib.hid (show ∀ w', Chg [] W1 w' → (w'.cell? ⟨w.heap.size, 0, none⟩ = some (.string q.id) ∧ w'.cell? ⟨w.heap.size, 1, none⟩ = some (.string q.tn) ∧ w'.cell? ⟨w.heap.size, 2, none⟩ = some (.int .i64 q.mem) ∧ w'.cell? ⟨w.heap.size, 3, none⟩ = some (.string q.wk)) ∧ w.heap.size < w'.heap.size from fun w' hc => by
    have x1 := blk_cell (hc.at (by simp) X1.out)
    exact ⟨⟨x1 0, x1 1, x1 2, x1 3⟩, lt_of_heap (hc.at (by simp) X1.out)⟩)
  have D2 := Lib.hid (show Chg [] W1 (W1.alloc (.cells #[.string q.id, .string q.tn, .int .i64 q.mem, .string q.wk] 25)) from (Chg.refl _ _).alloc _)
  by_cases hok : (addP l0 l1 q).2 = 0
  case neg =>
    have hnm := add_no hok
    have hnb : ((addP l0 l1 q).2 == 0) = false := by simpa using hok
    rw [hnm] at A1
    generalize (addP l0 l1 q).2 = E at *
    unfold plV at A1
    clear s0 g0 m0 c0 n0 k0 s1 g1 m1 c1 n1 k1 h2 hnm
    go_enter Try.func7, Try.ntmps7
    go_wp2_with fail
    rw [← HW1.out]
    refine A0.out.mono ?_; rw [b0]; rintro e w1 ⟨rfl, rfl⟩
    go_wp2_with (go_at_call 8; (refine B0.out.mono ?_); rw [b2]; rintro e w1 ⟨rfl, rfl⟩; (obtain ⟨⟨y0, y1, y2, y3⟩, yl⟩ := HO.out _ D2.out))
    refine (A1.out _ K2.out).mono ?_; rintro e w3 ⟨v3, rfl, hr3, hc3⟩
    obtain ⟨a3, c3, hv3⟩ := RowOf.shape hr3
    subst hv3
    have D3 := Lib.hid (D2.out.thenSame hc3)
    clear hc3 hr3
    go_wp2_with (go_at_call 9; (with_reducible refine (awake_any _).mono ?_); rintro e w11 ⟨rfl, hc11⟩; have D11 := Lib.hid (D3.out.thenSame hc11); clear hc11)
    go_ret
    exact ⟨rfl, (C1.out.thenSame D11.out).toBelow (Nat.le_refl _) (by simp)⟩
  obtain ⟨V, vf, v256, m, hm, v5, v6⟩ := add_ok hok
  rw [hok, v5] at A1
  have VM := V.put vf v256 hm v6
  have hgm : ∀ x ∈ l1 ++ [withW q l0[m].name], x.good := fun x hx => by
    rcases List.mem_append.1 hx with hx | hx
    · exact g1 x hx
    · simp at hx; subst hx
      exact ⟨h2.1, h2.2.1, h2.2.2.1, (g0 _ (List.getElem_mem hm)).1⟩
  have hml : (l1 ++ [withW q l0[m].name]).length = l1.length + 1 := by rw [List.length_append]; rfl
  have hrem : remP (l1 ++ [withW q l0[m].name]) q.id = (l1, 0) := rem_last (p := withW q l0[m].name) (fresh_iff.1 vf).2.1
  have htk : (l1 ++ [withW q l0[m].name]).take l1.length = l1 := List.take_left
  have SW := Lib.hid s0
  have SP := Lib.hid s1
  have A2 := Lib.hid (fun i (hi : i < l0.length) w' (hc : Chg [] w w') => by
    have := freex_any a0 cap0 l0 a1 cap1 l1 l0[i].name w' (s0.kept hc) (by omega) c0 g0 (s1.kept hc) (by omega) c1 g1
    rw [V.free hi] at this
    exact this)
  have A3 := Lib.hid (fun a5 c5 i (hi : i < l0.length) w' (hc : Chg [] w w') (h5 : InIs plC 4 w' a5 c5 (l1 ++ [withW q l0[m].name])) => by
    have := freex_any a0 cap0 l0 a5 c5 _ l0[i].name w' (s0.kept hc) (by omega) c0 g0 h5.1 (by omega) h5.2.1 hgm
    rw [VM.free hi] at this
    exact this)
  have A4 := Lib.hid (fun a5 c5 w' (hc : Chg [] w w') (h5 : InIs plC 4 w' a5 c5 (l1 ++ [withW q l0[m].name])) => by
    have := check_any a0 cap0 l0 a5 c5 _ w' (s0.kept hc) (by omega) c0 g0 h5.1 (by omega) h5.2.1 hgm
    rw [check_iff.2 VM] at this
    exact this)
  have A5 := Lib.hid (fun a5 c5 w' (h5 : InIs plC 4 w' a5 c5 (l1 ++ [withW q l0[m].name])) => by
    have := remove_any a5 c5 _ q.id w' h5 (by omega)
    rw [hrem] at this
    exact this)
  have HX := Lib.hid (show ∀ i (hi : i < l0.length), (0 ≤ freeS l0[i] (l1 ++ [withW q l0[m].name]) ∧ freeS l0[i] l1 ≤ 1000000000) ∧ (i = m → l0[i].dr = false ∧ freeS l0[i] l1 - freeS l0[i] (l1 ++ [withW q l0[m].name]) = q.mem) ∧ (i ≠ m → freeS l0[i] (l1 ++ [withW q l0[m].name]) = freeS l0[i] l1) from fun i hi => by
    refine ⟨⟨VM.fr _ (List.getElem_mem hi), ?_⟩, ?_, ?_⟩
    · have h1 := (V.wn _ (List.getElem_mem hi)).2
      unfold memB at h1
      simp only [Bool.and_eq_true, decide_eq_true_eq] at h1
      have h3 := (used_range l1 l0[i].name (by omega) (fun q hq => (V.lp q hq).2.2.1)).1
      rw [free_used]
      omega
    · rintro rfl
      unfold possB at v6
      simp only [Bool.and_eq_true, decide_eq_true_eq] at v6
      refine ⟨by simpa using v6.1, ?_⟩
      rw [free_append, used_one, if_pos (show (withW q l0[i].name).wk = l0[i].name from rfl)]
      show _ - (_ - q.mem) = q.mem
      omega
    · intro hne
      rw [free_append, used_one, if_neg (show ¬ (withW q l0[m].name).wk = l0[i].name from fun e => hne (V.name_inj hi hm (Eq.symm e))), Int.sub_zero])
  have HIJ := Lib.hid (fun i (hi : i < l0.length) (h : l0[i].name = l0[m].name) => V.name_inj hi hm h)
  have hqm := (fresh_iff.1 vf).2.2.2
  unfold memB at hqm
  simp only [Bool.and_eq_true, decide_eq_true_eq] at hqm
  obtain ⟨hq1, hq2⟩ := hqm
  unfold plV at A1
  have hz0 : (l0.length : Int) ≤ 20 := by omega
  obtain ⟨nm, hnm⟩ : ∃ nm, nm = l0[m].name := ⟨_, rfl⟩
  rw [← hnm] at A1 hml htk
  have A3 := Lib.hid A3.out
  have A4 := Lib.hid A4.out
  have A5 := Lib.hid A5.out
  have HX := Lib.hid HX.out
  rw [← hnm] at A3 A4 A5 HX
  have hlast : (l1 ++ [withW q nm])[l1.length]? = some (withW q nm) := by rw [List.getElem?_append_right (Nat.le_refl _), Nat.sub_self]; rfl
  obtain ⟨M, hM⟩ : ∃ M, M = l1 ++ [withW q nm] := ⟨_, rfl⟩
  rw [← hM] at A1 A3 A4 A5 HX hml htk hlast
  have HTK := Lib.hid htk
  have HLast := Lib.hid hlast
  have HNM := Lib.hid hnm
  have HML := Lib.hid hml
  have h256 : (l1.length : Int) < 256 := by omega
  have h256n : l1.length < 256 := v256
  clear s0 g0 m0 c0 n0 k0 s1 g1 m1 c1 n1 k1 h2 hok V vf v256 v5 v6 VM hgm hrem hnm hM htk hlast hml
  go_enter Try.func7, Try.ntmps7
  go_wp2_with fail
  rw [← HW1.out]
  refine A0.out.mono ?_; rw [b0]; rintro e w1 ⟨rfl, rfl⟩
  go_wp2_with (go_at_call 8; (refine B0.out.mono ?_); rw [b2]; rintro e w1 ⟨rfl, rfl⟩; (obtain ⟨⟨y0, y1, y2, y3⟩, yl⟩ := HO.out _ D2.out))
  refine (A1.out _ K2.out).mono ?_; rintro e w3 ⟨v3, rfl, hr3, hc3⟩
  obtain ⟨a3, c3, hv3⟩ := RowOf.shape hr3
  subst hv3
  have D3 := Lib.hid (D2.out.thenSame hc3)
  have J3 := Lib.hid (InIs.ofRow hr3 plC_len).2
  obtain ⟨g3, o3, e3, -⟩ := J3.out.1.elem (Chg.refl [] w3) l1.length (by have := HML.out; omega)
  subst e3
  have HE := Lib.hid (show ∀ w', InIs plC 4 w' (some ⟨g3, o3, none⟩) c3 M → w'.cell? ⟨g3, o3 + l1.length * 4 + 3, none⟩ = some (.string nm) ∧ g3 < w'.heap.size from fun w' h => by
    have hl : l1.length < M.length := by have := HML.out; omega
    obtain ⟨b, o, e, -, hb, hcc⟩ := h.1.elem (Chg.refl [] w') l1.length hl
    cases e
    have h3 := hcc 3 (by omega)
    have hq := HLast.out
    rw [List.getElem?_eq_getElem hl, Option.some.injEq] at hq
    rw [hq] at h3
    exact ⟨h3, hb⟩)
  have hc3' := J3.out.2.1
  have hMc : l1.length ≤ c3 := by have := HML.out; omega
  have T3 := Lib.hid (show SlIs plC 4 w3 (some ⟨g3, o3, none⟩) l1.length l1 by
    have h := J3.out.1.take l1.length (by have := HML.out; omega)
    rw [HTK.out] at h
    exact h)
  have S3 := Lib.hid (SP.out.kept (C1.out.thenSame D3.out))
  clear hc3 y0 y1 y2 y3 yl hr3
  rw [HML.out]
  have hr4096 : l1.length ≤ 4096 := by omega
  go_wp2_with (first
    | (go_at_call 14; (refine (same_any _ _ _ _ _ _ _ T3.out S3.out hr4096 hr4096).mono ?_); rw [same_refl (fun x => eqP_iff.2 rfl)]; rintro e w8 ⟨rfl, hc8⟩; have D8 := Lib.hid (D3.out.thenSame hc8); have J8 := Lib.hid (J3.out.kept hc8); clear hc8)
    | (go_at_call 20; rw [← HML.out]; (refine (A4.out _ _ _ (C1.out.thenSame D8.out) J8.out).mono ?_); rw [HML.out]; rintro e w9 ⟨rfl, hc9⟩; have D9 := Lib.hid (D8.out.thenSame hc9); have J9 := Lib.hid (J8.out.kept hc9); (obtain ⟨p9, l9⟩ := HE.out _ J9.out); clear hc9))
  clear p9 l9
  go_loopw [71] (fun i wr => ∃ k : Nat, i = .int .i64 k ∧ k ≤ l0.length ∧ Hid (Chg [] W1 wr) ∧ Hid (InIs plC 4 wr (some ⟨g3, o3, none⟩) c3 M)) (fun i _ => l0.length - (intOf i).toNat)
  case atStart => exact ⟨0, rfl, Nat.zero_le _, D9, J9⟩
  case round =>
    obtain ⟨k, rfl, hkl, D, J⟩ := hrel
    by_cases hk : k < l0.length
    · have hel := fun w' (hc : Chg [] W1 w') => SW.out.elem (C1.out.thenSame hc) k hk
      have hij := HIJ.out k hk
      obtain ⟨⟨hx0, hx1⟩, hx2, hx3⟩ := HX.out k hk
      have B1 := Lib.hid (A2.out k hk wr (C1.out.thenSame D.out))
      have HB2 := Lib.hid (fun w' hc h5 => A3.out (some ⟨g3, o3, none⟩) c3 k hk w' hc h5)
      have hmk : k = m → l0[k].name = nm := fun e => by subst e; exact HNM.out.symm
      rw [← HNM.out] at hij
      generalize l0[k] = x at *
      generalize freeS x l1 = fa at *
      generalize freeS x M = fb at *
      obtain ⟨g1, o1, rfl, -, hbr1, hcc⟩ := hel wr D.out
      have d0 := hcc 0 (by omega)
      simp only [wkC, List.getElem?_cons_zero, List.getElem?_cons_succ, Nat.add_zero] at d0
      have hk0 : (0 : Int) ≤ (k : Int) := by omega
      have hk1 : (k : Int) < (l0.length : Int) := by omega
      clear hcc
      go_wp2_with fail
      refine B1.out.mono ?_; rintro e w5 ⟨rfl, hc5⟩
      have D5 := Lib.hid (D.out.thenSame hc5)
      have J5 := Lib.hid (J.out.kept hc5)
      obtain ⟨g2, o2, e2, -, hbr5, hcc⟩ := hel w5 D5.out
      cases e2
      have d5 := hcc 0 (by omega)
      simp only [wkC, List.getElem?_cons_zero, List.getElem?_cons_succ, Nat.add_zero] at d5
      clear hcc hc5 d0 hbr1
      have HB3 := Lib.hid (HB2.out w5 (C1.out.thenSame D5.out) J5.out)
      rw [HML.out] at HB3
      go_wp2_with fail
      refine HB3.out.mono ?_; rintro e w6 ⟨rfl, hc6⟩
      have D6 := Lib.hid (D5.out.thenSame hc6)
      have J6 := Lib.hid (J5.out.kept hc6)
      obtain ⟨g2, o2, e2, -, hbr6, hcc⟩ := hel w6 D6.out
      cases e2
      have d6 := hcc 0 (by omega)
      have d7 := hcc 2 (by omega)
      simp only [wkC, List.getElem?_cons_zero, List.getElem?_cons_succ, Nat.add_zero] at d6 d7
      obtain ⟨⟨y0, y1, y2, y3⟩, yl⟩ := HO.out _ D6.out
      clear hcc hc6 d5 hbr5 hel
      by_cases hkm : k = m
      · obtain ⟨hdr, hsub⟩ := hx2 hkm
        have hnm := hmk hkm
        rw [hdr] at d7
        rw [hnm] at d6
        clear hx2 hx3 hij hmk hkm
        go_wp2_with fail
        exact ⟨⟨k + 1, by go_num, by omega, D6, J6⟩, by simp [intOf]; omega⟩
      · have hfe := hx3 hkm
        have hnb : (x.name.toList == nm.toList) = false := by
          rw [← beq_toListBytes]
          exact beq_eq_false_iff_ne.2 (fun e => hkm (hij e))
        subst hfe
        clear hx2 hx3 hij hmk
        go_wp2_with fail
        exact ⟨⟨k + 1, by go_num, by omega, D6, J6⟩, by simp [intOf]; omega⟩
    · have hks : k = l0.length := by omega
      subst hks
      obtain ⟨⟨y0, y1, y2, y3⟩, yl⟩ := HO.out _ D.out
      have B5 := Lib.hid (A5.out _ _ _ J.out)
      rw [HML.out] at B5
      go_wp2_with fail
      refine B5.out.mono ?_; rintro e w6 ⟨v6, rfl, hr6, hc6⟩
      obtain ⟨a6, c6, hv6⟩ := RowOf.shape hr6
      subst hv6
      have D6 := Lib.hid (D.out.thenSame hc6)
      have S6 := Lib.hid (RowOf.sl hr6 plC_len).1
      have S1 := Lib.hid (SP.out.kept (C1.out.thenSame D6.out))
      clear hc6 hr6 y0 y1 y2 y3 yl
      go_wp2_with (first
        | (go_at_call 14; (refine (same_any _ _ _ _ _ _ _ S6.out S1.out hr4096 hr4096).mono ?_); rw [same_refl (fun x => eqP_iff.2 rfl)]; rintro e w8 ⟨rfl, hc8⟩; have D8 := Lib.hid (D6.out.thenSame hc8); clear hc8)
        | (go_at_call 9; (with_reducible refine (awake_any _).mono ?_); rintro e w11 ⟨rfl, hc11⟩; have D11 := Lib.hid (D8.out.thenSame hc11); clear hc11))
      go_ret
      exact ⟨rfl, (C1.out.thenSame D11.out).toBelow (Nat.le_refl _) (by simp)⟩
end Go.Proofs.Ytjbnfaapkicejaa
