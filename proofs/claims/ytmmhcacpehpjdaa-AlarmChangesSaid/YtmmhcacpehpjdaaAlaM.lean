/- Chapter 19: AlarmChanges: Changes tells the state at every time. No condition. -/
import Derived.Test.YtmmhcacpehpjdaaAlaG
import Derived.Test.YtmmhcacpehpjdaaAlaH
namespace Go.Proofs.Ytmmhcacpehpjdaa
set_option linter.unusedVariables false
set_option linter.unusedSimpArgs false
open Go.RowKit

def valC (t : Int) (l : List Pt) : Int := l.foldl (fun s x => if x.t ≤ t then x.v else s) 0
theorem val_snoc (t : Int) (l : List Pt) (x : Pt) : valC t (l ++ [x]) = if x.t ≤ t then x.v else valC t l := by
  unfold valC; rw [List.foldl_append]; rfl
theorem val_last {t v0 : Int} {l : List Pt} (h : ∀ x ∈ l, x.t ≤ t) (hv : l.getLast?.map Pt.v = some v0) : valC t l = v0 := by
  rcases List.eq_nil_or_concat l with rfl | ⟨l0, p, rfl⟩
  · simp at hv
  · simp at hv
    rw [List.concat_eq_append, val_snoc, if_pos (h p (by simp)), hv]

structure ChI (s : Int → Int) (lo : Int) (k : Nat) (C : List Pt) : Prop where
  ne : C ≠ []
  first : C.head?.map Pt.t = some lo
  bd : ∀ x ∈ C, lo ≤ x.t ∧ x.t < lo + k
  last : C.getLast?.map Pt.v = some (s (lo + k - 1))
  nb : ∀ i (h : i + 1 < C.length), C[i].t < C[i + 1].t ∧ C[i].v ≠ C[i + 1].v
  at_ : ∀ t, lo ≤ t → t < lo + k → valC t C = s t

theorem chg_inv (s : Int → Int) (lo : Int) (k : Nat) : ChI s lo (k + 1) (chgS s lo (k + 1)) := by
  induction k with
  | zero =>
    have e : chgS s lo 1 = [⟨lo, s lo⟩] := by simp [chgS, pushC]
    rw [e]
    refine ⟨by simp, by simp, fun x hx => by (simp at hx; subst hx; simp; omega), by simp, by simp, fun t h1 h2 => ?_⟩
    have : t = lo := by simp at h2; omega
    subst this
    simp [valC]
  | succ k ih =>
    obtain ⟨C, hC⟩ : ∃ C, C = chgS s lo (k + 1) := ⟨_, rfl⟩
    have hst : chgS s lo (k + 1 + 1) = pushC s C (lo + (k + 1 : Nat)) := by rw [hC]; rfl
    rw [← hC] at ih
    rw [hst]
    obtain ⟨h1, h2, h3, h4, h5, h6⟩ := ih
    obtain ⟨u, hu⟩ : ∃ u : Int, u = lo + (k + 1 : Nat) := ⟨_, rfl⟩
    rw [← hu]
    have e4 : lo + ((k + 1 + 1 : Nat) : Int) - 1 = u := by omega
    have e5 : lo + ((k + 1 : Nat) : Int) - 1 = u - 1 := by omega
    rw [e5] at h4
    unfold pushC
    by_cases hp : C = [] ∨ (C.getLast?.map Pt.v) ≠ some (s u)
    · rw [if_pos hp]
      have hp' : (C.getLast?.map Pt.v) ≠ some (s u) := hp.resolve_left h1
      refine ⟨by simp, ?_, fun x hx => ?_, ?_, fun i hi => ?_, fun t t1 t2 => ?_⟩
      · have e : (C ++ [(⟨u, s u⟩ : Pt)]).head? = C.head? := by
          cases C with
          | nil => exact absurd rfl h1
          | cons y C => rfl
        rw [e]; exact h2
      · rcases List.mem_append.1 hx with hx | hx
        · have := h3 x hx; omega
        · simp at hx; subst hx; simp only; omega
      · rw [e4]; simp
      · simp at hi
        by_cases hi2 : i + 1 < C.length
        · rw [List.getElem_append_left (by omega), List.getElem_append_left hi2]
          exact h5 i hi2
        · have e : i + 1 = C.length := by omega
          rw [List.getElem_append_left (by omega : i < C.length), List.getElem_append_right (by omega)]
          have hl : C.getLast? = some C[i] := by
            rw [List.getLast?_eq_getElem?, List.getElem?_eq_getElem (by omega)]
            congr 1
            congr 1
            omega
          rw [hl] at hp'
          have h7 := h3 C[i] (List.getElem_mem _)
          simp at hp' ⊢
          exact ⟨by omega, hp'⟩
      · rw [val_snoc]
        by_cases ht : u ≤ t
        · have : t = u := by omega
          rw [if_pos ht, this]
        · rw [if_neg ht]
          exact h6 t t1 (by omega)
    · rw [if_neg hp]
      have hp' : (C.getLast?.map Pt.v) = some (s u) := Classical.byContradiction fun h => hp (.inr h)
      refine ⟨h1, h2, fun x hx => ?_, by rw [e4]; exact hp', h5, fun t t1 t2 => ?_⟩
      · have := h3 x hx; omega
      · by_cases ht : t < u
        · exact h6 t t1 (by omega)
        · have : t = u := by omega
          subst this
          exact val_last (fun x hx => by have := h3 x hx; omega) hp'

set_option maxHeartbeats 10000000 in
set_option maxRecDepth 100000 in
theorem changes_main (r : Rd) (a1 : Option Addr) (len1 cap1 : Nat) (l : List Pt) (lo hi t : Int) (w : World) (s1 : SlIs pCells 2 w a1 len1 l) (m1 : len1 ≤ maxLen) (hr : ruleB r = true) (hl : checkP l = 0) (c1 : (len1 : Int) ≤ 60) (c2 : 0 ≤ lo) (c3 : lo ≤ hi) (c4 : hi ≤ 1073741824) (c5 : hi - lo ≤ 100) (c6 : lo ≤ t) (c7 : t ≤ hi) : Calls Try.prog 7 #[.agg #[.int .i64 r.st, .bool r.ab, .int .i64 r.th, .int .i64 r.wd, .int .i64 r.m, .int .i64 r.n, .bool r.ms], .slice a1 len1 cap1, .int .i64 lo, .int .i64 hi, .int .i64 t] w fun e w' => e = .returned (.bool true) ∧ Below w.heap.size w w' := by
  have hb1 := heap_alloc_new w (.cells #[.int .i64 r.st, .bool r.ab, .int .i64 r.th, .int .i64 r.wd, .int .i64 r.m, .int .i64 r.n, .bool r.ms] 24)
  obtain ⟨w1, hw1⟩ : ∃ w1, w1 = w.alloc (.cells #[.int .i64 r.st, .bool r.ab, .int .i64 r.th, .int .i64 r.wd, .int .i64 r.m, .int .i64 r.n, .bool r.ms] 24) := ⟨_, rfl⟩
  have Hc0 : Hid (Chg [] w w1) := by rw [hw1]; exact (Chg.refl [] w).alloc _
  rw [← hw1] at hb1
  have Hb := Lib.hid hb1
  have S1 := Lib.hid (s1.kept Hc0.out)
  have A1 := acheck_any r w1
  rw [show checkR r = 0 by unfold checkR; rw [if_pos hr]] at A1
  have A1 := Lib.hid A1
  have A2 := Lib.hid (fun w h => hl ▸ mcheck_any a1 len1 cap1 l w h m1)
  obtain ⟨s, hs⟩ : ∃ s : Int → Int, s = fun t => (atS r l t).1 := ⟨_, rfl⟩
  obtain ⟨k, hk⟩ : ∃ k, (hi - lo + 1).toNat = k + 1 := ⟨(hi - lo).toNat, by omega⟩
  obtain ⟨C, hC⟩ : ∃ C, C = chgS s lo (k + 1) := ⟨_, rfl⟩
  have hch : changesS r l lo hi = (C, 0) := by
    unfold changesS
    rw [if_pos hr, if_pos hl, if_pos (by simp [rngB]; omega), hk, hC, hs]
  have A3 := Lib.hid (fun w h => hch ▸ changes_any r a1 len1 cap1 l lo hi w h m1)
  have hat : atS r l t = (s t, 0) := by rw [hs, ← at_ok hr hl (by omega : 0 ≤ t) (by omega)]
  have A4 := Lib.hid (fun w h => hat ▸ at_any r a1 len1 cap1 l t w h m1)
  have hI := chg_inv s lo k
  rw [← hC] at hI
  have hlen := chg_len s lo (k + 1)
  rw [← hC] at hlen
  have HI := Lib.hid hI
  have hC1 : C.length ≤ 101 := by omega
  have hC0 : 0 < C.length := List.length_pos_iff.2 hI.ne
  have hx0 : C[0].t = lo := by
    have := hI.first
    rw [List.head?_eq_getElem?, List.getElem?_eq_getElem hC0] at this
    simpa using this
  obtain ⟨x, hx⟩ : ∃ x, x = C[0] := ⟨_, rfl⟩
  rw [← hx] at hx0
  have Hx := Lib.hid hx
  have hst : valC t C = s t := hI.at_ t c6 (by omega)
  have Hst := Lib.hid hst
  have hbd : ∀ y ∈ C, y.t ≤ hi := fun y hy => by have := (hI.bd y hy).2; omega
  have Hbd := Lib.hid hbd
  have hn0 : (0 : Int) ≤ (len1 : Int) := by omega
  have hC2 : (0 : Int) < (C.length : Int) := by omega
  have hC3 : ((C.length : Int) == 0) = false := beq_eq_false_iff_ne.2 (by omega)
  have hxt : x.t ≤ t := by omega
  have Hx0 := Lib.hid hx0
  clear s1 m1 hr hl hb1 hs hk hC hch hat hI hlen hx hst hbd hx0
  go_enter Try.func7, Try.ntmps7
  go_wp2_with fail
  rw [← hw1]
  clear hw1
  refine A1.out.mono ?_; rintro e w2 ⟨rfl, hc2⟩
  have C2 := Lib.hid hc2
  clear hc2
  go_wp2_with fail
  refine (A2.out _ (S1.out.kept C2.out)).mono ?_; rintro e w3 ⟨rfl, hc3⟩
  have C3 := Lib.hid (C2.out.thenSame hc3)
  have p3 := blk_cell (C3.out.at (by simp) Hb.out)
  clear hc3
  go_wp2_with fail
  clear p3
  refine (A3.out _ (S1.out.kept C3.out)).mono ?_; rintro e w4 ⟨v, rfl, hr4, hc4⟩
  simp only at hr4 ⊢
  have C4 := Lib.hid (C3.out.thenSame hc4)
  have R4 := Lib.hid hr4
  obtain ⟨g, cv, hv, -, -, hcl, -, -, hgw⟩ := (RowOf.at hr4 pLen).resolve_left (fun h => by rw [h.2] at hC0; simp at hC0)
  subst hv
  have q0 := hcl 0 hC0 0 (by omega)
  have q1 := hcl 0 hC0 1 (by omega)
  rw [← Hx.out] at q0 q1
  simp only [pCells, List.getElem?_cons_zero, List.getElem?_cons_succ, Nat.zero_mul, Nat.zero_add] at q0 q1
  rw [Hx0.out] at q0
  have Hcl := Lib.hid hcl
  clear hc4 hr4 hcl
  go_wp2_with fail
  clear q0 q1
  go_loopw [13, 14] (fun v i wr => ∃ j : Nat, i = .int .i64 ((j : Int) + 1) ∧ j + 1 ≤ C.length ∧ v = .int .i64 (valC t (C.take (j + 1))) ∧ Chg [] w4 wr) (fun _ i _ => C.length + 1 - (intOf i).toNat)
  case atStart =>
    refine ⟨0, by simp, by omega, ?_, Chg.refl _ _⟩
    have e : C.take 1 = [x] := by
      rw [Hx.out]
      cases C with
      | nil => simp at hC0
      | cons y C => rfl
    rw [e]
    simp [valC, hxt]
  case round =>
    obtain ⟨j, rfl, hjl, rfl, hC⟩ := hrel
    have HC := Lib.hid hC
    have hj0 : (0 : Int) ≤ (j : Int) := by omega
    have hj1 : (j : Int) ≤ 101 := by omega
    by_cases hj : j + 1 < C.length
    · obtain ⟨n1, n2⟩ := HI.out.nb j hj
      have n3 := Hbd.out C[j + 1] (List.getElem_mem _)
      have e1 := Hcl.out j (by omega) 0 (by omega)
      have e2 := Hcl.out j (by omega) 1 (by omega)
      have e3 := Hcl.out (j + 1) hj 0 (by omega)
      have e4 := Hcl.out (j + 1) hj 1 (by omega)
      have hvs : valC t (C.take (j + 1 + 1)) = if C[j + 1].t ≤ t then C[j + 1].v else valC t (C.take (j + 1)) := by
        rw [List.take_succ_eq_append_getElem hj, val_snoc]
      obtain ⟨p, hp⟩ : ∃ p, p = C[j] := ⟨_, rfl⟩
      obtain ⟨q, hq⟩ : ∃ q, q = C[j + 1] := ⟨_, rfl⟩
      rw [← hp] at n1 n2 e1 e2
      rw [← hq] at n1 n2 n3 e3 e4 hvs
      simp only [pCells, List.getElem?_cons_zero, List.getElem?_cons_succ, Nat.add_zero] at e1 e2 e3 e4
      have f1 := (World.cell?_of_block (w := w4) (w' := wr) (a := ⟨g, j * 2, none⟩) (hC.block g hgw (by simp))).trans e1
      have f2 := (World.cell?_of_block (w := w4) (w' := wr) (a := ⟨g, j * 2 + 1, none⟩) (hC.block g hgw (by simp))).trans e2
      have f3 := (World.cell?_of_block (w := w4) (w' := wr) (a := ⟨g, (j + 1) * 2, none⟩) (hC.block g hgw (by simp))).trans e3
      have f4 := (World.cell?_of_block (w := w4) (w' := wr) (a := ⟨g, (j + 1) * 2 + 1, none⟩) (hC.block g hgw (by simp))).trans e4
      have n4 : (q.v == p.v) = false := beq_eq_false_iff_ne.2 (fun h => n2 h.symm)
      have hjb : (j : Int) + 1 < (C.length : Int) := by omega
      have hjb2 : (j : Int) < (C.length : Int) := by omega
      have Hvs := Lib.hid hvs
      obtain ⟨V, hV⟩ : ∃ V, V = valC t (C.take (j + 1)) := ⟨_, rfl⟩
      rw [← hV] at Hvs
      rw [← hV]
      have n5 : decide (q.t ≤ p.t) = false := by simp; omega
      have n6 : decide (hi < q.t) = false := by simp; omega
      clear hC e1 e2 e3 e4 hp hq hvs n2 hV
      by_cases hqt : q.t ≤ t
      · go_wp2_with fail
        go_quiet (fail)
        go_wp2_with fail
        refine ⟨⟨j + 1, by go_num, by omega, by rw [Hvs.out, if_pos hqt], HC.out.drewN _⟩, by simp [intOf]; omega⟩
      · go_wp2_with fail
        go_quiet (fail)
        go_wp2_with fail
        refine ⟨⟨j + 1, by go_num, by omega, by rw [Hvs.out, if_neg (by omega)], HC.out.drewN _⟩, by simp [intOf]; omega⟩
    · have e : C.take (j + 1) = C := List.take_of_length_le (by omega)
      rw [e, Hst.out]
      have hjb : ¬ (j : Int) + 1 < (C.length : Int) := by omega
      have p5 := blk_cell ((C4.out.thenSame HC.out).at (by simp) Hb.out)
      obtain ⟨V, hV⟩ : ∃ V, V = s t := ⟨_, rfl⟩
      rw [← hV]
      have A5 := A4.out wr (S1.out.kept (C4.out.thenSame HC.out))
      rw [← hV] at A5
      have A5 := Lib.hid A5
      rename_i A50
      clear hC e hV
      go_wp2_with fail
      clear p5
      refine A5.out.mono ?_; rintro e w6 ⟨rfl, hc6⟩
      have C6 := Lib.hid ((C4.out.thenSame HC.out).thenSame hc6)
      clear hc6 A50
      simp only []
      go_wp2_with fail
      refine (awake_any _).mono ?_; rintro e w7 ⟨rfl, hc7⟩
      have C7 := Lib.hid (C6.out.thenSame hc7)
      clear hc7
      go_wp2_with fail
      go_ret
      exact ⟨rfl, (Hc0.out.thenSame C7.out).toBelow (Nat.le_refl _) (by simp)⟩

set_option maxHeartbeats 10000000 in
set_option maxRecDepth 100000 in
theorem chgs_walk (r : Rd) (a1 : Option Addr) (len1 cap1 : Nat) (l : List Pt) (lo hi t : Int) (w : World) (_g0 : r.good) (h1 : SlIs pCells 2 w a1 len1 l ∧ (∀ x ∈ l, x.good) ∧ len1 ≤ maxLen ∧ len1 ≤ cap1) (_g2 : (Lit.int .i64 lo).wf = true) (_g3 : (Lit.int .i64 hi).wf = true) (_g4 : (Lit.int .i64 t).wf = true) : Calls Try.prog 7 #[.agg #[.int .i64 r.st, .bool r.ab, .int .i64 r.th, .int .i64 r.wd, .int .i64 r.m, .int .i64 r.n, .bool r.ms], .slice a1 len1 cap1, .int .i64 lo, .int .i64 hi, .int .i64 t] w fun e w' => e = .returned (.bool true) ∧ Below w.heap.size w w' := by
  obtain ⟨s1, _, m1, k1⟩ := h1
  have hb1 := heap_alloc_new w (.cells #[.int .i64 r.st, .bool r.ab, .int .i64 r.th, .int .i64 r.wd, .int .i64 r.m, .int .i64 r.n, .bool r.ms] 24)
  obtain ⟨w1, hw1⟩ : ∃ w1, w1 = w.alloc (.cells #[.int .i64 r.st, .bool r.ab, .int .i64 r.th, .int .i64 r.wd, .int .i64 r.m, .int .i64 r.n, .bool r.ms] 24) := ⟨_, rfl⟩
  have Hc0 : Hid (Chg [] w w1) := by rw [hw1]; exact (Chg.refl [] w).alloc _
  rw [← hw1] at hb1
  have Hb := Lib.hid hb1
  have S1 := Lib.hid (s1.kept Hc0.out)
  have A1 := acheck_any r w1
  have hn0 : (0 : Int) ≤ (len1 : Int) := by omega
  by_cases hbig : (60 : Int) < (len1 : Int)
  · clear s1 m1 k1 hb1 A1
    go_enter Try.func7, Try.ntmps7
    go_wp2_with fail
    rw [← hw1]
    clear hw1
    refine (awake_any _).mono ?_; rintro e w3 ⟨rfl, hc3⟩
    have Hc3 := Lib.hid hc3
    clear hc3
    go_wp2_with fail
    go_ret
    exact ⟨rfl, (Hc0.out.thenSame Hc3.out).toBelow (Nat.le_refl _) (by simp)⟩
  have hbig' : (len1 : Int) ≤ 60 := by omega
  by_cases hr : ruleB r = true
  case neg =>
    rw [show checkR r = 2 by unfold checkR; rw [if_neg hr]] at A1
    have A1 := Lib.hid A1
    rename_i A10
    clear s1 m1 k1 hb1 A10 hr hbig
    go_enter Try.func7, Try.ntmps7
    go_wp2_with fail
    rw [← hw1]
    clear hw1
    refine A1.out.mono ?_; rintro e w2 ⟨rfl, hc2⟩
    have C2 := Lib.hid hc2
    clear hc2
    go_wp2_with fail
    refine (awake_any _).mono ?_; rintro e w3 ⟨rfl, hc3⟩
    have Hc3 := Lib.hid hc3
    clear hc3
    go_wp2_with fail
    go_ret
    exact ⟨rfl, ((Hc0.out.thenSame C2.out).thenSame Hc3.out).toBelow (Nat.le_refl _) (by simp)⟩
  have A2 := Lib.hid (fun w h => mcheck_any a1 len1 cap1 l w h m1)
  by_cases hl : checkP l = 0
  case neg =>
    rw [show checkR r = 0 by unfold checkR; rw [if_pos hr]] at A1
    have A1 := Lib.hid A1
    rename_i A10
    have hb : (checkP l == 0) = false := by simpa using hl
    have hb2 : (checkP l != 0) = true := by simpa using hl
    generalize checkP l = E at *
    clear s1 m1 k1 hb1 A10 hr hbig hl
    go_enter Try.func7, Try.ntmps7
    go_wp2_with fail
    rw [← hw1]
    clear hw1
    refine A1.out.mono ?_; rintro e w2 ⟨rfl, hc2⟩
    have C2 := Lib.hid hc2
    clear hc2
    go_wp2_with fail
    refine (A2.out _ (S1.out.kept C2.out)).mono ?_; rintro e w3 ⟨rfl, hc3⟩
    have C3 := Lib.hid (C2.out.thenSame hc3)
    clear hc3
    go_wp2_with fail
    refine (awake_any _).mono ?_; rintro e w4 ⟨rfl, hc4⟩
    have C4 := Lib.hid (C3.out.thenSame hc4)
    clear hc4
    go_wp2_with fail
    go_ret
    exact ⟨rfl, (Hc0.out.thenSame C4.out).toBelow (Nat.le_refl _) (by simp)⟩
  by_cases hok : 0 ≤ lo ∧ lo ≤ hi ∧ hi ≤ 1073741824 ∧ hi - lo ≤ 100 ∧ lo ≤ t ∧ t ≤ hi
  · obtain ⟨d1, d2, d3, d4, d5, d6⟩ := hok
    exact changes_main r a1 len1 cap1 l lo hi t w s1 m1 hr hl hbig' d1 d2 d3 d4 d5 d6
  · rw [show checkR r = 0 by unfold checkR; rw [if_pos hr]] at A1
    have A1 := Lib.hid A1
    rename_i A10
    rw [hl] at A2
    have hc : lo < 0 ∨ (0 ≤ lo ∧ hi < lo) ∨ (0 ≤ lo ∧ lo ≤ hi ∧ 1073741824 < hi) ∨ (0 ≤ lo ∧ lo ≤ hi ∧ hi ≤ 1073741824 ∧ 100 < hi - lo) ∨ (0 ≤ lo ∧ lo ≤ hi ∧ hi ≤ 1073741824 ∧ hi - lo ≤ 100 ∧ t < lo) ∨ (0 ≤ lo ∧ lo ≤ hi ∧ hi ≤ 1073741824 ∧ hi - lo ≤ 100 ∧ lo ≤ t ∧ hi < t) := by omega
    clear s1 m1 k1 hb1 A10 hr hbig hl hok
    rcases hc with d1 | ⟨d1, d2⟩ | ⟨d1, d2, d3⟩ | ⟨d1, d2, d3, d4⟩ | ⟨d1, d2, d3, d4, d5⟩ | ⟨d1, d2, d3, d4, d5, d6⟩
    all_goals
      go_enter Try.func7, Try.ntmps7
      go_wp2_with fail
      rw [← hw1]
      clear hw1
      refine A1.out.mono ?_; rintro e w2 ⟨rfl, hc2⟩
      have C2 := Lib.hid hc2
      clear hc2
      go_wp2_with fail
      refine (A2.out _ (S1.out.kept C2.out)).mono ?_; rintro e w3 ⟨rfl, hc3⟩
      have C3 := Lib.hid (C2.out.thenSame hc3)
      clear hc3
      go_wp2_with fail
      refine (awake_any _).mono ?_; rintro e w4 ⟨rfl, hc4⟩
      have C4 := Lib.hid (C3.out.thenSame hc4)
      clear hc4
      go_wp2_with fail
      go_ret
      exact ⟨rfl, (Hc0.out.thenSame C4.out).toBelow (Nat.le_refl _) (by simp)⟩
end Go.Proofs.Ytmmhcacpehpjdaa
