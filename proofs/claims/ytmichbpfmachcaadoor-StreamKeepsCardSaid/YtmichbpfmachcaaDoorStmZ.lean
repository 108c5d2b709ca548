/- Chapter 30: the walk of StreamKeeps. Condition: the table of Itoa lies as the program lays it. -/
import Derived.StillTailTactics
import Derived.Test.YtmichbpfmachcaaDoorStmW
import Derived.Test.YtmichbpfmachcaaDoorStmX
import Derived.Test.YtmichbpfmachcaaDoorStmY
namespace Go.Proofs.YtmichbpfmachcaaDoor
set_option linter.unusedVariables false
set_option linter.unusedSimpArgs false
open Go.RowKit
def opO (x : OpS) : Obj := .cells #[.int .i64 x.kind, .string x.e.p.id, .string x.e.p.tn, .string x.e.p.src, .string x.e.p.key, .int .i64 x.e.p.at_, .string x.e.p.cause, .slice x.e.ba x.e.p.body.length x.e.bc, .int .i64 x.now, .int .i64 x.shard, .int .i64 x.from_, .int .i64 x.most] 27
theorem good_of {w : World} {x : OpS} (h : x.good w) (hs : smallE x.e.p = true) : x.e.p.good := by
  obtain ⟨⟨g1, g2, g3, g4, g5, g6⟩, -⟩ := h
  have hb : x.e.p.body.length ≤ 60 := by
    unfold smallE at hs
    simp only [Bool.and_eq_true, decide_eq_true_eq] at hs
    exact hs.1.2
  exact ⟨g1, g2, g3, g4, g5, by omega, g6⟩
set_option maxHeartbeats 16000000 in
set_option maxRecDepth 100000 in
theorem keeps_walk (a0 : Int) (a1 : Option Addr) (len1 cap1 : Nat) (l1 : List OpS) (bad : OpS) (w : World) (w0 : (Lit.int .u8 a0).wf = true) (w1 : SlIs opC 12 w a1 len1 l1 ∧ (∀ x ∈ l1, x.good w) ∧ len1 ≤ maxLen ∧ len1 ≤ cap1) (w2' : bad.good w) (ht : TabW w) :
    Calls Tryd.prog 3 #[.int .u8 a0, .slice a1 len1 cap1, .agg (opC bad).toArray] w fun e w' => e = .returned (.bool true) ∧ Below w.heap.size w w' := by
  obtain ⟨hs1, hg1, -, -⟩ := w1
  have hl1 : l1.length = len1 := hs1.1
  subst hl1
  obtain ⟨b0, b1⟩ : IntKind.u8.min ≤ a0 ∧ a0 ≤ IntKind.u8.max := by simpa [Lit.wf] using w0
  have b0 : 0 ≤ a0 := b0
  have b1 : a0 ≤ 255 := b1
  have O := Lib.hid (fun (N : Int) (h1 : 1 ≤ N) (h2 : N ≤ 8) => newS_ok N 50 h1 h2 (by decide) (by decide))
  obtain ⟨W1, hW1⟩ : ∃ W1, W1 = w.alloc (opO bad) := ⟨_, rfl⟩
  have C1 := Lib.hid (show Chg [] w W1 by rw [hW1]; exact (Chg.refl _ _).alloc _)
  have X1 := Lib.hid (show W1.heap[w.heap.size]? = some (opO bad) by rw [hW1]; exact heap_alloc_new _ _)
  have x1 := blk_cell X1.out
  unfold opO at hW1 x1
  simp only [opC, evC, List.cons_append, List.nil_append]
  have HW1 := Lib.hid hW1
  clear hW1
  obtain ⟨N, hN⟩ : ∃ N, N = 1 + a0 % 8 := ⟨_, rfl⟩
  have n1 : 1 ≤ N := by omega
  have n2 : N ≤ 8 := by omega
  have HN := Lib.hid hN
  have AW := Lib.hid (fun w' (hc : Chg [] w w') => awake_any w' (ht.kept hc))
  have SM := Lib.hid (fun w' (hc : Chg [] w w') => smallOps_any a1 cap1 l1 w' ⟨hs1.kept hc, fun x hx => (hg1 x hx).2.kept hc⟩)
  clear hN
  go_enter Tryd.func3, Tryd.ntmps3
  go_wp2_with fail
  rw [← HW1.out]
  go_wp2_with fail
  rw [← HN.out]
  have PB := Lib.hid (Pair.first (W := w) (w := w) (w' := W1) (J' := Box w.heap.size (opO bad)) (Chg.refl _ _) ⟨[w.heap.size], ⟨rfl, X1.out⟩, C1.out, by simp⟩)
  refine (stm_new_ok N 50 W1 n1 n2 (by decide) (by decide)).mono ?_; rintro x w1 ⟨ba, f, rfl, hS, hc, hf⟩
  have P0 := Lib.hid (Pair.start (J' := JS ba (newS N 50)) (boxSide w.heap.size (opO bad)) PB.out ⟨f, hS, hc, hf⟩).join
  clear hS hc hf
  go_wp2_with fail
  refine (stm_new_ok N 50 w1 n1 n2 (by decide) (by decide)).mono ?_; rintro x w2 ⟨bb, f2, rfl, hS, hc, hf⟩
  have sK := Lib.hid (fun S => andSide (stmSide ba S) (boxSide w.heap.size (opO bad)))
  have P1 := Lib.hid (Pair.start (J' := JS bb (newS N 50)) (sK.out _) P0.out ⟨f2, hS, hc, hf⟩)
  have C2 := Lib.hid P1.out.chg
  clear hS hc hf
  go_wp2_with fail
  refine (SM.out w2 C2.out).mono ?_; rintro x w3 ⟨rfl, hc⟩
  have P2 := Lib.hid (Pair.keptN (stmSide bb (newS N 50)) (sK.out _) P1.out hc)
  have C3 := Lib.hid P2.out.chg
  clear hc x1
  have X4 := Lib.hid (Pair.boxAt P2.out)
  have x4 := blk_cell X4.out
  cases hsm : smallOps l1
  · go_wp2_with (go_at_call 10; refine (AW.out w3 C3.out).mono ?_; rintro x w4 ⟨rfl, hc4⟩; have C4 := Lib.hid (C3.out.thenSame hc4); clear hc4)
    go_ret
    exact ⟨rfl, C4.out.toBelow (Nat.le_refl _) (by simp)⟩
  have K5 := Lib.hid ((Chg.refl [] w3).alloc (opO bad))
  have SB := Lib.hid (smallOps_any (some ⟨w3.heap.size, 0, none⟩) 1 [bad] (w3.alloc (opO bad)) ⟨SlIs.ofBlock [bad] (heap_alloc_new w3 (opO bad)) opC_len (by simp [opC, evC]), fun x hx => by simp at hx; subst hx; exact w2'.2.kept (C3.out.thenSame K5.out)⟩)
  unfold opO at SB
  go_wp2_with fail
  refine SB.out.mono ?_; rintro x w5 ⟨rfl, hc⟩
  have P3 := Lib.hid (Pair.keptN (stmSide bb (newS N 50)) (sK.out _) P2.out (K5.out.thenSame hc))
  have C5 := Lib.hid P3.out.chg
  clear hc x4
  cases hsb : smallOps [bad]
  · go_wp2_with (go_at_call 10; refine (AW.out w5 C5.out).mono ?_; rintro x w4 ⟨rfl, hc4⟩; have C4 := Lib.hid (C5.out.thenSame hc4); clear hc4)
    go_ret
    exact ⟨rfl, C4.out.toBelow (Nat.le_refl _) (by simp)⟩
  have hbs : smallE bad.e.p = true := by
    unfold smallOps at hsb
    simpa using hsb
  have hll : l1.length ≤ 60 ∧ ∀ x ∈ l1, smallE x.e.p = true := by
    unfold smallOps at hsm
    simpa using hsm
  have sK2 := Lib.hid (fun S => andSide (stmSide bb S) (boxSide w.heap.size (opO bad)))
  have HG := Lib.hid (fun (x : OpS) (hx : x ∈ l1) => good_of (hg1 x hx) (hll.2 x hx))
  have HI := Lib.hid (fun (x : OpS) (hx : x ∈ l1) => (hg1 x hx).2)
  have HSL := Lib.hid hs1
  have hl60 := hll.1
  go_wp2_with fail
  go_loopw [59] (fun t wr => ∃ (k : Nat) (S : Stm), t = .int .i64 k ∧ k ≤ l1.length ∧ Hid (S.ok k) ∧ Hid (Pair w wr (JS bb S) (AndSide (JS ba S) (Box w.heap.size (opO bad))))) (fun t _ => l1.length - (intOf t).toNat)
  case atStart => exact ⟨0, newS N 50, rfl, Nat.zero_le _, Lib.hid (O.out N n1 n2), P3⟩
  case round =>
    obtain ⟨k, S, rfl, hk, HO, P⟩ := hrel
    have k0 : (0 : Int) ≤ (k : Int) := by omega
    by_cases hlt : k < l1.length
    · have D := Lib.hid P.out.chg
      obtain ⟨g1, o1, rfl, -, hbr, hcc⟩ := HSL.out.elem D.out k hlt
      have hgx := HG.out _ (List.getElem_mem hlt)
      have hix := HI.out _ (List.getElem_mem hlt)
      have k1 : (k : Int) < (l1.length : Int) := by omega
      have HE2 := Lib.hid (fun w' (hc : Chg [] w w') => HSL.out.elem hc k hlt)
      generalize l1[k] = x at *
      have d1 := hcc 1 (by omega)
      have d2 := hcc 2 (by omega)
      have d3 := hcc 3 (by omega)
      have d4 := hcc 4 (by omega)
      have d5 := hcc 5 (by omega)
      have d6 := hcc 6 (by omega)
      have d7 := hcc 7 (by omega)
      have d8 := hcc 8 (by omega)
      simp only [opC, evC, List.cons_append, List.nil_append, List.getElem?_cons_zero, List.getElem?_cons_succ, Nat.add_zero] at d1 d2 d3 d4 d5 d6 d7 d8
      clear hcc
      have HLW := Lib.hid (show ∀ y, x.e.ba = some y → 0 < x.e.p.body.length → y.block < w.heap.size from fun y hy h => by
        obtain ⟨q, o, e1, e2, _⟩ := hix.1.2 0 h
        rw [hy] at e1
        cases e1
        exact e2)
      go_upto_region 11 with fail
      go_still_tail 11, (by kernel_rfl)
      have P4 := Lib.hid (Pair.keptN (stmSide bb S) (sK.out S) P.out ((Chg.refl [] wr).drew)).swap
      have A := Lib.hid (p_append (n := k) (sK2.out S) P4.out (Chg.refl _ _) HO.out (by omega) ht x.e (hix.kept P4.out.chg) hgx (fun y hy hl => .inl (HLW.out y hy hl)) x.now)
      simp only [evC] at A
      change wpList _ _ _ _ _ wr.drew
      go_wp2_with fail
      refine A.out.mono ?_; rintro y w6 ⟨rfl, hP⟩
      have P5 := Lib.hid hP.swap
      clear hP A d1 d2 d3 d4 d5 d6 d7 d8
      have D6 := Lib.hid P5.out.chg
      obtain ⟨g2, o2, e2, -, hbr2, hcc⟩ := HE2.out _ D6.out
      cases e2
      have d1 := hcc 1 (by omega)
      have d2 := hcc 2 (by omega)
      have d3 := hcc 3 (by omega)
      have d4 := hcc 4 (by omega)
      have d5 := hcc 5 (by omega)
      have d6 := hcc 6 (by omega)
      have d7 := hcc 7 (by omega)
      have d8 := hcc 8 (by omega)
      simp only [opC, evC, List.cons_append, List.nil_append, List.getElem?_cons_zero, List.getElem?_cons_succ, Nat.add_zero] at d1 d2 d3 d4 d5 d6 d7 d8
      clear hcc
      go_upto_region 12 with fail
      go_still_tail 11, (by kernel_rfl)
      have P6 := Lib.hid (Pair.keptN (stmSide bb S) (sK.out _) P5.out ((Chg.refl [] w6).drew))
      have A := Lib.hid (p_append (n := k) (sK.out _) P6.out (Chg.refl _ _) HO.out (by omega) ht x.e (hix.kept P6.out.chg) hgx (fun y hy hl => .inl (HLW.out y hy hl)) x.now)
      simp only [evC] at A
      change wpList _ _ _ _ _ w6.drew
      go_wp2_with fail
      refine A.out.mono ?_; rintro y w7 ⟨rfl, hP⟩
      have P7 := Lib.hid hP
      have O7 := Lib.hid (appR_ok HO.out x.e.p hgx.2.2.2.2.2.1 x.now)
      clear hP A d1 d2 d3 d4 d5 d6 d7 d8
      go_wp2_with fail
      exact ⟨⟨k + 1, _, by go_num, by omega, O7, P7⟩, by simp [intOf]; omega⟩
    · have hkn : ¬ ((k : Int) < (l1.length : Int)) := by omega
      have O1 := Lib.hid (HO.out.mono (show k ≤ 100 by omega))
      have X9 := Lib.hid (Pair.boxAt P.out)
      have x9 := blk_cell X9.out
      unfold opO at x9
      have hgb := good_of w2' hbs
      have HLW := Lib.hid (show ∀ y, bad.e.ba = some y → 0 < bad.e.p.body.length → y.block < w.heap.size from fun y hy h => by
        obtain ⟨q, o, e1, e2, _⟩ := w2'.2.1.2 0 h
        rw [hy] at e1
        cases e1
        exact e2)
      have A := Lib.hid (p_append (n := 100) (sK2.out S) P.out.swap (Chg.refl _ _) O1.out (by omega) ht bad.e (w2'.2.kept P.out.chg) hgb (fun y hy hl => .inl (HLW.out y hy hl)) bad.now)
      simp only [evC] at A
      clear HO
      go_wp2_with fail
      refine A.out.mono ?_; rintro y w6 ⟨rfl, hP⟩
      have P5 := Lib.hid hP.swap
      have C6 := Lib.hid P5.out.chg
      clear hP A x9
      by_cases hz : (appR S bad.e.p bad.now).1.2.2 = 0
      · generalize (appR S bad.e.p bad.now).1.2.2 = z at *
        subst hz
        go_wp2_with (go_at_call 10; refine (AW.out w6 C6.out).mono ?_; rintro x w4 ⟨rfl, hc4⟩; have C4 := Lib.hid (C6.out.thenSame hc4); clear hc4)
        go_ret
        exact ⟨rfl, C4.out.toBelow (Nat.le_refl _) (by simp)⟩
      have HS := Lib.hid (appR_err hz)
      rw [HS.out] at P5
      have hz' : ((appR S bad.e.p bad.now).1.2.2 == 0) = false := by simpa using hz
      generalize (appR S bad.e.p bad.now).1.2.2 = z at *
      go_wp2_with fail
      go_loopw [101] (fun t wr => ∃ j : Nat, t = .int .i64 j ∧ (j : Int) ≤ N ∧ Hid (Pair w wr (JS bb S) (AndSide (JS ba S) (Box w.heap.size (opO bad))))) (fun t _ => N.toNat - (intOf t).toNat)
      case atStart => exact ⟨0, rfl, by omega, P5⟩
      case round =>
        obtain ⟨j, rfl, hj, Q⟩ := hrel
        have j0 : (0 : Int) ≤ (j : Int) := by omega
        by_cases hjn : (j : Int) < N
        · go_wp2_with fail
          refine (p_read (n := 100) (sK2.out S) Q.out.swap O1.out (by omega) j 0 256).mono ?_; rintro y w7 ⟨ra, rc, M, rfl, hM, hP⟩
          have Q2 := Lib.hid hP.swap3
          have M1 := Lib.hid hM
          clear hP hM
          have sR := Lib.hid (andSide (sK.out S) (recSide ra M))
          generalize (readR S (j : Int) 0 256).2 = z2 at *
          go_wp2_with fail
          refine (p_read (n := 100) sR.out Q2.out O1.out (by omega) j 0 256).mono ?_; rintro y w8 ⟨rb, rd, M', rfl, hM, hP⟩
          have Q3 := Lib.hid hP
          have M2 := Lib.hid hM
          clear hP hM
          have hb1 := readR_bodies O1.out (j : Int) 0 256
          have l1' : M.length = (readR S (j : Int) 0 256).1.length := by rw [← M1.out, List.length_map]
          have l2' : M'.length = (readR S (j : Int) 0 256).1.length := by rw [← M2.out, List.length_map]
          have hbb : ∀ (M : List Rc), M.map Rc.p = (readR S (j : Int) 0 256).1 → ∀ r ∈ M, r.e.p.body.length ≤ 1048576 := fun M h r hr => hb1.1 r.p (h ▸ List.mem_map_of_mem hr)
          have RS := Lib.hid (rsame_any ra rc M rb rd M' w8 (pair_recs2 Q3.out) (pair_recs Q3.out) (hbb M M1.out) (hbb M' M2.out) (by omega) (by omega))
          rw [same_of_map (M1.out.trans M2.out.symm)] at RS
          clear hb1 l1' l2' hbb
          generalize (readR S (j : Int) 0 256).2 = z3 at *
          go_wp2_with fail
          refine RS.out.mono ?_; rintro y w9 ⟨rfl, hc⟩
          have Q4 := Lib.hid (Pair.keptN (stmSide bb S) (sK.out S) (Pair.dropR (Pair.dropR Q3.out)) hc)
          clear hc RS
          go_wp2_with fail
          exact ⟨⟨j + 1, by go_num, by omega, Q4⟩, by simp [intOf]; omega⟩
        · have hjn2 : ¬ ((j : Int) < N) := hjn
          go_wp2_with fail
          obtain ⟨ez, hez⟩ : ∃ ez, ez = exP { data := #[122] } := ⟨_, rfl⟩
          have EG := Lib.hid (show ez.good by rw [hez]; exact ex_good _ (by decide))
          refine (example_any _ _).mono ?_; rintro x w7 ⟨e1, rfl, he1, hi1, hn1, hc1⟩
          have HEZ := Lib.hid hez
          rw [← hez] at he1
          clear hez
          obtain ⟨p1, ba1, bc1⟩ := e1
          simp only at he1 hi1 hn1
          subst he1
          have A := Lib.hid (p_append (n := 100) (sK2.out S) Q.out.swap hc1 O1.out (by omega) ht ⟨p1, ba1, bc1⟩ hi1 EG.out (fun y hy hl => .inr (hn1 y hy)) 1000)
          simp only [evC] at A
          generalize hR : appR S p1 1000 = R at A
          obtain ⟨⟨r1, r2, r3⟩, S2⟩ := R
          have HR := Lib.hid hR
          simp only at A
          clear hR
          simp only [evC]
          go_wp2_with fail
          refine A.out.mono ?_; rintro y w8 ⟨rfl, hP⟩
          have P8 := Lib.hid hP.swap
          clear hP A hc1 hn1 hi1
          go_wp2_with fail
          refine (example_any _ _).mono ?_; rintro x w9 ⟨e2, rfl, he1, hi1, hn1, hc1⟩
          rw [← HEZ.out] at he1
          obtain ⟨p2, ba2, bc2⟩ := e2
          simp only at he1 hi1 hn1
          subst he1
          have A := Lib.hid (p_append (n := 100) (sK.out _) P8.out hc1 O1.out (by omega) ht ⟨p2, ba2, bc2⟩ hi1 EG.out (fun y hy hl => .inr (hn1 y hy)) 1000)
          simp only [evC] at A
          rw [HR.out] at A
          simp only at A
          simp only [evC]
          go_wp2_with fail
          refine A.out.mono ?_; rintro y w10 ⟨rfl, hP⟩
          have C10 := Lib.hid hP.chg
          clear hP A hc1 hn1 hi1
          go_wp2_with (go_at_call 10; refine (AW.out w10 C10.out).mono ?_; rintro x w4 ⟨rfl, hc4⟩; have C4 := Lib.hid (C10.out.thenSame hc4); clear hc4)
          go_ret
          exact ⟨rfl, C4.out.toBelow (Nat.le_refl _) (by simp)⟩
end Go.Proofs.YtmichbpfmachcaaDoor
