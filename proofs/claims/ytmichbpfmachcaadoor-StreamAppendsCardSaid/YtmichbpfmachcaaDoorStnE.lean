/- Chapter 30: the walk of StreamAppends. Condition: the table of Itoa lies as the program lays it. -/
import Derived.StillTailTactics
import Derived.Test.YtmichbpfmachcaaDoorStnA
import Derived.Test.YtmichbpfmachcaaDoorStnD
namespace Go.Proofs.YtmichbpfmachcaaDoor
set_option linter.unusedVariables false
set_option linter.unusedSimpArgs false
open Go.RowKit
theorem evsInfo : (Tryd.prog.info? 50).map (fun i => (i.zero, i.size, i.bytes)) = some (some (.slice none 0 0), 1, 24) := by kernel_rfl
/-- What holds ahead of each operation. -/
structure AppInv (w : World) (m k : Nat) (S : Stm) (D : List (Rr Ev)) : Prop where
  ok : S.ok k
  fine : S.fine
  len : S.sh.length = m
  hist : Hist S D
  bodies : ∀ d ∈ D, ∀ e ∈ d.L, InIs ceC 4 w e.ba e.bc e.p.body ∧ e.p.body.length ≤ 60
  short : ∀ d ∈ D, d.L.length ≤ k
theorem AppInv.up {w : World} {m k : Nat} {S : Stm} {D : List (Rr Ev)} (h : AppInv w m k S D) : AppInv w m (k + 1) S D :=
  ⟨h.ok.mono (by omega), h.fine, h.len, h.hist, h.bodies, fun d hd => Nat.le_succ_of_le (h.short d hd)⟩
theorem AppInv.err {w : World} {m k : Nat} {S : Stm} {D : List (Rr Ev)} (h : AppInv w m k S D) {e : PEv} {now : Int} (he : (appR S e now).1.2.2 ≠ 0) : AppInv w m (k + 1) (appR S e now).2 D := by
  rw [appR_err he]; exact h.up
theorem AppInv.trim {w : World} {m k : Nat} {S : Stm} {D : List (Rr Ev)} (h : AppInv w m k S D) (now : Int) : AppInv w m (k + 1) (trimR S now).2 D :=
  ⟨(trimR_ok h.ok now).mono (by omega), trimR_fine h.fine now, (trimR_len S now).trans h.len, hist_trim h.hist now, h.bodies, fun d hd => Nat.le_succ_of_le (h.short d hd)⟩
theorem AppInv.app {w : World} {m k : Nat} {S : Stm} {D : List (Rr Ev)} (h : AppInv w m k S D) {e : Ev} (hi : InIs ceC 4 w e.ba e.bc e.p.body) (hb : e.p.body.length ≤ 60) {now : Int} {q : Nat} (hq : q < D.length) {a' : Option Addr} {c' : Nat} (hh : Hist (appR S e.p now).2 (D.set q ⟨a', c', (D[q]).L ++ [e]⟩)) : AppInv w m (k + 1) (appR S e.p now).2 (D.set q ⟨a', c', (D[q]).L ++ [e]⟩) := by
  refine ⟨appR_ok h.ok e.p (by omega) now, appR_fine h.fine (fun key => (bucketZ_bounds key (by have := h.ok.1; omega)).1) e.p now, (appR_len S e.p now).trans h.len, hh, fun d hd x hx => ?_, fun d hd => ?_⟩
  · rcases List.mem_or_eq_of_mem_set hd with hd | rfl
    · exact h.bodies d hd x hx
    · rcases List.mem_append.1 hx with hx | hx
      · exact h.bodies _ (List.getElem_mem hq) x hx
      · simp at hx; subst hx; exact ⟨hi, hb⟩
  · rcases List.mem_or_eq_of_mem_set hd with hd | rfl
    · exact Nat.le_succ_of_le (h.short d hd)
    · have := h.short _ (List.getElem_mem hq)
      simp only [List.length_append, List.length_singleton]; omega
/-- The slices beside a stream. -/
theorem pair_rr {W w : World} {J : List Nat → World → Prop} {g : Nat} {D : List (Rr Ev)} (h : Pair W w J (JRr evC 7 50 25 g D)) : ∃ f, RrAt evC 7 50 25 w g D f ∧ ∀ x ∈ f, W.heap.size ≤ x := by
  obtain ⟨f, g, h1, h2, h3, h4, -⟩ := h
  exact ⟨g, h2, h4⟩
theorem small_body {e : PEv} (h : smallE e = true) : e.body.length ≤ 60 := by
  unfold smallE at h
  simp only [Bool.and_eq_true, decide_eq_true_eq] at h
  exact h.1.2
set_option maxHeartbeats 16000000 in
set_option maxRecDepth 100000 in
theorem appends_walk (a0 : Int) (a1 : Int) (a2 : Option Addr) (len2 cap2 : Nat) (l2 : List OpS) (w : World) (w0 : (Lit.int .u8 a0).wf = true) (w1 : (Lit.int .u8 a1).wf = true) (w2 : SlIs opC 12 w a2 len2 l2 ∧ (∀ x ∈ l2, x.good w) ∧ len2 ≤ maxLen ∧ len2 ≤ cap2) (ht : TabW w) :
    Calls Tryd.prog 5 #[.int .u8 a0, .int .u8 a1, .slice a2 len2 cap2] w fun e w' => e = .returned (.bool true) ∧ Below w.heap.size w w' := by
  obtain ⟨hs2, hg2, -, -⟩ := w2
  have hl2 : l2.length = len2 := hs2.1
  subst hl2
  obtain ⟨b0, b1⟩ : IntKind.u8.min ≤ a0 ∧ a0 ≤ IntKind.u8.max := by simpa [Lit.wf] using w0
  obtain ⟨b2, b3⟩ : IntKind.u8.min ≤ a1 ∧ a1 ≤ IntKind.u8.max := by simpa [Lit.wf] using w1
  have b0 : 0 ≤ a0 := b0
  have b1 : a0 ≤ 255 := b1
  have b2 : 0 ≤ a1 := b2
  have b3 : a1 ≤ 255 := b3
  obtain ⟨m, hm⟩ : ∃ m : Nat, (m : Int) = 1 + a0 % 8 := ⟨(1 + a0 % 8).toNat, by omega⟩
  have m1 : 1 ≤ (m : Int) := by omega
  have m8 : (m : Int) ≤ 8 := by omega
  have HMM := Lib.hid hm
  have O := Lib.hid (newS_ok (m : Int) (1 + a1) m1 m8 (by omega) (by omega))
  have AW := Lib.hid (fun w' (hc : Chg [] w w') => awake_any w' (ht.kept hc))
  have SM := Lib.hid (fun w' (hc : Chg [] w w') => smallOps_any a2 cap2 l2 w' ⟨hs2.kept hc, fun x hx => (hg2 x hx).2.kept hc⟩)
  clear w0 w1 hm
  go_enter Tryd.func5, Tryd.ntmps5
  go_wp2_with fail
  rw [← HMM.out]
  refine (stm_new_ok (m : Int) (1 + a1) w m1 m8 (by omega) (by omega)).mono ?_; rintro x w1 ⟨b, f, rfl, hS, hc, hf⟩
  have P0 := Lib.hid (Pair.first (W := w) (w := w) (w' := w1) (J' := JS b (newS (m : Int) (1 + a1))) (Chg.refl _ _) ⟨f, hS, hc, hf⟩)
  have C1 := Lib.hid P0.out.chg
  clear hS hc hf
  go_wp2_with fail
  refine (SM.out w1 C1.out).mono ?_; rintro x w3 ⟨rfl, hc⟩
  have P2 := Lib.hid (Pair.keptN (stmSide b _) noSide P0.out hc)
  have C3 := Lib.hid P2.out.chg
  clear hc
  cases hsm : smallOps l2
  · go_wp2_with (go_at_call 10; refine (AW.out w3 C3.out).mono ?_; rintro x w4 ⟨rfl, hc4⟩; have C4 := Lib.hid (C3.out.thenSame hc4); clear hc4)
    go_ret
    exact ⟨rfl, C4.out.toBelow (Nat.le_refl _) (by simp)⟩
  have hll : l2.length ≤ 60 ∧ ∀ x ∈ l2, smallE x.e.p = true := by
    unfold smallOps at hsm
    simpa using hsm
  have HG := Lib.hid (fun (x : OpS) (hx : x ∈ l2) => good_of (hg2 x hx) (hll.2 x hx))
  have HSB := Lib.hid (fun (x : OpS) (hx : x ∈ l2) => small_body (hll.2 x hx))
  have HI := Lib.hid (fun (x : OpS) (hx : x ∈ l2) => (hg2 x hx).2)
  have HSL := Lib.hid hs2
  have hl60 := hll.1
  clear hll hg2 hs2 hsm
  go_wp2_with (at_make; refine wpl_make (cf := rrC) rfl _ _ 49 rfl 0 50 _ 24 Tryd.underlying49 evsInfo (⟨none, 0, []⟩ : Rr Ev) rfl rfl m rfl rfl (by omega) (by unfold maxLen; omega) (Nat.zero_le _) ?_; intro w4 hr hc hlt)
  obtain ⟨g, hg⟩ : ∃ g, g = w3.heap.size := ⟨_, rfl⟩
  rw [← hg] at hr hlt ⊢
  have P4 := Lib.hid (Pair.start (J' := JRr evC 7 50 25 g (List.replicate m (⟨none, 0, []⟩ : Rr Ev))) (stmSide b (newS (m : Int) (1 + a1))) P2.out ⟨[g], RrAt.made hr hlt, hc, fun x hx => by simp at hx; omega⟩).symm
  clear hr hc hlt hg
  have sR := Lib.hid (fun (D : List (Rr Ev)) => rrSide (cf := evC) (sz := 7) (ts := 50) (te := 25) g D)
  go_wp2_with fail
  go_loopw [51] (fun t wr => ∃ (k : Nat) (S : Stm) (D : List (Rr Ev)), t = .int .i64 k ∧ k ≤ l2.length ∧ Hid (AppInv w m k S D) ∧ Hid (Pair w wr (JS b S) (JRr evC 7 50 25 g D))) (fun t _ => l2.length - (intOf t).toNat)
  case atStart => exact ⟨0, newS (m : Int) (1 + a1), _, rfl, Nat.zero_le _, Lib.hid ⟨O.out, newS_fine _ _, by simp [newS], hist_new m _, fun d hd e he => (by rw [List.eq_of_mem_replicate hd] at he; simp at he), fun d hd => (by rw [List.eq_of_mem_replicate hd]; simp)⟩, P4⟩
  case round =>
    obtain ⟨k, S, D, rfl, hk, HO, P⟩ := hrel
    have k0 : (0 : Int) ≤ (k : Int) := by omega
    by_cases hlt : k < l2.length
    · have C := Lib.hid P.out.chg
      have k1 : (k : Int) < (l2.length : Int) := by omega
      have HE2 := Lib.hid (fun w' (hc : Chg [] w w') => HSL.out.elem hc k hlt)
      obtain ⟨g1, o1, rfl, hb1, hbr, hcc0⟩ := HSL.out.elem C.out k hlt
      have hgx := HG.out _ (List.getElem_mem hlt)
      have hix := HI.out _ (List.getElem_mem hlt)
      have hbx := HSB.out _ (List.getElem_mem hlt)
      generalize l2[k] = x at *
      have d0 := hcc0 0 (by omega)
      simp only [opC, List.getElem?_cons_zero, Nat.add_zero] at d0
      clear hcc0
      have HSS := Lib.hid (opCells8 x (fun w' (hc : Chg [] w w') => by
        obtain ⟨g2, o2, e2, -, -, hcc⟩ := HE2.out w' hc
        cases e2
        exact hcc))
      obtain ⟨d1, d2, d3, d4, d5, d6, d7, d8⟩ := HSS.out wr C.out
      have HLW := Lib.hid (show ∀ y, x.e.ba = some y → 0 < x.e.p.body.length → y.block < w.heap.size from fun y hy h => by
        obtain ⟨q, o, e1, e2, _⟩ := hix.1.2 0 h
        rw [hy] at e1
        cases e1
        exact e2)
      have P5 := Lib.hid (Pair.keptN (stmSide b S) (sR.out D) P.out ((Chg.refl [] wr).drew))
      by_cases hk0 : x.kind = 0
      · have A := Lib.hid (p_append (n := k) (sR.out D) P5.out (Chg.refl _ _) HO.out.ok (by omega) ht x.e (hix.kept P5.out.chg) hgx (fun y hy hl => .inl (HLW.out y hy hl)) x.now)
        simp only [evC] at A
        rw [hk0] at d0
        go_wp2_with fail
        go_region_held3 (fun w' => w'.cell? ⟨g1, o1 + k * 12 + 1, none⟩ = some (.string x.e.p.id) ∧ w'.cell? ⟨g1, o1 + k * 12 + 2, none⟩ = some (.string x.e.p.tn) ∧ w'.cell? ⟨g1, o1 + k * 12 + 3, none⟩ = some (.string x.e.p.src) ∧ w'.cell? ⟨g1, o1 + k * 12 + 4, none⟩ = some (.string x.e.p.key) ∧ w'.cell? ⟨g1, o1 + k * 12 + 5, none⟩ = some (.int .i64 x.e.p.at_) ∧ w'.cell? ⟨g1, o1 + k * 12 + 6, none⟩ = some (.string x.e.p.cause) ∧ w'.cell? ⟨g1, o1 + k * 12 + 7, none⟩ = some (.slice x.e.ba x.e.p.body.length x.e.bc) ∧ w'.cell? ⟨g1, o1 + k * 12 + 8, none⟩ = some (.int .i64 x.now))
          (first | exact HSS.out _ D6.out | exact HSS.out _ (C.out.thenSame ((Chg.refl [] wr).drew)))
          (first | (go_at_call 11; refine A.out.mono ?_; rintro y w6 ⟨rfl, hP⟩; have P6 := Lib.hid hP; have D6 := Lib.hid P6.out.chg; clear hP A))
        by_cases hz : (appR S x.e.p x.now).1.2.2 = 0
        · obtain ⟨q, hq, e1, e2, e3, hh⟩ := hist_app HO.out.ok HO.out.hist x.e x.now hz
          have HA := Lib.hid (fun a' c' => HO.out.app hix hbx hq (hh a' c'))
          have OK := Lib.hid (appR_ok HO.out.ok x.e.p (by omega) x.now)
          have HL := Lib.hid ((appR_len S x.e.p x.now).trans HO.out.len)
          obtain ⟨fs, hfs⟩ := p_is P6.out
          have SH := Lib.hid (stm_shard x.e.p.key hgx.2.2.2.1 hfs OK.out)
          rw [appR_len S x.e.p x.now, e2] at SH
          rw [e1, e3, hz]
          obtain ⟨fr, hR, hfr⟩ := pair_rr P6.out
          have hDm : D.length = m := HO.out.hist.len.trans HO.out.len
          have hsh := HO.out.short _ (List.getElem_mem hq)
          have c6 := hR.cell q hq
          obtain ⟨cur, hX6⟩ := rowBlk hR.row rfl
          have X6 := Lib.hid hX6
          have hcur : cur[q]? = some (.slice (D[q]).a (D[q]).L.length (D[q]).c) := (blk_cell hX6 q).symm.trans c6
          have HN := Lib.hid (hR.out _ (List.getElem_mem hq))
          have RW := Lib.hid (hR.rows _ (List.getElem_mem hq))
          have HS := Lib.hid (show ∀ w', Chg (g :: (D[q]).v.ownBlock.toList) w6 w' → EvAt w' g1 (o1 + k * 12) x.e from fun w' hc => by
            have hc2 : Chg [] w w' := D6.out.then hc (fun y hy hlt => by
              exfalso
              have : w.heap.size ≤ y := by
                rcases List.mem_cons.1 hy with rfl | hy
                · exact hfr _ hR.ing
                · exact hfr _ (hR.inr _ (List.getElem_mem hq) y (by simpa using hy))
              omega)
            obtain ⟨q1, q2, q3, q4, q5, q6, q7, q8⟩ := HSS.out w' hc2
            exact ⟨q1, q2, q3, q4, q5, q6, q7⟩)
          have HT := Lib.hid (fun (wy : World) (a' : Option Addr) (c' : Nat) (hA : ApdE w6 wy (D[q]).v (D[q]).L x.e a' c') => (Pair.turn (J' := JRr evC 7 50 25 g (D.set q ⟨a', c', (D[q]).L ++ [x.e]⟩)) (w' := wy.setCell ⟨g, q, none⟩ (.slice a' ((D[q]).L ++ [x.e]).length c')) (stmSide b _) P6.out.symm (fun f hf _ => RrAt.put hf q hq a' c' ((D[q]).L ++ [x.e]) hA.chg hA.row hA.lies)).symm)
          have q0 : 0 ≤ (q : Int) := by omega
          have qm : (q : Int) < (m : Int) := by omega
          clear hh e1 e2 e3 hR hX6 hfr hfs hz
          generalize (appR S x.e.p x.now).2 = S2 at *
          generalize D[q] = dq at *
          obtain ⟨a, c, L⟩ := dq
          simp only [Rr.v] at *
          obtain ⟨e1, e2, e3, e4, e5, e6, e7, e8⟩ := HSS.out w6 D6.out
          clear d0 d1 d2 d3 d4 d5 d6 d7 d8
          go_upto_region 15 with (go_at_call 18; refine SH.out.mono ?_; rintro y w7 ⟨rfl, rfl⟩)
          refine apps_r15 (by kernel_rfl) HS rfl (by omega) (by omega) (by omega) (by omega) X6 hcur HN RW (by omega) _ ?_
          intros
          rename_i wy a' c' hA
          have P7 := Lib.hid (HT.out wy a' c' hA.out)
          rw [show (L ++ [x.e]).length = L.length + 1 by simp] at P7
          go_wp2_with fail
          exact ⟨⟨k + 1, _, _, by go_num, by omega, Lib.hid (HA.out a' c'), P7⟩, by simp [intOf]; omega⟩
        · have HA := Lib.hid (HO.out.err hz)
          generalize (appR S x.e.p x.now).1.2.2 = z at *
          go_wp2_with fail
          exact ⟨⟨k + 1, _, D, by go_num, by omega, HA, P6⟩, by simp [intOf]; omega⟩
      · by_cases hk2 : x.kind = 2
        · have A := Lib.hid (p_trim (n := k) (sR.out D) P.out HO.out.ok (by omega) x.now)
          have HA := Lib.hid (HO.out.trim x.now)
          rw [hk2] at d0
          go_wp2_with fail
          refine A.out.mono ?_; rintro y w6 ⟨rfl, hP⟩
          have P6 := Lib.hid hP
          clear hP A
          go_wp2_with fail
          exact ⟨⟨k + 1, _, D, by go_num, by omega, HA, P6⟩, by simp [intOf]; omega⟩
        · have e0 : (x.kind == 0) = false := by simpa using hk0
          have e2 : (x.kind == 2) = false := by simpa using hk2
          have HA := Lib.hid HO.out.up
          generalize x.kind = kd at *
          go_wp2_with fail
          exact ⟨⟨k + 1, _, D, by go_num, by omega, HA, P⟩, by simp [intOf]; omega⟩
    · have hkn : ¬ ((k : Int) < (l2.length : Int)) := by omega
      have O1 := Lib.hid (HO.out.ok.mono (show k ≤ 100 by omega))
      have hDm : D.length = m := HO.out.hist.len.trans HO.out.len
      have HSH := Lib.hid (fun (j : Nat) (hj : j < D.length) => hist_shard HO.out.ok HO.out.fine HO.out.hist j hj)
      have HBD := Lib.hid (show ∀ j (hj : j < D.length), (∀ e ∈ (D[j]).L, InIs ceC 4 w e.ba e.bc e.p.body ∧ e.p.body.length ≤ 60) ∧ (D[j]).L.length ≤ 60 from fun j hj => ⟨HO.out.bodies _ (List.getElem_mem hj), by have := HO.out.short _ (List.getElem_mem hj); omega⟩)
      clear HO
      go_wp2_with fail
      go_loopw [133] (fun t wr => ∃ j : Nat, t = .int .i64 j ∧ j ≤ m ∧ Hid (Pair w wr (JS b S) (JRr evC 7 50 25 g D))) (fun t _ => m - (intOf t).toNat)
      case atStart => exact ⟨0, rfl, Nat.zero_le _, P⟩
      case round =>
        obtain ⟨j, rfl, hj, Q⟩ := hrel
        have j0 : (0 : Int) ≤ (j : Int) := by omega
        by_cases hjm : j < m
        · have hjD : j < D.length := by omega
          have j1 : (j : Int) < (m : Int) := by omega
          obtain ⟨fs, R, e1, e2, e3, e4, e5, e6⟩ := HSH.out j hjD
          obtain ⟨hbd, hsh⟩ := HBD.out j hjD
          obtain ⟨fp, hfp⟩ := p_is Q.out
          obtain ⟨fr, hR, hfr⟩ := pair_rr Q.out
          have c6 := hR.cell j hjD
          have A1 := Lib.hid (stm_first (j : Int) hfp O1.out)
          have A2 := Lib.hid (stm_next (n := 100) (j : Int) hfp O1.out (by omega))
          rw [e1] at A1
          rw [e2] at A2
          have E4 := Lib.hid e4
          have E6 := Lib.hid e6
          have HBB := Lib.hid hbd
          have RB := Lib.hid (readR_bodies O1.out (j : Int) fs 256)
          rw [e4] at RB
          clear e1 e2 e4 e6 hbd hfp hR hfr
          go_wp2_with fail
          refine A1.out.mono ?_; rintro y w5 ⟨rfl, rfl⟩
          go_wp2_with fail
          refine A2.out.mono ?_; rintro y w5 ⟨rfl, hc⟩
          have Q5 := Lib.hid (Pair.keptN (stmSide b S) (sR.out D) Q.out hc)
          obtain ⟨fr, hR, hfr⟩ := pair_rr Q5.out
          have c7 := hR.cell j hjD
          clear hc c6 hR hfr
          generalize hdj : D[j] = dj at *
          have HDJ := Lib.hid hdj
          clear hdj
          have l0 : 0 ≤ (dj.L.length : Int) := by omega
          have f1 : (fs : Int) ≤ (dj.L.length : Int) := by omega
          have f0 : 0 ≤ (fs : Int) := by omega
          go_wp2_with fail
          refine (p_read (n := 100) (sR.out D) Q5.out O1.out (by omega) j fs 256).mono ?_; rintro y w7 ⟨ra, rc, M, rfl, hM, hP⟩
          rw [E4.out] at hM ⊢
          have hML : M.length = dj.L.length - fs := by have := congrArg List.length hM; simp at this; omega
          have HM := Lib.hid hM
          have Q7 := Lib.hid hP
          clear hP hM c7
          have hml : ((M.length : Int) != ((dj.L.length : Int) - (fs : Int))) = false := by rw [bne, beq_iff_eq.2 (by omega)]; rfl
          rw [hML] at hml ⊢
          have HMP := Lib.hid (show ∀ (z : Nat) (h1 : z < M.length) (h2 : z < R.length), (M[z]).p = R[z] from fun z h1 h2 => by
            have := congrArg (fun l => l[z]?) HM.out
            simp only [List.getElem?_map, List.getElem?_eq_getElem h1, List.getElem?_eq_getElem h2, Option.map_some] at this
            exact Option.some.inj this)
          have RI := Lib.hid (pair_recs Q7.out)
          obtain ⟨fr, hR, hfr⟩ := pair_rr (Pair.dropR Q7.out)
          have C7 := Lib.hid Q7.out.chg
          have c7 := Lib.hid (hR.cell j hjD)
          have SL := Lib.hid (hR.sl evC_len j hjD)
          have GL := Lib.hid (hR.lt g hR.ing)
          rw [HDJ.out] at c7 SL
          clear hR hfr
          go_wp2_with fail
          go_loopw [191] (fun t wr => ∃ i : Nat, t = .int .i64 i ∧ i ≤ dj.L.length - fs ∧ Hid (Chg [] w7 wr)) (fun t _ => (dj.L.length - fs) - (intOf t).toNat)
          case atStart => exact ⟨0, rfl, Nat.zero_le _, Lib.hid (Chg.refl _ _)⟩
          case round =>
            obtain ⟨i, rfl, hi, V⟩ := hrel
            have i0 : (0 : Int) ≤ (i : Int) := by omega
            by_cases hil : i < dj.L.length - fs
            · have hiM : i < M.length := by omega
              have hiR : i < R.length := by omega
              obtain ⟨q1, q2, ⟨hq3, q4⟩, q5⟩ := E6.out i hiR
              have hp1 := HMP.out i hiM hiR
              have i1 : (i : Int) < ((dj.L.length - fs : Nat) : Int) := by omega
              have i60 : (i : Int) ≤ 60 := by omega
              obtain ⟨g3, o3, hra, -, hbr3, hcc⟩ := RI.out.1.elem V.out i hiM
              obtain ⟨g4, o4, hda, -, hbr4, hee⟩ := SL.out.elem V.out (fs + i) hq3
              have hx1 := (RI.out.2 _ (List.getElem_mem hiM)).kept V.out
              have hy1 := (HBB.out _ (List.getElem_mem hq3)).1.kept (C7.out.thenSame V.out)
              have hy2 := (HBB.out _ (List.getElem_mem hq3)).2
              have hx2 : (M[i]).e.p.body.length ≤ 1048576 := RB.out.1 _ (by rw [← HM.out]; exact List.mem_map_of_mem (List.getElem_mem hiM))
              have hsq : (M[i]).sq = (fs : Int) + (i : Int) := by rw [← q1, ← hp1]; rfl
              have hsh2 : (M[i]).sh = (j : Int) := by rw [← q2, ← hp1]; rfl
              have hev : (M[i]).e.p = (dj.L[fs + i]).p := by rw [← q4, ← hp1]; rfl
              have hat : ∀ (z : Nat) (hz : z < M.length), z < i → (M[z]).at_ ≤ (M[i]).at_ := fun z hz hzi => by
                have := q5 z (by omega) hzi
                rw [← HMP.out z hz (by omega), ← hp1] at this
                exact this
              have HAT := Lib.hid hat
              clear q1 q2 q4 q5 hp1 hat
              have gc := fun d os => ((below_regrown wr d os).cell (p := ⟨g, j, none⟩) (V.out.lt GL.out)).trans ((World.cell?_of_block (w := w7) (a := ⟨g, j, none⟩) (V.out.block g GL.out (by simp))).trans c7.out)
              have f1 := fun z (hz : z < 10) d os => ((below_regrown wr d os).cell (p := ⟨g3, o3 + i * 10 + z, none⟩) hbr3).trans (hcc z hz)
              have f2 := fun z (hz : z < 7) d os => ((below_regrown wr d os).cell (p := ⟨g4, o4 + (fs + i) * 7 + z, none⟩) hbr4).trans (hee z hz)
              have RIH := Lib.hid (fun z (hz : z < M.length) => RI.out.1.elem V.out z hz)
              generalize hMi : M[i] = x at *
              generalize dj.L[fs + i] = y at *
              have HB := Lib.hid (fun d os => calls_regrown (esame_any x.e y (Go.Sort.grow (redrawn wr d) os) (hx1.kept (chg_regrown wr d os)) (hy1.kept (chg_regrown wr d os)) hx2 (by omega)))
              rw [hev, evE_refl] at HB
              simp only [evC] at HB
              have d0 := f1 0 (by omega)
              have d1 := f1 1 (by omega)
              have d3 := f1 3 (by omega)
              have d4 := f1 4 (by omega)
              have d5 := f1 5 (by omega)
              have d6 := f1 6 (by omega)
              have d7 := f1 7 (by omega)
              have d8 := f1 8 (by omega)
              have d9 := f1 9 (by omega)
              have d2 := f1 2 (by omega)
              have e0 := f2 0 (by omega)
              have e1 := f2 1 (by omega)
              have e2 := f2 2 (by omega)
              have e3 := f2 3 (by omega)
              have e4 := f2 4 (by omega)
              have e5 := f2 5 (by omega)
              have e6 := f2 6 (by omega)
              obtain ⟨p, hp⟩ : ∃ p, p = fs + i := ⟨_, rfl⟩
              have hpI : (fs : Int) + (i : Int) = (p : Int) := by omega
              have p0 : 0 ≤ (p : Int) := by omega
              have p1 : (p : Int) < (dj.L.length : Int) := by omega
              rw [← hp] at e0 e1 e2 e3 e4 e5 e6
              simp only [rcC, evC, List.getElem?_cons_zero, List.getElem?_cons_succ, Nat.add_zero] at d0 d1 d2 d3 d4 d5 d6 d7 d8 d9 e0 e1 e2 e3 e4 e5 e6
              rw [hsh2] at d0
              rw [hsq, hpI] at d1
              rw [hev] at d3 d4 d5 d6 d7 d8 d9 HB
              rw [hda] at gc
              clear hcc hee f1 f2 hx1 hx2 hy1 hy2 hsq hsh2 hev hp hq3
              have hpp : ((p : Int) != (p : Int)) = false := by simp
              have hjj : ((j : Int) != (j : Int)) = false := by simp
              by_cases hiz : i = 0
              · have hi0 : ¬ (0 < i) := by omega
                clear hMi RIH hiz HAT hiM hiR
                go_wp2_with fail
                refine wp_region_quiet_below (by kernel_rfl) (by kernel_rfl) ?_
                repeat (any_goals (first | go_big_quiet_step (exact HB.out _ _) | quiet_step (exact HB.out _ _)))
                refine wpQuiet_nil ?_
                intro _ hw'
                obtain ⟨⟨dq, osq⟩, hw''⟩ := hw'
                subst hw''
                change Exit.then _ _ Exit.normal _ (Go.Sort.grow (redrawn wr dq) osq)
                go_wp2_with fail
                exact ⟨⟨i + 1, by go_num, by omega, Lib.hid (V.out.thenSame (chg_regrown wr dq osq))⟩, by simp [intOf]; omega⟩
              · have hi0 : 0 < i := by omega
                obtain ⟨i', hi'⟩ : ∃ i' : Nat, (i : Int) - 1 = (i' : Int) := ⟨i - 1, by omega⟩
                have hiM' : i' < M.length := by omega
                obtain ⟨g5, o5, hrb, -, hbr5, hff⟩ := RIH.out i' hiM'
                rw [hra] at hrb
                cases hrb
                have k2 := fun d os => ((below_regrown wr d os).cell (p := ⟨g3, o3 + i' * 10 + 2, none⟩) hbr3).trans (hff 2 (by omega))
                simp only [rcC, List.getElem?_cons_zero, List.getElem?_cons_succ] at k2
                have hat := HAT.out i' hiM' (by omega)
                have i2 : 0 ≤ (i' : Int) := by omega
                have i3 : (i' : Int) < ((dj.L.length - fs : Nat) : Int) := by omega
                generalize (M[i']).at_ = z at *
                have hzz : decide (x.at_ < z) = false := decide_eq_false (by omega)
                clear hMi RIH hiz HAT hiM hiR hiM' hff
                go_wp2_with fail
                refine wp_region_quiet_below (by kernel_rfl) (by kernel_rfl) ?_
                repeat (any_goals (first | go_big_quiet_step (exact HB.out _ _) | quiet_step (exact HB.out _ _)))
                refine wpQuiet_nil ?_
                intro _ hw'
                obtain ⟨⟨dq, osq⟩, hw''⟩ := hw'
                subst hw''
                change Exit.then _ _ Exit.normal _ (Go.Sort.grow (redrawn wr dq) osq)
                go_wp2_with fail
                exact ⟨⟨i + 1, by go_num, by omega, Lib.hid (V.out.thenSame (chg_regrown wr dq osq))⟩, by simp [intOf]; omega⟩
            · have hin : ¬ ((i : Int) < ((dj.L.length - fs : Nat) : Int)) := by omega
              have Q9 := Lib.hid (Pair.keptN (stmSide b S) (sR.out D) (Pair.dropR Q7.out) V.out)
              go_wp2_with fail
              exact ⟨⟨j + 1, by go_num, by omega, Q9⟩, by simp [intOf]; omega⟩
        · have hjn : ¬ ((j : Int) < (m : Int)) := by omega
          have C5 := Lib.hid Q.out.chg
          go_wp2_with (go_at_call 10; refine (AW.out wr C5.out).mono ?_; rintro x w4 ⟨rfl, hc4⟩; have C4 := Lib.hid (C5.out.thenSame hc4); clear hc4)
          go_ret
          exact ⟨rfl, C4.out.toBelow (Nat.le_refl _) (by simp)⟩
end Go.Proofs.YtmichbpfmachcaaDoor
