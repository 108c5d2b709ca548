/- Chapter 18: contracts: Merge, of both. No condition. -/
import Derived.Test.YtmmhcacpehpjdaaMetJ
namespace Go.Proofs.Ytmmhcacpehpjdaa
set_option linter.unusedVariables false
set_option linter.unusedSimpArgs false
open Go.RowKit

def mergeS (a b : Sd) : Sd × Int :=
  if validS a = true then (if validS b = true then (if 1000000000 < a.c + b.c then (z0S, 8) else if a.c = 0 then (b, 0) else if b.c = 0 then (a, 0) else (⟨a.c + b.c, a.s + b.s, min a.mn b.mn, max a.mx b.mx⟩, 0)) else (z0S, 2)) else (z0S, 2)

theorem valid_bd {x : Sd} (h : validS x = true) : 0 ≤ x.c ∧ x.c ≤ 1000000000 ∧ -1000000000000000000 ≤ x.s ∧ x.s ≤ 1000000000000000000 := by
  by_cases h0 : x.c = 0
  · simp [validS, h0] at h; omega
  · have h2 := valid_in h h0
    simp [validS, h0, inR] at h
    omega

set_option maxHeartbeats 8000000 in
set_option maxRecDepth 100000 in
theorem merge_any (a b : Sd) (w : World) : Calls Try.prog 36 #[.agg #[.int .i64 a.c, .int .i64 a.s, .int .i64 a.mn, .int .i64 a.mx], .agg #[.int .i64 b.c, .int .i64 b.s, .int .i64 b.mn, .int .i64 b.mx]] w (WdPost w (mergeS a b)) := by
  have x1 := heap_alloc_new w (.cells #[.int .i64 a.c, .int .i64 a.s, .int .i64 a.mn, .int .i64 a.mx] 26)
  obtain ⟨v1, hv1⟩ : ∃ v, v = w.alloc (.cells #[.int .i64 a.c, .int .i64 a.s, .int .i64 a.mn, .int .i64 a.mx] 26) := ⟨_, rfl⟩
  have z1 : v1.heap.size = w.heap.size + 1 := by rw [hv1]; simp
  rw [← hv1] at x1
  have x2 := heap_alloc_new v1 (.cells #[.int .i64 b.c, .int .i64 b.s, .int .i64 b.mn, .int .i64 b.mx] 26)
  have x1' := blk_alloc (o' := (.cells #[.int .i64 b.c, .int .i64 b.s, .int .i64 b.mn, .int .i64 b.mx] 26)) x1
  obtain ⟨v2, hv2⟩ : ∃ v, v = v1.alloc (.cells #[.int .i64 b.c, .int .i64 b.s, .int .i64 b.mn, .int .i64 b.mx] 26) := ⟨_, rfl⟩
  have z2 : v2.heap.size = w.heap.size + 2 := by rw [hv2]; simp; omega
  rw [← hv2] at x2 x1'
  rw [z1] at x2
  have x3 := heap_alloc_new v2 (.cells #[.int .i64 0, .int .i64 0, .int .i64 0, .int .i64 0] 26)
  have x2' := blk_alloc (o' := (.cells #[.int .i64 0, .int .i64 0, .int .i64 0, .int .i64 0] 26)) x2
  have x1'' := blk_alloc (o' := (.cells #[.int .i64 0, .int .i64 0, .int .i64 0, .int .i64 0] 26)) x1'
  obtain ⟨v3, hv3⟩ : ∃ v, v = v2.alloc (.cells #[.int .i64 0, .int .i64 0, .int .i64 0, .int .i64 0] 26) := ⟨_, rfl⟩
  rw [← hv3] at x3 x2' x1''
  rw [z2] at x3
  have C0 : Hid (Chg [] w v3) := by rw [hv3, hv2, hv1]; exact (((Chg.refl [] w).alloc _).alloc _).alloc _
  have X1 := Lib.hid x1''
  have X2 := Lib.hid x2'
  have X3 := Lib.hid x3
  have hv : v3 = ((w.alloc (.cells #[.int .i64 a.c, .int .i64 a.s, .int .i64 a.mn, .int .i64 a.mx] 26)).alloc (.cells #[.int .i64 b.c, .int .i64 b.s, .int .i64 b.mn, .int .i64 b.mx] 26)).alloc (.cells #[.int .i64 0, .int .i64 0, .int .i64 0, .int .i64 0] 26) := by rw [hv3, hv2, hv1]
  have Hv := Lib.hid hv
  have hfin : ∀ w3 c s mn mx, Chg [] v3 w3 → Chg [] w ((((w3.setCell ⟨w.heap.size + 2, 0, none⟩ c).setCell ⟨w.heap.size + 2, 1, none⟩ s).setCell ⟨w.heap.size + 2, 2, none⟩ mn).setCell ⟨w.heap.size + 2, 3, none⟩ mx) := by
    intro w3 c s mn mx h3
    have hn : ∀ i, (⟨w.heap.size + 2, i, none⟩ : Addr).block < w.heap.size → (⟨w.heap.size + 2, i, none⟩ : Addr).block ∈ ([] : List Nat) := fun i h => absurd h (by simp)
    exact ((((C0.out.thenSame h3).setCell _ _ (hn 0)).setCell _ _ (hn 1)).setCell _ _ (hn 2)).setCell _ _ (hn 3)
  have Hfin := Lib.hid hfin
  have A1 := Lib.hid (fun w => valid_any a w)
  have A2 := Lib.hid (fun w => valid_any b w)
  clear x1 x2 x1' x3 x2' x1'' hv hv1 hv2 hv3 z1 z2 hfin
  by_cases ha : validS a = true
  case neg =>
    have hs : mergeS a b = (z0S, 2) := by unfold mergeS; rw [if_neg ha]
    rw [hs]
    have ha' : validS a = false := by simpa using ha
    rw [ha'] at A1
    clear hs ha ha'
    go_enter Try.func36, Try.ntmps36
    go_wp2_with fail
    rw [← Hv.out]
    refine (A1.out _).mono ?_; rintro e w2 ⟨rfl, hc2⟩
    have C2 := Lib.hid hc2
    have r1 := blk_cell (hc2.at (by simp) X3.out)
    have r2 := blk_free (hc2.at (by simp) X3.out)
    clear hc2
    go_wp2_with fail
    exact bodyPost_ret (v := .tuple #[sV z0S, .int .i64 2]) (by simp [results, Try.results36, go_sem, sV, z0S, r1]) rfl ⟨rfl, Hfin.out w2 _ _ _ _ C2.out⟩
  by_cases hb : validS b = true
  case neg =>
    have hs : mergeS a b = (z0S, 2) := by unfold mergeS; rw [if_pos ha, if_neg hb]
    rw [hs]
    have hb' : validS b = false := by simpa using hb
    rw [ha] at A1
    rw [hb'] at A2
    clear hs ha hb hb'
    go_enter Try.func36, Try.ntmps36
    go_wp2_with fail
    rw [← Hv.out]
    refine (A1.out _).mono ?_; rintro e w2 ⟨rfl, hc2⟩
    have C2 := Lib.hid hc2
    have q2 := blk_cell (hc2.at (by simp) X2.out)
    clear hc2
    go_wp2_with fail
    clear q2
    refine (A2.out _).mono ?_; rintro e w3 ⟨rfl, hc3⟩
    have C3 := Lib.hid (C2.out.thenSame hc3)
    have r1 := blk_cell (C3.out.at (by simp) X3.out)
    have r2 := blk_free (C3.out.at (by simp) X3.out)
    clear hc3
    go_wp2_with fail
    exact bodyPost_ret (v := .tuple #[sV z0S, .int .i64 2]) (by simp [results, Try.results36, go_sem, sV, z0S, r1]) rfl ⟨rfl, Hfin.out w3 _ _ _ _ C3.out⟩
  have hm : mergeS a b = if 1000000000 < a.c + b.c then (z0S, 8) else if a.c = 0 then (b, 0) else if b.c = 0 then (a, 0) else (⟨a.c + b.c, a.s + b.s, min a.mn b.mn, max a.mx b.mx⟩, 0) := by unfold mergeS; rw [if_pos ha, if_pos hb]
  obtain ⟨R, hR⟩ : ∃ R, R = mergeS a b := ⟨_, rfl⟩
  rw [← hR] at hm
  rw [← hR]
  have Hm := Lib.hid hm
  obtain ⟨a0, a1, a2, a3⟩ := valid_bd ha
  obtain ⟨b0, b1, b2, b3⟩ := valid_bd hb
  rw [ha] at A1
  rw [hb] at A2
  clear hm ha hb hR
  go_enter Try.func36, Try.ntmps36
  go_wp2_with fail
  rw [← Hv.out]
  refine (A1.out _).mono ?_; rintro e w2 ⟨rfl, hc2⟩
  have C2 := Lib.hid hc2
  have q2 := blk_cell (hc2.at (by simp) X2.out)
  clear hc2
  go_wp2_with fail
  clear q2
  refine (A2.out _).mono ?_; rintro e w3 ⟨rfl, hc3⟩
  have C3 := Lib.hid (C2.out.thenSame hc3)
  have q1 := blk_cell (C3.out.at (by simp) X1.out)
  have q2 := blk_cell (C3.out.at (by simp) X2.out)
  have r1 := blk_cell (C3.out.at (by simp) X3.out)
  have r2 := blk_free (C3.out.at (by simp) X3.out)
  clear hc3
  by_cases hov : 1000000000 < a.c + b.c
  · have Hr := Lib.hid (show R = (z0S, 8) by rw [Hm.out, if_pos hov])
    go_wp2_with fail
    exact bodyPost_ret (v := .tuple #[sV z0S, .int .i64 8]) (by simp [results, Try.results36, go_sem, sV, z0S, r1]) rfl ⟨by rw [Hr.out], Hfin.out w3 _ _ _ _ C3.out⟩
  have Hm2 := Lib.hid (show R = if a.c = 0 then (b, 0) else if b.c = 0 then (a, 0) else (⟨a.c + b.c, a.s + b.s, min a.mn b.mn, max a.mx b.mx⟩, 0) by rw [Hm.out, if_neg hov])
  have hov' : a.c + b.c ≤ 1000000000 := by omega
  by_cases hac : a.c = 0
  · have Hr := Lib.hid (show R = (b, 0) by rw [Hm2.out, if_pos hac])
    rw [hac] at q1 hov'
    clear hac hov a0 a1
    simp only [Int.zero_add] at hov'
    go_wp2_with fail
    exact bodyPost_ret (v := .tuple #[sV b, .int .i64 0]) (by simp [results, Try.results36, go_sem, sV, r1]) rfl ⟨by rw [Hr.out], Hfin.out w3 _ _ _ _ C3.out⟩
  have Hm3 := Lib.hid (show R = if b.c = 0 then (a, 0) else (⟨a.c + b.c, a.s + b.s, min a.mn b.mn, max a.mx b.mx⟩, 0) by rw [Hm2.out, if_neg hac])
  have hab : (a.c == 0) = false := by simpa using hac
  by_cases hbc : b.c = 0
  · have Hr := Lib.hid (show R = (a, 0) by rw [Hm3.out, if_pos hbc])
    rw [hbc] at q2 hov'
    simp only [Int.add_zero] at hov'
    clear hbc hov hac b0 b1
    go_wp2_with fail
    exact bodyPost_ret (v := .tuple #[sV a, .int .i64 0]) (by simp [results, Try.results36, go_sem, sV, r1]) rfl ⟨by rw [Hr.out], Hfin.out w3 _ _ _ _ C3.out⟩
  have Hr := Lib.hid (show R = (⟨a.c + b.c, a.s + b.s, min a.mn b.mn, max a.mx b.mx⟩, 0) by rw [Hm3.out, if_neg hbc])
  have hbb : (b.c == 0) = false := by simpa using hbc
  clear hac hbc hov
  go_wp2_with fail
  exact bodyPost_ret (v := .tuple #[sV ⟨a.c + b.c, a.s + b.s, min a.mn b.mn, max a.mx b.mx⟩, .int .i64 0]) (by simp [results, Try.results36, go_sem, sV, r1]) rfl ⟨by rw [Hr.out], Hfin.out w3 _ _ _ _ C3.out⟩

set_option maxHeartbeats 8000000 in
set_option maxRecDepth 100000 in
theorem rmerge_any (a b : Sd) (w : World) : Calls Try.prog 37 #[.agg #[.int .i64 a.c, .int .i64 a.s, .int .i64 a.mn, .int .i64 a.mx], .agg #[.int .i64 b.c, .int .i64 b.s, .int .i64 b.mn, .int .i64 b.mx]] w (WdPost w (mergeS a b)) := by
  have x1 := heap_alloc_new w (.cells #[.int .i64 a.c, .int .i64 a.s, .int .i64 a.mn, .int .i64 a.mx] 26)
  obtain ⟨v1, hv1⟩ : ∃ v, v = w.alloc (.cells #[.int .i64 a.c, .int .i64 a.s, .int .i64 a.mn, .int .i64 a.mx] 26) := ⟨_, rfl⟩
  have z1 : v1.heap.size = w.heap.size + 1 := by rw [hv1]; simp
  rw [← hv1] at x1
  have x2 := heap_alloc_new v1 (.cells #[.int .i64 b.c, .int .i64 b.s, .int .i64 b.mn, .int .i64 b.mx] 26)
  have x1' := blk_alloc (o' := (.cells #[.int .i64 b.c, .int .i64 b.s, .int .i64 b.mn, .int .i64 b.mx] 26)) x1
  obtain ⟨v2, hv2⟩ : ∃ v, v = v1.alloc (.cells #[.int .i64 b.c, .int .i64 b.s, .int .i64 b.mn, .int .i64 b.mx] 26) := ⟨_, rfl⟩
  have z2 : v2.heap.size = w.heap.size + 2 := by rw [hv2]; simp; omega
  rw [← hv2] at x2 x1'
  rw [z1] at x2
  have x3 := heap_alloc_new v2 (.cells #[.int .i64 0, .int .i64 0, .int .i64 0, .int .i64 0] 26)
  have x2' := blk_alloc (o' := (.cells #[.int .i64 0, .int .i64 0, .int .i64 0, .int .i64 0] 26)) x2
  have x1'' := blk_alloc (o' := (.cells #[.int .i64 0, .int .i64 0, .int .i64 0, .int .i64 0] 26)) x1'
  obtain ⟨v3, hv3⟩ : ∃ v, v = v2.alloc (.cells #[.int .i64 0, .int .i64 0, .int .i64 0, .int .i64 0] 26) := ⟨_, rfl⟩
  rw [← hv3] at x3 x2' x1''
  rw [z2] at x3
  have C0 : Hid (Chg [] w v3) := by rw [hv3, hv2, hv1]; exact (((Chg.refl [] w).alloc _).alloc _).alloc _
  have X1 := Lib.hid x1''
  have X2 := Lib.hid x2'
  have X3 := Lib.hid x3
  have hv : v3 = ((w.alloc (.cells #[.int .i64 a.c, .int .i64 a.s, .int .i64 a.mn, .int .i64 a.mx] 26)).alloc (.cells #[.int .i64 b.c, .int .i64 b.s, .int .i64 b.mn, .int .i64 b.mx] 26)).alloc (.cells #[.int .i64 0, .int .i64 0, .int .i64 0, .int .i64 0] 26) := by rw [hv3, hv2, hv1]
  have Hv := Lib.hid hv
  have hfin : ∀ w3 c s mn mx, Chg [] v3 w3 → Chg [] w ((((w3.setCell ⟨w.heap.size + 2, 0, none⟩ c).setCell ⟨w.heap.size + 2, 1, none⟩ s).setCell ⟨w.heap.size + 2, 2, none⟩ mn).setCell ⟨w.heap.size + 2, 3, none⟩ mx) := by
    intro w3 c s mn mx h3
    have hn : ∀ i, (⟨w.heap.size + 2, i, none⟩ : Addr).block < w.heap.size → (⟨w.heap.size + 2, i, none⟩ : Addr).block ∈ ([] : List Nat) := fun i h => absurd h (by simp)
    exact ((((C0.out.thenSame h3).setCell _ _ (hn 0)).setCell _ _ (hn 1)).setCell _ _ (hn 2)).setCell _ _ (hn 3)
  have Hfin := Lib.hid hfin
  have A1 := Lib.hid (fun w => rvalid_any a w)
  have A2 := Lib.hid (fun w => rvalid_any b w)
  clear x1 x2 x1' x3 x2' x1'' hv hv1 hv2 hv3 z1 z2 hfin
  by_cases ha : validS a = true
  case neg =>
    have hs : mergeS a b = (z0S, 2) := by unfold mergeS; rw [if_neg ha]
    rw [hs]
    have ha' : validS a = false := by simpa using ha
    rw [ha'] at A1
    clear hs ha ha'
    go_enter Try.func37, Try.ntmps37
    go_wp2_with fail
    rw [← Hv.out]
    refine (A1.out _).mono ?_; rintro e w2 ⟨rfl, hc2⟩
    have C2 := Lib.hid hc2
    have r1 := blk_cell (hc2.at (by simp) X3.out)
    have r2 := blk_free (hc2.at (by simp) X3.out)
    clear hc2
    go_wp2_with fail
    exact bodyPost_ret (v := .tuple #[sV z0S, .int .i64 2]) (by simp [results, Try.results37, go_sem, sV, z0S, r1]) rfl ⟨rfl, Hfin.out w2 _ _ _ _ C2.out⟩
  by_cases hb : validS b = true
  case neg =>
    have hs : mergeS a b = (z0S, 2) := by unfold mergeS; rw [if_pos ha, if_neg hb]
    rw [hs]
    have hb' : validS b = false := by simpa using hb
    rw [ha] at A1
    rw [hb'] at A2
    clear hs ha hb hb'
    go_enter Try.func37, Try.ntmps37
    go_wp2_with fail
    rw [← Hv.out]
    refine (A1.out _).mono ?_; rintro e w2 ⟨rfl, hc2⟩
    have C2 := Lib.hid hc2
    have q2 := blk_cell (hc2.at (by simp) X2.out)
    clear hc2
    go_wp2_with fail
    clear q2
    refine (A2.out _).mono ?_; rintro e w3 ⟨rfl, hc3⟩
    have C3 := Lib.hid (C2.out.thenSame hc3)
    have r1 := blk_cell (C3.out.at (by simp) X3.out)
    have r2 := blk_free (C3.out.at (by simp) X3.out)
    clear hc3
    go_wp2_with fail
    exact bodyPost_ret (v := .tuple #[sV z0S, .int .i64 2]) (by simp [results, Try.results37, go_sem, sV, z0S, r1]) rfl ⟨rfl, Hfin.out w3 _ _ _ _ C3.out⟩
  have hm : mergeS a b = if 1000000000 < a.c + b.c then (z0S, 8) else if a.c = 0 then (b, 0) else if b.c = 0 then (a, 0) else (⟨a.c + b.c, a.s + b.s, min a.mn b.mn, max a.mx b.mx⟩, 0) := by unfold mergeS; rw [if_pos ha, if_pos hb]
  obtain ⟨R, hR⟩ : ∃ R, R = mergeS a b := ⟨_, rfl⟩
  rw [← hR] at hm
  rw [← hR]
  have Hm := Lib.hid hm
  obtain ⟨a0, a1, a2, a3⟩ := valid_bd ha
  obtain ⟨b0, b1, b2, b3⟩ := valid_bd hb
  rw [ha] at A1
  rw [hb] at A2
  clear hm ha hb hR
  go_enter Try.func37, Try.ntmps37
  go_wp2_with fail
  rw [← Hv.out]
  refine (A1.out _).mono ?_; rintro e w2 ⟨rfl, hc2⟩
  have C2 := Lib.hid hc2
  have q2 := blk_cell (hc2.at (by simp) X2.out)
  clear hc2
  go_wp2_with fail
  clear q2
  refine (A2.out _).mono ?_; rintro e w3 ⟨rfl, hc3⟩
  have C3 := Lib.hid (C2.out.thenSame hc3)
  have q1 := blk_cell (C3.out.at (by simp) X1.out)
  have q2 := blk_cell (C3.out.at (by simp) X2.out)
  have r1 := blk_cell (C3.out.at (by simp) X3.out)
  have r2 := blk_free (C3.out.at (by simp) X3.out)
  clear hc3
  by_cases hov : 1000000000 < a.c + b.c
  · have Hr := Lib.hid (show R = (z0S, 8) by rw [Hm.out, if_pos hov])
    go_wp2_with fail
    exact bodyPost_ret (v := .tuple #[sV z0S, .int .i64 8]) (by simp [results, Try.results37, go_sem, sV, z0S, r1]) rfl ⟨by rw [Hr.out], Hfin.out w3 _ _ _ _ C3.out⟩
  have Hm2 := Lib.hid (show R = if a.c = 0 then (b, 0) else if b.c = 0 then (a, 0) else (⟨a.c + b.c, a.s + b.s, min a.mn b.mn, max a.mx b.mx⟩, 0) by rw [Hm.out, if_neg hov])
  have hov' : a.c + b.c ≤ 1000000000 := by omega
  by_cases hac : a.c = 0
  · have Hr := Lib.hid (show R = (b, 0) by rw [Hm2.out, if_pos hac])
    rw [hac] at q1 hov'
    clear hac hov a0 a1
    simp only [Int.zero_add] at hov'
    go_wp2_with fail
    exact bodyPost_ret (v := .tuple #[sV b, .int .i64 0]) (by simp [results, Try.results37, go_sem, sV, r1]) rfl ⟨by rw [Hr.out], Hfin.out w3 _ _ _ _ C3.out⟩
  have Hm3 := Lib.hid (show R = if b.c = 0 then (a, 0) else (⟨a.c + b.c, a.s + b.s, min a.mn b.mn, max a.mx b.mx⟩, 0) by rw [Hm2.out, if_neg hac])
  have hab : (a.c == 0) = false := by simpa using hac
  by_cases hbc : b.c = 0
  · have Hr := Lib.hid (show R = (a, 0) by rw [Hm3.out, if_pos hbc])
    rw [hbc] at q2 hov'
    simp only [Int.add_zero] at hov'
    clear hbc hov hac b0 b1
    go_wp2_with fail
    exact bodyPost_ret (v := .tuple #[sV a, .int .i64 0]) (by simp [results, Try.results37, go_sem, sV, r1]) rfl ⟨by rw [Hr.out], Hfin.out w3 _ _ _ _ C3.out⟩
  have Hr := Lib.hid (show R = (⟨a.c + b.c, a.s + b.s, min a.mn b.mn, max a.mx b.mx⟩, 0) by rw [Hm3.out, if_neg hbc])
  have hbb : (b.c == 0) = false := by simpa using hbc
  clear hac hbc hov
  have l1 := lt_of_heap (C3.out.at (by simp) X1.out)
  have l2 := lt_of_heap (C3.out.at (by simp) X2.out)
  have l3 : w.heap.size + 1 + 1 < w3.heap.size := lt_of_heap (C3.out.at (by simp) X3.out)
  have k1 : b.mn < a.mn ∨ a.mn ≤ b.mn := by omega
  have k2 : a.mx < b.mx ∨ b.mx ≤ a.mx := by omega
  rcases k1 with k1 | k1 <;> rcases k2 with k2 | k2
  · have Hr2 := Lib.hid (show R = (⟨a.c + b.c, a.s + b.s, b.mn, b.mx⟩, 0) by rw [Hr.out, Int.min_def, Int.max_def]; congr 2 <;> split <;> omega)
    go_wp2_with fail
    exact bodyPost_ret (v := .tuple #[sV ⟨a.c + b.c, a.s + b.s, b.mn, b.mx⟩, .int .i64 0]) (by simp [results, Try.results37, go_sem, sV, r1, l3]) rfl ⟨by rw [Hr2.out], (Hfin.out w3 _ _ _ _ C3.out).alloc _⟩
  · have Hr2 := Lib.hid (show R = (⟨a.c + b.c, a.s + b.s, b.mn, a.mx⟩, 0) by rw [Hr.out, Int.min_def, Int.max_def]; congr 2 <;> split <;> omega)
    go_wp2_with fail
    exact bodyPost_ret (v := .tuple #[sV ⟨a.c + b.c, a.s + b.s, b.mn, a.mx⟩, .int .i64 0]) (by simp [results, Try.results37, go_sem, sV, r1, l3]) rfl ⟨by rw [Hr2.out], (Hfin.out w3 _ _ _ _ C3.out).alloc _⟩
  · have Hr2 := Lib.hid (show R = (⟨a.c + b.c, a.s + b.s, a.mn, b.mx⟩, 0) by rw [Hr.out, Int.min_def, Int.max_def]; congr 2 <;> split <;> omega)
    go_wp2_with fail
    exact bodyPost_ret (v := .tuple #[sV ⟨a.c + b.c, a.s + b.s, a.mn, b.mx⟩, .int .i64 0]) (by simp [results, Try.results37, go_sem, sV, r1, l3]) rfl ⟨by rw [Hr2.out], (Hfin.out w3 _ _ _ _ C3.out).alloc _⟩
  · have Hr2 := Lib.hid (show R = (⟨a.c + b.c, a.s + b.s, a.mn, a.mx⟩, 0) by rw [Hr.out, Int.min_def, Int.max_def]; congr 2 <;> split <;> omega)
    go_wp2_with fail
    exact bodyPost_ret (v := .tuple #[sV ⟨a.c + b.c, a.s + b.s, a.mn, a.mx⟩, .int .i64 0]) (by simp [results, Try.results37, go_sem, sV, r1, l3]) rfl ⟨by rw [Hr2.out], (Hfin.out w3 _ _ _ _ C3.out).alloc _⟩

end Go.Proofs.Ytmmhcacpehpjdaa
