/- Chapter 9: contract: (*scope).call. No condition. -/
import Derived.Test.YtolidiafomceiaaGreatDoorStaS
namespace Go.Proofs.YtolidiafomceiaaGreatDoor
set_option linter.unusedVariables false
set_option linter.unusedSimpArgs false
open Go.RowKit
/-- A scope's block. -/
def scO (x : Pr) (mb sb eb : Nat) (nx : Int) : Obj := .cells #[.slice x.na x.nodes.length x.nc, .slice x.fa x.funcs.length x.fc, .map (some mb), .int .i64 nx, .slice (some ⟨sb, 0, none⟩) x.nodes.length x.nodes.length, .slice (some ⟨eb, 0, none⟩) x.nodes.length x.nodes.length] 73
theorem callZ_neg {x : Pr} {n : PNd} (h : idxFrom (fun f : Fn' => f.name == n.text) x.funcs 0 < 0) : callZ x.p n = if (lkZ biL n.text).2 = true then (if (lkZ biL n.text).1 = (n.kids.length : Int) then 0 else 7) else 4 := by
  unfold callZ
  rw [find_p, if_neg (by omega)]
theorem callZ_pos {x : Pr} {n : PNd} {m : Nat} (h : idxFrom (fun f : Fn' => f.name == n.text) x.funcs 0 = (m : Int)) (hm : m < x.funcs.length) : callZ x.p n = if ((x.funcs[m]).params.length : Int) = (n.kids.length : Int) then 0 else 7 := by
  unfold callZ
  rw [find_p, h, if_pos (by omega), Int.toNat_natCast, funcs_p_at hm]
  rfl
set_option maxHeartbeats 16000000 in
set_option maxRecDepth 100000 in
theorem scall_any (x : Pr) (n : Nd) (b mb sb eb : Nat) (nx : Int) (w : World) (h : PrIn w x) (hb : w.heap[b]? = some (scO x mb sb eb nx)) : Calls Tryz.prog 63 #[.pointer (some ⟨b, 0, none⟩), .agg (ndC n).toArray] w fun e w' => e = .returned (.int .i64 (callZ x.p n.p)) ∧ Chg [] w w' := by
  obtain ⟨R, hR⟩ : ∃ R, R = callZ x.p n.p := ⟨_, rfl⟩
  rw [← hR]
  obtain ⟨W1, hW1⟩ : ∃ W1, W1 = w.alloc (ndO n) := ⟨_, rfl⟩
  have C1 := Lib.hid (show Chg [] w W1 by rw [hW1]; exact (Chg.refl _ _).alloc _)
  have B1 := Lib.hid (show W1.heap[w.heap.size]? = some (ndO n) by rw [hW1]; exact heap_alloc_new _ _)
  have S1 := Lib.hid (C1.out.at (by simp) hb)
  unfold ndO at hW1 B1
  unfold scO at S1
  have HF := Lib.hid h.2.1
  have HPF := Lib.hid (fun w' (hc : Chg [] w w') => (h.kept hc).2.1.1)
  have AB := Lib.hid (fun w' => builtin_any n.text w')
  have FA := Lib.hid (fun w' (hc : Chg [] w w') => find_any x n.text w' (h.kept hc))
  have k1 := blk_cell B1.out
  have s1 := blk_cell S1.out
  have N1 := callZ_neg (x := x) (n := n.p)
  have N2 := fun m => callZ_pos (x := x) (n := n.p) (m := m)
  rw [show n.p.text = n.text from rfl, show n.p.kids = n.kids from rfl, ← hR] at N1
  simp only [show n.p.text = n.text from rfl, show n.p.kids = n.kids from rfl, ← hR] at N2
  have hpos := find_pos (x := x) (s := n.text)
  simp only [prC] at FA
  simp only [ndC]
  clear hR h hb
  generalize lkZ biL n.text = bq at *
  generalize idxFrom (fun f : Fn' => f.name == n.text) x.funcs 0 = v at *
  have HN1 := Lib.hid N1
  have HN2 := Lib.hid N2
  have HPOS := Lib.hid hpos
  clear N1 N2 hpos
  go_enter Tryz.func63, Tryz.ntmps63
  go_upto_region 1 with fail
  rw [← hW1]
  clear hW1
  go_upto_region 2 with (go_at_call 27; (with_reducible refine Calls.mono (AB.out _) ?_); rintro e w3 ⟨rfl, hc⟩; have C3 := Lib.hid (C1.out.thenSame hc); have B3 := Lib.hid (hc.at (by simp) B1.out); have S3 := Lib.hid (hc.at (by simp) S1.out); have k3 := blk_cell B3.out; have s3 := blk_cell S3.out; clear k1 s1 hc)
  have q0 := fun d os => ((below_regrown w3 d os).cell (p := ⟨b, 0, none⟩) (lt_of_heap S3.out)).trans (s3 0)
  have q1 := fun d os => ((below_regrown w3 d os).cell (p := ⟨b, 1, none⟩) (lt_of_heap S3.out)).trans (s3 1)
  have q2 := fun d os => ((below_regrown w3 d os).cell (p := ⟨w.heap.size, 1, none⟩) (lt_of_heap B3.out)).trans (k3 1)
  have HB8 := Lib.hid (fun d os => calls_regrown (FA.out _ (C3.out.thenSame (chg_regrown w3 d os))))
  refine wp_region_quiet_below (by kernel_rfl) (by kernel_rfl) ?_
  repeat (any_goals (first | go_big_quiet_step (exact HB8.out _ _) | quiet_step (exact HB8.out _ _)))
  refine wpQuiet_nil ?_
  intro _ hw'
  obtain ⟨⟨dq, osq⟩, hw''⟩ := hw'
  subst hw''
  have C4 := Lib.hid (C3.out.thenSame (chg_regrown w3 dq osq))
  have B4 := Lib.hid ((chg_regrown w3 dq osq).at (by simp) B3.out)
  have S4 := Lib.hid ((chg_regrown w3 dq osq).at (by simp) S3.out)
  generalize Go.Sort.grow (redrawn w3 dq) osq = W4 at *
  clear q0 q1 q2 k3 s3 HB8
  have k4 := blk_cell B4.out
  rcases Int.lt_or_le v 0 with hv | hv
  · have HN3 := Lib.hid (HN1.out hv)
    obtain ⟨bn, bb⟩ := bq
    cases bb
    · have HE := Lib.hid (show R = 4 from HN3.out)
      clear HN3
      go_wp2_with fail
      go_ret
      exact ⟨retI HE.out.symm, C4.out⟩
    · by_cases hn : bn = (n.kids.length : Int)
      · have HE := Lib.hid (show R = 0 by rw [HN3.out]; exact if_pos hn)
        have hne : (bn != (n.kids.length : Int)) = false := by rw [hn]; simp
        clear HN3 hn
        go_wp2_with fail
        go_ret
        exact ⟨retI HE.out.symm, C4.out⟩
      · have HE := Lib.hid (show R = 7 by rw [HN3.out]; exact if_neg hn)
        have hne : (bn != (n.kids.length : Int)) = true := by simpa using hn
        clear HN3
        go_wp2_with fail
        go_ret
        exact ⟨retI HE.out.symm, C4.out⟩
  · obtain ⟨m, rfl, hm⟩ := HPOS.out hv
    have HN3 := HN2.out m rfl hm
    obtain ⟨b2, o2, e2, -, -, hc2⟩ := (HPF.out _ C4.out).elem (Chg.refl [] _) m hm
    have s4 := blk_cell (by have := S4.out; rw [e2] at this; exact this)
    have u1 := hc2 1 (by omega)
    simp only [fnC, List.getElem?_cons_zero, List.getElem?_cons_succ, Nat.add_zero] at u1
    have hm' : (m : Int) < (x.funcs.length : Int) := by omega
    have hm0 : (0 : Int) ≤ (m : Int) := by omega
    generalize x.funcs[m] = f at *
    have HN4 := Lib.hid HN3
    clear HN1 HN2 HN3 hc2 hv
    by_cases hn : (f.params.length : Int) = (n.kids.length : Int)
    · have HE := Lib.hid (show R = 0 by rw [HN4.out]; exact if_pos hn)
      have hne : ((f.params.length : Int) != (n.kids.length : Int)) = false := by rw [hn]; simp
      clear HN4 hn
      go_wp2_with fail
      go_ret
      exact ⟨retI HE.out.symm, C4.out⟩
    · have HE := Lib.hid (show R = 7 by rw [HN4.out]; exact if_neg hn)
      have hne : ((f.params.length : Int) != (n.kids.length : Int)) = true := by simpa using hn
      clear HN4
      go_wp2_with fail
      go_ret
      exact ⟨retI HE.out.symm, C4.out⟩
end Go.Proofs.YtolidiafomceiaaGreatDoor
