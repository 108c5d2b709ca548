/- Chapter 54: the two ledgers of a run. No condition. -/
import Derived.Test.YtehjalgogjkdlaaGreatDoorZ31
import Derived.Test.YtehjalgogjkdlaaGreatDoorZ27
import Derived.Test.YtehjalgogjkdlaaGreatDoorZ32
namespace Go.Proofs.YtehjalgogjkdlaaGreatDoor
set_option linter.unusedVariables false
set_option linter.unusedSimpArgs false
open Go.RowKit
theorem rec_lok (s : Led) (r : UR) (h : LOk s) : LOk (recS s r) := by
  unfold recS
  split
  · rename_i hc
    split
    · exact h
    · split
      · exact h
      · intro c hc'
        simp only [List.mem_append, List.mem_singleton] at hc'
        rcases hc' with hc' | rfl
        · exact h c hc'
        · show nameB r.fn = true
          unfold checkR at hc
          split at hc
          · rename_i hn
            simp only [Bool.and_eq_true] at hn
            exact hn.2
          · simp at hc
  · exact h
theorem close_lok (s : Led) (p : Int) (h : LOk s) : LOk (closeS s p) := by
  intro c hc
  rw [(close_grow s p).1] at hc
  exact h c hc
theorem Pair.from {W W1 w : World} {J K : List Nat → World → Prop} (h : Pair W1 w J K) (hc : Chg [] W W1) : Pair W w J K := by
  obtain ⟨f, g, h1, h2, h3, h4, h5, h6⟩ := h
  exact ⟨f, g, h1, h2, fun x hx => Nat.le_trans hc.size (h3 x hx), fun x hx => Nat.le_trans hc.size (h4 x hx), h5, hc.thenSame h6⟩
def LedPost (w : World) (e : Ending) (w' : World) : Prop := ∃ (b1 b2 : Nat) (s : Led), e = .returned (.tuple #[.pointer (some ⟨b1, 0, none⟩), .pointer (some ⟨b2, 0, none⟩)]) ∧ s.l.length ≤ 60 ∧ LOk s ∧ Pair w w' (JL b1 s) (JR b2 s)
set_option maxHeartbeats 40000000 in
set_option maxRecDepth 100000 in
theorem ledgers_any (a : Option Addr) (cap : Nat) (ul : List UR) (cl : Int) (p0 p1 p2 p3 p4 p5 : Value) (w : World) (hs : SlIs urC 9 w a ul.length ul) (hg : ∀ x ∈ ul, x.good) (hm : ul.length ≤ maxLen) (hc0 : 0 ≤ cl) (hc1 : cl ≤ 255) :
    Calls Tryz.prog 21 #[.agg #[.slice a ul.length cap, .int .u8 cl, p0, p1, p2, p3, p4, p5]] w (LedPost w) := by
  have S0 := Lib.hid hs
  have G0 := Lib.hid hg
  obtain ⟨W1, hW1⟩ : ∃ W1, W1 = w.alloc (.cells #[.slice a ul.length cap, .int .u8 cl, p0, p1, p2, p3, p4, p5] 50) := ⟨_, rfl⟩
  have C1 := Lib.hid (show Chg [] w W1 from hW1 ▸ (Chg.refl _ _).alloc _)
  have B1 := Lib.hid (show W1.heap[w.heap.size]? = some (.cells #[.slice a ul.length cap, .int .u8 cl, p0, p1, p2, p3, p4, p5] 50 (0, 0)) from hW1 ▸ heap_alloc_new _ _)
  have HW1 := Lib.hid hW1
  have BX := Lib.hid (fun w' (hc : Chg [] W1 w') => (show w'.cell? ⟨w.heap.size, 0, none⟩ = some (.slice a ul.length cap) ∧ w'.cell? ⟨w.heap.size, 1, none⟩ = some (.int .u8 cl) from ⟨blk_cell (hc.at (by simp) B1.out) (i := 0), blk_cell (hc.at (by simp) B1.out) (i := 1)⟩))
  have lt1 := lt_of_heap B1.out
  unfold maxLen at hm
  clear hs hg hW1
  go_enter Tryz.func21, Tryz.ntmps21
  go_wp2_with (first
    | (rw [← HW1.out]; go_at_call 32; (with_reducible refine (new_first (Chg.refl [] W1)).mono ?_); rintro e w3 ⟨a1, rfl, hp3⟩; have HP := Lib.hid hp3; clear hp3)
    | (go_at_call 43; (with_reducible refine (rnew_second (sideL _ _) HP.out).mono ?_); rintro e w4 ⟨b1, rfl, hp4⟩; have HQ0 := Lib.hid hp4.symm; clear hp4))
  go_loopw [6] (fun i wr => ∃ (k : Nat) (s : Led), i = .int .i64 k ∧ k ≤ ul.length ∧ k ≤ 60 ∧ Hid (s.l.length ≤ k ∧ LOk s) ∧ Hid (Pair W1 wr (JL a1 s) (JR b1 s))) (fun i _ => ul.length - (intOf i).toNat)
  case atStart => exact ⟨0, ⟨[], 0⟩, rfl, Nat.zero_le _, by omega, Lib.hid ⟨by simp, by intro c hc; simp at hc⟩, HQ0⟩
  case round =>
    obtain ⟨k, s, rfl, hkl, hk60, HN, HQ⟩ := hrel
    obtain ⟨x0, x1⟩ := BX.out _ HQ.out.chg
    have hk0 : (0 : Int) ≤ (k : Int) := by omega
    have hk60' : (k : Int) ≤ 60 := by omega
    by_cases hk : k < ul.length ∧ k < 60
    · obtain ⟨hk1', hk2'⟩ := hk
      obtain ⟨g, o, rfl, -, hbr, hcc⟩ := S0.out.elem (C1.out.thenSame HQ.out.chg) k hk1'
      have hgx := G0.out ul[k] (List.getElem_mem hk1')
      have hops : ∀ w', Chg [] W1 w' → ∀ j, j < 9 → w'.cell? ⟨g, o + k * 9 + j, none⟩ = (urC ul[k])[j]? := by
        intro w' hc
        obtain ⟨g', o', e, -, _, hcc'⟩ := S0.out.elem (C1.out.thenSame hc) k hk1'
        cases e
        exact hcc'
      generalize ul[k] = r at *
      have HO := Lib.hid (show ∀ w', Chg [] W1 w' → w'.cell? ⟨g, o + k * 9, none⟩ = some (.string r.id) ∧ w'.cell? ⟨g, o + k * 9 + 1, none⟩ = some (.string r.tn) ∧ w'.cell? ⟨g, o + k * 9 + 2, none⟩ = some (.string r.fn) ∧ w'.cell? ⟨g, o + k * 9 + 3, none⟩ = some (.int .i64 r.per) ∧ w'.cell? ⟨g, o + k * 9 + 4, none⟩ = some (.int .i64 r.us.inv) ∧ w'.cell? ⟨g, o + k * 9 + 5, none⟩ = some (.int .i64 r.us.steps) ∧ w'.cell? ⟨g, o + k * 9 + 6, none⟩ = some (.int .i64 r.us.ticks) ∧ w'.cell? ⟨g, o + k * 9 + 7, none⟩ = some (.int .i64 r.us.units) ∧ w'.cell? ⟨g, o + k * 9 + 8, none⟩ = some (.bool r.fl) from fun w' hc => by
        have h := hops w' hc
        exact ⟨h 0 (by omega), h 1 (by omega), h 2 (by omega), h 3 (by omega), h 4 (by omega), h 5 (by omega), h 6 (by omega), h 7 (by omega), h 8 (by omega)⟩)
      obtain ⟨d0, d1, d2, d3, d4, d5, d6, d7, d8⟩ := HO.out wr HQ.out.chg
      have hk1 : (k : Int) < (ul.length : Int) := by omega
      have hk2 : (k : Int) < 60 := by omega
      have hs1 := HN.out.1
      have HL1 := Lib.hid (recS_len s r)
      have HL2 := Lib.hid (rec_lok s r HN.out.2)
      have A1 := p_rec (sideR b1 s) HQ.out r hgx (by omega)
      have A2 := fun w' (h : Pair W1 w' (JL a1 (recS s r)) (JR b1 s)) => p_rrec (sideL a1 (recS s r)) h.symm r hgx (by omega)
      unfold urV at A1 A2
      have HA1 := Lib.hid A1
      have HA2 := Lib.hid A2
      clear hcc hgx hops A1 A2 hs1
      go_wp2_with (first
        | (go_at_call 33; (with_reducible refine HA1.out.mono ?_); rintro e w1 ⟨rfl, hp1⟩; have HP1 := Lib.hid hp1; clear hp1; obtain ⟨y0, y1⟩ := BX.out _ HP1.out.chg; obtain ⟨e0, e1, e2, e3, e4, e5, e6, e7, e8⟩ := HO.out _ HP1.out.chg)
        | (go_at_call 44; (with_reducible refine (HA2.out _ HP1.out).mono ?_); rintro e w2 ⟨rfl, hp2⟩; have HP2 := Lib.hid hp2; clear hp2))
      exact ⟨⟨k + 1, recS s r, by go_num, by omega, by omega, Lib.hid ⟨by have := HL1.out; have := HN.out.1; omega, HL2.out⟩, Lib.hid HP2.out.symm⟩, by simp [intOf]; omega⟩
    · have hq : ((ul.length : Int) ≤ (k : Int)) ∨ ((k : Int) < (ul.length : Int) ∧ (60 : Int) ≤ (k : Int)) := by omega
      have hs60 : Hid (s.l.length ≤ 60 ∧ LOk s) := Lib.hid ⟨Nat.le_trans HN.out.1 hk60, HN.out.2⟩
      clear hk HN
      rcases hq with hq | ⟨hq, hq2⟩
      all_goals
        go_wp2_with fail
        go_loopw [7] (fun i wr => ∃ (m : Nat) (s : Led), i = .int .i64 m ∧ (m : Int) ≤ cl % 6 ∧ Hid (s.l.length ≤ 60 ∧ LOk s) ∧ Hid (Pair W1 wr (JL a1 s) (JR b1 s))) (fun i _ => 6 - (intOf i).toNat)
        case atStart => exact ⟨0, s, rfl, by omega, hs60, HQ⟩
        case round =>
          obtain ⟨m, s', rfl, hml, HN', HQ'⟩ := hrel
          obtain ⟨z0, z1⟩ := BX.out _ HQ'.out.chg
          by_cases hmm : (m : Int) < cl % 6
          · have HL1 := Lib.hid (show (closeS s' (m : Int)).l.length = s'.l.length by rw [(close_grow s' m).1])
            have HL2 := Lib.hid (close_lok s' (m : Int) HN'.out.2)
            have HA1 := Lib.hid (p_close (sideR b1 s') HQ'.out (m : Int))
            have HA2 := Lib.hid (fun w' (h : Pair W1 w' (JL a1 (closeS s' (m : Int))) (JR b1 s')) => p_rclose (sideL a1 (closeS s' (m : Int))) h.symm (m : Int))
            go_wp2_with (first
              | (go_at_call 45; (with_reducible refine HA1.out.mono ?_); rintro e w1 ⟨rfl, hp1⟩; have HP1 := Lib.hid hp1; clear hp1)
              | (go_at_call 46; (with_reducible refine (HA2.out _ HP1.out).mono ?_); rintro e w2 ⟨rfl, hp2⟩; have HP2 := Lib.hid hp2; clear hp2))
            exact ⟨⟨m + 1, closeS s' (m : Int), by go_num, by omega, Lib.hid ⟨by have := HL1.out; have := HN'.out.1; omega, HL2.out⟩, Lib.hid HP2.out.symm⟩, by simp [intOf]; omega⟩
          · have hmm' : cl % 6 ≤ (m : Int) := by omega
            go_wp2_with fail
            go_ret2
            refine ⟨a1, b1, s', ?_, HN'.out.1, HN'.out.2, HQ'.out.from C1.out⟩
            first | rfl | (trace_state; fail)
end Go.Proofs.YtehjalgogjkdlaaGreatDoor
