/- Chapter 27: IdemKeeps: a call that returns an error changes neither the keys nor what a following call returns. No condition. -/
import Derived.Test.YtkbblkhkadcpcaaIdemO
import Derived.Test.YtkbblkhkadcpcaaIdemW
namespace Go.Proofs.Ytkbblkhkadcpcaa
open Go.RowKit

theorem two_sl {w : World} {g : Nat} {x y : OpD} (h : w.heap[g]? = some (.cells (oCells x ++ oCells y).toArray 35 (0, 0))) : SlIs oCells 5 w (some ⟨g, 0, none⟩) 2 [x, y] := by
  have hc := blk_cell h
  refine ⟨rfl, fun k hk => ⟨g, 0, rfl, lt_of_heap h, fun j hj => ?_⟩⟩
  rw [hc]
  rcases (by simp at hk; omega : k = 0 ∨ k = 1) with rfl | rfl
  · simp only [List.getElem?_toArray, List.getElem_cons_zero]
    rw [List.getElem?_append_left (by rw [oLen]; omega)]; congr 1; omega
  · simp only [List.getElem?_toArray, List.getElem_cons_succ, List.getElem_cons_zero]
    rw [List.getElem?_append_right (by rw [oLen]; omega)]; congr 1; rw [oLen]; omega

/-- The error of the call bad, and the table behind it. -/
def badS (s : St) (x : OpD) : Int × St := if x.kind = 0 then ((beginS s x.key x.dig x.now).1.2.2, (beginS s x.key x.dig x.now).2) else if x.kind = 1 then finishS s x.key x.dig x.res x.now else if x.kind = 2 then abandonS s x.key x.dig x.now else (0, s)
theorem bad_keeps (s : St) (x : OpD) (hn : s.nd) (h : (badS s x).1 ≠ 0) : (badS s x).2 = s := by
  unfold badS at *
  by_cases k0 : x.kind = 0
  · simp only [if_pos k0] at *
    rcases begin_cases s x.key x.dig x.now hn with ⟨_, h2⟩ | ⟨_, _, _, h2⟩ | ⟨_, r, _, _, _, h2⟩
    · exact h2
    · rw [h2] at h; simp at h
    · rw [h2] at h; simp only at h; split at h <;> simp at h
  by_cases k1 : x.kind = 1
  · simp only [if_neg k0, if_pos k1] at *
    rcases finish_cases s x.key x.dig x.res x.now with ⟨_, h2⟩ | ⟨_, r, _, _, _, _, h2⟩
    · exact h2
    · rw [h2] at h; simp at h
  by_cases k2 : x.kind = 2
  · simp only [if_neg k0, if_neg k1, if_pos k2] at *
    rcases abandon_cases s x.key x.dig x.now with ⟨_, h2⟩ | ⟨_, r, _, _, _, _, h2⟩
    · exact h2
    · rw [h2] at h; simp at h
  · simp only [if_neg k0, if_neg k1, if_neg k2] at *

set_option maxHeartbeats 8000000 in
set_option maxRecDepth 100000 in
theorem keeps_walk (a0 a1 : Int) (a2 : Option Addr) (len2 cap2 : Nat) (l : List OpD) (a3 a4 : OpD) (w : World) (w0 : (Lit.int .u8 a0).wf = true) (w1 : (Lit.int .u8 a1).wf = true) (w2 : SlIs oCells 5 w a2 len2 l ∧ (∀ x ∈ l, x.good) ∧ len2 ≤ maxLen) (w3 : a3.good) (w4 : a4.good) :
    Calls Try.prog 6 #[.int .u8 a0, .int .u8 a1, .slice a2 len2 cap2, .agg (oCells a3).toArray, .agg (oCells a4).toArray] w fun e w' => e = .returned (.bool true) ∧ Below w.heap.size w w' := by
  obtain ⟨b0, b0'⟩ := bounds_u8 w0
  obtain ⟨b1, b1'⟩ := bounds_u8 w1
  obtain ⟨hsl, hgd, hml⟩ := w2
  clear w0 w1
  have g00 : 0 ≤ a0 % 5 := by omega
  have g01 : a0 % 5 < 5 := by omega
  have g10 : 0 ≤ a1 % 100 := by omega
  have g11 : a1 % 100 < 100 := by omega
  have Hsl := Lib.hid hsl
  have Hgd := Lib.hid hgd
  have hml' := hml
  unfold maxLen at hml'
  have Hg3 := Lib.hid w3
  have Hg4 := Lib.hid w4
  clear hsl hgd w3 w4
  by_cases hsm : smallL l = true
  · obtain ⟨w5, hw5⟩ : ∃ w5, w5 = (w.alloc (.cells (oCells a3).toArray 35)).alloc (.cells (oCells a4).toArray 35) := ⟨_, rfl⟩
    have hc5 : Chg [] w w5 := by rw [hw5]; exact ((Chg.refl _ _).alloc _).alloc _
    have hs1 := smallF_any a2 len2 cap2 l w5 (Hsl.out.kept hc5) Hgd.out hml
    rw [hsm] at hs1
    have Hs1 := Lib.hid hs1
    have e1 : (w.alloc (.cells (oCells a3).toArray 35)).heap.size = w.heap.size + 1 := by simp
    have e2 : w5.heap.size = w.heap.size + 2 := by rw [hw5]; simp
    have hp8 : w5.heap[w.heap.size]? = some (.cells (oCells a3).toArray 35 (0, 0)) := by rw [hw5]; exact blk_alloc (heap_alloc_new _ _)
    have hp9 : w5.heap[w.heap.size + 1]? = some (.cells (oCells a4).toArray 35 (0, 0)) := by rw [hw5, ← e1]; exact heap_alloc_new _ _
    have Hp8 := Lib.hid hp8
    have Hp9 := Lib.hid hp9
    have Hc5 := Lib.hid hc5
    clear hc5 hs1 hp8 hp9
    have Hsm2 : Hid (∀ w' : World, SlIs oCells 5 w' (some ⟨w.heap.size + 2, 0, none⟩) 2 [a3, a4] → Calls Try.prog 11 #[.slice (some ⟨w.heap.size + 2, 0, none⟩) 2 2] w' fun e w'' => e = .returned (.bool (smallL [a3, a4])) ∧ w' = w'') := fun w' h =>
      smallF_any _ 2 2 [a3, a4] w' h (by intro x hx; simp at hx; rcases hx with rfl | rfl; exact Hg3.out; exact Hg4.out) (by unfold maxLen; omega)
    obtain ⟨kd3, ky3, dg3, rs3, nw3⟩ := a3
    obtain ⟨kd4, ky4, dg4, rs4, nw4⟩ := a4
    go_enter Try.func6, Try.ntmps6
    go_wp2_with fail
    rw [← hw5]
    clear hw5
    refine Hs1.out.mono ?_; rintro e w6 ⟨rfl, rfl⟩
    have q8 := blk_cell Hp8.out
    have q9 := blk_cell Hp9.out
    have q80 := q8 0
    have q81 := q8 1
    have q82 := q8 2
    have q83 := q8 3
    have q84 := q8 4
    have q90 := q9 0
    have q91 := q9 1
    have q92 := q9 2
    have q93 := q9 3
    have q94 := q9 4
    simp only [oCells, List.getElem?_toArray, List.getElem?_cons_zero, List.getElem?_cons_succ] at q80 q81 q82 q83 q84 q90 q91 q92 q93 q94
    clear q8 q9
    go_wp2_with fail
    obtain ⟨w6, hw6⟩ : ∃ w6, w6 = w5.alloc (.cells #[.int .i64 kd3, .string ky3, .string dg3, .string rs3, .int .i64 nw3, .int .i64 kd4, .string ky4, .string dg4, .string rs4, .int .i64 nw4] 35) := ⟨_, rfl⟩
    have hsl6 : SlIs oCells 5 w6 (some ⟨w.heap.size + 2, 0, none⟩) 2 [⟨kd3, ky3, dg3, rs3, nw3⟩, ⟨kd4, ky4, dg4, rs4, nw4⟩] := two_sl (by rw [hw6, ← e2]; exact heap_alloc_new _ _)
    have Hc6 : Hid (Chg [] w w6) := by rw [hw6]; exact Hc5.out.alloc _
    have Hp86 : Hid (w6.heap[w.heap.size]? = some (.cells (oCells ⟨kd3, ky3, dg3, rs3, nw3⟩).toArray 35 (0, 0))) := by rw [hw6]; exact blk_alloc Hp8.out
    have Hp96 : Hid (w6.heap[w.heap.size + 1]? = some (.cells (oCells ⟨kd4, ky4, dg4, rs4, nw4⟩).toArray 35 (0, 0))) := by rw [hw6]; exact blk_alloc Hp9.out
    have e3 : w6.heap.size = w.heap.size + 3 := by rw [hw6]; simp [e2]
    have Hsm6 := Lib.hid (Hsm2.out w6 hsl6)
    rw [← hw6]
    clear hw6 hsl6 q80 q81 q82 q83 q84 q90 q91 q92 q93 q94 Hsm2 e2 e1
    refine Hsm6.out.mono ?_; rintro e w7 ⟨rfl, rfl⟩
    by_cases hs2 : smallL [⟨kd3, ky3, dg3, rs3, nw3⟩, ⟨kd4, ky4, dg4, rs4, nw4⟩] = true
    · rw [hs2]
      go_wp2_with fail
      refine (new_ok (1 + a0 % 5) (1 + a1 % 100) _ (by omega) (by omega) (by omega) (by omega)).mono ?_
      rintro e w7 ⟨ta, ma, rfl, ht7, hta, hma, hc7⟩
      have hta7 := lt_of_heap ht7.1
      have hma7 := ht7.2.lt
      have hne7 := ht7.ne
      go_wp2_with fail
      refine (new_ok (1 + a0 % 5) (1 + a1 % 100) _ (by omega) (by omega) (by omega) (by omega)).mono ?_
      rintro e w8 ⟨tb, mb, rfl, ht8, htb, hmb, hc8⟩
      have hne8 := ht8.ne
      have hta8 := ht7.kept hc8 (by simp) (by simp)
      have Hta8 := Lib.hid hta8
      have Htb8 := Lib.hid ht8
      have hc68 := hc7.thenSame hc8
      have HB8 : Hid (Below w.heap.size w w8) := (Hc6.out.toBelow (Nat.le_refl _) (by simp)).trans (hc68.toBelow Hc6.out.size (by simp))
      have Hp88 : Hid (w8.heap[w.heap.size]? = some (.cells (oCells ⟨kd3, ky3, dg3, rs3, nw3⟩).toArray 35 (0, 0))) := hc68.at (by simp) Hp86.out
      have Hp98 : Hid (w8.heap[w.heap.size + 1]? = some (.cells (oCells ⟨kd4, ky4, dg4, rs4, nw4⟩).toArray 35 (0, 0))) := hc68.at (by simp) Hp96.out
      clear ht7 ht8 hta8 hc7 hc8 hc68
      generalize hroom : 1 + a0 % 5 = room at *
      generalize hlife : 1 + a1 % 100 = life at *
      have hrl : 1 ≤ room ∧ room ≤ 5 ∧ 1 ≤ life ∧ life ≤ 100 := by omega
      obtain ⟨r1, r2, r3, r4⟩ := hrl
      clear hroom hlife g00 g01 g10 g11
      go_wp2_with fail
      go_loopw [66] (fun i wr => ∃ (k : Nat) (s : St), i = .int .i64 k ∧ k ≤ len2 ∧ TabIs wr ta ma s ∧ TabIs wr tb mb s ∧ s.ok ∧ wr.heap[w.heap.size]? = some (.cells (oCells ⟨kd3, ky3, dg3, rs3, nw3⟩).toArray 35 (0, 0)) ∧ wr.heap[w.heap.size + 1]? = some (.cells (oCells ⟨kd4, ky4, dg4, rs4, nw4⟩).toArray 35 (0, 0)) ∧ Below w.heap.size w wr) (fun i _ => len2 - (intOf i).toNat)
      case atStart => exact ⟨0, _, rfl, Nat.zero_le _, Hta8.out, Htb8.out, by simp [St.ok]; omega, Hp88.out, Hp98.out, HB8.out⟩
      case round =>
        obtain ⟨k, s, rfl, hkl, hA, hB, hok, hp8, hp9, hbl⟩ := hrel
        by_cases hlt : k < len2
        · have hk2 : k < l.length := by rw [Hsl.out.1]; exact hlt
          obtain ⟨b, off, rfl, hb0, _⟩ := Hsl.out.2 k hk2
          obtain ⟨b', off', he, hb, hcc⟩ := (Hsl.out.below hbl).2 k hk2
          cases he
          have hxg := Hgd.out l[k] (List.getElem_mem hk2)
          obtain ⟨x, hx⟩ : ∃ x, x = l[k] := ⟨_, rfl⟩
          rw [← hx] at hcc hxg
          clear hx
          have d0 := hcc 0 (by omega)
          have d1 := hcc 1 (by omega)
          have d2 := hcc 2 (by omega)
          have d3 := hcc 3 (by omega)
          have d4 := hcc 4 (by omega)
          simp only [oCells, List.getElem?_cons_zero, List.getElem?_cons_succ, Nat.add_zero] at d0 d1 d2 d3 d4
          have htal := lt_of_heap hA.1
          have hmal := hA.2.lt
          have htbl := lt_of_heap hB.1
          have hmbl := hB.2.lt
          have hnd := hA.nd
          have hok2 := stepP_ok (x := x) hok hnd
          have Hst := Lib.hid (fun (t m rb : Nat) w' (r : RSt) (h1 : TabIs w' t m s) (h2 : RTabIs w' rb [t, m] r) (h3 : r.ok) => step_any t m rb s r x w' h1 h2 hok h3 hxg)
          have Hbl := Lib.hid hbl
          have Hok2 := Lib.hid hok2
          have HA := Lib.hid hA
          have HB := Lib.hid hB
          have Hq8 := Lib.hid hp8
          have Hq9 := Lib.hid hp9
          have hws := hbl.size
          have hk0 : (0 : Int) ≤ (k : Int) := by omega
          have hk1 : (k : Int) < (len2 : Int) := by omega
          obtain ⟨kd, ky, dg, rs, nw⟩ := x
          simp only at d0 d1 d2 d3 d4
          generalize stepP s ⟨kd, ky, dg, rs, nw⟩ = s' at *
          clear hbl hok2 hA hB hp8 hp9 hnd hok hcc hxg
          go_wp2_with fail
          go_region_held3 (fun w' => w'.cell? ⟨b, off + k * 5, none⟩ = some (.int .i64 kd) ∧ w'.cell? ⟨b, off + k * 5 + 1, none⟩ = some (.string ky) ∧ w'.cell? ⟨b, off + k * 5 + 2, none⟩ = some (.string dg) ∧ w'.cell? ⟨b, off + k * 5 + 3, none⟩ = some (.string rs) ∧ w'.cell? ⟨b, off + k * 5 + 4, none⟩ = some (.int .i64 nw))
            (first | go_keep | (refine ⟨?_, ?_, ?_, ?_, ?_⟩ <;> (rw [hkp2]; assumption)) | (refine ⟨?_, ?_, ?_, ?_, ?_⟩ <;> (rw [hkp1]; assumption)))
            (first
              | (go_at_call 13; refine (mirror_any [ta, ma] _ (by simp; omega)).mono ?_; rintro e w1 ⟨rb, rfl, hr1, hrb1, hc1⟩; have hc1' : Chg [] wr w1 := ((Chg.refl [] _).drew).thenSame hc1; have hkp1 : ∀ i, w1.cell? ⟨b, i, none⟩ = wr.cell? ⟨b, i, none⟩ := fun i => World.cell?_of_block (w := wr) (a := ⟨b, i, none⟩) (hc1'.block b hb (by simp)); have ht1 := HA.out.kept hc1' (by simp) (by simp); simp only [heap_drew] at hrb1)
              | (go_at_call 12; refine (Hst.out _ _ _ _ _ ht1 hr1 rok1).mono ?_; rintro e w2 ⟨rfl, ht2, _, hc2⟩; have hc2w : Chg [ta, ma] wr w2 := (hc1'.mono (by simp)).then hc2 (by intro y hy hl; simp at hy ⊢; omega); have hkp2 : ∀ i, w2.cell? ⟨b, i, none⟩ = wr.cell? ⟨b, i, none⟩ := fun i => World.cell?_of_block (w := wr) (a := ⟨b, i, none⟩) (hc2w.block b hb (by simp; omega))))
          have hs2w := hc2w.size
          have hb2 : b < w2.heap.size := by omega
          have f0 : w2.cell? ⟨b, off + k * 5, none⟩ = some (.int .i64 kd) := by rw [hkp2]; exact d0
          have f1 : w2.cell? ⟨b, off + k * 5 + 1, none⟩ = some (.string ky) := by rw [hkp2]; exact d1
          have f2 : w2.cell? ⟨b, off + k * 5 + 2, none⟩ = some (.string dg) := by rw [hkp2]; exact d2
          have f3 : w2.cell? ⟨b, off + k * 5 + 3, none⟩ = some (.string rs) := by rw [hkp2]; exact d3
          have f4 : w2.cell? ⟨b, off + k * 5 + 4, none⟩ = some (.int .i64 nw) := by rw [hkp2]; exact d4
          have HB2 := Lib.hid (HB.out.kept hc2w (by simp; omega) (by simp; omega))
          have HA2 := Lib.hid ht2
          have Hc2w := Lib.hid hc2w
          clear hkp1 hkp2 ht1 ht2 hr1 hc1 hc1' hc2 hc2w d0 d1 d2 d3 d4
          go_wp2_with fail
          go_region_held3 (fun w' => w'.cell? ⟨b, off + k * 5, none⟩ = some (.int .i64 kd) ∧ w'.cell? ⟨b, off + k * 5 + 1, none⟩ = some (.string ky) ∧ w'.cell? ⟨b, off + k * 5 + 2, none⟩ = some (.string dg) ∧ w'.cell? ⟨b, off + k * 5 + 3, none⟩ = some (.string rs) ∧ w'.cell? ⟨b, off + k * 5 + 4, none⟩ = some (.int .i64 nw))
            (first | go_keep | (refine ⟨?_, ?_, ?_, ?_, ?_⟩ <;> (rw [hkp4]; assumption)) | (refine ⟨?_, ?_, ?_, ?_, ?_⟩ <;> (rw [hkp3]; assumption)))
            (first
              | (go_at_call 13; refine (mirror_any [tb, mb] _ (by simp; omega)).mono ?_; rintro e w3 ⟨rb2, rfl, hr3, hrb3, hc3⟩; have hc3' : Chg [] w2 w3 := ((Chg.refl [] _).drew).thenSame hc3; have hkp3 : ∀ i, w3.cell? ⟨b, i, none⟩ = w2.cell? ⟨b, i, none⟩ := fun i => World.cell?_of_block (w := w2) (a := ⟨b, i, none⟩) (hc3'.block b hb2 (by simp)); have ht3 := HB2.out.kept hc3' (by simp) (by simp); simp only [heap_drew] at hrb3)
              | (go_at_call 12; refine (Hst.out _ _ _ _ _ ht3 hr3 rok1).mono ?_; rintro e w4 ⟨rfl, ht4, _, hc4⟩; have hc4w : Chg [tb, mb] w2 w4 := (hc3'.mono (by simp)).then hc4 (by intro y hy hl; simp at hy ⊢; omega); have hkp4 : ∀ i, w4.cell? ⟨b, i, none⟩ = w2.cell? ⟨b, i, none⟩ := fun i => World.cell?_of_block (w := w2) (a := ⟨b, i, none⟩) (hc4w.block b hb2 (by simp; omega))))
          go_wp2_with fail
          have hs4w := hc4w.size
          exact ⟨⟨k + 1, s', by go_num, by omega, HA2.out.kept hc4w (by simp; omega) (by simp; omega), ht4, Hok2.out, hc4w.at (by simp; omega) (Hc2w.out.at (by simp; omega) Hq8.out), hc4w.at (by simp; omega) (Hc2w.out.at (by simp; omega) Hq9.out), (Hbl.out.trans (Hc2w.out.toBelow Hbl.out.size (by simp; omega))).trans (hc4w.toBelow (by omega) (by simp; omega))⟩, by simp [intOf]; omega⟩
        · have Hbl := Lib.hid hbl
          have hnd := hA.nd
          have hbk := bad_keeps s ⟨kd3, ky3, dg3, rs3, nw3⟩ hnd
          have HA := Lib.hid hA
          have HB := Lib.hid hB
          have Hq9 := Lib.hid hp9
          have Hok := Lib.hid hok
          have htal := lt_of_heap hA.1
          have hmal := hA.2.lt
          have htbl := lt_of_heap hB.1
          have hmbl := hB.2.lt
          have hws := hbl.size
          obtain ⟨_, z1, z2, z3, _⟩ := Hg3.out
          obtain ⟨_, z4, z5, _, _⟩ := Hg4.out
          simp only at z1 z2 z3 z4 z5
          have hok2 := begin_ok (key := ky4) (dig := dg4) (now := nw4) hok hnd
          have Cn := Lib.hid (fun t m w' (h : TabIs w' t m s) => begin_any t m s ky4 dg4 nw4 w' h hok z4 z5)
          obtain ⟨⟨⟨na, ns, ne⟩, s2⟩, hN⟩ : ∃ R, R = beginS s ky4 dg4 nw4 := ⟨_, rfl⟩
          rw [← hN] at hok2 Cn
          simp only at hok2
          have hl2 : s2.l.length ≤ 4096 := by obtain ⟨_, h2, _, _, _, _, h7⟩ := hok2; omega
          have hkl1 : (keysS s2).length ≤ 4096 := by simp only [keysS, List.length_mergeSort, List.length_map]; exact hl2
          have q8 := blk_cell hp8
          have q80 := q8 0
          have q81 := q8 1
          have q82 := q8 2
          have q83 := q8 3
          have q84 := q8 4
          simp only [oCells, List.getElem?_toArray, List.getElem?_cons_zero, List.getElem?_cons_succ] at q80 q81 q82 q83 q84
          clear hbl hA hB hp8 hp9 hok q8 hN
          by_cases k0 : kd3 = 0
          · subst k0
            simp only [badS, if_true] at hbk
            have Cb := Lib.hid (begin_any ta ma s ky3 dg3 nw3 wr HA.out Hok.out z1 z2)
            generalize beginS s ky3 dg3 nw3 = P at *
            obtain ⟨⟨pa, ps, pe⟩, s1⟩ := P
            simp only at hbk
            go_wp2_with fail
            refine Cb.out.mono ?_; rintro e w10 ⟨rfl, ht10, hc10⟩
            have hs10 := hc10.size
            have HB10 : Hid (Below w.heap.size w w10) := Hbl.out.trans (hc10.toBelow Hbl.out.size (by simp; omega))
            have Hbt10 := Lib.hid (HB.out.kept hc10 (by simp; omega) (by simp; omega))
            have Hq10 : Hid (w10.heap[w.heap.size + 1]? = some (.cells (oCells ⟨kd4, ky4, dg4, rs4, nw4⟩).toArray 35 (0, 0))) := hc10.at (by simp; omega) Hq9.out
            have Ht10 := Lib.hid ht10
            clear ht10 hc10 q80 q81 q82 q83 q84
            by_cases hpe : pe = 0
            · subst hpe
              go_wp2_with fail
              refine (awake_any _).mono ?_; rintro e w11 ⟨rfl, hb4⟩
              go_wp2_with fail
              go_ret
              exact ⟨rfl, HB10.out.trans (hb4.mono HB10.out.size)⟩
            · have hpb : (pe == 0) = false := by simpa using hpe
              have hss := hbk hpe
              subst hss
              have q9 := blk_cell Hq10.out
              have q91 := q9 1
              have q92 := q9 2
              have q94 := q9 4
              simp only [oCells, List.getElem?_toArray, List.getElem?_cons_zero, List.getElem?_cons_succ] at q91 q92 q94
              clear hbk hpe q9
              go_wp2_with fail
              refine (Cn.out _ _ _ Ht10.out).mono ?_; rintro e w11 ⟨rfl, ht11, hc11⟩
              have hs11 := hc11.size
              have HB11 : Hid (Below w.heap.size w w11) := HB10.out.trans (hc11.toBelow HB10.out.size (by simp; omega))
              have Hbt11 := Lib.hid (Hbt10.out.kept hc11 (by simp; omega) (by simp; omega))
              have Ht11 := Lib.hid ht11
              have q9 := blk_cell (hc11.at (by simp; omega) Hq10.out)
              have r91 := q9 1
              have r92 := q9 2
              have r94 := q9 4
              simp only [oCells, List.getElem?_toArray, List.getElem?_cons_zero, List.getElem?_cons_succ] at r91 r92 r94
              clear ht11 hc11 q9 q91 q92 q94
              go_wp2_with fail
              refine (Cn.out _ _ _ Hbt11.out).mono ?_; rintro e w12 ⟨rfl, ht12, hc12⟩
              have hs12 := hc12.size
              have HB12 : Hid (Below w.heap.size w w12) := HB11.out.trans (hc12.toBelow HB11.out.size (by simp; omega))
              have Ht12 := Lib.hid (Ht11.out.kept hc12 (by simp; omega) (by simp; omega))
              have Hbt12 := Lib.hid ht12
              clear ht12 hc12 r91 r92 r94
              simp only at Ht12 Hbt12
              have Hka := Lib.hid (fun t m w' (h : TabIs w' t m s2) => keys_any t m s2 w' h hl2)
              generalize keysS s2 = K at *
              go_wp2_with fail
              refine (Hka.out _ _ _ Ht12.out).mono ?_; rintro e w13 ⟨v13, rfl, hrow13, hc13⟩
              have Hbt13 := Lib.hid (Hbt12.out.kept hc13 (by simp) (by simp))
              have Hrow13 := Lib.hid hrow13
              have Hc13 := Lib.hid hc13
              clear hrow13 hc13
              go_wp2_with fail
              refine (Hka.out _ _ _ Hbt13.out).mono ?_; rintro e w14 ⟨v14, rfl, hrow14, hc14⟩
              have Hx := Lib.hid (texts_any (Hrow13.out.kept hc14 (by simp)) hrow14 hkl1 hkl1)
              rw [decide_eq_true (rfl : K = K)] at Hx
              have Hc14 := Lib.hid hc14
              clear hrow14 hc14
              go_wp2_with fail
              refine Hx.out.mono ?_; rintro e w15 ⟨rfl, hc15⟩
              have HB15 : Hid (Below w.heap.size w w15) := HB12.out.trans (((Hc13.out.thenSame Hc14.out).thenSame hc15).toBelow HB12.out.size (by simp))
              clear hc15
              go_wp2_with fail
              refine (awake_any _).mono ?_; rintro e w16 ⟨rfl, hb4⟩
              go_wp2_with fail
              go_ret
              exact ⟨rfl, HB15.out.trans (hb4.mono HB15.out.size)⟩
          · have c0 : (kd3 == 0) = false := by simpa using k0
            by_cases k1 : kd3 = 1
            · subst k1
              simp only [badS] at hbk
              rw [if_neg (by omega), if_pos trivial] at hbk
              have Cb := Lib.hid (finish_any ta ma s ky3 dg3 rs3 nw3 wr HA.out Hok.out z1 z2 z3)
              generalize finishS s ky3 dg3 rs3 nw3 = P at *
              obtain ⟨pe, s1⟩ := P
              simp only at hbk
              go_wp2_with fail
              refine Cb.out.mono ?_; rintro e w10 ⟨rfl, ht10, hc10⟩
              have hs10 := hc10.size
              have HB10 : Hid (Below w.heap.size w w10) := Hbl.out.trans (hc10.toBelow Hbl.out.size (by simp; omega))
              have Hbt10 := Lib.hid (HB.out.kept hc10 (by simp; omega) (by simp; omega))
              have Hq10 : Hid (w10.heap[w.heap.size + 1]? = some (.cells (oCells ⟨kd4, ky4, dg4, rs4, nw4⟩).toArray 35 (0, 0))) := hc10.at (by simp; omega) Hq9.out
              have Ht10 := Lib.hid ht10
              clear ht10 hc10 q80 q81 q82 q83 q84
              by_cases hpe : pe = 0
              · subst hpe
                go_wp2_with fail
                refine (awake_any _).mono ?_; rintro e w11 ⟨rfl, hb4⟩
                go_wp2_with fail
                go_ret
                exact ⟨rfl, HB10.out.trans (hb4.mono HB10.out.size)⟩
              · have hpb : (pe == 0) = false := by simpa using hpe
                have hss := hbk hpe
                subst hss
                have q9 := blk_cell Hq10.out
                have q91 := q9 1
                have q92 := q9 2
                have q94 := q9 4
                simp only [oCells, List.getElem?_toArray, List.getElem?_cons_zero, List.getElem?_cons_succ] at q91 q92 q94
                clear hbk hpe q9
                go_wp2_with fail
                refine (Cn.out _ _ _ Ht10.out).mono ?_; rintro e w11 ⟨rfl, ht11, hc11⟩
                have hs11 := hc11.size
                have HB11 : Hid (Below w.heap.size w w11) := HB10.out.trans (hc11.toBelow HB10.out.size (by simp; omega))
                have Hbt11 := Lib.hid (Hbt10.out.kept hc11 (by simp; omega) (by simp; omega))
                have Ht11 := Lib.hid ht11
                have q9 := blk_cell (hc11.at (by simp; omega) Hq10.out)
                have r91 := q9 1
                have r92 := q9 2
                have r94 := q9 4
                simp only [oCells, List.getElem?_toArray, List.getElem?_cons_zero, List.getElem?_cons_succ] at r91 r92 r94
                clear ht11 hc11 q9 q91 q92 q94
                go_wp2_with fail
                refine (Cn.out _ _ _ Hbt11.out).mono ?_; rintro e w12 ⟨rfl, ht12, hc12⟩
                have hs12 := hc12.size
                have HB12 : Hid (Below w.heap.size w w12) := HB11.out.trans (hc12.toBelow HB11.out.size (by simp; omega))
                have Ht12 := Lib.hid (Ht11.out.kept hc12 (by simp; omega) (by simp; omega))
                have Hbt12 := Lib.hid ht12
                clear ht12 hc12 r91 r92 r94
                simp only at Ht12 Hbt12
                have Hka := Lib.hid (fun t m w' (h : TabIs w' t m s2) => keys_any t m s2 w' h hl2)
                generalize keysS s2 = K at *
                go_wp2_with fail
                refine (Hka.out _ _ _ Ht12.out).mono ?_; rintro e w13 ⟨v13, rfl, hrow13, hc13⟩
                have Hbt13 := Lib.hid (Hbt12.out.kept hc13 (by simp) (by simp))
                have Hrow13 := Lib.hid hrow13
                have Hc13 := Lib.hid hc13
                clear hrow13 hc13
                go_wp2_with fail
                refine (Hka.out _ _ _ Hbt13.out).mono ?_; rintro e w14 ⟨v14, rfl, hrow14, hc14⟩
                have Hx := Lib.hid (texts_any (Hrow13.out.kept hc14 (by simp)) hrow14 hkl1 hkl1)
                rw [decide_eq_true (rfl : K = K)] at Hx
                have Hc14 := Lib.hid hc14
                clear hrow14 hc14
                go_wp2_with fail
                refine Hx.out.mono ?_; rintro e w15 ⟨rfl, hc15⟩
                have HB15 : Hid (Below w.heap.size w w15) := HB12.out.trans (((Hc13.out.thenSame Hc14.out).thenSame hc15).toBelow HB12.out.size (by simp))
                clear hc15
                go_wp2_with fail
                refine (awake_any _).mono ?_; rintro e w16 ⟨rfl, hb4⟩
                go_wp2_with fail
                go_ret
                exact ⟨rfl, HB15.out.trans (hb4.mono HB15.out.size)⟩
            · have c1 : (kd3 == 1) = false := by simpa using k1
              by_cases k2 : kd3 = 2
              · subst k2
                simp only [badS] at hbk
                rw [if_neg (by omega), if_neg (by omega), if_pos trivial] at hbk
                have Cb := Lib.hid (abandon_any ta ma s ky3 dg3 nw3 wr HA.out z1 z2)
                generalize abandonS s ky3 dg3 nw3 = P at *
                obtain ⟨pe, s1⟩ := P
                simp only at hbk
                go_wp2_with fail
                refine Cb.out.mono ?_; rintro e w10 ⟨rfl, ht10, hc10⟩
                have hs10 := hc10.size
                have HB10 : Hid (Below w.heap.size w w10) := Hbl.out.trans (hc10.toBelow Hbl.out.size (by simp; omega))
                have Hbt10 := Lib.hid (HB.out.kept hc10 (by simp; omega) (by simp; omega))
                have Hq10 : Hid (w10.heap[w.heap.size + 1]? = some (.cells (oCells ⟨kd4, ky4, dg4, rs4, nw4⟩).toArray 35 (0, 0))) := hc10.at (by simp; omega) Hq9.out
                have Ht10 := Lib.hid ht10
                clear ht10 hc10 q80 q81 q82 q83 q84
                by_cases hpe : pe = 0
                · subst hpe
                  go_wp2_with fail
                  refine (awake_any _).mono ?_; rintro e w11 ⟨rfl, hb4⟩
                  go_wp2_with fail
                  go_ret
                  exact ⟨rfl, HB10.out.trans (hb4.mono HB10.out.size)⟩
                · have hpb : (pe == 0) = false := by simpa using hpe
                  have hss := hbk hpe
                  subst hss
                  have q9 := blk_cell Hq10.out
                  have q91 := q9 1
                  have q92 := q9 2
                  have q94 := q9 4
                  simp only [oCells, List.getElem?_toArray, List.getElem?_cons_zero, List.getElem?_cons_succ] at q91 q92 q94
                  clear hbk hpe q9
                  go_wp2_with fail
                  refine (Cn.out _ _ _ Ht10.out).mono ?_; rintro e w11 ⟨rfl, ht11, hc11⟩
                  have hs11 := hc11.size
                  have HB11 : Hid (Below w.heap.size w w11) := HB10.out.trans (hc11.toBelow HB10.out.size (by simp; omega))
                  have Hbt11 := Lib.hid (Hbt10.out.kept hc11 (by simp; omega) (by simp; omega))
                  have Ht11 := Lib.hid ht11
                  have q9 := blk_cell (hc11.at (by simp; omega) Hq10.out)
                  have r91 := q9 1
                  have r92 := q9 2
                  have r94 := q9 4
                  simp only [oCells, List.getElem?_toArray, List.getElem?_cons_zero, List.getElem?_cons_succ] at r91 r92 r94
                  clear ht11 hc11 q9 q91 q92 q94
                  go_wp2_with fail
                  refine (Cn.out _ _ _ Hbt11.out).mono ?_; rintro e w12 ⟨rfl, ht12, hc12⟩
                  have hs12 := hc12.size
                  have HB12 : Hid (Below w.heap.size w w12) := HB11.out.trans (hc12.toBelow HB11.out.size (by simp; omega))
                  have Ht12 := Lib.hid (Ht11.out.kept hc12 (by simp; omega) (by simp; omega))
                  have Hbt12 := Lib.hid ht12
                  clear ht12 hc12 r91 r92 r94
                  simp only at Ht12 Hbt12
                  have Hka := Lib.hid (fun t m w' (h : TabIs w' t m s2) => keys_any t m s2 w' h hl2)
                  generalize keysS s2 = K at *
                  go_wp2_with fail
                  refine (Hka.out _ _ _ Ht12.out).mono ?_; rintro e w13 ⟨v13, rfl, hrow13, hc13⟩
                  have Hbt13 := Lib.hid (Hbt12.out.kept hc13 (by simp) (by simp))
                  have Hrow13 := Lib.hid hrow13
                  have Hc13 := Lib.hid hc13
                  clear hrow13 hc13
                  go_wp2_with fail
                  refine (Hka.out _ _ _ Hbt13.out).mono ?_; rintro e w14 ⟨v14, rfl, hrow14, hc14⟩
                  have Hx := Lib.hid (texts_any (Hrow13.out.kept hc14 (by simp)) hrow14 hkl1 hkl1)
                  rw [decide_eq_true (rfl : K = K)] at Hx
                  have Hc14 := Lib.hid hc14
                  clear hrow14 hc14
                  go_wp2_with fail
                  refine Hx.out.mono ?_; rintro e w15 ⟨rfl, hc15⟩
                  have HB15 : Hid (Below w.heap.size w w15) := HB12.out.trans (((Hc13.out.thenSame Hc14.out).thenSame hc15).toBelow HB12.out.size (by simp))
                  clear hc15
                  go_wp2_with fail
                  refine (awake_any _).mono ?_; rintro e w16 ⟨rfl, hb4⟩
                  go_wp2_with fail
                  go_ret
                  exact ⟨rfl, HB15.out.trans (hb4.mono HB15.out.size)⟩
              · have c2 : (kd3 == 2) = false := by simpa using k2
                clear hbk
                go_wp2_with fail
                refine (awake_any _).mono ?_; rintro e w11 ⟨rfl, hb4⟩
                go_wp2_with fail
                go_ret
                exact ⟨rfl, Hbl.out.trans (hb4.mono Hbl.out.size)⟩
    · have hs2' : smallL [⟨kd3, ky3, dg3, rs3, nw3⟩, ⟨kd4, ky4, dg4, rs4, nw4⟩] = false := by simpa using hs2
      rw [hs2']
      clear hs2 hs2'
      go_wp2_with fail
      refine (awake_any _).mono ?_; rintro e w8 ⟨rfl, hb4⟩
      go_wp2_with fail
      go_ret
      exact ⟨rfl, (Hc6.out.toBelow (Nat.le_refl _) (by simp)).trans (hb4.mono Hc6.out.size)⟩
  · have hsm' : smallL l = false := by simpa using hsm
    obtain ⟨w5, hw5⟩ : ∃ w5, w5 = (w.alloc (.cells (oCells a3).toArray 35)).alloc (.cells (oCells a4).toArray 35) := ⟨_, rfl⟩
    have hc5 : Chg [] w w5 := by rw [hw5]; exact ((Chg.refl _ _).alloc _).alloc _
    have hs1 := smallF_any a2 len2 cap2 l w5 (Hsl.out.kept hc5) Hgd.out hml
    rw [hsm'] at hs1
    have Hs1 := Lib.hid hs1
    have Hc5 := Lib.hid hc5
    clear hc5 hs1 hsm hsm'
    go_enter Try.func6, Try.ntmps6
    go_wp2_with fail
    rw [← hw5]
    clear hw5
    refine Hs1.out.mono ?_; rintro e w6 ⟨rfl, rfl⟩
    go_wp2_with fail
    refine (awake_any _).mono ?_; rintro e w8 ⟨rfl, hb4⟩
    go_wp2_with fail
    go_ret
    exact ⟨rfl, (Hc5.out.toBelow (Nat.le_refl _) (by simp)).trans (hb4.mono Hc5.out.size)⟩
end Go.Proofs.Ytkbblkhkadcpcaa
