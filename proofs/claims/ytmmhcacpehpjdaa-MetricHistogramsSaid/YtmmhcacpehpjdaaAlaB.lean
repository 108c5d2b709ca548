/- Chapter 19: contracts: Breaches, of both. No condition. -/
import Derived.Test.YtmmhcacpehpjdaaAlaA
namespace Go.Proofs.Ytmmhcacpehpjdaa
set_option linter.unusedVariables false
set_option linter.unusedSimpArgs false
open Go.RowKit

def breachS (r : Rd) (x : Sd) : Bool × Bool :=
  if ruleB r = true then (if (numberS x r.st).2 = true then (if r.ab = true then decide (r.th < (numberS x r.st).1) else decide ((numberS x r.st).1 < r.th), true) else (r.ms, r.ms)) else (false, false)

def BrPost (w : World) (r : Bool × Bool) (e : Ending) (w' : World) : Prop := e = .returned (.tuple #[.bool r.1, .bool r.2]) ∧ Chg [] w w'

set_option maxHeartbeats 2000000 in
theorem breach_any (r : Rd) (x : Sd) (w : World) : Calls Try.prog 14 #[.agg #[.int .i64 r.st, .bool r.ab, .int .i64 r.th, .int .i64 r.wd, .int .i64 r.m, .int .i64 r.n, .bool r.ms], .agg #[.int .i64 x.c, .int .i64 x.s, .int .i64 x.mn, .int .i64 x.mx]] w (BrPost w (breachS r x)) := by
  obtain ⟨⟨ra, rb⟩, hR⟩ : ∃ R, R = breachS r x := ⟨_, rfl⟩
  rw [← hR]
  have HR := Lib.hid hR
  obtain ⟨w2, hw2⟩ : ∃ w2, w2 = (w.alloc (.cells #[.int .i64 r.st, .bool r.ab, .int .i64 r.th, .int .i64 r.wd, .int .i64 r.m, .int .i64 r.n, .bool r.ms] 24)).alloc (.cells #[.int .i64 x.c, .int .i64 x.s, .int .i64 x.mn, .int .i64 x.mx] 26) := ⟨_, rfl⟩
  have e1 : (w.alloc (.cells #[.int .i64 r.st, .bool r.ab, .int .i64 r.th, .int .i64 r.wd, .int .i64 r.m, .int .i64 r.n, .bool r.ms] 24)).heap.size = w.heap.size + 1 := by simp
  have Hc2 : Hid (Chg [] w w2) := by rw [hw2]; exact ((Chg.refl _ _).alloc _).alloc _
  have Hp : Hid (w2.heap[w.heap.size]? = some (.cells #[.int .i64 r.st, .bool r.ab, .int .i64 r.th, .int .i64 r.wd, .int .i64 r.m, .int .i64 r.n, .bool r.ms] 24 (0, 0))) := by rw [hw2]; exact blk_alloc (heap_alloc_new _ _)
  have Hq : Hid (w2.heap[w.heap.size + 1]? = some (.cells #[.int .i64 x.c, .int .i64 x.s, .int .i64 x.mn, .int .i64 x.mx] 26 (0, 0))) := by rw [hw2, ← e1]; exact heap_alloc_new _ _
  have Hch := Lib.hid (acheck_any r w2)
  have Hnum := Lib.hid (fun w' => number_any x r.st w')
  obtain ⟨⟨na, nb⟩, hN⟩ : ∃ R, R = numberS x r.st := ⟨_, rfl⟩
  rw [← hN] at Hnum
  have hbs : breachS r x = if ruleB r = true then (if nb = true then (if r.ab = true then decide (r.th < na) else decide (na < r.th), true) else (r.ms, r.ms)) else (false, false) := by unfold breachS; rw [← hN]
  rw [hbs] at HR
  obtain ⟨K, hK⟩ : ∃ K, K = checkR r := ⟨_, rfl⟩
  have hKr : (K == 0) = ruleB r := by rw [hK]; unfold checkR; cases ruleB r <;> rfl
  rw [← hK] at Hch
  rw [← hKr] at HR
  clear hR hbs hN hK hKr e1
  obtain ⟨st, ab, th, wd, m, n, ms⟩ := r
  obtain ⟨c, s, mn, mx⟩ := x
  simp only at HR Hp Hq Hch Hnum hw2
  show Calls _ _ #[.agg #[.int .i64 st, .bool ab, .int .i64 th, .int .i64 wd, .int .i64 m, .int .i64 n, .bool ms], .agg #[.int .i64 c, .int .i64 s, .int .i64 mn, .int .i64 mx]] _ _
  go_enter Try.func14, Try.ntmps14
  go_wp2_with fail
  rw [← hw2]
  clear hw2
  refine Hch.out.mono ?_; rintro e w3 ⟨rfl, hc3⟩
  have p := blk_cell (hc3.at (by simp) Hp.out)
  have q := blk_cell (hc3.at (by simp) Hq.out)
  have p0 := p 0
  have q0 := q 0
  have q1 := q 1
  have q2 := q 2
  have q3 := q 3
  simp only [List.getElem?_toArray, List.getElem?_cons_zero, List.getElem?_cons_succ] at p0 q0 q1 q2 q3
  have Hc3 := Lib.hid hc3
  clear p q hc3
  go_wp2_with (first | (go_at_call 38; refine (Hnum.out _).mono ?_; rintro e w4 ⟨rfl, hc4⟩; have p2 := blk_cell ((Hc3.out.thenSame hc4).at (by simp) Hp.out); have p21 := p2 1; have p22 := p2 2; have p26 := p2 6; simp only [List.getElem?_toArray, List.getElem?_cons_zero, List.getElem?_cons_succ] at p21 p22 p26; have Hc4 := Lib.hid hc4; clear p2 hc4) | go_quiet (fail) | fail)
  all_goals go_ret2
  all_goals (
    have e := HR.out
    clear Hch Hnum Hp Hq HR
    simp only [bne_iff_ne, bne_eq_false_iff_eq, beq_iff_eq, ne_eq, Bool.not_eq_true', Bool.not_eq_false'] at *
    simp [*] at e
    obtain ⟨rfl, rfl⟩ := e
    first
      | exact ⟨rfl, Hc2.out.thenSame Hc3.out⟩
      | exact ⟨rfl, (Hc2.out.thenSame Hc3.out).thenSame Hc4.out⟩
      | exact ⟨rfl, ((Hc2.out.thenSame Hc3.out).thenSame Hc4.out).drewN _⟩)

set_option maxHeartbeats 2000000 in
theorem rbreach_any (r : Rd) (x : Sd) (w : World) : Calls Try.prog 15 #[.agg #[.int .i64 r.st, .bool r.ab, .int .i64 r.th, .int .i64 r.wd, .int .i64 r.m, .int .i64 r.n, .bool r.ms], .agg #[.int .i64 x.c, .int .i64 x.s, .int .i64 x.mn, .int .i64 x.mx]] w (BrPost w (breachS r x)) := by
  obtain ⟨⟨ra, rb⟩, hR⟩ : ∃ R, R = breachS r x := ⟨_, rfl⟩
  rw [← hR]
  have HR := Lib.hid hR
  obtain ⟨w2, hw2⟩ : ∃ w2, w2 = (w.alloc (.cells #[.int .i64 r.st, .bool r.ab, .int .i64 r.th, .int .i64 r.wd, .int .i64 r.m, .int .i64 r.n, .bool r.ms] 24)).alloc (.cells #[.int .i64 x.c, .int .i64 x.s, .int .i64 x.mn, .int .i64 x.mx] 26) := ⟨_, rfl⟩
  have e1 : (w.alloc (.cells #[.int .i64 r.st, .bool r.ab, .int .i64 r.th, .int .i64 r.wd, .int .i64 r.m, .int .i64 r.n, .bool r.ms] 24)).heap.size = w.heap.size + 1 := by simp
  have Hc2 : Hid (Chg [] w w2) := by rw [hw2]; exact ((Chg.refl _ _).alloc _).alloc _
  have Hp : Hid (w2.heap[w.heap.size]? = some (.cells #[.int .i64 r.st, .bool r.ab, .int .i64 r.th, .int .i64 r.wd, .int .i64 r.m, .int .i64 r.n, .bool r.ms] 24 (0, 0))) := by rw [hw2]; exact blk_alloc (heap_alloc_new _ _)
  have Hq : Hid (w2.heap[w.heap.size + 1]? = some (.cells #[.int .i64 x.c, .int .i64 x.s, .int .i64 x.mn, .int .i64 x.mx] 26 (0, 0))) := by rw [hw2, ← e1]; exact heap_alloc_new _ _
  have Hch := Lib.hid (racheck_any r w2)
  have Hnum := Lib.hid (fun w' => rnumber_any x r.st w')
  obtain ⟨⟨na, nb⟩, hN⟩ : ∃ R, R = numberS x r.st := ⟨_, rfl⟩
  rw [← hN] at Hnum
  have hbs : breachS r x = if ruleB r = true then (if nb = true then (if r.ab = true then decide (r.th < na) else decide (na < r.th), true) else (r.ms, r.ms)) else (false, false) := by unfold breachS; rw [← hN]
  rw [hbs] at HR
  obtain ⟨K, hK⟩ : ∃ K, K = checkR r := ⟨_, rfl⟩
  have hKr : (K == 0) = ruleB r := by rw [hK]; unfold checkR; cases ruleB r <;> rfl
  rw [← hK] at Hch
  rw [← hKr] at HR
  clear hR hbs hN hK hKr e1
  obtain ⟨st, ab, th, wd, m, n, ms⟩ := r
  obtain ⟨c, s, mn, mx⟩ := x
  simp only at HR Hp Hq Hch Hnum hw2
  show Calls _ _ #[.agg #[.int .i64 st, .bool ab, .int .i64 th, .int .i64 wd, .int .i64 m, .int .i64 n, .bool ms], .agg #[.int .i64 c, .int .i64 s, .int .i64 mn, .int .i64 mx]] _ _
  go_enter Try.func15, Try.ntmps15
  go_wp2_with fail
  rw [← hw2]
  clear hw2
  refine Hch.out.mono ?_; rintro e w3 ⟨rfl, hc3⟩
  have p := blk_cell (hc3.at (by simp) Hp.out)
  have q := blk_cell (hc3.at (by simp) Hq.out)
  have p0 := p 0
  have q0 := q 0
  have q1 := q 1
  have q2 := q 2
  have q3 := q 3
  simp only [List.getElem?_toArray, List.getElem?_cons_zero, List.getElem?_cons_succ] at p0 q0 q1 q2 q3
  have Hc3 := Lib.hid hc3
  clear p q hc3
  go_wp2_with (first | (go_at_call 39; refine (Hnum.out _).mono ?_; rintro e w4 ⟨rfl, hc4⟩; have p2 := blk_cell ((Hc3.out.thenSame hc4).at (by simp) Hp.out); have p21 := p2 1; have p22 := p2 2; have p26 := p2 6; simp only [List.getElem?_toArray, List.getElem?_cons_zero, List.getElem?_cons_succ] at p21 p22 p26; have Hc4 := Lib.hid hc4; clear p2 hc4) | go_quiet (fail) | fail)
  all_goals go_ret2
  all_goals (
    have e := HR.out
    clear Hch Hnum Hp Hq HR
    simp only [bne_iff_ne, bne_eq_false_iff_eq, beq_iff_eq, ne_eq, Bool.not_eq_true', Bool.not_eq_false'] at *
    simp [*] at e
    obtain ⟨rfl, rfl⟩ := e
    first
      | exact ⟨rfl, Hc2.out.thenSame Hc3.out⟩
      | exact ⟨rfl, (Hc2.out.thenSame Hc3.out).thenSame Hc4.out⟩
      | exact ⟨rfl, ((Hc2.out.thenSame Hc3.out).thenSame Hc4.out).drewN _⟩)
end Go.Proofs.Ytmmhcacpehpjdaa
