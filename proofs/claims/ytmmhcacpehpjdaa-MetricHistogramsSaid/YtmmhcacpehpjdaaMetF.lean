/- Chapter 18: contracts: the statistics of values, of both. No condition. -/
import Derived.Test.YtmmhcacpehpjdaaMetE
namespace Go.Proofs.Ytmmhcacpehpjdaa
set_option linter.unusedVariables false
set_option linter.unusedSimpArgs false
open Go.RowKit

def statS : List Int → Sd
  | [] => ⟨0, 0, 0, 0⟩
  | x :: l => ⟨(l.length : Int) + 1, (x :: l).sum, bestS (fun a b => decide (a < b)) x l, bestS (fun a b => decide (b < a)) x l⟩
def sV (x : Sd) : Value := .agg #[.int .i64 x.c, .int .i64 x.s, .int .i64 x.mn, .int .i64 x.mx]
def inB (l : List Int) : Prop := ∀ n ∈ l, -1000000000 ≤ n ∧ n ≤ 1000000000
theorem sum_in {l : List Int} (h : inB l) : -(1000000000 * (l.length : Int)) ≤ l.sum ∧ l.sum ≤ 1000000000 * (l.length : Int) := by
  induction l with
  | nil => simp
  | cons x l ih =>
    have h1 := ih (fun n hn => h n (List.mem_cons_of_mem _ hn))
    have h2 := h x List.mem_cons_self
    simp only [List.sum_cons, List.length_cons]
    omega
theorem sum_take (l : List Int) (k : Nat) (hk : k < l.length) : (l.take (k + 1)).sum = (l.take k).sum + l[k] := by
  rw [List.take_succ_eq_append_getElem hk, List.sum_append]; simp

def StatPost (w : World) (x : Sd) (e : Ending) (w' : World) : Prop := e = .returned (sV x) ∧ Chg [] w w'

set_option maxHeartbeats 2000000 in
set_option maxRecDepth 100000 in
theorem summary_any {w : World} {base : Nat} {v : Value} {l : List Int} (h : RowOf ic 1 w base 3 v l) (hl : l.length ≤ 4096) (hb : inB l) : Calls Try.prog 47 #[v] w (StatPost w (statS l)) := by
  obtain ⟨a, c, hv⟩ := RowOf.shape h
  subst hv
  have H := Lib.hid h
  have Hb := Lib.hid hb
  clear h hb
  rcases l with _ | ⟨x, t⟩
  · have hs : statS [] = ⟨0, 0, 0, 0⟩ := rfl
    simp only [List.length_nil]
    go_enter Try.func47, Try.ntmps47
    go_wp2_with fail
    refine bodyPost_ret (v := sV ⟨0, 0, 0, 0⟩) (by simp [results, Try.results47, go_sem, sV]) rfl ⟨rfl, ?_⟩
    exact ((Chg.refl _ _).alloc _).alloc _
  · obtain ⟨L, hL⟩ : ∃ L, L = x :: t := ⟨_, rfl⟩
    rw [← hL] at H Hb hl ⊢
    have hne : L.length ≠ 0 := by rw [hL]; simp
    have hnb : ((L.length : Int) == 0) = false := beq_eq_false_iff_ne.2 (by omega)
    have HL := Lib.hid hL
    clear hL
    go_enter Try.func47, Try.ntmps47
    go_wp2_with fail
    go_loopw [15] (fun i wr => ∃ k : Nat, i = .int .i64 k ∧ k ≤ L.length ∧ wr.heap[w.heap.size]? = some (.cells #[.int .i64 0, .int .i64 0, .int .i64 0, .int .i64 0] 26 (0, 0)) ∧ wr.heap[w.heap.size + 1]? = some (.cells #[.int .i64 L.length, .int .i64 (L.take k).sum, .int .i64 0, .int .i64 0] 26 (0, 0)) ∧ Chg [] w wr) (fun i _ => L.length - (intOf i).toNat)
    case atStart =>
      have e1 : (w.alloc (.cells #[.int .i64 0, .int .i64 0, .int .i64 0, .int .i64 0] 26)).heap.size = w.heap.size + 1 := by simp
      refine ⟨0, rfl, Nat.zero_le _, blk_alloc (heap_alloc_new _ _), ?_, ((Chg.refl _ _).alloc _).alloc _⟩
      rw [← e1]; exact heap_alloc_new _ _
    case round =>
      obtain ⟨k, rfl, hkl, hR, hS, hch⟩ := hrel
      have HRc := Lib.hid hR
      have HSc := Lib.hid hS
      have Hch := Lib.hid hch
      have s1 := blk_cell hS
      have f1 := blk_free hS
      by_cases hk : k < L.length
      · rcases RowOf.at (RowOf.kept H.out hch (by simp)) iLen with ⟨_, hl0⟩ | ⟨g, cp, hv, _, _, hcell, _, _, hgw⟩
        · rw [hl0] at hk; simp at hk
        cases hv
        have x1 := hcell k hk 0 (by omega)
        simp only [ic, List.getElem?_cons_zero, Nat.add_zero, Nat.mul_one] at x1
        have hst := sum_take L k hk
        have hb1 := Hb.out L[k] (List.getElem_mem hk)
        have hb2 := sum_in (l := L.take k) (fun n hn => Hb.out n (List.mem_of_mem_take hn))
        rw [List.length_take] at hb2
        obtain ⟨y, hy⟩ : ∃ y, y = L[k] := ⟨_, rfl⟩
        rw [← hy] at x1 hst hb1
        have hw1 : IntKind.i64.wrap ((L.take k).sum + y) = (L.take k).sum + y := IntWalk.i64_in _ (by omega)
        have Hst := Lib.hid hst
        have hk0 : (0 : Int) ≤ (k : Int) := by omega
        have hk1 : (k : Int) < (L.length : Int) := by omega
        generalize (L.take k).sum = q at *
        clear hy hcell hst hb1 hb2 hR hS hch
        go_wp2_with fail
        refine ⟨⟨k + 1, by go_num, by omega, (blk_set_ne _ _ (by simp)).trans HRc.out, ?_, Hch.out.then ((Chg.refl [w.heap.size + 1] wr).setCell _ _ (by simp)) (by simp)⟩, by simp [intOf]; omega⟩
        rw [Hst.out]
        exact blk_set HSc.out 1 _
      · have ht : L.take k = L := List.take_of_length_le (by omega)
        rw [ht] at HSc s1
        clear hS hR
        have r1 := blk_cell HRc.out
        have r2 := blk_free HRc.out
        have htl : t.length ≤ 4096 := by have := congrArg List.length HL.out; simp only [List.length_cons] at this; omega
        have HbL : Hid (∀ w', Chg [] w w' → Calls Try.prog 59 #[.slice a L.length c, .func (.func 60) #[] #[]] w' fun e w'' => e = .returned (.int .i64 (bestS (fun a b => decide (a < b)) x t)) ∧ w' = w'') := by
          intro w' hw'
          have hr := RowOf.kept H.out hw' (by simp)
          rw [HL.out] at hr ⊢
          exact best_less hr htl
        have HbG : Hid (∀ w', Chg [] w w' → Calls Try.prog 59 #[.slice a L.length c, .func (.func 61) #[] #[]] w' fun e w'' => e = .returned (.int .i64 (bestS (fun a b => decide (b < a)) x t)) ∧ w' = w'') := by
          intro w' hw'
          have hr := RowOf.kept H.out hw' (by simp)
          rw [HL.out] at hr ⊢
          exact best_grt hr htl
        go_wp2_with fail
        refine (HbL.out _ Hch.out).mono ?_; rintro e w1 ⟨rfl, rfl⟩
        go_wp2_with fail
        have hch2 : Chg [] w (wr.setCell ⟨w.heap.size + 1, 2, none⟩ (.int .i64 (bestS (fun a b => decide (a < b)) x t))) := Hch.out.then ((Chg.refl [w.heap.size + 1] wr).setCell _ _ (by simp)) (by simp)
        refine (HbG.out _ hch2).mono ?_; rintro e w1 ⟨rfl, rfl⟩
        go_wp2_with fail
        have hs : statS L = ⟨(L.length : Int), L.sum, bestS (fun a b => decide (a < b)) x t, bestS (fun a b => decide (b < a)) x t⟩ := by rw [HL.out]; simp [statS]
        rw [hs]
        refine bodyPost_ret (v := sV ⟨(L.length : Int), L.sum, bestS (fun a b => decide (a < b)) x t, bestS (fun a b => decide (b < a)) x t⟩) (by simp [results, Try.results47, go_sem, sV, r1]) rfl ⟨rfl, ?_⟩
        refine Hch.out.then (S' := [w.heap.size, w.heap.size + 1]) ?_ (by simp)
        repeat (first | exact Chg.refl _ _ | refine Chg.setCell ?_ _ _ (by simp))
end Go.Proofs.Ytmmhcacpehpjdaa
