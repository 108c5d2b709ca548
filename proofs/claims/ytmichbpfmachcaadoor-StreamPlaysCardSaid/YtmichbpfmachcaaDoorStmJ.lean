/- Chapter 30: the iterator over the shards. Condition: what lies where. -/
import Derived.Test.YtmichbpfmachcaaDoorRound
import Derived.Test.YtmichbpfmachcaaDoorStmI
namespace Go.Proofs.YtmichbpfmachcaaDoor
set_option linter.unusedVariables false
set_option linter.unusedSimpArgs false
open Go.RowKit Go.Shelf
attribute [local go_sem] Oper.semAt_some
/-- What a round that goes on keeps: the box of the stream's pointer, the stream's slice of shards. -/
def KpS (b2 b : Nat) (W W' : World) : Prop := W'.cell? ⟨b2, 0, none⟩ = W.cell? ⟨b2, 0, none⟩ ∧ W'.cell? ⟨b, 2, none⟩ = W.cell? ⟨b, 2, none⟩
theorem kpS_t {b2 b : Nat} {A B C : World} (h : KpS b2 b A B) (k : KpS b2 b B C) : KpS b2 b A C := ⟨k.1.trans h.1, k.2.trans h.2⟩
theorem kpS_b {b2 b : Nat} {w : World} (h2 : b2 < w.heap.size) (h : b < w.heap.size) (W : World) (l : Nat) (o o' : Obj) (hl : w.heap.size ≤ l) (_ : W.heap[l]? = some o) (_ : o.isCells = false) (_ : o.isWalk = false) : KpS b2 b W (W.putObj l o') := by
  have key : ∀ k i, k < w.heap.size → (W.putObj l o').cell? ⟨k, i, none⟩ = W.cell? ⟨k, i, none⟩ := fun k i hk => by
    unfold World.cell?
    rw [World.putObj_heap_other (by intro e; simp at e; omega)]
  exact ⟨key _ _ h2, key _ _ h⟩
theorem each_any (b : Nat) (w : World) : Calls Tryd.prog 38 #[.pointer (some ⟨b, 0, none⟩)] w fun e w' => e = .returned (.func (.func 46) #[] #[.pointer (some ⟨w.heap.size, 0, none⟩)]) ∧ w' = w.alloc (.cells #[.pointer (some ⟨b, 0, none⟩)] 28) := by
  go_enter Tryd.func38, Tryd.ntmps38
  go_wp2
  go_ret
  exact ⟨rfl, rfl⟩
set_option maxHeartbeats 4000000 in
set_option maxRecDepth 100000 in
theorem each1_in (F : Fence) (n : Nat) (hE : F.fn 46) (hro : F.round = none) (hn : 1 ≤ n) (l b2 b g N c : Nat) (hN : N ≤ 8) (J Jx : List (Fin N) → World → Prop)
    (hY : ∀ pre x W, J pre W → pre.length < N → YieldAt F (n - 1) Tryd.prog l #[.pointer (some ⟨g, x.1 * 2, none⟩)] W fun e W' =>
      (e = .returned (.bool true) ∧ J (pre ++ [x]) W' ∧ KpS b2 b W W') ∨ (e = .returned (.bool false) ∧ Jx (pre ++ [x]) W'))
    (W : World) (hb2 : W.cell? ⟨b2, 0, none⟩ = some (.pointer (some ⟨b, 0, none⟩))) (hb : W.cell? ⟨b, 2, none⟩ = some (.slice (some ⟨g, 0, none⟩) N c)) (h0 : J [] W) :
    CallsIn F n Tryd.prog 46 #[.func (.yield l) #[] #[], .pointer (some ⟨b2, 0, none⟩)] W fun e W' => (∃ v, e = .returned v) ∧
      ((∃ ys, ys = List.finRange N ∧ J ys W') ∨ (∃ pre : List (Fin N), True ∧ Jx pre W')) := by
  refine callsIn_of_wp Tryd.func46 rfl hE ?_ hro
  simp only [Tryd.ntmps46, List.size_toArray, List.length_cons, List.length_nil, Nat.reduceAdd, Nat.reduceSub, Array.replicate_succ, Array.replicate_zero, List.push_toArray, List.append_toArray, List.nil_append, List.cons_append]
  gi_wp2
  gi_loopw [9] (fun p wr => ∃ k : Nat, p = .int .i64 k ∧ k ≤ N ∧ J ((List.finRange N).take k) wr ∧ wr.cell? ⟨b2, 0, none⟩ = some (.pointer (some ⟨b, 0, none⟩)) ∧ wr.cell? ⟨b, 2, none⟩ = some (.slice (some ⟨g, 0, none⟩) N c))
    (fun p wr => N - (intOf p).toNat)
  case atStart => exact ⟨0, rfl, Nat.zero_le _, by simpa using h0, hb2, hb⟩
  case round =>
    obtain ⟨k, rfl, hk, hJ, c2, c1⟩ := hrel
    by_cases hlt : k < N
    · obtain ⟨fn, tmps, assign, body, hy, hR⟩ := hY ((List.finRange N).take k) ⟨k, hlt⟩ wr hJ (by simp; omega)
      dsimp only at hy
      gi_wp2
      refine hR.mono ?_
      rintro e W3 (⟨rfl, hJ3, hk3⟩ | ⟨rfl, hJx3⟩)
      · have d2 := hk3.1.trans c2
        have d1 := hk3.2.trans c1
        gi_wp2
        go_roundw
        case rel =>
          refine ⟨k + 1, by go_num, by omega, ?_, d2, d1⟩
          rw [List.take_succ_eq_append_getElem (by simpa using hlt)]
          simpa using hJ3
        case measure => simp [intOf]; omega
      · gi_wp2
        refine bodyPost_ret (results_none rfl _ _ _) rfl ?_
        exact ⟨⟨_, rfl⟩, .inr ⟨_, trivial, hJx3⟩⟩
    · have hks : k = N := by omega
      subst hks
      gi_wp2
      go_end0
      exact ⟨⟨_, rfl⟩, .inl ⟨_, by rw [List.take_of_length_le (by simp)], hJ⟩⟩
end Go.Proofs.YtmichbpfmachcaaDoor
