/- Chapter 22: SecretNil: a nil vault, and one that New did not return, have nothing. No condition. -/
import Derived.Test.YtldilefhmpipkaaSecH
namespace Go.Proofs.Ytldilefhmpipkaa
set_option linter.unusedVariables false
set_option linter.unusedSimpArgs false
open Go.RowKit

def Dead (w : World) (v : Value) : Prop := v = .pointer none ∨ ∃ b, v = .pointer (some ⟨b, 0, none⟩) ∧ w.heap[b]? = some (.cells #[.map none] 52 (0, 0))
theorem Dead.kept {w w' : World} {v : Value} (h : Dead w v) (hc : Chg [] w w') : Dead w' v := by
  rcases h with h | ⟨b, h1, h2⟩
  · exact .inl h
  · exact .inr ⟨b, h1, hc.at (by simp) h2⟩

theorem find_dead (v : Value) (name : ByteArray) (w : World) (h : Dead w v) : Calls Try.prog 40 #[v, .string name] w fun e w' => e = .returned (.tuple #[.pointer none, .int .i64 10]) ∧ w = w' := by
  have hm := fun w => run_eql_map_nil (P := Try.prog) w 50 9 61 none Try.underlying50
  rcases h with rfl | ⟨b, rfl, hb⟩
  · go_enter Try.func40, Try.ntmps40
    go_wp2_with fail
    go_ret2
    exact ⟨rfl, rfl⟩
  · have hc := blk_cell hb
    clear hb
    go_enter Try.func40, Try.ntmps40
    go_wp2_with fail
    go_ret2
    exact ⟨rfl, rfl⟩
theorem dput (v : Value) (x y : ByteArray) (w : World) (h : Dead w v) : Calls Try.prog 18 #[v, .string x, .string y] w fun e w' => e = .returned (.int .i64 10) ∧ w = w' := by
  have A := Lib.hid (find_dead v x w h)
  clear h
  go_enter Try.func18, Try.ntmps18
  go_wp2_with fail
  refine A.out.mono ?_; rintro e w1 ⟨rfl, rfl⟩
  go_wp2_with fail
  go_ret
  exact ⟨rfl, rfl⟩
theorem dbind (v : Value) (x y : ByteArray) (w : World) (h : Dead w v) : Calls Try.prog 28 #[v, .string x, .string y] w fun e w' => e = .returned (.int .i64 10) ∧ w = w' := by
  have A := Lib.hid (find_dead v x w h)
  clear h
  go_enter Try.func28, Try.ntmps28
  go_wp2_with fail
  refine A.out.mono ?_; rintro e w1 ⟨rfl, rfl⟩
  go_wp2_with fail
  go_ret
  exact ⟨rfl, rfl⟩
theorem dunbind (v : Value) (x y : ByteArray) (w : World) (h : Dead w v) : Calls Try.prog 29 #[v, .string x, .string y] w fun e w' => e = .returned (.int .i64 10) ∧ w = w' := by
  have A := Lib.hid (find_dead v x w h)
  clear h
  go_enter Try.func29, Try.ntmps29
  go_wp2_with fail
  refine A.out.mono ?_; rintro e w1 ⟨rfl, rfl⟩
  go_wp2_with fail
  go_ret
  exact ⟨rfl, rfl⟩
theorem dread (v : Value) (x y : ByteArray) (w : World) (h : Dead w v) : Calls Try.prog 22 #[v, .string x, .string y] w fun e w' => e = .returned (.tuple #[.string em, .int .i64 0, .int .i64 10]) ∧ w = w' := by
  have A := Lib.hid (find_dead v x w h)
  clear h
  go_enter Try.func22, Try.ntmps22
  go_wp2_with fail
  refine A.out.mono ?_; rintro e w1 ⟨rfl, rfl⟩
  go_wp2_with fail
  go_ret3
  exact ⟨rfl, rfl⟩
theorem drot (v : Value) (x y : ByteArray) (g n : Int) (w : World) (h : Dead w v) : Calls Try.prog 19 #[v, .string x, .string y, .int .i64 g, .int .i64 n] w fun e w' => e = .returned (.tuple #[.int .i64 0, .int .i64 10]) ∧ w = w' := by
  have A := Lib.hid (find_dead v x w h)
  clear h
  go_enter Try.func19, Try.ntmps19
  go_wp2_with fail
  refine A.out.mono ?_; rintro e w1 ⟨rfl, rfl⟩
  go_wp2_with fail
  go_ret2
  exact ⟨rfl, rfl⟩
theorem dacc (v : Value) (x y : ByteArray) (n : Int) (w : World) (h : Dead w v) : Calls Try.prog 16 #[v, .string x, .string y, .int .i64 n] w fun e w' => e = .returned (.bool false) ∧ w = w' := by
  have A := Lib.hid (find_dead v x w h)
  clear h
  go_enter Try.func16, Try.ntmps16
  go_wp2_with fail
  refine A.out.mono ?_; rintro e w1 ⟨rfl, rfl⟩
  go_wp2_with fail
  go_ret
  exact ⟨rfl, rfl⟩
theorem dredact (v : Value) (x : ByteArray) (w : World) (h : Dead w v) : Calls Try.prog 14 #[v, .string x] w fun e w' => e = .returned (.string x) ∧ w = w' := by
  have hm := fun w => run_eql_map_nil (P := Try.prog) w 50 9 61 none Try.underlying50
  rcases h with rfl | ⟨b, rfl, hb⟩
  · go_enter Try.func14, Try.ntmps14
    go_wp2_with fail
    go_ret
    exact ⟨rfl, rfl⟩
  · have hc := blk_cell hb
    clear hb
    go_enter Try.func14, Try.ntmps14
    go_wp2_with fail
    go_ret
    exact ⟨rfl, rfl⟩
theorem dnames (v : Value) (x : ByteArray) (w : World) (h : Dead w v) : Calls Try.prog 26 #[v, .string x] w fun e w' => e = .returned (.slice none 0 0) ∧ Chg [] w w' := by
  have hm := fun w => run_eql_map_nil (P := Try.prog) w 50 9 61 none Try.underlying50
  rcases h with rfl | ⟨b, rfl, hb⟩
  · go_enter Try.func26, Try.ntmps26
    go_wp2_with fail
    go_ret
    exact ⟨rfl, ((Chg.refl _ _).alloc _).alloc _⟩
  · have hc := blk_cell hb
    have hl := lt_of_heap hb
    clear hb
    go_enter Try.func26, Try.ntmps26
    go_wp2_with fail
    go_ret
    exact ⟨rfl, ((Chg.refl _ _).alloc _).alloc _⟩

theorem same_regrown {f : FuncId} {args : Array Value} {w : World} {v : Value} (h : ∀ w', Chg [] w w' → Calls Try.prog f args w' fun e w'' => e = .returned v ∧ Chg [] w' w'') (d : Nat) (os : Array Obj) : Calls Try.prog f args (Go.Sort.grow (redrawn w d) os) fun e w'' => e = .returned v ∧ ∃ p : Regrown, w'' = Go.Sort.grow (redrawn w p.d) p.os :=
  calls_regrown (h _ (chg_regrown w d os))
theorem same_chg {f : FuncId} {args : Array Value} {w : World} {v : Value} (h : Calls Try.prog f args w fun e w'' => e = .returned v ∧ w = w'') : Calls Try.prog f args w fun e w'' => e = .returned v ∧ Chg [] w w'' := h.mono (by rintro e w' ⟨rfl, rfl⟩; exact ⟨rfl, Chg.refl _ _⟩)

set_option maxHeartbeats 16000000 in
set_option maxRecDepth 100000 in
theorem none_any (v : Value) (x : OpD) (w : World) (h : Dead w v) : Calls Try.prog 30 #[v, .agg #[.int .i64 x.kind, .string x.name, .string x.text, .string x.fn, .int .i64 x.grace, .int .i64 x.now]] w fun e w' => e = .returned (.bool true) ∧ Chg [] w w' := by
  obtain ⟨kd, nm, tx, fn, gr, nw⟩ := x
  simp only []
  have hc0 : Chg [] w (w.alloc (.cells #[.int .i64 kd, .string nm, .string tx, .string fn, .int .i64 gr, .int .i64 nw] 33)) := (Chg.refl _ _).alloc _
  have hb := heap_alloc_new w (.cells #[.int .i64 kd, .string nm, .string tx, .string fn, .int .i64 gr, .int .i64 nw] 33)
  obtain ⟨w1, hw1⟩ : ∃ w1, w1 = w.alloc (.cells #[.int .i64 kd, .string nm, .string tx, .string fn, .int .i64 gr, .int .i64 nw] 33) := ⟨_, rfl⟩
  rw [← hw1] at hc0 hb
  have D1 := Lib.hid (h.kept hc0)
  have A1 := Lib.hid (dread v nm fn w1 D1.out)
  have A2 := Lib.hid (drot v nm tx gr nw w1 D1.out)
  have hlt := lt_of_heap hb
  have q := fun i d os => ((below_regrown w1 d os).cell (p := ⟨w.heap.size, i, none⟩) hlt).trans (blk_cell hb i)
  have B1 := Lib.hid (same_regrown (w := w1) (fun w' hc => same_chg (dput v nm tx w' (D1.out.kept hc))))
  have B2 := Lib.hid (same_regrown (w := w1) (fun w' hc => same_chg (dbind v nm fn w' (D1.out.kept hc))))
  have B3 := Lib.hid (same_regrown (w := w1) (fun w' hc => same_chg (dunbind v nm fn w' (D1.out.kept hc))))
  have B4 := Lib.hid (same_regrown (w := w1) (fun w' hc => same_chg (dacc v nm tx nw w' (D1.out.kept hc))))
  have B5 := Lib.hid (same_regrown (w := w1) (fun w' hc => same_chg (dredact v tx w' (D1.out.kept hc))))
  have B6 := Lib.hid (same_regrown (w := w1) (fun w' hc => dnames v fn w' (D1.out.kept hc)))
  have r := blk_cell hb
  have C1 := Lib.hid hc0
  clear h hb hc0
  go_enter Try.func30, Try.ntmps30
  go_wp2_with fail
  rw [← hw1]
  clear hw1
  refine A1.out.mono ?_; rintro e w2 ⟨rfl, rfl⟩
  go_wp2_with fail
  refine A2.out.mono ?_; rintro e w2 ⟨rfl, rfl⟩
  go_wp2_with fail
  clear r
  refine wp_region_quiet_below (by kernel_rfl) (by kernel_rfl) ?_
  repeat (any_goals (first | go_big_quiet_step (first | exact B1.out _ _ | exact B2.out _ _ | exact B3.out _ _ | exact B4.out _ _ | exact B5.out _ _ | exact B6.out _ _) | quiet_step (first | exact B1.out _ _ | exact B2.out _ _ | exact B3.out _ _ | exact B4.out _ _ | exact B5.out _ _ | exact B6.out _ _)))
  refine wpQuiet_nil ?_
  intro _ hw'
  obtain ⟨⟨dq, osq⟩, hw''⟩ := hw'
  subst hw''
  go_wp2_with fail
  go_ret
  exact ⟨rfl, C1.out.thenSame (chg_regrown _ dq osq)⟩
end Go.Proofs.Ytldilefhmpipkaa
