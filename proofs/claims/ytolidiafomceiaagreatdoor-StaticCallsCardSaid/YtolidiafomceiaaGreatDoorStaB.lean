/- Chapter 9: contracts: Builtin, HostOp, of the program and of the reference. No condition. -/
import Derived.Test.YtolidiafomceiaaGreatDoorBase
import Derived.Test.YtolidiafomceiaaGreatDoorRowk
import Derived.Test.YtolidiafomceiaaGreatDoorProg
namespace Go.Proofs.YtolidiafomceiaaGreatDoor
set_option linter.unusedVariables false
set_option linter.unusedSimpArgs false
open Go.RowKit
def arV (x : ByteArray × Int) : Value := .int .i64 x.2
section
variable {α : Type} {kf : α → ByteArray} {vf : α → Value} {P : Program} (w : World) {ops : Array Oper} {rest : List Oper} {o : Oper} {a : Act} {Q : Exit → Act → World → Prop}
/-- An entry of a map literal. -/
theorem wpl_insertS (hg : o.guard = none) (m x v : Operand) (t : TypeId) (hop : o.op = Op.insert t m x v) (k e : TypeId) (ht : P.underlying t = some (.map k e)) (hk : P.underlying k = some .string)
    (b : Nat) (l : List α) (hm : a.eval m = .map (some b)) (h : MapIs kf vf w b l) (y : α) (hx : a.eval x = .string (kf y)) (hv : a.eval v = vf y)
    (hK : ∀ w', MapIs kf vf w' b (putL kf l y) → Chg [b] w w' → w'.heap.size = w.heap.size → wpList P ops Q rest (a.put o.dst undef) w') : wpList P ops Q (o :: rest) a w := by
  refine wpList_plain hg fun K' hK' => ?_
  obtain ⟨w', hrun, h1, h2, h3⟩ := h.store ht hk y
  unfold Oper.wp
  simp [execOp, hop, hm, hx, hv, hrun, Result.andThen]
  exact hK' _ _ (hK w' h1 h2 h3)
end
theorem zeroIS (w : World) : (zeroValue 3).run Tryz.prog w = .ok (.int .i64 0) w := by kernel_rfl
/-- A look-up in a table. -/
def lkZ (L : List (ByteArray × Int)) (s : ByteArray) : Int × Bool := (((lookL Prod.fst L s).map Prod.snd).getD 0, (lookL Prod.fst L s).isSome)
theorem lkZ_none {L : List (ByteArray × Int)} {s : ByteArray} (h : ∀ x ∈ L, x.1 ≠ s) : lkZ L s = (0, false) := by
  unfold lkZ
  rw [lookL_miss h]
  rfl
theorem lkZ_val (L : List (ByteArray × Int)) (s : ByteArray) : ((lookL Prod.fst L s).map arV).getD (.int .i64 0) = .int .i64 (lkZ L s).1 := by
  unfold lkZ
  cases lookL Prod.fst L s <;> rfl
set_option maxHeartbeats 4000000 in
set_option maxRecDepth 100000 in
theorem sarity_any {w : World} {b : Nat} {L : List (ByteArray × Int)} (h : MapIs Prod.fst arV w b L) (s : ByteArray) : Calls Tryz.prog 42 #[.map (some b), .string s] w fun e w' => e = .returned (.tuple #[.int .i64 (lkZ L s).1, .bool (lkZ L s).2]) ∧ w' = w := by
  have HL := Lib.hid (lkZ_val L s)
  have HS := Lib.hid (show (lookL Prod.fst L s).isSome = (lkZ L s).2 from rfl)
  have M := Lib.hid h
  generalize lkZ L s = z at *
  clear h
  go_enter Tryz.func42, Tryz.ntmps42
  go_wp2_with (at_lookup; refine wpl_lookup_ok _ rfl _ _ 69 rfl 9 3 Tryz.underlying69 Tryz.underlying9 (zeroIS _) b _ rfl M.out s rfl ?_; rw [HL.out, HS.out])
  go_ret2
  exact ⟨rfl, rfl⟩
def biL : List (ByteArray × Int) := [(⟨#[108, 101, 110]⟩, 1), (⟨#[115, 116, 114]⟩, 1), (⟨#[105, 110, 116]⟩, 1), (⟨#[112, 117, 115, 104]⟩, 2), (⟨#[112, 117, 116]⟩, 3), (⟨#[107, 101, 121, 115]⟩, 1), (⟨#[104, 97, 115]⟩, 2), (⟨#[102, 97, 105, 108]⟩, 1)]
def hoL : List (ByteArray × Int) := [(⟨#[103, 101, 116]⟩, 1), (⟨#[112, 117, 116]⟩, 2), (⟨#[100, 101, 108, 101, 116, 101]⟩, 1), (⟨#[115, 101, 110, 100]⟩, 2), (⟨#[116, 105, 109, 101, 114]⟩, 3), (⟨#[115, 105, 103, 110, 97, 108]⟩, 2), (⟨#[115, 101, 99, 114, 101, 116]⟩, 1), (⟨#[102, 101, 116, 99, 104]⟩, 2), (⟨#[110, 111, 119]⟩, 0), (⟨#[108, 111, 103]⟩, 1)]
theorem builtinL_puts : putL Prod.fst (putL Prod.fst (putL Prod.fst (putL Prod.fst (putL Prod.fst (putL Prod.fst (putL Prod.fst (putL Prod.fst (([] : List (ByteArray × Int))) (⟨#[108, 101, 110]⟩, 1)) (⟨#[115, 116, 114]⟩, 1)) (⟨#[105, 110, 116]⟩, 1)) (⟨#[112, 117, 115, 104]⟩, 2)) (⟨#[112, 117, 116]⟩, 3)) (⟨#[107, 101, 121, 115]⟩, 1)) (⟨#[104, 97, 115]⟩, 2)) (⟨#[102, 97, 105, 108]⟩, 1) = biL := by kernel_rfl
set_option maxHeartbeats 4000000 in
set_option maxRecDepth 100000 in
theorem builtin_any (s : ByteArray) (w : World) : Calls Tryz.prog 27 #[.string s] w fun e w' => e = .returned (.tuple #[.int .i64 (lkZ biL s).1, .bool (lkZ biL s).2]) ∧ Chg [] w w' := by
  have M := Lib.hid (mapIs_new (kf := Prod.fst) (vf := arV) w)
  have C := Lib.hid ((Chg.refl [w.heap.size] w).alloc (.map #[] 0))
  have AR := Lib.hid (fun w' (h : MapIs Prod.fst arV w' w.heap.size biL) => sarity_any h s)
  have hmm := @run_makeMap Tryz.prog
  generalize lkZ biL s = z at *
  go_enter Tryz.func27, Tryz.ntmps27
  go_wp2_with (first
    | (refine wpl_insertS _ rfl _ _ _ 69 rfl 9 3 Tryz.underlying69 Tryz.underlying9 w.heap.size _ rfl M.out ((⟨#[108, 101, 110]⟩, 1) : ByteArray × Int) rfl rfl ?_; intro w1 hm1 hc1 hs1; have M := Lib.hid hm1; have C := Lib.hid (C.out.thenSame hc1); clear hm1 hc1 hs1)
    | (refine wpl_insertS _ rfl _ _ _ 69 rfl 9 3 Tryz.underlying69 Tryz.underlying9 w.heap.size _ rfl M.out ((⟨#[115, 116, 114]⟩, 1) : ByteArray × Int) rfl rfl ?_; intro w1 hm1 hc1 hs1; have M := Lib.hid hm1; have C := Lib.hid (C.out.thenSame hc1); clear hm1 hc1 hs1)
    | (refine wpl_insertS _ rfl _ _ _ 69 rfl 9 3 Tryz.underlying69 Tryz.underlying9 w.heap.size _ rfl M.out ((⟨#[105, 110, 116]⟩, 1) : ByteArray × Int) rfl rfl ?_; intro w1 hm1 hc1 hs1; have M := Lib.hid hm1; have C := Lib.hid (C.out.thenSame hc1); clear hm1 hc1 hs1)
    | (refine wpl_insertS _ rfl _ _ _ 69 rfl 9 3 Tryz.underlying69 Tryz.underlying9 w.heap.size _ rfl M.out ((⟨#[112, 117, 115, 104]⟩, 2) : ByteArray × Int) rfl rfl ?_; intro w1 hm1 hc1 hs1; have M := Lib.hid hm1; have C := Lib.hid (C.out.thenSame hc1); clear hm1 hc1 hs1)
    | (refine wpl_insertS _ rfl _ _ _ 69 rfl 9 3 Tryz.underlying69 Tryz.underlying9 w.heap.size _ rfl M.out ((⟨#[112, 117, 116]⟩, 3) : ByteArray × Int) rfl rfl ?_; intro w1 hm1 hc1 hs1; have M := Lib.hid hm1; have C := Lib.hid (C.out.thenSame hc1); clear hm1 hc1 hs1)
    | (refine wpl_insertS _ rfl _ _ _ 69 rfl 9 3 Tryz.underlying69 Tryz.underlying9 w.heap.size _ rfl M.out ((⟨#[107, 101, 121, 115]⟩, 1) : ByteArray × Int) rfl rfl ?_; intro w1 hm1 hc1 hs1; have M := Lib.hid hm1; have C := Lib.hid (C.out.thenSame hc1); clear hm1 hc1 hs1)
    | (refine wpl_insertS _ rfl _ _ _ 69 rfl 9 3 Tryz.underlying69 Tryz.underlying9 w.heap.size _ rfl M.out ((⟨#[104, 97, 115]⟩, 2) : ByteArray × Int) rfl rfl ?_; intro w1 hm1 hc1 hs1; have M := Lib.hid hm1; have C := Lib.hid (C.out.thenSame hc1); clear hm1 hc1 hs1)
    | (refine wpl_insertS _ rfl _ _ _ 69 rfl 9 3 Tryz.underlying69 Tryz.underlying9 w.heap.size _ rfl M.out ((⟨#[102, 97, 105, 108]⟩, 1) : ByteArray × Int) rfl rfl ?_; intro w1 hm1 hc1 hs1; have M := Lib.hid hm1; have C := Lib.hid (C.out.thenSame hc1); clear hm1 hc1 hs1)
    | (go_at_call 42; have M := Lib.hid M.out; rw [builtinL_puts] at M; (with_reducible refine Calls.mono (AR.out _ M.out) ?_); rintro e w2 ⟨rfl, rfl⟩))
  go_ret2
  exact ⟨rfl, C.out.mono (by intro x hx hlt; simp at hx; omega)⟩
theorem hostopL_puts : putL Prod.fst (putL Prod.fst (putL Prod.fst (putL Prod.fst (putL Prod.fst (putL Prod.fst (putL Prod.fst (putL Prod.fst (putL Prod.fst (putL Prod.fst (([] : List (ByteArray × Int))) (⟨#[103, 101, 116]⟩, 1)) (⟨#[112, 117, 116]⟩, 2)) (⟨#[100, 101, 108, 101, 116, 101]⟩, 1)) (⟨#[115, 101, 110, 100]⟩, 2)) (⟨#[116, 105, 109, 101, 114]⟩, 3)) (⟨#[115, 105, 103, 110, 97, 108]⟩, 2)) (⟨#[115, 101, 99, 114, 101, 116]⟩, 1)) (⟨#[102, 101, 116, 99, 104]⟩, 2)) (⟨#[110, 111, 119]⟩, 0)) (⟨#[108, 111, 103]⟩, 1) = hoL := by kernel_rfl
set_option maxHeartbeats 4000000 in
set_option maxRecDepth 100000 in
theorem hostop_any (s : ByteArray) (w : World) : Calls Tryz.prog 64 #[.string s] w fun e w' => e = .returned (.tuple #[.int .i64 (lkZ hoL s).1, .bool (lkZ hoL s).2]) ∧ Chg [] w w' := by
  have M := Lib.hid (mapIs_new (kf := Prod.fst) (vf := arV) w)
  have C := Lib.hid ((Chg.refl [w.heap.size] w).alloc (.map #[] 0))
  have AR := Lib.hid (fun w' (h : MapIs Prod.fst arV w' w.heap.size hoL) => sarity_any h s)
  have hmm := @run_makeMap Tryz.prog
  generalize lkZ hoL s = z at *
  go_enter Tryz.func64, Tryz.ntmps64
  go_wp2_with (first
    | (refine wpl_insertS _ rfl _ _ _ 69 rfl 9 3 Tryz.underlying69 Tryz.underlying9 w.heap.size _ rfl M.out ((⟨#[103, 101, 116]⟩, 1) : ByteArray × Int) rfl rfl ?_; intro w1 hm1 hc1 hs1; have M := Lib.hid hm1; have C := Lib.hid (C.out.thenSame hc1); clear hm1 hc1 hs1)
    | (refine wpl_insertS _ rfl _ _ _ 69 rfl 9 3 Tryz.underlying69 Tryz.underlying9 w.heap.size _ rfl M.out ((⟨#[112, 117, 116]⟩, 2) : ByteArray × Int) rfl rfl ?_; intro w1 hm1 hc1 hs1; have M := Lib.hid hm1; have C := Lib.hid (C.out.thenSame hc1); clear hm1 hc1 hs1)
    | (refine wpl_insertS _ rfl _ _ _ 69 rfl 9 3 Tryz.underlying69 Tryz.underlying9 w.heap.size _ rfl M.out ((⟨#[100, 101, 108, 101, 116, 101]⟩, 1) : ByteArray × Int) rfl rfl ?_; intro w1 hm1 hc1 hs1; have M := Lib.hid hm1; have C := Lib.hid (C.out.thenSame hc1); clear hm1 hc1 hs1)
    | (refine wpl_insertS _ rfl _ _ _ 69 rfl 9 3 Tryz.underlying69 Tryz.underlying9 w.heap.size _ rfl M.out ((⟨#[115, 101, 110, 100]⟩, 2) : ByteArray × Int) rfl rfl ?_; intro w1 hm1 hc1 hs1; have M := Lib.hid hm1; have C := Lib.hid (C.out.thenSame hc1); clear hm1 hc1 hs1)
    | (refine wpl_insertS _ rfl _ _ _ 69 rfl 9 3 Tryz.underlying69 Tryz.underlying9 w.heap.size _ rfl M.out ((⟨#[116, 105, 109, 101, 114]⟩, 3) : ByteArray × Int) rfl rfl ?_; intro w1 hm1 hc1 hs1; have M := Lib.hid hm1; have C := Lib.hid (C.out.thenSame hc1); clear hm1 hc1 hs1)
    | (refine wpl_insertS _ rfl _ _ _ 69 rfl 9 3 Tryz.underlying69 Tryz.underlying9 w.heap.size _ rfl M.out ((⟨#[115, 105, 103, 110, 97, 108]⟩, 2) : ByteArray × Int) rfl rfl ?_; intro w1 hm1 hc1 hs1; have M := Lib.hid hm1; have C := Lib.hid (C.out.thenSame hc1); clear hm1 hc1 hs1)
    | (refine wpl_insertS _ rfl _ _ _ 69 rfl 9 3 Tryz.underlying69 Tryz.underlying9 w.heap.size _ rfl M.out ((⟨#[115, 101, 99, 114, 101, 116]⟩, 1) : ByteArray × Int) rfl rfl ?_; intro w1 hm1 hc1 hs1; have M := Lib.hid hm1; have C := Lib.hid (C.out.thenSame hc1); clear hm1 hc1 hs1)
    | (refine wpl_insertS _ rfl _ _ _ 69 rfl 9 3 Tryz.underlying69 Tryz.underlying9 w.heap.size _ rfl M.out ((⟨#[102, 101, 116, 99, 104]⟩, 2) : ByteArray × Int) rfl rfl ?_; intro w1 hm1 hc1 hs1; have M := Lib.hid hm1; have C := Lib.hid (C.out.thenSame hc1); clear hm1 hc1 hs1)
    | (refine wpl_insertS _ rfl _ _ _ 69 rfl 9 3 Tryz.underlying69 Tryz.underlying9 w.heap.size _ rfl M.out ((⟨#[110, 111, 119]⟩, 0) : ByteArray × Int) rfl rfl ?_; intro w1 hm1 hc1 hs1; have M := Lib.hid hm1; have C := Lib.hid (C.out.thenSame hc1); clear hm1 hc1 hs1)
    | (refine wpl_insertS _ rfl _ _ _ 69 rfl 9 3 Tryz.underlying69 Tryz.underlying9 w.heap.size _ rfl M.out ((⟨#[108, 111, 103]⟩, 1) : ByteArray × Int) rfl rfl ?_; intro w1 hm1 hc1 hs1; have M := Lib.hid hm1; have C := Lib.hid (C.out.thenSame hc1); clear hm1 hc1 hs1)
    | (go_at_call 42; have M := Lib.hid M.out; rw [hostopL_puts] at M; (with_reducible refine Calls.mono (AR.out _ M.out) ?_); rintro e w2 ⟨rfl, rfl⟩))
  go_ret2
  exact ⟨rfl, C.out.mono (by intro x hx hlt; simp at hx; omega)⟩
set_option maxHeartbeats 4000000 in
set_option maxRecDepth 100000 in
theorem rbuiltin_any (s : ByteArray) (w : World) : Calls Tryz.prog 30 #[.string s] w fun e w' => e = .returned (.tuple #[.int .i64 (lkZ biL s).1, .bool (lkZ biL s).2]) ∧ Chg [] w w' := by
  by_cases h0 : s = ⟨#[108, 101, 110]⟩
  · have HE := Lib.hid (show lkZ biL s = lkZ biL ⟨#[108, 101, 110]⟩ by rw [h0])
    rw [HE.out]
    subst h0
    clear HE
    go_enter Tryz.func30, Tryz.ntmps30
    go_wp2_with fail
    go_ret2
    exact ⟨by kernel_rfl, Chg.refl _ _⟩
  by_cases h1 : s = ⟨#[115, 116, 114]⟩
  · have HE := Lib.hid (show lkZ biL s = lkZ biL ⟨#[115, 116, 114]⟩ by rw [h1])
    rw [HE.out]
    subst h1
    clear HE
    go_enter Tryz.func30, Tryz.ntmps30
    go_wp2_with fail
    go_ret2
    exact ⟨by kernel_rfl, Chg.refl _ _⟩
  by_cases h2 : s = ⟨#[105, 110, 116]⟩
  · have HE := Lib.hid (show lkZ biL s = lkZ biL ⟨#[105, 110, 116]⟩ by rw [h2])
    rw [HE.out]
    subst h2
    clear HE
    go_enter Tryz.func30, Tryz.ntmps30
    go_wp2_with fail
    go_ret2
    exact ⟨by kernel_rfl, Chg.refl _ _⟩
  by_cases h3 : s = ⟨#[107, 101, 121, 115]⟩
  · have HE := Lib.hid (show lkZ biL s = lkZ biL ⟨#[107, 101, 121, 115]⟩ by rw [h3])
    rw [HE.out]
    subst h3
    clear HE
    go_enter Tryz.func30, Tryz.ntmps30
    go_wp2_with fail
    go_ret2
    exact ⟨by kernel_rfl, Chg.refl _ _⟩
  by_cases h4 : s = ⟨#[102, 97, 105, 108]⟩
  · have HE := Lib.hid (show lkZ biL s = lkZ biL ⟨#[102, 97, 105, 108]⟩ by rw [h4])
    rw [HE.out]
    subst h4
    clear HE
    go_enter Tryz.func30, Tryz.ntmps30
    go_wp2_with fail
    go_ret2
    exact ⟨by kernel_rfl, Chg.refl _ _⟩
  by_cases h5 : s = ⟨#[112, 117, 115, 104]⟩
  · have HE := Lib.hid (show lkZ biL s = lkZ biL ⟨#[112, 117, 115, 104]⟩ by rw [h5])
    rw [HE.out]
    subst h5
    clear HE
    go_enter Tryz.func30, Tryz.ntmps30
    go_wp2_with fail
    go_ret2
    exact ⟨by kernel_rfl, Chg.refl _ _⟩
  by_cases h6 : s = ⟨#[104, 97, 115]⟩
  · have HE := Lib.hid (show lkZ biL s = lkZ biL ⟨#[104, 97, 115]⟩ by rw [h6])
    rw [HE.out]
    subst h6
    clear HE
    go_enter Tryz.func30, Tryz.ntmps30
    go_wp2_with fail
    go_ret2
    exact ⟨by kernel_rfl, Chg.refl _ _⟩
  by_cases h7 : s = ⟨#[112, 117, 116]⟩
  · have HE := Lib.hid (show lkZ biL s = lkZ biL ⟨#[112, 117, 116]⟩ by rw [h7])
    rw [HE.out]
    subst h7
    clear HE
    go_enter Tryz.func30, Tryz.ntmps30
    go_wp2_with fail
    go_ret2
    exact ⟨by kernel_rfl, Chg.refl _ _⟩
  have HE := Lib.hid (show lkZ biL s = (0, false) from lkZ_none (by
    intro x hx
    simp only [biL, List.mem_cons, List.not_mem_nil, or_false] at hx
    rcases hx with rfl | rfl | rfl | rfl | rfl | rfl | rfl | rfl <;> intro e <;> simp_all))
  rw [HE.out]
  have q0 : (s.toList == [108, 101, 110]) = false := (show (s.toList == [108, 101, 110]) = (s.toList == (⟨#[108, 101, 110]⟩ : ByteArray).toList) from by rw [show (⟨#[108, 101, 110]⟩ : ByteArray).toList = [108, 101, 110] from by kernel_rfl]).trans ((beq_toListBytes s ⟨#[108, 101, 110]⟩).symm.trans (beq_eq_false_iff_ne.2 h0))
  have q1 : (s.toList == [115, 116, 114]) = false := (show (s.toList == [115, 116, 114]) = (s.toList == (⟨#[115, 116, 114]⟩ : ByteArray).toList) from by rw [show (⟨#[115, 116, 114]⟩ : ByteArray).toList = [115, 116, 114] from by kernel_rfl]).trans ((beq_toListBytes s ⟨#[115, 116, 114]⟩).symm.trans (beq_eq_false_iff_ne.2 h1))
  have q2 : (s.toList == [105, 110, 116]) = false := (show (s.toList == [105, 110, 116]) = (s.toList == (⟨#[105, 110, 116]⟩ : ByteArray).toList) from by rw [show (⟨#[105, 110, 116]⟩ : ByteArray).toList = [105, 110, 116] from by kernel_rfl]).trans ((beq_toListBytes s ⟨#[105, 110, 116]⟩).symm.trans (beq_eq_false_iff_ne.2 h2))
  have q3 : (s.toList == [107, 101, 121, 115]) = false := (show (s.toList == [107, 101, 121, 115]) = (s.toList == (⟨#[107, 101, 121, 115]⟩ : ByteArray).toList) from by rw [show (⟨#[107, 101, 121, 115]⟩ : ByteArray).toList = [107, 101, 121, 115] from by kernel_rfl]).trans ((beq_toListBytes s ⟨#[107, 101, 121, 115]⟩).symm.trans (beq_eq_false_iff_ne.2 h3))
  have q4 : (s.toList == [102, 97, 105, 108]) = false := (show (s.toList == [102, 97, 105, 108]) = (s.toList == (⟨#[102, 97, 105, 108]⟩ : ByteArray).toList) from by rw [show (⟨#[102, 97, 105, 108]⟩ : ByteArray).toList = [102, 97, 105, 108] from by kernel_rfl]).trans ((beq_toListBytes s ⟨#[102, 97, 105, 108]⟩).symm.trans (beq_eq_false_iff_ne.2 h4))
  have q5 : (s.toList == [112, 117, 115, 104]) = false := (show (s.toList == [112, 117, 115, 104]) = (s.toList == (⟨#[112, 117, 115, 104]⟩ : ByteArray).toList) from by rw [show (⟨#[112, 117, 115, 104]⟩ : ByteArray).toList = [112, 117, 115, 104] from by kernel_rfl]).trans ((beq_toListBytes s ⟨#[112, 117, 115, 104]⟩).symm.trans (beq_eq_false_iff_ne.2 h5))
  have q6 : (s.toList == [104, 97, 115]) = false := (show (s.toList == [104, 97, 115]) = (s.toList == (⟨#[104, 97, 115]⟩ : ByteArray).toList) from by rw [show (⟨#[104, 97, 115]⟩ : ByteArray).toList = [104, 97, 115] from by kernel_rfl]).trans ((beq_toListBytes s ⟨#[104, 97, 115]⟩).symm.trans (beq_eq_false_iff_ne.2 h6))
  have q7 : (s.toList == [112, 117, 116]) = false := (show (s.toList == [112, 117, 116]) = (s.toList == (⟨#[112, 117, 116]⟩ : ByteArray).toList) from by rw [show (⟨#[112, 117, 116]⟩ : ByteArray).toList = [112, 117, 116] from by kernel_rfl]).trans ((beq_toListBytes s ⟨#[112, 117, 116]⟩).symm.trans (beq_eq_false_iff_ne.2 h7))
  clear HE h0 h1 h2 h3 h4 h5 h6 h7
  go_enter Tryz.func30, Tryz.ntmps30
  go_wp2_with fail
  go_ret2
  exact ⟨rfl, Chg.refl _ _⟩
set_option maxHeartbeats 4000000 in
set_option maxRecDepth 100000 in
theorem rhostop_any (s : ByteArray) (w : World) : Calls Tryz.prog 94 #[.string s] w fun e w' => e = .returned (.tuple #[.int .i64 (lkZ hoL s).1, .bool (lkZ hoL s).2]) ∧ Chg [] w w' := by
  by_cases h0 : s = ⟨#[110, 111, 119]⟩
  · have HE := Lib.hid (show lkZ hoL s = lkZ hoL ⟨#[110, 111, 119]⟩ by rw [h0])
    rw [HE.out]
    subst h0
    clear HE
    go_enter Tryz.func94, Tryz.ntmps94
    go_wp2_with fail
    go_ret2
    exact ⟨by kernel_rfl, Chg.refl _ _⟩
  by_cases h1 : s = ⟨#[103, 101, 116]⟩
  · have HE := Lib.hid (show lkZ hoL s = lkZ hoL ⟨#[103, 101, 116]⟩ by rw [h1])
    rw [HE.out]
    subst h1
    clear HE
    go_enter Tryz.func94, Tryz.ntmps94
    go_wp2_with fail
    go_ret2
    exact ⟨by kernel_rfl, Chg.refl _ _⟩
  by_cases h2 : s = ⟨#[100, 101, 108, 101, 116, 101]⟩
  · have HE := Lib.hid (show lkZ hoL s = lkZ hoL ⟨#[100, 101, 108, 101, 116, 101]⟩ by rw [h2])
    rw [HE.out]
    subst h2
    clear HE
    go_enter Tryz.func94, Tryz.ntmps94
    go_wp2_with fail
    go_ret2
    exact ⟨by kernel_rfl, Chg.refl _ _⟩
  by_cases h3 : s = ⟨#[115, 101, 99, 114, 101, 116]⟩
  · have HE := Lib.hid (show lkZ hoL s = lkZ hoL ⟨#[115, 101, 99, 114, 101, 116]⟩ by rw [h3])
    rw [HE.out]
    subst h3
    clear HE
    go_enter Tryz.func94, Tryz.ntmps94
    go_wp2_with fail
    go_ret2
    exact ⟨by kernel_rfl, Chg.refl _ _⟩
  by_cases h4 : s = ⟨#[108, 111, 103]⟩
  · have HE := Lib.hid (show lkZ hoL s = lkZ hoL ⟨#[108, 111, 103]⟩ by rw [h4])
    rw [HE.out]
    subst h4
    clear HE
    go_enter Tryz.func94, Tryz.ntmps94
    go_wp2_with fail
    go_ret2
    exact ⟨by kernel_rfl, Chg.refl _ _⟩
  by_cases h5 : s = ⟨#[112, 117, 116]⟩
  · have HE := Lib.hid (show lkZ hoL s = lkZ hoL ⟨#[112, 117, 116]⟩ by rw [h5])
    rw [HE.out]
    subst h5
    clear HE
    go_enter Tryz.func94, Tryz.ntmps94
    go_wp2_with fail
    go_ret2
    exact ⟨by kernel_rfl, Chg.refl _ _⟩
  by_cases h6 : s = ⟨#[115, 101, 110, 100]⟩
  · have HE := Lib.hid (show lkZ hoL s = lkZ hoL ⟨#[115, 101, 110, 100]⟩ by rw [h6])
    rw [HE.out]
    subst h6
    clear HE
    go_enter Tryz.func94, Tryz.ntmps94
    go_wp2_with fail
    go_ret2
    exact ⟨by kernel_rfl, Chg.refl _ _⟩
  by_cases h7 : s = ⟨#[115, 105, 103, 110, 97, 108]⟩
  · have HE := Lib.hid (show lkZ hoL s = lkZ hoL ⟨#[115, 105, 103, 110, 97, 108]⟩ by rw [h7])
    rw [HE.out]
    subst h7
    clear HE
    go_enter Tryz.func94, Tryz.ntmps94
    go_wp2_with fail
    go_ret2
    exact ⟨by kernel_rfl, Chg.refl _ _⟩
  by_cases h8 : s = ⟨#[102, 101, 116, 99, 104]⟩
  · have HE := Lib.hid (show lkZ hoL s = lkZ hoL ⟨#[102, 101, 116, 99, 104]⟩ by rw [h8])
    rw [HE.out]
    subst h8
    clear HE
    go_enter Tryz.func94, Tryz.ntmps94
    go_wp2_with fail
    go_ret2
    exact ⟨by kernel_rfl, Chg.refl _ _⟩
  by_cases h9 : s = ⟨#[116, 105, 109, 101, 114]⟩
  · have HE := Lib.hid (show lkZ hoL s = lkZ hoL ⟨#[116, 105, 109, 101, 114]⟩ by rw [h9])
    rw [HE.out]
    subst h9
    clear HE
    go_enter Tryz.func94, Tryz.ntmps94
    go_wp2_with fail
    go_ret2
    exact ⟨by kernel_rfl, Chg.refl _ _⟩
  have HE := Lib.hid (show lkZ hoL s = (0, false) from lkZ_none (by
    intro x hx
    simp only [hoL, List.mem_cons, List.not_mem_nil, or_false] at hx
    rcases hx with rfl | rfl | rfl | rfl | rfl | rfl | rfl | rfl | rfl | rfl <;> intro e <;> simp_all))
  rw [HE.out]
  have q0 : (s.toList == [110, 111, 119]) = false := (show (s.toList == [110, 111, 119]) = (s.toList == (⟨#[110, 111, 119]⟩ : ByteArray).toList) from by rw [show (⟨#[110, 111, 119]⟩ : ByteArray).toList = [110, 111, 119] from by kernel_rfl]).trans ((beq_toListBytes s ⟨#[110, 111, 119]⟩).symm.trans (beq_eq_false_iff_ne.2 h0))
  have q1 : (s.toList == [103, 101, 116]) = false := (show (s.toList == [103, 101, 116]) = (s.toList == (⟨#[103, 101, 116]⟩ : ByteArray).toList) from by rw [show (⟨#[103, 101, 116]⟩ : ByteArray).toList = [103, 101, 116] from by kernel_rfl]).trans ((beq_toListBytes s ⟨#[103, 101, 116]⟩).symm.trans (beq_eq_false_iff_ne.2 h1))
  have q2 : (s.toList == [100, 101, 108, 101, 116, 101]) = false := (show (s.toList == [100, 101, 108, 101, 116, 101]) = (s.toList == (⟨#[100, 101, 108, 101, 116, 101]⟩ : ByteArray).toList) from by rw [show (⟨#[100, 101, 108, 101, 116, 101]⟩ : ByteArray).toList = [100, 101, 108, 101, 116, 101] from by kernel_rfl]).trans ((beq_toListBytes s ⟨#[100, 101, 108, 101, 116, 101]⟩).symm.trans (beq_eq_false_iff_ne.2 h2))
  have q3 : (s.toList == [115, 101, 99, 114, 101, 116]) = false := (show (s.toList == [115, 101, 99, 114, 101, 116]) = (s.toList == (⟨#[115, 101, 99, 114, 101, 116]⟩ : ByteArray).toList) from by rw [show (⟨#[115, 101, 99, 114, 101, 116]⟩ : ByteArray).toList = [115, 101, 99, 114, 101, 116] from by kernel_rfl]).trans ((beq_toListBytes s ⟨#[115, 101, 99, 114, 101, 116]⟩).symm.trans (beq_eq_false_iff_ne.2 h3))
  have q4 : (s.toList == [108, 111, 103]) = false := (show (s.toList == [108, 111, 103]) = (s.toList == (⟨#[108, 111, 103]⟩ : ByteArray).toList) from by rw [show (⟨#[108, 111, 103]⟩ : ByteArray).toList = [108, 111, 103] from by kernel_rfl]).trans ((beq_toListBytes s ⟨#[108, 111, 103]⟩).symm.trans (beq_eq_false_iff_ne.2 h4))
  have q5 : (s.toList == [112, 117, 116]) = false := (show (s.toList == [112, 117, 116]) = (s.toList == (⟨#[112, 117, 116]⟩ : ByteArray).toList) from by rw [show (⟨#[112, 117, 116]⟩ : ByteArray).toList = [112, 117, 116] from by kernel_rfl]).trans ((beq_toListBytes s ⟨#[112, 117, 116]⟩).symm.trans (beq_eq_false_iff_ne.2 h5))
  have q6 : (s.toList == [115, 101, 110, 100]) = false := (show (s.toList == [115, 101, 110, 100]) = (s.toList == (⟨#[115, 101, 110, 100]⟩ : ByteArray).toList) from by rw [show (⟨#[115, 101, 110, 100]⟩ : ByteArray).toList = [115, 101, 110, 100] from by kernel_rfl]).trans ((beq_toListBytes s ⟨#[115, 101, 110, 100]⟩).symm.trans (beq_eq_false_iff_ne.2 h6))
  have q7 : (s.toList == [115, 105, 103, 110, 97, 108]) = false := (show (s.toList == [115, 105, 103, 110, 97, 108]) = (s.toList == (⟨#[115, 105, 103, 110, 97, 108]⟩ : ByteArray).toList) from by rw [show (⟨#[115, 105, 103, 110, 97, 108]⟩ : ByteArray).toList = [115, 105, 103, 110, 97, 108] from by kernel_rfl]).trans ((beq_toListBytes s ⟨#[115, 105, 103, 110, 97, 108]⟩).symm.trans (beq_eq_false_iff_ne.2 h7))
  have q8 : (s.toList == [102, 101, 116, 99, 104]) = false := (show (s.toList == [102, 101, 116, 99, 104]) = (s.toList == (⟨#[102, 101, 116, 99, 104]⟩ : ByteArray).toList) from by rw [show (⟨#[102, 101, 116, 99, 104]⟩ : ByteArray).toList = [102, 101, 116, 99, 104] from by kernel_rfl]).trans ((beq_toListBytes s ⟨#[102, 101, 116, 99, 104]⟩).symm.trans (beq_eq_false_iff_ne.2 h8))
  have q9 : (s.toList == [116, 105, 109, 101, 114]) = false := (show (s.toList == [116, 105, 109, 101, 114]) = (s.toList == (⟨#[116, 105, 109, 101, 114]⟩ : ByteArray).toList) from by rw [show (⟨#[116, 105, 109, 101, 114]⟩ : ByteArray).toList = [116, 105, 109, 101, 114] from by kernel_rfl]).trans ((beq_toListBytes s ⟨#[116, 105, 109, 101, 114]⟩).symm.trans (beq_eq_false_iff_ne.2 h9))
  clear HE h0 h1 h2 h3 h4 h5 h6 h7 h8 h9
  go_enter Tryz.func94, Tryz.ntmps94
  go_wp2_with fail
  go_ret2
  exact ⟨rfl, Chg.refl _ _⟩
end Go.Proofs.YtolidiafomceiaaGreatDoor
