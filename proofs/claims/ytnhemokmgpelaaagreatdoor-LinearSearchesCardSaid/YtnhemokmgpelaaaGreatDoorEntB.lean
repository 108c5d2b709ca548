/- Chapter 48: contracts: arity, check of an operation. Condition (check): the table of Itoa lies as the program lays it. -/
import Derived.Test.YtnhemokmgpelaaaGreatDoorEntA
import Derived.Test.YtnhemokmgpelaaaGreatDoorRor
namespace Go.Proofs.YtnhemokmgpelaaaGreatDoor
set_option linter.unusedVariables false
set_option linter.unusedSimpArgs false
open Go.RowKit
def opRead : ByteArray := ⟨#[114, 101, 97, 100]⟩
def opWrite : ByteArray := ⟨#[119, 114, 105, 116, 101]⟩
def opAdd : ByteArray := ⟨#[97, 100, 100]⟩
def opCas : ByteArray := ⟨#[99, 97, 115]⟩
def arL : List (ByteArray × Int) := [(opRead, 0), (opWrite, 1), (opAdd, 1), (opCas, 2)]
def arV (x : ByteArray × Int) : Value := .int .i64 x.2
/-- Which operation: 1 read, 2 write, 3 add, 4 cas, 0 none. -/
def opN (s : ByteArray) : Nat := if s = opRead then 1 else if s = opWrite then 2 else if s = opAdd then 3 else if s = opCas then 4 else 0
def ariN (k : Nat) : Nat := if k = 4 then 2 else if k = 2 ∨ k = 3 then 1 else 0
theorem opN_cases (s : ByteArray) : (s = opRead ∧ opN s = 1) ∨ (s = opWrite ∧ opN s = 2) ∨ (s = opAdd ∧ opN s = 3) ∨ (s = opCas ∧ opN s = 4) ∨ ((s ≠ opRead ∧ s ≠ opWrite ∧ s ≠ opAdd ∧ s ≠ opCas) ∧ opN s = 0) := by
  unfold opN
  by_cases h1 : s = opRead
  · exact .inl ⟨h1, by rw [if_pos h1]⟩
  rw [if_neg h1]
  by_cases h2 : s = opWrite
  · exact .inr (.inl ⟨h2, by rw [if_pos h2]⟩)
  rw [if_neg h2]
  by_cases h3 : s = opAdd
  · exact .inr (.inr (.inl ⟨h3, by rw [if_pos h3]⟩))
  rw [if_neg h3]
  by_cases h4 : s = opCas
  · exact .inr (.inr (.inr (.inl ⟨h4, by rw [if_pos h4]⟩)))
  rw [if_neg h4]
  exact .inr (.inr (.inr (.inr ⟨⟨h1, h2, h3, h4⟩, rfl⟩)))
theorem arL_look (s : ByteArray) : ((lookL Prod.fst arL s).map arV).getD (.int .i64 0) = .int .i64 (ariN (opN s) : Nat) ∧ (lookL Prod.fst arL s).isSome = decide (opN s ≠ 0) := by
  rcases opN_cases s with ⟨rfl, h⟩ | ⟨rfl, h⟩ | ⟨rfl, h⟩ | ⟨rfl, h⟩ | ⟨⟨h1, h2, h3, h4⟩, h⟩
  · rw [h]; exact ⟨rfl, rfl⟩
  · rw [h]; exact ⟨rfl, rfl⟩
  · rw [h]; exact ⟨rfl, rfl⟩
  · rw [h]; exact ⟨rfl, rfl⟩
  · have : lookL Prod.fst arL s = none := lookL_miss (by
      intro x hx
      simp only [arL, List.mem_cons, List.not_mem_nil, or_false] at hx
      rcases hx with rfl | rfl | rfl | rfl
      · exact fun e => h1 e.symm
      · exact fun e => h2 e.symm
      · exact fun e => h3 e.symm
      · exact fun e => h4 e.symm)
    rw [h, this]; exact ⟨rfl, rfl⟩
section
variable {α : Type} {kf : α → ByteArray} {vf : α → Value} {P : Program} (w : World) {ops : Array Oper} {rest : List Oper} {o : Oper} {a : Act} {Q : Exit → Act → World → Prop}
/-- An entry of a map literal. -/
theorem wpl_insert (hg : o.guard = none) (m x v : Operand) (t : TypeId) (hop : o.op = Op.insert t m x v) (k e : TypeId) (ht : P.underlying t = some (.map k e)) (hk : P.underlying k = some .string)
    (b : Nat) (l : List α) (hm : a.eval m = .map (some b)) (h : MapIs kf vf w b l) (y : α) (hx : a.eval x = .string (kf y)) (hv : a.eval v = vf y)
    (hK : ∀ w', MapIs kf vf w' b (putL kf l y) → Chg [b] w w' → w'.heap.size = w.heap.size → wpList P ops Q rest (a.put o.dst undef) w') : wpList P ops Q (o :: rest) a w := by
  refine wpList_plain hg fun K' hK' => ?_
  obtain ⟨w', hrun, h1, h2, h3⟩ := h.store ht hk y
  unfold Oper.wp
  simp [execOp, hop, hm, hx, hv, hrun, Result.andThen]
  exact hK' _ _ (hK w' h1 h2 h3)
end
theorem zeroI (w : World) : (zeroValue 3).run Tryz.prog w = .ok (.int .i64 0) w := by kernel_rfl
theorem arL_puts : putL Prod.fst (putL Prod.fst (putL Prod.fst (putL Prod.fst ([] : List (ByteArray × Int)) (opRead, 0)) (opWrite, 1)) (opAdd, 1)) (opCas, 2) = arL := by kernel_rfl
set_option maxHeartbeats 4000000 in
set_option maxRecDepth 100000 in
theorem arity_any (s : ByteArray) (w : World) : Calls Tryz.prog 65 #[.string s] w fun e w' => e = .returned (.tuple #[.int .i64 (ariN (opN s) : Nat), .bool (decide (opN s ≠ 0))]) ∧ Chg [] w w' := by
  obtain ⟨R, hR⟩ : ∃ R, R = decide (opN s ≠ 0) := ⟨_, rfl⟩
  obtain ⟨n, hn⟩ : ∃ n : Int, n = (ariN (opN s) : Nat) := ⟨_, rfl⟩
  rw [← hR, ← hn]
  have HL := Lib.hid (arL_look s)
  rw [← hR, ← hn] at HL
  clear hR hn
  have M := Lib.hid (mapIs_new (kf := Prod.fst) (vf := arV) w)
  have C := Lib.hid ((Chg.refl [w.heap.size] w).alloc (.map #[] 0))
  have hmm := @run_makeMap Tryz.prog
  go_enter Tryz.func65, Tryz.ntmps65
  go_wp2_with (first
    | (refine wpl_insert _ rfl _ _ _ 110 rfl 9 3 Tryz.underlying110 Tryz.underlying9 w.heap.size _ rfl M.out ((opRead, 0) : ByteArray × Int) rfl rfl ?_; intro w1 hm1 hc1 hs1; have M := Lib.hid hm1; have C := Lib.hid (C.out.thenSame hc1); clear hm1 hc1 hs1)
    | (refine wpl_insert _ rfl _ _ _ 110 rfl 9 3 Tryz.underlying110 Tryz.underlying9 w.heap.size _ rfl M.out ((opWrite, 1) : ByteArray × Int) rfl rfl ?_; intro w1 hm1 hc1 hs1; have M := Lib.hid hm1; have C := Lib.hid (C.out.thenSame hc1); clear hm1 hc1 hs1)
    | (refine wpl_insert _ rfl _ _ _ 110 rfl 9 3 Tryz.underlying110 Tryz.underlying9 w.heap.size _ rfl M.out ((opAdd, 1) : ByteArray × Int) rfl rfl ?_; intro w1 hm1 hc1 hs1; have M := Lib.hid hm1; have C := Lib.hid (C.out.thenSame hc1); clear hm1 hc1 hs1)
    | (refine wpl_insert _ rfl _ _ _ 110 rfl 9 3 Tryz.underlying110 Tryz.underlying9 w.heap.size _ rfl M.out ((opCas, 2) : ByteArray × Int) rfl rfl ?_; intro w1 hm1 hc1 hs1; have M := Lib.hid hm1; have C := Lib.hid (C.out.thenSame hc1); clear hm1 hc1 hs1)
    | (at_lookup; have M := Lib.hid M.out; rw [arL_puts] at M; refine wpl_lookup_ok _ rfl _ _ 110 rfl 9 3 Tryz.underlying110 Tryz.underlying9 (zeroI _) w.heap.size _ rfl M.out s rfl ?_; rw [HL.out.1, HL.out.2]))
  go_ret2
  exact ⟨rfl, C.out.mono (by intro x hx hlt; simp at hx; omega)⟩
/-! operations -/
structure POp where
  ent : ByteArray
  id : ByteArray
  op : ByteArray
  args : List (List Ce)
/-- An operation with the places of its arguments. -/
structure EOp where
  ent : ByteArray
  id : ByteArray
  op : ByteArray
  aa : Option Addr
  ac : Nat
  args : List (Rr Ce)
def EOp.p (o : EOp) : POp := ⟨o.ent, o.id, o.op, o.args.map Rr.L⟩
def eoC (o : EOp) : List Value := [.string o.ent, .string o.id, .string o.op, .slice o.aa o.args.length o.ac]
def ArgsIn (w : World) (aa : Option Addr) (ac : Nat) (args : List (Rr Ce)) : Prop := InIs rrC 1 w aa ac args ∧ ∀ d ∈ args, InIs ceC 4 w d.a d.c d.L
theorem ArgsIn.kept {w w' : World} {aa : Option Addr} {ac : Nat} {args : List (Rr Ce)} (h : ArgsIn w aa ac args) (hc : Chg [] w w') : ArgsIn w' aa ac args := ⟨h.1.kept hc, fun d hd => (h.2 d hd).kept hc⟩
def goodL (l : List Ce) : Prop := l.length ≤ 3518437208780 ∧ ∀ x ∈ l, x.good
def EOp.good (o : EOp) : Prop := o.ent.size ≤ maxLen ∧ o.id.size ≤ maxLen ∧ o.op.size ≤ maxLen ∧ o.args.length ≤ 9223372036854775806 ∧ ∀ d ∈ o.args, goodL d.L
def firstE : List (List Ce) → Int
  | [] => 0
  | v :: r => if checkZ v = 0 then firstE r else checkZ v
def chkZ (o : POp) : Int := if (idB o.ent && idB o.id) = false then 4 else if opN o.op = 0 then 4 else if o.args.length ≠ ariN (opN o.op) then 7 else firstE o.args
theorem firstE_at {l : List (List Ce)} {k : Nat} {v : List Ce} (h : l[k]? = some v) (hb : ∀ j, j < k → ∀ u, l[j]? = some u → checkZ u = 0) (hv : checkZ v ≠ 0) : firstE l = checkZ v := by
  induction l generalizing k with
  | nil => simp at h
  | cons u r ih =>
    cases k with
    | zero => simp at h; subst h; simp [firstE, hv]
    | succ k =>
      have h0 := hb 0 (by omega) u rfl
      rw [firstE, if_pos h0]
      exact ih (by simpa using h) (fun j hj x hx => hb (j + 1) (by omega) x (by simpa using hx))
theorem firstE_all {l : List (List Ce)} (hb : ∀ v ∈ l, checkZ v = 0) : firstE l = 0 := by
  induction l with
  | nil => rfl
  | cons u r ih => rw [firstE, if_pos (hb u (by simp))]; exact ih (fun v hv => hb v (by simp [hv]))
theorem firstE_zero {l : List (List Ce)} (h : firstE l = 0) : ∀ v ∈ l, checkZ v = 0 := by
  induction l with
  | nil => simp
  | cons u r ih =>
    rw [firstE] at h
    split at h
    · rename_i h0
      intro v hv
      rcases List.mem_cons.1 hv with rfl | hv
      · exact h0
      · exact ih h v hv
    · rename_i h0; exact absurd h h0
def eoO (o : EOp) : Obj := .cells #[.string o.ent, .string o.id, .string o.op, .slice o.aa o.args.length o.ac] 36
set_option maxHeartbeats 4000000 in
set_option maxRecDepth 100000 in
theorem echk_any (o : EOp) (w : World) (ha : ArgsIn w o.aa o.ac o.args) (hg : o.good) (ht : TabW w) :
    Calls Tryz.prog 47 #[.agg (eoC o).toArray] w fun e w' => e = .returned (.int .i64 (chkZ o.p)) ∧ Chg [] w w' := by
  obtain ⟨ent, id, op, aa, ac, args⟩ := o
  obtain ⟨R, hR⟩ : ∃ R, R = chkZ (EOp.p ⟨ent, id, op, aa, ac, args⟩) := ⟨_, rfl⟩
  rw [← hR]
  simp only [chkZ, EOp.p, List.length_map] at hR
  obtain ⟨g1, g2, g3, g4, g5⟩ := hg
  simp only at g1 g2 g3 g4 g5 ha
  have A0 := Lib.hid (fun w' => arity_any op w')
  have A1 := Lib.hid (fun w' => ID_any ent w' g1)
  have A2 := Lib.hid (fun w' => ID_any id w' g2)
  have HA := Lib.hid ha
  have HG := Lib.hid g5
  have HT := Lib.hid ht
  simp only [eoC]
  obtain ⟨W1, hW1⟩ : ∃ W1, W1 = w.alloc (eoO ⟨ent, id, op, aa, ac, args⟩) := ⟨_, rfl⟩
  have C := Lib.hid (show Chg [] w W1 by rw [hW1]; exact (Chg.refl _ _).alloc _)
  have B := Lib.hid (show W1.heap[w.heap.size]? = some (eoO ⟨ent, id, op, aa, ac, args⟩) by rw [hW1]; exact heap_alloc_new _ _)
  unfold eoO at hW1 B
  have k := blk_cell B.out
  have HW1 := Lib.hid hW1
  clear hW1 g1 g2 g3 g5 ha ht
  generalize idB ent = q1 at *
  generalize idB id = q2 at *
  generalize hk : opN op = K at *
  clear hk
  obtain ⟨N, hN⟩ : ∃ N : Int, N = (ariN K : Nat) := ⟨_, rfl⟩
  rw [← hN] at A0
  by_cases hK : K = 0
  · have hKd : decide (K ≠ 0) = false := by simp [hK]
    rw [hKd] at A0
    cases q1
    · have HF := Lib.hid (hR.trans (if_pos rfl))
      clear hR
      go_enter Tryz.func47, Tryz.ntmps47
      go_wp2_with fail
      rw [← HW1.out]
      go_wp2_with (first | (go_at_call 65; (with_reducible refine (A0.out _).mono ?_); rintro e wn ⟨rfl, hcn⟩; have C := Lib.hid (C.out.thenSame hcn); have B := Lib.hid (hcn.at (by simp) B.out); have k := blk_cell B.out; clear hcn) | (go_at_call 56; (with_reducible refine (A1.out _).mono ?_); rintro e wn ⟨rfl, hcn⟩; have C := Lib.hid (C.out.thenSame (Chg.ofBelow hcn)); have B := Lib.hid ((Chg.ofBelow (S := []) hcn).at (by simp) B.out); have k := blk_cell B.out; clear hcn) | (go_at_call 56; (with_reducible refine (A2.out _).mono ?_); rintro e wn ⟨rfl, hcn⟩; have C := Lib.hid (C.out.thenSame (Chg.ofBelow hcn)); have B := Lib.hid ((Chg.ofBelow (S := []) hcn).at (by simp) B.out); have k := blk_cell B.out; clear hcn))
      go_ret
      exact ⟨retI HF.out.symm, C.out⟩
    cases q2
    · have HF := Lib.hid (hR.trans (if_pos rfl))
      clear hR
      go_enter Tryz.func47, Tryz.ntmps47
      go_wp2_with fail
      rw [← HW1.out]
      go_wp2_with (first | (go_at_call 65; (with_reducible refine (A0.out _).mono ?_); rintro e wn ⟨rfl, hcn⟩; have C := Lib.hid (C.out.thenSame hcn); have B := Lib.hid (hcn.at (by simp) B.out); have k := blk_cell B.out; clear hcn) | (go_at_call 56; (with_reducible refine (A1.out _).mono ?_); rintro e wn ⟨rfl, hcn⟩; have C := Lib.hid (C.out.thenSame (Chg.ofBelow hcn)); have B := Lib.hid ((Chg.ofBelow (S := []) hcn).at (by simp) B.out); have k := blk_cell B.out; clear hcn) | (go_at_call 56; (with_reducible refine (A2.out _).mono ?_); rintro e wn ⟨rfl, hcn⟩; have C := Lib.hid (C.out.thenSame (Chg.ofBelow hcn)); have B := Lib.hid ((Chg.ofBelow (S := []) hcn).at (by simp) B.out); have k := blk_cell B.out; clear hcn))
      go_ret
      exact ⟨retI HF.out.symm, C.out⟩
    rw [if_neg (by decide)] at hR
    have HF := Lib.hid (hR.trans (if_pos hK))
    clear hR
    go_enter Tryz.func47, Tryz.ntmps47
    go_wp2_with fail
    rw [← HW1.out]
    go_wp2_with (first | (go_at_call 65; (with_reducible refine (A0.out _).mono ?_); rintro e wn ⟨rfl, hcn⟩; have C := Lib.hid (C.out.thenSame hcn); have B := Lib.hid (hcn.at (by simp) B.out); have k := blk_cell B.out; clear hcn) | (go_at_call 56; (with_reducible refine (A1.out _).mono ?_); rintro e wn ⟨rfl, hcn⟩; have C := Lib.hid (C.out.thenSame (Chg.ofBelow hcn)); have B := Lib.hid ((Chg.ofBelow (S := []) hcn).at (by simp) B.out); have k := blk_cell B.out; clear hcn) | (go_at_call 56; (with_reducible refine (A2.out _).mono ?_); rintro e wn ⟨rfl, hcn⟩; have C := Lib.hid (C.out.thenSame (Chg.ofBelow hcn)); have B := Lib.hid ((Chg.ofBelow (S := []) hcn).at (by simp) B.out); have k := blk_cell B.out; clear hcn))
    go_ret
    exact ⟨retI HF.out.symm, C.out⟩
  have hKd : decide (K ≠ 0) = true := by simp [hK]
  rw [hKd] at A0
  clear hKd
  cases q1
  · have HF := Lib.hid (hR.trans (if_pos rfl))
    clear hR
    go_enter Tryz.func47, Tryz.ntmps47
    go_wp2_with fail
    rw [← HW1.out]
    go_wp2_with (first | (go_at_call 65; (with_reducible refine (A0.out _).mono ?_); rintro e wn ⟨rfl, hcn⟩; have C := Lib.hid (C.out.thenSame hcn); have B := Lib.hid (hcn.at (by simp) B.out); have k := blk_cell B.out; clear hcn) | (go_at_call 56; (with_reducible refine (A1.out _).mono ?_); rintro e wn ⟨rfl, hcn⟩; have C := Lib.hid (C.out.thenSame (Chg.ofBelow hcn)); have B := Lib.hid ((Chg.ofBelow (S := []) hcn).at (by simp) B.out); have k := blk_cell B.out; clear hcn) | (go_at_call 56; (with_reducible refine (A2.out _).mono ?_); rintro e wn ⟨rfl, hcn⟩; have C := Lib.hid (C.out.thenSame (Chg.ofBelow hcn)); have B := Lib.hid ((Chg.ofBelow (S := []) hcn).at (by simp) B.out); have k := blk_cell B.out; clear hcn))
    go_ret
    exact ⟨retI HF.out.symm, C.out⟩
  cases q2
  · have HF := Lib.hid (hR.trans (if_pos rfl))
    clear hR
    go_enter Tryz.func47, Tryz.ntmps47
    go_wp2_with fail
    rw [← HW1.out]
    go_wp2_with (first | (go_at_call 65; (with_reducible refine (A0.out _).mono ?_); rintro e wn ⟨rfl, hcn⟩; have C := Lib.hid (C.out.thenSame hcn); have B := Lib.hid (hcn.at (by simp) B.out); have k := blk_cell B.out; clear hcn) | (go_at_call 56; (with_reducible refine (A1.out _).mono ?_); rintro e wn ⟨rfl, hcn⟩; have C := Lib.hid (C.out.thenSame (Chg.ofBelow hcn)); have B := Lib.hid ((Chg.ofBelow (S := []) hcn).at (by simp) B.out); have k := blk_cell B.out; clear hcn) | (go_at_call 56; (with_reducible refine (A2.out _).mono ?_); rintro e wn ⟨rfl, hcn⟩; have C := Lib.hid (C.out.thenSame (Chg.ofBelow hcn)); have B := Lib.hid ((Chg.ofBelow (S := []) hcn).at (by simp) B.out); have k := blk_cell B.out; clear hcn))
    go_ret
    exact ⟨retI HF.out.symm, C.out⟩
  rw [if_neg (by decide), if_neg hK] at hR
  by_cases hl : args.length = ariN K
  · rw [if_neg (by omega)] at hR
    have hlb : ((args.length : Int) == N) = true := beq_iff_eq.2 (by omega)
    have hlb2 : ((args.length : Int) != N) = false := by rw [bne, hlb]; rfl
    have HL := Lib.hid hl
    have HR := Lib.hid hR
    clear hl hR hK hN
    go_enter Tryz.func47, Tryz.ntmps47
    go_wp2_with fail
    rw [← HW1.out]
    go_wp2_with (first | (go_at_call 65; (with_reducible refine (A0.out _).mono ?_); rintro e wn ⟨rfl, hcn⟩; have C := Lib.hid (C.out.thenSame hcn); have B := Lib.hid (hcn.at (by simp) B.out); have k := blk_cell B.out; clear hcn) | (go_at_call 56; (with_reducible refine (A1.out _).mono ?_); rintro e wn ⟨rfl, hcn⟩; have C := Lib.hid (C.out.thenSame (Chg.ofBelow hcn)); have B := Lib.hid ((Chg.ofBelow (S := []) hcn).at (by simp) B.out); have k := blk_cell B.out; clear hcn) | (go_at_call 56; (with_reducible refine (A2.out _).mono ?_); rintro e wn ⟨rfl, hcn⟩; have C := Lib.hid (C.out.thenSame (Chg.ofBelow hcn)); have B := Lib.hid ((Chg.ofBelow (S := []) hcn).at (by simp) B.out); have k := blk_cell B.out; clear hcn))
    go_loopw [36] (fun i wr => ∃ j : Nat, i = .int .i64 j ∧ j ≤ args.length ∧ Hid (∀ m, m < j → ∀ u, (args.map Rr.L)[m]? = some u → checkZ u = 0) ∧ Hid (Chg [] w wr)) (fun i _ => args.length - (intOf i).toNat)
    case atStart => exact ⟨0, rfl, Nat.zero_le _, Lib.hid (fun m hm => by omega), C⟩
    case round =>
      obtain ⟨j, rfl, hj, HJ, D⟩ := hrel
      have hj0 : (0 : Int) ≤ (j : Int) := by omega
      by_cases hjl : j < args.length
      · obtain ⟨b1, o1, rfl, -, hbr1, hcc1⟩ := HA.out.1.1.elem D.out j hjl
        have I1 := Lib.hid ((HA.out.2 _ (List.getElem_mem hjl)).kept D.out)
        have G1 := Lib.hid (HG.out _ (List.getElem_mem hjl))
        have HX := Lib.hid (show (args.map Rr.L)[j]? = some (args[j]).L by rw [List.getElem?_map, List.getElem?_eq_getElem hjl]; rfl)
        generalize args[j] = d at *
        obtain ⟨da, dc, dL⟩ := d
        have c0 := hcc1 0 (by omega)
        simp only [rrC, List.getElem?_cons_zero, Nat.add_zero, Nat.mul_one] at c0
        have V := Lib.hid (vcheck_any da dc dL wr I1.out.1 G1.out.1 G1.out.2 (HT.out.kept D.out))
        have hj1 : (j : Int) < (args.length : Int) := by omega
        have HY := Lib.hid (fun h => firstE_at HX.out HJ.out h)
        clear hcc1
        simp only at HX HY
        generalize hz : checkZ dL = z at *
        have HZ := Lib.hid hz
        clear hz
        by_cases hz0 : z = 0
        · subst hz0
          go_wp2_with fail
          refine V.out.mono ?_; rintro e w2 ⟨rfl, hc2⟩
          have D2 := Lib.hid (D.out.thenSame hc2)
          clear hc2
          go_wp2_with fail
          have HJ2 := Lib.hid (show ∀ m, m < j + 1 → ∀ u, (args.map Rr.L)[m]? = some u → checkZ u = 0 from fun m hm u hu => by
            by_cases hmj : m < j
            · exact HJ.out m hmj u hu
            · have : m = j := by omega
              subst this
              rw [HX.out] at hu
              cases hu
              exact HZ.out)
          exact ⟨⟨j + 1, by go_num, by omega, HJ2, D2⟩, by simp [intOf]; omega⟩
        · have hzb : (z != 0) = true := by simpa using hz0
          have HF := Lib.hid (HR.out.trans (HY.out hz0))
          clear hz0
          go_wp2_with fail
          refine V.out.mono ?_; rintro e w2 ⟨rfl, hc2⟩
          have D2 := Lib.hid (D.out.thenSame hc2)
          clear hc2
          go_wp2_with fail
          go_ret
          exact ⟨by rw [HF.out]; rfl, D2.out⟩
      · have hjs : j = args.length := by omega
        have HF := Lib.hid (show R = 0 by
          rw [HR.out]
          refine firstE_all (fun v hv => ?_)
          obtain ⟨m, hm, rfl⟩ := List.mem_iff_getElem.1 hv
          exact HJ.out m (by simpa [hjs] using hm) _ (List.getElem?_eq_getElem hm))
        clear hjs
        go_wp2_with fail
        go_ret
        exact ⟨by rw [HF.out]; rfl, D.out⟩
  · have hlb : ((args.length : Int) != N) = true := by rw [bne, beq_eq_false_iff_ne.2 (show (args.length : Int) ≠ N by omega)]; rfl
    have HF := Lib.hid (hR.trans (if_pos hl))
    clear hR
    go_enter Tryz.func47, Tryz.ntmps47
    go_wp2_with fail
    rw [← HW1.out]
    go_wp2_with (first | (go_at_call 65; (with_reducible refine (A0.out _).mono ?_); rintro e wn ⟨rfl, hcn⟩; have C := Lib.hid (C.out.thenSame hcn); have B := Lib.hid (hcn.at (by simp) B.out); have k := blk_cell B.out; clear hcn) | (go_at_call 56; (with_reducible refine (A1.out _).mono ?_); rintro e wn ⟨rfl, hcn⟩; have C := Lib.hid (C.out.thenSame (Chg.ofBelow hcn)); have B := Lib.hid ((Chg.ofBelow (S := []) hcn).at (by simp) B.out); have k := blk_cell B.out; clear hcn) | (go_at_call 56; (with_reducible refine (A2.out _).mono ?_); rintro e wn ⟨rfl, hcn⟩; have C := Lib.hid (C.out.thenSame (Chg.ofBelow hcn)); have B := Lib.hid ((Chg.ofBelow (S := []) hcn).at (by simp) B.out); have k := blk_cell B.out; clear hcn))
    go_ret
    exact ⟨retI HF.out.symm, C.out⟩
end Go.Proofs.YtnhemokmgpelaaaGreatDoor
