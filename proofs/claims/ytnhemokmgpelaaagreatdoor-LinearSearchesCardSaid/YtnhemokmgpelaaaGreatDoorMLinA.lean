/- Chapter 50: calls of a history; contracts: open, time, before. No condition. Chapter 50: contracts: Before, the reference's Before; the look for an identifier. No condition. Chapter 50: contracts: the look for an identifier; the check of a history. Condition (Check): the table of Itoa lies as the program lays it. -/
import Derived.Test.YtnhemokmgpelaaaGreatDoorEntB
namespace Go.Proofs.YtnhemokmgpelaaaGreatDoor
set_option linter.unusedVariables false
set_option linter.unusedSimpArgs false
open Go.RowKit
structure PCl where
  o : POp
  err : Int
  ans : List Ce
  from_ : Int
  to_ : Int
/-- A call with the places of its slices. -/
structure Cl where
  o : EOp
  err : Int
  va : Option Addr
  vc : Nat
  ans : List Ce
  from_ : Int
  to_ : Int
def Cl.p (x : Cl) : PCl := ⟨x.o.p, x.err, x.ans, x.from_, x.to_⟩
def clC (x : Cl) : List Value := [.string x.o.ent, .string x.o.id, .string x.o.op, .slice x.o.aa x.o.args.length x.o.ac, .int .i64 x.err, .slice x.va x.ans.length x.vc, .int .i64 x.from_, .int .i64 x.to_]
theorem clC_len (x : Cl) : (clC x).length = 8 := rfl
theorem clC_one (x : Cl) : ∀ u ∈ clC x, u.oneCell' = true := by intro u hu; simp [clC] at hu; rcases hu with rfl | rfl | rfl | rfl | rfl | rfl | rfl | rfl <;> rfl
def clO (x : Cl) : Obj := .cells #[.string x.o.ent, .string x.o.id, .string x.o.op, .slice x.o.aa x.o.args.length x.o.ac, .int .i64 x.err, .slice x.va x.ans.length x.vc, .int .i64 x.from_, .int .i64 x.to_] 40
def ClIn (w : World) (x : Cl) : Prop := ArgsIn w x.o.aa x.o.ac x.o.args ∧ InIs ceC 4 w x.va x.vc x.ans
theorem ClIn.kept {w w' : World} {x : Cl} (h : ClIn w x) (hc : Chg [] w w') : ClIn w' x := ⟨h.1.kept hc, h.2.kept hc⟩
def LIn (w : World) (a : Option Addr) (c : Nat) (l : List Cl) : Prop := InIs clC 8 w a c l ∧ ∀ x ∈ l, ClIn w x
theorem LIn.kept {w w' : World} {a : Option Addr} {c : Nat} {l : List Cl} (h : LIn w a c l) (hc : Chg [] w w') : LIn w' a c l := ⟨h.1.kept hc, fun x hx => (h.2 x hx).kept hc⟩
def goodCl (x : Cl) : Prop := x.o.good ∧ (Lit.int .i64 x.err).wf = true ∧ (Lit.int .i64 x.from_).wf = true ∧ (Lit.int .i64 x.to_).wf = true
/-- The eight cells of a call. -/
def At8 (w : World) (g o : Nat) (x : Cl) : Prop := w.cell? ⟨g, o, none⟩ = some (.string x.o.ent) ∧ w.cell? ⟨g, o + 1, none⟩ = some (.string x.o.id) ∧ w.cell? ⟨g, o + 2, none⟩ = some (.string x.o.op) ∧ w.cell? ⟨g, o + 3, none⟩ = some (.slice x.o.aa x.o.args.length x.o.ac) ∧ w.cell? ⟨g, o + 4, none⟩ = some (.int .i64 x.err) ∧ w.cell? ⟨g, o + 5, none⟩ = some (.slice x.va x.ans.length x.vc) ∧ w.cell? ⟨g, o + 6, none⟩ = some (.int .i64 x.from_) ∧ w.cell? ⟨g, o + 7, none⟩ = some (.int .i64 x.to_)
theorem at8_of {w : World} {g o : Nat} {x : Cl} (h : ∀ j, j < 8 → w.cell? ⟨g, o + j, none⟩ = (clC x)[j]?) : At8 w g o x :=
  ⟨h 0 (by omega), h 1 (by omega), h 2 (by omega), h 3 (by omega), h 4 (by omega), h 5 (by omega), h 6 (by omega), h 7 (by omega)⟩
theorem at8_blk {w : World} {b : Nat} {x : Cl} {t : TypeId} {f : Nat × Nat} (h : w.heap[b]? = some (.cells #[.string x.o.ent, .string x.o.id, .string x.o.op, .slice x.o.aa x.o.args.length x.o.ac, .int .i64 x.err, .slice x.va x.ans.length x.vc, .int .i64 x.from_, .int .i64 x.to_] t f)) : At8 w b 0 x :=
  at8_of (fun j hj => by rw [blk_cell h, Nat.zero_add]; match j, hj with | 0, _ => rfl | 1, _ => rfl | 2, _ => rfl | 3, _ => rfl | 4, _ => rfl | 5, _ => rfl | 6, _ => rfl | 7, _ => rfl)
theorem LIn.at8 {w w' : World} {a : Option Addr} {c : Nat} {l : List Cl} (h : LIn w a c l) (k : Nat) (hk : k < l.length) : ∃ b off, a = some ⟨b, off, none⟩ ∧ b < w.heap.size ∧ ∀ w', Chg [] w w' → At8 w' b (off + k * 8) l[k] := by
  obtain ⟨b, off, h1, h2, h3⟩ := h.1.1.2 k hk
  exact ⟨b, off, h1, h2, fun w' hc => at8_of (fun j hj => (World.cell?_of_block (w := w) (hc.block b h2 (by simp))).trans (h3 j hj))⟩
def openB (x : PCl) : Bool := x.to_ == -1
def timeB (n : Int) : Bool := decide (0 ≤ n) && decide (n ≤ 1073741824)
def befB (x y : PCl) : Bool := !openB x && decide (x.to_ < y.from_)
set_option maxRecDepth 100000 in
theorem lopen_any (x : Cl) (w : World) : Calls Tryz.prog 26 #[.agg (clC x).toArray] w fun e w' => e = .returned (.bool (openB x.p)) ∧ Chg [] w w' := by
  obtain ⟨⟨ent, id, op, aa, ac, args⟩, err, va, vc, ans, fr, to_⟩ := x
  simp only [clC, Cl.p, openB]
  cases hq : (to_ == -1)
  · go_enter Tryz.func26, Tryz.ntmps26
    go_wp2_with fail
    go_ret
    exact ⟨rfl, (Chg.refl _ _).alloc _⟩
  · go_enter Tryz.func26, Tryz.ntmps26
    go_wp2_with fail
    go_ret
    exact ⟨rfl, (Chg.refl _ _).alloc _⟩
theorem ltime_any (n : Int) (w : World) : Calls Tryz.prog 59 #[.int .i64 n] w fun e w' => e = .returned (.bool (timeB n)) ∧ w = w' := by
  unfold timeB
  by_cases h1 : 0 ≤ n
  · by_cases h2 : n ≤ 1073741824
    · rw [decide_eq_true h1, decide_eq_true h2]
      go_enter Tryz.func59, Tryz.ntmps59
      go_wp2_with fail
      go_ret
      exact ⟨rfl, rfl⟩
    · rw [decide_eq_true h1, decide_eq_false h2]
      go_enter Tryz.func59, Tryz.ntmps59
      go_wp2_with fail
      go_ret
      exact ⟨rfl, rfl⟩
  · rw [decide_eq_false h1]
    go_enter Tryz.func59, Tryz.ntmps59
    go_wp2_with fail
    go_ret
    exact ⟨rfl, rfl⟩
set_option maxHeartbeats 4000000 in
set_option maxRecDepth 100000 in
theorem lbef_any (x y : Cl) (w : World) : Calls Tryz.prog 29 #[.agg (clC x).toArray, .agg (clC y).toArray] w fun e w' => e = .returned (.bool (befB x.p y.p)) ∧ Chg [] w w' := by
  obtain ⟨W1, hW1⟩ : ∃ W1, W1 = (w.alloc (clO x)).alloc (clO y) := ⟨_, rfl⟩
  have C1 := Lib.hid (show Chg [] w W1 by rw [hW1]; exact ((Chg.refl _ _).alloc _).alloc _)
  have B1 := Lib.hid (show W1.heap[w.heap.size]? = some (clO x) by rw [hW1]; exact blk_alloc (heap_alloc_new _ _))
  have B2 := Lib.hid (show W1.heap[w.heap.size + 1]? = some (clO y) by rw [hW1]; have := heap_alloc_new (w.alloc (clO x)) (clO y); rwa [World.size_alloc] at this)
  have A := Lib.hid (fun w' => lopen_any x w')
  obtain ⟨R, hR⟩ : ∃ R, R = befB x.p y.p := ⟨_, rfl⟩
  rw [← hR]
  have HF : Hid (R = (!openB x.p && decide (x.to_ < y.from_))) := Lib.hid hR
  clear hR
  generalize openB x.p = q at *
  obtain ⟨⟨ent, id, op, aa, ac, args⟩, err, va, vc, ans, fr, to_⟩ := x
  obtain ⟨⟨ent2, id2, op2, aa2, ac2, args2⟩, err2, va2, vc2, ans2, fr2, to2⟩ := y
  simp only [clO, clC] at *
  have k1 := blk_cell B1.out
  have HW1 := Lib.hid hW1
  clear hW1
  cases q
  · by_cases hlt : to_ < fr2
    · have HE := Lib.hid (show R = true by rw [HF.out]; simp [hlt])
      go_enter Tryz.func29, Tryz.ntmps29
      go_upto_region 1 with fail
      rw [← HW1.out]
      go_wp2_with (go_at_call 26; (with_reducible refine (A.out _).mono ?_); rintro e w2 ⟨rfl, hc⟩; have C2 := Lib.hid (C1.out.thenSame hc); have k2 := blk_cell (hc.at (by simp) B1.out); have k3 := blk_cell (hc.at (by simp) B2.out); clear hc)
      go_ret
      refine ⟨?_, C2.out⟩
      first | exact retB HE.out.symm | exact retB (HD.out.trans HE.out.symm)
    · have HE := Lib.hid (show R = false by rw [HF.out]; simp [hlt])
      have HD := Lib.hid (decide_eq_false hlt)
      go_enter Tryz.func29, Tryz.ntmps29
      go_upto_region 1 with fail
      rw [← HW1.out]
      go_wp2_with (go_at_call 26; (with_reducible refine (A.out _).mono ?_); rintro e w2 ⟨rfl, hc⟩; have C2 := Lib.hid (C1.out.thenSame hc); have k2 := blk_cell (hc.at (by simp) B1.out); have k3 := blk_cell (hc.at (by simp) B2.out); clear hc)
      go_ret
      refine ⟨?_, C2.out⟩
      first | exact retB HE.out.symm | exact retB (HD.out.trans HE.out.symm)
  · have HE := Lib.hid (show R = false by rw [HF.out]; simp)
    go_enter Tryz.func29, Tryz.ntmps29
    go_upto_region 1 with fail
    rw [← HW1.out]
    go_wp2_with (go_at_call 26; (with_reducible refine (A.out _).mono ?_); rintro e w2 ⟨rfl, hc⟩; have C2 := Lib.hid (C1.out.thenSame hc); have k2 := blk_cell (hc.at (by simp) B1.out); have k3 := blk_cell (hc.at (by simp) B2.out); clear hc)
    go_ret
    refine ⟨?_, C2.out⟩
    first | exact retB HE.out.symm | exact retB (HD.out.trans HE.out.symm)
end Go.Proofs.YtnhemokmgpelaaaGreatDoor
namespace Go.Proofs.YtnhemokmgpelaaaGreatDoor
set_option linter.unusedVariables false
set_option linter.unusedSimpArgs false
open Go.RowKit
variable {a : Option Addr} {c : Nat} {l : List Cl} {w : World}
def befZ (l : List PCl) (i j : Int) : Bool := decide (0 ≤ i) && decide (0 ≤ j) && (match l[i.toNat]?, l[j.toNat]? with | some x, some y => befB x y | _, _ => false)
theorem befZ_bad {l : List PCl} {i j : Int} (h : i < 0 ∨ (l.length : Int) ≤ i ∨ j < 0 ∨ (l.length : Int) ≤ j) : befZ l i j = false := by
  unfold befZ
  by_cases h1 : 0 ≤ i
  · by_cases h2 : 0 ≤ j
    · by_cases h3 : (l.length : Int) ≤ i
      · rw [List.getElem?_eq_none (by omega)]; simp
      · have h4 : (l.length : Int) ≤ j := by omega
        rw [List.getElem?_eq_none (i := j.toNat) (by omega)]
        cases l[i.toNat]? <;> simp
    · simp [h2]
  · simp [h1]
theorem befZ_at {l : List PCl} {i j : Nat} (h1 : i < l.length) (h2 : j < l.length) : befZ l i j = befB l[i] l[j] := by
  unfold befZ
  simp [h1, h2]
set_option maxHeartbeats 4000000 in
set_option maxRecDepth 100000 in
theorem rbefore_any (h : LIn w a c l) (i j : Int) : Calls Tryz.prog 50 #[.slice a l.length c, .int .i64 i, .int .i64 j] w fun e w' => e = .returned (.bool (befZ (l.map Cl.p) i j)) ∧ Chg [] w w' := by
  have H := Lib.hid h
  clear h
  by_cases hb : i < 0 ∨ (l.length : Int) ≤ i ∨ j < 0 ∨ (l.length : Int) ≤ j
  · rw [befZ_bad (by simpa using hb)]
    have hl0 : (0 : Int) ≤ (l.length : Int) := by omega
    by_cases h1 : i < 0
    · have g1 : decide (0 ≤ i) = false := decide_eq_false (by omega)
      have g1' : ¬ 0 ≤ i := by omega
      go_enter Tryz.func50, Tryz.ntmps50
      go_wp2_with fail
      go_quiet (fail)
      go_wp2_with fail
      go_ret
      exact ⟨rfl, (Chg.refl _ _).drewN _⟩
    have h1' : 0 ≤ i := by omega
    by_cases h2 : (l.length : Int) ≤ i
    · have g2 : decide (i < (l.length : Int)) = false := decide_eq_false (by omega)
      have g1 : decide (0 ≤ i) = true := decide_eq_true (by omega)
      have g2' : ¬ i < (l.length : Int) := by omega
      clear hb
      go_enter Tryz.func50, Tryz.ntmps50
      go_wp2_with fail
      go_quiet (fail)
      go_wp2_with fail
      go_ret
      exact ⟨rfl, (Chg.refl _ _).drewN _⟩
    have h2' : i < (l.length : Int) := by omega
    by_cases h3 : j < 0
    · have g3 : decide (0 ≤ j) = false := decide_eq_false (by omega)
      have g1 : decide (0 ≤ i) = true := decide_eq_true (by omega)
      have g2 : decide (i < (l.length : Int)) = true := decide_eq_true (by omega)
      have g3' : ¬ 0 ≤ j := by omega
      clear hb
      go_enter Tryz.func50, Tryz.ntmps50
      go_wp2_with fail
      go_quiet (fail)
      go_wp2_with fail
      go_ret
      exact ⟨rfl, (Chg.refl _ _).drewN _⟩
    have h3' : 0 ≤ j := by omega
    have h4 : (l.length : Int) ≤ j := by omega
    have g4 : decide (j < (l.length : Int)) = false := decide_eq_false (by omega)
    have g1 : decide (0 ≤ i) = true := decide_eq_true (by omega)
    have g2 : decide (i < (l.length : Int)) = true := decide_eq_true (by omega)
    have g3 : decide (0 ≤ j) = true := decide_eq_true (by omega)
    have g4' : ¬ j < (l.length : Int) := by omega
    clear hb
    go_enter Tryz.func50, Tryz.ntmps50
    go_wp2_with fail
    go_quiet (fail)
    go_wp2_with fail
    go_ret
    exact ⟨rfl, (Chg.refl _ _).drewN _⟩
  · obtain ⟨m, rfl⟩ : ∃ m : Nat, i = m := ⟨i.toNat, by omega⟩
    obtain ⟨n, rfl⟩ : ∃ n : Nat, j = n := ⟨j.toNat, by omega⟩
    have hm : m < l.length := by omega
    have hn : n < l.length := by omega
    rw [befZ_at (by simpa using hm) (by simpa using hn)]
    simp only [List.getElem_map]
    obtain ⟨b, off, rfl, hb1, hc1⟩ := H.out.at8 (w' := w) m hm
    obtain ⟨b', off', e, -, hc2⟩ := H.out.at8 (w' := w) n hn
    cases e
    obtain ⟨-, -, -, -, -, -, -, x7⟩ := hc1 w (Chg.refl _ _)
    obtain ⟨-, -, -, -, -, -, y6, -⟩ := hc2 w (Chg.refl _ _)
    have m0 : (0 : Int) ≤ (m : Int) := by omega
    have n0 : (0 : Int) ≤ (n : Int) := by omega
    have m1 : (m : Int) < (l.length : Int) := by omega
    have n1 : (n : Int) < (l.length : Int) := by omega
    have g1 : decide (0 ≤ (m : Int)) = true := decide_eq_true (by omega)
    have g2 : decide ((m : Int) < (l.length : Int)) = true := decide_eq_true (by omega)
    have g3 : decide (0 ≤ (n : Int)) = true := decide_eq_true (by omega)
    have g4 : decide ((n : Int) < (l.length : Int)) = true := decide_eq_true (by omega)
    clear hb hc1 hc2
    generalize l[m] = x at *
    generalize l[n] = y at *
    obtain ⟨R, hR⟩ : ∃ R, R = befB x.p y.p := ⟨_, rfl⟩
    rw [← hR]
    have HF : Hid (R = (!(x.to_ == -1) && decide (x.to_ < y.from_))) := Lib.hid hR
    clear hR
    generalize x.to_ = t at *
    generalize y.from_ = f at *
    by_cases h1 : t = -1
    · have HE := Lib.hid (show R = false by rw [HF.out]; simp [h1])
      have q1 : (t != -1) = false := by simp [h1]
      clear h1
      go_enter Tryz.func50, Tryz.ntmps50
      go_wp2_with fail
      go_quiet (fail)
      go_wp2_with fail
      go_ret
      exact ⟨retB HE.out.symm, (Chg.refl _ _).drewN _⟩
    have q1 : (t != -1) = true := by simpa using h1
    by_cases h2 : t < f
    · have HE := Lib.hid (show R = true by rw [HF.out]; simp [h1, h2])
      have q2 : decide (t < f) = true := decide_eq_true h2
      clear h1
      go_enter Tryz.func50, Tryz.ntmps50
      go_wp2_with fail
      go_quiet (fail)
      go_wp2_with fail
      go_ret
      exact ⟨retB HE.out.symm, (Chg.refl _ _).drewN _⟩
    · have HE := Lib.hid (show R = false by rw [HF.out]; simp [h1, h2])
      have q2 : decide (t < f) = false := decide_eq_false h2
      clear h1
      go_enter Tryz.func50, Tryz.ntmps50
      go_wp2_with fail
      go_quiet (fail)
      go_wp2_with fail
      go_ret
      exact ⟨retB HE.out.symm, (Chg.refl _ _).drewN _⟩
/-! the look for an identifier -/
/-- The first of the first k calls with the identifier. -/
def idAt (l : List Cl) (id : ByteArray) (k : Nat) : Bool := l.take k |>.any (fun x => x.o.id == id)
theorem chk1_any (x : Cl) (p : Nat) (id : ByteArray) (w : World) (h : w.cell? ⟨p, 1, none⟩ = some (.string id)) (hp : p < w.heap.size) : Calls Tryz.prog 58 #[.agg (clC x).toArray, .pointer (some ⟨p, 0, none⟩)] w fun e w' => e = .returned (.bool (x.o.id == id)) ∧ Chg [] w w' := by
  obtain ⟨⟨ent, id1, op, aa, ac, args⟩, err, va, vc, ans, fr, to_⟩ := x
  simp only [clC]
  have qs : (id1 == id) = (id1.toList == id.toList) := beq_toListBytes id1 id
  have hk := World.cell?_of_block (w := w) (w' := w.alloc (.cells #[.string ent, .string id1, .string op, .slice aa args.length ac, .int .i64 err, .slice va ans.length vc, .int .i64 fr, .int .i64 to_] 40)) (a := ⟨p, 1, none⟩) (heap_alloc_old _ _ hp)
  rw [h] at hk
  go_enter Tryz.func58, Tryz.ntmps58
  go_wp2_with fail
  go_ret
  exact ⟨by rw [qs]; rfl, (Chg.refl _ _).alloc _⟩
end Go.Proofs.YtnhemokmgpelaaaGreatDoor
namespace Go.Proofs.YtnhemokmgpelaaaGreatDoor
set_option linter.unusedVariables false
set_option linter.unusedSimpArgs false
open Go.RowKit
variable {a : Option Addr} {c : Nat} {l : List Cl} {w : World}
def hasId (l : List Cl) (id : ByteArray) : Bool := l.any (fun x => x.o.id == id)
theorem hasId_step {l : List Cl} {id : ByteArray} {k : Nat} (hk : k < l.length) : hasId (l.take (k + 1)) id = (hasId (l.take k) id || (l[k].o.id == id)) := by
  unfold hasId
  rw [List.take_succ_eq_append_getElem hk, List.any_append]
  simp
theorem hasId_yes {l : List Cl} {id : ByteArray} {k : Nat} (hk : k < l.length) (h : (l[k].o.id == id) = true) : hasId l id = true := List.any_eq_true.2 ⟨_, List.getElem_mem hk, h⟩
set_option maxHeartbeats 4000000 in
set_option maxRecDepth 100000 in
theorem indexf_any (h : SlIs clC 8 w a l.length l) (hm : l.length ≤ maxLen) (p : Nat) (id : ByteArray) (hp : w.cell? ⟨p, 1, none⟩ = some (.string id)) (hpl : p < w.heap.size) :
    Calls Tryz.prog 74 #[.slice a l.length c, .func (.func 58) #[] #[.pointer (some ⟨p, 0, none⟩)]] w fun e w' => ∃ n : Int, e = .returned (.int .i64 n) ∧ (decide (0 ≤ n)) = hasId l id ∧ Chg [] w w' := by
  have H := Lib.hid h
  have HP := Lib.hid (fun w' (hc : Chg [] w w') => And.intro ((World.cell?_of_block (w := w) (hc.block p hpl (by simp))).trans hp) (hc.lt hpl))
  unfold maxLen at hm
  clear h hp hpl
  go_enter Tryz.func74, Tryz.ntmps74
  go_wp2_with fail
  go_loopw [8] (fun i wr => ∃ k : Nat, i = .int .i64 k ∧ k ≤ l.length ∧ Hid (hasId (l.take k) id = false) ∧ Hid (Chg [] w wr)) (fun i _ => l.length - (intOf i).toNat)
  case atStart => exact ⟨0, rfl, Nat.zero_le _, Lib.hid rfl, Lib.hid (Chg.refl _ _)⟩
  case round =>
    obtain ⟨k, rfl, hkl, HS, D⟩ := hrel
    by_cases hk : k < l.length
    · obtain ⟨b, off, rfl, -, hbr, hcc⟩ := H.out.elem D.out k hk
      have hst := hasId_step (id := id) hk
      rw [HS.out, Bool.false_or] at hst
      have hy := fun h => hasId_yes (id := id) hk h
      generalize l[k] = x at *
      obtain ⟨hp1, hp2⟩ := HP.out _ D.out
      have A := Lib.hid (chk1_any x p id wr hp1 hp2)
      have X := Lib.hid (at8_of hcc)
      obtain ⟨d0, d1, d2, d3, d4, d5, d6, d7⟩ := X.out
      have hk0 : (0 : Int) ≤ (k : Int) := by omega
      have hk1 : (k : Int) < (l.length : Int) := by omega
      unfold clC at A
      clear hcc hp1 hp2
      cases hq : (x.o.id == id)
      · rw [hq] at A hst
        have HST := Lib.hid hst
        clear hst hy hq
        go_wp2_with (first | (with_reducible refine Calls.mono A.out ?_); rintro e w2 ⟨rfl, hc⟩; have D2 := Lib.hid (D.out.thenSame hc); clear hc)
        exact ⟨⟨k + 1, by go_num, by omega, HST, D2⟩, by simp [intOf]; omega⟩
      · rw [hq] at A
        have HY := Lib.hid (hy hq)
        clear hst hy hq
        go_wp2_with (first | (with_reducible refine Calls.mono A.out ?_); rintro e w2 ⟨rfl, hc⟩; have D2 := Lib.hid (D.out.thenSame hc); clear hc)
        go_ret
        exact ⟨_, rfl, by rw [HY.out]; exact decide_eq_true hk0, D2.out⟩
    · have hks : k = l.length := by omega
      have HE : Hid (hasId l id = false) := Lib.hid (by have := HS.out; rwa [hks, List.take_of_length_le (Nat.le_refl _)] at this)
      clear hks
      go_wp2_with fail
      go_ret
      exact ⟨_, rfl, by rw [HE.out]; rfl, D.out⟩
theorem contf_any (h : SlIs clC 8 w a l.length l) (hm : l.length ≤ maxLen) (p : Nat) (id : ByteArray) (hp : w.cell? ⟨p, 1, none⟩ = some (.string id)) (hpl : p < w.heap.size) :
    Calls Tryz.prog 57 #[.slice a l.length c, .func (.func 58) #[] #[.pointer (some ⟨p, 0, none⟩)]] w fun e w' => e = .returned (.bool (hasId l id)) ∧ Chg [] w w' := by
  have A := Lib.hid (indexf_any (c := c) h hm p id hp hpl)
  clear h hm hp hpl
  generalize hasId l id = q at *
  go_enter Tryz.func57, Tryz.ntmps57
  go_wp2_with fail
  refine A.out.mono ?_; rintro e w2 ⟨n, rfl, hn, hc⟩
  have C := Lib.hid hc
  have HN := Lib.hid hn
  clear hc hn
  go_wp2_with fail
  go_ret
  exact ⟨retB HN.out, C.out⟩
end Go.Proofs.YtnhemokmgpelaaaGreatDoor
