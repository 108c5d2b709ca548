/- Chapter 30: the law's operations; contract: small. No condition. -/
import Derived.Test.YtmichbpfmachcaaDoorStmV
import Derived.Test.YtmichbpfmachcaaDoorOps
namespace Go.Proofs.YtmichbpfmachcaaDoor
set_option linter.unusedVariables false
set_option linter.unusedSimpArgs false
open Go.RowKit
def smallC (c : Ce) : Bool := decide (c.str.size ≤ 250)
def smallE (e : PEv) : Bool := decide (e.id.size ≤ 100) && decide (e.tn.size ≤ 100) && decide (e.src.size ≤ 100) && decide (e.key.size ≤ 100) && decide (e.cause.size ≤ 100) && decide (e.body.length ≤ 60) && e.body.all smallC
def smallOps (l : List OpS) : Bool := decide (l.length ≤ 60) && l.all (fun x => smallE x.e.p)
def OpsIn (w : World) (a : Option Addr) (l : List OpS) : Prop := SlIs opC 12 w a l.length l ∧ ∀ x ∈ l, InIs ceC 4 w x.e.ba x.e.bc x.e.p.body
theorem all_take_no {α : Type} {p : α → Bool} {l : List α} {k : Nat} (h : k < l.length) (hp : p l[k] = false) : l.all p = false := by
  rw [List.all_eq_false]
  exact ⟨l[k], List.getElem_mem h, by rw [hp]; simp⟩
theorem all_take_yes {α : Type} {p : α → Bool} {l : List α} {k : Nat} (h : k < l.length) (ha : (l.take k).all p = true) (hp : p l[k] = true) : (l.take (k + 1)).all p = true := by
  rw [List.take_succ_eq_append_getElem h, List.all_append, ha]
  simp [hp]
theorem smallE_no {x1 x2 x3 x4 x6 : ByteArray} {x5 : Int} {x7 : List Ce} (h : 100 < x1.size ∨ 100 < x2.size ∨ 100 < x3.size ∨ 100 < x4.size ∨ 100 < x6.size ∨ 60 < x7.length) : smallE ⟨x1, x2, x3, x4, x5, x6, x7⟩ = false := by
  unfold smallE
  rcases h with h | h | h | h | h | h
  all_goals simp [Nat.not_le.2 h]
theorem smallE_no2 {x1 x2 x3 x4 x6 : ByteArray} {x5 : Int} {x7 : List Ce} (h : x7.all smallC = false) : smallE ⟨x1, x2, x3, x4, x5, x6, x7⟩ = false := by
  unfold smallE
  simp only [h, Bool.and_false]
theorem smallE_yes {x1 x2 x3 x4 x6 : ByteArray} {x5 : Int} {x7 : List Ce} (h1 : x1.size ≤ 100) (h2 : x2.size ≤ 100) (h3 : x3.size ≤ 100) (h4 : x4.size ≤ 100) (h6 : x6.size ≤ 100) (h7 : x7.length ≤ 60) (h : x7.all smallC = true) : smallE ⟨x1, x2, x3, x4, x5, x6, x7⟩ = true := by
  unfold smallE
  simp only [h, decide_eq_true h1, decide_eq_true h2, decide_eq_true h3, decide_eq_true h4, decide_eq_true h6, decide_eq_true h7, Bool.and_true]
theorem opsNo {l : List OpS} {k : Nat} (hk : k < l.length) {e : PEv} (hx : smallE (l[k]'hk).e.p = smallE e) (h : smallE e = false) : smallOps l = false := by
  unfold smallOps
  have h2 : l.all (fun x => smallE x.e.p) = false := all_take_no hk (hx.trans h)
  rw [h2]
  exact Bool.and_false _
theorem opsYes {l : List OpS} {k : Nat} (hk : k < l.length) {e : PEv} (hx : smallE (l[k]'hk).e.p = smallE e) (h : smallE e = true) (ha : (l.take k).all (fun x => smallE x.e.p) = true) : (l.take (k + 1)).all (fun x => smallE x.e.p) = true := by
  rw [List.take_succ_eq_append_getElem hk, List.all_append, ha, Bool.true_and]
  simp only [List.all_cons, List.all_nil, Bool.and_true]
  exact hx.trans h
theorem smallC_no {y : Ce} (h : 250 < y.str.size) : smallC y = false := decide_eq_false (by omega)
theorem smallC_yes {y : Ce} (h : y.str.size ≤ 250) : smallC y = true := decide_eq_true h
set_option maxHeartbeats 4000000 in
set_option maxRecDepth 100000 in
theorem smallOps_any (a : Option Addr) (c : Nat) (l : List OpS) (w : World) (h : OpsIn w a l) :
    Calls Tryd.prog 9 #[.slice a l.length c] w fun e w' => e = .returned (.bool (smallOps l)) ∧ Chg [] w w' := by
  obtain ⟨R, hR⟩ : ∃ R, R = smallOps l := ⟨_, rfl⟩
  rw [← hR]
  have HR := Lib.hid hR
  have H := Lib.hid h
  clear h hR
  by_cases h60 : 60 < l.length
  · have HE : Hid (R = false) := Lib.hid (by rw [HR.out]; unfold smallOps; rw [decide_eq_false (by omega)]; rfl)
    have h60' : (60 : Int) < (l.length : Int) := by omega
    go_enter Tryd.func9, Tryd.ntmps9
    go_wp2_with fail
    go_ret
    exact ⟨by rw [HE.out]; rfl, Chg.refl _ _⟩
  have h60' : (l.length : Int) ≤ 60 := by omega
  go_enter Tryd.func9, Tryd.ntmps9
  go_wp2_with fail
  go_loopw [11] (fun i wr => ∃ k : Nat, i = .int .i64 k ∧ k ≤ l.length ∧ Hid ((l.take k).all (fun x => smallE x.e.p) = true) ∧ Hid (Chg [] w wr)) (fun i _ => l.length - (intOf i).toNat)
  case atStart => exact ⟨0, rfl, Nat.zero_le _, Lib.hid (by simp), Lib.hid (Chg.refl _ _)⟩
  case round =>
    obtain ⟨k, rfl, hkl, HS, D⟩ := hrel
    by_cases hk : k < l.length
    · have HK := Lib.hid hk
      obtain ⟨g1, o1, rfl, -, hbr1, hcc1⟩ := H.out.1.elem D.out k hk
      have i1 := (H.out.2 _ (List.getElem_mem hk)).kept D.out
      have hk0 : (0 : Int) ≤ (k : Int) := by omega
      have hk1 : (k : Int) < (l.length : Int) := by omega
      generalize hx : l[k] = x at *
      have HX0 := Lib.hid (congrArg (fun z : OpS => smallE z.e.p) hx)
      have d1 := hcc1 1 (by omega)
      have d2 := hcc1 2 (by omega)
      have d3 := hcc1 3 (by omega)
      have d4 := hcc1 4 (by omega)
      have d5 := hcc1 5 (by omega)
      have d6 := hcc1 6 (by omega)
      have d7 := hcc1 7 (by omega)
      simp only [opC, evC, List.cons_append, List.getElem?_cons_zero, List.getElem?_cons_succ, Nat.add_zero] at d1 d2 d3 d4 d5 d6 d7
      obtain ⟨kd, ⟨⟨x1, x2, x3, x4, x5, x6, x7⟩, xa, xc⟩, nw, sh, fr, ms⟩ := x
      simp only at d1 d2 d3 d4 d5 d6 d7 i1
      have HX : Hid (smallE (l[k]'HK.out).e.p = smallE ⟨x1, x2, x3, x4, x5, x6, x7⟩) := Lib.hid HX0.out
      clear HX0
      have I1 := Lib.hid i1
      obtain ⟨W1, hW1⟩ : ∃ W1, W1 = wr.alloc (.cells #[.string x1, .string x2, .string x3, .string x4, .int .i64 x5, .string x6, .slice xa x7.length xc] 25) := ⟨_, rfl⟩
      have K1 := Lib.hid (show Chg [] wr W1 by rw [hW1]; exact (Chg.refl _ _).alloc _)
      have B := Lib.hid (show W1.heap[wr.heap.size]? = some (.cells #[.string x1, .string x2, .string x3, .string x4, .int .i64 x5, .string x6, .slice xa x7.length xc] 25 (0, 0)) by rw [hW1]; exact heap_alloc_new _ _)
      have b := blk_cell B.out
      have D2 := Lib.hid (D.out.thenSame K1.out)
      have HW1 := Lib.hid hW1
      clear hW1
      clear hcc1 i1 hx
      go_upto_region 7 with fail
      rw [← HW1.out]
      clear d1 d2 d3 d4 d5 d6 d7
      by_cases q1 : 100 < (x1.size : Int)
      · have HE : Hid (R = false) := Lib.hid (HR.out.trans (opsNo HK.out HX.out (smallE_no (by omega))))
        go_wp2_with fail
        go_ret
        exact ⟨by rw [HE.out]; rfl, D2.out⟩
      by_cases q2 : 100 < (x2.size : Int)
      · have HE : Hid (R = false) := Lib.hid (HR.out.trans (opsNo HK.out HX.out (smallE_no (by omega))))
        go_wp2_with fail
        go_ret
        exact ⟨by rw [HE.out]; rfl, D2.out⟩
      by_cases q3 : 100 < (x3.size : Int)
      · have HE : Hid (R = false) := Lib.hid (HR.out.trans (opsNo HK.out HX.out (smallE_no (by omega))))
        go_wp2_with fail
        go_ret
        exact ⟨by rw [HE.out]; rfl, D2.out⟩
      by_cases q4 : 100 < (x4.size : Int)
      · have HE : Hid (R = false) := Lib.hid (HR.out.trans (opsNo HK.out HX.out (smallE_no (by omega))))
        go_wp2_with fail
        go_ret
        exact ⟨by rw [HE.out]; rfl, D2.out⟩
      by_cases q5 : 100 < (x6.size : Int)
      · have HE : Hid (R = false) := Lib.hid (HR.out.trans (opsNo HK.out HX.out (smallE_no (by omega))))
        go_wp2_with fail
        go_ret
        exact ⟨by rw [HE.out]; rfl, D2.out⟩
      by_cases q6 : 60 < (x7.length : Int)
      · have HE : Hid (R = false) := Lib.hid (HR.out.trans (opsNo HK.out HX.out (smallE_no (by omega))))
        go_wp2_with fail
        go_ret
        exact ⟨by rw [HE.out]; rfl, D2.out⟩
      have HI2 := Lib.hid (fun (w' : World) (hc : Chg [] wr w') => I1.out.kept hc)
      go_wp2_with fail
      go_loop [56] (fun j => ∃ p : Nat, j = .int .i64 p ∧ p ≤ x7.length ∧ Hid ((x7.take p).all smallC = true)) (fun j => x7.length - (intOf j).toNat)
      case atStart => exact ⟨0, rfl, Nat.zero_le _, Lib.hid (by simp)⟩
      case round =>
        obtain ⟨p, rfl, hp, HA⟩ := hrel
        have p0 : (0 : Int) ≤ (p : Int) := by omega
        by_cases hpl : p < x7.length
        · obtain ⟨g2, o2, rfl, -, hbr2, hcc2⟩ := I1.out.1.elem K1.out p hpl
          have c2 := hcc2 2 (by omega)
          have HP := Lib.hid hpl
          have p1 : (p : Int) < (x7.length : Int) := by omega
          generalize hy : x7[p] = y at *
          have HY : Hid (smallC (x7[p]'HP.out) = smallC y) := Lib.hid (congrArg smallC hy)
          simp only [ceC, List.getElem?_cons_zero, List.getElem?_cons_succ] at c2
          clear hcc2 hy
          by_cases q7 : 250 < (y.str.size : Int)
          · have HE : Hid (R = false) := Lib.hid (by
              have h1 : x7.all smallC = false := all_take_no HP.out (HY.out.trans (smallC_no (by omega)))
              exact HR.out.trans (opsNo HK.out HX.out (smallE_no2 h1)))
            go_wp2_with fail
            go_ret
            exact ⟨by rw [HE.out]; rfl, D2.out⟩
          · have HB := Lib.hid (all_take_yes HP.out HA.out (HY.out.trans (smallC_yes (by omega))))
            go_wp2_with fail
            exact ⟨⟨p + 1, by go_num, by omega, HB⟩, by simp [intOf]; omega⟩
        · have hps : p = x7.length := by omega
          have h1 : x7.all smallC = true := by have := HA.out; rwa [hps, List.take_of_length_le (Nat.le_refl _)] at this
          have HB := Lib.hid (opsYes HK.out HX.out (smallE_yes (by omega) (by omega) (by omega) (by omega) (by omega) (by omega) h1) HS.out)
          clear h1
          have HPS := Lib.hid hps
          have hpn : ¬ ((p : Int) < (x7.length : Int)) := by omega
          clear hps hpl
          go_wp2_with fail
          exact ⟨⟨k + 1, by go_num, by omega, HB, D2⟩, by simp [intOf]; omega⟩
    · have hks : k = l.length := by omega
      subst hks
      have HE : Hid (R = true) := Lib.hid (by
        rw [HR.out]
        unfold smallOps
        rw [decide_eq_true (by omega)]
        have := HS.out
        rw [List.take_of_length_le (Nat.le_refl _)] at this
        rw [this]; rfl)
      go_wp2_with fail
      go_ret
      exact ⟨by rw [HE.out]; rfl, D.out⟩
end Go.Proofs.YtmichbpfmachcaaDoor
