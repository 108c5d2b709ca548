/- Chapter 9: the reference's Check of layer 8, given its measure. Condition: measure does as it should. -/
import Derived.Test.YtolidiafomceiaaGreatDoorMSttS
import Derived.Test.YtolidiafomceiaaGreatDoorSttA
namespace Go.Proofs.YtolidiafomceiaaGreatDoor
set_option linter.unusedVariables false
set_option linter.unusedSimpArgs false
open Go.RowKit
/-- What measure returns. -/
def MeasPost (w : World) (R : Option (List Int × List Int)) (e : Ending) (w' : World) : Prop := ∃ (sa : Option Addr) (sn sc : Nat) (ha : Option Addr) (hn hc : Nat) (ok : Bool), e = .returned (.tuple #[.slice sa sn sc, .slice ha hn hc, .bool ok]) ∧ Chg [] w w' ∧
  (R = none → ok = false) ∧ ∀ sz ht, R = some (sz, ht) → ok = true ∧ hn = ht.length ∧ InIs icI 1 w' ha hc ht
theorem meas_bodies {x : Pr} {sz ht : List Int} (h : measR x.p = some (sz, ht)) : ht.length = x.nodes.length ∧ ∀ j (hj : j < x.funcs.length), ∃ m : Nat, (x.funcs[j]).body = (m : Int) ∧ m < x.nodes.length := by
  have ho := (measR_ord x.p).2 ⟨sz, ht, h⟩
  refine ⟨by have := (measR_top h).len; rw [this]; exact List.length_map _, fun j hj => ?_⟩
  obtain ⟨m, h1, h2, -⟩ := bodies_ok ho j hj
  exact ⟨m, h1, h2⟩
set_option maxHeartbeats 16000000 in
set_option maxRecDepth 100000 in
theorem rcheck8_of (x : Pr) (w : World) (h : PrIn w x) (MS : x.nodes.length ≤ 600 → x.funcs.length ≤ 16 → ∀ w', Chg [] w w' → Calls Tryz.prog 46 #[.agg (prC x).toArray] w' (MeasPost w' (measR x.p))) : Calls Tryz.prog 29 #[.agg (prC x).toArray] w fun e w' => e = .returned (.int .i64 (rvalidZ x.p)) ∧ Chg [] w w' := by
  obtain ⟨R, hR⟩ : ∃ R, R = rvalidZ x.p := ⟨_, rfl⟩
  rw [← hR]
  unfold rvalidZ at hR
  rw [show x.p.nodes.length = x.nodes.length from List.length_map _, show x.p.funcs.length = x.funcs.length from List.length_map _] at hR
  have HF := Lib.hid (fun w' (hc : Chg [] w w') => (h.kept hc).2.1.1)
  have MB := Lib.hid (fun sz ht (e : measR x.p = some (sz, ht)) => meas_bodies e)
  have hany : ∀ ht : List Int, x.p.funcs.any (fun f => decide (8 < f.params.length) || decide (32 < szAt ht f.body)) = x.funcs.any (fun f => decide (8 < f.params.length) || decide (32 < szAt ht f.body)) := fun ht => by
    show (x.funcs.map Fn'.p).any _ = _
    rw [List.any_map]
    rfl
  obtain ⟨W1, hW1⟩ : ∃ W1, W1 = w.alloc (prO x) := ⟨_, rfl⟩
  have C1 := Lib.hid (show Chg [] w W1 by rw [hW1]; exact (Chg.refl _ _).alloc _)
  have B1 := Lib.hid (show W1.heap[w.heap.size]? = some (prO x) by rw [hW1]; exact heap_alloc_new _ _)
  unfold prO at hW1 B1
  have k1 := blk_cell B1.out
  simp only [prC] at MS ⊢
  clear h
  by_cases h1 : 600 < x.nodes.length
  · have HE := Lib.hid (show R = 3 by rw [hR, if_pos (.inl h1)])
    have h1' : (x.nodes.length : Int) > 600 := by omega
    clear hR h1 MS hany
    go_enter Tryz.func29, Tryz.ntmps29
    go_upto_region 1 with fail
    rw [← hW1]
    clear hW1
    go_wp2_with fail
    go_ret
    exact ⟨retI HE.out.symm, C1.out⟩
  have h1' : ¬ (x.nodes.length : Int) > 600 := by omega
  by_cases h2 : 16 < x.funcs.length
  · have HE := Lib.hid (show R = 3 by rw [hR, if_pos (.inr h2)])
    have h2' : (x.funcs.length : Int) > 16 := by omega
    clear hR h1 h2 MS hany
    go_enter Tryz.func29, Tryz.ntmps29
    go_upto_region 1 with fail
    rw [← hW1]
    clear hW1
    go_wp2_with fail
    go_ret
    exact ⟨retI HE.out.symm, C1.out⟩
  have h2' : ¬ (x.funcs.length : Int) > 16 := by omega
  have MS2 := Lib.hid (MS (by omega) (by omega))
  rw [if_neg (by omega)] at hR
  have hfl : x.funcs.length ≤ 16 := by omega
  clear MS h1 h2
  cases hm : measR x.p with
  | none =>
    rw [hm] at hR MS2
    have HE := Lib.hid (show R = 1 from hR)
    clear hR hany hm
    go_enter Tryz.func29, Tryz.ntmps29
    go_upto_region 1 with fail
    rw [← hW1]
    clear hW1
    go_wp2_with (go_at_call 46; (with_reducible refine Calls.mono (MS2.out _ C1.out) ?_); rintro e w2 ⟨sa, sn, sc, ha, hn, hc, ok, rfl, hch, hno, -⟩; have C2 := Lib.hid (C1.out.thenSame hch); obtain rfl := hno rfl; clear hno hch k1)
    go_ret
    exact ⟨retI HE.out.symm, C2.out⟩
  | some q =>
    obtain ⟨sz, ht⟩ := q
    obtain ⟨hhl, hbd⟩ := MB.out sz ht hm
    rw [hm] at hR MS2
    simp only at hR
    rw [hany ht] at hR
    have HR := Lib.hid hR
    have HB := Lib.hid hbd
    have HHL := Lib.hid hhl
    clear hR hany hm hhl hbd MB
    go_enter Tryz.func29, Tryz.ntmps29
    go_upto_region 1 with fail
    rw [← hW1]
    clear hW1
    go_wp2_with (go_at_call 46; (with_reducible refine Calls.mono (MS2.out _ C1.out) ?_); rintro e w2 ⟨sa, sn, sc, ha, hn, hc, ok, rfl, hch, -, hyes⟩; have C2 := Lib.hid (C1.out.thenSame hch); have B2 := Lib.hid (hch.at (by simp) B1.out); obtain ⟨rfl, rfl, hin⟩ := hyes sz ht rfl; have HH := Lib.hid hin; clear hin hyes hch k1)
    go_loopw [6] (fun u wi => ∃ j : Nat, u = .int .i64 j ∧ j ≤ x.funcs.length ∧ Hid (x.funcs.any (fun f => decide (8 < f.params.length) || decide (32 < szAt ht f.body)) = (x.funcs.drop j).any (fun f => decide (8 < f.params.length) || decide (32 < szAt ht f.body))) ∧ wi = w2) (fun u _ => x.funcs.length - (intOf u).toNat)
    case atStart => exact ⟨0, rfl, Nat.zero_le _, Lib.hid rfl, rfl⟩
    case round =>
      obtain ⟨j, rfl, hj, HS, rfl⟩ := hrel
      have hj0 : (0 : Int) ≤ (j : Int) := by omega
      by_cases hjl : j < x.funcs.length
      · have hjl' : (j : Int) < (x.funcs.length : Int) := by omega
        obtain ⟨b2, o2, e2, -, -, hc2⟩ := (HF.out _ C2.out).elem (Chg.refl [] _) j hjl
        have u1 := hc2 1 (by omega)
        have u2 := hc2 2 (by omega)
        simp only [fnC, List.getElem?_cons_zero, List.getElem?_cons_succ, Nat.add_zero] at u1 u2
        obtain ⟨m, hm1, hm2⟩ := HB.out j hjl
        rw [hm1] at u2
        have hmh : m < ht.length := by have := HHL.out; omega
        obtain ⟨b4, o4, e4, -, -, hc4⟩ := HH.out.1.elem (Chg.refl [] _) m hmh
        have u4 := hc4 0 (by omega)
        simp only [icI, List.getElem?_cons_zero, Nat.add_zero, Nat.mul_one] at u4
        have hsz : szAt ht (x.funcs[j]).body = ht[m] := by unfold szAt; rw [hm1, Int.toNat_natCast, List.getElem?_eq_getElem hmh]; rfl
        have HS2 := HS.out
        rw [List.drop_eq_getElem_cons hjl, List.any_cons, hsz] at HS2
        have qj : IntKind.i64.wrap ((j : Int) + 1) = (j : Int) + 1 := IntWalk.i64_in _ (by omega)
        have k5 := blk_cell (by have := B2.out; rw [e2] at this; exact this)
        have hm' : (m : Int) < (ht.length : Int) := by omega
        have hm0 : (0 : Int) ≤ (m : Int) := by omega
        generalize ht[m] = v at *
        generalize x.funcs[j] = f at *
        clear hc2 hc4 hm1 hsz
        rw [e2, e4]
        by_cases h8 : 8 < f.params.length
        · have h8' : (f.params.length : Int) > 8 := by omega
          have HE := Lib.hid (show R = 3 by rw [HR.out, HS2, decide_eq_true h8]; rfl)
          clear HS2 h8
          go_wp2_with fail
          go_ret
          exact ⟨retI HE.out.symm, C2.out⟩
        · have h8' : ¬ (f.params.length : Int) > 8 := by omega
          by_cases hv : 32 < v
          · have hv' : v > 32 := hv
            have HE := Lib.hid (show R = 3 by rw [HR.out, HS2, decide_eq_true hv, Bool.or_true]; rfl)
            clear HS2 h8
            go_wp2_with fail
            go_ret
            exact ⟨retI HE.out.symm, C2.out⟩
          · have hv' : ¬ v > 32 := hv
            have HS3 := Lib.hid (by have := HS2; rw [decide_eq_false h8, decide_eq_false hv, Bool.or_self, Bool.false_or] at this; exact this)
            clear HS2 h8
            go_wp2_with fail
            exact ⟨⟨j + 1, rfl, by omega, HS3, by trivial⟩, by simp [intOf]; omega⟩
      · have hje : j = x.funcs.length := by omega
        have HS2 := HS.out
        rw [hje, List.drop_length, List.any_nil] at HS2
        have HE := Lib.hid (show R = 0 by rw [HR.out, HS2]; rfl)
        have hjl' : ¬ (j : Int) < (x.funcs.length : Int) := by omega
        have k5 := blk_cell B2.out
        clear HS2 hje
        go_wp2_with fail
        go_ret
        exact ⟨retI HE.out.symm, C2.out⟩
end Go.Proofs.YtolidiafomceiaaGreatDoor
