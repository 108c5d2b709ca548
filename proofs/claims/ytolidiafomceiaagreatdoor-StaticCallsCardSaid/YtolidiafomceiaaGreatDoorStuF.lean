/- Chapter 9: the reference's measure: the walk (under way). Condition: the form's own bound on texts; at most 600 nodes and 16 functions. -/
import Derived.Test.YtolidiafomceiaaGreatDoorStuE
import Derived.Test.YtolidiafomceiaaGreatDoorSttU
import Derived.Test.YtolidiafomceiaaGreatDoorSttW
import Derived.Test.YtolidiafomceiaaGreatDoorAppL
namespace Go.Proofs.YtolidiafomceiaaGreatDoor
set_option linter.unusedVariables false
set_option linter.unusedSimpArgs false
open Go.RowKit
/-- The two rows side by side. -/
structure TwoR (w : World) (B : Nat) (sa ha : Option Addr) (sc hc : Nat) (sz ht : List Int) : Prop where
  s : RowOf icI 1 w B 3 (.slice sa sz.length sc) sz
  h : RowOf icI 1 w B 3 (.slice ha ht.length hc) ht
  ne : ∀ g, (Value.slice sa sz.length sc).ownBlock = some g → (Value.slice ha ht.length hc).ownBlock ≠ some g
theorem TwoR.kept {w w' : World} {B : Nat} {sa ha : Option Addr} {sc hc : Nat} {sz ht : List Int} (h : TwoR w B sa ha sc hc sz ht) (c : Chg [] w w') : TwoR w' B sa ha sc hc sz ht := ⟨h.s.kept c (by simp), h.h.kept c (by simp), h.ne⟩
def measEnd (n : Int) : Option (List Int × List Int × Int) → Option (List Int × List Int)
  | none => none
  | some (sz, ht, low) => if low = n then some (sz, ht) else none
theorem meas_ret {w w' : World} {M : Option (List Int × List Int × Int)} {sz ht : List Int} {low n : Int} {B : Nat} {sa ha : Option Addr} {sc hc : Nat} (h : M = some (sz, ht, low)) (hT : TwoR w' B sa ha sc hc sz ht) (hch : Chg [] w w') : MeasPost w (measEnd n M) (.returned (.tuple #[.slice sa sz.length sc, .slice ha ht.length hc, .bool (low == n)])) w' := by
  subst h
  refine ⟨sa, sz.length, sc, ha, ht.length, hc, low == n, rfl, hch, fun e => ?_, fun s t e => ?_⟩
  · have e2 : (if low = n then some (sz, ht) else none) = none := e
    clear e
    split at e2
    · cases e2
    · rename_i hne
      exact beq_eq_false_iff_ne.2 hne
  · have e : (if low = n then some (sz, ht) else none) = some (s, t) := e
    split at e
    · rename_i hl
      injection e with e
      injection e with e1 e2
      subst e2
      exact ⟨by rw [hl]; exact beq_self_eq_true n, rfl, (InIs.ofRow hT.h icI_len1).2⟩
    · cases e
theorem meas_none {w w' : World} {M : Option (List Int × List Int × Int)} {n : Int} (h : M = none) (hch : Chg [] w w') : MeasPost w (measEnd n M) (.returned (.tuple #[.slice none 0 0, .slice none 0 0, .bool false])) w' := by
  subst h
  exact ⟨none, 0, 0, none, 0, 0, false, rfl, hch, fun _ => rfl, fun s t e => by cases e⟩
theorem measR_end (x : Pr) : measR x.p = measEnd (x.nodes.length : Int) (funcsM x.p.nodes (x.funcs.map Fn'.p) 0 [] []) := by
  unfold measR
  rw [show x.p.funcs = x.funcs.map Fn'.p from rfl, show x.p.nodes.length = x.nodes.length from List.length_map _]
  cases funcsM x.p.nodes (x.funcs.map Fn'.p) 0 [] [] with
  | none => rfl
  | some q => rfl
def HB (ht : List Int) : Prop := ∀ j : Nat, j < ht.length → 0 ≤ szAt ht j ∧ szAt ht j ≤ (j : Int) + 1
theorem HB.app {ht : List Int} {t : Int} (h : HB ht) (h0 : 0 ≤ t) (h1 : t ≤ (ht.length : Int)) : HB (ht ++ [t + 1]) := by
  intro j hj
  by_cases hjl : j < ht.length
  · rw [szAt_app hjl]
    exact h j hjl
  · have e : j = ht.length := by simp at hj; omega
    subst e
    rw [szAt_new rfl]
    omega
def contM (l : List PNd) (r : List PFn) (low b : Int) : Option (List Int × List Int) → Option (List Int × List Int × Int)
  | none => none
  | some (sz', ht') => if szAt sz' b = b - low + 1 then funcsM l r (b + 1) sz' ht' else none
theorem szAt_get {l : List Int} {j : Nat} (h : j < l.length) : szAt l j = l[j] := by
  unfold szAt
  rw [Int.toNat_natCast, List.getElem?_eq_getElem h]
  rfl
theorem MI.cur2 {l : List PNd} {low i : Nat} {sz : List Int} (h : MI l low i sz) {j : Nat} (h1 : low ≤ j) (h2 : j < i) : 1 ≤ szAt sz j ∧ (low : Int) - 1 ≤ (j : Int) - szAt sz j := by
  obtain ⟨c1, c2⟩ := h.cur j h1 h2
  have := firstF_le (l := l) l.length j
  omega
theorem kids_idx {l : List PNd} {x : PNd} {low i : Nat} {sz ht : List Int} (h : MI l low i sz) : ∀ {k : Nat} {a t b u : Int}, a < (i : Int) → kidsGo x low sz ht k a t = some (b, u) → ∀ j, j < k → ∃ m : Nat, x.kids[j]? = some (m : Int) ∧ m < i := by
  intro k
  induction k with
  | zero => intro a t b u _ _ j hj; omega
  | succ k ih =>
    intro a t b u ha hk j hj
    rw [kidsGo] at hk
    split at hk
    · rename_i hc
      obtain ⟨m, rfl⟩ : ∃ m : Nat, a = (m : Int) := ⟨a.toNat, by omega⟩
      by_cases hjk : j = k
      · subst hjk
        exact ⟨m, hc.1, by omega⟩
      · have := h.cur2 (j := m) (by omega) (by omega)
        exact ih (by omega) hk j (by omega)
    · cases hk
theorem rangeM_stop {l : List PNd} {low : Int} {n i : Nat} {sz ht : List Int} {x : PNd} (hx : l[i]? = some x) (h : nodeM l low i x sz ht = none) : rangeM l low (n + 1) i sz ht = none := by rw [rangeM, hx]; simp only; rw [h]
theorem rangeM_go {l : List PNd} {low : Int} {n i : Nat} {sz ht s t : List Int} {x : PNd} (hx : l[i]? = some x) (h : nodeM l low i x sz ht = some (s, t)) : rangeM l low (n + 1) i sz ht = rangeM l low n (i + 1) s t := by rw [rangeM, hx]; simp only; rw [h]
theorem nodeM_stop {l : List PNd} {low : Int} {i : Nat} {sz ht : List Int} {x : PNd} (h : kidsGo x low sz ht x.kids.length ((i : Int) - 1) 0 = none) : nodeM l low i x sz ht = none := by unfold nodeM; rw [h]
theorem nodeM_go {l : List PNd} {low : Int} {i : Nat} {sz ht : List Int} {x : PNd} {a t : Int} (h : kidsGo x low sz ht x.kids.length ((i : Int) - 1) 0 = some (a, t)) : nodeM l low i x sz ht = if (fieldsR x && partsB l x) = true then some (sz ++ [(i : Int) - a], ht ++ [t + 1]) else none := by unfold nodeM; rw [h]
theorem TwoR.grow1 {w w' : World} {B : Nat} {sa ha : Option Addr} {sc hc : Nat} {sz ht : List Int} (h : TwoR w B sa ha sc hc sz ht) {g cap : Nat} {v : Int} (hr : RowOf icI 1 w' B 3 (.slice (some ⟨g, 0, none⟩) (sz.length + 1) cap) (sz ++ [v])) (hg : w.grownBy w' (Value.slice sa sz.length sc).ownBlock) (ho : (Value.slice sa sz.length sc).ownBlock = some g ∨ g = w.heap.size) : TwoR w' B (some ⟨g, 0, none⟩) ha cap hc (sz ++ [v]) ht := by
  refine ⟨by rw [List.length_append, List.length_singleton]; exact hr, h.h.kept (Chg.ofRow hg) (fun q hq hm => ?_), fun q hq e => ?_⟩
  · have hm2 : (Value.slice sa sz.length sc).ownBlock = some q := by simpa using hm
    exact h.ne q hm2 hq
  · have e1 : g = q := by simpa [Value.ownBlock] using hq
    subst e1
    rcases ho with ho | ho
    · exact h.ne g ho e
    · have := (h.h.block g e).2
      omega
theorem TwoR.grow2 {w w' : World} {B : Nat} {sa ha : Option Addr} {sc hc : Nat} {sz ht : List Int} (h : TwoR w B sa ha sc hc sz ht) {g cap : Nat} {v : Int} (hr : RowOf icI 1 w' B 3 (.slice (some ⟨g, 0, none⟩) (ht.length + 1) cap) (ht ++ [v])) (hg : w.grownBy w' (Value.slice ha ht.length hc).ownBlock) (ho : (Value.slice ha ht.length hc).ownBlock = some g ∨ g = w.heap.size) : TwoR w' B sa (some ⟨g, 0, none⟩) sc cap sz (ht ++ [v]) := by
  refine ⟨h.s.kept (Chg.ofRow hg) (fun q hq hm => ?_), by rw [List.length_append, List.length_singleton]; exact hr, fun q hq e => ?_⟩
  · have hm2 : (Value.slice ha ht.length hc).ownBlock = some q := by simpa using hm
    exact h.ne q hq hm2
  · have e1 : g = q := by simpa [Value.ownBlock] using e
    subst e1
    rcases ho with ho | ho
    · exact h.ne g hq ho
    · have := (h.s.block g hq).2
      omega
set_option maxHeartbeats 16000000 in
set_option maxRecDepth 100000 in
theorem rmeasure_any (x : Pr) (w : World) (hp : PrIn w x) (hz : szPr x) (hN : x.nodes.length ≤ 600) (hF : x.funcs.length ≤ 16) : Calls Tryz.prog 46 #[.agg (prC x).toArray] w (MeasPost w (measR x.p)) := by
  obtain ⟨M, hM⟩ : ∃ M, M = funcsM x.p.nodes (x.funcs.map Fn'.p) 0 [] [] := ⟨_, rfl⟩
  rw [measR_end x, ← hM]
  have HM := Lib.hid hM
  obtain ⟨W1, hW1⟩ : ∃ W1, W1 = w.alloc (prO x) := ⟨_, rfl⟩
  have C1 := Lib.hid (show Chg [] w W1 by rw [hW1]; exact (Chg.refl _ _).alloc _)
  have B1 := Lib.hid (show W1.heap[w.heap.size]? = some (prO x) by rw [hW1]; exact heap_alloc_new _ _)
  unfold prO at hW1 B1
  have HP := Lib.hid hp
  have HZ := Lib.hid hz
  obtain ⟨W2, hW2⟩ : ∃ W2, W2 = W1.alloc (.cells #[] 3) := ⟨_, rfl⟩
  obtain ⟨W3, hW3⟩ : ∃ W3, W3 = W2.alloc (.cells #[] 3) := ⟨_, rfl⟩
  have C3 := Lib.hid (show Chg [] w W3 by rw [hW3, hW2]; exact (C1.out.alloc _).alloc _)
  have B3 := Lib.hid (show W3.heap[w.heap.size]? = some _ by rw [hW3, hW2]; exact blk_alloc (blk_alloc B1.out))
  have z2 : W2.heap.size = W1.heap.size + 1 := by rw [hW2]; exact Array.size_push _
  have TR := Lib.hid (show TwoR W3 W1.heap.size (some ⟨W1.heap.size, 0, none⟩) (some ⟨W2.heap.size, 0, none⟩) 0 0 [] [] from by
    have h1 : W2.heap[W1.heap.size]? = some (.cells #[] 3 (0, 0)) := by rw [hW2]; exact heap_alloc_new _ _
    refine ⟨RowOf.empty (Nat.le_refl _) (show W3.heap[W1.heap.size]? = some (.cells #[] 3 (0, 0)) by rw [hW3]; exact blk_alloc h1) rfl, RowOf.empty (by omega) (show W3.heap[W2.heap.size]? = some (.cells #[] 3 (0, 0)) by rw [hW3]; exact heap_alloc_new _ _) rfl, ?_⟩
    intro g hg e
    simp [Value.ownBlock] at hg e
    omega)
  have hz1 : w.heap.size < W1.heap.size := lt_of_heap B1.out
  have HZ1 := Lib.hid hz1
  simp only [prC]
  clear hp hz hM z2 hz1
  go_enter Tryz.func46, Tryz.ntmps46
  go_upto_region 1 with fail
  rw [← hW1]
  clear hW1
  go_upto_region 2 with fail
  rw [← hW2]
  clear hW2
  go_upto_region 3 with fail
  rw [← hW3]
  clear hW3
  generalize W1.heap.size = B at *
  go_wp2_with fail
  go_loopw [5, 6, 7, 8] (fun u5 u6 u7 u8 wi => ∃ (f low : Nat) (sa ha : Option Addr) (sc hc : Nat) (sz ht : List Int), u5 = .slice sa sz.length sc ∧ u6 = .slice ha ht.length hc ∧ u7 = .int .i64 low ∧ u8 = .int .i64 f ∧ f ≤ x.funcs.length ∧ low ≤ x.nodes.length ∧ sz.length = low ∧ ht.length = low ∧ Hid (HB ht) ∧ Hid (M = funcsM x.p.nodes ((x.funcs.drop f).map Fn'.p) (low : Int) sz ht) ∧ Hid (TwoR wi B sa ha sc hc sz ht) ∧ Hid (Chg [] w wi) ∧ Hid (B ≤ wi.heap.size) ∧ Hid (wi.heap[w.heap.size]? = some (.cells #[.slice x.na x.nodes.length x.nc, .slice x.fa x.funcs.length x.fc] 25 (0, 0)))) (fun _ _ _ v _ => x.funcs.length - (intOf v).toNat)
  case atStart => exact ⟨0, 0, _, _, 0, 0, [], [], rfl, rfl, rfl, rfl, Nat.zero_le _, Nat.zero_le _, rfl, rfl, Lib.hid (fun j hj => absurd hj (Nat.not_lt_zero _)), Lib.hid HM.out, TR, C3, Lib.hid (Nat.le_of_lt (TR.out.s.block B rfl).2), B3⟩
  case round =>
    obtain ⟨f, low, sa, ha, sc, hc, sz, ht, rfl, rfl, rfl, rfl, hf, hlo, hsl, hhl, HBq, HQ, T, C, ZB, Bx⟩ := hrel
    have hf0 : (0 : Int) ≤ (f : Int) := by omega
    have HSL := Lib.hid hsl
    have HHL := Lib.hid hhl
    clear hsl hhl
    by_cases hfl : f < x.funcs.length
    · have hfl' : (f : Int) < (x.funcs.length : Int) := by omega
      obtain ⟨b2, o2, e2, -, hb2, hc2⟩ := ((HP.out.kept C.out).2.1.1).elem (Chg.refl [] _) f hfl
      have HPF := Lib.hid (fun w' (hc : Chg [] w w') => show InIs skC 1 w' (x.funcs[f]).pa (x.funcs[f]).pc (x.funcs[f]).params from (HP.out.kept hc).2.2 _ (List.getElem_mem hfl))
      have u0 := hc2 0 (by omega)
      have u1 := hc2 1 (by omega)
      have u2 := hc2 2 (by omega)
      simp only [fnC, List.getElem?_cons_zero, List.getElem?_cons_succ, Nat.add_zero] at u0 u1 u2
      have HQ2 := HQ.out
      rw [List.drop_eq_getElem_cons hfl, List.map_cons, funcsM] at HQ2
      have k5 := blk_cell (by have := Bx.out; rw [e2] at this; exact this)
      generalize x.funcs[f] = fn at *
      rw [show fn.p.body = fn.body from rfl, show fn.p.name = fn.name from rfl, show fn.p.params = fn.params from rfl, show x.p.nodes.length = x.nodes.length from List.length_map _] at HQ2
      have RN := Lib.hid (fun w' => rname_any fn.name w')
      have HU := Lib.hid (fun w' (hc : Chg [] wr w') => show w'.cell? ⟨b2, o2 + f * 3 + 1, none⟩ = some (.slice fn.pa fn.params.length fn.pc) from (World.cell?_of_block (w := wr) (hc.block b2 hb2 (by simp))).trans u1)
      clear hc2
      rw [e2]
      by_cases c1 : fn.body < (low : Int)
      · rw [if_pos c1] at HQ2
        have HE := Lib.hid HQ2
        clear HQ2
        go_wp2_with fail
        go_ret3
        exact Eq.mp (by kernel_rfl) (meas_none (n := (x.nodes.length : Int)) HE.out C.out)
      rw [if_neg c1] at HQ2
      by_cases c2 : (x.nodes.length : Int) ≤ fn.body
      · rw [if_pos c2] at HQ2
        have HE := Lib.hid HQ2
        clear HQ2
        go_wp2_with fail
        go_ret3
        exact Eq.mp (by kernel_rfl) (meas_none (n := (x.nodes.length : Int)) HE.out C.out)
      rw [if_neg c2] at HQ2
      obtain ⟨b, hb⟩ : ∃ b : Nat, fn.body = (b : Int) := ⟨fn.body.toNat, by omega⟩
      have hbl : b < x.nodes.length := by omega
      have hb0 : (0 : Int) ≤ (b : Int) := by omega
      have hbl' : (b : Int) < (x.nodes.length : Int) := by omega
      have hlb : ¬ (b : Int) < (low : Int) := by omega
      have hlb2 : ¬ (x.nodes.length : Int) ≤ (b : Int) := by omega
      rw [hb] at u2 HQ2
      obtain ⟨b3, o3, e3, -, -, hc3⟩ := ((HP.out.kept C.out).1.1.1).elem (Chg.refl [] _) b hbl
      have y0 := hc3 0 (by omega)
      simp only [ndC, List.getElem?_cons_zero, Nat.add_zero] at y0
      have hka : kindAt x.p.nodes b = (x.nodes[b]).kind := by
        show kindAt (x.nodes.map Nd.p) b = _
        unfold kindAt
        rw [List.getElem?_map, List.getElem?_eq_getElem hbl]
        rfl
      rw [Int.toNat_natCast, hka] at HQ2
      have k6 := blk_cell (by have := Bx.out; rw [e2, e3] at this; exact this)
      generalize hnk : (x.nodes[b]).kind = nk at *
      clear hc3 hka hnk c1 c2 k5
      rw [e3]
      cases c3 : (nk != 19)
      case true =>
        rw [c3, if_pos rfl] at HQ2
        have HE := Lib.hid HQ2
        clear HQ2
        go_wp2_with fail
        go_ret3
        exact Eq.mp (by kernel_rfl) (meas_none (n := (x.nodes.length : Int)) HE.out C.out)
      rw [c3, if_neg (by simp)] at HQ2
      cases c4 : sNameB fn.name
      · rw [c4, if_pos rfl] at HQ2
        have HE := Lib.hid HQ2
        have RN2' := RN.out
        rw [c4] at RN2'
        have RN2 := Lib.hid RN2'
        clear RN2'
        clear HQ2 c4 RN
        go_wp2_with (go_at_call 65; (with_reducible refine Calls.mono (RN2.out _) ?_); rintro e w2 ⟨rfl, hc⟩; have C2 := Lib.hid (C.out.thenSame hc); clear hc k6)
        go_ret3
        exact Eq.mp (by kernel_rfl) (meas_none (n := (x.nodes.length : Int)) HE.out C2.out)
      rw [c4, if_neg (by simp)] at HQ2
      have RN2' := RN.out
      rw [c4] at RN2'
      have RN2 := Lib.hid RN2'
      clear RN2'
      have HQ3 := Lib.hid HQ2
      have hpl : (fn.params.length : Int) ≤ 9223372036854775807 := by have h0 := HPF.out _ C.out; have h1 := h0.2.1; have h2 := h0.2.2.1; unfold maxLen at h2; omega
      clear HQ2 c4 RN
      go_wp2_with (go_at_call 65; (with_reducible refine Calls.mono (RN2.out _) ?_); rintro e w2 ⟨rfl, hc⟩; have C2 := Lib.hid (C.out.thenSame hc); have D2 := Lib.hid hc; have T2 := Lib.hid (T.out.kept hc); have Bx2 := Lib.hid (hc.at (by simp) Bx.out); clear hc k6)
      go_loopw [10] (fun u wi => ∃ i : Nat, u = .int .i64 i ∧ i ≤ fn.params.length ∧ Hid (fn.params.any (fun s => !sNameB s) = (fn.params.drop i).any (fun s => !sNameB s)) ∧ Hid (Chg [] wr wi)) (fun u _ => fn.params.length - (intOf u).toNat)
      case atStart => exact ⟨0, rfl, Nat.zero_le _, Lib.hid rfl, D2⟩
      case round =>
        obtain ⟨i, rfl, hi, HS, D5⟩ := hrel
        have hi0 : (0 : Int) ≤ (i : Int) := by omega
        have C5 := Lib.hid (C.out.thenSame D5.out)
        have Bx5 := Lib.hid (D5.out.at (by simp) Bx.out)
        have k7 := blk_cell (by have := Bx5.out; rw [e2, e3] at this; exact this)
        have u7 := HU.out _ D5.out
        by_cases hil : i < fn.params.length
        · have hil' : (i : Int) < (fn.params.length : Int) := by omega
          obtain ⟨b4, o4, e4, -, -, hc4⟩ := (HPF.out _ C5.out).1.elem (Chg.refl [] _) i hil
          have u4 := hc4 0 (by omega)
          simp only [skC, List.getElem?_cons_zero, Nat.add_zero, Nat.mul_one] at u4
          have HS2 := HS.out
          rw [List.drop_eq_getElem_cons hil, List.any_cons] at HS2
          have qi : IntKind.i64.wrap ((i : Int) + 1) = (i : Int) + 1 := IntWalk.i64_in _ (by omega)
          have RP := Lib.hid (fun w' => rname_any fn.params[i] w')
          generalize fn.params[i] = s at *
          rw [e4] at u7
          clear hc4
          cases hq : sNameB s
          · have HE := Lib.hid (show M = none by have := HQ3.out; rw [HS2, hq] at this; exact this)
            have RP2' := RP.out
            rw [hq] at RP2'
            have RP2 := Lib.hid RP2'
            clear RP2'
            clear HS2 hq RP
            go_wp2_with (go_at_call 65; (with_reducible refine Calls.mono (RP2.out _) ?_); rintro e w6 ⟨rfl, hc⟩; have C6 := Lib.hid (C5.out.thenSame hc); clear hc k7)
            go_ret3
            exact Eq.mp (by kernel_rfl) (meas_none (n := (x.nodes.length : Int)) HE.out C6.out)
          · have HS3 := Lib.hid (by have := HS2; rw [hq] at this; exact this)
            have RP2' := RP.out
            rw [hq] at RP2'
            have RP2 := Lib.hid RP2'
            clear RP2'
            clear HS2 hq RP
            go_wp2_with (go_at_call 65; (with_reducible refine Calls.mono (RP2.out _) ?_); rintro e w6 ⟨rfl, hc⟩; have D6 := Lib.hid (D5.out.thenSame hc); clear hc k7)
            exact ⟨⟨i + 1, rfl, by omega, HS3, D6⟩, by simp [intOf]; omega⟩
        · have hie : i = fn.params.length := by omega
          have hil' : ¬ (i : Int) < (fn.params.length : Int) := by omega
          have T5 := Lib.hid (T.out.kept D5.out)
          have ZB5 := Lib.hid (Nat.le_trans ZB.out D5.out.size)
          have HM4 := Lib.hid (show M = contM x.p.nodes ((x.funcs.drop (f + 1)).map Fn'.p) (low : Int) (b : Int) (rangeM x.p.nodes (low : Int) (b + 1 - low) low sz ht) from by
            have h3 := HQ3.out
            have hs := HS.out
            rw [hie, List.drop_length, List.any_nil] at hs
            rw [hs, if_neg (by simp), show ((b : Int) - (low : Int) + 1).toNat = b + 1 - low by omega, Int.toNat_natCast] at h3
            rw [h3]
            cases rangeM x.p.nodes (low : Int) (b + 1 - low) low sz ht <;> rfl)
          have hlb1 : low ≤ b := by omega
          clear hie HQ3 HS HQ T C Bx D2 C2 T2 Bx2 ZB
          go_wp2_with fail
          clear k7 u7
          go_loopw [5, 6, 11] (fun u5 u6 u11 wi => ∃ (i : Nat) (sa ha : Option Addr) (sc hc : Nat) (sz ht : List Int), u5 = .slice sa sz.length sc ∧ u6 = .slice ha ht.length hc ∧ u11 = .int .i64 i ∧ low ≤ i ∧ i ≤ b + 1 ∧ sz.length = i ∧ ht.length = i ∧ Hid (MI x.p.nodes low i sz) ∧ Hid (HB ht) ∧ Hid (M = contM x.p.nodes ((x.funcs.drop (f + 1)).map Fn'.p) (low : Int) (b : Int) (rangeM x.p.nodes (low : Int) (b + 1 - i) i sz ht)) ∧ Hid (TwoR wi B sa ha sc hc sz ht) ∧ Hid (Chg [] w wi) ∧ Hid (B ≤ wi.heap.size) ∧ Hid (wi.heap[w.heap.size]? = some (.cells #[.slice x.na x.nodes.length x.nc, .slice x.fa x.funcs.length x.fc] 25 (0, 0)))) (fun _ _ v _ => b + 1 - (intOf v).toNat)
          case atStart => exact ⟨low, _, _, _, _, sz, ht, rfl, rfl, rfl, Nat.le_refl _, by omega, HSL.out, HHL.out, Lib.hid (MI_start HSL.out), HBq, HM4, T5, C5, ZB5, Bx5⟩
          case round =>
            clear HM4 T5 C5 ZB5 Bx5 HBq HSL HHL
            obtain ⟨i, sa, ha, sc, hc, sz, ht, rfl, rfl, rfl, hli, hib, hsl, hhl, MQ, HBq, HM5, T6, C6, ZB6, Bx6⟩ := hrel
            have HSL6 := Lib.hid hsl
            have HHL6 := Lib.hid hhl
            have hs600 : sz.length ≤ 600 := by omega
            have hh600 : ht.length ≤ 600 := by omega
            clear hsl hhl
            have hi00 : (0 : Int) ≤ (i : Int) := by omega
            have k8 := blk_cell (by have := Bx6.out; rw [e2, e3] at this; exact this)
            by_cases hic : i ≤ b
            · have hic' : (i : Int) ≤ (b : Int) := by omega
              have hin : i < x.nodes.length := by omega
              have hin' : (i : Int) < (x.nodes.length : Int) := by omega
              obtain ⟨b5, o5, e5, -, -, hc5⟩ := ((HP.out.kept C6.out).1.1.1).elem (Chg.refl [] _) i hin
              obtain ⟨rfl, rfl⟩ : b3 = b5 ∧ o3 = o5 := by
                have := e3.symm.trans e5
                simpa using this
              clear e5
              have v0 := hc5 0 (by omega)
              have v1 := hc5 1 (by omega)
              have v2 := hc5 2 (by omega)
              have v3 := hc5 3 (by omega)
              have v4 := hc5 4 (by omega)
              simp only [ndC, List.getElem?_cons_zero, List.getElem?_cons_succ, Nat.add_zero] at v0 v1 v2 v3 v4
              clear hc5
              have hx : x.p.nodes[i]? = some (x.nodes[i]).p := by
                show (x.nodes.map Nd.p)[i]? = _
                rw [List.getElem?_map, List.getElem?_eq_getElem hin]
                rfl
              have HND := Lib.hid (fun w' (hc : Chg [] w w') => show NdIn w' x.nodes[i] from (HP.out.kept hc).1.2 _ (List.getElem_mem hin))
              have HZN := Lib.hid (HZ.out _ (List.getElem_mem hin))
              have HNone := Lib.hid (fun (h : nodeM x.p.nodes (low : Int) i (x.nodes[i]).p sz ht = none) => show M = none from by rw [HM5.out, show b + 1 - i = (b - i) + 1 by omega, rangeM_stop hx h]; rfl)
              have HSome := Lib.hid (fun s t (h : nodeM x.p.nodes (low : Int) i (x.nodes[i]).p sz ht = some (s, t)) => show M = contM x.p.nodes ((x.funcs.drop (f + 1)).map Fn'.p) (low : Int) (b : Int) (rangeM x.p.nodes (low : Int) (b + 1 - (i + 1)) (i + 1) s t) from by rw [HM5.out, show b + 1 - i = (b - i) + 1 by omega, rangeM_go hx h, show b + 1 - (i + 1) = b - i by omega])
              have HMI := Lib.hid (fun s t (h : nodeM x.p.nodes (low : Int) i (x.nodes[i]).p sz ht = some (s, t)) => nodeM_some MQ.out hx (fieldsR_eq _) hli h)
              clear hx HM5
              generalize x.nodes[i] = d at *
              have hkb : (d.kids.length : Int) ≤ 9223372036854775807 := by have h0 := (HND.out _ C6.out).2; have h1 := h0.2.1; have h2 := h0.2.2.1; unfold maxLen at h2; omega
              obtain ⟨W7, hW7⟩ : ∃ W7, W7 = wr.alloc (ndO d) := ⟨_, rfl⟩
              have D7 := Lib.hid (show Chg [] wr W7 by rw [hW7]; exact (Chg.refl _ _).alloc _)
              have C7 := Lib.hid (C6.out.thenSame D7.out)
              have ZB7 := Lib.hid (Nat.le_trans ZB6.out D7.out.size)
              have B7 := Lib.hid (show W7.heap[wr.heap.size]? = some (ndO d) by rw [hW7]; exact heap_alloc_new _ _)
              have T7 := Lib.hid (T6.out.kept D7.out)
              have Bx7 := Lib.hid (D7.out.at (by simp) Bx6.out)
              unfold ndO at hW7 B7
              have q1 : IntKind.i64.wrap ((i : Int) - 1) = (i : Int) - 1 := IntWalk.i64_in _ (by omega)
              have q2 : IntKind.i64.wrap ((d.kids.length : Int) - 1) = (d.kids.length : Int) - 1 := IntWalk.i64_in _ (by omega)
              have n7 := blk_cell B7.out
              go_upto_region 19 with fail
              rw [← hW7]
              clear hW7 k8 v0 v1 v2 v3 v4
              generalize wr.heap.size = nb at *
              go_wp2_with fail
              go_loopw [13, 14, 15] (fun u13 u14 u15 wi => ∃ (k : Nat) (a t : Int), u13 = .int .i64 a ∧ u14 = .int .i64 t ∧ u15 = .int .i64 ((k : Int) - 1) ∧ k ≤ d.kids.length ∧ (low : Int) - 1 ≤ a ∧ a < (i : Int) ∧ 0 ≤ t ∧ t ≤ (i : Int) ∧ Hid (kidsGo d.p (low : Int) sz ht d.kids.length ((i : Int) - 1) 0 = kidsGo d.p (low : Int) sz ht k a t) ∧ wi = W7) (fun _ _ v _ => (intOf v + 1).toNat)
              case atStart => exact ⟨d.kids.length, (i : Int) - 1, 0, rfl, rfl, rfl, Nat.le_refl _, by omega, by omega, by omega, by omega, Lib.hid rfl, rfl⟩
              case round =>
                obtain ⟨k, a, t, rfl, rfl, rfl, hkl, ha1, ha2, ht1, ht2, HK, rfl⟩ := hrel
                cases k with
                | zero =>
                  have HK0 := Lib.hid (show kidsGo d.p (low : Int) sz ht d.kids.length ((i : Int) - 1) 0 = some (a, t) from HK.out)
                  have KI := Lib.hid (fun j (hj : j < d.kids.length) => show ∃ m : Nat, d.kids[j] = (m : Int) ∧ m < x.nodes.length from by
                    obtain ⟨m, m1, m2⟩ := kids_idx MQ.out (by omega) HK0.out j hj
                    rw [show d.p.kids = d.kids from rfl, List.getElem?_eq_getElem hj] at m1
                    injection m1 with m1
                    exact ⟨m, m1, by omega⟩)
                  have HNM := Lib.hid (nodeM_go (l := x.p.nodes) (show kidsGo d.p (low : Int) sz ht d.p.kids.length ((i : Int) - 1) 0 = some (a, t) from HK0.out))
                  have RF := Lib.hid (fun w' (hc : Chg [] w w') => show Calls Tryz.prog 66 #[.agg #[.int .i64 d.kind, .string d.text, .int .i64 d.n, .slice d.ka d.keys.length d.kc, .slice d.da d.kids.length d.dc]] w' _ from rfields_any d w' (HND.out w' hc) HZN.out)
                  have RP := Lib.hid (fun w' (hc : Chg [] w w') => show Calls Tryz.prog 67 #[.slice (some ⟨b3, o3, none⟩) x.nodes.length x.nc, .agg #[.int .i64 d.kind, .string d.text, .int .i64 d.n, .slice d.ka d.keys.length d.kc, .slice d.da d.kids.length d.dc]] w' _ from by have h := rparts_any d w' ((HP.out.kept hc).1.1) (HND.out w' hc) KI.out; rw [e3] at h; exact h)
                  have hj : ((0 : Nat) : Int) - 1 = -1 := by omega
                  rw [hj]
                  have q3 : IntKind.i64.wrap ((i : Int) - a) = (i : Int) - a := IntWalk.i64_in _ (by omega)
                  have q4 : IntKind.i64.wrap (t + 1) = t + 1 := IntWalk.i64_in _ (by omega)
                  have q5 : IntKind.i64.wrap ((i : Int) + 1) = (i : Int) + 1 := IntWalk.i64_in _ (by omega)
                  have k9 := blk_cell (by have := Bx7.out; rw [e2, e3] at this; exact this)
                  clear HK KI HK0 q1 q2
                  cases hF : fieldsR d.p
                  · have HE := Lib.hid (HNone.out (by rw [HNM.out, hF]; rfl))
                    have RF2' := RF.out
                    rw [hF] at RF2'
                    have RF2 := Lib.hid RF2'
                    clear RF2'
                    clear hF RF RP HNM HSome HNone HMI
                    go_wp2_with (go_at_call 66; (with_reducible refine Calls.mono (RF2.out _ C7.out) ?_); rintro e w8 ⟨rfl, hc⟩; have C8 := Lib.hid (C7.out.thenSame hc); clear hc k9 n7)
                    go_ret3
                    exact Eq.mp (by kernel_rfl) (meas_none (n := (x.nodes.length : Int)) HE.out C8.out)
                  have RF2' := RF.out
                  rw [hF] at RF2'
                  have RF2 := Lib.hid RF2'
                  clear RF2'
                  cases hG : partsB (x.nodes.map Nd.p) d.p
                  · have HE := Lib.hid (HNone.out (by rw [HNM.out, hF, show partsB x.p.nodes d.p = false from hG]; rfl))
                    have RP2' := RP.out
                    rw [hG] at RP2'
                    have RP2 := Lib.hid RP2'
                    clear RP2'
                    clear hF hG RF RP HNM HSome HNone HMI
                    go_wp2_with (first | (go_at_call 66; (with_reducible refine Calls.mono (RF2.out _ C7.out) ?_); rintro e w8 ⟨rfl, hc⟩; have D8 := Lib.hid hc; have C8 := Lib.hid (C7.out.thenSame hc); have B8 := Lib.hid (hc.at (by simp) B7.out); have Bx8 := Lib.hid (hc.at (by simp) Bx7.out); clear hc k9 n7; have k10 := blk_cell B8.out; have k11 := blk_cell (by have := Bx8.out; rw [e2, e3] at this; exact this)) | (go_at_call 67; (with_reducible refine Calls.mono (RP2.out _ C8.out) ?_); rintro e w9 ⟨rfl, hc⟩; have C9 := Lib.hid (C8.out.thenSame hc); clear hc))
                    go_ret3
                    exact Eq.mp (by kernel_rfl) (meas_none (n := (x.nodes.length : Int)) HE.out C9.out)
                  have RP2' := RP.out
                  rw [hG] at RP2'
                  have RP2 := Lib.hid RP2'
                  clear RP2'
                  have HM8 := Lib.hid (show nodeM x.p.nodes (low : Int) i d.p sz ht = some (sz ++ [(i : Int) - a], ht ++ [t + 1]) from by rw [HNM.out, hF, show partsB x.p.nodes d.p = true from hG]; rfl)
                  have HM9 := Lib.hid (HSome.out _ _ HM8.out)
                  have MQ9 := Lib.hid (HMI.out _ _ HM8.out)
                  have HB9 := Lib.hid (HBq.out.app ht1 (by rw [HHL6.out]; exact ht2))
                  clear hF hG RF RP HNM HSome HNone HMI HM8
                  go_wp2_with (first | (go_at_call 66; (with_reducible refine Calls.mono (RF2.out _ C7.out) ?_); rintro e w8 ⟨rfl, hc⟩; have D8 := Lib.hid hc; have C8 := Lib.hid (C7.out.thenSame hc); have B8 := Lib.hid (hc.at (by simp) B7.out); have Bx8 := Lib.hid (hc.at (by simp) Bx7.out); clear hc k9 n7; have k10 := blk_cell B8.out; have k11 := blk_cell (by have := Bx8.out; rw [e2, e3] at this; exact this)) | (go_at_call 67; (with_reducible refine Calls.mono (RP2.out _ C8.out) ?_); rintro e w9 ⟨rfl, hc⟩; have D9 := Lib.hid (D8.out.thenSame hc); have C9 := Lib.hid (C8.out.thenSame hc); have ZB9 := Lib.hid (Nat.le_trans ZB7.out D9.out.size); have T9 := Lib.hid (T7.out.kept (D9.out.alloc (.cells #[.int .i64 ((i : Int) - a)] 3 (0, 0)))); have Bx9 := Lib.hid (hc.at (by simp) Bx8.out); clear hc k10 k11) | (at_builtin; refine wpl_appendL rfl _ _ 32 rfl B 3 _ 8 Tryz.underlying32 intInfoS rfl (by decide) icI_len1 icI_one1 (.slice sa sz.length sc) sz rfl T9.out.s w9.heap.size 1 ((i : Int) - a) _ _ _ rfl (heap_alloc_new w9 _) rfl (by unfold maxLen; omega) (by omega) (by have := ZB9.out; simp; omega) ?_; intro g9 cap9 w10 hr9 hg9 ho9 hl9; have T10 := Lib.hid (TwoR.grow1 T9.out hr9 hg9 ho9); have G10 := Lib.hid hg9; have H10 := Lib.hid (show ∀ y ∈ (Value.slice sa sz.length sc).ownBlock.toList, B ≤ y from fun y hy => (T9.out.s.block y (by simpa using hy)).1); have C10 := Lib.hid ((C9.out.alloc (.cells #[.int .i64 ((i : Int) - a)] 3 (0, 0))).then (Chg.ofRow hg9) (fun y hy hlt => by have h1 := H10.out y hy; have h2 := HZ1.out; omega)); have B10 := Lib.hid ((Chg.ofRow hg9).at (fun hm => by have h1 := H10.out _ hm; have h2 := HZ1.out; omega) (blk_alloc Bx9.out)); clear hr9 ho9 hl9 hg9) | (at_builtin; refine wpl_appendL rfl _ _ 32 rfl B 3 _ 8 Tryz.underlying32 intInfoS rfl (by decide) icI_len1 icI_one1 (.slice ha ht.length hc) ht rfl (T10.out.h.kept ((Chg.refl [] _).alloc (.cells #[.int .i64 (t + 1)] 3 (0, 0))) (by simp)) w10.heap.size 1 (t + 1) _ _ _ rfl (heap_alloc_new w10 _) rfl (by unfold maxLen; omega) (by omega) (by have := ZB9.out; have := G10.out.size; simp at this ⊢; omega) ?_; intro g11 cap11 w12 hr11 hg11 ho11 hl11; have T12 := Lib.hid (TwoR.grow2 (T10.out.kept ((Chg.refl [] _).alloc (.cells #[.int .i64 (t + 1)] 3 (0, 0)))) hr11 hg11 ho11); have G12 := Lib.hid hg11; have H12 := Lib.hid (show ∀ y ∈ (Value.slice ha ht.length hc).ownBlock.toList, B ≤ y from fun y hy => (T10.out.h.block y (by simpa using hy)).1); have C12 := Lib.hid ((C10.out.alloc (.cells #[.int .i64 (t + 1)] 3 (0, 0))).then (Chg.ofRow hg11) (fun y hy hlt => by have h1 := H12.out y hy; have h2 := HZ1.out; omega)); have B12 := Lib.hid ((Chg.ofRow hg11).at (fun hm => by have h1 := H12.out _ hm; have h2 := HZ1.out; omega) (blk_alloc B10.out)); clear hr11 ho11 hl11 hg11))
                  refine ⟨⟨i + 1, some ⟨g9, 0, none⟩, some ⟨g11, 0, none⟩, cap9, cap11, sz ++ [(i : Int) - a], ht ++ [t + 1], by simp, by simp, rfl, by omega, by omega, by simp [HSL6.out], by simp [HHL6.out], MQ9, HB9, HM9, T12, ?_, ?_, ?_⟩, by simp [intOf]; omega⟩
                  · exact C12.out
                  · exact Nat.le_trans ZB9.out (Nat.le_trans ((Chg.refl [] w9).alloc (.cells #[.int .i64 ((i : Int) - a)] 3 (0, 0))).size (Nat.le_trans G10.out.size (Nat.le_trans ((Chg.refl [] w10).alloc (.cells #[.int .i64 (t + 1)] 3 (0, 0))).size G12.out.size)))
                  · exact B12.out
                | succ k =>
                  have hkl2 : k < d.kids.length := by omega
                  have hj : ((k + 1 : Nat) : Int) - 1 = (k : Int) := by omega
                  have hk0 : (0 : Int) ≤ (k : Int) := by omega
                  have hk1 : (k : Int) < (d.kids.length : Int) := by omega
                  rw [hj]
                  clear hj q1 q2
                  have q3 : IntKind.i64.wrap ((k : Int) - 1) = (k : Int) - 1 := IntWalk.i64_in _ (by omega)
                  obtain ⟨b8, o8, e8, -, -, hc8⟩ := ((HND.out _ C7.out).2.1).elem (Chg.refl [] _) k hkl2
                  have u8 := hc8 0 (by omega)
                  simp only [icI, List.getElem?_cons_zero, Nat.add_zero, Nat.mul_one] at u8
                  have hkk : d.p.kids[k]? = some d.kids[k] := List.getElem?_eq_getElem hkl2
                  have HK2 := HK.out
                  rw [kidsGo, hkk] at HK2
                  generalize d.kids[k] = c at *
                  clear hc8 hkk HK
                  have n8 := blk_cell (by have := B7.out; rw [e8] at this; exact this)
                  clear n7
                  rw [e8]
                  by_cases hca : c = a
                  · subst hca
                    by_cases hla : c < (low : Int)
                    · have HE := Lib.hid (HNone.out (nodeM_stop (by have := HK2; rw [if_neg (by omega)] at this; exact this)))
                      have hcc : (c != c) = false := by simp
                      clear HK2 HNone HSome HMI
                      go_wp2_with fail
                      go_ret3
                      exact Eq.mp (by kernel_rfl) (meas_none (n := (x.nodes.length : Int)) HE.out C7.out)
                    · obtain ⟨m, rfl⟩ : ∃ m : Nat, c = (m : Int) := ⟨c.toNat, by omega⟩
                      have hml : low ≤ m := by omega
                      have hmi : m < i := by omega
                      have hms : m < sz.length := by rw [HSL6.out]; exact hmi
                      have hmh : m < ht.length := by rw [HHL6.out]; exact hmi
                      have hms' : (m : Int) < (sz.length : Int) := by omega
                      have hmh' : (m : Int) < (ht.length : Int) := by omega
                      have hm0 : (0 : Int) ≤ (m : Int) := by omega
                      obtain ⟨z1, z2⟩ := MQ.out.cur2 hml hmi
                      obtain ⟨h1, h2⟩ := HBq.out m hmh
                      rw [if_pos ⟨rfl, by omega⟩, szAt_get hms, szAt_get hmh] at HK2
                      rw [szAt_get hms] at z1 z2
                      rw [szAt_get hmh] at h1 h2
                      obtain ⟨b9, o9, e9, -, -, hc9⟩ := ((InIs.ofRow T7.out.h icI_len1).2.1).elem (Chg.refl [] _) m hmh
                      have u9 := hc9 0 (by omega)
                      obtain ⟨ba, oa, ea, -, -, hca⟩ := ((InIs.ofRow T7.out.s icI_len1).2.1).elem (Chg.refl [] _) m hms
                      have ua := hca 0 (by omega)
                      simp only [icI, List.getElem?_cons_zero, Nat.add_zero, Nat.mul_one] at u9 ua
                      clear hc9 hca
                      subst e9
                      subst ea
                      generalize sz[m] = zv at *
                      generalize ht[m] = hv at *
                      have HK3 := Lib.hid HK2
                      have q4 : IntKind.i64.wrap ((m : Int) - zv) = (m : Int) - zv := IntWalk.i64_in _ (by omega)
                      have hcc : ((m : Int) != (m : Int)) = false := by simp
                      clear HK2 HNone HSome HMI
                      go_wp2_with fail
                      exact ⟨⟨k, (m : Int) - zv, max t hv, rfl, rfl, rfl, by omega, by omega, by omega, by omega, by omega, HK3, trivial⟩, by simp [intOf]⟩
                  · have HE := Lib.hid (HNone.out (nodeM_stop (by have := HK2; rw [if_neg (fun q => hca (by have := q.1; injection this))] at this; exact this)))
                    have hcc : (c != a) = true := bne_iff_ne.2 hca
                    clear HK2 HNone HSome HMI
                    go_wp2_with fail
                    go_ret3
                    exact Eq.mp (by kernel_rfl) (meas_none (n := (x.nodes.length : Int)) HE.out C7.out)
            · have hie : i = b + 1 := by omega
              subst hie
              have hic' : ¬ ((b + 1 : Nat) : Int) ≤ (b : Int) := by omega
              have hbs : b < sz.length := by rw [HSL6.out]; omega
              have hbs' : (b : Int) < (sz.length : Int) := by omega
              have HM6 := HM5.out
              rw [Nat.sub_self, rangeM, contM, szAt_get hbs] at HM6
              obtain ⟨ba, oa, ea, -, -, hca⟩ := ((InIs.ofRow T6.out.s icI_len1).2.1).elem (Chg.refl [] _) b hbs
              have ua := hca 0 (by omega)
              simp only [icI, List.getElem?_cons_zero, Nat.add_zero, Nat.mul_one] at ua
              subst ea
              generalize sz[b] = zv at *
              have q1 : IntKind.i64.wrap ((b : Int) - (low : Int)) = (b : Int) - (low : Int) := IntWalk.i64_in _ (by omega)
              have q2 : IntKind.i64.wrap ((b : Int) - (low : Int) + 1) = (b : Int) - (low : Int) + 1 := IntWalk.i64_in _ (by omega)
              have q3 : IntKind.i64.wrap ((b : Int) + 1) = (b : Int) + 1 := IntWalk.i64_in _ (by omega)
              have q4 : IntKind.i64.wrap ((f : Int) + 1) = (f : Int) + 1 := IntWalk.i64_in _ (by omega)
              clear hca HM5
              by_cases hz : zv = (b : Int) - (low : Int) + 1
              · have hzb : (zv != (b : Int) - (low : Int) + 1) = false := by rw [hz]; simp
                rw [if_pos hz] at HM6
                have HM7 := Lib.hid HM6
                clear HM6 hz
                go_wp2_with fail
                exact ⟨⟨f + 1, b + 1, some ⟨ba, oa, none⟩, ha, sc, hc, sz, ht, rfl, rfl, by simp, by simp, by omega, by omega, HSL6.out, HHL6.out, HBq, Lib.hid (by have := HM7.out; simpa using this), T6, C6, ZB6, (by first | exact Bx6 | exact Lib.hid (by have := Bx6.out; rw [e2, e3] at this; exact this) | exact Lib.hid (by have := Bx6.out; rw [e2] at this; exact this) | exact Lib.hid (by have := Bx6.out; rw [e3] at this; exact this))⟩, by simp [intOf]; omega⟩
              · have hzb : (zv != (b : Int) - (low : Int) + 1) = true := bne_iff_ne.2 hz
                rw [if_neg hz] at HM6
                have HE := Lib.hid HM6
                clear HM6 hz
                go_wp2_with fail
                go_ret3
                exact Eq.mp (by kernel_rfl) (meas_none (n := (x.nodes.length : Int)) HE.out C6.out)
    · have hfe : f = x.funcs.length := by omega
      have HQ2 := HQ.out
      rw [hfe, List.drop_length, List.map_nil, funcsM] at HQ2
      have HE := Lib.hid HQ2
      have hfl' : ¬ (f : Int) < (x.funcs.length : Int) := by omega
      have k5 := blk_cell Bx.out
      have HBQ := Lib.hid (show ((low : Int) == (x.nodes.length : Int)) = decide ((low : Int) = (x.nodes.length : Int)) from rfl)
      clear HQ2 hfe
      go_wp2_with fail
      go_quiet (fail)
      have CQ := Lib.hid (C.out.drewN nq)
      have TQ := Lib.hid (T.out.kept ((Chg.refl [] wr).drewN nq))
      go_wp2_with fail
      go_ret3
      exact Eq.mp (by kernel_rfl) (meas_ret (n := (x.nodes.length : Int)) HE.out TQ.out CQ.out)
end Go.Proofs.YtolidiafomceiaaGreatDoor
