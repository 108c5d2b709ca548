/- Chapter 52: contracts of the checks: meter.Valid, meter.Add, those of the reference. No condition. Plain: shares: quotients, rests, the order of the rests, what is given out. No condition. Plain: the theorem of the stage: shares come to the total, are the exact ones but for less than 1, and follow the weights. No condition. Over any program with slices.SortStableFunc on ints: a block of ints; contract: the exchange of two ranges. Condition: up to a million elements. Over any program with slices.SortStableFunc on ints: contract: the insertion sort of a block. Condition: up to a million elements. -/
import Derived.Test.YtehjalgogjkdlaaDoorProg
import Derived.Deep.RegionLaw
import Derived.Deep.RegionHeld3
import Derived.StillTailTactics
import Derived.Test.YtehjalgogjkdlaaDoorZ01
namespace Go.Proofs.YtehjalgogjkdlaaDoor
set_option linter.unusedVariables false
set_option linter.unusedSimpArgs false
open Go.RowKit

structure Us where
  inv : Int
  steps : Int
  ticks : Int
  units : Int
def usV (u : Us) : Value := .agg #[.int .i64 u.inv, .int .i64 u.steps, .int .i64 u.ticks, .int .i64 u.units]
def amtB (n : Int) : Bool := decide (0 ≤ n) && decide (n ≤ 1000000000000)
def usB (u : Us) : Bool := amtB u.inv && amtB u.steps && amtB u.ticks && amtB u.units
theorem betw_any (n lo hi : Int) (w : World) : Calls Tryd.prog 51 #[.int .i64 n, .int .i64 lo, .int .i64 hi] w fun e w' => e = .returned (.bool (decide (lo ≤ n) && decide (n ≤ hi))) ∧ w = w' := by
  by_cases h1 : lo ≤ n
  · go_enter Tryd.func51, Tryd.ntmps51
    go_wp2
    go_ret
    exact ⟨by simp [h1], rfl⟩
  · go_enter Tryd.func51, Tryd.ntmps51
    go_wp2
    go_ret
    exact ⟨by simp; omega, rfl⟩
def usL (u : Us) : List Int := [u.inv, u.steps, u.ticks, u.units]
theorem usB_all (u : Us) : usB u = (usL u).all amtB := by simp [usB, usL, Bool.and_assoc]

set_option maxHeartbeats 4000000 in
set_option maxRecDepth 100000 in
theorem mvalid_any (u : Us) (w : World) : Calls Tryd.prog 36 #[usV u] w fun e w' => e = .returned (.bool (usB u)) ∧ Chg [] w w' := by
  obtain ⟨a, b, c, d⟩ := u
  obtain ⟨R, hR⟩ : ∃ R, R = usB ⟨a, b, c, d⟩ := ⟨_, rfl⟩
  rw [← hR]
  rw [usB_all] at hR
  have HR := Lib.hid hR
  obtain ⟨vs, hvs⟩ : ∃ vs, vs = usL ⟨a, b, c, d⟩ := ⟨_, rfl⟩
  rw [← hvs] at HR
  have hlen : vs.length = 4 := by rw [hvs]; rfl
  have Hl := Lib.hid hlen
  have hcl : ∀ (W : World) (t : TypeId) (B : Nat), W.heap[B]? = some (.cells #[.int .i64 a, .int .i64 b, .int .i64 c, .int .i64 d] t (0, 0)) → ∀ k (hk : k < vs.length), W.cell? ⟨B, k, none⟩ = some (.int .i64 vs[k]) := by
    intro W t B hB k hk
    rw [blk_cell hB]
    subst hvs
    match k, hk with
    | 0, _ => rfl
    | 1, _ => rfl
    | 2, _ => rfl
    | 3, _ => rfl
  have Hcl := Lib.hid hcl
  unfold usV
  clear hR hvs hlen hcl
  go_enter Tryd.func36, Tryd.ntmps36
  go_wp2_with fail
  obtain ⟨w2, hw2⟩ : ∃ w2, w2 = (w.alloc (.cells #[.int .i64 a, .int .i64 b, .int .i64 c, .int .i64 d] 48)).alloc (.cells #[.int .i64 a, .int .i64 b, .int .i64 c, .int .i64 d] 3) := ⟨_, rfl⟩
  have hc2 : Chg [] w w2 := by rw [hw2]; exact ((Chg.refl _ _).alloc _).alloc _
  have hb2 : w2.heap[w.heap.size + 1]? = some (.cells #[.int .i64 a, .int .i64 b, .int .i64 c, .int .i64 d] 3 (0, 0)) := by
    rw [hw2]
    have := heap_alloc_new (w.alloc (.cells #[.int .i64 a, .int .i64 b, .int .i64 c, .int .i64 d] 48)) (.cells #[.int .i64 a, .int .i64 b, .int .i64 c, .int .i64 d] 3)
    rw [World.size_alloc] at this
    exact this
  rw [← hw2]
  have HC := Lib.hid hc2
  have Hcc := Lib.hid (Hcl.out w2 _ _ hb2)
  clear hw2 hc2 hb2 Hcl
  go_loop [15] (fun i => ∃ k : Nat, i = .int .i64 k ∧ k ≤ 4 ∧ Hid ((vs.take k).all amtB = true)) (fun i => 4 - (intOf i).toNat)
  case atStart => exact ⟨0, rfl, Nat.zero_le _, Lib.hid rfl⟩
  case round =>
    obtain ⟨k, rfl, hk4, Hall⟩ := hrel
    by_cases hk : k < 4
    · have hkv : k < vs.length := by rw [Hl.out]; exact hk
      have c0 := Hcc.out k hkv
      have hst : (vs.take (k + 1)).all amtB = amtB vs[k] := by
        rw [List.take_succ_eq_append_getElem hkv, List.all_append, Hall.out]; simp
      have hno : amtB vs[k] = false → R = false := fun h => by
        rw [HR.out, List.all_eq_false]
        exact ⟨vs[k], List.getElem_mem hkv, by simp [h]⟩
      have hk0 : (0 : Int) ≤ (k : Int) := by omega
      have hk1 : (k : Int) < 4 := by omega
      generalize vs[k] = v at *
      have A := fun w => betw_any v 0 1000000000000 w
      rw [show (decide (0 ≤ v) && decide (v ≤ 1000000000000)) = amtB v from rfl] at A
      have Hst := Lib.hid hst
      have Hno := Lib.hid hno
      cases hv : amtB v
      · rw [hv] at A
        have A := Lib.hid A
        have E := Lib.hid (Hno.out hv)
        rename_i A0
        clear A0 hst hno hv
        go_wp2_with fail
        refine (A.out _).mono ?_; rintro e w3 ⟨rfl, rfl⟩
        go_wp2_with fail
        go_ret
        exact ⟨by rw [E.out]; rfl, HC.out⟩
      · rw [hv] at A Hst
        have A := Lib.hid A
        rename_i A0
        clear A0 hst hno hv
        go_wp2_with fail
        refine (A.out _).mono ?_; rintro e w3 ⟨rfl, rfl⟩
        go_wp2_with fail
        exact ⟨⟨k + 1, by go_num, by omega, Hst⟩, by simp [intOf]; omega⟩
    · have E : Hid (R = true) := Lib.hid (by
        have h := Hall.out
        rw [List.take_of_length_le (by rw [Hl.out]; omega)] at h
        rw [HR.out]; exact h)
      go_wp2_with fail
      go_ret
      exact ⟨by rw [E.out]; rfl, HC.out⟩
end Go.Proofs.YtehjalgogjkdlaaDoor

namespace Go.Proofs.YtehjalgogjkdlaaDoor
set_option linter.unusedVariables false
set_option linter.unusedSimpArgs false
open Go.RowKit
theorem amtB_iff {n : Int} : amtB n = true ↔ 0 ≤ n ∧ n ≤ 1000000000000 := by simp [amtB]
/-- The error of a total and weights, and the sum of the weights. -/
def weighZ (t : Int) (W : List Int) : Int × Int :=
  if amtB t = false ∨ W.all amtB = false then (0, 2) else if 256 < W.length then (0, 3) else if W = [] ∧ t ≠ 0 then (0, 5) else if 1000000000000 < W.sum then (0, 8) else (W.sum, 0)
def effW (W : List Int) : List Int := if W.sum = 0 then W.map (fun _ => 1) else W
def effS (W : List Int) : Int := if W.sum = 0 then W.length else W.sum
def quo (t S w : Int) : Int := t * w / S
def rst (t S w : Int) : Int := t * w % S
def shQ (t : Int) (W : List Int) : List Int := (effW W).map (quo t (effS W))
def shR (t : Int) (W : List Int) : List Int := (effW W).map (rst t (effS W))
def leftOf (t : Int) (W : List Int) : Int := t - (shQ t W).sum
def keyOf (R : List Int) (i : Int) : Int := R.getD i.toNat 0
/-- O is the order of the indices by their rests, the greatest first; equals by index. -/
structure IsOrd (R O : List Int) : Prop where
  srt : Srt (keyOf R) O
  perm : O.Perm ((List.range R.length).map Int.ofNat)
/-- One more to each of O. -/
def bump (Q O : List Int) : List Int := O.foldl (fun s i => s.set i.toNat (s.getD i.toNat 0 + 1)) Q
variable {t S : Int} {W V Q R O : List Int}
theorem effW_len : (effW W).length = W.length := by unfold effW; split <;> simp
theorem effW_sum : (effW W).sum = effS W := by
  unfold effW effS
  split
  · induction W with
    | nil => rfl
    | cons w W ih =>
      have e : ∀ V : List Int, (V.map (fun _ => (1 : Int))).sum = V.length := by
        intro V
        induction V with
        | nil => rfl
        | cons v V ih => simp only [List.map_cons, List.sum_cons, ih, List.length_cons]; omega
      exact e _
  · rfl
theorem sum_nn (h : ∀ w ∈ V, 0 ≤ w) : 0 ≤ V.sum := by
  induction V with
  | nil => simp
  | cons v V ih => rw [List.sum_cons]; have := h v (by simp); have := ih (fun w hw => h w (by simp [hw])); omega
theorem mem_le_sum (h : ∀ w ∈ V, 0 ≤ w) {w : Int} (hw : w ∈ V) : w ≤ V.sum := by
  induction V with
  | nil => exact nomatch hw
  | cons v V ih =>
    rw [List.sum_cons]
    have h0 := h v (by simp)
    have h1 := sum_nn (fun w hw => h w (by simp [hw]) : ∀ w ∈ V, 0 ≤ w)
    rcases List.mem_cons.1 hw with rfl | hw
    · omega
    · have := ih (fun w hw => h w (by simp [hw])) hw; omega
theorem effW_nn (h : ∀ w ∈ W, 0 ≤ w) : ∀ w ∈ effW W, 0 ≤ w := by
  unfold effW
  split
  · intro w hw; obtain ⟨_, _, rfl⟩ := List.mem_map.1 hw; omega
  · exact h
theorem effS_pos (h : ∀ w ∈ W, 0 ≤ w) (hne : W ≠ []) : 0 < effS W := by
  unfold effS
  have := sum_nn h
  split
  · have : 0 < W.length := List.length_pos_iff.2 hne
    omega
  · omega
theorem sums_law (t S : Int) (V : List Int) : t * V.sum = S * (V.map (quo t S)).sum + (V.map (rst t S)).sum := by
  induction V with
  | nil => simp
  | cons v V ih =>
    simp only [List.sum_cons, List.map_cons]
    have := Int.mul_ediv_add_emod (t * v) S
    rw [Int.mul_add, ih, Int.mul_add]
    unfold quo rst at *
    omega
theorem rst_sum (hS : 0 < S) (t : Int) (V : List Int) : 0 ≤ (V.map (rst t S)).sum ∧ (V.map (rst t S)).sum ≤ V.length * (S - 1) := by
  induction V with
  | nil => simp
  | cons v V ih =>
    simp only [List.sum_cons, List.map_cons, List.length_cons]
    have h1 := Int.emod_nonneg (t * v) (show S ≠ 0 by omega)
    have h2 := Int.emod_lt_of_pos (t * v) hS
    have e : ((V.length + 1 : Nat) : Int) * (S - 1) = V.length * (S - 1) + (S - 1) := by rw [Int.natCast_add, Int.add_mul]; simp
    rw [e]
    unfold rst at *
    omega
/-- What is left: as often the sum of the weights as the rests come to. -/
theorem left_law : effS W * leftOf t W = (shR t W).sum := by
  have := sums_law t (effS W) (effW W)
  rw [effW_sum] at this
  unfold leftOf shR shQ
  rw [Int.mul_sub, Int.mul_comm (effS W) t, this]
  omega
theorem left_bounds (h : ∀ w ∈ W, 0 ≤ w) (hn : W = [] → t = 0) : 0 ≤ leftOf t W ∧ leftOf t W ≤ W.length := by
  by_cases hne : W = []
  · subst hne; rw [hn rfl]; exact ⟨by decide, by decide⟩
  · have hS := effS_pos h hne
    have hl := left_law (t := t) (W := W)
    obtain ⟨h1, h2⟩ := rst_sum hS t (effW W)
    unfold shR at hl
    rw [← hl] at h1 h2
    rw [effW_len] at h2
    constructor
    · refine Int.not_lt.1 fun hlt => ?_
      have := Int.mul_neg_of_pos_of_neg hS hlt
      omega
    · refine Int.not_lt.1 fun hlt => ?_
      have h3 : effS W * ((W.length : Int) + 1) ≤ effS W * leftOf t W := Int.mul_le_mul_of_nonneg_left (by omega) (by omega)
      have e1 : effS W * ((W.length : Int) + 1) = effS W * W.length + effS W := by rw [Int.mul_add, Int.mul_one]
      have e2 : (W.length : Int) * (effS W - 1) = effS W * W.length - W.length := by rw [Int.mul_sub, Int.mul_comm, Int.mul_one]
      omega
theorem shQ_len : (shQ t W).length = W.length := by unfold shQ; rw [List.length_map, effW_len]
theorem shR_len : (shR t W).length = W.length := by unfold shR; rw [List.length_map, effW_len]
theorem bump_len : (bump Q O).length = Q.length := by
  unfold bump
  induction O generalizing Q with
  | nil => rfl
  | cons i O ih => rw [List.foldl_cons, ih, List.length_set]
theorem bump_snoc (i : Int) : bump Q (O ++ [i]) = (bump Q O).set i.toNat ((bump Q O).getD i.toNat 0 + 1) := by unfold bump; rw [List.foldl_append]; rfl
theorem bump_at (hn : O.Nodup) (hr : ∀ i ∈ O, 0 ≤ i) (j : Nat) (hj : j < Q.length) : (bump Q O).getD j 0 = Q.getD j 0 + (if (j : Int) ∈ O then 1 else 0) := by
  unfold bump
  induction O generalizing Q with
  | nil => simp
  | cons i O ih =>
    rw [List.foldl_cons, ih (List.nodup_cons.1 hn).2 (fun x hx => hr x (by simp [hx])) (by simpa using hj)]
    have h0 := hr i (by simp)
    by_cases e : (j : Int) = i
    · have e2 : i.toNat = j := by omega
      have h1 : (j : Int) ∉ O := by rw [e]; exact (List.nodup_cons.1 hn).1
      rw [e2, if_neg h1, if_pos (by simp [e])]
      simp [List.getD_eq_getElem?_getD, hj]
    · have e2 : i.toNat ≠ j := by omega
      have h1 : ((j : Int) ∈ i :: O) ↔ (j : Int) ∈ O := by simp [e]
      simp only [h1]
      simp [List.getD_eq_getElem?_getD, e2]
/-- The order: its indices. -/
theorem IsOrd.range (h : IsOrd R O) : ∀ i ∈ O, 0 ≤ i ∧ i < R.length := by
  intro i hi
  obtain ⟨k, hk, rfl⟩ := List.mem_map.1 (h.perm.mem_iff.1 hi)
  have := List.mem_range.1 hk
  constructor
  · exact Int.natCast_nonneg k
  · exact Int.ofNat_lt.2 this
theorem IsOrd.mem (h : IsOrd R O) {j : Nat} (hj : j < R.length) : (j : Int) ∈ O := h.perm.mem_iff.2 (List.mem_map.2 ⟨j, List.mem_range.2 hj, rfl⟩)
theorem IsOrd.len (h : IsOrd R O) : O.length = R.length := by rw [h.perm.length_eq]; simp
theorem IsOrd.nodup (h : IsOrd R O) : O.Nodup := h.srt.imp (fun h e => by subst e; exact h.asymm h)
theorem IsOrd.unique {O' : List Int} (h : IsOrd R O) (k : IsOrd R O') : O = O' := srt_unique h.srt k.srt (h.perm.trans k.perm.symm)
/-- The rests with those of the first k of the order struck out. -/
def strike (R O : List Int) : List Int := O.foldl (fun s i => s.set i.toNat (-1)) R
theorem strike_len : (strike R O).length = R.length := by
  unfold strike
  induction O generalizing R with
  | nil => rfl
  | cons i O ih => rw [List.foldl_cons, ih, List.length_set]
theorem strike_snoc (i : Int) : strike R (O ++ [i]) = (strike R O).set i.toNat (-1) := by unfold strike; rw [List.foldl_append]; rfl
theorem strike_at (hr : ∀ i ∈ O, 0 ≤ i) (j : Nat) (hj : j < R.length) : (strike R O).getD j 0 = if (j : Int) ∈ O then -1 else R.getD j 0 := by
  unfold strike
  induction O generalizing R with
  | nil => simp
  | cons i O ih =>
    rw [List.foldl_cons, ih (fun x hx => hr x (by simp [hx])) (by simpa using hj)]
    have h0 := hr i (by simp)
    by_cases e : (j : Int) = i
    · have e2 : i.toNat = j := by omega
      rw [if_pos (show (j : Int) ∈ i :: O by simp [e]), e2]
      split
      · rfl
      · simp [List.getD_eq_getElem?_getD, hj]
    · have e2 : i.toNat ≠ j := by omega
      have h1 : ((j : Int) ∈ i :: O) ↔ (j : Int) ∈ O := by simp [e]
      simp only [h1]
      split
      · rfl
      · simp [List.getD_eq_getElem?_getD, e2]
/-- The first greatest of a list. -/
def Best (R : List Int) (b : Nat) : Prop := b < R.length ∧ (∀ j, j < R.length → R.getD j 0 ≤ R.getD b 0) ∧ ∀ j, j < b → R.getD j 0 < R.getD b 0
theorem Best.unique {b c : Nat} (h : Best R b) (k : Best R c) : b = c := by
  rcases Nat.lt_trichotomy b c with q | q | q
  · have := k.2.2 b q; have := h.2.1 c k.1; omega
  · exact q
  · have := h.2.2 c q; have := k.2.1 b h.1; omega
/-- What the reference picks next is what the order has next. -/
theorem IsOrd.best (h : IsOrd R O) (hR : ∀ x ∈ R, 0 ≤ x) {k : Nat} (hk : k < O.length) : Best (strike R (O.take k)) (O[k]).toNat := by
  have hr := h.range
  have h0 := hr O[k] (List.getElem_mem hk)
  have hn := h.nodup
  have ht : ∀ i ∈ O.take k, 0 ≤ i := fun i hi => (hr i (List.mem_of_mem_take hi)).1
  have hnk : O[k] ∉ O.take k := by
    intro hm
    obtain ⟨m, hm1, hm2⟩ := List.mem_iff_getElem.1 hm
    simp only [List.length_take] at hm1
    rw [List.getElem_take] at hm2
    exact List.pairwise_iff_getElem.1 hn m k (by omega) hk (by omega) hm2
  have hpos : ∀ j, j < R.length → 0 ≤ R.getD j 0 := fun j hj => by
    rw [List.getD_eq_getElem?_getD, List.getElem?_eq_getElem hj]; exact hR _ (List.getElem_mem hj)
  have hb : (strike R (O.take k)).getD (O[k]).toNat 0 = keyOf R O[k] := by
    rw [strike_at ht _ (by omega), if_neg (by rw [Int.toNat_of_nonneg h0.1]; exact hnk)]; rfl
  have hb0 : 0 ≤ keyOf R O[k] := hpos _ (by omega)
  have key : ∀ j, j < R.length → (strike R (O.take k)).getD j 0 < keyOf R O[k] ∨ ((strike R (O.take k)).getD j 0 = keyOf R O[k] ∧ O[k] ≤ j) := by
    intro j hj
    rw [strike_at ht j hj]
    split
    · left; omega
    · rename_i hj2
      obtain ⟨m, hm, e⟩ := List.mem_iff_getElem.1 (h.mem hj)
      have hkm : k ≤ m := by
        refine Nat.not_lt.1 fun q => hj2 ?_
        rw [← e]
        exact List.mem_iff_getElem.2 ⟨m, by simp; omega, List.getElem_take⟩
      have hke : keyOf R (j : Int) = R.getD j 0 := by unfold keyOf; rw [Int.toNat_natCast]
      rcases Nat.lt_or_ge k m with q | q
      · have := List.pairwise_iff_getElem.1 h.srt k m hk hm q
        rw [e] at this
        unfold Prec at this
        omega
      · have e3 : k = m := by omega
        subst e3
        rw [e]; right; exact ⟨hke.symm, Int.le_refl _⟩
  refine ⟨by rw [strike_len]; omega, fun j hj => ?_, fun j hj => ?_⟩
  · rw [strike_len] at hj; rw [hb]; have := key j hj; omega
  · rw [hb]; have := key j (by omega); omega
theorem sum_perm {A B : List Int} (h : A.Perm B) : A.sum = B.sum := by
  induction h with
  | nil => rfl
  | cons x _ ih => rw [List.sum_cons, List.sum_cons, ih]
  | swap x y l => simp only [List.sum_cons]; omega
  | trans _ _ h1 h2 => rw [h1, h2]
theorem range_map (R : List Int) : ((List.range R.length).map Int.ofNat).map (keyOf R) = R := by
  apply List.ext_getElem
  · simp
  · intro i h1 h2
    simp [keyOf, List.getD_eq_getElem?_getD, List.getElem?_eq_getElem h2]
theorem IsOrd.sum (h : IsOrd R O) : (O.map (keyOf R)).sum = R.sum := by rw [sum_perm (h.perm.map _), range_map]
/-- Those that are picked have a rest. -/
theorem IsOrd.rest_pos (h : IsOrd R O) {m : Nat} (hS : 0 < S) (hR : ∀ x ∈ R, 0 ≤ x ∧ x < S) (hm : S * m = R.sum) {k : Nat} (hk : k < m) (hk2 : k < O.length) : 0 < keyOf R O[k] := by
  have hb : ∀ i ∈ O, 0 ≤ keyOf R i ∧ keyOf R i ≤ S - 1 := fun i hi => by
    have h0 := h.range i hi
    unfold keyOf
    rw [List.getD_eq_getElem?_getD, List.getElem?_eq_getElem (by omega)]
    have := hR _ (List.getElem_mem (show i.toNat < R.length by omega))
    simp only [Option.getD_some]; omega
  refine Int.not_le.1 fun hle => ?_
  have hsum := h.sum
  rw [← hm, ← List.take_append_drop k O, List.map_append] at hsum
  have hs2 : ∀ V : List Int, (∀ i ∈ V, 0 ≤ keyOf R i ∧ keyOf R i ≤ S - 1) → (V.map (keyOf R)).sum ≤ V.length * (S - 1) := by
    intro V hV
    induction V with
    | nil => simp
    | cons v V ih =>
      have h1 := hV v (by simp)
      have h2 := ih (fun i hi => hV i (by simp [hi]))
      have e : ((V.length + 1 : Nat) : Int) * (S - 1) = V.length * (S - 1) + (S - 1) := by rw [Int.natCast_add, Int.add_mul]; simp
      simp only [List.map_cons, List.sum_cons, List.length_cons, e]; omega
  have hs0 : ∀ V : List Int, (∀ i ∈ V, keyOf R i ≤ 0) → (V.map (keyOf R)).sum ≤ 0 := by
    intro V hV
    induction V with
    | nil => simp
    | cons v V ih =>
      have h1 := hV v (by simp)
      have h2 := ih (fun i hi => hV i (by simp [hi]))
      simp only [List.map_cons, List.sum_cons]; omega
  have h1 := hs2 (O.take k) (fun i hi => hb i (List.mem_of_mem_take hi))
  have h2 := hs0 (O.drop k) (fun i hi => by
    obtain ⟨u, hu, rfl⟩ := List.mem_iff_getElem.1 hi
    rw [List.getElem_drop]
    simp only [List.length_drop] at hu
    rcases Nat.eq_zero_or_pos u with q | q
    · subst q; simpa using hle
    · have := List.pairwise_iff_getElem.1 h.srt k (k + u) hk2 (by omega) (by omega)
      unfold Prec at this
      omega)
  rw [List.sum_append] at hsum
  rw [List.length_take, Nat.min_eq_left (by omega)] at h1
  have e1 : (k : Int) * (S - 1) = S * k - k := by rw [Int.mul_sub, Int.mul_one, Int.mul_comm]
  have e2 : S * ((k : Int) + 1) ≤ S * m := Int.mul_le_mul_of_nonneg_left (by omega) (by omega)
  rw [Int.mul_add, Int.mul_one] at e2
  omega
end Go.Proofs.YtehjalgogjkdlaaDoor

namespace Go.Proofs.YtehjalgogjkdlaaDoor
set_option linter.unusedVariables false
set_option linter.unusedSimpArgs false
open Go.RowKit
variable {t S : Int} {W V Q R O : List Int}
theorem sum_set {l : List Int} {i : Nat} (h : i < l.length) (x : Int) : (l.set i x).sum = l.sum + (x - l.getD i 0) := by
  induction l generalizing i with
  | nil => simp at h
  | cons v l ih =>
    cases i with
    | zero => simp only [List.set_cons_zero, List.sum_cons, List.getD_cons_zero]; omega
    | succ i =>
      simp only [List.set_cons_succ, List.sum_cons, List.getD_cons_succ]
      rw [ih (by simpa using h)]; omega
theorem bump_sum (hr : ∀ i ∈ O, 0 ≤ i ∧ i < Q.length) : (bump Q O).sum = Q.sum + O.length := by
  unfold bump
  induction O generalizing Q with
  | nil => simp
  | cons i O ih =>
    have h0 := hr i (by simp)
    rw [List.foldl_cons, ih (fun x hx => by rw [List.length_set]; exact hr x (by simp [hx])), sum_set (by omega)]
    simp only [List.length_cons]; omega
theorem IsOrd.pick (h : IsOrd R O) {m i k : Nat} (hi : i < R.length) (hk : k < R.length) (hp : Prec (keyOf R) (k : Int) (i : Int)) (hm : (i : Int) ∈ O.take m) : (k : Int) ∈ O.take m := by
  obtain ⟨a, ha, ea⟩ := List.mem_iff_getElem.1 (h.mem hi)
  obtain ⟨c, hc, ec⟩ := List.mem_iff_getElem.1 (h.mem hk)
  obtain ⟨a', ha', ea'⟩ := List.mem_iff_getElem.1 hm
  simp only [List.length_take] at ha'
  rw [List.getElem_take] at ea'
  have haa : a = a' := by
    rcases Nat.lt_trichotomy a a' with q | q | q
    · exact (List.pairwise_iff_getElem.1 h.nodup a a' ha (by omega) q (ea.trans ea'.symm)).elim
    · exact q
    · exact (List.pairwise_iff_getElem.1 h.nodup a' a (by omega) ha q (ea'.trans ea.symm)).elim
  subst haa
  have hca : c < a := by
    rcases Nat.lt_trichotomy c a with q | q | q
    · exact q
    · subst q; rw [ec] at ea; have : k = i := by omega
      subst this; exact (hp.asymm hp).elim
    · have := List.pairwise_iff_getElem.1 h.srt a c ha hc q
      rw [ea, ec] at this
      exact (this.asymm hp).elim
  exact List.mem_iff_getElem.2 ⟨c, by simp; omega, by rw [List.getElem_take]; exact ec⟩
theorem key_at {t : Int} {j : Nat} (hj : j < W.length) : keyOf (shR t W) (j : Int) = rst t (effS W) ((effW W).getD j 0) := by
  unfold keyOf shR
  rw [Int.toNat_natCast, List.getD_eq_getElem?_getD, List.getD_eq_getElem?_getD, List.getElem?_map, List.getElem?_eq_getElem (by rw [effW_len]; exact hj)]
  rfl
theorem quo_at {t : Int} {j : Nat} (hj : j < W.length) : (shQ t W).getD j 0 = quo t (effS W) ((effW W).getD j 0) := by
  unfold shQ
  rw [List.getD_eq_getElem?_getD, List.getD_eq_getElem?_getD, List.getElem?_map, List.getElem?_eq_getElem (by rw [effW_len]; exact hj)]
  rfl
theorem eff_at {j : Nat} (hj : j < W.length) : (effW W).getD j 0 = if W.sum = 0 then 1 else W.getD j 0 := by
  unfold effW
  split
  · rw [List.getD_eq_getElem?_getD, List.getElem?_map, List.getElem?_eq_getElem hj]; rfl
  · rfl
theorem shR_pos (hS : 0 < effS W) : ∀ x ∈ shR t W, 0 ≤ x ∧ x < effS W := by
  intro x hx
  obtain ⟨v, _, rfl⟩ := List.mem_map.1 hx
  exact ⟨Int.emod_nonneg _ (by omega), Int.emod_lt_of_pos _ hS⟩
/-- The shares. -/
def shares (t : Int) (W O : List Int) : List Int := bump (shQ t W) (O.take (leftOf t W).toNat)
theorem shares_len : (shares t W O).length = W.length := by unfold shares; rw [bump_len, shQ_len]
theorem IsOrd.shares_at (h : IsOrd (shR t W) O) {j : Nat} (hj : j < W.length) :
    (shares t W O).getD j 0 = quo t (effS W) ((effW W).getD j 0) + (if (j : Int) ∈ O.take (leftOf t W).toNat then 1 else 0) := by
  unfold shares
  rw [bump_at (h.nodup.sublist (List.take_sublist _ _)) (fun i hi => (h.range i (List.mem_of_mem_take hi)).1) j (by rw [shQ_len]; exact hj), quo_at hj]
theorem IsOrd.shares_sum (h : IsOrd (shR t W) O) (hW : ∀ w ∈ W, 0 ≤ w) (hn : W = [] → t = 0) : (shares t W O).sum = t := by
  obtain ⟨h1, h2⟩ := left_bounds hW hn
  unfold shares
  rw [bump_sum (fun i hi => by have := h.range i (List.mem_of_mem_take hi); rw [shR_len] at this; rw [shQ_len]; exact this), List.length_take, h.len, shR_len, Nat.min_eq_left (by omega)]
  unfold leftOf at *
  omega
theorem IsOrd.shares_exact (h : IsOrd (shR t W) O) (hW : ∀ w ∈ W, 0 ≤ w) (hn : W = [] → t = 0) {j : Nat} (hj : j < W.length) (h0 : rst t (effS W) ((effW W).getD j 0) = 0) : ¬ (j : Int) ∈ O.take (leftOf t W).toNat := by
  obtain ⟨h1, h2⟩ := left_bounds hW hn
  have hS := effS_pos hW (by rintro rfl; simp at hj)
  intro hm
  obtain ⟨k, hk, e⟩ := List.mem_iff_getElem.1 hm
  simp only [List.length_take] at hk
  rw [List.getElem_take] at e
  have := h.rest_pos (m := (leftOf t W).toNat) hS (shR_pos hS) (by rw [Int.toNat_of_nonneg h1]; exact left_law) (k := k) (by omega) (by omega)
  rw [e, key_at hj, h0] at this
  exact Int.lt_irrefl _ this
theorem quo_mono {u v : Int} (hS : 0 < S) (ht : 0 ≤ t) (h : u ≤ v) : quo t S u < quo t S v ∨ (quo t S u = quo t S v ∧ rst t S u ≤ rst t S v ∧ (rst t S u = rst t S v → t * u = t * v)) := by
  have h1 : t * u ≤ t * v := Int.mul_le_mul_of_nonneg_left h ht
  have h2 := Int.ediv_le_ediv hS h1
  have a := Int.mul_ediv_add_emod (t * u) S
  have b := Int.mul_ediv_add_emod (t * v) S
  unfold quo rst
  rcases Int.lt_or_eq_of_le h2 with q | q
  · exact Or.inl q
  · rw [q] at a ⊢
    exact Or.inr ⟨rfl, by omega, by omega⟩
/-- A greater weight has no smaller share. -/
theorem IsOrd.shares_mono (h : IsOrd (shR t W) O) (ht : 0 ≤ t) (hW : ∀ w ∈ W, 0 ≤ w) (hn : W = [] → t = 0) {i k : Nat} (hi : i < W.length) (hk : k < W.length) (hw : W.getD i 0 < W.getD k 0 ∨ (W.getD i 0 = W.getD k 0 ∧ k < i)) :
    (shares t W O).getD i 0 ≤ (shares t W O).getD k 0 := by
  have hS := effS_pos hW (by rintro rfl; simp at hi)
  rw [h.shares_at hi, h.shares_at hk]
  have he : (effW W).getD i 0 ≤ (effW W).getD k 0 := by
    rw [eff_at hi, eff_at hk]
    split <;> omega
  rcases quo_mono hS ht he with q | ⟨q1, q2, q3⟩
  · split <;> split <;> omega
  · rw [q1]
    by_cases hp : (i : Int) ∈ O.take (leftOf t W).toNat
    · have hpk : (k : Int) ∈ O.take (leftOf t W).toNat := by
        refine h.pick (i := i) (by rw [shR_len]; exact hi) (by rw [shR_len]; exact hk) ?_ hp
        unfold Prec
        rw [key_at hi, key_at hk]
        by_cases hr : rst t (effS W) ((effW W).getD i 0) = rst t (effS W) ((effW W).getD k 0)
        · right
          refine ⟨hr, ?_⟩
          rcases hw with hw | ⟨_, hw⟩
          · exfalso
            have hsum : W.sum ≠ 0 := by
              intro e
              have hkm : W.getD k 0 ∈ W := by rw [List.getD_eq_getElem?_getD, List.getElem?_eq_getElem hk]; exact List.getElem_mem hk
              have him : W.getD i 0 ∈ W := by rw [List.getD_eq_getElem?_getD, List.getElem?_eq_getElem hi]; exact List.getElem_mem hi
              have h1 := mem_le_sum hW hkm
              have h2 := hW _ him
              omega
            have e := q3 hr
            rw [eff_at hi, eff_at hk, if_neg hsum, if_neg hsum] at e
            have ht0 : t = 0 := by
              refine Int.le_antisymm (Int.not_lt.1 fun hlt => ?_) ht
              have := Int.mul_lt_mul_of_pos_left hw hlt
              omega
            have hl : (leftOf t W).toNat = 0 := by
              have := left_law (t := t) (W := W)
              have hz : (shR t W).sum = 0 := by
                unfold shR
                rw [ht0]
                have : ∀ V : List Int, (V.map (rst 0 (effS W))).sum = 0 := by
                  intro V
                  induction V with
                  | nil => rfl
                  | cons v V ih => simp only [List.map_cons, List.sum_cons, ih, rst]; simp
                exact this _
              rw [hz] at this
              rcases Int.mul_eq_zero.1 this with q | q <;> omega
            rw [hl] at hp
            simp at hp
          · omega
        · left; omega
      rw [if_pos hp, if_pos hpk]
      omega
    · rw [if_neg hp]; split <;> omega
end Go.Proofs.YtehjalgogjkdlaaDoor

namespace Go.Proofs.YtehjalgogjkdlaaDoor
set_option linter.unusedVariables false
set_option linter.unusedSimpArgs false
open Go.RowKit
/-- The block b holds just the ints of l. -/
def IB (w : World) (b : Nat) (l : List Int) : Prop := w.heap[b]? = some (.cells (l.map (Value.int .i64)).toArray 3)
variable {w w' : World} {b : Nat} {l : List Int}
theorem IB.cell (h : IB w b l) {k : Nat} {x : Int} (hx : l[k]? = some x) : w.cell? ⟨b, k, none⟩ = some (.int .i64 x) := by rw [blk_cell h]; simp [hx]
theorem IB.lt (h : IB w b l) : b < w.heap.size := lt_of_heap h
theorem IB.keep {S : List Nat} (h : IB w b l) (hc : Chg S w w') (hn : b ∉ S) : IB w' b l := hc.at hn h
theorem IB.set (h : IB w b l) (i : Nat) (x : Int) : IB (w.setCell ⟨b, i, none⟩ (.int .i64 x)) b (l.set i x) := by
  have := blk_set h i (.int .i64 x)
  unfold IB
  rw [this]
  congr 2
  apply Array.ext'
  simp
theorem IB.swp (h : IB w b l) {i j : Nat} {x y : Int} (hx : l[i]? = some x) (hy : l[j]? = some y) : IB ((w.setCell ⟨b, i, none⟩ (.int .i64 y)).setCell ⟨b, j, none⟩ (.int .i64 x)) b (swp l i j) := by
  have := (h.set i y).set j x
  unfold Go.Proofs.YtehjalgogjkdlaaDoor.swp
  rw [List.getD_eq_getElem?_getD, List.getD_eq_getElem?_getD, hx, hy]
  exact this
theorem IB.set_cell (h : IB w b l) {i j : Nat} {y : Int} (hy : l[j]? = some y) : (w.setCell ⟨b, i, none⟩ (.int .i64 y)).cell? ⟨b, j, none⟩ = some (.int .i64 y) := by
  refine (h.set i y).cell ?_
  rw [List.getElem?_set]
  split
  · rename_i e
    subst e
    rw [if_pos (List.getElem?_eq_some_iff.1 hy).1]
  · exact hy
theorem wrapI {a : Int} (h1 : -9223372036854775808 ≤ a) (h2 : a < 9223372036854775808) : IntKind.i64.wrap a = a := by rw [IntKind.wrap_i64]; omega
/-- Two ranges, the first k places of which have been exchanged. -/
def FS (A X B Y C : List Int) (k : Nat) : List Int := A ++ (Y.take k ++ X.drop k) ++ B ++ (X.take k ++ Y.drop k) ++ C
theorem FS_zero (A X B Y C : List Int) : FS A X B Y C 0 = A ++ X ++ B ++ Y ++ C := by simp [FS]
theorem FS_all (A X B Y C : List Int) (h : X.length = Y.length) : FS A X B Y C X.length = A ++ Y ++ B ++ X ++ C := by
  unfold FS
  rw [List.take_of_length_le (show Y.length ≤ X.length by omega), List.drop_length, List.take_length, List.drop_of_length_le (show Y.length ≤ X.length by omega)]
  simp
theorem drop_at {X : List Int} {k : Nat} {x : Int} (hx : X[k]? = some x) : X.drop k = x :: X.drop (k + 1) := by
  obtain ⟨h, rfl⟩ := List.getElem?_eq_some_iff.1 hx
  exact List.drop_eq_getElem_cons h
theorem take_at {X : List Int} {k : Nat} {x : Int} (hx : X[k]? = some x) : X.take (k + 1) = X.take k ++ [x] := by
  obtain ⟨h, rfl⟩ := List.getElem?_eq_some_iff.1 hx
  exact List.take_succ_eq_append_getElem h
theorem len_at {X : List Int} {k : Nat} {x : Int} (hx : X[k]? = some x) : k < X.length := (List.getElem?_eq_some_iff.1 hx).1
theorem FS_split {A X B Y C : List Int} {k : Nat} {x y : Int} (hx : X[k]? = some x) (hy : Y[k]? = some y) : FS A X B Y C k = (A ++ Y.take k) ++ x :: (X.drop (k + 1) ++ B ++ X.take k) ++ y :: (Y.drop (k + 1) ++ C) := by
  unfold FS
  rw [drop_at hx, drop_at hy]
  simp only [List.append_assoc, List.cons_append]
theorem FS_x {A X B Y C : List Int} {k : Nat} {x y : Int} (hx : X[k]? = some x) (hy : Y[k]? = some y) {i : Nat} (hi : A.length + k = i) : (FS A X B Y C k)[i]? = some x := by
  have h2 := len_at hy
  rw [FS_split hx hy, List.append_assoc, ← hi]
  rw [List.getElem?_append_right (by simp; omega), List.length_append, List.length_take, Nat.min_eq_left (by omega), Nat.sub_self]
  rfl
theorem FS_y {A X B Y C : List Int} {k : Nat} {x y : Int} (hx : X[k]? = some x) (hy : Y[k]? = some y) {j : Nat} (hj : A.length + X.length + B.length + k = j) : (FS A X B Y C k)[j]? = some y := by
  have h1 := len_at hx
  have h2 := len_at hy
  rw [FS_split hx hy]
  rw [List.getElem?_append_right (by simp; omega)]
  simp only [List.length_append, List.length_take, List.length_cons, List.length_drop]
  rw [show j - (A.length + min k Y.length + (X.length - (k + 1) + B.length + min k X.length + 1)) = 0 by omega]
  rfl
theorem FS_next {A X B Y C : List Int} {k : Nat} {x y : Int} (hx : X[k]? = some x) (hy : Y[k]? = some y) {i j : Nat} (hi : A.length + k = i) (hj : A.length + X.length + B.length + k = j) : swp (FS A X B Y C k) i j = FS A X B Y C (k + 1) := by
  have h1 := len_at hx
  have h2 := len_at hy
  rw [FS_split hx hy, swp_far _ _ _ _ _ (i := i) (by simp; omega) (by simp; omega)]
  unfold FS
  rw [take_at hx, take_at hy]
  simp only [List.append_assoc, List.cons_append, List.nil_append]
theorem FS_len (A X B Y C : List Int) (k : Nat) (h : X.length = Y.length) : (FS A X B Y C k).length = A.length + X.length + B.length + Y.length + C.length := by
  unfold FS; simp; omega
set_option maxHeartbeats 4000000 in
set_option maxRecDepth 100000 in
theorem swpr_any (A X B Y C : List Int) (cap p q n N : Nat) (f : Value) (h : IB w b (A ++ X ++ B ++ Y ++ C)) (hXY : X.length = Y.length) (hp : A.length = p) (hn : X.length = n) (hq : p + n + B.length = q) (hN : q + n + C.length = N) (hM : N ≤ 1000000) :
    Calls Tryd.prog 70 #[.slice (some ⟨b, 0, none⟩) N cap, .int .i64 p, .int .i64 q, .int .i64 n, f] w fun e w' => e = .returned (.tuple #[]) ∧ IB w' b (A ++ Y ++ B ++ X ++ C) ∧ Chg [b] w w' := by
  have H0 := Lib.hid (show IB w b (FS A X B Y C 0) by rw [FS_zero]; exact h)
  have HX := Lib.hid hXY
  have HP := Lib.hid hp
  have HN := Lib.hid hn
  have HQ := Lib.hid hq
  have hq1 : p + n ≤ q := by omega
  have hN1 : q + n ≤ N := by omega
  clear h hXY hp hn hq hN
  go_enter Tryd.func70, Tryd.ntmps70
  go_wp2_with fail
  go_loopw [10] (fun i wr => ∃ k : Nat, i = .int .i64 k ∧ k ≤ n ∧ Hid (IB wr b (FS A X B Y C k)) ∧ Hid (Chg [b] w wr)) (fun i _ => n - (intOf i).toNat)
  case atStart => exact ⟨0, rfl, Nat.zero_le _, H0, Lib.hid (Chg.refl _ _)⟩
  case round =>
    obtain ⟨k, rfl, hk, HI, HC⟩ := hrel
    by_cases hkn : k < n
    · obtain ⟨x, hx⟩ : ∃ x, X[k]? = some x := ⟨X[k]'(by rw [HN.out]; exact hkn), List.getElem?_eq_getElem _⟩
      obtain ⟨y, hy⟩ : ∃ y, Y[k]? = some y := ⟨Y[k]'(by rw [← HX.out, HN.out]; exact hkn), List.getElem?_eq_getElem _⟩
      obtain ⟨i, ei⟩ : ∃ i, i = p + k := ⟨_, rfl⟩
      obtain ⟨j, ej⟩ : ∃ j, j = q + k := ⟨_, rfl⟩
      have hi : A.length + k = i := by rw [HP.out, ei]
      have hj : A.length + X.length + B.length + k = j := by rw [HP.out, HN.out, HQ.out, ej]
      have HZ := Lib.hid ((FS_next (C := C) hx hy hi hj ▸ HI.out.swp (FS_x hx hy hi) (FS_y hx hy hj)).keep (Chg.refl [] _).drew (by simp))
      have HC2 := Lib.hid (show Chg [b] w ((wr.setCell ⟨b, i, none⟩ (.int .i64 y)).setCell ⟨b, j, none⟩ (.int .i64 x)).drew from ((HC.out.setCell _ _ (by simp)).setCell _ _ (by simp)).drew)
      have c1 := HI.out.cell (FS_x hx hy hi)
      have c2 := HI.out.cell (FS_y hx hy hj)
      have c3 := HI.out.set_cell (i := i) (FS_y hx hy hj)
      have lb := HI.out.lt
      have fz := blk_free HI.out
      have z1 : IntKind.i64.wrap ((p : Int) + (k : Int)) = (i : Int) := by rw [wrapI (by omega) (by omega)]; omega
      have z2 : IntKind.i64.wrap ((q : Int) + (k : Int)) = (j : Int) := by rw [wrapI (by omega) (by omega)]; omega
      have g1 : (i : Int) < (N : Int) := by omega
      have g2 : (j : Int) < (N : Int) := by omega
      have g3 : (0 : Int) ≤ (i : Int) := by omega
      have g4 : (0 : Int) ≤ (j : Int) := by omega
      clear hx hy hi hj ei ej
      go_wp2_with fail
      go_region_law (fail)
      all_goals
        go_wp2_with fail
        exact ⟨⟨k + 1, by go_num, by omega, HZ, HC2⟩, by simp [intOf]; omega⟩
    · have hke : k = n := by omega
      clear hk hkn
      subst hke
      go_wp2_with fail
      go_end0
      exact ⟨rfl, FS_all A X B Y C HX.out ▸ HN.out ▸ HI.out, HC.out⟩
end Go.Proofs.YtehjalgogjkdlaaDoor

namespace Go.Proofs.YtehjalgogjkdlaaDoor
set_option linter.unusedVariables false
set_option linter.unusedSimpArgs false
open Go.RowKit
variable {w w' : World} {b : Nat} {l : List Int} {K : Int → Int} {x y : Int}
def cmpZ (u v : Int) : Int := if u < v then -1 else if v < u then 1 else 0
theorem cmpZ_neg {u v : Int} : cmpZ u v < 0 ↔ u < v := by unfold cmpZ; split <;> (try split) <;> omega
/-- The comparison's contract, wherever only the block b has turned: cmp(x, y) compares the keys, y's first. -/
def CmpOk (w : World) (b N : Nat) (K : Int → Int) (rb : Nat) : Prop := ∀ (x y : Int) (w' : World), 0 ≤ x → x < N → 0 ≤ y → y < N → Chg [b] w w' →
  Calls Tryd.prog 14 #[.int .i64 x, .int .i64 y, .pointer (some ⟨rb, 0, none⟩)] w' fun e w'' => e = .returned (.int .i64 (cmpZ (K y) (K x))) ∧ Chg [] w' w''
theorem CmpOk.on {N rb : Nat} (h : CmpOk w b N K rb) (hc : Chg [b] w w') : CmpOk w' b N K rb := fun x y w'' h1 h2 h3 h4 h5 => h x y w'' h1 h2 h3 h4 (hc.thenSame h5)
def InR (N : Nat) (l : List Int) : Prop := ∀ x ∈ l, 0 ≤ x ∧ x < N
theorem InR.perm {N : Nat} {A B : List Int} (h : InR N A) (p : B.Perm A) : InR N B := fun x hx => h x (p.mem_iff.1 hx)
/-- What the inner loop of the insertion keeps: x stands behind Y1. -/
structure InsI (K : Int → Int) (T : List Int) (x : Int) (Y1 Y2 : List Int) : Prop where
  srt : Srt K (Y1 ++ Y2)
  perm : (Y1 ++ Y2).Perm T
  after : ∀ y ∈ Y2, Prec K x y
theorem InsI.step {T Z Y2 : List Int} (h : InsI K T x (Z ++ [y]) Y2) (hp : Prec K x y) : InsI K T x Z (y :: Y2) :=
  ⟨by simpa using h.srt, by simpa using h.perm, fun u hu => by rcases List.mem_cons.1 hu with rfl | hu; exact hp; exact h.after u hu⟩
theorem InsI.done {T Y1 Y2 : List Int} (h : InsI K T x Y1 Y2) (hp : Y1 = [] ∨ ∃ Z y, Y1 = Z ++ [y] ∧ Prec K y x) : Srt K (Y1 ++ x :: Y2) ∧ (Y1 ++ x :: Y2).Perm (T ++ [x]) := by
  refine ⟨srt_put h.srt (fun u hu => ?_) h.after, ?_⟩
  · rcases hp with rfl | ⟨Z, y, rfl, hp⟩
    · exact nomatch hu
    · rcases List.mem_append.1 hu with hu | hu
      · have := (srt_append.1 (srt_append.1 h.srt).1).2.2 u hu y (by simp)
        exact this.trans hp
      · rw [List.mem_singleton.1 hu]; exact hp
  · exact List.perm_middle.trans ((List.Perm.cons x h.perm).trans (List.perm_append_comm (l₁ := [x])))
theorem snoc_cases (Y : List Int) : Y = [] ∨ ∃ Z y, Y = Z ++ [y] := by
  rcases List.eq_nil_or_concat Y with h | ⟨Z, y, h⟩
  · exact Or.inl h
  · exact Or.inr ⟨Z, y, by simpa using h⟩
/-- The block while x is carried down: it stands at j. -/
def InsS (K : Int → Int) (w : World) (b : Nat) (A R T : List Int) (x : Int) (a j : Nat) : Prop := ∃ Y1 Y2 : List Int, IB w b (A ++ Y1 ++ x :: (Y2 ++ R)) ∧ a + Y1.length = j ∧ InsI K T x Y1 Y2
set_option maxHeartbeats 8000000 in
set_option maxRecDepth 100000 in
theorem insc_any (A X B : List Int) (cap a e N M rb : Nat) (h : IB w b (A ++ X ++ B)) (ha : A.length = a) (he : a + X.length = e) (hN : e + B.length = N) (hM : N ≤ 1000000) (hX : X.Pairwise (· < ·)) (hR : InR M X) (hc : CmpOk w b M K rb) :
    Calls Tryd.prog 48 #[.slice (some ⟨b, 0, none⟩) N cap, .int .i64 a, .int .i64 e, .func (.func 14) #[] #[.pointer (some ⟨rb, 0, none⟩)]] w fun r w' => r = .returned (.tuple #[]) ∧ (∃ Y : List Int, IB w' b (A ++ Y ++ B) ∧ Y.Perm X ∧ Srt K Y) ∧ Chg [b] w w' := by
  have HI := Lib.hid h
  have HA := Lib.hid ha
  have HE := Lib.hid he
  have HN := Lib.hid hN
  have HX := Lib.hid hX
  have HR := Lib.hid hR
  have HC := Lib.hid hc
  have he1 : a ≤ e := by omega
  have hN1 : e ≤ N := by omega
  clear h ha he hN hX hR hc
  go_enter Tryd.func48, Tryd.ntmps48
  go_wp2_with fail
  go_loopw [8] (fun i wr => ∃ k : Nat, i = .int .i64 k ∧ a < k ∧ (k ≤ e ∨ k = a + 1) ∧ Hid (∃ Y : List Int, IB wr b (A ++ Y ++ (X.drop (k - a) ++ B)) ∧ Y.Perm (X.take (k - a)) ∧ Srt K Y) ∧ Hid (Chg [b] w wr)) (fun i _ => e + 1 - (intOf i).toNat)
  case atStart =>
    refine ⟨a + 1, by go_num, by omega, Or.inr rfl, Lib.hid ⟨X.take 1, ?_, ?_, ?_⟩, Lib.hid (Chg.refl _ _)⟩
    · rw [Nat.add_sub_cancel_left, ← List.append_assoc, List.append_assoc A, List.take_append_drop]; exact HI.out
    · rw [Nat.add_sub_cancel_left]
    · cases X with
      | nil => exact List.Pairwise.nil
      | cons u X => exact List.pairwise_singleton _ _
  case round =>
    obtain ⟨k, rfl, hk1, hk2, HY, HC1⟩ := hrel
    by_cases hke : k < e
    · obtain ⟨x, hx⟩ : ∃ x, X[k - a]? = some x := ⟨X[k - a]'(by have := HE.out; omega), List.getElem?_eq_getElem _⟩
      have hxl := len_at hx
      have hxm : x ∈ X := List.mem_of_getElem? hx
      obtain ⟨R, hRd⟩ : ∃ R, R = X.drop (k - a + 1) ++ B := ⟨_, rfl⟩
      have hRl : k + 1 + R.length = N := by rw [hRd]; have h1 := HE.out; have h2 := HN.out; simp; omega
      have H0 := Lib.hid (show InsS K wr b A R (X.take (k - a)) x a k from by
        obtain ⟨Y, y1, y2, y3⟩ := HY.out
        refine ⟨Y, [], ?_, ?_, ⟨by simpa using y3, by simpa using y2, fun _ h => nomatch h⟩⟩
        · rw [drop_at hx] at y1; rw [hRd]; simpa using y1
        · rw [y2.length_eq, List.length_take]; omega)
      have HD := Lib.hid (show ∀ (w' : World) (j : Nat) (Y1 Y2 : List Int), IB w' b (A ++ Y1 ++ x :: (Y2 ++ R)) → InsI K (X.take (k - a)) x Y1 Y2 → (Y1 = [] ∨ ∃ Z y, Y1 = Z ++ [y] ∧ Prec K y x) → ∃ Y : List Int, IB w' b (A ++ Y ++ (X.drop (k + 1 - a) ++ B)) ∧ Y.Perm (X.take (k + 1 - a)) ∧ Srt K Y from fun w' j Y1 Y2 i1 i2 i3 => by
        obtain ⟨d1, d2⟩ := i2.done i3
        have e1 : k + 1 - a = k - a + 1 := by omega
        rw [e1, ← hRd, take_at hx]
        exact ⟨Y1 ++ x :: Y2, by simpa using i1, d2, d1⟩)
      have HLow := Lib.hid (show ∀ y ∈ X.take (k - a), y < x ∧ 0 ≤ y ∧ y < M from fun y hy => by
        obtain ⟨u, hu, e⟩ := List.mem_iff_getElem.1 hy
        simp only [List.length_take] at hu
        rw [List.getElem_take] at e
        obtain ⟨hl, rfl⟩ := List.getElem?_eq_some_iff.1 hx
        have := List.pairwise_iff_getElem.1 HX.out u (k - a) (by omega) hl (by omega)
        rw [e] at this
        exact ⟨this, HR.out y (List.mem_of_mem_take hy)⟩)
      have hx0 := HR.out x hxm
      generalize X.take (k - a) = T at *
      clear hx hxl hxm hRd HY
      go_wp2_with fail
      go_loopw [9] (fun jv wr => ∃ j : Nat, jv = .int .i64 j ∧ a ≤ j ∧ j ≤ k ∧ Hid (InsS K wr b A R T x a j) ∧ Hid (Chg [b] w wr)) (fun jv _ => (intOf jv).toNat)
      case atStart => exact ⟨k, rfl, by omega, by omega, H0, HC1⟩
      case round =>
        obtain ⟨j, rfl, hj1, hj2, HS, HC2⟩ := hrel
        obtain ⟨Y1, Y2, i1, i2, i3⟩ := HS.out
        by_cases hj : a < j
        · obtain ⟨Z, y, rfl⟩ : ∃ Z y, Y1 = Z ++ [y] := by
            rcases snoc_cases Y1 with rfl | h
            · simp at i2; omega
            · exact h
          obtain ⟨i, ei⟩ : ∃ i, j = i + 1 := ⟨j - 1, by omega⟩
          simp only [List.length_append, List.length_cons, List.length_nil] at i2
          have hyT := HLow.out y (i3.perm.mem_iff.1 (by simp))
          have e0 : A ++ (Z ++ [y]) ++ x :: (Y2 ++ R) = (A ++ Z) ++ y :: x :: (Y2 ++ R) := by simp
          rw [e0] at i1
          have hAZ : (A ++ Z).length = i := by have := HA.out; simp; omega
          have hzy : ((A ++ Z) ++ y :: x :: (Y2 ++ R))[i]? = some y := by rw [List.getElem?_append_right (by omega), hAZ]; simp
          have hzx : ((A ++ Z) ++ y :: x :: (Y2 ++ R))[j]? = some x := by rw [List.getElem?_append_right (by omega), hAZ, ei]; simp
          have c1 := i1.cell hzx
          have c2 := i1.cell hzy
          have lb := i1.lt
          have q1 := fun d os => ((below_regrown wr d os).cell (p := ⟨b, j, none⟩) lb).trans c1
          have q2 := fun d os => ((below_regrown wr d os).cell (p := ⟨b, i, none⟩) lb).trans c2
          have B8 := Lib.hid (show ∀ d os, Calls Tryd.prog 14 #[.int .i64 x, .int .i64 y, .pointer (some ⟨rb, 0, none⟩)] (Go.Sort.grow (redrawn wr d) os) fun e w'' => e = .returned (.int .i64 (cmpZ (K y) (K x))) ∧ ∃ p : Regrown, w'' = Go.Sort.grow (redrawn wr p.d) p.os from
            fun d os => calls_regrown (HC.out x y _ hx0.1 hx0.2 hyT.2.1 hyT.2.2 (HC2.out.thenSame ((chg_regrown wr d os).mono (by simp)))))
          have hcz := cmpZ_neg (u := K y) (v := K x)
          have hpr := prec_lt (K := K) hyT.1
          have z1 : IntKind.i64.wrap ((j : Int) - 1) = (i : Int) := by rw [wrapI (by omega) (by omega)]; omega
          have g1 : (i : Int) < (N : Int) := by omega
          have g2 : (j : Int) < (N : Int) := by omega
          have g3 : (0 : Int) ≤ (i : Int) := by omega
          have g4 : (0 : Int) ≤ (j : Int) := by omega
          have hja : (a : Int) < (j : Int) := by omega
          have I1 := Lib.hid i1
          have I3 := Lib.hid i3
          have E0 := Lib.hid e0
          have HAZ := Lib.hid hAZ
          have ZX := Lib.hid hzx
          have ZY := Lib.hid hzy
          have EI := Lib.hid ei
          have I2 := Lib.hid i2
          generalize cmpZ (K y) (K x) = r at *
          clear i1 i2 i3 e0 hAZ hzy hzx c1 c2 hyT ei HS
          by_cases ht : K y < K x
          · have hr : r < 0 := hcz.2 ht
            have HP := Lib.hid (hpr.2 ht)
            clear hcz hpr ht
            go_wp2_with fail
            refine wp_region_quiet_below (by kernel_rfl) (by kernel_rfl) ?_
            repeat (any_goals (first | go_big_quiet_step (exact B8.out _ _) | quiet_step (exact B8.out _ _)))
            refine wpQuiet_nil ?_
            intro _ hw'
            obtain ⟨⟨dq, osq⟩, hw''⟩ := hw'
            subst hw''
            change Exit.then _ _ Exit.normal _ (Go.Sort.grow (redrawn wr dq) osq)
            have K2 := Lib.hid (HC2.out.thenSame ((chg_regrown wr dq osq).mono (by simp) : Chg [b] _ _))
            have I4 := Lib.hid (I1.out.keep (chg_regrown wr dq osq) (by simp))
            generalize Go.Sort.grow (redrawn wr dq) osq = W2 at *
            have c1 := I4.out.cell ZX.out
            have c2 := I4.out.cell ZY.out
            have c3 := I4.out.set_cell (i := j) ZY.out
            have lb := I4.out.lt
            have fz := blk_free I4.out
            have HZ := Lib.hid (show InsS K ((W2.setCell ⟨b, j, none⟩ (.int .i64 y)).setCell ⟨b, i, none⟩ (.int .i64 x)).drew b A R T x a i from by
              have h1 := (I4.out.swp ZX.out ZY.out).keep (Chg.refl [] _).drew (by simp)
              rw [EI.out, swp_prev _ _ _ _ HAZ.out] at h1
              exact ⟨Z, y :: Y2, by rw [EI.out]; simpa using h1, by have := I2.out; have := EI.out; omega, I3.out.step HP.out⟩)
            have HC3 := Lib.hid (show Chg [b] w ((W2.setCell ⟨b, j, none⟩ (.int .i64 y)).setCell ⟨b, i, none⟩ (.int .i64 x)).drew from ((K2.out.setCell _ _ (by simp)).setCell _ _ (by simp)).drew)
            have ej := Lib.hid (show i < j ∧ a ≤ i from by have := EI.out; omega)
            clear q1 q2 B8 HLow HAZ
            go_wp2_with fail
            go_region_law (fail)
            all_goals
              go_wp2_with fail
              exact ⟨⟨i, rfl, ej.out.2, by have := ej.out.1; omega, HZ, HC3⟩, by have := ej.out.1; simp [intOf]; omega⟩
          · have hr : ¬ r < 0 := fun h => ht (hcz.1 h)
            have HP := Lib.hid ((prec_nlt (K := K) (HLow.out y (I3.out.perm.mem_iff.1 (by simp))).1).1 ht)
            clear hcz hpr ht
            go_wp2_with fail
            refine wp_region_quiet_below (by kernel_rfl) (by kernel_rfl) ?_
            repeat (any_goals (first | go_big_quiet_step (exact B8.out _ _) | quiet_step (exact B8.out _ _)))
            refine wpQuiet_nil ?_
            intro _ hw'
            obtain ⟨⟨dq, osq⟩, hw''⟩ := hw'
            subst hw''
            change Exit.then _ _ Exit.normal _ (Go.Sort.grow (redrawn wr dq) osq)
            have K2 := Lib.hid (HC2.out.thenSame ((chg_regrown wr dq osq).mono (by simp) : Chg [b] _ _))
            have I4 := Lib.hid (I1.out.keep (chg_regrown wr dq osq) (by simp))
            generalize Go.Sort.grow (redrawn wr dq) osq = W2 at *
            have HY := Lib.hid (HD.out W2 j (Z ++ [y]) Y2 (by rw [E0.out]; exact I4.out) I3.out (Or.inr ⟨Z, y, rfl, HP.out⟩))
            clear q1 q2 B8 HLow HAZ
            go_wp2_with fail
            exact ⟨⟨k + 1, by go_num, by omega, Or.inl (by omega), HY, K2⟩, by simp [intOf]; omega⟩
        · have hja : j = a := by omega
          have I1 := Lib.hid i1
          have I3 := Lib.hid i3
          have hY1 : Y1 = [] := List.length_eq_zero_iff.1 (by omega)
          have hjd : ¬ ((a : Int) < (j : Int)) := by omega
          have HY1 := Lib.hid hY1
          clear i1 i2 i3 HLow hja hY1
          go_wp2_with fail
          refine wp_region_quiet_below (by kernel_rfl) (by kernel_rfl) ?_
          repeat (any_goals (first | go_big_quiet_step (fail) | quiet_step (fail)))
          refine wpQuiet_nil ?_
          intro _ hw'
          obtain ⟨⟨dq, osq⟩, hw''⟩ := hw'
          subst hw''
          change Exit.then _ _ Exit.normal _ (Go.Sort.grow (redrawn wr dq) osq)
          have K2 := Lib.hid (HC2.out.thenSame ((chg_regrown wr dq osq).mono (by simp) : Chg [b] _ _))
          have I4 := Lib.hid (I1.out.keep (chg_regrown wr dq osq) (by simp))
          generalize Go.Sort.grow (redrawn wr dq) osq = W2 at *
          have HY := Lib.hid (HD.out W2 j Y1 Y2 I4.out I3.out (Or.inl HY1.out))
          go_wp2_with fail
          exact ⟨⟨k + 1, by go_num, by omega, Or.inl (by omega), HY, K2⟩, by simp [intOf]; omega⟩
    · have HY2 := Lib.hid (show ∃ Y : List Int, IB wr b (A ++ Y ++ B) ∧ Y.Perm X ∧ Srt K Y from by
        obtain ⟨Y, y1, y2, y3⟩ := HY.out
        have hl : X.length ≤ k - a := by have := HE.out; omega
        rw [List.drop_of_length_le hl] at y1
        rw [List.take_of_length_le hl] at y2
        exact ⟨Y, by simpa using y1, y2, y3⟩)
      go_wp2_with fail
      go_end0
      exact ⟨rfl, HY2.out, HC1.out⟩
end Go.Proofs.YtehjalgogjkdlaaDoor
