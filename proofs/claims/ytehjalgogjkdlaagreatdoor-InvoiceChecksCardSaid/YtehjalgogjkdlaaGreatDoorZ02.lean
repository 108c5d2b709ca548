/- Chapter 52: contracts of the checks: meter.Valid, meter.Add, those of the reference. No condition. Plain: shares: quotients, rests, the order of the rests, what is given out. No condition. Plain: prices: the first error of a list, tiers, parts, amounts. No condition. Chapter 52: contract of meter.Add. No condition. -/
import Derived.Test.YtehjalgogjkdlaaGreatDoorProg
import Derived.Test.YtehjalgogjkdlaaGreatDoorZ01
namespace Go.Proofs.YtehjalgogjkdlaaGreatDoor
set_option linter.unusedVariables false
set_option linter.unusedSimpArgs false
open Go.RowKit

structure Us where
  inv : Int
  steps : Int
  ticks : Int
  units : Int
def usV (u : Us) : Value := .agg #[.int .i64 u.inv, .int .i64 u.steps, .int .i64 u.ticks, .int .i64 u.units]
def amtB (n : Int) : Bool := decide (0 ≤ n) && decide (n ≤ 1000000000000)
def usB (u : Us) : Bool := amtB u.inv && amtB u.steps && amtB u.ticks && amtB u.units
theorem betw_any (n lo hi : Int) (w : World) : Calls Tryz.prog 97 #[.int .i64 n, .int .i64 lo, .int .i64 hi] w fun e w' => e = .returned (.bool (decide (lo ≤ n) && decide (n ≤ hi))) ∧ w = w' := by
  by_cases h1 : lo ≤ n
  · go_enter Tryz.func97, Tryz.ntmps97
    go_wp2
    go_ret
    exact ⟨by simp [h1], rfl⟩
  · go_enter Tryz.func97, Tryz.ntmps97
    go_wp2
    go_ret
    exact ⟨by simp; omega, rfl⟩
def usL (u : Us) : List Int := [u.inv, u.steps, u.ticks, u.units]
theorem usB_all (u : Us) : usB u = (usL u).all amtB := by simp [usB, usL, Bool.and_assoc]

set_option maxHeartbeats 4000000 in
set_option maxRecDepth 100000 in
theorem mvalid_any (u : Us) (w : World) : Calls Tryz.prog 66 #[usV u] w fun e w' => e = .returned (.bool (usB u)) ∧ Chg [] w w' := by
  obtain ⟨a, b, c, d⟩ := u
  obtain ⟨R, hR⟩ : ∃ R, R = usB ⟨a, b, c, d⟩ := ⟨_, rfl⟩
  rw [← hR]
  rw [usB_all] at hR
  have HR := Lib.hid hR
  obtain ⟨vs, hvs⟩ : ∃ vs, vs = usL ⟨a, b, c, d⟩ := ⟨_, rfl⟩
  rw [← hvs] at HR
  have hlen : vs.length = 4 := by rw [hvs]; rfl
  have Hl := Lib.hid hlen
  have hcl : ∀ (W : World) (t : TypeId) (B : Nat), W.heap[B]? = some (.cells #[.int .i64 a, .int .i64 b, .int .i64 c, .int .i64 d] t (0, 0)) → ∀ k (hk : k < vs.length), W.cell? ⟨B, k, none⟩ = some (.int .i64 vs[k]) := by
    intro W t B hB k hk
    rw [blk_cell hB]
    subst hvs
    match k, hk with
    | 0, _ => rfl
    | 1, _ => rfl
    | 2, _ => rfl
    | 3, _ => rfl
  have Hcl := Lib.hid hcl
  unfold usV
  clear hR hvs hlen hcl
  go_enter Tryz.func66, Tryz.ntmps66
  go_wp2_with fail
  obtain ⟨w2, hw2⟩ : ∃ w2, w2 = (w.alloc (.cells #[.int .i64 a, .int .i64 b, .int .i64 c, .int .i64 d] 68)).alloc (.cells #[.int .i64 a, .int .i64 b, .int .i64 c, .int .i64 d] 3) := ⟨_, rfl⟩
  have hc2 : Chg [] w w2 := by rw [hw2]; exact ((Chg.refl _ _).alloc _).alloc _
  have hb2 : w2.heap[w.heap.size + 1]? = some (.cells #[.int .i64 a, .int .i64 b, .int .i64 c, .int .i64 d] 3 (0, 0)) := by
    rw [hw2]
    have := heap_alloc_new (w.alloc (.cells #[.int .i64 a, .int .i64 b, .int .i64 c, .int .i64 d] 68)) (.cells #[.int .i64 a, .int .i64 b, .int .i64 c, .int .i64 d] 3)
    rw [World.size_alloc] at this
    exact this
  rw [← hw2]
  have HC := Lib.hid hc2
  have Hcc := Lib.hid (Hcl.out w2 _ _ hb2)
  clear hw2 hc2 hb2 Hcl
  go_loop [15] (fun i => ∃ k : Nat, i = .int .i64 k ∧ k ≤ 4 ∧ Hid ((vs.take k).all amtB = true)) (fun i => 4 - (intOf i).toNat)
  case atStart => exact ⟨0, rfl, Nat.zero_le _, Lib.hid rfl⟩
  case round =>
    obtain ⟨k, rfl, hk4, Hall⟩ := hrel
    by_cases hk : k < 4
    · have hkv : k < vs.length := by rw [Hl.out]; exact hk
      have c0 := Hcc.out k hkv
      have hst : (vs.take (k + 1)).all amtB = amtB vs[k] := by
        rw [List.take_succ_eq_append_getElem hkv, List.all_append, Hall.out]; simp
      have hno : amtB vs[k] = false → R = false := fun h => by
        rw [HR.out, List.all_eq_false]
        exact ⟨vs[k], List.getElem_mem hkv, by simp [h]⟩
      have hk0 : (0 : Int) ≤ (k : Int) := by omega
      have hk1 : (k : Int) < 4 := by omega
      generalize vs[k] = v at *
      have A := fun w => betw_any v 0 1000000000000 w
      rw [show (decide (0 ≤ v) && decide (v ≤ 1000000000000)) = amtB v from rfl] at A
      have Hst := Lib.hid hst
      have Hno := Lib.hid hno
      cases hv : amtB v
      · rw [hv] at A
        have A := Lib.hid A
        have E := Lib.hid (Hno.out hv)
        rename_i A0
        clear A0 hst hno hv
        go_wp2_with fail
        refine (A.out _).mono ?_; rintro e w3 ⟨rfl, rfl⟩
        go_wp2_with fail
        go_ret
        exact ⟨by rw [E.out]; rfl, HC.out⟩
      · rw [hv] at A Hst
        have A := Lib.hid A
        rename_i A0
        clear A0 hst hno hv
        go_wp2_with fail
        refine (A.out _).mono ?_; rintro e w3 ⟨rfl, rfl⟩
        go_wp2_with fail
        exact ⟨⟨k + 1, by go_num, by omega, Hst⟩, by simp [intOf]; omega⟩
    · have E : Hid (R = true) := Lib.hid (by
        have h := Hall.out
        rw [List.take_of_length_le (by rw [Hl.out]; omega)] at h
        rw [HR.out]; exact h)
      go_wp2_with fail
      go_ret
      exact ⟨by rw [E.out]; rfl, HC.out⟩
end Go.Proofs.YtehjalgogjkdlaaGreatDoor

namespace Go.Proofs.YtehjalgogjkdlaaGreatDoor
set_option linter.unusedVariables false
set_option linter.unusedSimpArgs false
open Go.RowKit
theorem amtB_iff {n : Int} : amtB n = true ↔ 0 ≤ n ∧ n ≤ 1000000000000 := by simp [amtB]
/-- The error of a total and weights, and the sum of the weights. -/
def weighZ (t : Int) (W : List Int) : Int × Int :=
  if amtB t = false ∨ W.all amtB = false then (0, 2) else if 256 < W.length then (0, 3) else if W = [] ∧ t ≠ 0 then (0, 5) else if 1000000000000 < W.sum then (0, 8) else (W.sum, 0)
def effW (W : List Int) : List Int := if W.sum = 0 then W.map (fun _ => 1) else W
def effS (W : List Int) : Int := if W.sum = 0 then W.length else W.sum
def quo (t S w : Int) : Int := t * w / S
def rst (t S w : Int) : Int := t * w % S
def shQ (t : Int) (W : List Int) : List Int := (effW W).map (quo t (effS W))
def shR (t : Int) (W : List Int) : List Int := (effW W).map (rst t (effS W))
def leftOf (t : Int) (W : List Int) : Int := t - (shQ t W).sum
def keyOf (R : List Int) (i : Int) : Int := R.getD i.toNat 0
/-- O is the order of the indices by their rests, the greatest first; equals by index. -/
structure IsOrd (R O : List Int) : Prop where
  srt : Srt (keyOf R) O
  perm : O.Perm ((List.range R.length).map Int.ofNat)
/-- One more to each of O. -/
def bump (Q O : List Int) : List Int := O.foldl (fun s i => s.set i.toNat (s.getD i.toNat 0 + 1)) Q
variable {t S : Int} {W V Q R O : List Int}
theorem effW_len : (effW W).length = W.length := by unfold effW; split <;> simp
theorem effW_sum : (effW W).sum = effS W := by
  unfold effW effS
  split
  · induction W with
    | nil => rfl
    | cons w W ih =>
      have e : ∀ V : List Int, (V.map (fun _ => (1 : Int))).sum = V.length := by
        intro V
        induction V with
        | nil => rfl
        | cons v V ih => simp only [List.map_cons, List.sum_cons, ih, List.length_cons]; omega
      exact e _
  · rfl
theorem sum_nn (h : ∀ w ∈ V, 0 ≤ w) : 0 ≤ V.sum := by
  induction V with
  | nil => simp
  | cons v V ih => rw [List.sum_cons]; have := h v (by simp); have := ih (fun w hw => h w (by simp [hw])); omega
theorem mem_le_sum (h : ∀ w ∈ V, 0 ≤ w) {w : Int} (hw : w ∈ V) : w ≤ V.sum := by
  induction V with
  | nil => exact nomatch hw
  | cons v V ih =>
    rw [List.sum_cons]
    have h0 := h v (by simp)
    have h1 := sum_nn (fun w hw => h w (by simp [hw]) : ∀ w ∈ V, 0 ≤ w)
    rcases List.mem_cons.1 hw with rfl | hw
    · omega
    · have := ih (fun w hw => h w (by simp [hw])) hw; omega
theorem effW_nn (h : ∀ w ∈ W, 0 ≤ w) : ∀ w ∈ effW W, 0 ≤ w := by
  unfold effW
  split
  · intro w hw; obtain ⟨_, _, rfl⟩ := List.mem_map.1 hw; omega
  · exact h
theorem effS_pos (h : ∀ w ∈ W, 0 ≤ w) (hne : W ≠ []) : 0 < effS W := by
  unfold effS
  have := sum_nn h
  split
  · have : 0 < W.length := List.length_pos_iff.2 hne
    omega
  · omega
theorem sums_law (t S : Int) (V : List Int) : t * V.sum = S * (V.map (quo t S)).sum + (V.map (rst t S)).sum := by
  induction V with
  | nil => simp
  | cons v V ih =>
    simp only [List.sum_cons, List.map_cons]
    have := Int.mul_ediv_add_emod (t * v) S
    rw [Int.mul_add, ih, Int.mul_add]
    unfold quo rst at *
    omega
theorem rst_sum (hS : 0 < S) (t : Int) (V : List Int) : 0 ≤ (V.map (rst t S)).sum ∧ (V.map (rst t S)).sum ≤ V.length * (S - 1) := by
  induction V with
  | nil => simp
  | cons v V ih =>
    simp only [List.sum_cons, List.map_cons, List.length_cons]
    have h1 := Int.emod_nonneg (t * v) (show S ≠ 0 by omega)
    have h2 := Int.emod_lt_of_pos (t * v) hS
    have e : ((V.length + 1 : Nat) : Int) * (S - 1) = V.length * (S - 1) + (S - 1) := by rw [Int.natCast_add, Int.add_mul]; simp
    rw [e]
    unfold rst at *
    omega
/-- What is left: as often the sum of the weights as the rests come to. -/
theorem left_law : effS W * leftOf t W = (shR t W).sum := by
  have := sums_law t (effS W) (effW W)
  rw [effW_sum] at this
  unfold leftOf shR shQ
  rw [Int.mul_sub, Int.mul_comm (effS W) t, this]
  omega
theorem left_bounds (h : ∀ w ∈ W, 0 ≤ w) (hn : W = [] → t = 0) : 0 ≤ leftOf t W ∧ leftOf t W ≤ W.length := by
  by_cases hne : W = []
  · subst hne; rw [hn rfl]; exact ⟨by decide, by decide⟩
  · have hS := effS_pos h hne
    have hl := left_law (t := t) (W := W)
    obtain ⟨h1, h2⟩ := rst_sum hS t (effW W)
    unfold shR at hl
    rw [← hl] at h1 h2
    rw [effW_len] at h2
    constructor
    · refine Int.not_lt.1 fun hlt => ?_
      have := Int.mul_neg_of_pos_of_neg hS hlt
      omega
    · refine Int.not_lt.1 fun hlt => ?_
      have h3 : effS W * ((W.length : Int) + 1) ≤ effS W * leftOf t W := Int.mul_le_mul_of_nonneg_left (by omega) (by omega)
      have e1 : effS W * ((W.length : Int) + 1) = effS W * W.length + effS W := by rw [Int.mul_add, Int.mul_one]
      have e2 : (W.length : Int) * (effS W - 1) = effS W * W.length - W.length := by rw [Int.mul_sub, Int.mul_comm, Int.mul_one]
      omega
theorem shQ_len : (shQ t W).length = W.length := by unfold shQ; rw [List.length_map, effW_len]
theorem shR_len : (shR t W).length = W.length := by unfold shR; rw [List.length_map, effW_len]
theorem bump_len : (bump Q O).length = Q.length := by
  unfold bump
  induction O generalizing Q with
  | nil => rfl
  | cons i O ih => rw [List.foldl_cons, ih, List.length_set]
theorem bump_snoc (i : Int) : bump Q (O ++ [i]) = (bump Q O).set i.toNat ((bump Q O).getD i.toNat 0 + 1) := by unfold bump; rw [List.foldl_append]; rfl
theorem bump_at (hn : O.Nodup) (hr : ∀ i ∈ O, 0 ≤ i) (j : Nat) (hj : j < Q.length) : (bump Q O).getD j 0 = Q.getD j 0 + (if (j : Int) ∈ O then 1 else 0) := by
  unfold bump
  induction O generalizing Q with
  | nil => simp
  | cons i O ih =>
    rw [List.foldl_cons, ih (List.nodup_cons.1 hn).2 (fun x hx => hr x (by simp [hx])) (by simpa using hj)]
    have h0 := hr i (by simp)
    by_cases e : (j : Int) = i
    · have e2 : i.toNat = j := by omega
      have h1 : (j : Int) ∉ O := by rw [e]; exact (List.nodup_cons.1 hn).1
      rw [e2, if_neg h1, if_pos (by simp [e])]
      simp [List.getD_eq_getElem?_getD, hj]
    · have e2 : i.toNat ≠ j := by omega
      have h1 : ((j : Int) ∈ i :: O) ↔ (j : Int) ∈ O := by simp [e]
      simp only [h1]
      simp [List.getD_eq_getElem?_getD, e2]
/-- The order: its indices. -/
theorem IsOrd.range (h : IsOrd R O) : ∀ i ∈ O, 0 ≤ i ∧ i < R.length := by
  intro i hi
  obtain ⟨k, hk, rfl⟩ := List.mem_map.1 (h.perm.mem_iff.1 hi)
  have := List.mem_range.1 hk
  constructor
  · exact Int.natCast_nonneg k
  · exact Int.ofNat_lt.2 this
theorem IsOrd.mem (h : IsOrd R O) {j : Nat} (hj : j < R.length) : (j : Int) ∈ O := h.perm.mem_iff.2 (List.mem_map.2 ⟨j, List.mem_range.2 hj, rfl⟩)
theorem IsOrd.len (h : IsOrd R O) : O.length = R.length := by rw [h.perm.length_eq]; simp
theorem IsOrd.nodup (h : IsOrd R O) : O.Nodup := h.srt.imp (fun h e => by subst e; exact h.asymm h)
theorem IsOrd.unique {O' : List Int} (h : IsOrd R O) (k : IsOrd R O') : O = O' := srt_unique h.srt k.srt (h.perm.trans k.perm.symm)
/-- The rests with those of the first k of the order struck out. -/
def strike (R O : List Int) : List Int := O.foldl (fun s i => s.set i.toNat (-1)) R
theorem strike_len : (strike R O).length = R.length := by
  unfold strike
  induction O generalizing R with
  | nil => rfl
  | cons i O ih => rw [List.foldl_cons, ih, List.length_set]
theorem strike_snoc (i : Int) : strike R (O ++ [i]) = (strike R O).set i.toNat (-1) := by unfold strike; rw [List.foldl_append]; rfl
theorem strike_at (hr : ∀ i ∈ O, 0 ≤ i) (j : Nat) (hj : j < R.length) : (strike R O).getD j 0 = if (j : Int) ∈ O then -1 else R.getD j 0 := by
  unfold strike
  induction O generalizing R with
  | nil => simp
  | cons i O ih =>
    rw [List.foldl_cons, ih (fun x hx => hr x (by simp [hx])) (by simpa using hj)]
    have h0 := hr i (by simp)
    by_cases e : (j : Int) = i
    · have e2 : i.toNat = j := by omega
      rw [if_pos (show (j : Int) ∈ i :: O by simp [e]), e2]
      split
      · rfl
      · simp [List.getD_eq_getElem?_getD, hj]
    · have e2 : i.toNat ≠ j := by omega
      have h1 : ((j : Int) ∈ i :: O) ↔ (j : Int) ∈ O := by simp [e]
      simp only [h1]
      split
      · rfl
      · simp [List.getD_eq_getElem?_getD, e2]
/-- The first greatest of a list. -/
def Best (R : List Int) (b : Nat) : Prop := b < R.length ∧ (∀ j, j < R.length → R.getD j 0 ≤ R.getD b 0) ∧ ∀ j, j < b → R.getD j 0 < R.getD b 0
theorem Best.unique {b c : Nat} (h : Best R b) (k : Best R c) : b = c := by
  rcases Nat.lt_trichotomy b c with q | q | q
  · have := k.2.2 b q; have := h.2.1 c k.1; omega
  · exact q
  · have := h.2.2 c q; have := k.2.1 b h.1; omega
/-- What the reference picks next is what the order has next. -/
theorem IsOrd.best (h : IsOrd R O) (hR : ∀ x ∈ R, 0 ≤ x) {k : Nat} (hk : k < O.length) : Best (strike R (O.take k)) (O[k]).toNat := by
  have hr := h.range
  have h0 := hr O[k] (List.getElem_mem hk)
  have hn := h.nodup
  have ht : ∀ i ∈ O.take k, 0 ≤ i := fun i hi => (hr i (List.mem_of_mem_take hi)).1
  have hnk : O[k] ∉ O.take k := by
    intro hm
    obtain ⟨m, hm1, hm2⟩ := List.mem_iff_getElem.1 hm
    simp only [List.length_take] at hm1
    rw [List.getElem_take] at hm2
    exact List.pairwise_iff_getElem.1 hn m k (by omega) hk (by omega) hm2
  have hpos : ∀ j, j < R.length → 0 ≤ R.getD j 0 := fun j hj => by
    rw [List.getD_eq_getElem?_getD, List.getElem?_eq_getElem hj]; exact hR _ (List.getElem_mem hj)
  have hb : (strike R (O.take k)).getD (O[k]).toNat 0 = keyOf R O[k] := by
    rw [strike_at ht _ (by omega), if_neg (by rw [Int.toNat_of_nonneg h0.1]; exact hnk)]; rfl
  have hb0 : 0 ≤ keyOf R O[k] := hpos _ (by omega)
  have key : ∀ j, j < R.length → (strike R (O.take k)).getD j 0 < keyOf R O[k] ∨ ((strike R (O.take k)).getD j 0 = keyOf R O[k] ∧ O[k] ≤ j) := by
    intro j hj
    rw [strike_at ht j hj]
    split
    · left; omega
    · rename_i hj2
      obtain ⟨m, hm, e⟩ := List.mem_iff_getElem.1 (h.mem hj)
      have hkm : k ≤ m := by
        refine Nat.not_lt.1 fun q => hj2 ?_
        rw [← e]
        exact List.mem_iff_getElem.2 ⟨m, by simp; omega, List.getElem_take⟩
      have hke : keyOf R (j : Int) = R.getD j 0 := by unfold keyOf; rw [Int.toNat_natCast]
      rcases Nat.lt_or_ge k m with q | q
      · have := List.pairwise_iff_getElem.1 h.srt k m hk hm q
        rw [e] at this
        unfold Prec at this
        omega
      · have e3 : k = m := by omega
        subst e3
        rw [e]; right; exact ⟨hke.symm, Int.le_refl _⟩
  refine ⟨by rw [strike_len]; omega, fun j hj => ?_, fun j hj => ?_⟩
  · rw [strike_len] at hj; rw [hb]; have := key j hj; omega
  · rw [hb]; have := key j (by omega); omega
theorem sum_perm {A B : List Int} (h : A.Perm B) : A.sum = B.sum := by
  induction h with
  | nil => rfl
  | cons x _ ih => rw [List.sum_cons, List.sum_cons, ih]
  | swap x y l => simp only [List.sum_cons]; omega
  | trans _ _ h1 h2 => rw [h1, h2]
theorem range_map (R : List Int) : ((List.range R.length).map Int.ofNat).map (keyOf R) = R := by
  apply List.ext_getElem
  · simp
  · intro i h1 h2
    simp [keyOf, List.getD_eq_getElem?_getD, List.getElem?_eq_getElem h2]
theorem IsOrd.sum (h : IsOrd R O) : (O.map (keyOf R)).sum = R.sum := by rw [sum_perm (h.perm.map _), range_map]
/-- Those that are picked have a rest. -/
theorem IsOrd.rest_pos (h : IsOrd R O) {m : Nat} (hS : 0 < S) (hR : ∀ x ∈ R, 0 ≤ x ∧ x < S) (hm : S * m = R.sum) {k : Nat} (hk : k < m) (hk2 : k < O.length) : 0 < keyOf R O[k] := by
  have hb : ∀ i ∈ O, 0 ≤ keyOf R i ∧ keyOf R i ≤ S - 1 := fun i hi => by
    have h0 := h.range i hi
    unfold keyOf
    rw [List.getD_eq_getElem?_getD, List.getElem?_eq_getElem (by omega)]
    have := hR _ (List.getElem_mem (show i.toNat < R.length by omega))
    simp only [Option.getD_some]; omega
  refine Int.not_le.1 fun hle => ?_
  have hsum := h.sum
  rw [← hm, ← List.take_append_drop k O, List.map_append] at hsum
  have hs2 : ∀ V : List Int, (∀ i ∈ V, 0 ≤ keyOf R i ∧ keyOf R i ≤ S - 1) → (V.map (keyOf R)).sum ≤ V.length * (S - 1) := by
    intro V hV
    induction V with
    | nil => simp
    | cons v V ih =>
      have h1 := hV v (by simp)
      have h2 := ih (fun i hi => hV i (by simp [hi]))
      have e : ((V.length + 1 : Nat) : Int) * (S - 1) = V.length * (S - 1) + (S - 1) := by rw [Int.natCast_add, Int.add_mul]; simp
      simp only [List.map_cons, List.sum_cons, List.length_cons, e]; omega
  have hs0 : ∀ V : List Int, (∀ i ∈ V, keyOf R i ≤ 0) → (V.map (keyOf R)).sum ≤ 0 := by
    intro V hV
    induction V with
    | nil => simp
    | cons v V ih =>
      have h1 := hV v (by simp)
      have h2 := ih (fun i hi => hV i (by simp [hi]))
      simp only [List.map_cons, List.sum_cons]; omega
  have h1 := hs2 (O.take k) (fun i hi => hb i (List.mem_of_mem_take hi))
  have h2 := hs0 (O.drop k) (fun i hi => by
    obtain ⟨u, hu, rfl⟩ := List.mem_iff_getElem.1 hi
    rw [List.getElem_drop]
    simp only [List.length_drop] at hu
    rcases Nat.eq_zero_or_pos u with q | q
    · subst q; simpa using hle
    · have := List.pairwise_iff_getElem.1 h.srt k (k + u) hk2 (by omega) (by omega)
      unfold Prec at this
      omega)
  rw [List.sum_append] at hsum
  rw [List.length_take, Nat.min_eq_left (by omega)] at h1
  have e1 : (k : Int) * (S - 1) = S * k - k := by rw [Int.mul_sub, Int.mul_one, Int.mul_comm]
  have e2 : S * ((k : Int) + 1) ≤ S * m := Int.mul_le_mul_of_nonneg_left (by omega) (by omega)
  rw [Int.mul_add, Int.mul_one] at e2
  omega
end Go.Proofs.YtehjalgogjkdlaaGreatDoor

namespace Go.Proofs.YtehjalgogjkdlaaGreatDoor
set_option linter.unusedVariables false
set_option linter.unusedSimpArgs false
open Go.RowKit
/-- The first error of a list of errors. -/
def errs : List Int → Int
  | [] => 0
  | e :: l => if e = 0 then errs l else e
theorem errs_all {l : List Int} (h : ∀ e ∈ l, e = 0) : errs l = 0 := by
  induction l with
  | nil => rfl
  | cons e l ih => rw [errs, if_pos (h e (by simp)), ih (fun x hx => h x (by simp [hx]))]
theorem errs_zero {l : List Int} (h : errs l = 0) : ∀ e ∈ l, e = 0 := by
  induction l with
  | nil => intro e he; exact nomatch he
  | cons e l ih =>
    rw [errs] at h
    split at h
    · rename_i h0
      intro x hx
      rcases List.mem_cons.1 hx with rfl | hx
      · exact h0
      · exact ih h x hx
    · rename_i h0; exact (h0 h).elim
theorem errs_at {l : List Int} {k : Nat} {e : Int} (h0 : errs (l.take k) = 0) (h : l[k]? = some e) (he : e ≠ 0) : errs l = e := by
  induction l generalizing k with
  | nil => simp at h
  | cons x l ih =>
    cases k with
    | zero => simp at h; subst h; rw [errs, if_neg he]
    | succ k =>
      rw [List.take_succ_cons, errs] at h0
      split at h0
      · rename_i hx; rw [errs, if_pos hx]; exact ih h0 (by simpa using h)
      · rename_i hx; exact (hx h0).elim
theorem errs_next {l : List Int} {k : Nat} (h0 : errs (l.take k) = 0) (h : l[k]? = some 0) : errs (l.take (k + 1)) = 0 := by
  refine errs_all fun e he => ?_
  obtain ⟨hk, e0⟩ := List.getElem?_eq_some_iff.1 h
  rw [List.take_succ_eq_append_getElem hk, e0] at he
  rcases List.mem_append.1 he with he | he
  · exact errs_zero h0 e he
  · simpa using he
structure Tr where
  up : Int
  mi : Int
structure Prc where
  fi : Int
  fu : Int
  iv : Int
  ts : List Tr
def btw (n lo hi : Int) : Bool := decide (lo ≤ n) && decide (n ≤ hi)
theorem btw_iff {n lo hi : Int} : btw n lo hi = true ↔ lo ≤ n ∧ n ≤ hi := by simp [btw]
theorem amtB_btw {n : Int} : amtB n = btw n 0 1000000000000 := rfl
def upAt (l : List Tr) (k : Nat) : Int := ((l[k]?).map Tr.up).getD 0
def miAt (l : List Tr) (k : Nat) : Int := ((l[k]?).map Tr.mi).getD 0
/-- The error of the tier k. -/
def tierE (l : List Tr) (k : Nat) : Int :=
  if btw (miAt l k) 0 1000000000 = false then 2
  else if k + 1 = l.length then (if upAt l k ≠ 0 then 2 else 0)
  else if btw (upAt l k) 1 1000000000000 = false then 2
  else if 0 < k ∧ upAt l k ≤ upAt l (k - 1) then 11 else 0
def priceZ (p : Prc) : Int :=
  if btw p.fi 0 1000000000 = false ∨ btw p.fu 0 1000000000 = false ∨ btw p.iv 0 1000000000 = false then 2
  else if p.ts.length < 1 ∨ 8 < p.ts.length then 3 else errs ((List.range p.ts.length).map (tierE p.ts))
/-- Where the tier k begins. -/
def fromAt (l : List Tr) : Nat → Int
  | 0 => 0
  | k + 1 => max (fromAt l k) (upAt l k)
/-- How many units belong to the tier k. -/
def partAt (l : List Tr) (n : Int) (k : Nat) : Int := max ((if k + 1 = l.length then n else min n (upAt l k)) - fromAt l k) 0
/-- What invocations and the first k tiers cost. -/
def costTo (p : Prc) (i n : Int) : Nat → Int
  | 0 => i * p.iv
  | k + 1 => costTo p i n k + partAt p.ts n k * miAt p.ts k
def costZ (p : Prc) (i n : Int) : Int × Int := if costTo p i n p.ts.length ≤ 1000000000000 then (costTo p i n p.ts.length, 0) else (0, 8)
theorem partAt_nn (l : List Tr) (n : Int) (k : Nat) : 0 ≤ partAt l n k := by unfold partAt; omega
theorem fromAt_nn (l : List Tr) (k : Nat) : 0 ≤ fromAt l k := by
  induction k with
  | zero => simp [fromAt]
  | succ k ih => rw [fromAt]; omega
theorem partAt_le {n : Int} (hn : 0 ≤ n) (l : List Tr) (k : Nat) : partAt l n k ≤ n := by
  have := fromAt_nn l k
  unfold partAt; split <;> omega
theorem tiers_ok {p : Prc} (h : priceZ p = 0) {k : Nat} (hk : k < p.ts.length) : tierE p.ts k = 0 := by
  unfold priceZ at h
  split at h
  · cases h
  · split at h
    · cases h
    · exact errs_zero h _ (List.mem_map.2 ⟨k, List.mem_range.2 hk, rfl⟩)
theorem tier_ok {l : List Tr} {k : Nat} (h : tierE l k = 0) : 0 ≤ miAt l k ∧ miAt l k ≤ 1000000000 ∧ (k + 1 = l.length → upAt l k = 0) ∧ (k + 1 ≠ l.length → 1 ≤ upAt l k ∧ upAt l k ≤ 1000000000000) := by
  unfold tierE at h
  split at h
  · cases h
  · rename_i h1
    have h1 := btw_iff.1 (by simpa using h1)
    refine ⟨h1.1, h1.2, ?_⟩
    split at h
    · rename_i h2
      split at h
      · cases h
      · rename_i h3; exact ⟨fun _ => by simpa using h3, fun h4 => (h4 h2).elim⟩
    · rename_i h2
      split at h
      · cases h
      · rename_i h3
        exact ⟨fun h4 => (h2 h4).elim, fun _ => btw_iff.1 (by simpa using h3)⟩
theorem price_ok {p : Prc} (h : priceZ p = 0) : (0 ≤ p.fi ∧ p.fi ≤ 1000000000) ∧ (0 ≤ p.fu ∧ p.fu ≤ 1000000000) ∧ (0 ≤ p.iv ∧ p.iv ≤ 1000000000) ∧ 1 ≤ p.ts.length ∧ p.ts.length ≤ 8 := by
  unfold priceZ at h
  split at h
  · cases h
  · rename_i h1
    split at h
    · cases h
    · rename_i h2
      simp only [not_or, Bool.not_eq_false, btw_iff] at h1
      exact ⟨h1.1, h1.2.1, h1.2.2, by omega, by omega⟩
theorem cost_step {p : Prc} {i n : Int} (h : priceZ p = 0) {k : Nat} (hk : k < p.ts.length) : costTo p i n k ≤ costTo p i n (k + 1) := by
  rw [costTo]
  have := Int.mul_nonneg (partAt_nn p.ts n k) (tier_ok (tiers_ok h hk)).1
  omega
theorem cost_mono {p : Prc} {i n : Int} (h : priceZ p = 0) {k : Nat} (hk : k ≤ p.ts.length) : costTo p i n k ≤ costTo p i n p.ts.length := by
  obtain ⟨d, hd⟩ : ∃ d, p.ts.length = k + d := ⟨p.ts.length - k, by omega⟩
  clear hk
  induction d generalizing k with
  | zero => rw [hd]; exact Int.le_refl _
  | succ d ih => exact Int.le_trans (cost_step h (by omega)) (ih (k := k + 1) (by omega))
theorem cost_nn {p : Prc} {i n : Int} (h : priceZ p = 0) (hi : 0 ≤ i) : 0 ≤ costTo p i n 0 := Int.mul_nonneg hi (price_ok h).2.2.1.1
/-- The reference's beginnings: no further than the units. -/
def fromR (l : List Tr) (n : Int) : Nat → Int
  | 0 => 0
  | k + 1 => max (fromR l n k) (if upAt l k = 0 then n else min n (upAt l k))
theorem fromR_eq {p : Prc} {n : Int} (h : priceZ p = 0) (hn : 0 ≤ n) {k : Nat} (hk : k < p.ts.length) : fromR p.ts n k = min n (fromAt p.ts k) := by
  induction k with
  | zero => simp [fromR, fromAt]; omega
  | succ k ih =>
    rw [fromR, fromAt, ih (by omega)]
    have := ((tier_ok (tiers_ok h (show k < p.ts.length by omega))).2.2.2 (by omega)).1
    rw [if_neg (by omega)]; omega
theorem partR_eq {p : Prc} {n : Int} (h : priceZ p = 0) (hn : 0 ≤ n) {k : Nat} (hk : k < p.ts.length) : max 0 ((if upAt p.ts k = 0 then n else min n (upAt p.ts k)) - fromR p.ts n k) = partAt p.ts n k := by
  rw [fromR_eq h hn hk]
  unfold partAt
  have h1 := (tier_ok (tiers_ok h hk)).2.2
  have h2 := fromAt_nn p.ts k
  by_cases hl : k + 1 = p.ts.length
  · rw [if_pos hl, if_pos (h1.1 hl)]; omega
  · have := (h1.2 hl).1
    rw [if_neg hl, if_neg (by omega)]; omega
end Go.Proofs.YtehjalgogjkdlaaGreatDoor

namespace Go.Proofs.YtehjalgogjkdlaaGreatDoor
set_option linter.unusedVariables false
set_option linter.unusedSimpArgs false
open Go.RowKit

def zU : Us := ⟨0, 0, 0, 0⟩
def plusU (a b : Us) : Us := ⟨a.inv + b.inv, a.steps + b.steps, a.ticks + b.ticks, a.units + b.units⟩
def addU (a b : Us) : Us × Int := if usB a = true then (if usB b = true then (if usB (plusU a b) = true then (plusU a b, 0) else (zU, 8)) else (zU, 2)) else (zU, 2)
theorem usB_bounds {u : Us} (h : usB u = true) : (0 ≤ u.inv ∧ u.inv ≤ 1000000000000) ∧ (0 ≤ u.steps ∧ u.steps ≤ 1000000000000) ∧ (0 ≤ u.ticks ∧ u.ticks ≤ 1000000000000) ∧ (0 ≤ u.units ∧ u.units ≤ 1000000000000) := by
  simp only [usB, amtB, Bool.and_eq_true, decide_eq_true_eq] at h
  exact ⟨h.1.1.1, h.1.1.2, h.1.2, h.2⟩
def usO (u : Us) : Obj := .cells #[.int .i64 u.inv, .int .i64 u.steps, .int .i64 u.ticks, .int .i64 u.units] 68

set_option maxHeartbeats 4000000 in
set_option maxRecDepth 100000 in
theorem madd_any (a b : Us) (w : World) : Calls Tryz.prog 100 #[usV a, usV b] w fun e w' => e = .returned (.tuple #[usV (addU a b).1, .int .i64 (addU a b).2]) ∧ Chg [] w w' := by
  obtain ⟨W3, hW3⟩ : ∃ W3, W3 = ((w.alloc (usO a)).alloc (usO b)).alloc (usO zU) := ⟨_, rfl⟩
  have hc3 : Chg [] w W3 := by rw [hW3]; exact (((Chg.refl _ _).alloc _).alloc _).alloc _
  have hb1 : W3.heap[w.heap.size]? = some (.cells #[.int .i64 a.inv, .int .i64 a.steps, .int .i64 a.ticks, .int .i64 a.units] 68 (0, 0)) := by
    rw [hW3]
    exact (((Chg.refl [] (w.alloc (usO a))).alloc (usO b)).alloc (usO zU)).at (by simp) (heap_alloc_new w (usO a))
  have hb2 : W3.heap[w.heap.size + 1]? = some (.cells #[.int .i64 b.inv, .int .i64 b.steps, .int .i64 b.ticks, .int .i64 b.units] 68 (0, 0)) := by
    rw [hW3]
    have := heap_alloc_new (w.alloc (usO a)) (usO b)
    rw [World.size_alloc] at this
    exact ((Chg.refl [] ((w.alloc (usO a)).alloc (usO b))).alloc (usO zU)).at (by simp) this
  have hb3 : W3.heap[w.heap.size + 1 + 1]? = some (.cells #[.int .i64 0, .int .i64 0, .int .i64 0, .int .i64 0] 68 (0, 0)) := by
    rw [hW3]
    have := heap_alloc_new ((w.alloc (usO a)).alloc (usO b)) (usO zU)
    rw [World.size_alloc, World.size_alloc] at this
    exact this
  simp only [usO, zU] at hW3
  have HW3 := Lib.hid hW3
  have A1 := mvalid_any a
  have A2 := mvalid_any b
  obtain ⟨R, hR⟩ : ∃ R, R = addU a b := ⟨_, rfl⟩
  rw [← hR]
  unfold addU at hR
  unfold usV at A1 A2 ⊢
  by_cases h1 : usB a = true
  case neg =>
    rw [if_neg h1] at hR
    subst hR
    rw [show usB a = false by simpa using h1] at A1
    have A1 := Lib.hid A1
    go_enter Tryz.func100, Tryz.ntmps100
    go_wp2_with fail
    rw [← HW3.out]
    refine (A1.out W3).mono ?_; rintro e w4 ⟨rfl, hc4⟩
    have C4 := Lib.hid (hc3.thenSame hc4)
    have b3 := hc4.at (by simp) hb3
    have r1 := blk_cell b3
    have r2 := blk_free b3
    have r3 := lt_of_heap b3
    clear hc4 hc3 hb1 hb2 hb3 hW3 A2
    go_wp2_with fail
    exact bodyPost_ret (v := .tuple #[usV zU, .int .i64 2]) (by simp [results, Tryz.results100, go_sem, usV, zU, r1]) rfl ⟨rfl, by repeat (first | exact C4.out | refine Chg.setCell ?_ _ _ (by simp; omega) | refine Chg.drew ?_)⟩
  rw [if_pos h1] at hR
  rw [h1] at A1
  have A1 := Lib.hid A1
  rename_i A10
  clear A10
  by_cases h2 : usB b = true
  case neg =>
    rw [if_neg h2] at hR
    subst hR
    rw [show usB b = false by simpa using h2] at A2
    have A2 := Lib.hid A2
    rename_i A20
    clear A20
    go_enter Tryz.func100, Tryz.ntmps100
    go_wp2_with fail
    rw [← HW3.out]
    refine (A1.out W3).mono ?_; rintro e w4 ⟨rfl, hc4⟩
    have C4 := Lib.hid (hc3.thenSame hc4)
    have b2 := hc4.at (by simp) hb2
    have b3 := Lib.hid (hc4.at (by simp) hb3)
    have q2 := blk_cell b2
    clear hc4 hc3 hb1 hb2 hb3 hW3 b2
    go_wp2_with fail
    refine (A2.out w4).mono ?_; rintro e w5 ⟨rfl, hc5⟩
    have C5 := Lib.hid (C4.out.thenSame hc5)
    have b35 := hc5.at (by simp) b3.out
    have r1 := blk_cell b35
    have r2 := blk_free b35
    have r3 := lt_of_heap b35
    clear hc5 q2
    go_wp2_with fail
    exact bodyPost_ret (v := .tuple #[usV zU, .int .i64 2]) (by simp [results, Tryz.results100, go_sem, usV, zU, r1]) rfl ⟨rfl, by repeat (first | exact C5.out | refine Chg.setCell ?_ _ _ (by simp; omega) | refine Chg.drew ?_)⟩
  rw [if_pos h2] at hR
  rw [h2] at A2
  have A2 := Lib.hid A2
  rename_i A20
  clear A20
  obtain ⟨⟨a1, a2⟩, ⟨a3, a4⟩, ⟨a5, a6⟩, ⟨a7, a8⟩⟩ := usB_bounds h1
  obtain ⟨⟨b1, b2⟩, ⟨b3, b4⟩, ⟨b5, b6⟩, ⟨b7, b8⟩⟩ := usB_bounds h2
  have A3 := mvalid_any (plusU a b)
  unfold usV plusU at A3
  simp only at A3
  by_cases h3 : usB (plusU a b) = true
  all_goals
    first
      | rw [if_pos h3] at hR
      | rw [if_neg h3] at hR
    subst hR
    unfold plusU at h3
    first
      | rw [h3] at A3
      | rw [show usB ⟨a.inv + b.inv, a.steps + b.steps, a.ticks + b.ticks, a.units + b.units⟩ = false by simpa using h3] at A3
    have A3 := Lib.hid A3
    rename_i A30
    clear A30 h1 h2 h3
    go_enter Tryz.func100, Tryz.ntmps100
    go_wp2_with fail
    rw [← HW3.out]
    refine (A1.out W3).mono ?_; rintro e w4 ⟨rfl, hc4⟩
    have C4 := Lib.hid (hc3.thenSame hc4)
    have bb1 := Lib.hid (hc4.at (by simp) hb1)
    have bb2 := Lib.hid (hc4.at (by simp) hb2)
    have bb3 := Lib.hid (hc4.at (by simp) hb3)
    have q2 := blk_cell bb2.out
    clear hc4 hc3 hb1 hb2 hb3 hW3
    go_wp2_with fail
    refine (A2.out w4).mono ?_; rintro e w5 ⟨rfl, hc5⟩
    have C5 := Lib.hid (C4.out.thenSame hc5)
    have d1 := Lib.hid (hc5.at (by simp) bb1.out)
    have d2 := Lib.hid (hc5.at (by simp) bb2.out)
    have d3 := Lib.hid (hc5.at (by simp) bb3.out)
    have q1 := blk_cell d1.out
    have q3 := blk_cell d2.out
    clear hc5 q2
    go_wp2_with fail
    refine (A3.out _).mono ?_; rintro e w6 ⟨rfl, hc6⟩
    have C6 := Lib.hid ((C5.out.alloc _).thenSame hc6)
    have e0 := hc6.at (by simp) (heap_alloc_new w5 (.cells #[.int .i64 (a.inv + b.inv), .int .i64 (a.steps + b.steps), .int .i64 (a.ticks + b.ticks), .int .i64 (a.units + b.units)] 68))
    have e3 := (((Chg.refl [] w5).alloc (.cells #[.int .i64 (a.inv + b.inv), .int .i64 (a.steps + b.steps), .int .i64 (a.ticks + b.ticks), .int .i64 (a.units + b.units)] 68)).thenSame hc6).at (by simp) d3.out
    have q0 := blk_cell e0
    have r1 := blk_cell e3
    have r2 := blk_free e3
    have r3 := lt_of_heap e3
    clear hc6 q1 q3
    go_wp2_with fail
    first
      | exact bodyPost_ret (v := .tuple #[usV ⟨a.inv + b.inv, a.steps + b.steps, a.ticks + b.ticks, a.units + b.units⟩, .int .i64 0]) (by simp [results, Tryz.results100, go_sem, usV, r1]) rfl ⟨rfl, by repeat (first | exact C6.out | refine Chg.setCell ?_ _ _ (by simp; omega) | refine Chg.drew ?_)⟩
      | exact bodyPost_ret (v := .tuple #[usV zU, .int .i64 8]) (by simp [results, Tryz.results100, go_sem, usV, zU, r1]) rfl ⟨rfl, by repeat (first | exact C6.out | refine Chg.setCell ?_ _ _ (by simp; omega) | refine Chg.drew ?_)⟩
end Go.Proofs.YtehjalgogjkdlaaGreatDoor
