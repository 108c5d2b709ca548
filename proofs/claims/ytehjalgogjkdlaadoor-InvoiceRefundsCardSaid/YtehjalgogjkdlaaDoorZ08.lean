/- Chapter 54: contract: invoice.Share, where it returns an error. No condition. Plain: what InvoiceAddsUp asks of shares. No condition. Plain: prices: the first error of a list, tiers, parts, amounts. No condition. Chapter 52: contract of meter.Add. No condition. -/
import Derived.Test.YtehjalgogjkdlaaDoorZ06
import Derived.Test.YtehjalgogjkdlaaDoorZ07
import Derived.Test.YtehjalgogjkdlaaDoorZ02
namespace Go.Proofs.YtehjalgogjkdlaaDoor
set_option linter.unusedVariables false
set_option linter.unusedSimpArgs false
open Go.RowKit
set_option maxHeartbeats 4000000 in
theorem share_bad (t : Int) (a : Option Addr) (cap : Nat) (W : List Int) (w : World) (h : SlIs icI 1 w a W.length W) (hm : W.length ≤ maxLen) (he : (weighZ t W).2 ≠ 0) : Calls Tryd.prog 5 #[.int .i64 t, .slice a W.length cap] w fun e w' => e = .returned (.tuple #[.slice none 0 0, .int .i64 (weighZ t W).2]) ∧ w = w' := by
  have A := Lib.hid (weigh_any t a cap W w h hm)
  generalize weighZ t W = Z at *
  obtain ⟨z1, z2⟩ := Z
  simp only at he A ⊢
  have hb : (z2 != 0) = true := by rw [bne_iff_ne]; exact he
  clear h hm
  go_enter Tryd.func5, Tryd.ntmps5
  go_wp2_with fail
  refine A.out.mono ?_; rintro e w1 ⟨rfl, rfl⟩
  go_wp2_with fail
  go_ret2
  exact ⟨rfl, rfl⟩
/-- What is known where weighed returns no error. -/
theorem weigh_ok {t : Int} {W : List Int} (h : (weighZ t W).2 = 0) : (0 ≤ t ∧ t ≤ 1000000000000) ∧ W.all amtB = true ∧ W.length ≤ 256 ∧ (W = [] → t = 0) ∧ W.sum ≤ 1000000000000 ∧ (weighZ t W).1 = W.sum := by
  unfold weighZ at h ⊢
  split at h
  · cases h
  · rename_i h1
    split at h
    · cases h
    · rename_i h2
      split at h
      · cases h
      · rename_i h3
        split at h
        · cases h
        · rename_i h4
          rw [if_neg h1, if_neg h2, if_neg h3, if_neg h4]
          simp only [not_or, Bool.not_eq_false] at h1
          exact ⟨amtB_iff.1 h1.1, h1.2, by omega, fun q => Classical.byContradiction fun r => h3 ⟨q, r⟩, by omega, rfl⟩
theorem all_nn {W : List Int} (h : W.all amtB = true) : ∀ x ∈ W, 0 ≤ x := fun x hx => (amtB_iff.1 (List.all_eq_true.1 h x hx)).1
/-- Each share's quotient and rest, as MulDiv and the subtraction modulo 2^64 give them. -/
theorem share_step {t : Int} {W : List Int} (ht : 0 ≤ t) (ht2 : t ≤ 1000000000000) (hW : W.all amtB = true) (hs : W.sum ≤ 1000000000000) (hl : W.length ≤ 256) {u : Int} (hu : u ∈ effW W) :
    mulDivZ t u (effS W) = (quo t (effS W) u, 0) ∧ 0 ≤ quo t (effS W) u ∧ quo t (effS W) u ≤ t ∧
      0 ≤ u ∧ u ≤ 1000000000000 ∧ 0 < effS W ∧ effS W ≤ 1000000000000 ∧ 0 ≤ rst t (effS W) u ∧ rst t (effS W) u ≤ 1000000000000 ∧ t * u = quo t (effS W) u * effS W + rst t (effS W) u := by
  have hne : W ≠ [] := by rintro rfl; simp [effW] at hu
  have hS := effS_pos (all_nn hW) hne
  have hnn := effW_nn (all_nn hW)
  have hu0 := hnn u hu
  have huS : u ≤ effS W := by rw [← effW_sum]; exact mem_le_sum hnn hu
  have hS2 : effS W ≤ 1000000000000 := by unfold effS; split <;> omega
  have hq0 : 0 ≤ quo t (effS W) u := Int.ediv_nonneg (Int.mul_nonneg ht hu0) (by omega)
  have hq1 : quo t (effS W) u ≤ t := by
    unfold quo
    refine Int.ediv_le_of_le_mul hS ?_
    exact Int.mul_le_mul_of_nonneg_left huS ht
  have hr0 : 0 ≤ rst t (effS W) u := Int.emod_nonneg _ (by omega)
  have hr1 : rst t (effS W) u < effS W := Int.emod_lt_of_pos _ hS
  refine ⟨?_, hq0, hq1, hu0, by omega, hS, hS2, hr0, by omega, ?_⟩
  · unfold mulDivZ
    rw [if_neg (by simp only [← Bool.not_eq_true, vldB_iff]; omega), if_neg (by omega)]
    have : t * u / effS W = quo t (effS W) u := rfl
    rw [this, if_neg (by omega)]
  · unfold quo rst
    rw [Int.mul_comm (t * u / effS W)]
    exact (Int.mul_ediv_add_emod _ _).symm
/-- The rest, as the program reckons it: modulo 2^64. -/
theorem rest_wrap {t u q S r : Int} (h : t * u = q * S + r) (h0 : 0 ≤ r) (h1 : r ≤ 1000000000000) : IntKind.i64.wrap (IntKind.u64.wrap (IntKind.u64.wrap (t * u) - IntKind.u64.wrap (q * S))) = r := by
  generalize t * u = x at *
  generalize q * S = y at *
  simp only [IntKind.wrap_u64, IntKind.wrap_i64]
  omega
end Go.Proofs.YtehjalgogjkdlaaDoor

namespace Go.Proofs.YtehjalgogjkdlaaDoor
set_option linter.unusedVariables false
set_option linter.unusedSimpArgs false
open Go.RowKit
variable {t : Int} {W O : List Int}
theorem sum_take1 {l : List Int} {k : Nat} {x : Int} (h : l[k]? = some x) : (l.take (k + 1)).sum = (l.take k).sum + x := by
  obtain ⟨hk, e⟩ := List.getElem?_eq_some_iff.1 h
  rw [List.take_succ_eq_append_getElem hk, e]
  simp
theorem sum_take_le {l : List Int} (h : ∀ x ∈ l, 0 ≤ x) (k : Nat) : 0 ≤ (l.take k).sum ∧ (l.take k).sum ≤ l.sum := by
  have h1 := sum_nn (fun x hx => h x (List.mem_of_mem_take hx) : ∀ x ∈ l.take k, 0 ≤ x)
  have h2 := sum_nn (fun x hx => h x (List.mem_of_mem_drop hx) : ∀ x ∈ l.drop k, 0 ≤ x)
  have h3 : (l.take k).sum + (l.drop k).sum = l.sum := by rw [← List.sum_append, List.take_append_drop]
  omega
theorem wrap_diff {x y S : Int} (h0 : 0 < x - y) (h1 : x - y < S) (hS : S ≤ 1000000000000) : (IntKind.u64.wrap x == IntKind.u64.wrap y) = false := by
  rw [beq_eq_false_iff_ne]
  intro h
  rw [IntKind.wrap_u64, IntKind.wrap_u64] at h
  omega
theorem sh_nn (h : IsOrd (shR t W) O) (he : (weighZ t W).2 = 0) : ∀ x ∈ shares t W O, 0 ≤ x := by
  obtain ⟨⟨ht0, ht1⟩, hW, hl, hn, hs, -⟩ := weigh_ok he
  intro x hx
  obtain ⟨i, hi, e⟩ := List.mem_iff_getElem.1 hx
  rw [shares_len] at hi
  have h1 := h.shares_at hi
  rw [List.getD_eq_getElem?_getD, List.getElem?_eq_getElem (by rw [shares_len]; exact hi), e] at h1
  have hu : (effW W).getD i 0 ∈ effW W := by rw [List.getD_eq_getElem?_getD, List.getElem?_eq_getElem (by rw [effW_len]; exact hi)]; exact List.getElem_mem _
  have h2 := (share_step ht0 ht1 hW hs hl hu).2.1
  simp only [Option.getD_some] at h1
  split at h1 <;> omega
/-- What the law asks at an index. -/
theorem add_at (h : IsOrd (shR t W) O) (he : (weighZ t W).2 = 0) {i : Nat} (hi : i < W.length) :
    mulDivZ t ((effW W).getD i 0) (effS W) = (quo t (effS W) ((effW W).getD i 0), 0) ∧ (0 ≤ (effW W).getD i 0 ∧ (effW W).getD i 0 ≤ 1000000000000) ∧ (0 < effS W ∧ effS W ≤ 1000000000000) ∧ (0 ≤ quo t (effS W) ((effW W).getD i 0) ∧ quo t (effS W) ((effW W).getD i 0) ≤ 1000000000000) ∧
      ((shares t W O).getD i 0 = quo t (effS W) ((effW W).getD i 0) ∨ ((shares t W O).getD i 0 = quo t (effS W) ((effW W).getD i 0) + 1 ∧ (IntKind.u64.wrap (t * (effW W).getD i 0) == IntKind.u64.wrap (quo t (effS W) ((effW W).getD i 0) * effS W)) = false)) := by
  obtain ⟨⟨ht0, ht1⟩, hW, hl, hn, hs, -⟩ := weigh_ok he
  have hu : (effW W).getD i 0 ∈ effW W := by rw [List.getD_eq_getElem?_getD, List.getElem?_eq_getElem (by rw [effW_len]; exact hi)]; exact List.getElem_mem _
  obtain ⟨a1, a2, a3, a4, a5, a6, a7, a8, a9, a10⟩ := share_step ht0 ht1 hW hs hl hu
  refine ⟨a1, ⟨a4, a5⟩, ⟨a6, a7⟩, ⟨a2, by omega⟩, ?_⟩
  have h1 := h.shares_at hi
  by_cases hm : (i : Int) ∈ O.take (leftOf t W).toNat
  · rw [if_pos hm] at h1
    by_cases h0 : rst t (effS W) ((effW W).getD i 0) = 0
    · exact (h.shares_exact (all_nn hW) hn hi h0 hm).elim
    · refine .inr ⟨h1, wrap_diff (S := effS W) (by omega) ?_ a7⟩
      have : rst t (effS W) ((effW W).getD i 0) < effS W := Int.emod_lt_of_pos _ a6
      omega
  · rw [if_neg hm, Int.add_zero] at h1
    exact .inl h1
/-- The shares follow the weights. -/
theorem add_mono (h : IsOrd (shR t W) O) (he : (weighZ t W).2 = 0) {i k : Nat} (hi : i < W.length) (hk : k < i) :
    (W.getD i 0 < W.getD k 0 ∧ (shares t W O).getD i 0 ≤ (shares t W O).getD k 0) ∨ (W.getD k 0 < W.getD i 0 ∧ (shares t W O).getD k 0 ≤ (shares t W O).getD i 0) ∨ (W.getD i 0 = W.getD k 0 ∧ (shares t W O).getD i 0 ≤ (shares t W O).getD k 0) := by
  obtain ⟨⟨ht0, ht1⟩, hW, hl, hn, hs, -⟩ := weigh_ok he
  rcases Int.lt_trichotomy (W.getD i 0) (W.getD k 0) with q | q | q
  · exact .inl ⟨q, h.shares_mono ht0 (all_nn hW) hn hi (by omega) (.inl q)⟩
  · exact .inr (.inr ⟨q, h.shares_mono ht0 (all_nn hW) hn hi (by omega) (.inr ⟨q, hk⟩)⟩)
  · exact .inr (.inl ⟨q, h.shares_mono ht0 (all_nn hW) hn (by omega) hi (.inl q)⟩)
/-- What InvoiceAddsUp is told of shares. -/
structure AddsUp (t : Int) (W V : List Int) : Prop where
  len : V.length = W.length
  lim : W.length ≤ 256
  wn : ∀ x ∈ W, 0 ≤ x
  ws : W.sum ≤ 1000000000000
  nn : ∀ x ∈ V, 0 ≤ x
  sum : V.sum = t
  tot : 0 ≤ t ∧ t ≤ 1000000000000
  at' : ∀ i, i < W.length → ∃ w b q, (w = if W.sum = 0 then 1 else W.getD i 0) ∧ (b = if W.sum = 0 then (W.length : Int) else W.sum) ∧ mulDivZ t w b = (q, 0) ∧ (0 ≤ w ∧ w ≤ 1000000000000) ∧ (0 < b ∧ b ≤ 1000000000000) ∧ (0 ≤ q ∧ q ≤ 1000000000000) ∧ (V.getD i 0 = q ∨ (V.getD i 0 = q + 1 ∧ (IntKind.u64.wrap (t * w) == IntKind.u64.wrap (q * b)) = false))
  mono : ∀ i k, i < W.length → k < i → (W.getD i 0 < W.getD k 0 ∧ V.getD i 0 ≤ V.getD k 0) ∨ (W.getD k 0 < W.getD i 0 ∧ V.getD k 0 ≤ V.getD i 0) ∨ (W.getD i 0 = W.getD k 0 ∧ V.getD i 0 ≤ V.getD k 0)
theorem adds_up (h : IsOrd (shR t W) O) (he : (weighZ t W).2 = 0) : AddsUp t W (shares t W O) := by
  obtain ⟨ht, hW, hl, hn, hs, -⟩ := weigh_ok he
  refine ⟨shares_len, hl, all_nn hW, hs, sh_nn h he, h.shares_sum (all_nn hW) hn, ht, fun i hi => ?_, fun i k hi hk => add_mono h he hi hk⟩
  have := add_at h he hi
  rw [eff_at hi] at this
  exact ⟨_, _, _, rfl, rfl, this⟩
end Go.Proofs.YtehjalgogjkdlaaDoor

namespace Go.Proofs.YtehjalgogjkdlaaDoor
set_option linter.unusedVariables false
set_option linter.unusedSimpArgs false
open Go.RowKit
/-- The first error of a list of errors. -/
def errs : List Int → Int
  | [] => 0
  | e :: l => if e = 0 then errs l else e
theorem errs_all {l : List Int} (h : ∀ e ∈ l, e = 0) : errs l = 0 := by
  induction l with
  | nil => rfl
  | cons e l ih => rw [errs, if_pos (h e (by simp)), ih (fun x hx => h x (by simp [hx]))]
theorem errs_zero {l : List Int} (h : errs l = 0) : ∀ e ∈ l, e = 0 := by
  induction l with
  | nil => intro e he; exact nomatch he
  | cons e l ih =>
    rw [errs] at h
    split at h
    · rename_i h0
      intro x hx
      rcases List.mem_cons.1 hx with rfl | hx
      · exact h0
      · exact ih h x hx
    · rename_i h0; exact (h0 h).elim
theorem errs_at {l : List Int} {k : Nat} {e : Int} (h0 : errs (l.take k) = 0) (h : l[k]? = some e) (he : e ≠ 0) : errs l = e := by
  induction l generalizing k with
  | nil => simp at h
  | cons x l ih =>
    cases k with
    | zero => simp at h; subst h; rw [errs, if_neg he]
    | succ k =>
      rw [List.take_succ_cons, errs] at h0
      split at h0
      · rename_i hx; rw [errs, if_pos hx]; exact ih h0 (by simpa using h)
      · rename_i hx; exact (hx h0).elim
theorem errs_next {l : List Int} {k : Nat} (h0 : errs (l.take k) = 0) (h : l[k]? = some 0) : errs (l.take (k + 1)) = 0 := by
  refine errs_all fun e he => ?_
  obtain ⟨hk, e0⟩ := List.getElem?_eq_some_iff.1 h
  rw [List.take_succ_eq_append_getElem hk, e0] at he
  rcases List.mem_append.1 he with he | he
  · exact errs_zero h0 e he
  · simpa using he
structure Tr where
  up : Int
  mi : Int
structure Prc where
  fi : Int
  fu : Int
  iv : Int
  ts : List Tr
def btw (n lo hi : Int) : Bool := decide (lo ≤ n) && decide (n ≤ hi)
theorem btw_iff {n lo hi : Int} : btw n lo hi = true ↔ lo ≤ n ∧ n ≤ hi := by simp [btw]
theorem amtB_btw {n : Int} : amtB n = btw n 0 1000000000000 := rfl
def upAt (l : List Tr) (k : Nat) : Int := ((l[k]?).map Tr.up).getD 0
def miAt (l : List Tr) (k : Nat) : Int := ((l[k]?).map Tr.mi).getD 0
/-- The error of the tier k. -/
def tierE (l : List Tr) (k : Nat) : Int :=
  if btw (miAt l k) 0 1000000000 = false then 2
  else if k + 1 = l.length then (if upAt l k ≠ 0 then 2 else 0)
  else if btw (upAt l k) 1 1000000000000 = false then 2
  else if 0 < k ∧ upAt l k ≤ upAt l (k - 1) then 11 else 0
def priceZ (p : Prc) : Int :=
  if btw p.fi 0 1000000000 = false ∨ btw p.fu 0 1000000000 = false ∨ btw p.iv 0 1000000000 = false then 2
  else if p.ts.length < 1 ∨ 8 < p.ts.length then 3 else errs ((List.range p.ts.length).map (tierE p.ts))
/-- Where the tier k begins. -/
def fromAt (l : List Tr) : Nat → Int
  | 0 => 0
  | k + 1 => max (fromAt l k) (upAt l k)
/-- How many units belong to the tier k. -/
def partAt (l : List Tr) (n : Int) (k : Nat) : Int := max ((if k + 1 = l.length then n else min n (upAt l k)) - fromAt l k) 0
/-- What invocations and the first k tiers cost. -/
def costTo (p : Prc) (i n : Int) : Nat → Int
  | 0 => i * p.iv
  | k + 1 => costTo p i n k + partAt p.ts n k * miAt p.ts k
def costZ (p : Prc) (i n : Int) : Int × Int := if costTo p i n p.ts.length ≤ 1000000000000 then (costTo p i n p.ts.length, 0) else (0, 8)
theorem partAt_nn (l : List Tr) (n : Int) (k : Nat) : 0 ≤ partAt l n k := by unfold partAt; omega
theorem fromAt_nn (l : List Tr) (k : Nat) : 0 ≤ fromAt l k := by
  induction k with
  | zero => simp [fromAt]
  | succ k ih => rw [fromAt]; omega
theorem partAt_le {n : Int} (hn : 0 ≤ n) (l : List Tr) (k : Nat) : partAt l n k ≤ n := by
  have := fromAt_nn l k
  unfold partAt; split <;> omega
theorem tiers_ok {p : Prc} (h : priceZ p = 0) {k : Nat} (hk : k < p.ts.length) : tierE p.ts k = 0 := by
  unfold priceZ at h
  split at h
  · cases h
  · split at h
    · cases h
    · exact errs_zero h _ (List.mem_map.2 ⟨k, List.mem_range.2 hk, rfl⟩)
theorem tier_ok {l : List Tr} {k : Nat} (h : tierE l k = 0) : 0 ≤ miAt l k ∧ miAt l k ≤ 1000000000 ∧ (k + 1 = l.length → upAt l k = 0) ∧ (k + 1 ≠ l.length → 1 ≤ upAt l k ∧ upAt l k ≤ 1000000000000) := by
  unfold tierE at h
  split at h
  · cases h
  · rename_i h1
    have h1 := btw_iff.1 (by simpa using h1)
    refine ⟨h1.1, h1.2, ?_⟩
    split at h
    · rename_i h2
      split at h
      · cases h
      · rename_i h3; exact ⟨fun _ => by simpa using h3, fun h4 => (h4 h2).elim⟩
    · rename_i h2
      split at h
      · cases h
      · rename_i h3
        exact ⟨fun h4 => (h2 h4).elim, fun _ => btw_iff.1 (by simpa using h3)⟩
theorem price_ok {p : Prc} (h : priceZ p = 0) : (0 ≤ p.fi ∧ p.fi ≤ 1000000000) ∧ (0 ≤ p.fu ∧ p.fu ≤ 1000000000) ∧ (0 ≤ p.iv ∧ p.iv ≤ 1000000000) ∧ 1 ≤ p.ts.length ∧ p.ts.length ≤ 8 := by
  unfold priceZ at h
  split at h
  · cases h
  · rename_i h1
    split at h
    · cases h
    · rename_i h2
      simp only [not_or, Bool.not_eq_false, btw_iff] at h1
      exact ⟨h1.1, h1.2.1, h1.2.2, by omega, by omega⟩
theorem cost_step {p : Prc} {i n : Int} (h : priceZ p = 0) {k : Nat} (hk : k < p.ts.length) : costTo p i n k ≤ costTo p i n (k + 1) := by
  rw [costTo]
  have := Int.mul_nonneg (partAt_nn p.ts n k) (tier_ok (tiers_ok h hk)).1
  omega
theorem cost_mono {p : Prc} {i n : Int} (h : priceZ p = 0) {k : Nat} (hk : k ≤ p.ts.length) : costTo p i n k ≤ costTo p i n p.ts.length := by
  obtain ⟨d, hd⟩ : ∃ d, p.ts.length = k + d := ⟨p.ts.length - k, by omega⟩
  clear hk
  induction d generalizing k with
  | zero => rw [hd]; exact Int.le_refl _
  | succ d ih => exact Int.le_trans (cost_step h (by omega)) (ih (k := k + 1) (by omega))
theorem cost_nn {p : Prc} {i n : Int} (h : priceZ p = 0) (hi : 0 ≤ i) : 0 ≤ costTo p i n 0 := Int.mul_nonneg hi (price_ok h).2.2.1.1
/-- The reference's beginnings: no further than the units. -/
def fromR (l : List Tr) (n : Int) : Nat → Int
  | 0 => 0
  | k + 1 => max (fromR l n k) (if upAt l k = 0 then n else min n (upAt l k))
theorem fromR_eq {p : Prc} {n : Int} (h : priceZ p = 0) (hn : 0 ≤ n) {k : Nat} (hk : k < p.ts.length) : fromR p.ts n k = min n (fromAt p.ts k) := by
  induction k with
  | zero => simp [fromR, fromAt]; omega
  | succ k ih =>
    rw [fromR, fromAt, ih (by omega)]
    have := ((tier_ok (tiers_ok h (show k < p.ts.length by omega))).2.2.2 (by omega)).1
    rw [if_neg (by omega)]; omega
theorem partR_eq {p : Prc} {n : Int} (h : priceZ p = 0) (hn : 0 ≤ n) {k : Nat} (hk : k < p.ts.length) : max 0 ((if upAt p.ts k = 0 then n else min n (upAt p.ts k)) - fromR p.ts n k) = partAt p.ts n k := by
  rw [fromR_eq h hn hk]
  unfold partAt
  have h1 := (tier_ok (tiers_ok h hk)).2.2
  have h2 := fromAt_nn p.ts k
  by_cases hl : k + 1 = p.ts.length
  · rw [if_pos hl, if_pos (h1.1 hl)]; omega
  · have := (h1.2 hl).1
    rw [if_neg hl, if_neg (by omega)]; omega
end Go.Proofs.YtehjalgogjkdlaaDoor

namespace Go.Proofs.YtehjalgogjkdlaaDoor
set_option linter.unusedVariables false
set_option linter.unusedSimpArgs false
open Go.RowKit

def zU : Us := ⟨0, 0, 0, 0⟩
def plusU (a b : Us) : Us := ⟨a.inv + b.inv, a.steps + b.steps, a.ticks + b.ticks, a.units + b.units⟩
def addU (a b : Us) : Us × Int := if usB a = true then (if usB b = true then (if usB (plusU a b) = true then (plusU a b, 0) else (zU, 8)) else (zU, 2)) else (zU, 2)
theorem usB_bounds {u : Us} (h : usB u = true) : (0 ≤ u.inv ∧ u.inv ≤ 1000000000000) ∧ (0 ≤ u.steps ∧ u.steps ≤ 1000000000000) ∧ (0 ≤ u.ticks ∧ u.ticks ≤ 1000000000000) ∧ (0 ≤ u.units ∧ u.units ≤ 1000000000000) := by
  simp only [usB, amtB, Bool.and_eq_true, decide_eq_true_eq] at h
  exact ⟨h.1.1.1, h.1.1.2, h.1.2, h.2⟩
def usO (u : Us) : Obj := .cells #[.int .i64 u.inv, .int .i64 u.steps, .int .i64 u.ticks, .int .i64 u.units] 48

set_option maxHeartbeats 4000000 in
set_option maxRecDepth 100000 in
theorem madd_any (a b : Us) (w : World) : Calls Tryd.prog 65 #[usV a, usV b] w fun e w' => e = .returned (.tuple #[usV (addU a b).1, .int .i64 (addU a b).2]) ∧ Chg [] w w' := by
  obtain ⟨W3, hW3⟩ : ∃ W3, W3 = ((w.alloc (usO a)).alloc (usO b)).alloc (usO zU) := ⟨_, rfl⟩
  have hc3 : Chg [] w W3 := by rw [hW3]; exact (((Chg.refl _ _).alloc _).alloc _).alloc _
  have hb1 : W3.heap[w.heap.size]? = some (.cells #[.int .i64 a.inv, .int .i64 a.steps, .int .i64 a.ticks, .int .i64 a.units] 48 (0, 0)) := by
    rw [hW3]
    exact (((Chg.refl [] (w.alloc (usO a))).alloc (usO b)).alloc (usO zU)).at (by simp) (heap_alloc_new w (usO a))
  have hb2 : W3.heap[w.heap.size + 1]? = some (.cells #[.int .i64 b.inv, .int .i64 b.steps, .int .i64 b.ticks, .int .i64 b.units] 48 (0, 0)) := by
    rw [hW3]
    have := heap_alloc_new (w.alloc (usO a)) (usO b)
    rw [World.size_alloc] at this
    exact ((Chg.refl [] ((w.alloc (usO a)).alloc (usO b))).alloc (usO zU)).at (by simp) this
  have hb3 : W3.heap[w.heap.size + 1 + 1]? = some (.cells #[.int .i64 0, .int .i64 0, .int .i64 0, .int .i64 0] 48 (0, 0)) := by
    rw [hW3]
    have := heap_alloc_new ((w.alloc (usO a)).alloc (usO b)) (usO zU)
    rw [World.size_alloc, World.size_alloc] at this
    exact this
  simp only [usO, zU] at hW3
  have HW3 := Lib.hid hW3
  have A1 := mvalid_any a
  have A2 := mvalid_any b
  obtain ⟨R, hR⟩ : ∃ R, R = addU a b := ⟨_, rfl⟩
  rw [← hR]
  unfold addU at hR
  unfold usV at A1 A2 ⊢
  by_cases h1 : usB a = true
  case neg =>
    rw [if_neg h1] at hR
    subst hR
    rw [show usB a = false by simpa using h1] at A1
    have A1 := Lib.hid A1
    go_enter Tryd.func65, Tryd.ntmps65
    go_wp2_with fail
    rw [← HW3.out]
    refine (A1.out W3).mono ?_; rintro e w4 ⟨rfl, hc4⟩
    have C4 := Lib.hid (hc3.thenSame hc4)
    have b3 := hc4.at (by simp) hb3
    have r1 := blk_cell b3
    have r2 := blk_free b3
    have r3 := lt_of_heap b3
    clear hc4 hc3 hb1 hb2 hb3 hW3 A2
    go_wp2_with fail
    exact bodyPost_ret (v := .tuple #[usV zU, .int .i64 2]) (by simp [results, Tryd.results65, go_sem, usV, zU, r1]) rfl ⟨rfl, by repeat (first | exact C4.out | refine Chg.setCell ?_ _ _ (by simp; omega) | refine Chg.drew ?_)⟩
  rw [if_pos h1] at hR
  rw [h1] at A1
  have A1 := Lib.hid A1
  rename_i A10
  clear A10
  by_cases h2 : usB b = true
  case neg =>
    rw [if_neg h2] at hR
    subst hR
    rw [show usB b = false by simpa using h2] at A2
    have A2 := Lib.hid A2
    rename_i A20
    clear A20
    go_enter Tryd.func65, Tryd.ntmps65
    go_wp2_with fail
    rw [← HW3.out]
    refine (A1.out W3).mono ?_; rintro e w4 ⟨rfl, hc4⟩
    have C4 := Lib.hid (hc3.thenSame hc4)
    have b2 := hc4.at (by simp) hb2
    have b3 := Lib.hid (hc4.at (by simp) hb3)
    have q2 := blk_cell b2
    clear hc4 hc3 hb1 hb2 hb3 hW3 b2
    go_wp2_with fail
    refine (A2.out w4).mono ?_; rintro e w5 ⟨rfl, hc5⟩
    have C5 := Lib.hid (C4.out.thenSame hc5)
    have b35 := hc5.at (by simp) b3.out
    have r1 := blk_cell b35
    have r2 := blk_free b35
    have r3 := lt_of_heap b35
    clear hc5 q2
    go_wp2_with fail
    exact bodyPost_ret (v := .tuple #[usV zU, .int .i64 2]) (by simp [results, Tryd.results65, go_sem, usV, zU, r1]) rfl ⟨rfl, by repeat (first | exact C5.out | refine Chg.setCell ?_ _ _ (by simp; omega) | refine Chg.drew ?_)⟩
  rw [if_pos h2] at hR
  rw [h2] at A2
  have A2 := Lib.hid A2
  rename_i A20
  clear A20
  obtain ⟨⟨a1, a2⟩, ⟨a3, a4⟩, ⟨a5, a6⟩, ⟨a7, a8⟩⟩ := usB_bounds h1
  obtain ⟨⟨b1, b2⟩, ⟨b3, b4⟩, ⟨b5, b6⟩, ⟨b7, b8⟩⟩ := usB_bounds h2
  have A3 := mvalid_any (plusU a b)
  unfold usV plusU at A3
  simp only at A3
  by_cases h3 : usB (plusU a b) = true
  all_goals
    first
      | rw [if_pos h3] at hR
      | rw [if_neg h3] at hR
    subst hR
    unfold plusU at h3
    first
      | rw [h3] at A3
      | rw [show usB ⟨a.inv + b.inv, a.steps + b.steps, a.ticks + b.ticks, a.units + b.units⟩ = false by simpa using h3] at A3
    have A3 := Lib.hid A3
    rename_i A30
    clear A30 h1 h2 h3
    go_enter Tryd.func65, Tryd.ntmps65
    go_wp2_with fail
    rw [← HW3.out]
    refine (A1.out W3).mono ?_; rintro e w4 ⟨rfl, hc4⟩
    have C4 := Lib.hid (hc3.thenSame hc4)
    have bb1 := Lib.hid (hc4.at (by simp) hb1)
    have bb2 := Lib.hid (hc4.at (by simp) hb2)
    have bb3 := Lib.hid (hc4.at (by simp) hb3)
    have q2 := blk_cell bb2.out
    clear hc4 hc3 hb1 hb2 hb3 hW3
    go_wp2_with fail
    refine (A2.out w4).mono ?_; rintro e w5 ⟨rfl, hc5⟩
    have C5 := Lib.hid (C4.out.thenSame hc5)
    have d1 := Lib.hid (hc5.at (by simp) bb1.out)
    have d2 := Lib.hid (hc5.at (by simp) bb2.out)
    have d3 := Lib.hid (hc5.at (by simp) bb3.out)
    have q1 := blk_cell d1.out
    have q3 := blk_cell d2.out
    clear hc5 q2
    go_wp2_with fail
    refine (A3.out _).mono ?_; rintro e w6 ⟨rfl, hc6⟩
    have C6 := Lib.hid ((C5.out.alloc _).thenSame hc6)
    have e0 := hc6.at (by simp) (heap_alloc_new w5 (.cells #[.int .i64 (a.inv + b.inv), .int .i64 (a.steps + b.steps), .int .i64 (a.ticks + b.ticks), .int .i64 (a.units + b.units)] 48))
    have e3 := (((Chg.refl [] w5).alloc (.cells #[.int .i64 (a.inv + b.inv), .int .i64 (a.steps + b.steps), .int .i64 (a.ticks + b.ticks), .int .i64 (a.units + b.units)] 48)).thenSame hc6).at (by simp) d3.out
    have q0 := blk_cell e0
    have r1 := blk_cell e3
    have r2 := blk_free e3
    have r3 := lt_of_heap e3
    clear hc6 q1 q3
    go_wp2_with fail
    first
      | exact bodyPost_ret (v := .tuple #[usV ⟨a.inv + b.inv, a.steps + b.steps, a.ticks + b.ticks, a.units + b.units⟩, .int .i64 0]) (by simp [results, Tryd.results65, go_sem, usV, r1]) rfl ⟨rfl, by repeat (first | exact C6.out | refine Chg.setCell ?_ _ _ (by simp; omega) | refine Chg.drew ?_)⟩
      | exact bodyPost_ret (v := .tuple #[usV zU, .int .i64 8]) (by simp [results, Tryd.results65, go_sem, usV, zU, r1]) rfl ⟨rfl, by repeat (first | exact C6.out | refine Chg.setCell ?_ _ _ (by simp; omega) | refine Chg.drew ?_)⟩
end Go.Proofs.YtehjalgogjkdlaaDoor
