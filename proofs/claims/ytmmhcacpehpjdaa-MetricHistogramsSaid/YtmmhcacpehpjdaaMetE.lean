/- Chapter 18: contracts: best, of Less and of 'greater'; the statistics of values, of both. No condition. -/
import Derived.Test.YtmmhcacpehpjdaaMetD
namespace Go.Proofs.Ytmmhcacpehpjdaa
set_option linter.unusedVariables false
set_option linter.unusedSimpArgs false
open Go.RowKit

theorem grt_any (a b : Int) (w : World) : Calls Try.prog 61 #[.int .i64 a, .int .i64 b] w fun e w' => e = .returned (.bool (decide (b < a))) ∧ w = w' := by
  go_enter Try.func61, Try.ntmps61
  go_wp2
  go_ret
  exact ⟨rfl, rfl⟩
theorem less_any (a b : Int) (w : World) : Calls Try.prog 60 #[.int .i64 a, .int .i64 b] w fun e w' => e = .returned (.bool (decide (a < b))) ∧ w = w' := by
  go_enter Try.func60, Try.ntmps60
  go_wp2
  go_ret
  exact ⟨rfl, rfl⟩

theorem iElem : Try.prog.underlying 54 = some (.slice (Try.prog.elem 54)) := by kernel_rfl
theorem iSize (w : World) : (sizeOf (Try.prog.elem 54)).run Try.prog w = .ok 1 w := by kernel_rfl

def bestS (f : Int → Int → Bool) (x : Int) (l : List Int) : Int := l.foldl (fun o y => if f y o = true then y else o) x

theorem best_step (f : Int → Int → Bool) (x : Int) (l : List Int) (k : Nat) (hk : k < l.length) : bestS f x (l.take (k + 1)) = if f l[k] (bestS f x (l.take k)) = true then l[k] else bestS f x (l.take k) := by
  unfold bestS
  rw [List.take_succ_eq_append_getElem hk, List.foldl_append]; rfl

set_option maxHeartbeats 2000000 in
theorem best_less {w : World} {base : Nat} {v : Value} {x : Int} {l : List Int} (h : RowOf ic 1 w base 3 v (x :: l)) (hl : l.length ≤ 4096) :
    Calls Try.prog 59 #[v, .func (.func 60) #[] #[]] w fun e w' => e = .returned (.int .i64 (bestS (fun a b => decide (a < b)) x l)) ∧ w = w' := by
  obtain ⟨g, c, rfl, hlc, hcm, hcell, _, _, hgw⟩ := (RowOf.at h iLen).resolve_left (fun h => by simp at h)
  have c0 := hcell 0 (by simp) 0 (by omega)
  simp only [ic, List.getElem_cons_zero, List.getElem?_cons_zero, Nat.zero_mul, Nat.add_zero] at c0
  have Hcell : Hid (∀ k (hk : k < l.length), w.cell? ⟨g, k + 1, none⟩ = some (.int .i64 l[k])) := by
    intro k hk
    have := hcell (k + 1) (by simp; omega) 0 (by omega)
    simpa [ic] using this
  simp only [List.length_cons] at hlc ⊢
  clear hcell h
  have hn1 : 1 ≤ l.length + 1 := by omega
  go_enter Try.func59, Try.ntmps59
  go_wp2_with (first | (refine wpl_slice_l rfl _ _ _ rfl iElem (iSize _) g 0 (l.length + 1) c 1 rfl rfl hn1 hlc ?_; intro off' hoff) | fail)
  go_loopw [5, 14] (fun o i wr => wr = w ∧ ∃ k : Nat, i = .int .i64 k ∧ k ≤ l.length ∧ o = .int .i64 (bestS (fun a b => decide (a < b)) x (l.take k))) (fun _ i _ => l.length - (intOf i).toNat)
  case atStart => exact ⟨rfl, 0, rfl, Nat.zero_le _, rfl⟩
  case round =>
    obtain ⟨rfl, k, rfl, hkl, rfl⟩ := hrel
    obtain ⟨o, ho⟩ : ∃ o, o = bestS (fun a b => decide (a < b)) x (l.take k) := ⟨_, rfl⟩
    rw [← ho]
    have Ho := Lib.hid ho
    clear ho
    by_cases hk : k < l.length
    · have x1 := Hcell.out k hk
      have hst := best_step (fun a b => decide (a < b)) x l k hk
      rw [← Ho.out] at hst
      obtain ⟨y, hy⟩ : ∃ y, y = l[k] := ⟨_, rfl⟩
      rw [← hy] at x1 hst
      have Hst := Lib.hid hst
      have ho1 : off' = 1 := by omega
      subst ho1
      have x1' : wr.cell? ⟨g, 1 + k, none⟩ = some (.int .i64 y) := by rw [Nat.add_comm]; exact x1
      have hk0 : (0 : Int) ≤ (k : Int) := by omega
      have hk1 : (k : Int) < (l.length : Int) := by omega
      have Hb := Lib.hid (less_any y o wr)
      obtain ⟨b, hb⟩ : ∃ b : Bool, b = (decide (y < o)) := ⟨_, rfl⟩
      have Hb' : Hid (Calls Try.prog 60 #[.int .i64 y, .int .i64 o] wr fun e w' => e = .returned (.bool b) ∧ wr = w') := by rw [hb]; exact Hb.out
      have Hst' : Hid (bestS (fun a b => decide (a < b)) x (l.take (k + 1)) = if b = true then y else o) := by rw [hb]; exact Hst.out
      clear hst hy hoff hb Hb Hst
      go_wp2_with fail
      refine Hb'.out.mono ?_; rintro e w1 ⟨rfl, rfl⟩
      go_wp2_with fail
      all_goals (
        refine ⟨⟨trivial, k + 1, by go_num, by omega, ?_⟩, by simp [intOf]; omega⟩
        rw [Hst'.out]
        simp [*])
    · go_wp2_with fail
      go_ret
      refine ⟨retI ?_, rfl⟩
      rw [Ho.out, List.take_of_length_le (by omega)]

set_option maxHeartbeats 2000000 in
theorem best_grt {w : World} {base : Nat} {v : Value} {x : Int} {l : List Int} (h : RowOf ic 1 w base 3 v (x :: l)) (hl : l.length ≤ 4096) :
    Calls Try.prog 59 #[v, .func (.func 61) #[] #[]] w fun e w' => e = .returned (.int .i64 (bestS (fun a b => decide (b < a)) x l)) ∧ w = w' := by
  obtain ⟨g, c, rfl, hlc, hcm, hcell, _, _, hgw⟩ := (RowOf.at h iLen).resolve_left (fun h => by simp at h)
  have c0 := hcell 0 (by simp) 0 (by omega)
  simp only [ic, List.getElem_cons_zero, List.getElem?_cons_zero, Nat.zero_mul, Nat.add_zero] at c0
  have Hcell : Hid (∀ k (hk : k < l.length), w.cell? ⟨g, k + 1, none⟩ = some (.int .i64 l[k])) := by
    intro k hk
    have := hcell (k + 1) (by simp; omega) 0 (by omega)
    simpa [ic] using this
  simp only [List.length_cons] at hlc ⊢
  clear hcell h
  have hn1 : 1 ≤ l.length + 1 := by omega
  go_enter Try.func59, Try.ntmps59
  go_wp2_with (first | (refine wpl_slice_l rfl _ _ _ rfl iElem (iSize _) g 0 (l.length + 1) c 1 rfl rfl hn1 hlc ?_; intro off' hoff) | fail)
  go_loopw [5, 14] (fun o i wr => wr = w ∧ ∃ k : Nat, i = .int .i64 k ∧ k ≤ l.length ∧ o = .int .i64 (bestS (fun a b => decide (b < a)) x (l.take k))) (fun _ i _ => l.length - (intOf i).toNat)
  case atStart => exact ⟨rfl, 0, rfl, Nat.zero_le _, rfl⟩
  case round =>
    obtain ⟨rfl, k, rfl, hkl, rfl⟩ := hrel
    obtain ⟨o, ho⟩ : ∃ o, o = bestS (fun a b => decide (b < a)) x (l.take k) := ⟨_, rfl⟩
    rw [← ho]
    have Ho := Lib.hid ho
    clear ho
    by_cases hk : k < l.length
    · have x1 := Hcell.out k hk
      have hst := best_step (fun a b => decide (b < a)) x l k hk
      rw [← Ho.out] at hst
      obtain ⟨y, hy⟩ : ∃ y, y = l[k] := ⟨_, rfl⟩
      rw [← hy] at x1 hst
      have Hst := Lib.hid hst
      have ho1 : off' = 1 := by omega
      subst ho1
      have x1' : wr.cell? ⟨g, 1 + k, none⟩ = some (.int .i64 y) := by rw [Nat.add_comm]; exact x1
      have hk0 : (0 : Int) ≤ (k : Int) := by omega
      have hk1 : (k : Int) < (l.length : Int) := by omega
      have Hb := Lib.hid (grt_any y o wr)
      obtain ⟨b, hb⟩ : ∃ b : Bool, b = (decide (o < y)) := ⟨_, rfl⟩
      have Hb' : Hid (Calls Try.prog 61 #[.int .i64 y, .int .i64 o] wr fun e w' => e = .returned (.bool b) ∧ wr = w') := by rw [hb]; exact Hb.out
      have Hst' : Hid (bestS (fun a b => decide (b < a)) x (l.take (k + 1)) = if b = true then y else o) := by rw [hb]; exact Hst.out
      clear hst hy hoff hb Hb Hst
      go_wp2_with fail
      refine Hb'.out.mono ?_; rintro e w1 ⟨rfl, rfl⟩
      go_wp2_with fail
      all_goals (
        refine ⟨⟨trivial, k + 1, by go_num, by omega, ?_⟩, by simp [intOf]; omega⟩
        rw [Hst'.out]
        simp [*])
    · go_wp2_with fail
      go_ret
      refine ⟨retI ?_, rfl⟩
      rw [Ho.out, List.take_of_length_le (by omega)]
end Go.Proofs.Ytmmhcacpehpjdaa
