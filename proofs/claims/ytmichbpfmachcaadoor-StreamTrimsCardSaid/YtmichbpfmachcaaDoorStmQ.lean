/- Chapter 30: full. Condition: the table of Itoa lies as the program lays it. -/
import Derived.Test.YtmichbpfmachcaaDoorStmP
namespace Go.Proofs.YtmichbpfmachcaaDoor
set_option linter.unusedVariables false
set_option linter.unusedSimpArgs false
open Go.RowKit
def fullL (i : Nat) : List PRec := (List.range i).map (fun (j : Nat) => (⟨0, (j : Int), 3, exP ⟨#[97]⟩⟩ : PRec))
def fullS (i : Nat) : Stm := ⟨10, if i = 0 then 0 else 3, [⟨0, fullL i⟩]⟩
def fullE : Stm := ⟨10, 14, [⟨256, []⟩]⟩
theorem fullL_len (i : Nat) : (fullL i).length = i := by simp [fullL]
theorem full_app (i : Nat) (hi : i < 256) : appR (fullS i) (exP ⟨#[97]⟩) 3 = ((0, (i : Int), 0), fullS (i + 1)) := by
  unfold appR
  rw [ev_ex _ (by kernel_rfl), if_neg (by decide), if_neg (by decide), if_neg (by decide), if_neg (by show ¬ (3 : Int) < (if i = 0 then 0 else 3); split <;> decide)]
  have hb : bucketZ (exP ⟨#[97]⟩).key (((fullS i).sh.length : Nat) : Int) = 0 := by rw [bucket_ex]; simp [fullS]
  rw [hb]
  have hg : (fullS i).sh[(0 : Int).toNat]? = some ⟨0, fullL i⟩ := rfl
  rw [hg]
  show (if (fullL i).length = 256 then _ else _) = _
  rw [if_neg (by rw [fullL_len]; omega), fullL_len]
  refine Prod.ext (by simp) ?_
  unfold fullS
  simp only [Int.toNat_zero, List.set_cons_zero, Nat.add_one_ne_zero, if_false]
  unfold fullL
  rw [List.range_succ, List.map_append]
  simp
theorem full_no (now : Int) (h : now = 3 ∨ now = 2) : (appR (fullS 256) (exP ⟨#[97]⟩) now) = ((0, 0, if now = 3 then 3 else 11), fullS 256) := by
  unfold appR
  rw [ev_ex _ (by kernel_rfl), if_neg (by decide), if_neg (by omega), if_neg (by omega)]
  rcases h with rfl | rfl
  · rw [if_neg (by show ¬ (3 : Int) < (if 256 = 0 then 0 else 3); decide)]
    have hb : bucketZ (exP ⟨#[97]⟩).key (((fullS 256).sh.length : Nat) : Int) = 0 := by rw [bucket_ex]; simp [fullS]
    rw [hb]
    have hg : (fullS 256).sh[(0 : Int).toNat]? = some ⟨0, fullL 256⟩ := rfl
    rw [hg]
    show (if (fullL 256).length = 256 then _ else _) = _
    rw [if_pos (fullL_len 256)]
    rfl
  · rw [if_pos (by show (2 : Int) < (if 256 = 0 then 0 else 3); decide)]
    rfl
theorem trim_all (L : List PRec) (hc : cntD 10 14 L = 256) (hl : L.length = 256) : trimR ⟨10, 3, [⟨0, L⟩]⟩ 14 = (256, fullE) := by
  unfold trimR
  rw [if_neg (by show ¬ (14 : Int) < 3; decide), if_neg (by decide)]
  simp only [List.map_cons, List.map_nil, List.sum_cons, List.sum_nil, trimD, hc]
  rw [List.drop_of_length_le (by omega)]
  rfl
theorem full_trim : trimR (fullS 256) 14 = (256, fullE) := by
  have hc : cntD 10 14 (fullL 256) = 256 := by
    unfold cntD
    refine takeWhile_len _ _ 256 (fun r hr => ?_) (Nat.le_of_eq (fullL_len 256).symm) (.inl (fullL_len 256).symm)
    have := List.mem_of_mem_take hr
    obtain ⟨j, _, rfl⟩ := List.mem_map.1 this
    rfl
  have hs : fullS 256 = ⟨10, 3, [⟨0, fullL 256⟩]⟩ := by unfold fullS; rw [if_neg (by decide)]
  rw [hs]
  exact trim_all _ hc (fullL_len 256)
theorem full_last : (appR fullE (exP ⟨#[97]⟩) 14).1 = (0, 256, 0) := by
  unfold appR
  rw [ev_ex _ (by kernel_rfl), if_neg (by decide), if_neg (by decide), if_neg (by decide), if_neg (by decide)]
  exact (by kernel_rfl)
theorem full_ok (i : Nat) (hi : i ≤ 256) : (fullS i).ok i := by
  refine ⟨by simp [fullS], by simp [fullS], by simp [fullS], by simp [fullS], ?_, ?_, fun d hd => ?_⟩
  · show (0 : Int) ≤ (if i = 0 then 0 else 3); split <;> decide
  · show (if i = 0 then (0 : Int) else 3) ≤ 1073741824; split <;> decide
  · simp [fullS] at hd
    subst hd
    refine ⟨by simp, by simp only [fullL_len]; omega, by simp only [fullL_len]; omega, fun r hr => ?_⟩
    obtain ⟨j, _, rfl⟩ := List.mem_map.1 hr
    exact ⟨by show (0 : Int) ≤ 3; decide, by show (3 : Int) ≤ 1073741824; decide, by simp [exP]⟩
set_option maxHeartbeats 8000000 in
set_option maxRecDepth 100000 in
theorem full_any (w : World) (ht : TabW w) : Calls Tryd.prog 24 #[] w fun e w' => e = .returned (.bool true) ∧ Chg [] w w' := by
  have O := Lib.hid full_ok
  have V1 := Lib.hid full_app
  have V2 := Lib.hid (full_no 3 (.inl rfl))
  have V3 := Lib.hid (full_no 2 (.inr rfl))
  have V4 := Lib.hid full_trim
  have V5 := Lib.hid full_last
  have OE := Lib.hid (trimR_ok (full_ok 256 (Nat.le_refl _)) 14)
  rw [full_trim] at OE
  have G := Lib.hid (ex_good ⟨#[97]⟩ (by decide))
  go_enter Tryd.func24, Tryd.ntmps24
  go_wp2_with fail
  refine (stm_new_ok 1 10 w (by decide) (by decide) (by decide) (by decide)).mono ?_; rintro x w1 ⟨b, f, rfl, hS, hc, hf⟩
  have P0 := Lib.hid (Pair.first (W := w) (J' := JS b (fullS 0)) (Chg.refl _ _) ⟨f, hS, hc, hf⟩)
  clear hS hc hf
  go_wp2_with fail
  go_loopw [3] (fun t wr => ∃ i : Nat, t = .int .i64 i ∧ i ≤ 256 ∧ Hid (Pair w wr (JS b (fullS i)) NoSide)) (fun t _ => 256 - (intOf t).toNat)
  case atStart => exact ⟨0, rfl, Nat.zero_le _, P0⟩
  case round =>
    obtain ⟨i, rfl, hi, P⟩ := hrel
    have i0 : 0 ≤ (i : Int) := by omega
    by_cases hlt : i < 256
    · go_wp2_with fail
      refine (example_any _ _).mono ?_; rintro x w2 ⟨e, rfl, hp, hi2, hd, hc⟩
      have A := Lib.hid (p_append noSide P.out hc (O.out i hi) (by omega) ht e hi2 (by rw [hp]; exact G.out) (fun x hx _ => .inr (hd x hx)) 3)
      rw [hp, V1.out i hlt] at A
      clear hi2 hd hc hp
      go_wp2_with fail
      refine A.out.mono ?_; rintro x w3 ⟨rfl, hP⟩
      have P2 := Lib.hid hP
      clear hP A
      go_wp2_with fail
      exact ⟨⟨i + 1, by go_num, by omega, P2⟩, by simp [intOf]; omega⟩
    · have hie : i = 256 := by omega
      subst hie
      go_wp2_with fail
      refine (example_any _ _).mono ?_; rintro x w2 ⟨e, rfl, hp, hi2, hd, hc⟩
      have A := Lib.hid (p_append noSide P.out hc (O.out 256 hi) (by omega) ht e hi2 (by rw [hp]; exact G.out) (fun x hx _ => .inr (hd x hx)) 3)
      rw [hp, V2.out] at A
      clear hi2 hd hc hp
      go_wp2_with fail
      refine A.out.mono ?_; rintro x w3 ⟨rfl, hP⟩
      have P2 := Lib.hid hP
      clear hP A
      go_wp2_with fail
      refine (example_any _ _).mono ?_; rintro x w4 ⟨e2, rfl, hp, hi2, hd, hc⟩
      have A := Lib.hid (p_append noSide P2.out hc (O.out 256 hi) (by omega) ht e2 hi2 (by rw [hp]; exact G.out) (fun x hx _ => .inr (hd x hx)) 2)
      rw [hp, V3.out] at A
      clear hi2 hd hc hp
      go_wp2_with fail
      refine A.out.mono ?_; rintro x w5 ⟨rfl, hP⟩
      have P3 := Lib.hid hP
      clear hP A
      have A := Lib.hid (p_trim noSide P3.out (O.out 256 hi) (by omega) 14)
      rw [V4.out] at A
      go_wp2_with fail
      refine A.out.mono ?_; rintro x w6 ⟨rfl, hP⟩
      have P4 := Lib.hid hP
      clear hP A
      go_wp2_with fail
      refine (example_any _ _).mono ?_; rintro x w7 ⟨e3, rfl, hp, hi2, hd, hc⟩
      have A := Lib.hid (p_append noSide P4.out hc OE.out (by omega) ht e3 hi2 (by rw [hp]; exact G.out) (fun x hx _ => .inr (hd x hx)) 14)
      rw [hp, V5.out] at A
      clear hi2 hd hc hp
      go_wp2_with fail
      refine A.out.mono ?_; rintro x w8 ⟨rfl, hP⟩
      have P5 := Lib.hid hP
      clear hP A
      go_wp2_with fail
      go_ret
      exact ⟨rfl, P5.out.chg⟩
end Go.Proofs.YtmichbpfmachcaaDoor
