/- Chapter 30: awake. Condition: the table of Itoa lies as the program lays it. -/
import Derived.Test.YtmichbpfmachcaaDoorStmS
namespace Go.Proofs.YtmichbpfmachcaaDoor
set_option linter.unusedVariables false
set_option linter.unusedSimpArgs false
open Go.RowKit
theorem toList_empty : (⟨#[]⟩ : ByteArray).toList = [] := by
  unfold ByteArray.toList ByteArray.toList.loop
  rw [if_neg (by decide)]
  rfl
theorem ev_ex (id : ByteArray) (h : idB id = true) : evZ (exP id) = 0 := by
  have h1 : namesB (exP id) = true := by
    show (idB id && idB ⟨#[116]⟩ && idB ⟨#[115]⟩ && ((⟨#[]⟩ : ByteArray).toList.isEmpty || idB ⟨#[]⟩) && ((⟨#[]⟩ : ByteArray).toList.isEmpty || idB ⟨#[]⟩)) = true
    rw [h, toList_empty]
    kernel_rfl
  unfold evZ
  rw [if_neg (by rw [h1]; decide)]
  show (if (0 : Int) < 0 then (2 : Int) else if (1073741824 : Int) < 0 then 2 else checkZ [nullC]) = 0
  rw [if_neg (by decide), if_neg (by decide)]
  kernel_rfl
theorem bucket_ex (id : ByteArray) (n : Int) : bucketZ (exP id).key n = 14695981039346656037 % n := rfl
def awS1 : Stm := ⟨10, 3, [⟨0, [⟨0, 0, 3, exP ⟨#[97]⟩⟩]⟩]⟩
def awS2 : Stm := ⟨10, 3, [⟨0, [⟨0, 0, 3, exP ⟨#[97]⟩⟩, ⟨0, 1, 3, exP ⟨#[98]⟩⟩]⟩]⟩
def awS3 : Stm := ⟨10, 14, [⟨2, []⟩]⟩
theorem aw1 : appR (newS 1 10) (exP ⟨#[97]⟩) 3 = ((0, 0, 0), awS1) := by
  unfold appR
  rw [ev_ex _ (by kernel_rfl), if_neg (by decide)]
  exact (by kernel_rfl)
theorem aw2 : appR awS1 (exP ⟨#[98]⟩) 3 = ((0, 1, 0), awS2) := by
  unfold appR
  rw [ev_ex _ (by kernel_rfl), if_neg (by decide)]
  exact (by kernel_rfl)
theorem aw3 : appR awS2 (exP ⟨#[99]⟩) 2 = ((0, 0, 11), awS2) := by
  unfold appR
  rw [ev_ex _ (by kernel_rfl), if_neg (by decide)]
  exact (by kernel_rfl)
theorem aw4 : readR awS2 0 1 5 = ([⟨0, 1, 3, exP ⟨#[98]⟩⟩], 0) := by kernel_rfl
theorem aw5 : trimR awS2 14 = (2, awS3) := by kernel_rfl
theorem aw6 : firstZ awS3 0 = (2, 0) := by kernel_rfl
theorem aw7 : readR awS3 0 1 1 = ([], 18) := by kernel_rfl
theorem ex_good (id : ByteArray) (h : id.size ≤ 64) : (exP id).good := by
  refine ⟨by unfold maxLen; show id.size ≤ _; omega, by unfold maxLen; simp [exP, ByteArray.size], by unfold maxLen; simp [exP, ByteArray.size], by unfold maxLen; simp [exP, ByteArray.size], by unfold maxLen; simp [exP, ByteArray.size], by simp [exP], fun x hx => ?_⟩
  simp [exP] at hx
  subst hx
  exact ⟨by kernel_rfl, by kernel_rfl, by unfold maxLen; simp [nullC, ByteArray.size], by kernel_rfl⟩
set_option maxHeartbeats 8000000 in
set_option maxRecDepth 100000 in
theorem awake_any (w : World) (ht : TabW w) : Calls Tryd.prog 10 #[] w fun e w' => e = .returned (.bool true) ∧ Chg [] w w' := by
  have O0 := Lib.hid (newS_ok 1 10 (by decide) (by decide) (by decide) (by decide))
  have O1 := Lib.hid (appR_ok O0.out (exP ⟨#[97]⟩) (by simp [exP]) 3)
  rw [aw1] at O1
  have O2 := Lib.hid (appR_ok O1.out (exP ⟨#[98]⟩) (by simp [exP]) 3)
  rw [aw2] at O2
  have O3 := Lib.hid (trimR_ok O2.out 14)
  rw [aw5] at O3
  go_enter Tryd.func10, Tryd.ntmps10
  go_wp2_with fail
  refine (stm_new_ok 1 10 w (by decide) (by decide) (by decide) (by decide)).mono ?_; rintro x w1 ⟨b, f, rfl, hS, hc, hf⟩
  have P0 := Lib.hid (Pair.first (W := w) (J' := JS b (newS 1 10)) (Chg.refl _ _) ⟨f, hS, hc, hf⟩)
  clear hS hc hf
  go_wp2_with fail
  refine (example_any _ _).mono ?_; rintro x w2 ⟨ea, rfl, hp, hi, hd, hc⟩
  have A := Lib.hid (p_append noSide P0.out hc O0.out (by omega) ht ea hi (by rw [hp]; exact ex_good _ (by decide)) (fun x hx _ => .inr (hd x hx)) 3)
  rw [hp, aw1] at A
  clear hi hd hc hp
  go_wp2_with fail
  refine A.out.mono ?_; rintro x w3 ⟨rfl, hP⟩
  have P1 := Lib.hid hP
  clear hP A
  go_wp2_with fail
  refine (example_any _ _).mono ?_; rintro x w4 ⟨eb, rfl, hp, hi, hd, hc⟩
  have A := Lib.hid (p_append noSide P1.out hc O1.out (by omega) ht eb hi (by rw [hp]; exact ex_good _ (by decide)) (fun x hx _ => .inr (hd x hx)) 3)
  rw [hp, aw2] at A
  clear hi hd hc hp
  go_wp2_with fail
  refine A.out.mono ?_; rintro x w5 ⟨rfl, hP⟩
  have P2 := Lib.hid hP
  clear hP A
  have A := Lib.hid (p_read noSide P2.out O2.out (by omega) 0 1 5)
  rw [aw4] at A
  go_wp2_with fail
  refine A.out.mono ?_; rintro x w6 ⟨a6, c6, M, rfl, hMp, hP⟩
  have P3 := Lib.hid hP
  obtain ⟨m, rfl⟩ : ∃ m, M = [m] := by
    cases M with
    | nil => simp at hMp
    | cons m M => cases M with
      | nil => exact ⟨m, rfl⟩
      | cons _ _ => simp at hMp
  have hmid : m.e.p.id = ⟨#[98]⟩ := by
    simp only [List.map_cons, List.map_nil, List.cons.injEq, and_true] at hMp
    have := congrArg (fun r => r.e.id) hMp
    exact this
  have HMI := Lib.hid hmid
  clear A hMp hP hmid
  go_wp2_with fail
  refine (example_any _ _).mono ?_; rintro x w7 ⟨ec, rfl, hp, hi, hd, hc⟩
  have A := Lib.hid (p_append (andSide noSide (recSide a6 [m])) P3.out hc O2.out (by omega) ht ec hi (by rw [hp]; exact ex_good _ (by decide)) (fun x hx _ => .inr (hd x hx)) 2)
  rw [hp, aw3] at A
  clear hi hd hc hp
  go_wp2_with fail
  refine A.out.mono ?_; rintro x w8 ⟨rfl, hP⟩
  have P4 := Lib.hid hP
  clear hP A
  have A := Lib.hid (p_trim (andSide noSide (recSide a6 [m])) P4.out O2.out (by omega) 14)
  rw [aw5] at A
  go_wp2_with fail
  refine A.out.mono ?_; rintro x w9 ⟨rfl, hP⟩
  have P5 := Lib.hid hP
  clear hP A
  obtain ⟨f9, hs9⟩ := p_is P5.out
  have A := Lib.hid (stm_first 0 hs9 O3.out)
  rw [aw6] at A
  go_wp2_with fail
  refine A.out.mono ?_; rintro x w10 ⟨rfl, rfl⟩
  have A := Lib.hid (p_read (andSide noSide (recSide a6 [m])) P5.out O3.out (by omega) 0 1 1)
  rw [aw7] at A
  clear hs9
  go_wp2_with fail
  refine A.out.mono ?_; rintro x w11 ⟨a11, c11, M11, rfl, hMp, hP⟩
  have P7 := Lib.hid hP
  clear hP A hMp
  obtain ⟨f11, hs11⟩ := p_is P7.out
  have AS := Lib.hid (stm_shards hs11 O3.out)
  have hcell : ∃ g3 o3, a6 = some ⟨g3, o3, none⟩ ∧ w11.cell? ⟨g3, o3 + 3, none⟩ = some (.string ⟨#[98]⟩) := by
    obtain ⟨g3, o3, q1, -, q3⟩ := (pair_recs2 P7.out).1.2 0 (by simp)
    refine ⟨g3, o3, q1, ?_⟩
    have := q3 3 (by omega)
    rw [Nat.zero_mul, Nat.add_zero] at this
    rw [this]
    show some (Value.string m.e.p.id) = _
    rw [HMI.out]
  obtain ⟨g3, o3, rfl, hcell⟩ := hcell
  clear hs11
  go_wp2_with (go_at_call 16; refine AS.out.mono ?_; rintro x w12 ⟨rfl, rfl⟩)
  go_ret
  exact ⟨rfl, P7.out.chg⟩
end Go.Proofs.YtmichbpfmachcaaDoor
