/- Chapter 18: contract: Percentile of the program. No condition. -/
import Derived.Test.YtmmhcacpehpjdaaMetJ
import Derived.Test.YtmmhcacpehpjdaaMetL
import Derived.Test.YtmmhcacpehpjdaaRowi
import Derived.Test.YtmmhcacpehpjdaaShelfB
namespace Go.Proofs.Ytmmhcacpehpjdaa
set_option linter.unusedVariables false
set_option linter.unusedSimpArgs false
open Go.RowKit

def rankS (pm : Int) (n : Nat) : Int := (pm * (n : Int) + 999) / 1000
def percS (l : List Pt) (lo hi pm : Int) : Int × Int :=
  if windowE l lo hi = 0 then (if 1 ≤ pm ∧ pm ≤ 1000 then (if insideS l lo hi = [] then (0, 5) else (((insideS l lo hi).mergeSort leI).getD (rankS pm (insideS l lo hi).length - 1).toNat 0, 0)) else (0, 2)) else (0, windowE l lo hi)
def PcPost (w : World) (r : Int × Int) (e : Ending) (w' : World) : Prop := e = .returned (.tuple #[.int .i64 r.1, .int .i64 r.2]) ∧ Chg [] w w'

theorem rank_in {pm : Int} {n : Nat} (h0 : 1 ≤ pm) (h1 : pm ≤ 1000) (hn : 0 < n) (hn2 : n ≤ 256) : 1 ≤ rankS pm n ∧ rankS pm n ≤ n ∧ 0 ≤ pm * (n : Int) ∧ pm * (n : Int) ≤ 256000 := by
  have a1 := mul_bd (a := pm) (b := (n : Int)) (M := 1000) (N := (n : Int)) (by omega) h1 (by omega) (Int.le_refl _)
  have a2 : 1 * (n : Int) ≤ pm * (n : Int) := Int.mul_le_mul_of_nonneg_right h0 (by omega)
  unfold rankS
  generalize pm * (n : Int) = q at *
  omega

theorem window_e {l : List Pt} {lo hi : Int} (h : windowE l lo hi = 0) : checkP l = 0 := by
  unfold windowE at h
  by_cases hl : checkP l = 0
  · exact hl
  · rw [if_neg hl] at h; exact absurd h hl

set_option maxHeartbeats 4000000 in
set_option maxRecDepth 100000 in
theorem perc_any (a : Option Addr) (len cap : Nat) (l : List Pt) (lo hi pm : Int) (w : World) (h : SlIs pCells 2 w a len l) (hm : len ≤ maxLen) : Calls Try.prog 30 #[.slice a len cap, .int .i64 lo, .int .i64 hi, .int .i64 pm] w (PcPost w (percS l lo hi pm)) := by
  have A1 := window_any a len cap l lo hi w h hm
  have H := Lib.hid h
  obtain ⟨R, hR⟩ : ∃ R, R = percS l lo hi pm := ⟨_, rfl⟩
  rw [← hR]
  unfold percS at hR
  unfold windowS at A1
  by_cases hE : windowE l lo hi = 0
  case neg =>
    rw [if_neg hE] at hR A1
    have hb : (windowE l lo hi == 0) = false := by simpa using hE
    generalize windowE l lo hi = E at *
    have A1 := Lib.hid A1
    have HR := Lib.hid hR
    rename_i A10
    clear A10 hE hR h hm
    go_enter Try.func30, Try.ntmps30
    go_wp2_with fail
    refine A1.out.mono ?_; rintro e w1 ⟨rfl, hc1⟩
    have C1 := Lib.hid hc1
    clear hc1
    simp only [sV, z0S]
    go_wp2_with fail
    go_ret2
    exact ⟨by rw [HR.out]; rfl, C1.out.alloc _⟩
  rw [if_pos hE] at hR A1
  have A1 := Lib.hid A1
  rename_i A10
  have hok := check_ok (window_e hE)
  have hin := inside_in (window_e hE) lo hi
  obtain ⟨x, hx⟩ : ∃ x, x = statS (insideS l lo hi) := ⟨_, rfl⟩
  rw [← hx] at A1
  by_cases hpm : 1 ≤ pm ∧ pm ≤ 1000
  case neg =>
    rw [if_neg hpm] at hR
    have HR := Lib.hid hR
    have hp : pm < 1 ∨ (1 ≤ pm ∧ 1000 < pm) := by omega
    clear A10 hE hR h hm hok hin hpm hx
    rcases hp with p1 | ⟨p1, p2⟩
    all_goals
      go_enter Try.func30, Try.ntmps30
      go_wp2_with fail
      refine A1.out.mono ?_; rintro e w1 ⟨rfl, hc1⟩
      have C1 := Lib.hid hc1
      clear hc1
      simp only [sV]
      go_wp2_with fail
      go_ret2
      exact ⟨by rw [HR.out]; rfl, C1.out.alloc _⟩
  rw [if_pos hpm] at hR
  obtain ⟨p0, p1⟩ := hpm
  have A2 := Lib.hid (fun w h => inside_any a len cap l lo hi w h (by have := hok.1; omega))
  obtain ⟨L, hL⟩ : ∃ L, L = insideS l lo hi := ⟨_, rfl⟩
  rw [← hL] at A2 hR hin
  by_cases hz : L = []
  · rw [if_pos hz] at hR
    have HR := Lib.hid hR
    subst hz
    clear A10 hE hR h hm hok hin hx hL
    go_enter Try.func30, Try.ntmps30
    go_wp2_with fail
    refine A1.out.mono ?_; rintro e w1 ⟨rfl, hc1⟩
    have C1 := Lib.hid hc1
    clear hc1
    simp only [sV]
    go_wp2_with fail
    refine (A2.out _ (H.out.kept (C1.out.alloc _))).mono ?_; rintro e w2 ⟨v, rfl, hr2, hc2⟩
    obtain ⟨av, cv, hv⟩ := RowOf.shape hr2
    subst hv
    have C2 := Lib.hid ((C1.out.alloc _).thenSame hc2)
    clear hc2 hr2
    simp only [List.length_nil]
    go_wp2_with fail
    go_ret2
    exact ⟨by rw [HR.out]; rfl, C2.out⟩
  · rw [if_neg hz] at hR
    have hn : 0 < L.length := List.length_pos_iff.2 hz
    obtain ⟨k0, k1, m0, m1⟩ := rank_in p0 p1 hn hin.2
    have hk : rankS pm L.length = ((pm * (L.length : Int) + 999) / 1000) := rfl
    obtain ⟨j, hj⟩ : ∃ j : Nat, rankS pm L.length = (j : Int) + 1 := ⟨(rankS pm L.length - 1).toNat, by omega⟩
    have hjl : j < L.length := by omega
    have hwr : IntKind.i64.wrap (pm * (L.length : Int)) = pm * (L.length : Int) := IntWalk.i64_in _ (by omega)
    have A3 := ceildiv_any (pm * (L.length : Int))
    rw [← hk, hj] at A3
    have A3 := Lib.hid (fun w => A3 w m0 (by omega))
    rename_i A30
    have hjt : (rankS pm L.length - 1).toNat = j := by omega
    rw [hjt] at hR
    have HR := Lib.hid hR
    have hLn : L.length ≤ 256 := hin.2
    have hnb : ((L.length : Int) == 0) = false := beq_eq_false_iff_ne.2 (by omega)
    have hms : (L.mergeSort leI).length = L.length := by simp
    have Hms := Lib.hid hms
    have HL1 := Lib.hid hLn
    have hj0 : (0 : Int) ≤ (j : Int) := by omega
    have hj1 : (j : Int) < (L.length : Int) := by omega
    have hj2 : (j : Int) ≤ 256 := by omega
    clear A10 A30 hE hR h hm hok hin hx hL hz k0 k1 hk hj hjt hms
    go_enter Try.func30, Try.ntmps30
    go_wp2_with fail
    refine A1.out.mono ?_; rintro e w1 ⟨rfl, hc1⟩
    have C1 := Lib.hid hc1
    clear hc1
    simp only [sV]
    go_wp2_with fail
    refine (A2.out _ (H.out.kept (C1.out.alloc _))).mono ?_; rintro e w2 ⟨v, rfl, hr2, hc2⟩
    have A4 := sort_rowI Try.slices_Sort_int Try.slices_Sort_int_none (show RowOf icI 1 w2 _ 3 v L from hr2) (by omega)
    obtain ⟨av, cv, hv⟩ := RowOf.shape hr2
    subst hv
    have hb2 := RowOf.block hr2
    have Hb2 := Lib.hid hb2
    have C2 := Lib.hid ((C1.out.alloc _).thenSame hc2)
    have A4 := Lib.hid A4
    rename_i A40
    clear hc2 hr2 A40 hb2
    go_wp2_with fail
    refine A4.out.mono ?_; rintro e w3 ⟨rfl, hr3, hc3⟩
    have C3 : Hid (Chg [] w w3) := Lib.hid (C2.out.then hc3 (by intro y hy hl; have h1 := (Hb2.out y (by simpa using hy)).1; have h2 := C1.out.size; simp at h1; omega))
    have R3 := Lib.hid hr3
    clear hc3 hr3
    go_wp2_with fail
    refine (A3.out _).mono ?_; rintro e w4 ⟨rfl, hc4⟩
    have C4 := Lib.hid (C3.out.thenSame hc4)
    have hr4 := RowOf.kept R3.out hc4 (by simp)
    rcases RowOf.at hr4 icI_len with ⟨_, h2⟩ | ⟨g, cp, hv, -, -, hcl, -, -, hgw⟩
    · exfalso; have := Hms.out; rw [h2] at this; simp at this; omega
    · simp only [Value.slice.injEq] at hv
      obtain ⟨rfl, -, rfl⟩ := hv
      have q := hcl j (by rw [Hms.out]; exact hjl) 0 (by omega)
      obtain ⟨y, hy⟩ : ∃ y, y = (L.mergeSort leI)[j]'(by rw [Hms.out]; exact hjl) := ⟨_, rfl⟩
      have hyr : (L.mergeSort leI).getD j 0 = y := by rw [hy, List.getD_eq_getElem?_getD, List.getElem?_eq_getElem (by rw [Hms.out]; exact hjl)]; rfl
      rw [← hy] at q
      simp only [icI, List.getElem?_cons_zero, Nat.add_zero, Nat.mul_one] at q
      have Hyr := Lib.hid hyr
      clear hy hcl hyr hc4 hr4
      go_wp2_with fail
      go_ret2
      exact ⟨by rw [HR.out, Hyr.out]; rfl, C4.out⟩
end Go.Proofs.Ytmmhcacpehpjdaa
