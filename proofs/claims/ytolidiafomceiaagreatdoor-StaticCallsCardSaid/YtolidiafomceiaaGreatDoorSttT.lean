/- Chapter 9: the reference's operators; kinds of nodes. No condition. -/
import Derived.Test.YtolidiafomceiaaGreatDoorStaC
namespace Go.Proofs.YtolidiafomceiaaGreatDoor
set_option linter.unusedVariables false
set_option linter.unusedSimpArgs false
open Go.RowKit
def cmpL : List ByteArray := [⟨#[61, 61]⟩, ⟨#[33, 61]⟩, ⟨#[60]⟩, ⟨#[60, 61]⟩, ⟨#[62]⟩, ⟨#[62, 61]⟩]
def cmpB (s : ByteArray) : Bool := cmpL.any (fun k => s == k)
theorem cmpB_none {s : ByteArray} (h : ∀ x ∈ cmpL, x ≠ s) : cmpB s = false := by
  unfold cmpB
  rw [List.any_eq_false]
  intro x hx
  simpa using fun e => h x hx e.symm
set_option maxHeartbeats 4000000 in
set_option maxRecDepth 100000 in
theorem rcomp_any (s : ByteArray) (w : World) : Calls Tryz.prog 122 #[.string s] w fun e w' => e = .returned (.bool (cmpB s)) ∧ w' = w := by
  by_cases h0 : s = ⟨#[61, 61]⟩
  · have HE := Lib.hid (show cmpB s = cmpB ⟨#[61, 61]⟩ by rw [h0])
    rw [HE.out]
    subst h0
    clear HE
    go_enter Tryz.func122, Tryz.ntmps122
    go_wp2_with (fail)
    go_ret
    exact ⟨by kernel_rfl, rfl⟩
  by_cases h1 : s = ⟨#[33, 61]⟩
  · have HE := Lib.hid (show cmpB s = cmpB ⟨#[33, 61]⟩ by rw [h1])
    rw [HE.out]
    subst h1
    clear HE
    go_enter Tryz.func122, Tryz.ntmps122
    go_wp2_with (fail)
    go_ret
    exact ⟨by kernel_rfl, rfl⟩
  by_cases h2 : s = ⟨#[60]⟩
  · have HE := Lib.hid (show cmpB s = cmpB ⟨#[60]⟩ by rw [h2])
    rw [HE.out]
    subst h2
    clear HE
    go_enter Tryz.func122, Tryz.ntmps122
    go_wp2_with (fail)
    go_ret
    exact ⟨by kernel_rfl, rfl⟩
  by_cases h3 : s = ⟨#[60, 61]⟩
  · have HE := Lib.hid (show cmpB s = cmpB ⟨#[60, 61]⟩ by rw [h3])
    rw [HE.out]
    subst h3
    clear HE
    go_enter Tryz.func122, Tryz.ntmps122
    go_wp2_with (fail)
    go_ret
    exact ⟨by kernel_rfl, rfl⟩
  by_cases h4 : s = ⟨#[62]⟩
  · have HE := Lib.hid (show cmpB s = cmpB ⟨#[62]⟩ by rw [h4])
    rw [HE.out]
    subst h4
    clear HE
    go_enter Tryz.func122, Tryz.ntmps122
    go_wp2_with (fail)
    go_ret
    exact ⟨by kernel_rfl, rfl⟩
  by_cases h5 : s = ⟨#[62, 61]⟩
  · have HE := Lib.hid (show cmpB s = cmpB ⟨#[62, 61]⟩ by rw [h5])
    rw [HE.out]
    subst h5
    clear HE
    go_enter Tryz.func122, Tryz.ntmps122
    go_wp2_with (fail)
    go_ret
    exact ⟨by kernel_rfl, rfl⟩
  have HE := Lib.hid (show cmpB s = false from cmpB_none (by
    intro x hx
    simp only [cmpL, List.mem_cons, List.not_mem_nil, or_false] at hx
    rcases hx with rfl | rfl | rfl | rfl | rfl | rfl <;> intro e <;> simp_all))
  rw [HE.out]
  have q0 : (s.toList == [61, 61]) = false := (show (s.toList == [61, 61]) = (s.toList == (⟨#[61, 61]⟩ : ByteArray).toList) from by rw [show (⟨#[61, 61]⟩ : ByteArray).toList = [61, 61] from by kernel_rfl]).trans ((beq_toListBytes s ⟨#[61, 61]⟩).symm.trans (beq_eq_false_iff_ne.2 h0))
  have q1 : (s.toList == [33, 61]) = false := (show (s.toList == [33, 61]) = (s.toList == (⟨#[33, 61]⟩ : ByteArray).toList) from by rw [show (⟨#[33, 61]⟩ : ByteArray).toList = [33, 61] from by kernel_rfl]).trans ((beq_toListBytes s ⟨#[33, 61]⟩).symm.trans (beq_eq_false_iff_ne.2 h1))
  have q2 : (s.toList == [60]) = false := (show (s.toList == [60]) = (s.toList == (⟨#[60]⟩ : ByteArray).toList) from by rw [show (⟨#[60]⟩ : ByteArray).toList = [60] from by kernel_rfl]).trans ((beq_toListBytes s ⟨#[60]⟩).symm.trans (beq_eq_false_iff_ne.2 h2))
  have q3 : (s.toList == [60, 61]) = false := (show (s.toList == [60, 61]) = (s.toList == (⟨#[60, 61]⟩ : ByteArray).toList) from by rw [show (⟨#[60, 61]⟩ : ByteArray).toList = [60, 61] from by kernel_rfl]).trans ((beq_toListBytes s ⟨#[60, 61]⟩).symm.trans (beq_eq_false_iff_ne.2 h3))
  have q4 : (s.toList == [62]) = false := (show (s.toList == [62]) = (s.toList == (⟨#[62]⟩ : ByteArray).toList) from by rw [show (⟨#[62]⟩ : ByteArray).toList = [62] from by kernel_rfl]).trans ((beq_toListBytes s ⟨#[62]⟩).symm.trans (beq_eq_false_iff_ne.2 h4))
  have q5 : (s.toList == [62, 61]) = false := (show (s.toList == [62, 61]) = (s.toList == (⟨#[62, 61]⟩ : ByteArray).toList) from by rw [show (⟨#[62, 61]⟩ : ByteArray).toList = [62, 61] from by kernel_rfl]).trans ((beq_toListBytes s ⟨#[62, 61]⟩).symm.trans (beq_eq_false_iff_ne.2 h5))
  clear HE h0 h1 h2 h3 h4 h5
  go_enter Tryz.func122, Tryz.ntmps122
  go_wp2_with (fail)
  go_ret
  exact ⟨rfl, rfl⟩
def rbinB (s : ByteArray) : Bool := decide (0 < binZ s)
theorem rbinB_none {s : ByteArray} (h : ∀ x ∈ binL.map Prod.fst, x ≠ s) : rbinB s = false := by
  unfold rbinB
  rw [binZ_none (fun x hx => h x.1 (List.mem_map_of_mem hx))]
  rfl
def binK : List ByteArray := [⟨#[111, 114]⟩, ⟨#[97, 110, 100]⟩, ⟨#[61, 61]⟩, ⟨#[33, 61]⟩, ⟨#[60]⟩, ⟨#[60, 61]⟩, ⟨#[62]⟩, ⟨#[62, 61]⟩, ⟨#[43]⟩, ⟨#[45]⟩, ⟨#[42]⟩, ⟨#[47]⟩, ⟨#[37]⟩]
theorem rbinB_noneK {s : ByteArray} (h : ∀ x ∈ binK, x ≠ s) : rbinB s = false := rbinB_none h
set_option maxHeartbeats 4000000 in
set_option maxRecDepth 100000 in
theorem rbinary_any (s : ByteArray) (w : World) : Calls Tryz.prog 91 #[.string s] w fun e w' => e = .returned (.bool (rbinB s)) ∧ w' = w := by
  by_cases h0 : s = ⟨#[111, 114]⟩
  · have HE := Lib.hid (show rbinB s = rbinB ⟨#[111, 114]⟩ by rw [h0])
    rw [HE.out]
    subst h0
    clear HE
    have A := Lib.hid (fun w' => by have := rcomp_any ⟨#[111, 114]⟩ w'; rw [show cmpB ⟨#[111, 114]⟩ = false from by kernel_rfl] at this; exact this)
    go_enter Tryz.func91, Tryz.ntmps91
    go_wp2_with (go_at_call 122; (with_reducible refine Calls.mono (A.out _) ?_); rintro e w2 ⟨rfl, hw⟩; rw [hw]; clear hw)
    go_ret
    exact ⟨by kernel_rfl, rfl⟩
  by_cases h1 : s = ⟨#[97, 110, 100]⟩
  · have HE := Lib.hid (show rbinB s = rbinB ⟨#[97, 110, 100]⟩ by rw [h1])
    rw [HE.out]
    subst h1
    clear HE
    have A := Lib.hid (fun w' => by have := rcomp_any ⟨#[97, 110, 100]⟩ w'; rw [show cmpB ⟨#[97, 110, 100]⟩ = false from by kernel_rfl] at this; exact this)
    go_enter Tryz.func91, Tryz.ntmps91
    go_wp2_with (go_at_call 122; (with_reducible refine Calls.mono (A.out _) ?_); rintro e w2 ⟨rfl, hw⟩; rw [hw]; clear hw)
    go_ret
    exact ⟨by kernel_rfl, rfl⟩
  by_cases h2 : s = ⟨#[61, 61]⟩
  · have HE := Lib.hid (show rbinB s = rbinB ⟨#[61, 61]⟩ by rw [h2])
    rw [HE.out]
    subst h2
    clear HE
    have A := Lib.hid (fun w' => by have := rcomp_any ⟨#[61, 61]⟩ w'; rw [show cmpB ⟨#[61, 61]⟩ = true from by kernel_rfl] at this; exact this)
    go_enter Tryz.func91, Tryz.ntmps91
    go_wp2_with (go_at_call 122; (with_reducible refine Calls.mono (A.out _) ?_); rintro e w2 ⟨rfl, hw⟩; rw [hw]; clear hw)
    go_ret
    exact ⟨by kernel_rfl, rfl⟩
  by_cases h3 : s = ⟨#[33, 61]⟩
  · have HE := Lib.hid (show rbinB s = rbinB ⟨#[33, 61]⟩ by rw [h3])
    rw [HE.out]
    subst h3
    clear HE
    have A := Lib.hid (fun w' => by have := rcomp_any ⟨#[33, 61]⟩ w'; rw [show cmpB ⟨#[33, 61]⟩ = true from by kernel_rfl] at this; exact this)
    go_enter Tryz.func91, Tryz.ntmps91
    go_wp2_with (go_at_call 122; (with_reducible refine Calls.mono (A.out _) ?_); rintro e w2 ⟨rfl, hw⟩; rw [hw]; clear hw)
    go_ret
    exact ⟨by kernel_rfl, rfl⟩
  by_cases h4 : s = ⟨#[60]⟩
  · have HE := Lib.hid (show rbinB s = rbinB ⟨#[60]⟩ by rw [h4])
    rw [HE.out]
    subst h4
    clear HE
    have A := Lib.hid (fun w' => by have := rcomp_any ⟨#[60]⟩ w'; rw [show cmpB ⟨#[60]⟩ = true from by kernel_rfl] at this; exact this)
    go_enter Tryz.func91, Tryz.ntmps91
    go_wp2_with (go_at_call 122; (with_reducible refine Calls.mono (A.out _) ?_); rintro e w2 ⟨rfl, hw⟩; rw [hw]; clear hw)
    go_ret
    exact ⟨by kernel_rfl, rfl⟩
  by_cases h5 : s = ⟨#[60, 61]⟩
  · have HE := Lib.hid (show rbinB s = rbinB ⟨#[60, 61]⟩ by rw [h5])
    rw [HE.out]
    subst h5
    clear HE
    have A := Lib.hid (fun w' => by have := rcomp_any ⟨#[60, 61]⟩ w'; rw [show cmpB ⟨#[60, 61]⟩ = true from by kernel_rfl] at this; exact this)
    go_enter Tryz.func91, Tryz.ntmps91
    go_wp2_with (go_at_call 122; (with_reducible refine Calls.mono (A.out _) ?_); rintro e w2 ⟨rfl, hw⟩; rw [hw]; clear hw)
    go_ret
    exact ⟨by kernel_rfl, rfl⟩
  by_cases h6 : s = ⟨#[62]⟩
  · have HE := Lib.hid (show rbinB s = rbinB ⟨#[62]⟩ by rw [h6])
    rw [HE.out]
    subst h6
    clear HE
    have A := Lib.hid (fun w' => by have := rcomp_any ⟨#[62]⟩ w'; rw [show cmpB ⟨#[62]⟩ = true from by kernel_rfl] at this; exact this)
    go_enter Tryz.func91, Tryz.ntmps91
    go_wp2_with (go_at_call 122; (with_reducible refine Calls.mono (A.out _) ?_); rintro e w2 ⟨rfl, hw⟩; rw [hw]; clear hw)
    go_ret
    exact ⟨by kernel_rfl, rfl⟩
  by_cases h7 : s = ⟨#[62, 61]⟩
  · have HE := Lib.hid (show rbinB s = rbinB ⟨#[62, 61]⟩ by rw [h7])
    rw [HE.out]
    subst h7
    clear HE
    have A := Lib.hid (fun w' => by have := rcomp_any ⟨#[62, 61]⟩ w'; rw [show cmpB ⟨#[62, 61]⟩ = true from by kernel_rfl] at this; exact this)
    go_enter Tryz.func91, Tryz.ntmps91
    go_wp2_with (go_at_call 122; (with_reducible refine Calls.mono (A.out _) ?_); rintro e w2 ⟨rfl, hw⟩; rw [hw]; clear hw)
    go_ret
    exact ⟨by kernel_rfl, rfl⟩
  by_cases h8 : s = ⟨#[43]⟩
  · have HE := Lib.hid (show rbinB s = rbinB ⟨#[43]⟩ by rw [h8])
    rw [HE.out]
    subst h8
    clear HE
    have A := Lib.hid (fun w' => by have := rcomp_any ⟨#[43]⟩ w'; rw [show cmpB ⟨#[43]⟩ = false from by kernel_rfl] at this; exact this)
    go_enter Tryz.func91, Tryz.ntmps91
    go_wp2_with (go_at_call 122; (with_reducible refine Calls.mono (A.out _) ?_); rintro e w2 ⟨rfl, hw⟩; rw [hw]; clear hw)
    go_ret
    exact ⟨by kernel_rfl, rfl⟩
  by_cases h9 : s = ⟨#[45]⟩
  · have HE := Lib.hid (show rbinB s = rbinB ⟨#[45]⟩ by rw [h9])
    rw [HE.out]
    subst h9
    clear HE
    have A := Lib.hid (fun w' => by have := rcomp_any ⟨#[45]⟩ w'; rw [show cmpB ⟨#[45]⟩ = false from by kernel_rfl] at this; exact this)
    go_enter Tryz.func91, Tryz.ntmps91
    go_wp2_with (go_at_call 122; (with_reducible refine Calls.mono (A.out _) ?_); rintro e w2 ⟨rfl, hw⟩; rw [hw]; clear hw)
    go_ret
    exact ⟨by kernel_rfl, rfl⟩
  by_cases h10 : s = ⟨#[42]⟩
  · have HE := Lib.hid (show rbinB s = rbinB ⟨#[42]⟩ by rw [h10])
    rw [HE.out]
    subst h10
    clear HE
    have A := Lib.hid (fun w' => by have := rcomp_any ⟨#[42]⟩ w'; rw [show cmpB ⟨#[42]⟩ = false from by kernel_rfl] at this; exact this)
    go_enter Tryz.func91, Tryz.ntmps91
    go_wp2_with (go_at_call 122; (with_reducible refine Calls.mono (A.out _) ?_); rintro e w2 ⟨rfl, hw⟩; rw [hw]; clear hw)
    go_ret
    exact ⟨by kernel_rfl, rfl⟩
  by_cases h11 : s = ⟨#[47]⟩
  · have HE := Lib.hid (show rbinB s = rbinB ⟨#[47]⟩ by rw [h11])
    rw [HE.out]
    subst h11
    clear HE
    have A := Lib.hid (fun w' => by have := rcomp_any ⟨#[47]⟩ w'; rw [show cmpB ⟨#[47]⟩ = false from by kernel_rfl] at this; exact this)
    go_enter Tryz.func91, Tryz.ntmps91
    go_wp2_with (go_at_call 122; (with_reducible refine Calls.mono (A.out _) ?_); rintro e w2 ⟨rfl, hw⟩; rw [hw]; clear hw)
    go_ret
    exact ⟨by kernel_rfl, rfl⟩
  by_cases h12 : s = ⟨#[37]⟩
  · have HE := Lib.hid (show rbinB s = rbinB ⟨#[37]⟩ by rw [h12])
    rw [HE.out]
    subst h12
    clear HE
    have A := Lib.hid (fun w' => by have := rcomp_any ⟨#[37]⟩ w'; rw [show cmpB ⟨#[37]⟩ = false from by kernel_rfl] at this; exact this)
    go_enter Tryz.func91, Tryz.ntmps91
    go_wp2_with (go_at_call 122; (with_reducible refine Calls.mono (A.out _) ?_); rintro e w2 ⟨rfl, hw⟩; rw [hw]; clear hw)
    go_ret
    exact ⟨by kernel_rfl, rfl⟩
  have HE := Lib.hid (show rbinB s = false from rbinB_noneK (by
    intro x hx
    simp only [binK, List.mem_cons, List.not_mem_nil, or_false] at hx
    rcases hx with rfl | rfl | rfl | rfl | rfl | rfl | rfl | rfl | rfl | rfl | rfl | rfl | rfl <;> intro e <;> simp_all))
  rw [HE.out]
  have q0 : (s.toList == [111, 114]) = false := (show (s.toList == [111, 114]) = (s.toList == (⟨#[111, 114]⟩ : ByteArray).toList) from by rw [show (⟨#[111, 114]⟩ : ByteArray).toList = [111, 114] from by kernel_rfl]).trans ((beq_toListBytes s ⟨#[111, 114]⟩).symm.trans (beq_eq_false_iff_ne.2 h0))
  have q1 : (s.toList == [97, 110, 100]) = false := (show (s.toList == [97, 110, 100]) = (s.toList == (⟨#[97, 110, 100]⟩ : ByteArray).toList) from by rw [show (⟨#[97, 110, 100]⟩ : ByteArray).toList = [97, 110, 100] from by kernel_rfl]).trans ((beq_toListBytes s ⟨#[97, 110, 100]⟩).symm.trans (beq_eq_false_iff_ne.2 h1))
  have q2 : (s.toList == [61, 61]) = false := (show (s.toList == [61, 61]) = (s.toList == (⟨#[61, 61]⟩ : ByteArray).toList) from by rw [show (⟨#[61, 61]⟩ : ByteArray).toList = [61, 61] from by kernel_rfl]).trans ((beq_toListBytes s ⟨#[61, 61]⟩).symm.trans (beq_eq_false_iff_ne.2 h2))
  have q3 : (s.toList == [33, 61]) = false := (show (s.toList == [33, 61]) = (s.toList == (⟨#[33, 61]⟩ : ByteArray).toList) from by rw [show (⟨#[33, 61]⟩ : ByteArray).toList = [33, 61] from by kernel_rfl]).trans ((beq_toListBytes s ⟨#[33, 61]⟩).symm.trans (beq_eq_false_iff_ne.2 h3))
  have q4 : (s.toList == [60]) = false := (show (s.toList == [60]) = (s.toList == (⟨#[60]⟩ : ByteArray).toList) from by rw [show (⟨#[60]⟩ : ByteArray).toList = [60] from by kernel_rfl]).trans ((beq_toListBytes s ⟨#[60]⟩).symm.trans (beq_eq_false_iff_ne.2 h4))
  have q5 : (s.toList == [60, 61]) = false := (show (s.toList == [60, 61]) = (s.toList == (⟨#[60, 61]⟩ : ByteArray).toList) from by rw [show (⟨#[60, 61]⟩ : ByteArray).toList = [60, 61] from by kernel_rfl]).trans ((beq_toListBytes s ⟨#[60, 61]⟩).symm.trans (beq_eq_false_iff_ne.2 h5))
  have q6 : (s.toList == [62]) = false := (show (s.toList == [62]) = (s.toList == (⟨#[62]⟩ : ByteArray).toList) from by rw [show (⟨#[62]⟩ : ByteArray).toList = [62] from by kernel_rfl]).trans ((beq_toListBytes s ⟨#[62]⟩).symm.trans (beq_eq_false_iff_ne.2 h6))
  have q7 : (s.toList == [62, 61]) = false := (show (s.toList == [62, 61]) = (s.toList == (⟨#[62, 61]⟩ : ByteArray).toList) from by rw [show (⟨#[62, 61]⟩ : ByteArray).toList = [62, 61] from by kernel_rfl]).trans ((beq_toListBytes s ⟨#[62, 61]⟩).symm.trans (beq_eq_false_iff_ne.2 h7))
  have q8 : (s.toList == [43]) = false := (show (s.toList == [43]) = (s.toList == (⟨#[43]⟩ : ByteArray).toList) from by rw [show (⟨#[43]⟩ : ByteArray).toList = [43] from by kernel_rfl]).trans ((beq_toListBytes s ⟨#[43]⟩).symm.trans (beq_eq_false_iff_ne.2 h8))
  have q9 : (s.toList == [45]) = false := (show (s.toList == [45]) = (s.toList == (⟨#[45]⟩ : ByteArray).toList) from by rw [show (⟨#[45]⟩ : ByteArray).toList = [45] from by kernel_rfl]).trans ((beq_toListBytes s ⟨#[45]⟩).symm.trans (beq_eq_false_iff_ne.2 h9))
  have q10 : (s.toList == [42]) = false := (show (s.toList == [42]) = (s.toList == (⟨#[42]⟩ : ByteArray).toList) from by rw [show (⟨#[42]⟩ : ByteArray).toList = [42] from by kernel_rfl]).trans ((beq_toListBytes s ⟨#[42]⟩).symm.trans (beq_eq_false_iff_ne.2 h10))
  have q11 : (s.toList == [47]) = false := (show (s.toList == [47]) = (s.toList == (⟨#[47]⟩ : ByteArray).toList) from by rw [show (⟨#[47]⟩ : ByteArray).toList = [47] from by kernel_rfl]).trans ((beq_toListBytes s ⟨#[47]⟩).symm.trans (beq_eq_false_iff_ne.2 h11))
  have q12 : (s.toList == [37]) = false := (show (s.toList == [37]) = (s.toList == (⟨#[37]⟩ : ByteArray).toList) from by rw [show (⟨#[37]⟩ : ByteArray).toList = [37] from by kernel_rfl]).trans ((beq_toListBytes s ⟨#[37]⟩).symm.trans (beq_eq_false_iff_ne.2 h12))
  have A := Lib.hid (fun w' => by have := rcomp_any s w'; rw [cmpB_none (by
    intro x hx
    simp only [cmpL, List.mem_cons, List.not_mem_nil, or_false] at hx
    rcases hx with rfl | rfl | rfl | rfl | rfl | rfl <;> intro e <;> simp_all)] at this; exact this)
  clear HE h0 h1 h2 h3 h4 h5 h6 h7 h8 h9 h10 h11 h12
  go_enter Tryz.func91, Tryz.ntmps91
  go_wp2_with (go_at_call 122; (with_reducible refine Calls.mono (A.out _) ?_); rintro e w2 ⟨rfl, hw⟩; rw [hw]; clear hw)
  go_ret
  exact ⟨rfl, rfl⟩
set_option maxHeartbeats 4000000 in
set_option maxRecDepth 100000 in
theorem rstatement_any (d : Nd) (w : World) : Calls Tryz.prog 92 #[.agg (ndC d).toArray] w fun e w' => e = .returned (.bool (sStatB d.kind)) ∧ Chg [] w w' := by
  obtain ⟨W1, hW1⟩ : ∃ W1, W1 = w.alloc (ndO d) := ⟨_, rfl⟩
  have C1 := Lib.hid (show Chg [] w W1 by rw [hW1]; exact (Chg.refl _ _).alloc _)
  have B1 := Lib.hid (show W1.heap[w.heap.size]? = some (ndO d) by rw [hW1]; exact heap_alloc_new _ _)
  unfold ndO at hW1 B1
  have k1 := blk_cell B1.out
  simp only [ndC]
  by_cases h1 : 13 ≤ d.kind
  · by_cases h2 : d.kind ≤ 18
    · rw [show sStatB d.kind = true from by unfold sStatB; rw [decide_eq_true h1, decide_eq_true h2]; rfl]
      go_enter Tryz.func92, Tryz.ntmps92
      go_upto_region 1 with fail
      rw [← hW1]
      clear hW1
      go_wp2_with fail
      go_ret
      exact ⟨rfl, C1.out⟩
    · rw [show sStatB d.kind = false from by unfold sStatB; rw [decide_eq_false h2]; simp]
      go_enter Tryz.func92, Tryz.ntmps92
      go_upto_region 1 with fail
      rw [← hW1]
      clear hW1
      go_wp2_with fail
      go_ret
      exact ⟨rfl, C1.out⟩
  · rw [show sStatB d.kind = false from by unfold sStatB; rw [decide_eq_false h1]; rfl]
    go_enter Tryz.func92, Tryz.ntmps92
    go_upto_region 1 with fail
    rw [← hW1]
    clear hW1
    go_wp2_with fail
    go_ret
    exact ⟨rfl, C1.out⟩
set_option maxHeartbeats 4000000 in
set_option maxRecDepth 100000 in
theorem rexpression_any (d : Nd) (w : World) : Calls Tryz.prog 93 #[.agg (ndC d).toArray] w fun e w' => e = .returned (.bool (sExprB d.kind)) ∧ Chg [] w w' := by
  obtain ⟨W1, hW1⟩ : ∃ W1, W1 = w.alloc (ndO d) := ⟨_, rfl⟩
  have C1 := Lib.hid (show Chg [] w W1 by rw [hW1]; exact (Chg.refl _ _).alloc _)
  have B1 := Lib.hid (show W1.heap[w.heap.size]? = some (ndO d) by rw [hW1]; exact heap_alloc_new _ _)
  unfold ndO at hW1 B1
  have k1 := blk_cell B1.out
  simp only [ndC]
  by_cases h1 : 1 ≤ d.kind
  · by_cases h2 : d.kind ≤ 12
    · rw [show sExprB d.kind = true from by unfold sExprB; rw [decide_eq_true h1, decide_eq_true h2]; rfl]
      go_enter Tryz.func93, Tryz.ntmps93
      go_upto_region 1 with fail
      rw [← hW1]
      clear hW1
      go_wp2_with fail
      go_ret
      exact ⟨rfl, C1.out⟩
    · rw [show sExprB d.kind = false from by unfold sExprB; rw [decide_eq_false h2]; simp]
      go_enter Tryz.func93, Tryz.ntmps93
      go_upto_region 1 with fail
      rw [← hW1]
      clear hW1
      go_wp2_with fail
      go_ret
      exact ⟨rfl, C1.out⟩
  · rw [show sExprB d.kind = false from by unfold sExprB; rw [decide_eq_false h1]; rfl]
    go_enter Tryz.func93, Tryz.ntmps93
    go_upto_region 1 with fail
    rw [← hW1]
    clear hW1
    go_wp2_with fail
    go_ret
    exact ⟨rfl, C1.out⟩
end Go.Proofs.YtolidiafomceiaaGreatDoor
