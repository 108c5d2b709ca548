/- Chapter 9: contracts: Keyword, run, name, the checks of a node's fields. Condition: the table of Itoa lies as the program lays it. -/
import Derived.Test.YtolidiafomceiaaGreatDoorStaP
import Derived.Test.YtolidiafomceiaaGreatDoorStmA
namespace Go.Proofs.YtolidiafomceiaaGreatDoor
set_option linter.unusedVariables false
set_option linter.unusedSimpArgs false
open Go.RowKit
/-- The level of a binary operator. -/
def binL : List (ByteArray × Int) := [(⟨#[111, 114]⟩, 1), (⟨#[97, 110, 100]⟩, 2), (⟨#[61, 61]⟩, 4), (⟨#[33, 61]⟩, 4), (⟨#[60]⟩, 4), (⟨#[60, 61]⟩, 4), (⟨#[62]⟩, 4), (⟨#[62, 61]⟩, 4), (⟨#[43]⟩, 5), (⟨#[45]⟩, 5), (⟨#[42]⟩, 6), (⟨#[47]⟩, 6), (⟨#[37]⟩, 6)]
def binZ (s : ByteArray) : Int := ((binL.find? (fun x => x.1 == s)).map Prod.snd).getD 0
theorem binZ_none {s : ByteArray} (h : ∀ x ∈ binL, x.1 ≠ s) : binZ s = 0 := by
  unfold binZ
  rw [List.find?_eq_none.2 (by intro y hy; simpa using h y hy)]
  rfl
theorem kwB_none {s : ByteArray} (h : ∀ x ∈ sKwL, x ≠ s) : sKwB s = false := by
  unfold sKwB
  rw [List.any_eq_false]
  intro x hx
  simpa using fun e => h x hx e.symm
set_option maxHeartbeats 4000000 in
set_option maxRecDepth 100000 in
theorem keyword_any (s : ByteArray) (w : World) : Calls Tryz.prog 111 #[.string s] w fun e w' => e = .returned (.bool (sKwB s)) ∧ w' = w := by
  by_cases h0 : s = ⟨#[102, 117, 110, 99]⟩
  · have HE := Lib.hid (show sKwB s = sKwB ⟨#[102, 117, 110, 99]⟩ by rw [h0])
    rw [HE.out]
    subst h0
    clear HE
    go_enter Tryz.func111, Tryz.ntmps111
    go_wp2_with fail
    go_ret
    exact ⟨by kernel_rfl, rfl⟩
  by_cases h1 : s = ⟨#[108, 101, 116]⟩
  · have HE := Lib.hid (show sKwB s = sKwB ⟨#[108, 101, 116]⟩ by rw [h1])
    rw [HE.out]
    subst h1
    clear HE
    go_enter Tryz.func111, Tryz.ntmps111
    go_wp2_with fail
    go_ret
    exact ⟨by kernel_rfl, rfl⟩
  by_cases h2 : s = ⟨#[105, 102]⟩
  · have HE := Lib.hid (show sKwB s = sKwB ⟨#[105, 102]⟩ by rw [h2])
    rw [HE.out]
    subst h2
    clear HE
    go_enter Tryz.func111, Tryz.ntmps111
    go_wp2_with fail
    go_ret
    exact ⟨by kernel_rfl, rfl⟩
  by_cases h3 : s = ⟨#[101, 108, 115, 101]⟩
  · have HE := Lib.hid (show sKwB s = sKwB ⟨#[101, 108, 115, 101]⟩ by rw [h3])
    rw [HE.out]
    subst h3
    clear HE
    go_enter Tryz.func111, Tryz.ntmps111
    go_wp2_with fail
    go_ret
    exact ⟨by kernel_rfl, rfl⟩
  by_cases h4 : s = ⟨#[119, 104, 105, 108, 101]⟩
  · have HE := Lib.hid (show sKwB s = sKwB ⟨#[119, 104, 105, 108, 101]⟩ by rw [h4])
    rw [HE.out]
    subst h4
    clear HE
    go_enter Tryz.func111, Tryz.ntmps111
    go_wp2_with fail
    go_ret
    exact ⟨by kernel_rfl, rfl⟩
  by_cases h5 : s = ⟨#[114, 101, 116, 117, 114, 110]⟩
  · have HE := Lib.hid (show sKwB s = sKwB ⟨#[114, 101, 116, 117, 114, 110]⟩ by rw [h5])
    rw [HE.out]
    subst h5
    clear HE
    go_enter Tryz.func111, Tryz.ntmps111
    go_wp2_with fail
    go_ret
    exact ⟨by kernel_rfl, rfl⟩
  by_cases h6 : s = ⟨#[97, 110, 100]⟩
  · have HE := Lib.hid (show sKwB s = sKwB ⟨#[97, 110, 100]⟩ by rw [h6])
    rw [HE.out]
    subst h6
    clear HE
    go_enter Tryz.func111, Tryz.ntmps111
    go_wp2_with fail
    go_ret
    exact ⟨by kernel_rfl, rfl⟩
  by_cases h7 : s = ⟨#[111, 114]⟩
  · have HE := Lib.hid (show sKwB s = sKwB ⟨#[111, 114]⟩ by rw [h7])
    rw [HE.out]
    subst h7
    clear HE
    go_enter Tryz.func111, Tryz.ntmps111
    go_wp2_with fail
    go_ret
    exact ⟨by kernel_rfl, rfl⟩
  by_cases h8 : s = ⟨#[110, 111, 116]⟩
  · have HE := Lib.hid (show sKwB s = sKwB ⟨#[110, 111, 116]⟩ by rw [h8])
    rw [HE.out]
    subst h8
    clear HE
    go_enter Tryz.func111, Tryz.ntmps111
    go_wp2_with fail
    go_ret
    exact ⟨by kernel_rfl, rfl⟩
  by_cases h9 : s = ⟨#[110, 117, 108, 108]⟩
  · have HE := Lib.hid (show sKwB s = sKwB ⟨#[110, 117, 108, 108]⟩ by rw [h9])
    rw [HE.out]
    subst h9
    clear HE
    go_enter Tryz.func111, Tryz.ntmps111
    go_wp2_with fail
    go_ret
    exact ⟨by kernel_rfl, rfl⟩
  by_cases h10 : s = ⟨#[116, 114, 117, 101]⟩
  · have HE := Lib.hid (show sKwB s = sKwB ⟨#[116, 114, 117, 101]⟩ by rw [h10])
    rw [HE.out]
    subst h10
    clear HE
    go_enter Tryz.func111, Tryz.ntmps111
    go_wp2_with fail
    go_ret
    exact ⟨by kernel_rfl, rfl⟩
  by_cases h11 : s = ⟨#[102, 97, 108, 115, 101]⟩
  · have HE := Lib.hid (show sKwB s = sKwB ⟨#[102, 97, 108, 115, 101]⟩ by rw [h11])
    rw [HE.out]
    subst h11
    clear HE
    go_enter Tryz.func111, Tryz.ntmps111
    go_wp2_with fail
    go_ret
    exact ⟨by kernel_rfl, rfl⟩
  have HE := Lib.hid (show sKwB s = false from kwB_none (by
    intro x hx
    simp only [sKwL, List.mem_cons, List.not_mem_nil, or_false] at hx
    rcases hx with rfl | rfl | rfl | rfl | rfl | rfl | rfl | rfl | rfl | rfl | rfl | rfl <;> intro e <;> simp_all))
  rw [HE.out]
  have q0 : (s.toList == [102, 117, 110, 99]) = false := (show (s.toList == [102, 117, 110, 99]) = (s.toList == (⟨#[102, 117, 110, 99]⟩ : ByteArray).toList) from by rw [show (⟨#[102, 117, 110, 99]⟩ : ByteArray).toList = [102, 117, 110, 99] from by kernel_rfl]).trans ((beq_toListBytes s ⟨#[102, 117, 110, 99]⟩).symm.trans (beq_eq_false_iff_ne.2 h0))
  have q1 : (s.toList == [108, 101, 116]) = false := (show (s.toList == [108, 101, 116]) = (s.toList == (⟨#[108, 101, 116]⟩ : ByteArray).toList) from by rw [show (⟨#[108, 101, 116]⟩ : ByteArray).toList = [108, 101, 116] from by kernel_rfl]).trans ((beq_toListBytes s ⟨#[108, 101, 116]⟩).symm.trans (beq_eq_false_iff_ne.2 h1))
  have q2 : (s.toList == [105, 102]) = false := (show (s.toList == [105, 102]) = (s.toList == (⟨#[105, 102]⟩ : ByteArray).toList) from by rw [show (⟨#[105, 102]⟩ : ByteArray).toList = [105, 102] from by kernel_rfl]).trans ((beq_toListBytes s ⟨#[105, 102]⟩).symm.trans (beq_eq_false_iff_ne.2 h2))
  have q3 : (s.toList == [101, 108, 115, 101]) = false := (show (s.toList == [101, 108, 115, 101]) = (s.toList == (⟨#[101, 108, 115, 101]⟩ : ByteArray).toList) from by rw [show (⟨#[101, 108, 115, 101]⟩ : ByteArray).toList = [101, 108, 115, 101] from by kernel_rfl]).trans ((beq_toListBytes s ⟨#[101, 108, 115, 101]⟩).symm.trans (beq_eq_false_iff_ne.2 h3))
  have q4 : (s.toList == [119, 104, 105, 108, 101]) = false := (show (s.toList == [119, 104, 105, 108, 101]) = (s.toList == (⟨#[119, 104, 105, 108, 101]⟩ : ByteArray).toList) from by rw [show (⟨#[119, 104, 105, 108, 101]⟩ : ByteArray).toList = [119, 104, 105, 108, 101] from by kernel_rfl]).trans ((beq_toListBytes s ⟨#[119, 104, 105, 108, 101]⟩).symm.trans (beq_eq_false_iff_ne.2 h4))
  have q5 : (s.toList == [114, 101, 116, 117, 114, 110]) = false := (show (s.toList == [114, 101, 116, 117, 114, 110]) = (s.toList == (⟨#[114, 101, 116, 117, 114, 110]⟩ : ByteArray).toList) from by rw [show (⟨#[114, 101, 116, 117, 114, 110]⟩ : ByteArray).toList = [114, 101, 116, 117, 114, 110] from by kernel_rfl]).trans ((beq_toListBytes s ⟨#[114, 101, 116, 117, 114, 110]⟩).symm.trans (beq_eq_false_iff_ne.2 h5))
  have q6 : (s.toList == [97, 110, 100]) = false := (show (s.toList == [97, 110, 100]) = (s.toList == (⟨#[97, 110, 100]⟩ : ByteArray).toList) from by rw [show (⟨#[97, 110, 100]⟩ : ByteArray).toList = [97, 110, 100] from by kernel_rfl]).trans ((beq_toListBytes s ⟨#[97, 110, 100]⟩).symm.trans (beq_eq_false_iff_ne.2 h6))
  have q7 : (s.toList == [111, 114]) = false := (show (s.toList == [111, 114]) = (s.toList == (⟨#[111, 114]⟩ : ByteArray).toList) from by rw [show (⟨#[111, 114]⟩ : ByteArray).toList = [111, 114] from by kernel_rfl]).trans ((beq_toListBytes s ⟨#[111, 114]⟩).symm.trans (beq_eq_false_iff_ne.2 h7))
  have q8 : (s.toList == [110, 111, 116]) = false := (show (s.toList == [110, 111, 116]) = (s.toList == (⟨#[110, 111, 116]⟩ : ByteArray).toList) from by rw [show (⟨#[110, 111, 116]⟩ : ByteArray).toList = [110, 111, 116] from by kernel_rfl]).trans ((beq_toListBytes s ⟨#[110, 111, 116]⟩).symm.trans (beq_eq_false_iff_ne.2 h8))
  have q9 : (s.toList == [110, 117, 108, 108]) = false := (show (s.toList == [110, 117, 108, 108]) = (s.toList == (⟨#[110, 117, 108, 108]⟩ : ByteArray).toList) from by rw [show (⟨#[110, 117, 108, 108]⟩ : ByteArray).toList = [110, 117, 108, 108] from by kernel_rfl]).trans ((beq_toListBytes s ⟨#[110, 117, 108, 108]⟩).symm.trans (beq_eq_false_iff_ne.2 h9))
  have q10 : (s.toList == [116, 114, 117, 101]) = false := (show (s.toList == [116, 114, 117, 101]) = (s.toList == (⟨#[116, 114, 117, 101]⟩ : ByteArray).toList) from by rw [show (⟨#[116, 114, 117, 101]⟩ : ByteArray).toList = [116, 114, 117, 101] from by kernel_rfl]).trans ((beq_toListBytes s ⟨#[116, 114, 117, 101]⟩).symm.trans (beq_eq_false_iff_ne.2 h10))
  have q11 : (s.toList == [102, 97, 108, 115, 101]) = false := (show (s.toList == [102, 97, 108, 115, 101]) = (s.toList == (⟨#[102, 97, 108, 115, 101]⟩ : ByteArray).toList) from by rw [show (⟨#[102, 97, 108, 115, 101]⟩ : ByteArray).toList = [102, 97, 108, 115, 101] from by kernel_rfl]).trans ((beq_toListBytes s ⟨#[102, 97, 108, 115, 101]⟩).symm.trans (beq_eq_false_iff_ne.2 h11))
  clear HE h0 h1 h2 h3 h4 h5 h6 h7 h8 h9 h10 h11
  go_enter Tryz.func111, Tryz.ntmps111
  go_wp2_with fail
  go_ret
  exact ⟨rfl, rfl⟩
set_option maxHeartbeats 4000000 in
set_option maxRecDepth 100000 in
theorem binary_any (s : ByteArray) (w : World) : Calls Tryz.prog 137 #[.string s] w fun e w' => e = .returned (.int .i64 (binZ s)) ∧ w' = w := by
  by_cases h0 : s = ⟨#[111, 114]⟩
  · have HE := Lib.hid (show binZ s = binZ ⟨#[111, 114]⟩ by rw [h0])
    rw [HE.out]
    subst h0
    clear HE
    go_enter Tryz.func137, Tryz.ntmps137
    go_wp2_with fail
    go_ret
    exact ⟨by kernel_rfl, rfl⟩
  by_cases h1 : s = ⟨#[97, 110, 100]⟩
  · have HE := Lib.hid (show binZ s = binZ ⟨#[97, 110, 100]⟩ by rw [h1])
    rw [HE.out]
    subst h1
    clear HE
    go_enter Tryz.func137, Tryz.ntmps137
    go_wp2_with fail
    go_ret
    exact ⟨by kernel_rfl, rfl⟩
  by_cases h2 : s = ⟨#[61, 61]⟩
  · have HE := Lib.hid (show binZ s = binZ ⟨#[61, 61]⟩ by rw [h2])
    rw [HE.out]
    subst h2
    clear HE
    go_enter Tryz.func137, Tryz.ntmps137
    go_wp2_with fail
    go_ret
    exact ⟨by kernel_rfl, rfl⟩
  by_cases h3 : s = ⟨#[33, 61]⟩
  · have HE := Lib.hid (show binZ s = binZ ⟨#[33, 61]⟩ by rw [h3])
    rw [HE.out]
    subst h3
    clear HE
    go_enter Tryz.func137, Tryz.ntmps137
    go_wp2_with fail
    go_ret
    exact ⟨by kernel_rfl, rfl⟩
  by_cases h4 : s = ⟨#[60]⟩
  · have HE := Lib.hid (show binZ s = binZ ⟨#[60]⟩ by rw [h4])
    rw [HE.out]
    subst h4
    clear HE
    go_enter Tryz.func137, Tryz.ntmps137
    go_wp2_with fail
    go_ret
    exact ⟨by kernel_rfl, rfl⟩
  by_cases h5 : s = ⟨#[60, 61]⟩
  · have HE := Lib.hid (show binZ s = binZ ⟨#[60, 61]⟩ by rw [h5])
    rw [HE.out]
    subst h5
    clear HE
    go_enter Tryz.func137, Tryz.ntmps137
    go_wp2_with fail
    go_ret
    exact ⟨by kernel_rfl, rfl⟩
  by_cases h6 : s = ⟨#[62]⟩
  · have HE := Lib.hid (show binZ s = binZ ⟨#[62]⟩ by rw [h6])
    rw [HE.out]
    subst h6
    clear HE
    go_enter Tryz.func137, Tryz.ntmps137
    go_wp2_with fail
    go_ret
    exact ⟨by kernel_rfl, rfl⟩
  by_cases h7 : s = ⟨#[62, 61]⟩
  · have HE := Lib.hid (show binZ s = binZ ⟨#[62, 61]⟩ by rw [h7])
    rw [HE.out]
    subst h7
    clear HE
    go_enter Tryz.func137, Tryz.ntmps137
    go_wp2_with fail
    go_ret
    exact ⟨by kernel_rfl, rfl⟩
  by_cases h8 : s = ⟨#[43]⟩
  · have HE := Lib.hid (show binZ s = binZ ⟨#[43]⟩ by rw [h8])
    rw [HE.out]
    subst h8
    clear HE
    go_enter Tryz.func137, Tryz.ntmps137
    go_wp2_with fail
    go_ret
    exact ⟨by kernel_rfl, rfl⟩
  by_cases h9 : s = ⟨#[45]⟩
  · have HE := Lib.hid (show binZ s = binZ ⟨#[45]⟩ by rw [h9])
    rw [HE.out]
    subst h9
    clear HE
    go_enter Tryz.func137, Tryz.ntmps137
    go_wp2_with fail
    go_ret
    exact ⟨by kernel_rfl, rfl⟩
  by_cases h10 : s = ⟨#[42]⟩
  · have HE := Lib.hid (show binZ s = binZ ⟨#[42]⟩ by rw [h10])
    rw [HE.out]
    subst h10
    clear HE
    go_enter Tryz.func137, Tryz.ntmps137
    go_wp2_with fail
    go_ret
    exact ⟨by kernel_rfl, rfl⟩
  by_cases h11 : s = ⟨#[47]⟩
  · have HE := Lib.hid (show binZ s = binZ ⟨#[47]⟩ by rw [h11])
    rw [HE.out]
    subst h11
    clear HE
    go_enter Tryz.func137, Tryz.ntmps137
    go_wp2_with fail
    go_ret
    exact ⟨by kernel_rfl, rfl⟩
  by_cases h12 : s = ⟨#[37]⟩
  · have HE := Lib.hid (show binZ s = binZ ⟨#[37]⟩ by rw [h12])
    rw [HE.out]
    subst h12
    clear HE
    go_enter Tryz.func137, Tryz.ntmps137
    go_wp2_with fail
    go_ret
    exact ⟨by kernel_rfl, rfl⟩
  have HE := Lib.hid (show binZ s = 0 from binZ_none (by
    intro x hx
    simp only [binL, List.mem_cons, List.not_mem_nil, or_false] at hx
    rcases hx with rfl | rfl | rfl | rfl | rfl | rfl | rfl | rfl | rfl | rfl | rfl | rfl | rfl <;> intro e <;> simp_all))
  rw [HE.out]
  have q0 : (s.toList == [111, 114]) = false := (show (s.toList == [111, 114]) = (s.toList == (⟨#[111, 114]⟩ : ByteArray).toList) from by rw [show (⟨#[111, 114]⟩ : ByteArray).toList = [111, 114] from by kernel_rfl]).trans ((beq_toListBytes s ⟨#[111, 114]⟩).symm.trans (beq_eq_false_iff_ne.2 h0))
  have q1 : (s.toList == [97, 110, 100]) = false := (show (s.toList == [97, 110, 100]) = (s.toList == (⟨#[97, 110, 100]⟩ : ByteArray).toList) from by rw [show (⟨#[97, 110, 100]⟩ : ByteArray).toList = [97, 110, 100] from by kernel_rfl]).trans ((beq_toListBytes s ⟨#[97, 110, 100]⟩).symm.trans (beq_eq_false_iff_ne.2 h1))
  have q2 : (s.toList == [61, 61]) = false := (show (s.toList == [61, 61]) = (s.toList == (⟨#[61, 61]⟩ : ByteArray).toList) from by rw [show (⟨#[61, 61]⟩ : ByteArray).toList = [61, 61] from by kernel_rfl]).trans ((beq_toListBytes s ⟨#[61, 61]⟩).symm.trans (beq_eq_false_iff_ne.2 h2))
  have q3 : (s.toList == [33, 61]) = false := (show (s.toList == [33, 61]) = (s.toList == (⟨#[33, 61]⟩ : ByteArray).toList) from by rw [show (⟨#[33, 61]⟩ : ByteArray).toList = [33, 61] from by kernel_rfl]).trans ((beq_toListBytes s ⟨#[33, 61]⟩).symm.trans (beq_eq_false_iff_ne.2 h3))
  have q4 : (s.toList == [60]) = false := (show (s.toList == [60]) = (s.toList == (⟨#[60]⟩ : ByteArray).toList) from by rw [show (⟨#[60]⟩ : ByteArray).toList = [60] from by kernel_rfl]).trans ((beq_toListBytes s ⟨#[60]⟩).symm.trans (beq_eq_false_iff_ne.2 h4))
  have q5 : (s.toList == [60, 61]) = false := (show (s.toList == [60, 61]) = (s.toList == (⟨#[60, 61]⟩ : ByteArray).toList) from by rw [show (⟨#[60, 61]⟩ : ByteArray).toList = [60, 61] from by kernel_rfl]).trans ((beq_toListBytes s ⟨#[60, 61]⟩).symm.trans (beq_eq_false_iff_ne.2 h5))
  have q6 : (s.toList == [62]) = false := (show (s.toList == [62]) = (s.toList == (⟨#[62]⟩ : ByteArray).toList) from by rw [show (⟨#[62]⟩ : ByteArray).toList = [62] from by kernel_rfl]).trans ((beq_toListBytes s ⟨#[62]⟩).symm.trans (beq_eq_false_iff_ne.2 h6))
  have q7 : (s.toList == [62, 61]) = false := (show (s.toList == [62, 61]) = (s.toList == (⟨#[62, 61]⟩ : ByteArray).toList) from by rw [show (⟨#[62, 61]⟩ : ByteArray).toList = [62, 61] from by kernel_rfl]).trans ((beq_toListBytes s ⟨#[62, 61]⟩).symm.trans (beq_eq_false_iff_ne.2 h7))
  have q8 : (s.toList == [43]) = false := (show (s.toList == [43]) = (s.toList == (⟨#[43]⟩ : ByteArray).toList) from by rw [show (⟨#[43]⟩ : ByteArray).toList = [43] from by kernel_rfl]).trans ((beq_toListBytes s ⟨#[43]⟩).symm.trans (beq_eq_false_iff_ne.2 h8))
  have q9 : (s.toList == [45]) = false := (show (s.toList == [45]) = (s.toList == (⟨#[45]⟩ : ByteArray).toList) from by rw [show (⟨#[45]⟩ : ByteArray).toList = [45] from by kernel_rfl]).trans ((beq_toListBytes s ⟨#[45]⟩).symm.trans (beq_eq_false_iff_ne.2 h9))
  have q10 : (s.toList == [42]) = false := (show (s.toList == [42]) = (s.toList == (⟨#[42]⟩ : ByteArray).toList) from by rw [show (⟨#[42]⟩ : ByteArray).toList = [42] from by kernel_rfl]).trans ((beq_toListBytes s ⟨#[42]⟩).symm.trans (beq_eq_false_iff_ne.2 h10))
  have q11 : (s.toList == [47]) = false := (show (s.toList == [47]) = (s.toList == (⟨#[47]⟩ : ByteArray).toList) from by rw [show (⟨#[47]⟩ : ByteArray).toList = [47] from by kernel_rfl]).trans ((beq_toListBytes s ⟨#[47]⟩).symm.trans (beq_eq_false_iff_ne.2 h11))
  have q12 : (s.toList == [37]) = false := (show (s.toList == [37]) = (s.toList == (⟨#[37]⟩ : ByteArray).toList) from by rw [show (⟨#[37]⟩ : ByteArray).toList = [37] from by kernel_rfl]).trans ((beq_toListBytes s ⟨#[37]⟩).symm.trans (beq_eq_false_iff_ne.2 h12))
  clear HE h0 h1 h2 h3 h4 h5 h6 h7 h8 h9 h10 h11 h12
  go_enter Tryz.func137, Tryz.ntmps137
  go_wp2_with fail
  go_ret
  exact ⟨rfl, rfl⟩
theorem runTo_step {s : ByteArray} {k : Nat} (hk : k < s.size) : sRunTo s (k + 1) = (sRunTo s k && (sLowB (s[k]'hk).toNat || (decide (0 < k) && sDigB (s[k]'hk).toNat))) := by
  unfold sRunTo
  rw [List.range_succ, List.all_append, List.all_cons, List.all_nil, Bool.and_true]
  congr 1
  have : s.data[k]? = some (s[k]'hk) := by rw [Array.getElem?_eq_getElem (by simpa using hk)]; rfl
  rw [this]
theorem runTo_no {s : ByteArray} {k : Nat} (hk : k < s.size) (h : (sLowB (s[k]'hk).toNat || (decide (0 < k) && sDigB (s[k]'hk).toNat)) = false) : sRunTo s s.size = false := by
  unfold sRunTo
  rw [List.all_eq_false]
  refine ⟨k, by simpa using hk, ?_⟩
  have : s.data[k]? = some (s[k]'hk) := by rw [Array.getElem?_eq_getElem (by simpa using hk)]; rfl
  rw [this]
  simpa using h
set_option maxHeartbeats 4000000 in
set_option maxRecDepth 100000 in
theorem run_any (s : ByteArray) (w : World) : Calls Tryz.prog 110 #[.string s] w fun e w' => e = .returned (.bool (sRunB s)) ∧ w' = w := by
  obtain ⟨R, hR⟩ : ∃ R, R = sRunB s := ⟨_, rfl⟩
  rw [← hR]
  have HR := Lib.hid hR
  clear hR
  by_cases h1 : s.size < 1
  · have HE := Lib.hid (show R = false by rw [HR.out]; unfold sRunB; rw [decide_eq_false (by omega)]; rfl)
    have h1' : (s.size : Int) < 1 := by omega
    go_enter Tryz.func110, Tryz.ntmps110
    go_wp2_with fail
    go_ret
    exact ⟨retB HE.out.symm, rfl⟩
  by_cases h2 : 24 < s.size
  · have HE := Lib.hid (show R = false by rw [HR.out]; unfold sRunB; rw [decide_eq_false (show ¬ s.size ≤ 24 by omega)]; simp)
    have h1' : (1 : Int) ≤ (s.size : Int) := by omega
    have h2' : (24 : Int) < (s.size : Int) := by omega
    go_enter Tryz.func110, Tryz.ntmps110
    go_wp2_with fail
    go_ret
    exact ⟨retB HE.out.symm, rfl⟩
  have h1' : (1 : Int) ≤ (s.size : Int) := by omega
  have h2' : (s.size : Int) ≤ 24 := by omega
  have HR2 := Lib.hid (show R = sRunTo s s.size by rw [HR.out]; unfold sRunB; rw [decide_eq_true (show 1 ≤ s.size by omega), decide_eq_true (show s.size ≤ 24 by omega)]; rfl)
  clear h1 h2
  go_enter Tryz.func110, Tryz.ntmps110
  go_wp2_with fail
  go_loopw [15] (fun u wr => ∃ k : Nat, u = .int .i64 k ∧ k ≤ s.size ∧ Hid (sRunTo s k = true) ∧ wr = w) (fun u _ => s.size - (intOf u).toNat)
  case atStart => exact ⟨0, rfl, Nat.zero_le _, Lib.hid rfl, rfl⟩
  case round =>
    obtain ⟨k, rfl, hk, HS, rfl⟩ := hrel
    have hk0 : (0 : Int) ≤ (k : Int) := by omega
    by_cases hks : k < s.size
    · have hks' : (k : Int) < (s.size : Int) := by omega
      have hst := runTo_step hks
      have hno := runTo_no hks
      have C0 : (0 : Int) ≤ ((s[k]'hks).toNat : Int) := by omega
      have HNO := Lib.hid (fun (h : (sLowB (s[k]'hks).toNat || (decide (0 < k) && sDigB (s[k]'hks).toNat)) = false) => show R = false by rw [HR2.out]; exact hno h)
      have HYES := Lib.hid (fun (h : (sLowB (s[k]'hks).toNat || (decide (0 < k) && sDigB (s[k]'hks).toNat)) = true) => show sRunTo s (k + 1) = true by rw [hst, HS.out, h]; rfl)
      clear hst hno
      by_cases c1 : 97 ≤ (s[k]'hks).toNat ∧ (s[k]'hks).toNat ≤ 122
      · have HST := Lib.hid (HYES.out (by unfold sLowB; rw [decide_eq_true c1.1, decide_eq_true c1.2]; rfl))
        have b1 : (97 : Int) ≤ ((s[k]'hks).toNat : Int) := by omega
        have b2 : ((s[k]'hks).toNat : Int) ≤ 122 := by omega
        clear c1
        go_wp2_with fail
        exact ⟨⟨k + 1, by go_num, by omega, HST, trivial⟩, by simp [intOf]; omega⟩
      have b1 : ((s[k]'hks).toNat : Int) < 97 ∨ ((97 : Int) ≤ ((s[k]'hks).toNat : Int) ∧ (122 : Int) < ((s[k]'hks).toNat : Int)) := by omega
      have hl : (decide (97 ≤ (s[k]'hks).toNat) && decide ((s[k]'hks).toNat ≤ 122)) = false := by
        rw [Bool.eq_false_iff]; intro e; simp only [Bool.and_eq_true, decide_eq_true_eq] at e; exact c1 e
      clear c1
      by_cases c2 : (s[k]'hks).toNat = 95
      · have HST := Lib.hid (HYES.out (by unfold sLowB; rw [c2]; rfl))
        have b2 : ((((s[k]'hks).toNat : Int)) != 95) = false := by simp [c2]
        have B1 := Lib.hid b1
        clear b1 c2 hl
        rcases B1.out with b1 | ⟨b0, b1⟩
        all_goals go_wp2_with fail
        all_goals exact ⟨⟨k + 1, by go_num, by omega, HST, trivial⟩, by simp [intOf]; omega⟩
      have b2 : ((((s[k]'hks).toNat : Int)) != 95) = true := by simpa using (by omega : ¬ ((s[k]'hks).toNat : Int) = 95)
      have hlo : sLowB (s[k]'hks).toNat = false := by unfold sLowB; rw [hl, beq_eq_false_iff_ne.2 c2]; rfl
      clear hl
      by_cases c3 : k = 0
      · have HE := Lib.hid (HNO.out (by rw [hlo, decide_eq_false (by omega)]; rfl))
        have b3 : ((k : Int) == 0) = true := by simp [c3]
        have B1 := Lib.hid b1
        clear b1 c2 c3 hlo
        rcases B1.out with b1 | ⟨b0, b1⟩
        all_goals go_wp2_with fail
        all_goals go_ret
        all_goals exact ⟨retB HE.out.symm, rfl⟩
      have b3 : ((k : Int) == 0) = false := beq_eq_false_iff_ne.2 (by omega)
      by_cases c4 : 48 ≤ (s[k]'hks).toNat ∧ (s[k]'hks).toNat ≤ 57
      · have HST := Lib.hid (HYES.out (by rw [hlo, decide_eq_true (by omega)]; unfold sDigB; rw [decide_eq_true c4.1, decide_eq_true c4.2]; rfl))
        have b4 : (48 : Int) ≤ ((s[k]'hks).toNat : Int) := by omega
        have b5 : ((s[k]'hks).toNat : Int) ≤ 57 := by omega
        have B1 := Lib.hid b1
        clear b1 c2 c3 c4 hlo
        rcases B1.out with b1 | ⟨b0, b1⟩
        all_goals go_wp2_with fail
        all_goals exact ⟨⟨k + 1, by go_num, by omega, HST, trivial⟩, by simp [intOf]; omega⟩
      have HE := Lib.hid (HNO.out (by rw [hlo, decide_eq_true (by omega)]; unfold sDigB; rw [Bool.false_or, Bool.true_and, Bool.eq_false_iff]; intro e; simp only [Bool.and_eq_true, decide_eq_true_eq] at e; exact c4 e))
      have b4 : ((s[k]'hks).toNat : Int) < 48 ∨ ((48 : Int) ≤ ((s[k]'hks).toNat : Int) ∧ (57 : Int) < ((s[k]'hks).toNat : Int)) := by omega
      have B1 := Lib.hid b1
      have B4 := Lib.hid b4
      clear b1 b4 c2 c3 c4 hlo
      rcases B1.out with b1 | ⟨b0, b1⟩ <;> rcases B4.out with b4 | ⟨b5, b4⟩
      all_goals first | (exfalso; omega) | skip
      all_goals go_wp2_with fail
      all_goals go_ret
      all_goals exact ⟨retB HE.out.symm, rfl⟩
    · have hke : k = s.size := by omega
      have HE := Lib.hid (show R = true by rw [HR2.out, ← hke]; exact HS.out)
      clear hke
      go_wp2_with fail
      go_ret
      exact ⟨retB HE.out.symm, rfl⟩
theorem sname_any (s : ByteArray) (w : World) : Calls Tryz.prog 83 #[.string s] w fun e w' => e = .returned (.bool (sNameB s)) ∧ w' = w := by
  have A := Lib.hid (fun w' => run_any s w')
  have B := Lib.hid (fun w' => keyword_any s w')
  unfold sNameB
  cases h1 : sRunB s
  · rw [h1] at A
    clear h1
    go_enter Tryz.func83, Tryz.ntmps83
    go_wp2_with (go_at_call 110; (with_reducible refine Calls.mono (A.out _) ?_); rintro e w2 ⟨rfl, rfl⟩)
    go_ret
    exact ⟨rfl, rfl⟩
  · rw [h1] at A
    clear h1
    generalize sKwB s = q at *
    go_enter Tryz.func83, Tryz.ntmps83
    go_wp2_with (first | (go_at_call 110; (with_reducible refine Calls.mono (A.out _) ?_); rintro e w2 ⟨rfl, rfl⟩) | (go_at_call 111; (with_reducible refine Calls.mono (B.out _) ?_); rintro e w3 ⟨rfl, rfl⟩))
    go_ret
    exact ⟨by simp, rfl⟩
theorem operator_any (s : ByteArray) (w : World) : Calls Tryz.prog 130 #[.string s] w fun e w' => e = .returned (.bool (decide (0 < binZ s))) ∧ w' = w := by
  have A := Lib.hid (fun w' => binary_any s w')
  generalize binZ s = z at *
  go_enter Tryz.func130, Tryz.ntmps130
  go_wp2_with (go_at_call 137; (with_reducible refine Calls.mono (A.out _) ?_); rintro e w2 ⟨rfl, rfl⟩)
  go_ret
  exact ⟨rfl, rfl⟩
theorem statement_any (k : Int) (w : World) : Calls Tryz.prog 131 #[.int .i64 k] w fun e w' => e = .returned (.bool (sStatB k)) ∧ w' = w := by
  unfold sStatB
  by_cases h1 : (13 : Int) ≤ k
  · rw [decide_eq_true h1]
    go_enter Tryz.func131, Tryz.ntmps131
    go_wp2_with fail
    go_ret
    exact ⟨rfl, rfl⟩
  · rw [decide_eq_false h1]
    have h1' : k < (13 : Int) := by omega
    clear h1
    go_enter Tryz.func131, Tryz.ntmps131
    go_wp2_with fail
    go_ret
    exact ⟨rfl, rfl⟩
theorem expression_any (k : Int) (w : World) : Calls Tryz.prog 132 #[.int .i64 k] w fun e w' => e = .returned (.bool (sExprB k)) ∧ w' = w := by
  unfold sExprB
  by_cases h1 : (1 : Int) ≤ k
  · rw [decide_eq_true h1]
    go_enter Tryz.func132, Tryz.ntmps132
    go_wp2_with fail
    go_ret
    exact ⟨rfl, rfl⟩
  · rw [decide_eq_false h1]
    have h1' : k < (1 : Int) := by omega
    clear h1
    go_enter Tryz.func132, Tryz.ntmps132
    go_wp2_with fail
    go_ret
    exact ⟨rfl, rfl⟩
theorem one_ce {w : World} {b : Nat} {x : Ce} (hb : w.heap[b]? = some (.cells #[.int .i64 x.kind, .int .i64 x.n, .string x.str, .int .i64 x.cn] 149 (0, 0))) : SlIs ceC 4 w (some ⟨b, 0, none⟩) 1 [x] := SlIs.ofBlock (cf := ceC) [x] hb ceC_len rfl
set_option maxHeartbeats 4000000 in
set_option maxRecDepth 100000 in
theorem stext_any (s : ByteArray) (w : World) (hs : s.size ≤ maxLen) (ht : TabW w) : Calls Tryz.prog 128 #[.string s] w fun e w' => e = .returned (.bool (sTextB s)) ∧ Chg [] w w' := by
  have C1 := Lib.hid ((Chg.refl [] w).alloc (.cells #[.int .i64 4, .int .i64 0, .string s, .int .i64 0] 149))
  have B1 := Lib.hid (heap_alloc_new w (.cells #[.int .i64 4, .int .i64 0, .string s, .int .i64 0] 149))
  have V := Lib.hid (vcheck_any (some ⟨w.heap.size, 0, none⟩) 1 [sStrCe s] (w.alloc (.cells #[.int .i64 4, .int .i64 0, .string s, .int .i64 0] 149)) (one_ce (x := sStrCe s) B1.out) (by simp) (fun x hx => by
    simp at hx
    subst hx
    exact ⟨(by decide : (Lit.int .i64 4).wf = true), (by decide : (Lit.int .i64 0).wf = true), hs, (by decide : (Lit.int .i64 0).wf = true)⟩) (ht.kept C1.out))
  unfold sTextB
  generalize checkZ [sStrCe s] = z at *
  have CK : Hid (Calls Tryz.prog 138 #[.slice (some ⟨w.heap.size, 0, none⟩) 1 1] (w.alloc (.cells #[.int .i64 4, .int .i64 0, .string s, .int .i64 0] 149)) fun e w' => ∃ v, e = .returned (.tuple #[v, .int .i64 z]) ∧ Chg [] (w.alloc (.cells #[.int .i64 4, .int .i64 0, .string s, .int .i64 0] 149)) w') := Lib.hid (by
    clear ht hs
    by_cases hz : z = 0
    · have hzb : (z != 0) = false := by simp [hz]
      subst hz
      go_enter Tryz.func138, Tryz.ntmps138
      go_wp2_with fail
      refine V.out.mono ?_; rintro e w2 ⟨rfl, hc⟩
      have C2 := Lib.hid hc
      clear hc
      go_wp2_with fail
      go_ret2
      exact ⟨_, rfl, C2.out⟩
    · have hzb : (z != 0) = true := by simp [hz]
      clear hz
      go_enter Tryz.func138, Tryz.ntmps138
      go_wp2_with fail
      refine V.out.mono ?_; rintro e w2 ⟨rfl, hc⟩
      have C2 := Lib.hid hc
      clear hc
      go_wp2_with fail
      go_ret2
      exact ⟨_, rfl, C2.out⟩)
  have VS : Hid (Calls Tryz.prog 136 #[.string s] w fun e w' => ∃ v, e = .returned (.tuple #[v, .int .i64 z]) ∧ Chg [] w w') := Lib.hid (by
    clear ht hs V
    go_enter Tryz.func136, Tryz.ntmps136
    go_wp2_with (go_at_call 138; (with_reducible refine Calls.mono CK.out ?_); rintro e w2 ⟨v, rfl, hc⟩; have C2 := Lib.hid (C1.out.thenSame hc); clear hc)
    go_ret2
    exact ⟨v, rfl, C2.out⟩)
  clear ht hs V CK B1
  go_enter Tryz.func128, Tryz.ntmps128
  go_wp2_with fail
  refine VS.out.mono ?_; rintro e w2 ⟨v, rfl, hc⟩
  have C2 := Lib.hid hc
  clear hc
  go_wp2_with fail
  go_ret
  exact ⟨rfl, C2.out⟩
end Go.Proofs.YtolidiafomceiaaGreatDoor
