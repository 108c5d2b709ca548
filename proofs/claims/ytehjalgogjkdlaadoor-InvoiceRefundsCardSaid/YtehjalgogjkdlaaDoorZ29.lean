/- Chapter 54: contract of the reference: Make. No condition. Contracts: num.Format, the reference's Format. Condition (num.Format): the table of Itoa lies as the program lays it. Chapter 54: contract: the closure of Format: words joined, a line added. No condition. -/
import Derived.Lib.ItoaLen
import Derived.Test.YtehjalgogjkdlaaDoorZ25
import Derived.Test.YtehjalgogjkdlaaDoorZ27
import Derived.Test.YtehjalgogjkdlaaDoorZ28
import Derived.Test.YtehjalgogjkdlaaDoorZ24
import Derived.Test.YtehjalgogjkdlaaDoorZ15
import Derived.Test.YtehjalgogjkdlaaDoorZ18
import Derived.Test.YtehjalgogjkdlaaDoorZ01
import Derived.Test.YtehjalgogjkdlaaDoorZ06
import Derived.Test.YtehjalgogjkdlaaDoorZ22
namespace Go.Proofs.YtehjalgogjkdlaaDoor
set_option linter.unusedVariables false
set_option linter.unusedSimpArgs false
open Go.RowKit
def RMkPost (w : World) (R : Inv × Int) (e : Ending) (w' : World) : Prop := ∃ v, e = .returned (.tuple #[ivW R.1 v, .int .i64 R.2]) ∧ RowOf lnC 6 w' w.heap.size 63 v R.1.ls ∧ Chg [] w w'
end Go.Proofs.YtehjalgogjkdlaaDoor

namespace Go.Proofs.YtehjalgogjkdlaaDoor
set_option linter.unusedVariables false
set_option linter.unusedSimpArgs false
open Go.RowKit
def TabW (w : World) : Prop := Lib.TabIs Tryd.prog w "internal/strconv.uint64pow10" .u64 Lib.pow10Tab
theorem TabW.kept {w w' : World} (h : TabW w) (hc : Chg [] w w') : TabW w' := by
  unfold TabW Lib.TabIs World.var? at h ⊢
  cases hg : Tryd.prog.globalNamed "internal/strconv.uint64pow10" with
  | none => rw [hg] at h; simp at h
  | some g =>
    rw [hg] at h
    simp only [Option.bind_some] at h ⊢
    have hlt : g < w.heap.size := by
      rcases Nat.lt_or_ge g w.heap.size with h' | h'
      · exact h'
      · rw [Array.getElem?_eq_none h'] at h; simp at h
    rw [hc.block g hlt (by simp)]
    exact h
theorem format_any (n : Int) (h0 : -9223372036854775808 ≤ n) (h1 : n ≤ 9223372036854775807) (w : World) (ht : TabW w) : Calls Tryd.prog 42 #[.int .i64 n] w fun e w' => e = .returned (.string ⟨(Lib.itoa n).toArray⟩) ∧ Chg [] w w' := by
  have A1 := Lib.hid (Tryd.strconv_Itoa n h0 h1 w ht)
  go_enter Tryd.func42, Tryd.ntmps42
  go_wp2_with fail
  refine A1.out.mono ?_; rintro e w1 ⟨rfl, k, os, rfl⟩
  have C1 := Lib.hid (chg_regrown (w.drewN k) (w.drewN k).drawn os)
  go_wp2_with fail
  go_ret
  exact ⟨rfl, ((Chg.refl _ _).drewN k).thenSame C1.out⟩
theorem dig_at : ∀ d : Fin 10, (⟨#[48, 49, 50, 51, 52, 53, 54, 55, 56, 57]⟩ : ByteArray).extract d.val (d.val + 1) = ⟨#[UInt8.ofNat (48 + d.val)]⟩ := by decide +kernel
theorem one_cons (c : UInt8) (s : List UInt8) : (⟨#[c]⟩ : ByteArray) ++ ⟨s.toArray⟩ = ⟨(c :: s).toArray⟩ := by
  apply ByteArray.ext
  simp
def emptyN : Value → Nat
  | .string b => if b.data.toList.length = 0 then 1 else 0
  | _ => 0
theorem emptyN_cons (c : UInt8) (s : List UInt8) : emptyN (.string ⟨(c :: s).toArray⟩) = 0 := by simp [emptyN]
theorem emptyN_nil : emptyN (.string ⟨#[]⟩) = 1 := rfl
/-- What the reference's loop keeps: the number that is left, the digits so far. -/
def FmI (n m : Nat) (s : List UInt8) : Prop := (s = [] ∧ m = n) ∨ (s ≠ [] ∧ m = 0 ∧ s = Lib.decDigits n) ∨ (s ≠ [] ∧ m ≠ 0 ∧ Lib.decDigits m ++ s = Lib.decDigits n)
theorem FmI.step {n m : Nat} {s : List UInt8} (h : FmI n m s) (hg : s = [] ∨ m ≠ 0) : FmI n (m / 10) (UInt8.ofNat (48 + m % 10) :: s) := by
  have key : Lib.decDigits m ++ s = Lib.decDigits n := by
    rcases h with ⟨h1, h2⟩ | ⟨h1, h2, h3⟩ | ⟨h1, h2, h3⟩
    · rw [h1, h2, List.append_nil]
    · rcases hg with q | q
      · exact (h1 q).elim
      · exact (q h2).elim
    · exact h3
  by_cases hm : m < 10
  · refine .inr (.inl ⟨by simp, by omega, ?_⟩)
    rw [Lib.decDigits_one hm] at key
    rw [← key, Nat.mod_eq_of_lt hm]; rfl
  · refine .inr (.inr ⟨by simp, by omega, ?_⟩)
    rw [Lib.decDigits, dif_neg hm] at key
    rw [← key]; simp
end Go.Proofs.YtehjalgogjkdlaaDoor

namespace Go.Proofs.YtehjalgogjkdlaaDoor
set_option linter.unusedVariables false
set_option linter.unusedSimpArgs false
open Go.RowKit
/-- Words with spaces between them. -/
def joinW : List (List UInt8) → List UInt8
  | [] => []
  | x :: l => x ++ l.flatMap (fun y => 32 :: y)
theorem joinW_take {l : List (List UInt8)} {k : Nat} {x : List UInt8} (h : l[k]? = some x) : joinW (l.take (k + 1)) = if k = 0 then x else joinW (l.take k) ++ [32] ++ x := by
  obtain ⟨hk, e⟩ := List.getElem?_eq_some_iff.1 h
  cases l with
  | nil => simp at hk
  | cons y l =>
    cases k with
    | zero => simp [joinW] at e ⊢; exact e
    | succ k =>
      simp only [List.take_succ_cons, joinW, Nat.succ_ne_zero, if_false]
      simp only [List.getElem_cons_succ] at e
      rw [List.take_succ_eq_append_getElem (by simpa using hk), e]
      simp
theorem joinW_len {l : List (List UInt8)} (k : Nat) : (joinW (l.take k)).length ≤ (joinW l).length := by
  cases l with
  | nil => simp
  | cons y l =>
    cases k with
    | zero => simp [joinW]
    | succ k =>
      simp only [List.take_succ_cons, joinW, List.length_append]
      have : ((l.take k).flatMap fun y => 32 :: y).length ≤ (l.flatMap fun y => (32 : UInt8) :: y).length := by
        conv => rhs; rw [← List.take_append_drop k l, List.flatMap_append, List.length_append]
        omega
      omega
/-- A box with a list of texts of the call's own. -/
def OutIs (w : World) (ob base : Nat) (v : Value) (L : List (List UInt8)) : Prop := base ≤ ob ∧ w.heap[ob]? = some (.cells #[v] 57) ∧ RowOf kc 1 w base 9 v L
theorem OutIs.kept {w w' : World} {ob base : Nat} {v : Value} {L : List (List UInt8)} (h : OutIs w ob base v L) (hc : Chg [] w w') : OutIs w' ob base v L := by
  obtain ⟨h0, h1, h2⟩ := h
  exact ⟨h0, hc.at (by simp) h1, h2.kept hc (by simp)⟩
theorem OutIs.base {w : World} {ob base : Nat} {v : Value} {L : List (List UInt8)} (h : OutIs w ob base v L) : ∀ x ∈ ob :: v.ownBlock.toList, base ≤ x ∧ x < w.heap.size := by
  intro x hx
  rcases List.mem_cons.1 hx with rfl | hx
  · exact ⟨h.1, lt_of_heap h.2.1⟩
  · exact RowOf.block h.2.2 x (by simpa using hx)
theorem OutIs.low {w : World} {ob base x : Nat} {v : Value} {L : List (List UInt8)} (h : OutIs w ob base v L) (hx : x < base) : x ∉ ob :: v.ownBlock.toList := fun q => by have := (h.base x q).1; omega
theorem OutIs.high {w : World} {ob base x : Nat} {v : Value} {L : List (List UInt8)} (h : OutIs w ob base v L) (hx : w.heap.size ≤ x) : x ∉ ob :: v.ownBlock.toList := fun q => by have := (h.base x q).2; omega
theorem str_cat (a b : List UInt8) : (⟨a.toArray⟩ : ByteArray) ++ ⟨b.toArray⟩ = ⟨(a ++ b).toArray⟩ := by
  apply ByteArray.ext
  simp
set_option maxHeartbeats 4000000 in
set_option maxRecDepth 100000 in
theorem addw_any (a : Option Addr) (c ob base : Nat) (v : Value) (ws L : List (List UInt8)) (w : World) (h : SlIs kc 1 w a ws.length ws) (ho : OutIs w ob base v L) (hj : (joinW ws).length ≤ 1000) (hl : ws.length ≤ 100) (hL : (L.length + 1) * 16 ≤ 140737488355328) (hb : base ≤ w.heap.size) :
    Calls Tryd.prog 41 #[.slice a ws.length c, .pointer (some ⟨ob, 0, none⟩)] w fun e w' => e = .returned (.tuple #[]) ∧ (∃ v', OutIs w' ob base v' (L ++ [joinW ws])) ∧ Chg (ob :: v.ownBlock.toList) w w' := by
  have H := Lib.hid h
  obtain ⟨hbo, hv, hr⟩ := ho
  have HV := Lib.hid hv
  have HR := Lib.hid hr
  have hne : v.ownBlock ≠ some ob := fun e => by
    obtain ⟨cur, hh⟩ := row_block hr e
    rw [hv] at hh; simp at hh
  obtain ⟨va, vc, rfl⟩ := RowOf.shape hr
  have k1 := blk_cell hv
  have f1 := blk_free hv
  have l1 := lt_of_heap hv
  have HNE := Lib.hid hne
  have HJ := Lib.hid hj
  have hml : L.length + 1 ≤ maxLen := by unfold maxLen; omega
  clear h hv hr hne hj
  go_enter Tryd.func41, Tryd.ntmps41
  go_wp2_with fail
  go_loopw [3, 8] (fun sv i wr => ∃ k : Nat, sv = .string ⟨(joinW (ws.take k)).toArray⟩ ∧ i = .int .i64 k ∧ k ≤ ws.length ∧ wr = w) (fun _ i _ => ws.length - (intOf i).toNat)
  case atStart => exact ⟨0, rfl, rfl, Nat.zero_le _, rfl⟩
  case round =>
    obtain ⟨k, rfl, rfl, hk, rfl⟩ := hrel
    by_cases hkn : k < ws.length
    · obtain ⟨g, o, rfl, -, hbr, hcc⟩ := H.out.elem (Chg.refl [] wr) k hkn
      have d0 := hcc 0 (by omega)
      obtain ⟨x, hx1⟩ : ∃ x, ws[k]? = some x := ⟨ws[k], List.getElem?_eq_getElem hkn⟩
      have hxe := (List.getElem?_eq_some_iff.1 hx1).2
      rw [hxe] at d0
      simp only [kc, encStr, List.getElem?_cons_zero, Nat.add_zero, Nat.mul_one] at d0
      have HJT := Lib.hid (joinW_take hx1)
      have hl1 := Nat.le_trans (joinW_len (l := ws) (k + 1)) HJ.out
      have hl2 := Nat.le_trans (joinW_len (l := ws) k) HJ.out
      rw [HJT.out] at hl1
      have hk0 : (0 : Int) ≤ (k : Int) := by omega
      have hk1 : (k : Int) < (ws.length : Int) := by omega
      by_cases hz : k = 0
      · have hz1 : ¬ (0 : Int) < (k : Int) := by omega
        have hz2 : ¬ 0 < k := by omega
        rw [if_pos hz] at HJT hl1
        have HJ0 := Lib.hid (show joinW (ws.take k) = [] by rw [hz]; rfl)
        have CT := Lib.hid (str_cat (joinW (ws.take k)) x)
        generalize joinW (ws.take k) = J at *
        clear hcc hx1 hxe hz
        go_wp2_with fail
        exact ⟨⟨k + 1, by rw [HJT.out, CT.out, HJ0.out]; rfl, by go_num, by omega, trivial⟩, by simp [intOf]; omega⟩
      · have hz1 : (0 : Int) < (k : Int) := by omega
        have hz2 : 0 < k := by omega
        rw [if_neg hz] at HJT hl1
        have CT1 := Lib.hid (str_cat (joinW (ws.take k)) [32])
        have CT2 := Lib.hid (str_cat (joinW (ws.take k) ++ [32]) x)
        generalize joinW (ws.take k) = J at *
        simp only [List.length_append, List.length_cons, List.length_nil] at hl1
        clear hcc hx1 hxe hz
        go_wp2_with fail
        exact ⟨⟨k + 1, by rw [HJT.out]; exact congrArg Value.string ((congrArg (fun q => q ++ (⟨x.toArray⟩ : ByteArray)) CT1.out).trans CT2.out), by go_num, by omega, trivial⟩, by simp [intOf]; omega⟩
    · have hke : k = ws.length := by omega
      have hkn2 : ¬ (k : Int) < (ws.length : Int) := by omega
      rw [hke, List.take_length]
      have HKE := Lib.hid hke
      clear hke H
      obtain ⟨J, hJ⟩ : ∃ J, J = joinW ws := ⟨_, rfl⟩
      rw [← hJ] at HJ ⊢
      have HJE := Lib.hid hJ
      clear hJ
      go_wp2_with (at_builtin; refine wpl_appendL rfl _ _ 57 rfl base 9 _ 16 Tryd.underlying57 stInfo rfl (by decide) kLen kOne (.slice va L.length vc) L rfl (HR.out.kept ((Chg.refl [] wr).alloc _) (by simp)) wr.heap.size _ J _ _ _ rfl (heap_alloc_new wr _) rfl hml hL (Nat.le_trans hb (by simp)) ?_; intro g4 c4 w4 hr4 hg4 ho4 hl4; have HR4 := Lib.hid hr4; have HC4 := Lib.hid (Chg.ofRow (v := .slice va L.length vc) hg4); have HV4 := Lib.hid (HC4.out.at (fun q => HNE.out (by simpa using q)) (blk_alloc HV.out)); have k4 := blk_cell HV4.out; have f4 := blk_free HV4.out; have l4 := lt_of_heap HV4.out; clear hr4 hg4 ho4 hl4 k1 f1 l1)
      go_end0
      have hb4 := RowOf.block HR4.out
      have hg4 := (hb4 g4 rfl).1
      have ng : g4 ≠ ob := fun e => by
        obtain ⟨cur, hh⟩ := row_block HR4.out (g := g4) rfl
        rw [e, HV4.out] at hh; simp at hh
      refine ⟨rfl, ⟨_, hbo, blk_set HV4.out 0 _, ?_⟩, ?_⟩
      · rw [← HJE.out]
        exact HR4.out.kept (S := [ob]) ((Chg.refl _ _).setCell _ _ (by simp)) (fun g hg => by cases hg; simpa using ng)
      · exact (((Chg.refl [] wr).alloc (.cells #[.string ⟨J.toArray⟩] 9)).trans HC4.out (T := ob :: (Value.slice va L.length vc).ownBlock.toList) (by simp) (fun x hx _ => List.mem_cons_of_mem _ hx)).setCell _ _ (fun _ => by simp)
end Go.Proofs.YtehjalgogjkdlaaDoor
