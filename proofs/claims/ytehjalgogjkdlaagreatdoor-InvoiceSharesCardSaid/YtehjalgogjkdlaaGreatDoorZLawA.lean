/- Chapter 54: openers of ints; the walk of InvoiceShares. Condition: the table of Itoa lies as the program lays it. -/
import Derived.Test.YtehjalgogjkdlaaGreatDoorZ30
import Derived.Test.YtehjalgogjkdlaaGreatDoorZ16
namespace Go.Proofs.YtehjalgogjkdlaaGreatDoor
set_option linter.unusedVariables false
set_option linter.unusedSimpArgs false
open Go.RowKit Go.ChangeShapes Go.WideShapes
section
variable {H : Type} {enc : TypeId × Value → H} {w : World} {base : Nat} {spare : Nat → Bool} {held : Bool}
theorem cells_intZ : Tryz.prog.cellsOf 3 = 1 := by kernel_rfl
theorem opens_IntsZ {a : Option Addr} {len cap : Nat} {d : DataW H} {ps : List MemPlace} (h : DataW.Trod enc Tryz.prog w base spare held 22 (.slice a len cap) d ps) (hw : Wt Tryz.prog 22 d) : ∃ l : List Int, l.length = len ∧ InIs icI 1 w a cap l ∧ (∀ x ∈ l, (Lit.int .i64 x).wf = true) ∧ len * 8 ≤ 140737488355328 := by
  obtain ⟨l, h1, h2, h3, h4⟩ := open_sl1 icI (fun x => (Lit.int .i64 x).wf = true) Tryz.underlying22 cells_intZ (fun v n y hy => by
    obtain ⟨m, e, _, hw⟩ := DataW.trod_int Tryz.underlying3 hy
    simp at e
    exact ⟨m, hw, by simp [icI, e]⟩) h
  obtain ⟨h5, h6⟩ := trod_cap2 Tryz.underlying22 h
  have h7 := wt_len Tryz.underlying22 h hw
  rw [show Tryz.prog.bytesOf 3 = 8 by kernel_rfl] at h7
  have hl : l.length = len := h1.1
  subst hl
  exact ⟨l, rfl, ⟨h1, h4, h6, h5⟩, h2, by unfold reachBytes at h7; omega⟩
end
theorem ints_eq {V : List Int} {n c d : Nat} {a b : Option Addr} {w : World} (hV : V.length = n) (h1 : SlIs icI 1 w a n V) (h2 : SlIs icI 1 w b n V) (hm : n ≤ maxLen) : Calls Tryz.prog 9 #[.slice a n c, .slice b n d] w fun e w' => e = .returned (.bool true) ∧ Chg [] w w' := by
  subst hV
  refine (ints_any a b c d V V w h1 h2 hm hm).mono ?_
  rintro e w' ⟨rfl, h⟩
  exact ⟨by simp, h⟩
set_option maxHeartbeats 8000000 in
set_option maxRecDepth 100000 in
theorem shares_walk (a0 : Int) (a1 : Option Addr) (len1 cap1 : Nat) (l1 : List Int) (w : World) (w0 : (Lit.int .i64 a0).wf = true) (w1 : l1.length = len1 ∧ InIs icI 1 w a1 cap1 l1 ∧ (∀ x ∈ l1, (Lit.int .i64 x).wf = true) ∧ len1 * 8 ≤ 140737488355328) (ht : TabW w) :
    Calls Tryz.prog 3 #[.int .i64 a0, .slice a1 len1 cap1] w fun e w' => e = .returned (.bool true) ∧ Below w.heap.size w w' := by
  obtain ⟨rfl, hI, -, h8⟩ := w1
  have HI := Lib.hid hI
  have HT := Lib.hid ht
  have h9 : 0 + l1.length ≤ maxLen := by unfold maxLen; omega
  have h10 : (0 + l1.length) * 8 ≤ 140737488355328 := by omega
  have hm : l1.length ≤ maxLen := by unfold maxLen; omega
  clear hI ht w0
  by_cases he : (weighZ a0 l1).2 = 0
  · go_enter Tryz.func3, Tryz.ntmps3
    go_wp2_with (at_builtin; refine wpl_appendsI rfl _ _ 22 rfl w.heap.size 3 _ 8 Tryz.underlying22 iInfo rfl (by decide) icI_len icI_one (.slice (some ⟨w.heap.size, 0, none⟩) 0 0) [] rfl (RowOf.empty (g := w.heap.size) (Nat.le_refl _) (heap_alloc_new _ _) rfl) a1 cap1 l1 rfl (HI.out.kept ((Chg.refl _ _).alloc _)) h9 h10 (by simp) ?_; intro v w2 hr2 hc2; obtain ⟨oa, oc, rfl⟩ := RowOf.shape hr2; rw [List.nil_append] at hr2; have R2 := Lib.hid hr2; have C2 := Lib.hid (show Chg [] w w2 from ((Chg.refl [] w).alloc _).trans hc2 (by simp) (own_old (Nat.le_refl _))); clear hr2 hc2)
    refine (share_ok a0 oa oc l1 w2 (RowOf.sl R2.out icI_len).1 he).mono ?_; rintro e w3 ⟨s, O, rfl, hO, hIB, -, hc3⟩
    have K3 := Lib.hid hc3
    have C3 := Lib.hid (C2.out.thenSame hc3)
    have B3 := Lib.hid hIB
    have HO := Lib.hid hO
    clear hc3 hIB hO
    go_wp2_with fail
    refine (rshare_any a0 a1 cap1 l1 O w3 (HI.out.kept C3.out) hm (fun _ => HO.out)).mono ?_; rintro e w4 ⟨hc4, hh⟩
    obtain ⟨rv, rfl, hr4⟩ : ∃ v, e = .returned (.tuple #[v, .int .i64 0]) ∧ RowOf icI 1 w4 w3.heap.size 3 v (shares a0 l1 O) := by
      rcases hh with ⟨q, _⟩ | ⟨_, q⟩
      · exact (q he).elim
      · exact q
    have hsl : (shares a0 l1 O).length = l1.length := shares_len
    obtain ⟨ra, rc, rfl⟩ := RowOf.shape hr4
    have R4 := Lib.hid (RowOf.sl hr4 icI_len).1
    have C4 := Lib.hid (C3.out.thenSame hc4)
    have K4 := Lib.hid (K3.out.thenSame hc4)
    have B4 := Lib.hid (ib_sl (B3.out.keep hc4 (by simp)))
    generalize shares a0 l1 O = V at *
    rw [hsl] at R4 B4 ⊢
    have HV := Lib.hid hsl
    clear hc4 hh hr4 hsl
    go_wp2_with fail
    refine (ints_eq HV.out B4.out R4.out hm).mono ?_; rintro e w5 ⟨rfl, hc5⟩
    have C5 := Lib.hid (C4.out.thenSame hc5)
    have K5 := Lib.hid (K4.out.thenSame hc5)
    clear hc5
    go_wp2_with fail
    refine (ints_eq rfl ((RowOf.sl (R2.out.kept K5.out (by simp)) icI_len).1) ((HI.out.kept C5.out).1) hm).mono ?_; rintro e w6 ⟨rfl, hc6⟩
    have C6 := Lib.hid (C5.out.thenSame hc6)
    clear hc6
    go_wp2_with fail
    refine (awake54_any _ (HT.out.kept C6.out)).mono ?_; rintro e w7 ⟨rfl, hc7⟩
    have C7 := Lib.hid (C6.out.thenSame hc7)
    clear hc7
    go_wp2_with fail
    go_ret
    exact ⟨rfl, C7.out.toBelow (Nat.le_refl _) (by simp)⟩
  · go_enter Tryz.func3, Tryz.ntmps3
    go_wp2_with (at_builtin; refine wpl_appendsI rfl _ _ 22 rfl w.heap.size 3 _ 8 Tryz.underlying22 iInfo rfl (by decide) icI_len icI_one (.slice (some ⟨w.heap.size, 0, none⟩) 0 0) [] rfl (RowOf.empty (g := w.heap.size) (Nat.le_refl _) (heap_alloc_new _ _) rfl) a1 cap1 l1 rfl (HI.out.kept ((Chg.refl _ _).alloc _)) h9 h10 (by simp) ?_; intro v w2 hr2 hc2; obtain ⟨oa, oc, rfl⟩ := RowOf.shape hr2; rw [List.nil_append] at hr2; have R2 := Lib.hid hr2; have C2 := Lib.hid (show Chg [] w w2 from ((Chg.refl [] w).alloc _).trans hc2 (by simp) (own_old (Nat.le_refl _))); clear hr2 hc2)
    refine (share_bad a0 oa oc l1 w2 (RowOf.sl R2.out icI_len).1 hm he).mono ?_; rintro e w3 ⟨rfl, rfl⟩
    go_wp2_with fail
    refine (rshare_any a0 a1 cap1 l1 [] w2 (HI.out.kept C2.out) hm (fun q => (he q).elim)).mono ?_; rintro e w4 ⟨hc4, hh⟩
    obtain rfl : e = .returned (.tuple #[.slice none 0 0, .int .i64 (weighZ a0 l1).2]) := by
      rcases hh with ⟨_, q⟩ | ⟨q, _⟩
      · exact q
      · exact (he q).elim
    have C4 := Lib.hid (C2.out.thenSame hc4)
    have K4 := Lib.hid hc4
    generalize weighZ a0 l1 = Z at *
    clear hc4 hh
    go_wp2_with fail
    refine (ints_eq (V := []) rfl ⟨rfl, fun k hk => absurd hk (Nat.not_lt_zero k)⟩ ⟨rfl, fun k hk => absurd hk (Nat.not_lt_zero k)⟩ (Nat.zero_le _)).mono ?_; rintro e w5 ⟨rfl, hc5⟩
    have C5 := Lib.hid (C4.out.thenSame hc5)
    have K5 := Lib.hid (K4.out.thenSame hc5)
    clear hc5
    go_wp2_with fail
    refine (ints_eq rfl ((RowOf.sl (R2.out.kept K5.out (by simp)) icI_len).1) ((HI.out.kept C5.out).1) hm).mono ?_; rintro e w6 ⟨rfl, hc6⟩
    have C6 := Lib.hid (C5.out.thenSame hc6)
    clear hc6
    go_wp2_with fail
    refine (awake54_any _ (HT.out.kept C6.out)).mono ?_; rintro e w7 ⟨rfl, hc7⟩
    have C7 := Lib.hid (C6.out.thenSame hc7)
    clear hc7
    go_wp2_with fail
    go_ret
    exact ⟨rfl, C7.out.toBelow (Nat.le_refl _) (by simp)⟩
end Go.Proofs.YtehjalgogjkdlaaGreatDoor
