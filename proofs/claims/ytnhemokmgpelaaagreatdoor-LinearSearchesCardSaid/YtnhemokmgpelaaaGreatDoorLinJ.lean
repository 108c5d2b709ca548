/- Chapter 50: contracts: check, Find. Condition: the table of Itoa lies as the program lays it. -/
import Derived.Test.YtnhemokmgpelaaaGreatDoorLinI
namespace Go.Proofs.YtnhemokmgpelaaaGreatDoor
set_option linter.unusedVariables false
set_option linter.unusedSimpArgs false
open Go.RowKit
variable {w : World} {la : Option Addr} {lc : Nat} {l : List Cl} {sa : Option Addr} {sc : Nat} {st : List Ce}
def hchkZ (st : List Ce) (l : List PCl) : Int := if hcheckZ l ≠ 0 then hcheckZ l else checkZ st
def findZ (st : List Ce) (l : List PCl) : List Int × Int := if hchkZ st l ≠ 0 then ([], hchkZ st l) else match findF l l.length st (List.replicate l.length false) [] with | none => ([], 19) | some o => (o, 0)
theorem boolInfo : (Tryz.prog.info? 4).map (fun i => (i.zero, i.size, i.bytes)) = some (some (.bool false), 1, 1) := by kernel_rfl
set_option maxRecDepth 100000 in
theorem lcheck2_any (h : LIn w la lc l) (hg : ∀ x ∈ l, goodCl x) (hs : InIs ceC 4 w sa sc st) (hsg : goodL st) (ht : TabW w) :
    Calls Tryz.prog 20 #[.slice sa st.length sc, .slice la l.length lc] w fun e w' => e = .returned (.int .i64 (hchkZ st (l.map Cl.p))) ∧ Chg [] w w' := by
  have A := Lib.hid (lcheck_any (c := lc) h hg ht)
  have A2 := Lib.hid (fun w' (hc : Chg [] w w') => vcheck_any sa sc st w' (hs.1.kept hc) hsg.1 hsg.2 (ht.kept hc))
  unfold hchkZ
  clear h hg hs hsg ht
  generalize hcheckZ (l.map Cl.p) = z at *
  generalize checkZ st = y at *
  by_cases hz : z = 0
  · subst hz
    rw [if_neg (by simp)]
    go_enter Tryz.func20, Tryz.ntmps20
    go_wp2_with fail
    refine A.out.mono ?_; rintro e w2 ⟨rfl, hc⟩
    have C2 := Lib.hid hc
    clear hc
    go_wp2_with fail
    refine (A2.out _ C2.out).mono ?_; rintro e w3 ⟨rfl, hc⟩
    have C3 := Lib.hid (C2.out.thenSame hc)
    clear hc
    go_wp2_with fail
    go_ret
    exact ⟨rfl, C3.out⟩
  · rw [if_pos hz]
    have hzb : (z != 0) = true := by simpa using hz
    clear hz
    go_enter Tryz.func20, Tryz.ntmps20
    go_wp2_with fail
    refine A.out.mono ?_; rintro e w2 ⟨rfl, hc⟩
    have C2 := Lib.hid hc
    clear hc
    go_wp2_with fail
    go_ret
    exact ⟨rfl, C2.out⟩
def FindP (w : World) (r : List Int × Int) (e : Ending) (w' : World) : Prop :=
  ∃ oa oc, e = .returned (.tuple #[.slice oa r.1.length oc, .int .i64 r.2]) ∧ InIs icI 1 w' oa oc r.1 ∧ (∀ x, oa = some x → w.heap.size ≤ x.block) ∧ Chg [] w w'
set_option maxHeartbeats 4000000 in
set_option maxRecDepth 100000 in
theorem lfind_any (h : LIn w la lc l) (hg : ∀ x ∈ l, goodCl x) (hs : InIs ceC 4 w sa sc st) (hsg : goodL st) (ht : TabW w) :
    Calls Tryz.prog 7 #[.slice sa st.length sc, .slice la l.length lc] w (FindP w (findZ st (l.map Cl.p))) := by
  have A := Lib.hid (lcheck2_any h hg hs hsg ht)
  by_cases hz : hchkZ st (l.map Cl.p) = 0
  case neg =>
    have HE := Lib.hid (show findZ st (l.map Cl.p) = ([], hchkZ st (l.map Cl.p)) by unfold findZ; rw [if_pos hz])
    rw [HE.out]
    have hzb : (hchkZ st (l.map Cl.p) != 0) = true := by simpa using hz
    clear h hg hs hsg ht hz HE
    generalize hchkZ st (l.map Cl.p) = z at *
    go_enter Tryz.func7, Tryz.ntmps7
    go_wp2_with fail
    refine A.out.mono ?_; rintro e w2 ⟨rfl, hc⟩
    have C2 := Lib.hid hc
    clear hc
    go_wp2_with fail
    go_ret2
    exact ⟨none, 0, rfl, ⟨⟨rfl, fun k hk => by simp at hk⟩, Nat.le_refl _, Nat.zero_le _, fun _ => rfl⟩, (fun x hx => by cases hx), C2.out⟩
  have hh : hcheckZ (l.map Cl.p) = 0 ∧ checkZ st = 0 := by
    unfold hchkZ at hz
    split at hz
    · rename_i h1; exact absurd hz h1
    · rename_i h1; exact ⟨by simpa using h1, hz⟩
  have h8 : l.length ≤ 8 := by have := (hcheck_zero hh.1).1; rwa [List.length_map] at this
  have hne := (check_zero hh.2).1
  rw [hz] at A
  have HF := Lib.hid (show findZ st (l.map Cl.p) = match findF (l.map Cl.p) l.length st (List.replicate l.length false) [] with | none => ([], 19) | some o => (o, 0) by unfold findZ; rw [if_neg (by simp [hz]), List.length_map])
  obtain ⟨R, hR⟩ : ∃ R, R = findF (l.map Cl.p) l.length st (List.replicate l.length false) [] := ⟨_, rfl⟩
  have HR := Lib.hid hR
  rw [← hR] at HF
  rw [HF.out]
  obtain ⟨sb0, so0, esa, hsb0, -⟩ := hs.1.2 0 (by cases st with | nil => exact absurd rfl hne | cons _ _ => simp)
  have HS := Lib.hid hs
  have ESA := Lib.hid esa
  have FC := Lib.hid (find_all l.length)
  have h8' : (l.length : Int) ≤ 8 := by omega
  have hl0 : (0 : Int) ≤ (l.length : Int) := by omega
  have HL := Lib.hid h
  have HG := Lib.hid hg
  have HSG := Lib.hid hsg
  have HT := Lib.hid ht
  have H8 := Lib.hid h8
  clear h hg hs hsg ht hz hh hne hR esa
  go_enter Tryz.func7, Tryz.ntmps7
  go_wp2_with fail
  refine A.out.mono ?_; rintro e w2 ⟨rfl, hc⟩
  have C2 := Lib.hid hc
  clear hc
  go_upto_region 5 with (at_make; go_loud (refine wpl_make (cf := bC) rfl _ _ 53 rfl 0 4 _ 1 Tryz.underlying53 boolInfo false rfl rfl l.length rfl rfl (by omega) (by unfold maxLen; omega) (Nat.zero_le _) ?_); intro w3 hr3 hc3 hl3; have R3 := Lib.hid hr3; have K3 := Lib.hid hc3; clear hr3 hc3)
  have hw2 := C2.out.size
  have hw3 := K3.out.size
  obtain ⟨W4, hW4⟩ : ∃ W4, W4 = w3.alloc (.cells #[.slice la l.length lc, .slice (some ⟨w2.heap.size, 0, none⟩) l.length l.length, .slice none 0 0] 55) := ⟨_, rfl⟩
  have K4 := Lib.hid (show Chg [] w3 W4 by rw [hW4]; exact (Chg.refl _ _).alloc _)
  have B4 := Lib.hid (heap_alloc_new w3 (.cells #[.slice la l.length lc, .slice (some ⟨w2.heap.size, 0, none⟩) l.length l.length, .slice none 0 0] 55))
  rw [← hW4] at B4
  rw [← hW4]
  have hrl : (List.replicate l.length false).length = l.length := List.length_replicate
  have SE4 : Hid (SeAt W4 w3.heap.size (.slice la l.length lc) w2.heap.size (List.replicate l.length false) none 0 []) := Lib.hid
    { blk := by rw [hrl]; exact B4.out
      plc := by rw [hrl]; exact R3.out.kept K4.out (by simp)
      ord := RowOf.nil _ _ _
      ne := by have := (R3.out.block _ rfl).2; simp only at this; omega
      ne1 := by simp [ob]
      ne2 := by simp [ob] }
  have C4 := Lib.hid ((C2.out.thenSame K3.out).thenSame K4.out)
  have FH4 : Hid (FH w W4 w3.heap.size la lc l w2.heap.size (List.replicate l.length false) none 0 [] sa sc st) := Lib.hid
    { se := SE4.out, base := C4.out, cls := HL.out, good := HG.out, tab := HT.out, len := H8.out, plen := hrl, stg := HSG.out
      far := fun x hx => by simp [seF, ob] at hx; rcases hx with rfl | rfl <;> omega
      room := by simp; omega
      stin := HS.out.kept C4.out
      apart := fun x hx => by
        rw [ESA.out] at hx; cases hx
        refine ⟨fun hm => ?_, by have := C4.out.size; simp only; omega⟩
        simp [seF, ob] at hm
        omega }
  have A5 := FC.out w W4 w3.heap.size la lc l w2.heap.size (List.replicate l.length false) none 0 [] sa sc st FH4.out (by simp)
  rw [← HR.out] at A5
  have A5 := Lib.hid A5
  rename_i A50
  clear A50 hW4
  cases R with
  | some o =>
    go_wp2_with (go_at_call 21; (with_reducible refine Calls.mono A5.out ?_); rintro e w6 ⟨pl6, oa6, oc6, od6, rfl, hse, -, hyes, hc, ho⟩; have O6 := Lib.hid ho; clear ho; obtain rfl := hyes o rfl; have SE6 := Lib.hid hse; have C6 := Lib.hid (C4.out.then hc (fun x hx hlt => by simp [seF, ob] at hx; omega)); have k6 := blk_cell hse.blk; clear hse hyes hc)
    go_ret2
    exact ⟨oa6, oc6, rfl, (InIs.ofRow SE6.out.ord icI_len).2, (fun x hx => by
      rcases O6.out x.block (by rw [hx]; rfl) with h | h
      · simp [ob] at h
      · exact Nat.le_trans C4.out.size h), C6.out⟩
  | none =>
    go_wp2_with (go_at_call 21; (with_reducible refine Calls.mono A5.out ?_); rintro e w6 ⟨pl6, oa6, oc6, od6, rfl, hse, -, -, hc, -⟩; have C6 := Lib.hid (C4.out.then hc (fun x hx hlt => by simp [seF, ob] at hx; omega)); clear hse hc)
    go_ret2
    exact ⟨none, 0, rfl, ⟨⟨rfl, fun k hk => by simp at hk⟩, Nat.le_refl _, Nat.zero_le _, fun _ => rfl⟩, (fun x hx => by cases hx), C6.out⟩
end Go.Proofs.YtnhemokmgpelaaaGreatDoor
