/- Chapter 54: contract: the reference's Same, of invoices that are the same. No condition. Chapter 54: plain: what Make gives passes Check. No condition. -/
import Derived.Test.YtehjalgogjkdlaaGreatDoorZ30
import Derived.Test.YtehjalgogjkdlaaGreatDoorZ16
import Derived.Test.YtehjalgogjkdlaaGreatDoorZ24
import Derived.Test.YtehjalgogjkdlaaGreatDoorZ26
namespace Go.Proofs.YtehjalgogjkdlaaGreatDoor
set_option linter.unusedVariables false
set_option linter.unusedSimpArgs false
open Go.RowKit
def lnV (x : Ln) : Value := .agg #[.string x.fn, .int .i64 x.us.inv, .int .i64 x.us.steps, .int .i64 x.us.ticks, .int .i64 x.us.units, .int .i64 x.mi]
theorem structLn : Tryz.prog.underlying 74 = some (.struct (Tryz.prog.fieldsOf 74)) := by kernel_rfl
theorem heldLn : Tryz.prog.stoodInHeld 74 = false := by kernel_rfl
set_option maxRecDepth 100000 in
set_option maxHeartbeats 4000000 in
theorem eqlL_in (d : Nat) (a : Ln) (w : World) : (Op.equalIn (d + 3) 74 (lnV a) (lnV a)).run Tryz.prog w = .ok true w := by
  obtain ⟨a1, a5, a6⟩ := a
  have hU := fun w => eqlU_in d a5 a5 w
  rw [eqU_iff.2 rfl] at hU
  simp only [lnV]
  obtain ⟨a51, a52, a53, a54⟩ := a5
  simp only [usV] at hU ⊢
  rw [show d + 3 = (d + 2) + 1 from rfl, run_equalIn_struct w (d + 2) 74 _ _ structLn heldLn]
  simp only [Program.fieldsOf, Tryz.underlying74]
  go_simp
  (try simp [hU, listS])
theorem neqL (a : Ln) (w : World) : (binOp .neq 74 (lnV a) (lnV a)).run Tryz.prog w = .ok (.bool false) w := by
  unfold lnV
  rw [run_neq_struct]
  have := eqlL_in 9997 a w
  unfold lnV at this
  rw [this]
  rfl
structure SmI (w wr : World) (i : Inv) (a : Option Addr) (cap : Nat) (b : Option Addr) (cap2 : Nat) : Prop where
  x : wr.heap[w.heap.size]? = some (ivO i a cap)
  y : wr.heap[w.heap.size + 1]? = some (ivO i b cap2)
  chg : Chg [] w wr
set_option maxHeartbeats 4000000 in
set_option maxRecDepth 100000 in
theorem same54_any (i : Inv) (a b : Option Addr) (cap cap2 : Nat) (w : World) (h : SlIs lnC 6 w a i.ls.length i.ls) (h2 : SlIs lnC 6 w b i.ls.length i.ls) (hm : i.ls.length ≤ maxLen) : Calls Tryz.prog 13 #[ivV i a cap, ivV i b cap2] w fun e w' => e = .returned (.bool true) ∧ Chg [] w w' := by
  have H := Lib.hid h
  have H2 := Lib.hid h2
  obtain ⟨W1, hW1⟩ : ∃ W1, W1 = (w.alloc (ivO i a cap)).alloc (ivO i b cap2) := ⟨_, rfl⟩
  have I1 := Lib.hid (show SmI w W1 i a cap b cap2 from hW1 ▸ ⟨blk_alloc (heap_alloc_new _ _), by
    have := heap_alloc_new (w.alloc (ivO i a cap)) (ivO i b cap2)
    rwa [World.size_alloc] at this, ((Chg.refl _ _).alloc _).alloc _⟩)
  have HW1 := Lib.hid hW1
  have k1 := blk_cell I1.out.x
  have k2 := blk_cell I1.out.y
  have lt2 := lt_of_heap I1.out.y
  have hln : (i.ls.length : Int) ≤ 9223372036854775807 := by unfold maxLen at hm; omega
  unfold ivO at HW1 k1 k2
  unfold ivV
  clear h h2 hW1 hm
  go_enter Tryz.func13, Tryz.ntmps13
  go_wp2_with fail
  rw [← HW1.out]
  go_wp2_with fail
  clear k1 k2
  go_loopw [5] (fun j wr => ∃ k : Nat, j = .int .i64 k ∧ k ≤ i.ls.length ∧ Hid (SmI w wr i a cap b cap2)) (fun j _ => i.ls.length - (intOf j).toNat)
  case atStart => exact ⟨0, rfl, Nat.zero_le _, I1⟩
  case round =>
    obtain ⟨k, rfl, hk, HI⟩ := hrel
    have k1 := blk_cell HI.out.x
    have k2 := blk_cell HI.out.y
    have lt2 := lt_of_heap HI.out.y
    unfold ivO at k1 k2
    by_cases hkn : k < i.ls.length
    · obtain ⟨g1, o1, rfl, -, hbr1, hcc1⟩ := H.out.elem HI.out.chg k hkn
      obtain ⟨g2, o2, rfl, -, hbr2, hcc2⟩ := H2.out.elem HI.out.chg k hkn
      have d0 := hcc1 0 (by omega)
      have d1 := hcc1 1 (by omega)
      have d2 := hcc1 2 (by omega)
      have d3 := hcc1 3 (by omega)
      have d4 := hcc1 4 (by omega)
      have d5 := hcc1 5 (by omega)
      have e0 := hcc2 0 (by omega)
      have e1 := hcc2 1 (by omega)
      have e2 := hcc2 2 (by omega)
      have e3 := hcc2 3 (by omega)
      have e4 := hcc2 4 (by omega)
      have e5 := hcc2 5 (by omega)
      generalize i.ls[k] = x at *
      have qn := fun w => neqL x w
      unfold lnV at qn
      obtain ⟨fn, ⟨u1, u2, u3, u4⟩, mi⟩ := x
      simp only [lnC, List.getElem?_cons_zero, List.getElem?_cons_succ, Nat.add_zero] at d0 d1 d2 d3 d4 d5 e0 e1 e2 e3 e4 e5
      simp only at qn
      have hk0 : (0 : Int) ≤ (k : Int) := by omega
      have hk1 : (k : Int) < (i.ls.length : Int) := by omega
      have I4 := Lib.hid (fun n => show SmI w (wr.drewN n) i (some ⟨g1, o1, none⟩) cap (some ⟨g2, o2, none⟩) cap2 from ⟨HI.out.x, HI.out.y, HI.out.chg.drewN n⟩)
      clear hcc1 hcc2
      go_wp2_with fail
      go_quiet (fail)
      go_wp2_with fail
      exact ⟨⟨k + 1, by go_num, by omega, Lib.hid (I4.out _)⟩, by simp [intOf]; omega⟩
    · have hkn2 : ¬ (k : Int) < (i.ls.length : Int) := by omega
      go_wp2_with fail
      go_ret
      exact ⟨rfl, HI.out.chg⟩
end Go.Proofs.YtehjalgogjkdlaaGreatDoor

namespace Go.Proofs.YtehjalgogjkdlaaGreatDoor
set_option linter.unusedVariables false
set_option linter.unusedSimpArgs false
open Go.RowKit
theorem askE_ok {ns : List ByteArray} {p : Int} (h : askE ns p = 0) : (∀ n ∈ ns, nameB n = true) ∧ 0 ≤ p ∧ p ≤ 1073741824 := by
  unfold askE at h
  split at h
  · rename_i h1
    split at h
    · cases h
    · rename_i h2
      exact ⟨by simpa using h1, by omega, by omega⟩
  · cases h
theorem zU_us : usB zU = true := by decide
theorem addU_us (a b : Us) : usB (addU a b).1 = true := by
  unfold addU
  split
  · split
    · split
      · assumption
      · decide
    · decide
  · decide
theorem sumU_us (f : CR → Bool) : ∀ (l : List CR) (u : Us), usB u = true → usB (sumU f l u).1 = true
  | [], u, h => h
  | c :: l, u, h => by
    unfold sumU
    split
    · split
      · exact sumU_us f l _ (addU_us _ _)
      · exact zU_us
    · exact sumU_us f l u h
theorem byU_us (s : Led) (tn fn : ByteArray) (p : Int) : usB (byU s tn fn p).1 = true := by
  unfold byU
  split
  · split
    · split
      · exact sumU_us _ _ _ zU_us
      · exact zU_us
    · exact zU_us
  · exact zU_us
theorem byU_name {s : Led} {tn fn : ByteArray} {p : Int} (h : (byU s tn fn p).2.2 = 0) : nameB fn = true := by
  by_cases e : askE [tn, fn] p = 0
  · exact (askE_ok e).1 fn (by simp)
  · unfold byU at h; rw [if_neg e] at h; exact absurd h e
theorem totU_name {s : Led} {tn : ByteArray} {p : Int} (h : (totU s tn p).2 = 0) : nameB tn = true ∧ 0 ≤ p ∧ p ≤ 1073741824 := by
  by_cases e : askE [tn] p = 0
  · exact ⟨(askE_ok e).1 tn (by simp), (askE_ok e).2⟩
  · unfold totU at h; rw [if_neg e] at h; exact absurd h e
theorem leqB_lt {x y : List UInt8} (h : x < y) : leqB (fB y) (fB x) = false := by
  have e1 : Op.bytesLess (fB y).toList (fB x).toList = false := by
    rw [bless]
    exact decide_eq_false (by simpa [fB] using blt_asymm h)
  have e2 : ((fB y).toList == (fB x).toList) = false := by
    rw [ByteArray.toList_eq, ByteArray.toList_eq]
    refine beq_eq_false_iff_ne.2 fun e => ?_
    simp only [fB] at e
    rw [e] at h
    exact List.lt_irrefl _ h
  unfold leqB
  rw [e1, e2]
  rfl
theorem weigh_in {t : Int} {W : List Int} (h : (weighZ t W).2 = 0) : amtB t = true ∧ (∀ w ∈ W, 0 ≤ w) ∧ (W = [] → t = 0) := by
  unfold weighZ at h
  split at h
  · cases h
  · rename_i h1
    split at h
    · cases h
    · split at h
      · cases h
      · rename_i h3
        simp only [not_or, Bool.not_eq_false] at h1
        exact ⟨h1.1, fun w hw => (amtB_in (List.all_eq_true.1 h1.2 w hw)).1, fun e => Classical.byContradiction fun q => h3 ⟨e, q⟩⟩
theorem shares_nn {t : Int} {W O : List Int} (h : IsOrd (shR t W) O) (ht : 0 ≤ t) (hW : ∀ w ∈ W, 0 ≤ w) : ∀ x ∈ shares t W O, 0 ≤ x := by
  intro x hx
  obtain ⟨j, hj, e⟩ := List.getElem_of_mem hx
  have hj2 : j < W.length := by rw [shares_len] at hj; exact hj
  have h1 := h.shares_at hj2
  rw [List.getD_eq_getElem?_getD, List.getElem?_eq_getElem hj, e, Option.getD_some] at h1
  have hS := effS_pos hW (by rintro rfl; simp at hj2)
  have hw : 0 ≤ (effW W).getD j 0 := by
    rw [eff_at hj2, List.getD_eq_getElem?_getD, List.getElem?_eq_getElem hj2, Option.getD_some]
    split
    · decide
    · exact hW _ (List.getElem_mem hj2)
  have hq : 0 ≤ quo t (effS W) ((effW W).getD j 0) := Int.ediv_nonneg (Int.mul_nonneg ht hw) (Int.le_of_lt hS)
  rw [h1]
  split <;> omega
theorem setMi_sum {ls : List Ln} {sh : List Int} (h : sh.length = ls.length) : sumMi (setMi ls sh) = sh.sum := by
  unfold sumMi
  have e : (setMi ls sh).map Ln.mi = sh := by
    refine List.ext_getElem (by rw [List.length_map, setMi_len, h]) fun i h1 h2 => ?_
    have q := setMi_at (ls := ls) (sh := sh) (k := i) (List.getElem?_eq_getElem (by omega)) (List.getElem?_eq_getElem h2)
    obtain ⟨_, q2⟩ := List.getElem?_eq_some_iff.1 q
    rw [List.getElem_map, q2]
  rw [e]
/-- What Make gives passes Check. -/
theorem make_pass {s : Led} {p : Prc} {tn : ByteArray} {per : Int} {O : List Int} (hO : (makeZ s p tn per O).2 = 0 → IsOrd (shR (mkG s p tn per).1 (mkW s tn per)) O) (h : (makeZ s p tn per O).2 = 0) : invZ (makeZ s p tn per O).1 = 0 := by
  have hO := hO h
  by_cases h1 : (totU s tn per).2 = 0
  case neg => rw [make_err1 h1] at h; exact absurd h h1
  by_cases h2 : (mkG s p tn per).2 = 0
  case neg => rw [make_err2 h1 h2] at h; exact absurd h h2
  by_cases h3 : errs ((fnsU s tn per).map (mkErr s tn per)) = 0
  case neg => rw [make_err3 h1 h2 h3] at h; exact absurd h h3
  by_cases h4 : (weighZ (mkG s p tn per).1 (mkW s tn per)).2 = 0
  case neg => rw [make_err4 h1 h2 h3 h4] at h; exact absurd h h4
  rw [make_ok h1 h2 h3 h4]
  obtain ⟨n1, n2, n3⟩ := totU_name h1
  obtain ⟨g1, w1, w2⟩ := weigh_in h4
  have g2 := amtB_in g1
  have hsn := shares_nn hO g2.1 w1
  have hss := hO.shares_sum w1 w2
  have hlen : (shares (mkG s p tn per).1 (mkW s tn per) O).length = (mkLs s tn per).length := by rw [shares_len]; unfold mkW mkLs; simp
  have hf := (fns_facts s tn per).1
  have hE : ∀ f ∈ fnsU s tn per, mkErr s tn per f = 0 := fun f hf => errs_zero h3 _ (List.mem_map.2 ⟨f, hf, rfl⟩)
  generalize (mkG s p tn per).1 = g at *
  generalize shares g (mkW s tn per) O = sh at *
  have hml : (mkLs s tn per).length = (fnsU s tn per).length := by unfold mkLs; simp
  have hat : ∀ k, (hk : k < (fnsU s tn per).length) → ∃ m, m ∈ sh ∧ (setMi (mkLs s tn per) sh)[k]? = some { ln0 s tn per (fnsU s tn per)[k] with mi := m } := by
    intro k hk
    refine ⟨sh[k]'(by omega), List.getElem_mem _, setMi_at ?_ (List.getElem?_eq_getElem (by omega))⟩
    unfold mkLs
    rw [List.getElem?_map, List.getElem?_eq_getElem hk]
    rfl
  have e3 : errs (linesE (setMi (mkLs s tn per) sh)) = 0 := by
    refine errs_all fun e he => ?_
    obtain ⟨k, hk, rfl⟩ := List.mem_map.1 he
    have hk2 : k < (fnsU s tn per).length := by have := List.mem_range.1 hk; rw [setMi_len] at this; omega
    obtain ⟨m, hm, em⟩ := hat k hk2
    unfold lineE
    rw [em]
    simp only [ln0]
    have hn := byU_name (hE _ (List.getElem_mem hk2))
    refine (if_neg (fun q => ?_)).trans ((if_neg ?_).trans (if_neg ?_))
    · rw [hn] at q; cases q
    rotate_left
    · rintro (q | q)
      · rw [byU_us] at q; cases q
      · have m0 := hsn m hm
        have m1 := mem_le_sum hsn hm
        rw [hss] at m1
        rw [amtB_iff.2 ⟨m0, by omega⟩] at q
        cases q
    · rintro ⟨k0, q⟩
      obtain ⟨m2, hm2, em2⟩ := hat (k - 1) (by omega)
      unfold fnAt at q
      rw [em2] at q
      simp only [Option.map_some, Option.getD_some, ln0] at q
      rw [leqB_lt (List.pairwise_iff_getElem.1 hf (k - 1) k (by omega) hk2 (by omega))] at q
      cases q
  unfold invZ
  simp only []
  rw [if_neg (by rw [n1]; simp), if_neg (by omega), if_neg (by rw [e3]; simp), if_neg, if_pos]
  · exact ⟨by rw [setMi_sum hlen, hss], g2.1, by omega⟩
  · rintro (q | q | q)
    · rw [g1] at q; cases q
    · cases q
    · rw [g1] at q; cases q
end Go.Proofs.YtehjalgogjkdlaaGreatDoor
