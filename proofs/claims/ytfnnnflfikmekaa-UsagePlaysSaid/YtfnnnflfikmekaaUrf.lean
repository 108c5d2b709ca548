/- Chapter 52: the reference's Functions. No condition. -/
import Derived.Test.YtfnnnflfikmekaaUrs
import Derived.Test.YtfnnnflfikmekaaUrb
import Derived.Test.YtfnnnflfikmekaaUpD
namespace Go.Proofs.Ytfnnnflfikmekaa
set_option linter.unusedVariables false
set_option linter.unusedSimpArgs false
open Go.RowKit
variable {w w' : World} {b : Nat} {v : Value} {s : Led}
def rfF (tn : ByteArray) (p : Int) (out : List (List UInt8)) (c : CR) : List (List UInt8) := if (inB tn p c && !out.contains (bs c.r.fn)) = true then sortedS (out ++ [bs c.r.fn]) else out
theorem rf_step (tn : ByteArray) (p : Int) (out : List (List UInt8)) (c : CR) (h : out.Pairwise (· < ·)) : (rfF tn p out c).Pairwise (· < ·) ∧ (∀ x, x ∈ rfF tn p out c ↔ x ∈ out ∨ (inB tn p c = true ∧ x = bs c.r.fn)) ∧ (rfF tn p out c).length ≤ out.length + 1 := by
  unfold rfF
  by_cases hq : (inB tn p c && !out.contains (bs c.r.fn)) = true
  · rw [if_pos hq]
    simp only [Bool.and_eq_true, Bool.not_eq_true'] at hq
    have hn : bs c.r.fn ∉ out := fun hm => by
      rw [List.contains_iff_mem.2 hm] at hq; cases hq.2
    have hd : (out ++ [bs c.r.fn]).Nodup := List.nodup_append.2 ⟨nodup_lt h, by simp, fun a ha b hb => by simp at hb; subst hb; rintro rfl; exact hn ha⟩
    obtain ⟨h1, h2⟩ := sorted_fold (out ++ [bs c.r.fn]) [] List.Pairwise.nil (by simpa using hd)
    refine ⟨h1, fun x => ?_, ?_⟩
    · have := h2.mem_iff (a := x)
      unfold sortedS
      rw [this]
      simp [hq.1]
    · have := h2.length_eq
      unfold sortedS
      rw [this]
      simp
  · rw [if_neg hq]
    refine ⟨h, fun x => ⟨.inl, fun hx => hx.elim id fun ⟨h1, h2⟩ => ?_⟩, by omega⟩
    subst h2
    rw [h1] at hq
    simp only [Bool.true_and, Bool.not_eq_true', Bool.not_eq_false] at hq
    exact List.contains_iff_mem.1 hq
theorem rf_facts (tn : ByteArray) (p : Int) : ∀ (l : List CR) (out : List (List UInt8)), out.Pairwise (· < ·) → (l.foldl (rfF tn p) out).Pairwise (· < ·) ∧ (∀ x, x ∈ l.foldl (rfF tn p) out ↔ x ∈ out ∨ x ∈ fnL tn p l) ∧ (l.foldl (rfF tn p) out).length ≤ out.length + l.length
  | [], out, h => ⟨h, fun x => by simp [fnL], by simp⟩
  | c :: l, out, h => by
    obtain ⟨h1, h2, h3⟩ := rf_step tn p out c h
    obtain ⟨k1, k2, k3⟩ := rf_facts tn p l (rfF tn p out c) h1
    refine ⟨k1, fun x => ?_, ?_⟩
    · rw [List.foldl_cons, k2, h2]
      unfold fnL
      rw [List.filter_cons]
      cases hq : inB tn p c
      · simp
      · simp only [if_true, List.map_cons, List.mem_cons, true_and, or_assoc]
    · rw [List.foldl_cons, List.length_cons]; omega
theorem rf_eq (s : Led) (tn : ByteArray) (p : Int) : s.l.foldl (rfF tn p) [] = fnsU s tn p := by
  obtain ⟨h1, h2, _⟩ := rf_facts tn p s.l [] List.Pairwise.nil
  obtain ⟨k1, k2⟩ := fns_facts s tn p
  refine List.Perm.eq_of_pairwise (le := fun a b => leB a b = true) (fun a b _ _ h1 h2 => ?_) (h1.imp fun h => ?_) (k1.imp fun h => ?_) ((List.perm_ext_iff_of_nodup (nodup_lt h1) (nodup_lt k1)).2 fun x => ?_)
  · simp only [leB, decide_eq_true_eq] at h1 h2
    exact List.le_antisymm h1 h2
  · simpa [leB] using lt_le h
  · simpa [leB] using lt_le h
  · rw [h2, k2]; simp
set_option maxHeartbeats 16000000 in
set_option maxRecDepth 100000 in
theorem rfuncs_any (tn : ByteArray) (p : Int) (h : RIs w b v s) (hl : s.l.length ≤ 60) :
    Calls Try.prog 27 #[.pointer (some ⟨b, 0, none⟩), .string tn, .int .i64 p] w fun e w' => ∃ v', e = .returned v' ∧ RowOf kc 1 w' w.heap.size 9 v' (fnsU s tn p) ∧ Chg [] w w' := by
  obtain ⟨a, cap, rfl⟩ := RowOf.shape h.2
  have H := Lib.hid h
  have hL := fun w' (hc : Chg [] w w') => blk_cell (h.keptN hc).1
  have HL := Lib.hid hL
  have hcell : ∀ wr, Chg [] w wr → ∀ k (hk : k < s.l.length), ∃ g, a = some ⟨g, 0, none⟩ ∧ g < w.heap.size ∧ ∀ j, j < 10 → wr.cell? ⟨g, k * 10 + j, none⟩ = (crC s.l[k])[j]? := by
    intro wr hc k hk
    rcases RowOf.at (h.keptN hc).2 crLen with ⟨_, hl⟩ | ⟨g, cap', hv, _, _, hcell, _, _, hgl⟩
    · rw [hl] at hk; simp at hk
    · cases hv
      exact ⟨g, rfl, (h.2.block g rfl).2, fun j hj => hcell k hk j hj⟩
  have HCell := Lib.hid hcell
  have HEq := Lib.hid (rf_eq s tn p)
  clear h hL hcell
  go_enter Try.func27, Try.ntmps27
  go_wp2_with fail
  go_loopw [7, 8] (fun u i wr => ∃ (k : Nat) (out : List (List UInt8)), i = .int .i64 k ∧ k ≤ s.l.length ∧ Hid (out = (s.l.take k).foldl (rfF tn p) []) ∧ Hid (out.Pairwise (· < ·)) ∧ Hid (out.length ≤ k) ∧ Hid (RowOf kc 1 wr w.heap.size 9 u out) ∧ Hid (Chg [] w wr)) (fun _ i _ => s.l.length - (intOf i).toNat)
  case atStart => exact ⟨0, [], rfl, Nat.zero_le _, Lib.hid rfl, Lib.hid List.Pairwise.nil, Lib.hid (Nat.le_refl _), Lib.hid (RowOf.nil _ _ _), Lib.hid (Chg.refl _ _)⟩
  case round =>
    obtain ⟨k, out, rfl, hkl, HO, HPw, HLn, R, D⟩ := hrel
    have cb := HL.out wr D.out
    by_cases hk : k < s.l.length
    · obtain ⟨g, rfl, hgl, hcells⟩ := HCell.out wr D.out k hk
      have d0 := hcells 0 (by omega)
      have d1 := hcells 1 (by omega)
      have d2 := hcells 2 (by omega)
      have d3 := hcells 3 (by omega)
      have d4 := hcells 4 (by omega)
      have d5 := hcells 5 (by omega)
      have d6 := hcells 6 (by omega)
      have d7 := hcells 7 (by omega)
      have d8 := hcells 8 (by omega)
      have d9 := hcells 9 (by omega)
      have hst := foldl_take (rfF tn p) [] s.l k hk
      rw [← HO.out] at hst
      generalize s.l[k] = c at *
      obtain ⟨s1, s2, s3⟩ := rf_step tn p out c HPw.out
      have HS1 := Lib.hid s1
      have HS3 := Lib.hid (show (rfF tn p out c).length ≤ k + 1 by have := HLn.out; omega)
      have HST := Lib.hid hst
      simp only [crC, List.getElem?_cons_zero, List.getElem?_cons_succ, Nat.add_zero] at d0 d1 d2 d3 d4 d5 d6 d7 d8 d9
      have hk0 : (0 : Int) ≤ (k : Int) := by omega
      have hk1 : (k : Int) < (s.l.length : Int) := by omega
      have hrf : rfF tn p out c = if ((c.r.tn.toList == tn.toList && c.p == p) && !out.contains (bs c.r.fn)) = true then sortedS (out ++ [bs c.r.fn]) else out := by
        unfold rfF inB; rw [beq_toListBytes c.r.tn]
      have HRF := Lib.hid hrf
      generalize rfF tn p out c = out' at *
      obtain ⟨a1, c1, rfl⟩ := RowOf.shape R.out
      have hc3 : Chg [] wr (wr.alloc (enO c)) := (Chg.refl _ _).alloc _
      have C3 := Lib.hid (D.out.thenSame hc3)
      have R3 := Lib.hid (R.out.kept hc3 (by simp))
      have Z3 := Lib.hid (heap_alloc_new wr (enO c))
      have z3 := blk_cell Z3.out
      have hl60 : out.length ≤ 60 := by have := HLn.out; omega
      have A1 := rhas_any a1 c1 out c.r.fn _ (RowOf.sl R3.out kLen).1 (by omega)
      unfold enO at C3 R3 Z3 z3 A1
      clear hcells hst s1 s2 s3 hrf hc3
      cases q1 : c.r.tn.toList == tn.toList
      case false =>
        have HE : Hid (out' = out) := Lib.hid (by rw [HRF.out, q1]; rfl)
        clear A1 z3 hl60
        go_wp2_with fail
        exact ⟨⟨k + 1, out, by go_num, by omega, Lib.hid (by rw [HST.out, HE.out]), HPw, Lib.hid (by have := HLn.out; omega), R3, C3⟩, by simp [intOf]; omega⟩
      cases q2 : c.p == p
      case false =>
        have HE : Hid (out' = out) := Lib.hid (by rw [HRF.out, q1, q2]; rfl)
        clear A1 z3 hl60
        go_wp2_with fail
        exact ⟨⟨k + 1, out, by go_num, by omega, Lib.hid (by rw [HST.out, HE.out]), HPw, Lib.hid (by have := HLn.out; omega), R3, C3⟩, by simp [intOf]; omega⟩
      cases q3 : out.contains (bs c.r.fn)
      case true =>
        have HE : Hid (out' = out) := Lib.hid (by rw [HRF.out, q1, q2, q3]; rfl)
        rw [q3] at A1
        have HA1 := Lib.hid A1
        clear A1 z3 hl60
        go_wp2_with fail
        refine HA1.out.mono ?_; rintro e w4 ⟨rfl, hc4⟩
        have R4 := Lib.hid (R3.out.kept hc4 (by simp))
        have C4 := Lib.hid (C3.out.thenSame hc4)
        clear hc4
        go_wp2_with fail
        exact ⟨⟨k + 1, out, by go_num, by omega, Lib.hid (by rw [HST.out, HE.out]), HPw, Lib.hid (by have := HLn.out; omega), R4, C4⟩, by simp [intOf]; omega⟩
      case false =>
        have HE : Hid (out' = sortedS (out ++ [bs c.r.fn])) := Lib.hid (by rw [HRF.out, q1, q2, q3]; rfl)
        rw [q3] at A1
        have HA1 := Lib.hid A1
        have HL60 := Lib.hid hl60
        clear A1 z3 hl60
        go_wp2_with fail
        refine HA1.out.mono ?_; rintro e w4 ⟨rfl, hc4⟩
        have R4 := Lib.hid (R3.out.kept hc4 (by simp))
        have C4 := Lib.hid (C3.out.thenSame hc4)
        have Z4 := Lib.hid (hc4.at (by simp) Z3.out)
        have z4 := blk_cell Z4.out
        clear hc4 HA1
        go_wp2_with (at_builtin; refine wpl_append rfl _ _ 40 rfl w.heap.size 9 _ 16 Try.underlying40 sInfo rfl (by decide) kLen kOne (.slice a1 out.length c1) out rfl (RowOf.kept R4.out ((Chg.refl [] _).alloc _) (by simp)) w4.heap.size _ (bs c.r.fn) _ _ _ rfl (heap_alloc_new w4 _) (by simp [kc, enc_bs]) (by have := HL60.out; unfold maxLen; omega) (by have := HL60.out; omega) (by have := C4.out.size; simp; omega) ?_; intro v5 w5 hr5 hg5; have R5 := Lib.hid hr5; have C5 := Lib.hid ((C4.out.alloc _).then (Chg.ofRow (v := .slice a1 out.length c1) hg5) (by intro y hy hl; have := (R4.out.block y (by simpa using hy)).1; omega)); clear hr5 hg5)
        refine (sorted_any R5.out (by rw [List.length_append]; have := HL60.out; simp; omega)).mono ?_; rintro e w6 ⟨v6, rfl, hr6, hc6⟩
        have R6 := Lib.hid (hr6.mono C5.out.size)
        have C6 := Lib.hid (C5.out.thenSame hc6)
        clear hr6 hc6
        go_wp2_with fail
        exact ⟨⟨k + 1, out', by go_num, by omega, Lib.hid HST.out.symm, HS1, HS3, Lib.hid (by rw [HE.out]; exact R6.out), C6⟩, by simp [intOf]; omega⟩
    · have hks : k = s.l.length := by omega
      subst hks
      have hO := HO.out
      rw [List.take_length, HEq.out] at hO
      subst hO
      go_wp2_with fail
      go_ret
      exact ⟨_, rfl, R.out, D.out⟩
end Go.Proofs.Ytfnnnflfikmekaa
