/- Chapter 22: contract of the reference: Names. No condition. -/
import Derived.Test.YtldilefhmpipkaaSedI
namespace Go.Proofs.Ytldilefhmpipkaa
set_option linter.unusedVariables false
set_option linter.unusedSimpArgs false
open Go.RowKit

theorem rnames_step {L : List R0} {fn : ByteArray} {k : Nat} (hk : k < L.length) : rnamesS (L.take (k + 1)) fn = rnamesS (L.take k) fn ++ if foundAt L[k].bound (byt fn) = true then [byt L[k].name] else [] := by
  unfold rnamesS
  rw [List.take_succ_eq_append_getElem hk, List.filter_append, List.map_append]
  congr 1
  cases h : foundAt L[k].bound (byt fn) <;> simp [h]
theorem rnames_len (L : List R0) (fn : ByteArray) (k : Nat) : (rnamesS (L.take k) fn).length ≤ k := by
  unfold rnamesS
  rw [List.length_map]
  refine Nat.le_trans (List.length_filter_le _ _) ?_
  simp; omega

set_option maxHeartbeats 8000000 in
set_option maxRecDepth 100000 in
theorem rnames_any (rb : Nat) (sv : Value) (l : List RSec) (fn : ByteArray) (w : World) (h : RVIs w rb sv l) (hll : l.length ≤ 4096) (hbl : ∀ x ∈ l, x.s.bound.length ≤ 4096) :
    Calls Try.prog 27 #[.pointer (some ⟨rb, 0, none⟩), .string fn] w fun e w' => ∃ v, e = .returned v ∧ RowOf kc 1 w' w.heap.size 9 v (rnamesS (l.map RSec.s) fn) ∧ Chg [] w w' := by
  have H := Lib.hid h
  have c0 := blk_cell h.1
  have hm : (l.map RSec.s).length = l.length := by simp
  have Hbl := Lib.hid hbl
  have hnl := fun k => rnames_len (l.map RSec.s) fn k
  have Hnl := Lib.hid hnl
  rcases RowOf.at h.2.1 rsLen with ⟨h1, h2⟩ | ⟨g, c, h1, hlc, hcm, -, -, -, hgl⟩
  · subst h1
    have hl0 : l.length = 0 := by rw [h2]; rfl
    clear h hbl hnl hm
    go_enter Try.func27, Try.ntmps27
    go_wp2_with fail
    go_loop [5, 23] (fun o i => i = .int .i64 0 ∧ o = .slice none 0 0) (fun _ _ => 0)
    case atStart => exact ⟨rfl, rfl⟩
    case round =>
      obtain ⟨rfl, rfl⟩ := hrel
      go_wp2_with fail
      go_ret
      exact ⟨_, rfl, RowOf.nil _ _ _, Chg.refl _ _⟩
  · subst h1
    have HAT := Lib.hid (fun w' (V : RVIs w' rb (.slice (some ⟨g, 0, none⟩) l.length c) l) p (hp : p < l.length) => V.at hp)
    have Hst := Lib.hid (fun k (hk : k < l.length) => show rnamesS ((l.map RSec.s).take (k + 1)) fn = rnamesS ((l.map RSec.s).take k) fn ++ if foundAt (l[k]).s.bound (byt fn) = true then [byt (l[k]).s.name] else [] from by
      have := rnames_step (L := l.map RSec.s) (fn := fn) (k := k) (by simpa using hk)
      simpa using this)
    clear h hbl hnl hm
    go_enter Try.func27, Try.ntmps27
    go_wp2_with fail
    clear c0
    go_loopw [5, 23] (fun o i wr => ∃ k : Nat, i = .int .i64 k ∧ k ≤ l.length ∧ RowOf kc 1 wr w.heap.size 9 o (rnamesS ((l.map RSec.s).take k) fn) ∧ Chg [] w wr) (fun _ i _ => l.length - (intOf i).toNat)
    case atStart => exact ⟨0, rfl, Nat.zero_le _, RowOf.nil _ _ _, Chg.refl _ _⟩
    case round =>
      obtain ⟨k, rfl, hkl, hrow, hch⟩ := hrel
      have HR := Lib.hid hrow
      have HC := Lib.hid hch
      have V := Lib.hid (H.out.keptN hch)
      clear hrow hch
      by_cases hk : k < l.length
      · have cv := blk_cell V.out.1
        obtain ⟨g', c', hgc, hcell, -, -, -, hsrc⟩ := HAT.out _ V.out k hk
        cases hgc
        have q0 := hcell 0 (by omega)
        have q7 := hcell 7 (by omega)
        simp only [rsCells, List.getElem?_cons_zero, List.getElem?_cons_succ, Nat.add_zero] at q0 q7
        have hst := Hst.out k hk
        have hbb := Hbl.out _ (List.getElem_mem hk)
        have A := rplace_any (l[k]).bv (l[k]).s.bound fn wr hsrc hbb
        have hk0 : (0 : Int) ≤ (k : Int) := by omega
        have hk1 : (k : Int) < (l.length : Int) := by omega
        have hln := Hnl.out k
        obtain ⟨x, hx⟩ : ∃ x, x = l[k] := ⟨_, rfl⟩
        rw [← hx] at A hst q0 q7
        generalize posOf x.s.bound (byt fn) = P at A
        cases hf : foundAt x.s.bound (byt fn)
        · rw [hf] at A hst
          have A := Lib.hid A
          rename_i A0
          simp only [Bool.false_eq_true, if_false, List.append_nil] at hst
          have Hs := Lib.hid hst
          clear hcell hsrc hst A0 hx hf hbb
          go_wp2_with fail
          refine A.out.mono ?_; rintro e w1 ⟨rfl, hc1⟩
          have C1 := Lib.hid (HC.out.thenSame hc1)
          have R1 := Lib.hid (HR.out.kept hc1 (by simp))
          clear hc1
          go_wp2_with fail
          exact ⟨⟨k + 1, by go_num, by omega, by rw [Hs.out]; exact R1.out, C1.out⟩, by simp [intOf]; omega⟩
        · rw [hf] at A hst
          have A := Lib.hid A
          rename_i A0
          simp only [if_true] at hst
          have Hs := Lib.hid hst
          have Hx := Lib.hid hx
          clear hcell hsrc hst A0 hx hf hbb
          go_wp2_with fail
          refine A.out.mono ?_; rintro e w1 ⟨rfl, hc1⟩
          have C1 := Lib.hid (HC.out.thenSame hc1)
          have R1 := Lib.hid (HR.out.kept hc1 (by simp))
          have V1 := V.out.keptN hc1
          have cv1 := blk_cell V1.1
          obtain ⟨g', c', hgc, hcell, -, -, -, -⟩ := HAT.out _ V1 k hk
          cases hgc
          have q0 := hcell 0 (by omega)
          rw [← Hx.out] at q0
          simp only [rsCells, List.getElem?_cons_zero, List.getElem?_cons_succ, Nat.add_zero] at q0
          have hws : w.heap.size ≤ w1.heap.size := C1.out.size
          clear hc1 hcell V1
          go_wp2_with (first | (at_builtin; refine wpl_append rfl _ _ 46 rfl w.heap.size 9 _ 16 Try.underlying46 stInfo rfl (by decide) kLen kOne _ _ rfl (RowOf.kept R1.out ((Chg.refl [] _).alloc _) (by simp)) w1.heap.size _ (byt x.s.name) _ _ _ rfl (heap_alloc_new w1 _) (by simp [kc, encStr, byt]) ?c1 ?c2 ?c3 ?_; rotate_left 3; intro v' w3 hrow3 hg3) | fail)
          case c1 => unfold maxLen; omega
          case c2 => omega
          case c3 => simp; omega
          have hch3 : Chg [] w w3 := (C1.out.alloc _).then (Chg.ofRow (v := u5) hg3) (by intro y hy hl; have := (R1.out.block y (by simpa using hy)).1; omega)
          refine ⟨⟨k + 1, by go_num, by omega, ?_, hch3⟩, by simp [intOf]; omega⟩
          rw [Hs.out]
          exact hrow3
      · have E : Hid ((l.map RSec.s).take k = l.map RSec.s) := Lib.hid (List.take_of_length_le (by rw [List.length_map]; omega))
        rw [E.out] at HR
        clear E
        go_wp2_with fail
        go_ret
        exact ⟨_, rfl, HR.out, HC.out⟩
end Go.Proofs.Ytldilefhmpipkaa
