/- Chapter 43: slices.Sort and slices.Compact of a list of the call's own; Spread. No condition. -/
import Derived.Test.YtjbnfaapkicejaaShelfF
import Derived.Test.YtjbnfaapkicejaaPlcM
namespace Go.Proofs.Ytjbnfaapkicejaa
set_option linter.unusedVariables false
set_option linter.unusedSimpArgs false
open Go.RowKit Go.Sort
theorem RowOf.shrink {α : Type} {cf : α → List Value} {sz : Nat} {w : World} {base g cap : Nat} {e : TypeId} {l1 l2 : List α} (hc : ∀ x, (cf x).length = sz) (h : RowOf cf sz w base e (.slice (some ⟨g, 0, none⟩) (l1 ++ l2).length cap) (l1 ++ l2)) : RowOf cf sz w base e (.slice (some ⟨g, 0, none⟩) l1.length cap) l1 := by
  obtain ⟨h1, h2⟩ := h
  refine ⟨flatMap_len hc l1, ?_⟩
  rcases h2 with ⟨h2, _⟩ | ⟨g', cap', cur, hv, hg, hh, h4, h5, h6, h7⟩
  · cases h2
  · cases hv
    rw [List.length_append] at h4 h7
    refine .inr ⟨g, cap, cur, rfl, hg, hh, by omega, h5, h6, ?_⟩
    have h8 := congrArg (List.take (l1.length * sz)) h7
    rw [List.take_take, Nat.min_eq_left (Nat.mul_le_mul_right _ (Nat.le_add_right _ _)), List.flatMap_append, List.take_append_of_le_length (by rw [flatMap_len hc]; exact Nat.le_refl _), List.take_of_length_le (l := l1.flatMap cf) (by rw [flatMap_len hc]; exact Nat.le_refl _)] at h8
    exact h8
theorem compact_len (zs : List (List UInt8)) : (Lib.compact zs).length ≤ zs.length := by
  unfold Lib.compact Lib.compactUpTo
  rw [List.length_map]
  refine Nat.le_trans (List.length_filter_le _ _) ?_
  simp
theorem compact_row {w : World} {base : Nat} {e : TypeId} {v : Value} {l : List (List UInt8)} (h : RowOf kc 1 w base e v l) (hl : l.length ≤ 9223372036854775807) :
    Calls Try.prog 48 #[v] w fun ex w' => ∃ v', ex = .returned v' ∧ RowOf kc 1 w' base e v' (Lib.compact l) ∧ Chg v.ownBlock.toList w w' := by
  rcases h.2 with ⟨h2, h3⟩ | ⟨g, cap, cur, hv, hg, hh, h4, h5, h6, h7⟩
  · have hl0 := List.eq_nil_of_length_eq_zero h3
    subst hl0
    subst h2
    refine (Try.slices_Compact_string_empty none 0 w).mono ?_
    rintro ex w' ⟨rfl, rfl⟩
    exact ⟨_, rfl, h, Chg.refl _ _⟩
  · subst hv
    rw [flat_kc, Nat.mul_one] at h7
    have hcl := compact_len l
    refine (Try.slices_Compact_string g 0 cap l w (holds_of_block hh h7) hl h4).mono ?_
    rintro ex w' ⟨rfl, n, rfl⟩
    refine ⟨_, rfl, ?_, Chg.ofRow (v := .slice (some ⟨g, 0, none⟩) l.length cap) (grownBy_sorted (os := #[]) _)⟩
    have e1 : (Lib.compact l ++ List.replicate (l.length - (Lib.compact l).length) ([] : List UInt8)).length = l.length := by rw [List.length_append, List.length_replicate]; omega
    have := ownsRow_sorted (n := n) (os := #[]) (ts := Lib.compact l ++ List.replicate (l.length - (Lib.compact l).length) []) (ss := l) e1 hg hh h4 h5 h6
    refine RowOf.shrink kLen (l2 := List.replicate (l.length - (Lib.compact l).length) []) ?_
    unfold RowOf
    rw [flat_kc, e1]
    exact this
theorem sort_any {w : World} {base : Nat} {e : TypeId} {v : Value} {l : List (List UInt8)} (h : RowOf kc 1 w base e v l) (hl : l.length < 4611686018427387904) :
    Calls Try.prog 47 #[v] w fun ex w' => ex = .returned (.tuple #[]) ∧ RowOf kc 1 w' base e v (l.mergeSort leB) ∧ Chg v.ownBlock.toList w w' :=
  sort_row Try.slices_Sort_string Try.slices_Sort_string_none h hl
def wkL (tn : ByteArray) (l : List Pl) : List (List UInt8) := (l.filter (fun y => y.tn == tn)).map (fun y => bs y.wk)
def spreadN (l : List Pl) (tn : ByteArray) : Nat := (Lib.compact ((wkL tn l).mergeSort leB)).length
theorem stInfo : (Try.prog.info? 9).map (fun i => (i.zero, i.size, i.bytes)) = some (some (.string ⟨#[]⟩), 1, 16) := by kernel_rfl
theorem wkL_step (tn : ByteArray) (l : List Pl) (k : Nat) (h : k < l.length) : wkL tn (l.take (k + 1)) = wkL tn (l.take k) ++ (if (l[k].tn == tn) = true then [bs l[k].wk] else []) := by
  rw [List.take_succ_eq_append_getElem h]
  unfold wkL
  rw [List.filter_append, List.map_append]
  congr 1
  cases hq : l[k].tn == tn <;> simp [List.filter, hq]
theorem wkL_len (tn : ByteArray) (l : List Pl) : (wkL tn l).length ≤ l.length := by
  unfold wkL
  rw [List.length_map]
  exact List.length_filter_le _ _
set_option maxHeartbeats 8000000 in
set_option maxRecDepth 100000 in
theorem spread_any (a : Option Addr) (c : Nat) (l : List Pl) (tn : ByteArray) (w : World) (h : SlIs plC 4 w a l.length l) (hl : l.length ≤ 4000) :
    Calls Try.prog 25 #[.slice a l.length c, .string tn] w fun e w' => e = .returned (.int .i64 (spreadN l tn : Nat)) ∧ Chg [] w w' := by
  have H := Lib.hid h
  obtain ⟨N, hN⟩ : ∃ N, N = spreadN l tn := ⟨_, rfl⟩
  have HN := Lib.hid hN
  rw [← hN]
  clear h hN
  go_enter Try.func25, Try.ntmps25
  go_wp2_with fail
  go_loopw [5, 10] (fun u i wr => ∃ k : Nat, i = .int .i64 k ∧ k ≤ l.length ∧ Hid (RowOf kc 1 wr w.heap.size 9 u (wkL tn (l.take k))) ∧ Hid (Chg [] w wr)) (fun _ i _ => l.length - (intOf i).toNat)
  case atStart => exact ⟨0, rfl, Nat.zero_le _, Lib.hid (RowOf.nil _ _ _), Lib.hid (Chg.refl _ _)⟩
  case round =>
    obtain ⟨k, rfl, hkl, HR, D⟩ := hrel
    by_cases hk : k < l.length
    · obtain ⟨g1, o1, rfl, -, hbr1, hcc⟩ := H.out.elem D.out k hk
      have d0 := hcc 0 (by omega)
      have d1 := hcc 1 (by omega)
      have d2 := hcc 2 (by omega)
      have d3 := hcc 3 (by omega)
      have hst := wkL_step tn l k hk
      generalize l[k] = y at *
      simp only [plC, List.getElem?_cons_zero, List.getElem?_cons_succ, Nat.add_zero] at d0 d1 d2 d3
      have hk0 : (0 : Int) ≤ (k : Int) := by omega
      have hk1 : (k : Int) < (l.length : Int) := by omega
      have hll : (wkL tn (l.take k)).length ≤ 4000 := Nat.le_trans (wkL_len _ _) (by rw [List.length_take]; omega)
      have HLL := Lib.hid hll
      rw [beq_toListBytes] at hst
      clear hcc hll
      cases q1 : y.tn.toList == tn.toList
      case true =>
        rw [q1, if_pos rfl] at hst
        have HS := Lib.hid hst
        clear hst
        generalize wkL tn (l.take k) = L at *
        go_wp2_with (at_builtin; refine wpl_append rfl _ _ 62 rfl w.heap.size 9 _ 16 Try.underlying62 stInfo rfl (by decide) kLen kOne u5 L rfl (RowOf.kept HR.out (((Chg.refl [] _).alloc _).alloc _) (by simp)) (wr.heap.size + 1) _ (bs y.wk) _ _ _ rfl (by rw [← World.size_alloc wr]; exact heap_alloc_new _ _) rfl ?c1 ?c2 ?c3 ?_; rotate_left 3; intro v' w3 hrow3 hg3)
        case c1 => have := HLL.out; unfold maxLen; omega
        case c2 => have := HLL.out; omega
        case c3 => have := D.out.size; simp; omega
        refine ⟨⟨k + 1, by go_num, by omega, Lib.hid (by rw [HS.out]; exact hrow3), Lib.hid (((D.out.alloc _).alloc _).then (Chg.ofRow (v := u5) hg3) ?_)⟩, by simp [intOf]; omega⟩
        intro y hy hl
        have := (HR.out.block y (by simpa using hy)).1
        omega
      all_goals
        rw [q1, if_neg (by decide), List.append_nil] at hst
        have HS := Lib.hid hst
        clear hst
        go_wp2_with fail
        exact ⟨⟨k + 1, by go_num, by omega, Lib.hid (by rw [HS.out]; exact RowOf.kept HR.out ((Chg.refl [] _).alloc _) (by simp)), Lib.hid (D.out.alloc _)⟩, by simp [intOf]; omega⟩
    · have hks : k = l.length := by omega
      subst hks
      have hr := HR.out
      rw [List.take_length] at hr
      have HLen := Lib.hid (show (wkL tn l).length ≤ 4000 from Nat.le_trans (wkL_len _ _) hl)
      have A1 := Lib.hid (sort_any hr (by have := HLen.out; omega))
      have HR0 := Lib.hid hr
      clear hr HR
      go_wp2_with fail
      refine A1.out.mono ?_; rintro e w2 ⟨rfl, hr2, hc2⟩
      have A2 := Lib.hid (compact_row hr2 (by rw [List.length_mergeSort]; have := HLen.out; omega))
      have C2 := Lib.hid (D.out.then hc2 (by intro y hy hl; have := (HR0.out.block y (by simpa using hy)).1; omega))
      have HB := Lib.hid (fun y (hy : u5.ownBlock = some y) => (HR0.out.block y hy).1)
      clear hc2 hr2 A1
      go_wp2_with fail
      refine A2.out.mono ?_; rintro e w3 ⟨v', rfl, hr3, hc3⟩
      have C3 := Lib.hid (C2.out.then hc3 (by intro y hy hl; have := HB.out y (by simpa using hy); omega))
      obtain ⟨a', c', rfl⟩ := RowOf.shape hr3
      clear hc3 hr3 A2
      have HM : Hid (N = (Lib.compact ((wkL tn l).mergeSort leB)).length) := Lib.hid (by rw [HN.out]; rfl)
      generalize (Lib.compact ((wkL tn l).mergeSort leB)).length = M at *
      go_wp2_with fail
      go_ret
      exact ⟨by rw [HM.out]; rfl, C3.out⟩
end Go.Proofs.Ytjbnfaapkicejaa
