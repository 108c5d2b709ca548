/- Chapter 52: the reference's Sorted and Has; insertion is the sort. No condition. -/
import Derived.Test.YtfnnnflfikmekaaUsf
import Derived.Test.YtfnnnflfikmekaaUpC
namespace Go.Proofs.Ytfnnnflfikmekaa
set_option linter.unusedVariables false
set_option linter.unusedSimpArgs false
open Go.RowKit
theorem toL (b : List UInt8) : (⟨b.toArray⟩ : ByteArray).toList = b := by rw [ByteArray.toList_eq]
theorem sInfo : (Try.prog.info? 9).map (fun i => (i.zero, i.size, i.bytes)) = some (some (.string ⟨#[]⟩), 1, 16) := by kernel_rfl
/-- One step of the reference's insertion. -/
def insS (out : List (List UInt8)) (x : List UInt8) : List (List UInt8) :=
  if out.dropWhile (fun y => decide (y < x)) = [] ∨ (out.dropWhile (fun y => decide (y < x))).head? ≠ some x then out.takeWhile (fun y => decide (y < x)) ++ x :: out.dropWhile (fun y => decide (y < x)) else out
def sortedS (l : List (List UInt8)) : List (List UInt8) := l.foldl insS []

theorem sElem : Try.prog.underlying 40 = some (.slice (Try.prog.elem 40)) := by kernel_rfl
theorem sSize (w : World) : (sizeOf (Try.prog.elem 40)).run Try.prog w = .ok 1 w := by kernel_rfl
theorem lessB (x y : List UInt8) : Op.bytesLess x y = decide (x < y) := bless_eq x y
theorem tw_take (p : List UInt8 → Bool) (O : List (List UInt8)) : O.takeWhile p = O.take (O.takeWhile p).length ∧ O.dropWhile p = O.drop (O.takeWhile p).length := by
  induction O with
  | nil => simp
  | cons y O ih =>
    by_cases hy : p y = true
    · simp only [List.takeWhile_cons, List.dropWhile_cons, hy, if_true, List.length_cons, List.take_succ_cons, List.drop_succ_cons]
      exact ⟨by rw [← ih.1], ih.2⟩
    · simp [hy]
theorem tw_lt (p : List UInt8 → Bool) (O : List (List UInt8)) {m : Nat} (hm : m ≤ (O.takeWhile p).length) (h : m < O.length) : m < (O.takeWhile p).length ↔ p O[m] = true := by
  induction O generalizing m with
  | nil => simp at h
  | cons y O ih =>
    by_cases hy : p y = true
    · simp only [List.takeWhile_cons, hy, if_true, List.length_cons] at hm ⊢
      cases m with
      | zero => simp [hy]
      | succ m => simpa using ih (by omega) (by simpa using h)
    · simp [hy] at hm ⊢
      subst hm
      simpa using hy
theorem ins_at {O : List (List UInt8)} {x : List UInt8} {m : Nat} (hm : m ≤ (O.takeWhile (fun y => decide (y < x))).length) (h : m = O.length ∨ ∃ h : m < O.length, Op.bytesLess O[m] x = false ∧ O[m] ≠ x) : insS O x = O.take m ++ x :: O.drop m := by
  have hle : (O.takeWhile (fun y => decide (y < x))).length ≤ O.length := (List.takeWhile_sublist _).length_le
  obtain ⟨h1, h2⟩ := tw_take (fun y => decide (y < x)) O
  have hT : (O.takeWhile (fun y => decide (y < x))).length = m := by
    rcases h with h | ⟨h, h3, _⟩
    · omega
    · have := tw_lt _ O hm h
      rw [lessB] at h3
      rw [h3] at this
      simp at this; omega
  rw [hT] at h1 h2
  unfold insS
  rw [if_pos, h1, h2]
  rw [h2]
  rcases h with h | ⟨h, _, h3⟩
  · left; subst h; simp
  · right; rw [List.head?_drop, List.getElem?_eq_getElem h]; simpa using h3
theorem ins_same {O : List (List UInt8)} {x : List UInt8} {m : Nat} (hm : m ≤ (O.takeWhile (fun y => decide (y < x))).length) (h : m < O.length) (hx : O[m] = x) : insS O x = O := by
  obtain ⟨h1, h2⟩ := tw_take (fun y => decide (y < x)) O
  have hT : (O.takeWhile (fun y => decide (y < x))).length = m := by
    have := tw_lt _ O hm h
    rw [hx] at this
    have hn : ¬ x < x := List.lt_irrefl x
    simp [hn] at this; omega
  rw [hT] at h2
  unfold insS
  rw [if_neg]
  rw [h2]
  simp only [List.drop_eq_nil_iff, List.head?_drop, List.getElem?_eq_getElem h, hx]
  simp; omega
theorem ins_step {O : List (List UInt8)} {x : List UInt8} {m : Nat} (hm : m ≤ (O.takeWhile (fun y => decide (y < x))).length) (h : m < O.length) (hx : Op.bytesLess O[m] x = true) : m + 1 ≤ (O.takeWhile (fun y => decide (y < x))).length := by
  have := tw_lt _ O hm h
  rw [lessB] at hx
  exact this.2 hx
theorem sorted_step (l : List (List UInt8)) (k : Nat) (hk : k < l.length) : sortedS (l.take (k + 1)) = insS (sortedS (l.take k)) l[k] := by
  unfold sortedS
  rw [List.take_succ_eq_append_getElem hk, List.foldl_append]; rfl

set_option maxHeartbeats 3200000 in
set_option maxRecDepth 100000 in
theorem sorted_any {w : World} {b1 : Nat} {v1 : Value} {l : List (List UInt8)} (h1 : RowOf kc 1 w b1 9 v1 l) (hl1 : l.length ≤ 4096) :
    Calls Try.prog 47 #[v1] w fun e w' => ∃ v, e = .returned v ∧ RowOf kc 1 w' w.heap.size 9 v (sortedS l) ∧ Chg [] w w' := by
  obtain ⟨a1, c1, hv1⟩ := RowOf.shape h1
  subst hv1
  have H1 := Lib.hid h1
  clear h1
  go_enter Try.func47, Try.ntmps47
  go_wp2_with fail
  go_loopw [3, 4] (fun o i wr => ∃ (k g c : Nat), i = .int .i64 k ∧ k ≤ l.length ∧ o = .slice (some ⟨g, 0, none⟩) (sortedS (l.take k)).length c ∧ RowOf kc 1 wr w.heap.size 9 (.slice (some ⟨g, 0, none⟩) (sortedS (l.take k)).length c) (sortedS (l.take k)) ∧ (sortedS (l.take k)).length ≤ k ∧ Chg [] w wr) (fun _ i _ => l.length - (intOf i).toNat)
  case atStart =>
    refine ⟨0, w.heap.size, 0, rfl, Nat.zero_le _, rfl, ?_, Nat.le_refl _, (Chg.refl _ _).alloc _⟩
    exact RowOf.empty (Nat.le_refl _) (heap_alloc_new _ _) rfl
  case round =>
    obtain ⟨k, g, c, rfl, hkl, rfl, hrow, hle, hch⟩ := hrel
    have Hst := Lib.hid (congrArg (fun z => sortedS z) (rfl : l.take (k + 1) = l.take (k + 1)))
    generalize hO : sortedS (l.take k) = O at *
    have HO := Lib.hid hO
    have Hrow := Lib.hid hrow
    have Hch := Lib.hid hch
    clear hO hrow hch
    by_cases hk : k < l.length
    · have hk0 : (0 : Int) ≤ (k : Int) := by omega
      have hk1 : (k : Int) < (l.length : Int) := by omega
      obtain ⟨x, hx⟩ : ∃ x, x = l[k] := ⟨_, rfl⟩
      have Hx := Lib.hid hx
      clear hx
      go_wp2_with fail
      go_loopw [5] (fun j wi => ∃ m : Nat, j = .int .i64 m ∧ m ≤ (O.takeWhile (fun y => decide (y < x))).length ∧ Chg [] w wi ∧ RowOf kc 1 wi w.heap.size 9 (.slice (some ⟨g, 0, none⟩) O.length c) O) (fun j _ => O.length - (intOf j).toNat)
      case atStart => exact ⟨0, rfl, Nat.zero_le _, Hch.out, Hrow.out⟩
      case round =>
        obtain ⟨m, rfl, hm, hchi, hri⟩ := hrel
        have Hchi := Lib.hid hchi
        have Hri := Lib.hid hri
        clear hchi hri
        have hTO : (O.takeWhile (fun y => decide (y < x))).length ≤ O.length := (List.takeWhile_sublist _).length_le
        rcases RowOf.at (RowOf.kept H1.out Hchi.out (by simp)) kLen with ⟨_, hl⟩ | ⟨g1, cp1, hv1, _, _, hcell1, _, _, hg1w⟩
        · rw [hl] at hk; simp at hk
        cases hv1
        have hoc : O.length ≤ c := by
          have hc := (RowOf.at Hri.out kLen).resolve_left (fun h => by cases h.1)
          obtain ⟨g5, c5, hv5, h5, _⟩ := hc
          cases hv5; exact h5
        have x1 := hcell1 k hk 0 (by omega)
        simp only [kc, List.getElem?_cons_zero, Nat.add_zero, Nat.mul_one, encStr] at x1
        rw [← Hx.out] at x1
        have tx := toL x
        clear hcell1
        have hm0 : (0 : Int) ≤ (m : Int) := by omega
        by_cases hmO : m < O.length
        · have hmO' : (m : Int) < (O.length : Int) := by omega
          have hmb : ((m : Int) == (O.length : Int)) = false := by simp; omega
          rcases RowOf.at Hri.out kLen with ⟨hh, _⟩ | ⟨g2, cp2, hv2, _, _, hcell2, _, _, _⟩
          · cases hh
          cases hv2
          have x2 := hcell2 m hmO 0 (by omega)
          simp only [kc, List.getElem?_cons_zero, Nat.add_zero, Nat.mul_one, encStr] at x2
          obtain ⟨y, hy⟩ : ∃ y, y = O[m] := ⟨_, rfl⟩
          rw [← hy] at x2
          have Hy := Lib.hid hy
          clear hy hcell2
          have ty := toL y
          go_wp2_with fail
          go_quiet (fail)
          go_wp2_with fail
          · have hbl : Op.bytesLess y x = true := by assumption
            have hs := ins_step hm hmO (by rw [← Hy.out]; exact hbl)
            refine ⟨⟨m + 1, by go_num, hs, Hchi.out.drewN nq, RowOf.kept Hri.out ((Chg.refl [] _).drewN nq) (by simp)⟩, by simp [intOf]; omega⟩
          · have hbl : Op.bytesLess y x = false := by assumption
            by_cases hyx : y = x
            · have hyb : (!y == x) = false := by simp [hyx]
              go_quiet (fail)
              go_wp2_with fail
              have hsame := ins_same hm hmO (by rw [← Hy.out]; exact hyx)
              have hlist : O = sortedS (l.take (k + 1)) := by rw [sorted_step l k hk, HO.out, ← Hx.out, hsame]
              refine ⟨⟨k + 1, g, c, by go_num, by omega, by rw [← hlist], ?_, by rw [← hlist]; omega, Hchi.out.drewN _⟩, by simp [intOf]; omega⟩
              rw [← hlist]; exact RowOf.kept Hri.out ((Chg.refl [] _).drewN _) (by simp)
            · have hyb : (!y == x) = true := by simp [hyx]
              go_quiet (fail)
              have hia : insS O x = O.take m ++ x :: O.drop m := ins_at hm (.inr ⟨hmO, by rw [← Hy.out]; exact hbl, by rw [← Hy.out]; exact hyx⟩)
              have hws : w.heap.size ≤ wr.heap.size := Hchi.out.size
              have hol : O.length ≤ 4096 := by omega
              have hmc : m ≤ c := by omega
              have hmle : m ≤ O.length := by omega
              have HA : Hid (∀ n : Nat, Chg [] wr ((wr.drewN n).alloc (.cells #[] 9))) := fun n => ((Chg.refl [] _).drewN n).alloc _
              have HC : Hid (∀ w' : World, Chg [] wr w' → ∀ q (hq : q < O.length), w'.cell? ⟨g, q, none⟩ = (kc O[q])[0]?) := by
                intro w' hw' q hq
                obtain ⟨g5, c5, hv5, _, _, h5, _⟩ := (RowOf.at (RowOf.kept Hri.out hw' (by simp)) kLen).resolve_left (fun h => by cases h.1)
                cases hv5
                simpa using h5 q hq 0 (by omega)
              have hown0 : ∀ y ∈ (Value.slice (some ⟨wr.heap.size, 0, none⟩) 0 0).ownBlock.toList, y = wr.heap.size := by intro y hy; simpa [Value.ownBlock, eq_comm] using hy
              have Hia := Lib.hid hia
              have Hss := Lib.hid (sorted_step l k hk)
              clear hia
              go_wp2_with (first
                | (refine wpl_slice_h rfl _ _ _ rfl sElem (sSize _) g 0 _ c m rfl rfl hmc ?_)
                | (refine wpl_slice_l rfl _ _ _ rfl sElem (sSize _) g 0 O.length c m rfl rfl hmle hoc ?_; intro off' hoff)
                | (at_builtin; refine wpl_appends rfl _ _ 40 rfl wr.heap.size 9 _ 16 Try.underlying40 sInfo rfl (by decide) kLen kOne _ [] rfl (RowOf.empty (g := wr.heap.size) (Nat.le_refl _) (heap_alloc_new _ _) rfl) g 0 _ m (O.take m) rfl ?c1 ?c2 ?c3 ?c4 ?c5 ?_; rotate_left 5; intro v2 w2 hrow2 hg2 hn2; have hch2 : Chg [] wr w2 := (HA.out _).then (Chg.ofRow hg2) (by intro y hy hl; have := hown0 y hy; omega); have y1 := (World.cell?_of_block (w := wr) (w' := w2) (a := ⟨g1, k, none⟩) (hch2.block g1 hg1w (by simp))).trans x1; have hs2 := hch2.size)
                | (at_builtin; (refine wpl_append rfl _ _ 40 rfl wr.heap.size 9 _ 16 Try.underlying40 sInfo rfl (by decide) kLen kOne v2 ([] ++ O.take m) rfl (RowOf.kept hrow2 ((Chg.refl [] _).alloc _) (by simp)) w2.heap.size _ x _ _ _ rfl (heap_alloc_new w2 _) rfl ?d1 ?d2 ?d3 ?_; rotate_left 3; intro v3 w3 hrow3 hg3; have hch3 : Chg [] wr w3 := (hch2.alloc _).then (Chg.ofRow (v := v2) hg3) (by intro y hy hl; have := (hrow2.block y (by simpa using hy)).1; omega); have hs3 := hch3.size))
                | (at_builtin; (refine wpl_appends rfl _ _ 40 rfl wr.heap.size 9 _ 16 Try.underlying40 sInfo rfl (by decide) kLen kOne v3 ([] ++ O.take m ++ [x]) rfl hrow3 g off' _ (O.length - m) (O.drop m) rfl ?e1 ?e2 ?e3 ?e4 ?e5 ?_; rotate_left 5; intro v4 w4 hrow4 hg4 hn4; have hch4 : Chg [] wr w4 := hch3.then (Chg.ofRow (v := v3) hg4) (by intro y hy hl; have := (hrow3.block y (by simpa using hy)).1; omega)))
                | fail)
              case c1 => simp; omega
              case c2 =>
                intro q hq j hj
                have hq' : q < m := by simp at hq; omega
                obtain rfl : j = 0 := by omega
                simp only [Nat.zero_add, Nat.mul_one, Nat.add_zero, List.getElem_take]
                exact HC.out _ (HA.out _) q (by omega)
              case c3 => simp; unfold maxLen; omega
              case c4 => simp; omega
              case c5 => exact (HA.out _).size
              case d1 => (try simp); unfold maxLen; omega
              case d2 => (try simp); omega
              case d3 => (try simp); omega
              case e2 =>
                intro q hq
                rcases hoff with hoff | hoff
                · have := HC.out _ hch3 (m + q) (by omega)
                  simp only [hoff, Nat.mul_one, Nat.zero_add]
                  exact this
                · omega
              case e3 => unfold maxLen; omega
              case e4 => omega
              obtain ⟨g6, c6, hv6, _⟩ := (RowOf.at hrow4 kLen).resolve_left (fun h => by simp at h)
              have hlist : [] ++ O.take m ++ [x] ++ O.drop m = sortedS (l.take (k + 1)) := by rw [Hss.out, HO.out, ← Hx.out, Hia.out]; simp
              have hll : (sortedS (l.take (k + 1))).length ≤ k + 1 := by rw [← hlist]; simp; omega
              rw [hlist] at hv6 hrow4
              subst hv6
              exact ⟨⟨k + 1, g6, c6, by go_num, by omega, rfl, hrow4.mono hws, hll, Hchi.out.thenSame hch4⟩, by simp [intOf]; omega⟩
        · have hmO' : (O.length : Int) ≤ (m : Int) := by omega
          have hmb : ((m : Int) == (O.length : Int)) = true := by simp; omega
          have hia : insS O x = O.take m ++ x :: O.drop m := ins_at hm (.inl (by omega))
          go_wp2_with fail
          go_quiet (fail)
          go_wp2_with fail
          go_quiet (fail)
          have hws : w.heap.size ≤ wr.heap.size := Hchi.out.size
          have hol : O.length ≤ 4096 := by omega
          have hmc : m ≤ c := by omega
          have hmle : m ≤ O.length := by omega
          have HA : Hid (∀ n : Nat, Chg [] wr ((wr.drewN n).alloc (.cells #[] 9))) := fun n => ((Chg.refl [] _).drewN n).alloc _
          have HC : Hid (∀ w' : World, Chg [] wr w' → ∀ q (hq : q < O.length), w'.cell? ⟨g, q, none⟩ = (kc O[q])[0]?) := by
            intro w' hw' q hq
            obtain ⟨g5, c5, hv5, _, _, h5, _⟩ := (RowOf.at (RowOf.kept Hri.out hw' (by simp)) kLen).resolve_left (fun h => by cases h.1)
            cases hv5
            simpa using h5 q hq 0 (by omega)
          have hown0 : ∀ y ∈ (Value.slice (some ⟨wr.heap.size, 0, none⟩) 0 0).ownBlock.toList, y = wr.heap.size := by intro y hy; simpa [Value.ownBlock, eq_comm] using hy
          have Hia := Lib.hid hia
          have Hss := Lib.hid (sorted_step l k hk)
          clear hia
          go_wp2_with (first
            | (refine wpl_slice_h rfl _ _ _ rfl sElem (sSize _) g 0 _ c m rfl rfl hmc ?_)
            | (refine wpl_slice_l rfl _ _ _ rfl sElem (sSize _) g 0 O.length c m rfl rfl hmle hoc ?_; intro off' hoff)
            | (at_builtin; refine wpl_appends rfl _ _ 40 rfl wr.heap.size 9 _ 16 Try.underlying40 sInfo rfl (by decide) kLen kOne _ [] rfl (RowOf.empty (g := wr.heap.size) (Nat.le_refl _) (heap_alloc_new _ _) rfl) g 0 _ m (O.take m) rfl ?c1 ?c2 ?c3 ?c4 ?c5 ?_; rotate_left 5; intro v2 w2 hrow2 hg2 hn2; have hch2 : Chg [] wr w2 := (HA.out _).then (Chg.ofRow hg2) (by intro y hy hl; have := hown0 y hy; omega); have y1 := (World.cell?_of_block (w := wr) (w' := w2) (a := ⟨g1, k, none⟩) (hch2.block g1 hg1w (by simp))).trans x1; have hs2 := hch2.size)
            | (at_builtin; (refine wpl_append rfl _ _ 40 rfl wr.heap.size 9 _ 16 Try.underlying40 sInfo rfl (by decide) kLen kOne v2 ([] ++ O.take m) rfl (RowOf.kept hrow2 ((Chg.refl [] _).alloc _) (by simp)) w2.heap.size _ x _ _ _ rfl (heap_alloc_new w2 _) rfl ?d1 ?d2 ?d3 ?_; rotate_left 3; intro v3 w3 hrow3 hg3; have hch3 : Chg [] wr w3 := (hch2.alloc _).then (Chg.ofRow (v := v2) hg3) (by intro y hy hl; have := (hrow2.block y (by simpa using hy)).1; omega); have hs3 := hch3.size))
            | (at_builtin; (refine wpl_appends rfl _ _ 40 rfl wr.heap.size 9 _ 16 Try.underlying40 sInfo rfl (by decide) kLen kOne v3 ([] ++ O.take m ++ [x]) rfl hrow3 g off' _ (O.length - m) (O.drop m) rfl ?ee1 ?ee2 ?ee3 ?ee4 ?ee5 ?_; rotate_left 5; intro v4 w4 hrow4 hg4 hn4; have hch4 : Chg [] wr w4 := hch3.then (Chg.ofRow (v := v3) hg4) (by intro y hy hl; have := (hrow3.block y (by simpa using hy)).1; omega)))
            | fail)
          case c1 => simp; omega
          case c2 =>
            intro q hq j hj
            have hq' : q < m := by simp at hq; omega
            obtain rfl : j = 0 := by omega
            simp only [Nat.zero_add, Nat.mul_one, Nat.add_zero, List.getElem_take]
            exact HC.out _ (HA.out _) q (by omega)
          case c3 => simp; unfold maxLen; omega
          case c4 => simp; omega
          case c5 => exact (HA.out _).size
          case d1 => (try simp); unfold maxLen; omega
          case d2 => (try simp); omega
          case d3 => (try simp); omega
          case ee2 =>
            intro q hq
            rcases hoff with hoff | hoff
            · have := HC.out _ hch3 (m + q) (by omega)
              simp only [hoff, Nat.mul_one, Nat.zero_add]
              exact this
            · omega
          case ee3 => unfold maxLen; omega
          case ee4 => omega
          obtain ⟨g6, c6, hv6, _⟩ := (RowOf.at hrow4 kLen).resolve_left (fun h => by simp at h)
          have hlist : [] ++ O.take m ++ [x] ++ O.drop m = sortedS (l.take (k + 1)) := by rw [Hss.out, HO.out, ← Hx.out, Hia.out]; simp
          have hll : (sortedS (l.take (k + 1))).length ≤ k + 1 := by rw [← hlist]; simp; omega
          rw [hlist] at hv6 hrow4
          subst hv6
          exact ⟨⟨k + 1, g6, c6, by go_num, by omega, rfl, hrow4.mono hws, hll, Hchi.out.thenSame hch4⟩, by simp [intOf]; omega⟩
    · go_wp2_with fail
      go_ret
      refine ⟨_, rfl, ?_, Hch.out⟩
      have := HO.out
      rw [List.take_of_length_le (by omega)] at this
      rw [this]; exact Hrow.out
/-! insertion is the sort -/
theorem lt_le {a b : List UInt8} (h : a < b) : a ≤ b := List.le_of_lt h
theorem nlt {a b : List UInt8} (h : ¬ a < b) (hn : a ≠ b) : b < a := by
  have h1 : b ≤ a := List.not_lt.1 h
  by_cases h2 : b < a
  · exact h2
  · exact absurd (List.le_antisymm (List.not_lt.1 h2) h1) hn

theorem ins_new {O : List (List UInt8)} {x : List UInt8} (hp : O.Pairwise (· < ·)) (hx : x ∉ O) : (insS O x).Pairwise (· < ·) ∧ (insS O x).Perm (x :: O) := by
  have hsplit : O.takeWhile (fun y => decide (y < x)) ++ O.dropWhile (fun y => decide (y < x)) = O := List.takeWhile_append_dropWhile
  have hA : ∀ y ∈ O.takeWhile (fun y => decide (y < x)), y < x := by
    intro y hy
    have := List.all_eq_true.1 (List.all_takeWhile (p := fun y => decide (y < x)) (l := O)) y hy
    simpa using this
  have hB : ∀ y ∈ O.dropWhile (fun y => decide (y < x)), x < y := by
    intro y hy
    have hpB : (O.dropWhile (fun y => decide (y < x))).Pairwise (· < ·) := List.Pairwise.sublist (List.dropWhile_sublist _) hp
    have hxB : x ∉ O.dropWhile (fun y => decide (y < x)) := fun h => hx ((List.dropWhile_sublist _).subset h)
    cases hD : O.dropWhile (fun y => decide (y < x)) with
    | nil => rw [hD] at hy; cases hy
    | cons z D =>
      have hz : ¬ z < x := by
        have := List.head_dropWhile_not (fun y => decide (y < x)) (l := O) (by rw [hD]; simp)
        simp only [hD, List.head_cons] at this
        simpa using this
      rw [hD] at hy hpB hxB
      have hzx : x < z := nlt hz (fun e => hxB (by rw [e]; exact List.mem_cons_self))
      rcases List.mem_cons.1 hy with rfl | hy'
      · exact hzx
      · exact List.lt_trans hzx ((List.pairwise_cons.1 hpB).1 y hy')
  have hins : insS O x = O.takeWhile (fun y => decide (y < x)) ++ x :: O.dropWhile (fun y => decide (y < x)) := by
    unfold insS
    rw [if_pos]
    cases hD : O.dropWhile (fun y => decide (y < x)) with
    | nil => exact .inl rfl
    | cons z D =>
      right
      intro e
      simp only [List.head?_cons, Option.some.injEq] at e
      subst e
      exact hx ((List.dropWhile_sublist _).subset (by rw [hD]; exact List.mem_cons_self))
  rw [hins]
  constructor
  · rw [← hsplit] at hp
    obtain ⟨p1, p2, p3⟩ := List.pairwise_append.1 hp
    refine List.pairwise_append.2 ⟨p1, List.pairwise_cons.2 ⟨hB, p2⟩, fun a ha b hb => ?_⟩
    rcases List.mem_cons.1 hb with rfl | hb'
    · exact hA a ha
    · exact p3 a ha b hb'
  · exact List.perm_middle.trans (by rw [hsplit])

theorem sorted_fold (l O : List (List UInt8)) (hp : O.Pairwise (· < ·)) (hd : (O ++ l).Nodup) : (l.foldl insS O).Pairwise (· < ·) ∧ (l.foldl insS O).Perm (O ++ l) := by
  induction l generalizing O with
  | nil => exact ⟨hp, by simp⟩
  | cons x l ih =>
    have hx : x ∉ O := by
      intro h
      have := (List.nodup_append.1 hd).2.2
      exact this x h x List.mem_cons_self rfl
    obtain ⟨h1, h2⟩ := ins_new hp hx
    have hpm : (insS O x ++ l).Perm (O ++ x :: l) := (h2.append_right l).trans (by
      rw [List.cons_append]; exact List.perm_middle.symm)
    obtain ⟨h3, h4⟩ := ih (insS O x) h1 (hpm.nodup_iff.2 hd)
    exact ⟨h3, h4.trans hpm⟩

theorem sorted_merge (l : List (List UInt8)) (hd : l.Nodup) : sortedS l = l.mergeSort leB := by
  obtain ⟨h1, h2⟩ := sorted_fold l [] List.Pairwise.nil (by simpa using hd)
  have tr : ∀ a b c : List UInt8, leB a b = true → leB b c = true → leB a c = true := fun a b c h1 h2 => by simp only [leB, decide_eq_true_eq] at *; exact List.le_trans h1 h2
  have to : ∀ a b : List UInt8, (leB a b || leB b a) = true := fun a b => by simp only [leB, Bool.or_eq_true, decide_eq_true_eq]; exact List.le_total a b
  refine List.Perm.eq_of_pairwise (le := fun a b => leB a b = true) (fun a b _ _ h1 h2 => ?_) (h1.imp fun h => ?_) (List.pairwise_mergeSort tr to l) ((show (sortedS l).Perm ([] ++ l) from h2).trans (List.mergeSort_perm l leB).symm)
  · simp only [leB, decide_eq_true_eq] at h1 h2
    exact List.le_antisymm h1 h2
  · simpa [leB] using lt_le h

set_option maxHeartbeats 4000000 in
set_option maxRecDepth 100000 in
theorem rhas_any (a : Option Addr) (c : Nat) (l : List (List UInt8)) (s : ByteArray) (w : World) (h : SlIs kc 1 w a l.length l) (hl : l.length ≤ 4096) : Calls Try.prog 46 #[.slice a l.length c, .string s] w fun e w' => e = .returned (.bool (l.contains (bs s))) ∧ Chg [] w w' := by
  have H := Lib.hid h
  obtain ⟨R, hR⟩ : ∃ R, R = l.contains (bs s) := ⟨_, rfl⟩
  rw [← hR]
  have HR := Lib.hid hR
  clear h hR
  go_enter Try.func46, Try.ntmps46
  go_wp2_with fail
  go_loopw [5] (fun i wr => ∃ k : Nat, i = .int .i64 k ∧ k ≤ l.length ∧ Hid ((l.take k).contains (bs s) = false) ∧ Hid (Chg [] w wr)) (fun i _ => l.length - (intOf i).toNat)
  case atStart => exact ⟨0, rfl, Nat.zero_le _, Lib.hid (by simp), Lib.hid (Chg.refl _ _)⟩
  case round =>
    obtain ⟨k, rfl, hkl, HA, D⟩ := hrel
    by_cases hk : k < l.length
    · obtain ⟨g1, o1, rfl, -, hbr1, hcc⟩ := H.out.elem D.out k hk
      have d1 := hcc 0 (by omega)
      simp only [kc, encStr, List.getElem?_cons_zero, Nat.add_zero, Nat.mul_one] at d1
      have hst := mem_step l (bs s) k hk
      rw [HA.out, Bool.false_or] at hst
      have hse := str_eq l[k] s
      have hyes : (l[k] == bs s) = true → R = true := fun h => by
        rw [HR.out, List.contains_iff_mem]
        have : l[k] = bs s := by simpa using h
        rw [← this]
        exact List.getElem_mem hk
      generalize l[k] = x at *
      obtain ⟨y, hy⟩ : ∃ y : ByteArray, y = ⟨x.toArray⟩ := ⟨_, rfl⟩
      rw [← hy] at d1 hse
      clear hy
      have hk0 : (0 : Int) ≤ (k : Int) := by omega
      have hk1 : (k : Int) < (l.length : Int) := by omega
      have HSt := Lib.hid hst
      clear hcc hst
      cases hq : x == bs s
      · rw [hq] at hse HSt
        have HS := Lib.hid HSt.out
        clear hyes hq HSt
        go_wp2_with fail
        exact ⟨⟨k + 1, by go_num, by omega, HS, D⟩, by simp [intOf]; omega⟩
      · rw [hq] at hse
        have HY := Lib.hid (hyes hq)
        clear hyes hq HSt
        go_wp2_with fail
        go_ret
        exact ⟨by rw [HY.out]; rfl, D.out⟩
    · have hks : k = l.length := by omega
      subst hks
      have HE : Hid (R = false) := Lib.hid (by rw [HR.out]; have := HA.out; rwa [List.take_length] at this)
      go_wp2_with fail
      go_ret
      exact ⟨by rw [HE.out]; rfl, D.out⟩
end Go.Proofs.Ytfnnnflfikmekaa
