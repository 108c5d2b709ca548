/- Chapter 52: the reference's Sorted and Has; insertion is the sort. No condition. Chapter 52: plain laws for UsageAggregates. No condition. Chapter 52: the reference's Functions. No condition. -/
import Derived.Test.YtehjalgogjkdlaaGreatDoorZ21
import Derived.Test.YtehjalgogjkdlaaGreatDoorZ26
import Derived.Test.YtehjalgogjkdlaaGreatDoorZ25
namespace Go.Proofs.YtehjalgogjkdlaaGreatDoor
set_option linter.unusedVariables false
set_option linter.unusedSimpArgs false
open Go.RowKit
theorem toL (b : List UInt8) : (⟨b.toArray⟩ : ByteArray).toList = b := by rw [ByteArray.toList_eq]
theorem sInfo : (Tryz.prog.info? 9).map (fun i => (i.zero, i.size, i.bytes)) = some (some (.string ⟨#[]⟩), 1, 16) := by kernel_rfl
/-- One step of the reference's insertion. -/
def insS (out : List (List UInt8)) (x : List UInt8) : List (List UInt8) :=
  if out.dropWhile (fun y => decide (y < x)) = [] ∨ (out.dropWhile (fun y => decide (y < x))).head? ≠ some x then out.takeWhile (fun y => decide (y < x)) ++ x :: out.dropWhile (fun y => decide (y < x)) else out
def sortedS (l : List (List UInt8)) : List (List UInt8) := l.foldl insS []

theorem sElem : Tryz.prog.underlying 36 = some (.slice (Tryz.prog.elem 36)) := by kernel_rfl
theorem sSize (w : World) : (sizeOf (Tryz.prog.elem 36)).run Tryz.prog w = .ok 1 w := by kernel_rfl
theorem lessB (x y : List UInt8) : Op.bytesLess x y = decide (x < y) := bless_eq x y
theorem tw_take (p : List UInt8 → Bool) (O : List (List UInt8)) : O.takeWhile p = O.take (O.takeWhile p).length ∧ O.dropWhile p = O.drop (O.takeWhile p).length := by
  induction O with
  | nil => simp
  | cons y O ih =>
    by_cases hy : p y = true
    · simp only [List.takeWhile_cons, List.dropWhile_cons, hy, if_true, List.length_cons, List.take_succ_cons, List.drop_succ_cons]
      exact ⟨by rw [← ih.1], ih.2⟩
    · simp [hy]
theorem tw_lt (p : List UInt8 → Bool) (O : List (List UInt8)) {m : Nat} (hm : m ≤ (O.takeWhile p).length) (h : m < O.length) : m < (O.takeWhile p).length ↔ p O[m] = true := by
  induction O generalizing m with
  | nil => simp at h
  | cons y O ih =>
    by_cases hy : p y = true
    · simp only [List.takeWhile_cons, hy, if_true, List.length_cons] at hm ⊢
      cases m with
      | zero => simp [hy]
      | succ m => simpa using ih (by omega) (by simpa using h)
    · simp [hy] at hm ⊢
      subst hm
      simpa using hy
theorem ins_at {O : List (List UInt8)} {x : List UInt8} {m : Nat} (hm : m ≤ (O.takeWhile (fun y => decide (y < x))).length) (h : m = O.length ∨ ∃ h : m < O.length, Op.bytesLess O[m] x = false ∧ O[m] ≠ x) : insS O x = O.take m ++ x :: O.drop m := by
  have hle : (O.takeWhile (fun y => decide (y < x))).length ≤ O.length := (List.takeWhile_sublist _).length_le
  obtain ⟨h1, h2⟩ := tw_take (fun y => decide (y < x)) O
  have hT : (O.takeWhile (fun y => decide (y < x))).length = m := by
    rcases h with h | ⟨h, h3, _⟩
    · omega
    · have := tw_lt _ O hm h
      rw [lessB] at h3
      rw [h3] at this
      simp at this; omega
  rw [hT] at h1 h2
  unfold insS
  rw [if_pos, h1, h2]
  rw [h2]
  rcases h with h | ⟨h, _, h3⟩
  · left; subst h; simp
  · right; rw [List.head?_drop, List.getElem?_eq_getElem h]; simpa using h3
theorem ins_same {O : List (List UInt8)} {x : List UInt8} {m : Nat} (hm : m ≤ (O.takeWhile (fun y => decide (y < x))).length) (h : m < O.length) (hx : O[m] = x) : insS O x = O := by
  obtain ⟨h1, h2⟩ := tw_take (fun y => decide (y < x)) O
  have hT : (O.takeWhile (fun y => decide (y < x))).length = m := by
    have := tw_lt _ O hm h
    rw [hx] at this
    have hn : ¬ x < x := List.lt_irrefl x
    simp [hn] at this; omega
  rw [hT] at h2
  unfold insS
  rw [if_neg]
  rw [h2]
  simp only [List.drop_eq_nil_iff, List.head?_drop, List.getElem?_eq_getElem h, hx]
  simp; omega
theorem ins_step {O : List (List UInt8)} {x : List UInt8} {m : Nat} (hm : m ≤ (O.takeWhile (fun y => decide (y < x))).length) (h : m < O.length) (hx : Op.bytesLess O[m] x = true) : m + 1 ≤ (O.takeWhile (fun y => decide (y < x))).length := by
  have := tw_lt _ O hm h
  rw [lessB] at hx
  exact this.2 hx
theorem sorted_step (l : List (List UInt8)) (k : Nat) (hk : k < l.length) : sortedS (l.take (k + 1)) = insS (sortedS (l.take k)) l[k] := by
  unfold sortedS
  rw [List.take_succ_eq_append_getElem hk, List.foldl_append]; rfl

set_option maxHeartbeats 3200000 in
set_option maxRecDepth 100000 in
theorem sorted_any {w : World} {b1 : Nat} {v1 : Value} {l : List (List UInt8)} (h1 : RowOf kc 1 w b1 9 v1 l) (hl1 : l.length ≤ 4096) :
    Calls Tryz.prog 90 #[v1] w fun e w' => ∃ v, e = .returned v ∧ RowOf kc 1 w' w.heap.size 9 v (sortedS l) ∧ Chg [] w w' := by
  obtain ⟨a1, c1, hv1⟩ := RowOf.shape h1
  subst hv1
  have H1 := Lib.hid h1
  clear h1
  go_enter Tryz.func90, Tryz.ntmps90
  go_wp2_with fail
  go_loopw [3, 4] (fun o i wr => ∃ (k g c : Nat), i = .int .i64 k ∧ k ≤ l.length ∧ o = .slice (some ⟨g, 0, none⟩) (sortedS (l.take k)).length c ∧ RowOf kc 1 wr w.heap.size 9 (.slice (some ⟨g, 0, none⟩) (sortedS (l.take k)).length c) (sortedS (l.take k)) ∧ (sortedS (l.take k)).length ≤ k ∧ Chg [] w wr) (fun _ i _ => l.length - (intOf i).toNat)
  case atStart =>
    refine ⟨0, w.heap.size, 0, rfl, Nat.zero_le _, rfl, ?_, Nat.le_refl _, (Chg.refl _ _).alloc _⟩
    exact RowOf.empty (Nat.le_refl _) (heap_alloc_new _ _) rfl
  case round =>
    obtain ⟨k, g, c, rfl, hkl, rfl, hrow, hle, hch⟩ := hrel
    have Hst := Lib.hid (congrArg (fun z => sortedS z) (rfl : l.take (k + 1) = l.take (k + 1)))
    generalize hO : sortedS (l.take k) = O at *
    have HO := Lib.hid hO
    have Hrow := Lib.hid hrow
    have Hch := Lib.hid hch
    clear hO hrow hch
    by_cases hk : k < l.length
    · have hk0 : (0 : Int) ≤ (k : Int) := by omega
      have hk1 : (k : Int) < (l.length : Int) := by omega
      obtain ⟨x, hx⟩ : ∃ x, x = l[k] := ⟨_, rfl⟩
      have Hx := Lib.hid hx
      clear hx
      go_wp2_with fail
      go_loopw [5] (fun j wi => ∃ m : Nat, j = .int .i64 m ∧ m ≤ (O.takeWhile (fun y => decide (y < x))).length ∧ Chg [] w wi ∧ RowOf kc 1 wi w.heap.size 9 (.slice (some ⟨g, 0, none⟩) O.length c) O) (fun j _ => O.length - (intOf j).toNat)
      case atStart => exact ⟨0, rfl, Nat.zero_le _, Hch.out, Hrow.out⟩
      case round =>
        obtain ⟨m, rfl, hm, hchi, hri⟩ := hrel
        have Hchi := Lib.hid hchi
        have Hri := Lib.hid hri
        clear hchi hri
        have hTO : (O.takeWhile (fun y => decide (y < x))).length ≤ O.length := (List.takeWhile_sublist _).length_le
        rcases RowOf.at (RowOf.kept H1.out Hchi.out (by simp)) kLen with ⟨_, hl⟩ | ⟨g1, cp1, hv1, _, _, hcell1, _, _, hg1w⟩
        · rw [hl] at hk; simp at hk
        cases hv1
        have hoc : O.length ≤ c := by
          have hc := (RowOf.at Hri.out kLen).resolve_left (fun h => by cases h.1)
          obtain ⟨g5, c5, hv5, h5, _⟩ := hc
          cases hv5; exact h5
        have x1 := hcell1 k hk 0 (by omega)
        simp only [kc, List.getElem?_cons_zero, Nat.add_zero, Nat.mul_one, encStr] at x1
        rw [← Hx.out] at x1
        have tx := toL x
        clear hcell1
        have hm0 : (0 : Int) ≤ (m : Int) := by omega
        by_cases hmO : m < O.length
        · have hmO' : (m : Int) < (O.length : Int) := by omega
          have hmb : ((m : Int) == (O.length : Int)) = false := by simp; omega
          rcases RowOf.at Hri.out kLen with ⟨hh, _⟩ | ⟨g2, cp2, hv2, _, _, hcell2, _, _, _⟩
          · cases hh
          cases hv2
          have x2 := hcell2 m hmO 0 (by omega)
          simp only [kc, List.getElem?_cons_zero, Nat.add_zero, Nat.mul_one, encStr] at x2
          obtain ⟨y, hy⟩ : ∃ y, y = O[m] := ⟨_, rfl⟩
          rw [← hy] at x2
          have Hy := Lib.hid hy
          clear hy hcell2
          have ty := toL y
          go_wp2_with fail
          go_quiet (fail)
          go_wp2_with fail
          · have hbl : Op.bytesLess y x = true := by assumption
            have hs := ins_step hm hmO (by rw [← Hy.out]; exact hbl)
            refine ⟨⟨m + 1, by go_num, hs, Hchi.out.drewN nq, RowOf.kept Hri.out ((Chg.refl [] _).drewN nq) (by simp)⟩, by simp [intOf]; omega⟩
          · have hbl : Op.bytesLess y x = false := by assumption
            by_cases hyx : y = x
            · have hyb : (!y == x) = false := by simp [hyx]
              go_quiet (fail)
              go_wp2_with fail
              have hsame := ins_same hm hmO (by rw [← Hy.out]; exact hyx)
              have hlist : O = sortedS (l.take (k + 1)) := by rw [sorted_step l k hk, HO.out, ← Hx.out, hsame]
              refine ⟨⟨k + 1, g, c, by go_num, by omega, by rw [← hlist], ?_, by rw [← hlist]; omega, Hchi.out.drewN _⟩, by simp [intOf]; omega⟩
              rw [← hlist]; exact RowOf.kept Hri.out ((Chg.refl [] _).drewN _) (by simp)
            · have hyb : (!y == x) = true := by simp [hyx]
              go_quiet (fail)
              have hia : insS O x = O.take m ++ x :: O.drop m := ins_at hm (.inr ⟨hmO, by rw [← Hy.out]; exact hbl, by rw [← Hy.out]; exact hyx⟩)
              have hws : w.heap.size ≤ wr.heap.size := Hchi.out.size
              have hol : O.length ≤ 4096 := by omega
              have hmc : m ≤ c := by omega
              have hmle : m ≤ O.length := by omega
              have HA : Hid (∀ n : Nat, Chg [] wr ((wr.drewN n).alloc (.cells #[] 9))) := fun n => ((Chg.refl [] _).drewN n).alloc _
              have HC : Hid (∀ w' : World, Chg [] wr w' → ∀ q (hq : q < O.length), w'.cell? ⟨g, q, none⟩ = (kc O[q])[0]?) := by
                intro w' hw' q hq
                obtain ⟨g5, c5, hv5, _, _, h5, _⟩ := (RowOf.at (RowOf.kept Hri.out hw' (by simp)) kLen).resolve_left (fun h => by cases h.1)
                cases hv5
                simpa using h5 q hq 0 (by omega)
              have hown0 : ∀ y ∈ (Value.slice (some ⟨wr.heap.size, 0, none⟩) 0 0).ownBlock.toList, y = wr.heap.size := by intro y hy; simpa [Value.ownBlock, eq_comm] using hy
              have Hia := Lib.hid hia
              have Hss := Lib.hid (sorted_step l k hk)
              clear hia
              go_wp2_with (first
                | (refine wpl_slice_h rfl _ _ _ rfl sElem (sSize _) g 0 _ c m rfl rfl hmc ?_)
                | (refine wpl_slice_l rfl _ _ _ rfl sElem (sSize _) g 0 O.length c m rfl rfl hmle hoc ?_; intro off' hoff)
                | (at_builtin; refine wpl_appends rfl _ _ 36 rfl wr.heap.size 9 _ 16 Tryz.underlying36 sInfo rfl (by decide) kLen kOne _ [] rfl (RowOf.empty (g := wr.heap.size) (Nat.le_refl _) (heap_alloc_new _ _) rfl) g 0 _ m (O.take m) rfl ?c1 ?c2 ?c3 ?c4 ?c5 ?_; rotate_left 5; intro v2 w2 hrow2 hg2 hn2; have hch2 : Chg [] wr w2 := (HA.out _).then (Chg.ofRow hg2) (by intro y hy hl; have := hown0 y hy; omega); have y1 := (World.cell?_of_block (w := wr) (w' := w2) (a := ⟨g1, k, none⟩) (hch2.block g1 hg1w (by simp))).trans x1; have hs2 := hch2.size)
                | (at_builtin; (refine wpl_append rfl _ _ 36 rfl wr.heap.size 9 _ 16 Tryz.underlying36 sInfo rfl (by decide) kLen kOne v2 ([] ++ O.take m) rfl (RowOf.kept hrow2 ((Chg.refl [] _).alloc _) (by simp)) w2.heap.size _ x _ _ _ rfl (heap_alloc_new w2 _) rfl ?d1 ?d2 ?d3 ?_; rotate_left 3; intro v3 w3 hrow3 hg3; have hch3 : Chg [] wr w3 := (hch2.alloc _).then (Chg.ofRow (v := v2) hg3) (by intro y hy hl; have := (hrow2.block y (by simpa using hy)).1; omega); have hs3 := hch3.size))
                | (at_builtin; (refine wpl_appends rfl _ _ 36 rfl wr.heap.size 9 _ 16 Tryz.underlying36 sInfo rfl (by decide) kLen kOne v3 ([] ++ O.take m ++ [x]) rfl hrow3 g off' _ (O.length - m) (O.drop m) rfl ?e1 ?e2 ?e3 ?e4 ?e5 ?_; rotate_left 5; intro v4 w4 hrow4 hg4 hn4; have hch4 : Chg [] wr w4 := hch3.then (Chg.ofRow (v := v3) hg4) (by intro y hy hl; have := (hrow3.block y (by simpa using hy)).1; omega)))
                | fail)
              case c1 => simp; omega
              case c2 =>
                intro q hq j hj
                have hq' : q < m := by simp at hq; omega
                obtain rfl : j = 0 := by omega
                simp only [Nat.zero_add, Nat.mul_one, Nat.add_zero, List.getElem_take]
                exact HC.out _ (HA.out _) q (by omega)
              case c3 => simp; unfold maxLen; omega
              case c4 => simp; omega
              case c5 => exact (HA.out _).size
              case d1 => (try simp); unfold maxLen; omega
              case d2 => (try simp); omega
              case d3 => (try simp); omega
              case e2 =>
                intro q hq
                rcases hoff with hoff | hoff
                · have := HC.out _ hch3 (m + q) (by omega)
                  simp only [hoff, Nat.mul_one, Nat.zero_add]
                  exact this
                · omega
              case e3 => unfold maxLen; omega
              case e4 => omega
              obtain ⟨g6, c6, hv6, _⟩ := (RowOf.at hrow4 kLen).resolve_left (fun h => by simp at h)
              have hlist : [] ++ O.take m ++ [x] ++ O.drop m = sortedS (l.take (k + 1)) := by rw [Hss.out, HO.out, ← Hx.out, Hia.out]; simp
              have hll : (sortedS (l.take (k + 1))).length ≤ k + 1 := by rw [← hlist]; simp; omega
              rw [hlist] at hv6 hrow4
              subst hv6
              exact ⟨⟨k + 1, g6, c6, by go_num, by omega, rfl, hrow4.mono hws, hll, Hchi.out.thenSame hch4⟩, by simp [intOf]; omega⟩
        · have hmO' : (O.length : Int) ≤ (m : Int) := by omega
          have hmb : ((m : Int) == (O.length : Int)) = true := by simp; omega
          have hia : insS O x = O.take m ++ x :: O.drop m := ins_at hm (.inl (by omega))
          go_wp2_with fail
          go_quiet (fail)
          go_wp2_with fail
          go_quiet (fail)
          have hws : w.heap.size ≤ wr.heap.size := Hchi.out.size
          have hol : O.length ≤ 4096 := by omega
          have hmc : m ≤ c := by omega
          have hmle : m ≤ O.length := by omega
          have HA : Hid (∀ n : Nat, Chg [] wr ((wr.drewN n).alloc (.cells #[] 9))) := fun n => ((Chg.refl [] _).drewN n).alloc _
          have HC : Hid (∀ w' : World, Chg [] wr w' → ∀ q (hq : q < O.length), w'.cell? ⟨g, q, none⟩ = (kc O[q])[0]?) := by
            intro w' hw' q hq
            obtain ⟨g5, c5, hv5, _, _, h5, _⟩ := (RowOf.at (RowOf.kept Hri.out hw' (by simp)) kLen).resolve_left (fun h => by cases h.1)
            cases hv5
            simpa using h5 q hq 0 (by omega)
          have hown0 : ∀ y ∈ (Value.slice (some ⟨wr.heap.size, 0, none⟩) 0 0).ownBlock.toList, y = wr.heap.size := by intro y hy; simpa [Value.ownBlock, eq_comm] using hy
          have Hia := Lib.hid hia
          have Hss := Lib.hid (sorted_step l k hk)
          clear hia
          go_wp2_with (first
            | (refine wpl_slice_h rfl _ _ _ rfl sElem (sSize _) g 0 _ c m rfl rfl hmc ?_)
            | (refine wpl_slice_l rfl _ _ _ rfl sElem (sSize _) g 0 O.length c m rfl rfl hmle hoc ?_; intro off' hoff)
            | (at_builtin; refine wpl_appends rfl _ _ 36 rfl wr.heap.size 9 _ 16 Tryz.underlying36 sInfo rfl (by decide) kLen kOne _ [] rfl (RowOf.empty (g := wr.heap.size) (Nat.le_refl _) (heap_alloc_new _ _) rfl) g 0 _ m (O.take m) rfl ?c1 ?c2 ?c3 ?c4 ?c5 ?_; rotate_left 5; intro v2 w2 hrow2 hg2 hn2; have hch2 : Chg [] wr w2 := (HA.out _).then (Chg.ofRow hg2) (by intro y hy hl; have := hown0 y hy; omega); have y1 := (World.cell?_of_block (w := wr) (w' := w2) (a := ⟨g1, k, none⟩) (hch2.block g1 hg1w (by simp))).trans x1; have hs2 := hch2.size)
            | (at_builtin; (refine wpl_append rfl _ _ 36 rfl wr.heap.size 9 _ 16 Tryz.underlying36 sInfo rfl (by decide) kLen kOne v2 ([] ++ O.take m) rfl (RowOf.kept hrow2 ((Chg.refl [] _).alloc _) (by simp)) w2.heap.size _ x _ _ _ rfl (heap_alloc_new w2 _) rfl ?d1 ?d2 ?d3 ?_; rotate_left 3; intro v3 w3 hrow3 hg3; have hch3 : Chg [] wr w3 := (hch2.alloc _).then (Chg.ofRow (v := v2) hg3) (by intro y hy hl; have := (hrow2.block y (by simpa using hy)).1; omega); have hs3 := hch3.size))
            | (at_builtin; (refine wpl_appends rfl _ _ 36 rfl wr.heap.size 9 _ 16 Tryz.underlying36 sInfo rfl (by decide) kLen kOne v3 ([] ++ O.take m ++ [x]) rfl hrow3 g off' _ (O.length - m) (O.drop m) rfl ?ee1 ?ee2 ?ee3 ?ee4 ?ee5 ?_; rotate_left 5; intro v4 w4 hrow4 hg4 hn4; have hch4 : Chg [] wr w4 := hch3.then (Chg.ofRow (v := v3) hg4) (by intro y hy hl; have := (hrow3.block y (by simpa using hy)).1; omega)))
            | fail)
          case c1 => simp; omega
          case c2 =>
            intro q hq j hj
            have hq' : q < m := by simp at hq; omega
            obtain rfl : j = 0 := by omega
            simp only [Nat.zero_add, Nat.mul_one, Nat.add_zero, List.getElem_take]
            exact HC.out _ (HA.out _) q (by omega)
          case c3 => simp; unfold maxLen; omega
          case c4 => simp; omega
          case c5 => exact (HA.out _).size
          case d1 => (try simp); unfold maxLen; omega
          case d2 => (try simp); omega
          case d3 => (try simp); omega
          case ee2 =>
            intro q hq
            rcases hoff with hoff | hoff
            · have := HC.out _ hch3 (m + q) (by omega)
              simp only [hoff, Nat.mul_one, Nat.zero_add]
              exact this
            · omega
          case ee3 => unfold maxLen; omega
          case ee4 => omega
          obtain ⟨g6, c6, hv6, _⟩ := (RowOf.at hrow4 kLen).resolve_left (fun h => by simp at h)
          have hlist : [] ++ O.take m ++ [x] ++ O.drop m = sortedS (l.take (k + 1)) := by rw [Hss.out, HO.out, ← Hx.out, Hia.out]; simp
          have hll : (sortedS (l.take (k + 1))).length ≤ k + 1 := by rw [← hlist]; simp; omega
          rw [hlist] at hv6 hrow4
          subst hv6
          exact ⟨⟨k + 1, g6, c6, by go_num, by omega, rfl, hrow4.mono hws, hll, Hchi.out.thenSame hch4⟩, by simp [intOf]; omega⟩
    · go_wp2_with fail
      go_ret
      refine ⟨_, rfl, ?_, Hch.out⟩
      have := HO.out
      rw [List.take_of_length_le (by omega)] at this
      rw [this]; exact Hrow.out
/-! insertion is the sort -/
theorem lt_le {a b : List UInt8} (h : a < b) : a ≤ b := List.le_of_lt h
theorem nlt {a b : List UInt8} (h : ¬ a < b) (hn : a ≠ b) : b < a := by
  have h1 : b ≤ a := List.not_lt.1 h
  by_cases h2 : b < a
  · exact h2
  · exact absurd (List.le_antisymm (List.not_lt.1 h2) h1) hn

theorem ins_new {O : List (List UInt8)} {x : List UInt8} (hp : O.Pairwise (· < ·)) (hx : x ∉ O) : (insS O x).Pairwise (· < ·) ∧ (insS O x).Perm (x :: O) := by
  have hsplit : O.takeWhile (fun y => decide (y < x)) ++ O.dropWhile (fun y => decide (y < x)) = O := List.takeWhile_append_dropWhile
  have hA : ∀ y ∈ O.takeWhile (fun y => decide (y < x)), y < x := by
    intro y hy
    have := List.all_eq_true.1 (List.all_takeWhile (p := fun y => decide (y < x)) (l := O)) y hy
    simpa using this
  have hB : ∀ y ∈ O.dropWhile (fun y => decide (y < x)), x < y := by
    intro y hy
    have hpB : (O.dropWhile (fun y => decide (y < x))).Pairwise (· < ·) := List.Pairwise.sublist (List.dropWhile_sublist _) hp
    have hxB : x ∉ O.dropWhile (fun y => decide (y < x)) := fun h => hx ((List.dropWhile_sublist _).subset h)
    cases hD : O.dropWhile (fun y => decide (y < x)) with
    | nil => rw [hD] at hy; cases hy
    | cons z D =>
      have hz : ¬ z < x := by
        have := List.head_dropWhile_not (fun y => decide (y < x)) (l := O) (by rw [hD]; simp)
        simp only [hD, List.head_cons] at this
        simpa using this
      rw [hD] at hy hpB hxB
      have hzx : x < z := nlt hz (fun e => hxB (by rw [e]; exact List.mem_cons_self))
      rcases List.mem_cons.1 hy with rfl | hy'
      · exact hzx
      · exact List.lt_trans hzx ((List.pairwise_cons.1 hpB).1 y hy')
  have hins : insS O x = O.takeWhile (fun y => decide (y < x)) ++ x :: O.dropWhile (fun y => decide (y < x)) := by
    unfold insS
    rw [if_pos]
    cases hD : O.dropWhile (fun y => decide (y < x)) with
    | nil => exact .inl rfl
    | cons z D =>
      right
      intro e
      simp only [List.head?_cons, Option.some.injEq] at e
      subst e
      exact hx ((List.dropWhile_sublist _).subset (by rw [hD]; exact List.mem_cons_self))
  rw [hins]
  constructor
  · rw [← hsplit] at hp
    obtain ⟨p1, p2, p3⟩ := List.pairwise_append.1 hp
    refine List.pairwise_append.2 ⟨p1, List.pairwise_cons.2 ⟨hB, p2⟩, fun a ha b hb => ?_⟩
    rcases List.mem_cons.1 hb with rfl | hb'
    · exact hA a ha
    · exact p3 a ha b hb'
  · exact List.perm_middle.trans (by rw [hsplit])

theorem sorted_fold (l O : List (List UInt8)) (hp : O.Pairwise (· < ·)) (hd : (O ++ l).Nodup) : (l.foldl insS O).Pairwise (· < ·) ∧ (l.foldl insS O).Perm (O ++ l) := by
  induction l generalizing O with
  | nil => exact ⟨hp, by simp⟩
  | cons x l ih =>
    have hx : x ∉ O := by
      intro h
      have := (List.nodup_append.1 hd).2.2
      exact this x h x List.mem_cons_self rfl
    obtain ⟨h1, h2⟩ := ins_new hp hx
    have hpm : (insS O x ++ l).Perm (O ++ x :: l) := (h2.append_right l).trans (by
      rw [List.cons_append]; exact List.perm_middle.symm)
    obtain ⟨h3, h4⟩ := ih (insS O x) h1 (hpm.nodup_iff.2 hd)
    exact ⟨h3, h4.trans hpm⟩

theorem sorted_merge (l : List (List UInt8)) (hd : l.Nodup) : sortedS l = l.mergeSort leB := by
  obtain ⟨h1, h2⟩ := sorted_fold l [] List.Pairwise.nil (by simpa using hd)
  have tr : ∀ a b c : List UInt8, leB a b = true → leB b c = true → leB a c = true := fun a b c h1 h2 => by simp only [leB, decide_eq_true_eq] at *; exact List.le_trans h1 h2
  have to : ∀ a b : List UInt8, (leB a b || leB b a) = true := fun a b => by simp only [leB, Bool.or_eq_true, decide_eq_true_eq]; exact List.le_total a b
  refine List.Perm.eq_of_pairwise (le := fun a b => leB a b = true) (fun a b _ _ h1 h2 => ?_) (h1.imp fun h => ?_) (List.pairwise_mergeSort tr to l) ((show (sortedS l).Perm ([] ++ l) from h2).trans (List.mergeSort_perm l leB).symm)
  · simp only [leB, decide_eq_true_eq] at h1 h2
    exact List.le_antisymm h1 h2
  · simpa [leB] using lt_le h

set_option maxHeartbeats 4000000 in
set_option maxRecDepth 100000 in
theorem rhas_any (a : Option Addr) (c : Nat) (l : List (List UInt8)) (s : ByteArray) (w : World) (h : SlIs kc 1 w a l.length l) (hl : l.length ≤ 4096) : Calls Tryz.prog 89 #[.slice a l.length c, .string s] w fun e w' => e = .returned (.bool (l.contains (bs s))) ∧ Chg [] w w' := by
  have H := Lib.hid h
  obtain ⟨R, hR⟩ : ∃ R, R = l.contains (bs s) := ⟨_, rfl⟩
  rw [← hR]
  have HR := Lib.hid hR
  clear h hR
  go_enter Tryz.func89, Tryz.ntmps89
  go_wp2_with fail
  go_loopw [5] (fun i wr => ∃ k : Nat, i = .int .i64 k ∧ k ≤ l.length ∧ Hid ((l.take k).contains (bs s) = false) ∧ Hid (Chg [] w wr)) (fun i _ => l.length - (intOf i).toNat)
  case atStart => exact ⟨0, rfl, Nat.zero_le _, Lib.hid (by simp), Lib.hid (Chg.refl _ _)⟩
  case round =>
    obtain ⟨k, rfl, hkl, HA, D⟩ := hrel
    by_cases hk : k < l.length
    · obtain ⟨g1, o1, rfl, -, hbr1, hcc⟩ := H.out.elem D.out k hk
      have d1 := hcc 0 (by omega)
      simp only [kc, encStr, List.getElem?_cons_zero, Nat.add_zero, Nat.mul_one] at d1
      have hst := mem_step l (bs s) k hk
      rw [HA.out, Bool.false_or] at hst
      have hse := str_eq l[k] s
      have hyes : (l[k] == bs s) = true → R = true := fun h => by
        rw [HR.out, List.contains_iff_mem]
        have : l[k] = bs s := by simpa using h
        rw [← this]
        exact List.getElem_mem hk
      generalize l[k] = x at *
      obtain ⟨y, hy⟩ : ∃ y : ByteArray, y = ⟨x.toArray⟩ := ⟨_, rfl⟩
      rw [← hy] at d1 hse
      clear hy
      have hk0 : (0 : Int) ≤ (k : Int) := by omega
      have hk1 : (k : Int) < (l.length : Int) := by omega
      have HSt := Lib.hid hst
      clear hcc hst
      cases hq : x == bs s
      · rw [hq] at hse HSt
        have HS := Lib.hid HSt.out
        clear hyes hq HSt
        go_wp2_with fail
        exact ⟨⟨k + 1, by go_num, by omega, HS, D⟩, by simp [intOf]; omega⟩
      · rw [hq] at hse
        have HY := Lib.hid (hyes hq)
        clear hyes hq HSt
        go_wp2_with fail
        go_ret
        exact ⟨by rw [HY.out]; rfl, D.out⟩
    · have hks : k = l.length := by omega
      subst hks
      have HE : Hid (R = false) := Lib.hid (by rw [HR.out]; have := HA.out; rwa [List.take_length] at this)
      go_wp2_with fail
      go_ret
      exact ⟨by rw [HE.out]; rfl, D.out⟩
end Go.Proofs.YtehjalgogjkdlaaGreatDoor

namespace Go.Proofs.YtehjalgogjkdlaaGreatDoor
set_option linter.unusedVariables false
set_option linter.unusedSimpArgs false
open Go.RowKit
theorem by_ok (s : Led) (tn fn : ByteArray) (p : Int) (h : (byU s tn fn p).2.2 = 0) : (byU s tn fn p).1 = tot (ofB tn fn p false) s.l := by
  unfold byU at h ⊢
  split <;> rename_i h1
  · rw [if_pos h1] at h
    split <;> rename_i h2
    · rw [if_pos h2] at h
      split <;> rename_i h3
      · show (sumU (ofB tn fn p false) s.l zU).1 = _
        rw [sum_ok _ _ _ h2, zero_plus]
      · rw [if_neg h3] at h
        exact absurd h h3
    · rw [if_neg h2] at h
      exact absurd h h2
  · rw [if_neg h1] at h
    exact absurd h h1
theorem total_ok (s : Led) (tn : ByteArray) (p : Int) (h : (totU s tn p).2 = 0) : (totU s tn p).1 = tot (totB tn p) s.l := by
  unfold totU at h ⊢
  split <;> rename_i h1
  · rw [if_pos h1] at h
    rw [sum_ok _ _ _ h, zero_plus]
  · rw [if_neg h1] at h
    exact absurd h h1
def aggT (s : Led) (tn : ByteArray) (p : Int) (F : List (List UInt8)) : Us := F.foldl (fun u x => plusU u (tot (ofB tn ⟨x.toArray⟩ p false) s.l)) zU
theorem fold_sumF (g : List UInt8 → Us) : ∀ (F : List (List UInt8)) (x : Us), F.foldl (fun u s => plusU u (g s)) x = plusU x (sumF g F)
  | [], x => (plus_zero x).symm
  | s :: F, x => by
    rw [List.foldl_cons, fold_sumF g F, plus_assoc]
    rfl
theorem agg_total (s : Led) (tn : ByteArray) (p : Int) : aggT s tn p (fnsU s tn p) = tot (totB tn p) s.l := by
  obtain ⟨h1, h2⟩ := fns_facts s tn p
  unfold aggT
  rw [fold_sumF, zero_plus]
  refine tot_by tn p (fnsU s tn p) (nodup_lt h1) s.l (fun c hc hq => ?_)
  rw [h2]
  unfold fnL
  exact List.mem_map.2 ⟨c, List.mem_filter.2 ⟨hc, hq⟩, rfl⟩
theorem agg_step (s : Led) (tn : ByteArray) (p : Int) (F : List (List UInt8)) (k : Nat) (h : k < F.length) : aggT s tn p (F.take (k + 1)) = plusU (aggT s tn p (F.take k)) (tot (ofB tn ⟨F[k].toArray⟩ p false) s.l) := foldl_take _ _ _ _ h
/-- The records of a ledger have been checked. -/
def LOk (s : Led) : Prop := ∀ c ∈ s.l, nameB c.r.fn = true
theorem step_ok (s : Led) (x : OpU) (h : LOk s) : LOk (stepU s x) := by
  unfold stepU
  split
  · unfold recS
    split
    · rename_i hc
      split
      · exact h
      · split
        · exact h
        · intro c hc'
          simp only [List.mem_append, List.mem_singleton] at hc'
          rcases hc' with hc' | rfl
          · exact h c hc'
          · show nameB x.r.fn = true
            unfold checkR at hc
            split at hc
            · rename_i hn
              simp only [Bool.and_eq_true] at hn
              exact hn.2
            · simp at hc
    · exact h
  · split
    · intro c hc
      rw [(close_grow s x.p).1] at hc
      exact h c hc
    · exact h
theorem play_ok : ∀ (l : List OpU) (s : Led), LOk s → LOk (l.foldl stepU s)
  | [], _, h => h
  | x :: l, s, h => play_ok l _ (step_ok s x h)
theorem fns_size (s : Led) (h : LOk s) (tn : ByteArray) (p : Int) : ∀ x ∈ fnsU s tn p, x.length ≤ 24 := by
  intro x hx
  rw [(fns_facts s tn p).2] at hx
  unfold fnL at hx
  obtain ⟨c, hc, rfl⟩ := List.mem_map.1 hx
  have := h c (List.mem_filter.1 hc).1
  unfold nameB at this
  simp only [Bool.and_eq_true, decide_eq_true_eq] at this
  have h2 := this.2
  show c.r.fn.data.toList.length ≤ 24
  rw [Array.length_toList]
  exact h2
theorem fns_len (s : Led) (tn : ByteArray) (p : Int) : (fnsU s tn p).length ≤ s.l.length := by
  unfold fnsU
  refine Nat.le_trans (compact_len _) ?_
  rw [List.length_mergeSort]
  exact fnL_len _ _ _
end Go.Proofs.YtehjalgogjkdlaaGreatDoor

namespace Go.Proofs.YtehjalgogjkdlaaGreatDoor
set_option linter.unusedVariables false
set_option linter.unusedSimpArgs false
open Go.RowKit
variable {w w' : World} {b : Nat} {v : Value} {s : Led}
def rfF (tn : ByteArray) (p : Int) (out : List (List UInt8)) (c : CR) : List (List UInt8) := if (inB tn p c && !out.contains (bs c.r.fn)) = true then sortedS (out ++ [bs c.r.fn]) else out
theorem rf_step (tn : ByteArray) (p : Int) (out : List (List UInt8)) (c : CR) (h : out.Pairwise (· < ·)) : (rfF tn p out c).Pairwise (· < ·) ∧ (∀ x, x ∈ rfF tn p out c ↔ x ∈ out ∨ (inB tn p c = true ∧ x = bs c.r.fn)) ∧ (rfF tn p out c).length ≤ out.length + 1 := by
  unfold rfF
  by_cases hq : (inB tn p c && !out.contains (bs c.r.fn)) = true
  · rw [if_pos hq]
    simp only [Bool.and_eq_true, Bool.not_eq_true'] at hq
    have hn : bs c.r.fn ∉ out := fun hm => by
      rw [List.contains_iff_mem.2 hm] at hq; cases hq.2
    have hd : (out ++ [bs c.r.fn]).Nodup := List.nodup_append.2 ⟨nodup_lt h, by simp, fun a ha b hb => by simp at hb; subst hb; rintro rfl; exact hn ha⟩
    obtain ⟨h1, h2⟩ := sorted_fold (out ++ [bs c.r.fn]) [] List.Pairwise.nil (by simpa using hd)
    refine ⟨h1, fun x => ?_, ?_⟩
    · have := h2.mem_iff (a := x)
      unfold sortedS
      rw [this]
      simp [hq.1]
    · have := h2.length_eq
      unfold sortedS
      rw [this]
      simp
  · rw [if_neg hq]
    refine ⟨h, fun x => ⟨.inl, fun hx => hx.elim id fun ⟨h1, h2⟩ => ?_⟩, by omega⟩
    subst h2
    rw [h1] at hq
    simp only [Bool.true_and, Bool.not_eq_true', Bool.not_eq_false] at hq
    exact List.contains_iff_mem.1 hq
theorem rf_facts (tn : ByteArray) (p : Int) : ∀ (l : List CR) (out : List (List UInt8)), out.Pairwise (· < ·) → (l.foldl (rfF tn p) out).Pairwise (· < ·) ∧ (∀ x, x ∈ l.foldl (rfF tn p) out ↔ x ∈ out ∨ x ∈ fnL tn p l) ∧ (l.foldl (rfF tn p) out).length ≤ out.length + l.length
  | [], out, h => ⟨h, fun x => by simp [fnL], by simp⟩
  | c :: l, out, h => by
    obtain ⟨h1, h2, h3⟩ := rf_step tn p out c h
    obtain ⟨k1, k2, k3⟩ := rf_facts tn p l (rfF tn p out c) h1
    refine ⟨k1, fun x => ?_, ?_⟩
    · rw [List.foldl_cons, k2, h2]
      unfold fnL
      rw [List.filter_cons]
      cases hq : inB tn p c
      · simp
      · simp only [if_true, List.map_cons, List.mem_cons, true_and, or_assoc]
    · rw [List.foldl_cons, List.length_cons]; omega
theorem rf_eq (s : Led) (tn : ByteArray) (p : Int) : s.l.foldl (rfF tn p) [] = fnsU s tn p := by
  obtain ⟨h1, h2, _⟩ := rf_facts tn p s.l [] List.Pairwise.nil
  obtain ⟨k1, k2⟩ := fns_facts s tn p
  refine List.Perm.eq_of_pairwise (le := fun a b => leB a b = true) (fun a b _ _ h1 h2 => ?_) (h1.imp fun h => ?_) (k1.imp fun h => ?_) ((List.perm_ext_iff_of_nodup (nodup_lt h1) (nodup_lt k1)).2 fun x => ?_)
  · simp only [leB, decide_eq_true_eq] at h1 h2
    exact List.le_antisymm h1 h2
  · simpa [leB] using lt_le h
  · simpa [leB] using lt_le h
  · rw [h2, k2]; simp
set_option maxHeartbeats 16000000 in
set_option maxRecDepth 100000 in
theorem rfuncs_any (tn : ByteArray) (p : Int) (h : RIs w b v s) (hl : s.l.length ≤ 60) :
    Calls Tryz.prog 53 #[.pointer (some ⟨b, 0, none⟩), .string tn, .int .i64 p] w fun e w' => ∃ v', e = .returned v' ∧ RowOf kc 1 w' w.heap.size 9 v' (fnsU s tn p) ∧ Chg [] w w' := by
  obtain ⟨a, cap, rfl⟩ := RowOf.shape h.2
  have H := Lib.hid h
  have hL := fun w' (hc : Chg [] w w') => blk_cell (h.keptN hc).1
  have HL := Lib.hid hL
  have hcell : ∀ wr, Chg [] w wr → ∀ k (hk : k < s.l.length), ∃ g, a = some ⟨g, 0, none⟩ ∧ g < w.heap.size ∧ ∀ j, j < 10 → wr.cell? ⟨g, k * 10 + j, none⟩ = (crC s.l[k])[j]? := by
    intro wr hc k hk
    rcases RowOf.at (h.keptN hc).2 crLen with ⟨_, hl⟩ | ⟨g, cap', hv, _, _, hcell, _, _, hgl⟩
    · rw [hl] at hk; simp at hk
    · cases hv
      exact ⟨g, rfl, (h.2.block g rfl).2, fun j hj => hcell k hk j hj⟩
  have HCell := Lib.hid hcell
  have HEq := Lib.hid (rf_eq s tn p)
  clear h hL hcell
  go_enter Tryz.func53, Tryz.ntmps53
  go_wp2_with fail
  go_loopw [7, 8] (fun u i wr => ∃ (k : Nat) (out : List (List UInt8)), i = .int .i64 k ∧ k ≤ s.l.length ∧ Hid (out = (s.l.take k).foldl (rfF tn p) []) ∧ Hid (out.Pairwise (· < ·)) ∧ Hid (out.length ≤ k) ∧ Hid (RowOf kc 1 wr w.heap.size 9 u out) ∧ Hid (Chg [] w wr)) (fun _ i _ => s.l.length - (intOf i).toNat)
  case atStart => exact ⟨0, [], rfl, Nat.zero_le _, Lib.hid rfl, Lib.hid List.Pairwise.nil, Lib.hid (Nat.le_refl _), Lib.hid (RowOf.nil _ _ _), Lib.hid (Chg.refl _ _)⟩
  case round =>
    obtain ⟨k, out, rfl, hkl, HO, HPw, HLn, R, D⟩ := hrel
    have cb := HL.out wr D.out
    by_cases hk : k < s.l.length
    · obtain ⟨g, rfl, hgl, hcells⟩ := HCell.out wr D.out k hk
      have d0 := hcells 0 (by omega)
      have d1 := hcells 1 (by omega)
      have d2 := hcells 2 (by omega)
      have d3 := hcells 3 (by omega)
      have d4 := hcells 4 (by omega)
      have d5 := hcells 5 (by omega)
      have d6 := hcells 6 (by omega)
      have d7 := hcells 7 (by omega)
      have d8 := hcells 8 (by omega)
      have d9 := hcells 9 (by omega)
      have hst := foldl_take (rfF tn p) [] s.l k hk
      rw [← HO.out] at hst
      generalize s.l[k] = c at *
      obtain ⟨s1, s2, s3⟩ := rf_step tn p out c HPw.out
      have HS1 := Lib.hid s1
      have HS3 := Lib.hid (show (rfF tn p out c).length ≤ k + 1 by have := HLn.out; omega)
      have HST := Lib.hid hst
      simp only [crC, List.getElem?_cons_zero, List.getElem?_cons_succ, Nat.add_zero] at d0 d1 d2 d3 d4 d5 d6 d7 d8 d9
      have hk0 : (0 : Int) ≤ (k : Int) := by omega
      have hk1 : (k : Int) < (s.l.length : Int) := by omega
      have hrf : rfF tn p out c = if ((c.r.tn.toList == tn.toList && c.p == p) && !out.contains (bs c.r.fn)) = true then sortedS (out ++ [bs c.r.fn]) else out := by
        unfold rfF inB; rw [beq_toListBytes c.r.tn]
      have HRF := Lib.hid hrf
      generalize rfF tn p out c = out' at *
      obtain ⟨a1, c1, rfl⟩ := RowOf.shape R.out
      have hc3 : Chg [] wr (wr.alloc (enO c)) := (Chg.refl _ _).alloc _
      have C3 := Lib.hid (D.out.thenSame hc3)
      have R3 := Lib.hid (R.out.kept hc3 (by simp))
      have Z3 := Lib.hid (heap_alloc_new wr (enO c))
      have z3 := blk_cell Z3.out
      have hl60 : out.length ≤ 60 := by have := HLn.out; omega
      have A1 := rhas_any a1 c1 out c.r.fn _ (RowOf.sl R3.out kLen).1 (by omega)
      unfold enO at C3 R3 Z3 z3 A1
      clear hcells hst s1 s2 s3 hrf hc3
      cases q1 : c.r.tn.toList == tn.toList
      case false =>
        have HE : Hid (out' = out) := Lib.hid (by rw [HRF.out, q1]; rfl)
        clear A1 z3 hl60
        go_wp2_with fail
        exact ⟨⟨k + 1, out, by go_num, by omega, Lib.hid (by rw [HST.out, HE.out]), HPw, Lib.hid (by have := HLn.out; omega), R3, C3⟩, by simp [intOf]; omega⟩
      cases q2 : c.p == p
      case false =>
        have HE : Hid (out' = out) := Lib.hid (by rw [HRF.out, q1, q2]; rfl)
        clear A1 z3 hl60
        go_wp2_with fail
        exact ⟨⟨k + 1, out, by go_num, by omega, Lib.hid (by rw [HST.out, HE.out]), HPw, Lib.hid (by have := HLn.out; omega), R3, C3⟩, by simp [intOf]; omega⟩
      cases q3 : out.contains (bs c.r.fn)
      case true =>
        have HE : Hid (out' = out) := Lib.hid (by rw [HRF.out, q1, q2, q3]; rfl)
        rw [q3] at A1
        have HA1 := Lib.hid A1
        clear A1 z3 hl60
        go_wp2_with fail
        refine HA1.out.mono ?_; rintro e w4 ⟨rfl, hc4⟩
        have R4 := Lib.hid (R3.out.kept hc4 (by simp))
        have C4 := Lib.hid (C3.out.thenSame hc4)
        clear hc4
        go_wp2_with fail
        exact ⟨⟨k + 1, out, by go_num, by omega, Lib.hid (by rw [HST.out, HE.out]), HPw, Lib.hid (by have := HLn.out; omega), R4, C4⟩, by simp [intOf]; omega⟩
      case false =>
        have HE : Hid (out' = sortedS (out ++ [bs c.r.fn])) := Lib.hid (by rw [HRF.out, q1, q2, q3]; rfl)
        rw [q3] at A1
        have HA1 := Lib.hid A1
        have HL60 := Lib.hid hl60
        clear A1 z3 hl60
        go_wp2_with fail
        refine HA1.out.mono ?_; rintro e w4 ⟨rfl, hc4⟩
        have R4 := Lib.hid (R3.out.kept hc4 (by simp))
        have C4 := Lib.hid (C3.out.thenSame hc4)
        have Z4 := Lib.hid (hc4.at (by simp) Z3.out)
        have z4 := blk_cell Z4.out
        clear hc4 HA1
        go_wp2_with (at_builtin; refine wpl_append rfl _ _ 36 rfl w.heap.size 9 _ 16 Tryz.underlying36 sInfo rfl (by decide) kLen kOne (.slice a1 out.length c1) out rfl (RowOf.kept R4.out ((Chg.refl [] _).alloc _) (by simp)) w4.heap.size _ (bs c.r.fn) _ _ _ rfl (heap_alloc_new w4 _) (by simp [kc, enc_bs]) (by have := HL60.out; unfold maxLen; omega) (by have := HL60.out; omega) (by have := C4.out.size; simp; omega) ?_; intro v5 w5 hr5 hg5; have R5 := Lib.hid hr5; have C5 := Lib.hid ((C4.out.alloc _).then (Chg.ofRow (v := .slice a1 out.length c1) hg5) (by intro y hy hl; have := (R4.out.block y (by simpa using hy)).1; omega)); clear hr5 hg5)
        refine (sorted_any R5.out (by rw [List.length_append]; have := HL60.out; simp; omega)).mono ?_; rintro e w6 ⟨v6, rfl, hr6, hc6⟩
        have R6 := Lib.hid (hr6.mono C5.out.size)
        have C6 := Lib.hid (C5.out.thenSame hc6)
        clear hr6 hc6
        go_wp2_with fail
        exact ⟨⟨k + 1, out', by go_num, by omega, Lib.hid HST.out.symm, HS1, HS3, Lib.hid (by rw [HE.out]; exact R6.out), C6⟩, by simp [intOf]; omega⟩
    · have hks : k = s.l.length := by omega
      subst hks
      have hO := HO.out
      rw [List.take_length, HEq.out] at hO
      subst hO
      go_wp2_with fail
      go_ret
      exact ⟨_, rfl, R.out, D.out⟩
end Go.Proofs.YtehjalgogjkdlaaGreatDoor
