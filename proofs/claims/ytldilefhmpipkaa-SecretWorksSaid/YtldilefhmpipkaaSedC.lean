/- Chapter 22: contracts of the reference: the longest text at an offset. No condition. -/
import Derived.Test.YtldilefhmpipkaaSedB
namespace Go.Proofs.Ytldilefhmpipkaa
set_option linter.unusedVariables false
set_option linter.unusedSimpArgs false
open Go.RowKit

def rtexts (L : List R0) : List Bs := L.flatMap fun x => [byt x.text, byt x.prev]
/-- How the loop takes a text into account. -/
theorem up_cases (s a : ByteArray) (at_ n : Nat) (hat : at_ ≤ s.size) (hn : n ≤ s.size - at_) : (a.size ≤ n ∧ up ((byt s).drop at_) (byt a) n = n) ∨
    (n < a.size ∧ s.size - at_ < a.size ∧ up ((byt s).drop at_) (byt a) n = n) ∨
    (n < a.size ∧ a.size ≤ s.size - at_ ∧ ((s.extract at_ (at_ + a.size)).toList == a.toList) = true ∧ up ((byt s).drop at_) (byt a) n = a.size) ∨
    (n < a.size ∧ a.size ≤ s.size - at_ ∧ ((s.extract at_ (at_ + a.size)).toList == a.toList) = false ∧ up ((byt s).drop at_) (byt a) n = n) := by
  have hb : byt (s.extract at_ (at_ + a.size)) = ((byt s).drop at_).take a.size := by
    unfold byt
    rw [ByteArray.data_extract, Array.toList_extract, List.extract_eq_take_drop]
    congr 1; omega
  have hl : (byt a).length = a.size := byt_len a
  have hd : ((byt s).drop at_).length = s.size - at_ := by rw [List.length_drop, byt_len]
  have hp : byt a <+: (byt s).drop at_ ↔ s.extract at_ (at_ + a.size) = a := by
    rw [List.prefix_iff_eq_take, hl, ← hb]
    exact ⟨fun h => (bs_inj h).symm, fun h => by rw [h]⟩
  by_cases h1 : a.size ≤ n
  · refine .inl ⟨h1, ?_⟩
    unfold up; split
    · rw [hl]; omega
    · rfl
  · by_cases h2 : s.size - at_ < a.size
    · refine .inr (.inl ⟨by omega, h2, ?_⟩)
      unfold up; split
      · rename_i h
        have := (List.isPrefixOf_iff_prefix.1 h).length_le
        omega
      · rfl
    · by_cases h3 : s.extract at_ (at_ + a.size) = a
      · refine .inr (.inr (.inl ⟨by omega, by omega, by rw [h3]; simp, ?_⟩))
        unfold up
        rw [if_pos (List.isPrefixOf_iff_prefix.2 (hp.2 h3)), hl]; omega
      · refine .inr (.inr (.inr ⟨by omega, by omega, bne_bytes h3, ?_⟩))
        unfold up
        rw [if_neg (fun h => h3 (hp.1 (List.isPrefixOf_iff_prefix.1 h)))]
theorem longest_snoc2 (ts : List Bs) (a b s : Bs) : longest (ts ++ [a, b]) s = up s b (up s a (longest ts s)) := by
  rw [longest_app]; rfl

set_option maxHeartbeats 16000000 in
set_option maxRecDepth 100000 in
theorem rlong_any (rb : Nat) (sv : Value) (l : List RSec) (s : ByteArray) (at_ : Nat) (w : World) (h : RVIs w rb sv l) (hl : l.length ≤ 4096) (hat : at_ ≤ s.size) (hs : s.size ≤ 4096) : Calls Try.prog 39 #[.pointer (some ⟨rb, 0, none⟩), .string s, .int .i64 at_] w fun e w' => e = .returned (.int .i64 (longest (rtexts (l.map RSec.s)) ((byt s).drop at_) : Nat)) ∧ Chg [] w w' := by
  obtain ⟨N, hN⟩ : ∃ N, N = longest (rtexts (l.map RSec.s)) ((byt s).drop at_) := ⟨_, rfl⟩
  rw [← hN]
  have HN := Lib.hid hN
  have H := Lib.hid h
  have cr := blk_cell h.1
  clear hN
  have hsrc := RowOf.src h.2.1 rsLen
  have Hsrc := Lib.hid hsrc
  rcases hsrc with ⟨rfl, rfl⟩ | ⟨g, off, c, rfl, h2, h3, h4, h5⟩
  · have E1 : Hid (N = 0) := Lib.hid (by rw [HN.out]; rfl)
    clear h Hsrc
    go_enter Try.func39, Try.ntmps39
    go_wp2_with fail
    go_loop [7, 16] (fun n i => i = .int .i64 0 ∧ n = .int .i64 0) (fun _ _ => 0)
    case atStart => exact ⟨rfl, rfl⟩
    case round =>
      obtain ⟨rfl, rfl⟩ := hrel
      go_wp2_with fail
      go_ret
      exact ⟨by rw [E1.out]; rfl, Chg.refl _ _⟩
  · have Hcell := Lib.hid (show ∀ w', Chg [] w w' → ∀ p (hp : p < l.length) j, j < 8 → w'.cell? ⟨g, off + (p * 8 + j), none⟩ = (rsCells l[p])[j]? from fun w' hc => by
      rcases Hsrc.out.kept hc with ⟨h, _⟩ | ⟨g', off', c', h, _, _, _, k5⟩
      · cases h
      · cases h; exact k5)
    have Hup := Lib.hid (fun (a : ByteArray) (n : Nat) (hn : n ≤ s.size - at_) => up_cases s a at_ n hat hn)
    have Hle := Lib.hid (fun (a : ByteArray) (n : Nat) (hn : n ≤ s.size - at_) => show up ((byt s).drop at_) (byt a) n ≤ s.size - at_ from by
      have := up_le ((byt s).drop at_) (byt a) (n := n) (by rw [List.length_drop, byt_len]; exact hn)
      rw [List.length_drop, byt_len] at this; exact this)
    clear h5 h h4 Hsrc
    go_enter Try.func39, Try.ntmps39
    go_wp2_with fail
    clear cr
    go_loopw [7, 16] (fun n i wr => ∃ k m : Nat, Chg [] w wr ∧ i = .int .i64 k ∧ n = .int .i64 m ∧ k ≤ l.length ∧ m ≤ s.size - at_ ∧ Hid (m = longest (rtexts ((l.map RSec.s).take k)) ((byt s).drop at_))) (fun _ i _ => l.length - (intOf i).toNat)
    case atStart => exact ⟨0, 0, Chg.refl _ _, rfl, rfl, Nat.zero_le _, Nat.zero_le _, Lib.hid rfl⟩
    case round =>
      obtain ⟨k, m, hch, rfl, rfl, hkl, hml, Hm⟩ := hrel
      have HC := Lib.hid hch
      have cr := blk_cell (H.out.keptN hch).1
      have hcell := Hcell.out _ hch
      clear hch
      by_cases hk : k < l.length
      · have c1 := hcell k hk 1 (by omega)
        have c2 := hcell k hk 2 (by omega)
        simp only [rsCells, List.getElem?_cons_zero, List.getElem?_cons_succ] at c1 c2
        have d1 := c1
        have d2 := c2
        rw [← Nat.add_assoc] at d1 d2
        clear hcell
        have hk0 : (0 : Int) ≤ (k : Int) := by omega
        have hk1 : (k : Int) < (l.length : Int) := by omega
        have Hst : Hid (up ((byt s).drop at_) (byt l[k].s.prev) (up ((byt s).drop at_) (byt l[k].s.text) m) = longest (rtexts ((l.map RSec.s).take (k + 1))) ((byt s).drop at_)) := Lib.hid (by
          have hg : (l.map RSec.s)[k]? = some l[k].s := by rw [List.getElem?_map, List.getElem?_eq_getElem hk]; rfl
          rw [Hm.out, List.take_add_one, hg]
          show _ = longest (rtexts ((l.map RSec.s).take k ++ [l[k].s])) _
          unfold rtexts
          rw [List.flatMap_append]
          exact (longest_snoc2 _ _ _ _).symm)
        generalize l[k].s.text = a at *
        generalize l[k].s.prev = b at *
        have hle1 := Hle.out a m hml
        have hcs1 := Hup.out a m hml
        have hle2 := Hle.out b _ hle1
        have hcs2 := Hup.out b _ hle1
        generalize up ((byt s).drop at_) (byt a) m = m1 at *
        generalize up ((byt s).drop at_) (byt b) m1 = m2 at *
        have H2 := Lib.hid hcs2
        clear hcs2
        rcases hcs1 with ⟨x1, rfl⟩ | ⟨x1, x2, rfl⟩ | ⟨x1, x2, x3, rfl⟩ | ⟨x1, x2, x3, rfl⟩
        all_goals
          rcases H2.out with ⟨y1, rfl⟩ | ⟨y1, y2, rfl⟩ | ⟨y1, y2, y3, rfl⟩ | ⟨y1, y2, y3, rfl⟩
          all_goals
            clear H2
            go_wp2_with fail
            go_quiet (fail)
            go_wp2_with fail
            exact ⟨⟨k + 1, _, HC.out.drewN _, by go_num, rfl, by omega, by omega, Hst⟩, by simp [intOf]; omega⟩
      · have E : Hid (N = m) := Lib.hid (by rw [HN.out, Hm.out, List.take_of_length_le (by rw [List.length_map]; omega)])
        have hkl2 : k = l.length := by omega
        subst hkl2
        go_wp2_with fail
        go_ret
        exact ⟨by rw [E.out]; rfl, HC.out⟩
end Go.Proofs.Ytldilefhmpipkaa
