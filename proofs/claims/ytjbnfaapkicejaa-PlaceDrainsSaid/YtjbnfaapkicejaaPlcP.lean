/- Chapter 43: contracts: slices.Grow of nil, slices.Concat of two lists. No condition. -/
import Derived.Lib.AppendZerosOnto
import Derived.Test.YtjbnfaapkicejaaPlcM
namespace Go.Proofs.Ytjbnfaapkicejaa
set_option linter.unusedVariables false
set_option linter.unusedSimpArgs false
open Go.RowKit
set_option maxHeartbeats 4000000 in
set_option maxRecDepth 100000 in
theorem grow_any (n : Nat) (hn : n ≤ 8192) (w : World) : Calls Try.prog 65 #[.slice none 0 0, .int .i64 (n : Int)] w fun e w' => ∃ v, e = .returned v ∧ RowOf plC 4 w' w.heap.size 25 v [] ∧ Chg [] w w' := by
  by_cases h0 : n = 0
  · subst h0
    go_enter Try.func65, Try.ntmps65
    go_wp2_with fail
    go_ret
    exact ⟨.slice none 0 0, rfl, RowOf.nil _ _ _, Chg.refl _ _⟩
  · obtain ⟨i0, hi0, hz0, hz1, hz2⟩ := info_parts plInfo
    have hrz : ∀ ty, (Builtin.append_ #[23, 3] ty #[.slice none 0 0, .int .i64 (n : Int)]).run Try.prog w =
        .ok (.slice (some ⟨w.heap.size, 0, none⟩) n (grownCap w n 0 25)) (w.drew.alloc (.cells ((#[] : Array Value) ++ Builtin.zeroCells (Value.cells (.agg #[.string ⟨#[]⟩, .string ⟨#[]⟩, .int .i64 0, .string ⟨#[]⟩])) n ++ Builtin.zeroCells (Value.cells (.agg #[.string ⟨#[]⟩, .string ⟨#[]⟩, .int .i64 0, .string ⟨#[]⟩])) (grownCap w n 0 25 - n)) 25)) := fun ty => by
      have h := Lib.run_append_grow_zeros (P := Try.prog) w 23 3 ty 25 i0 _ .i64 .i64 Try.underlying23 Try.underlying3 hi0 hz0 none 0 0 [] (run_firstCells_none w.drew i0.size 0 0 0) n (by omega) (by omega) (by omega) (by omega) (by rw [hz2]; omega)
        (by rw [Nat.zero_add]; exact growslice_fits (by omega) (by rw [hz2]; omega))
      rw [Nat.zero_add] at h
      exact h
    have hG := grownCap_ge w n 0 25
    have hG2 := grownCap_le_maxLen w n 0 25 (by unfold maxLen; omega)
    generalize grownCap w n 0 25 = G at *
    have hG3 := Lib.hid hG2
    have hn0 : (n : Int) ≠ 0 := by omega
    have hn1 : 0 < (n : Int) := by omega
    have hn2 : (n : Int) ≤ 8192 := by omega
    unfold maxLen at hG2
    have hK : RowOf plC 4 ((w.alloc (.cells (Builtin.zeroCells #[.string ⟨#[]⟩, .string ⟨#[]⟩, .int .i64 0, .string ⟨#[]⟩] n ++ Builtin.zeroCells #[.string ⟨#[]⟩, .string ⟨#[]⟩, .int .i64 0, .string ⟨#[]⟩] (G - n)) 25)).drew) w.heap.size 25 (.slice (some ⟨w.heap.size, 0, none⟩) 0 G) [] := by
      refine ⟨rfl, .inr ⟨w.heap.size, G, _, rfl, Nat.le_refl _, heap_alloc_new w _, Nat.zero_le _, hG3.out, ?_, by simp⟩⟩
      rw [Array.size_append, size_zeroCells, size_zeroCells]
      simp
      omega
    have HK := Lib.hid hK
    clear hK
    go_enter Try.func65, Try.ntmps65
    go_wp2_with (at_builtin; refine Lib.wpList_append_run _ rfl _ _ _ _ rfl _ _ rfl rfl _ _ (hrz _) ?_)
    all_goals (go_ret; exact ⟨.slice (some ⟨w.heap.size, 0, none⟩) 0 G, rfl, HK.out, ((Chg.refl _ _).alloc _).drew⟩)
def partL (l1 l2 : List Pl) : Nat → List Pl
  | 0 => []
  | 1 => l1
  | _ + 2 => l1 ++ l2
set_option maxHeartbeats 8000000 in
set_option maxRecDepth 100000 in
theorem concat_any (g : Nat) (v1 v2 : Value) (l1 l2 : List Pl) (w : World) (hb : w.heap[g]? = some (.cells #[v1, v2] 23 (0, 0))) (h1 : SrcIs plC 4 w v1 l1) (h2 : SrcIs plC 4 w v2 l2) (hl1 : l1.length ≤ 4096) (hl2 : l2.length ≤ 4096) :
    Calls Try.prog 44 #[.slice (some ⟨g, 0, none⟩) 2 2] w fun e w' => ∃ v, e = .returned v ∧ RowOf plC 4 w' w.heap.size 25 v (l1 ++ l2) ∧ Chg [] w w' := by
  have hsh : ∀ v (l : List Pl), SrcIs plC 4 w v l → ∃ a c, v = .slice a l.length c := fun v l h => by
    rcases h with ⟨rfl, rfl⟩ | ⟨g, o, c, rfl, _⟩
    · exact ⟨_, _, rfl⟩
    · exact ⟨_, _, rfl⟩
  obtain ⟨a1, c1, rfl⟩ := hsh _ _ h1
  obtain ⟨a2, c2, rfl⟩ := hsh _ _ h2
  have HB := Lib.hid hb
  have H1 := Lib.hid h1
  have H2 := Lib.hid h2
  have hcs : ∀ k, k ≤ 2 → k = 2 ∨ ∃ a c l, k < 2 ∧ (∀ w', Chg [] w w' → w'.cell? ⟨g, k, none⟩ = some (.slice a l.length c)) ∧ (∀ w', Chg [] w w' → SrcIs plC 4 w' (.slice a l.length c) l) ∧ l.length ≤ 4096 ∧ partL l1 l2 (k + 1) = partL l1 l2 k ++ l := fun k hk => by
    rcases Nat.lt_or_ge k 1 with h' | h'
    · have : k = 0 := by omega
      subst this
      exact .inr ⟨a1, c1, l1, by omega, fun w' hc => by rw [blk_cell (hc.at (by simp) HB.out)]; rfl, fun w' hc => H1.out.kept hc, hl1, by simp [partL]⟩
    · rcases Nat.lt_or_ge k 2 with h'' | h''
      · have : k = 1 := by omega
        subst this
        exact .inr ⟨a2, c2, l2, by omega, fun w' hc => by rw [blk_cell (hc.at (by simp) HB.out)]; rfl, fun w' hc => H2.out.kept hc, hl2, by simp [partL]⟩
      · exact .inl (by omega)
  have hpl : ∀ k, k ≤ 2 → (partL l1 l2 k).length ≤ 8192 := fun k hk => by
    match k, hk with
    | 0, _ => simp [partL]
    | 1, _ => simp [partL]; omega
    | 2, _ => simp [partL]; omega
  have HCS := Lib.hid hcs
  have HPL := Lib.hid hpl
  clear hb h1 h2 hcs hpl hsh
  go_enter Try.func44, Try.ntmps44
  go_wp2_with fail
  go_loopw [3, 11] (fun n i wr => ∃ k : Nat, i = .int .i64 k ∧ k ≤ 2 ∧ n = .int .i64 ((partL l1 l2 k).length : Nat) ∧ Hid (Chg [] w wr)) (fun _ i _ => 2 - (intOf i).toNat)
  case atStart => exact ⟨0, rfl, by omega, by simp [partL], Lib.hid (Chg.refl _ _)⟩
  case round =>
    obtain ⟨k, rfl, hk, rfl, D⟩ := hrel
    have hp := HPL.out k hk
    rcases HCS.out k hk with rfl | ⟨a, c, l, hk2, hcell, hsrc, hll, hst⟩
    · have HG := Lib.hid (grow_any (partL l1 l2 2).length hp wr)
      have HD := Lib.hid D.out
      generalize hq : (partL l1 l2 2).length = n at *
      have hn0 : (0 : Int) ≤ (n : Int) := by omega
      have hn1 : (n : Int) ≤ 8192 := by omega
      clear hq
      go_wp2_with fail
      refine HG.out.mono ?_; rintro e w2 ⟨v, rfl, hr2, hc2⟩
      have R2 := Lib.hid hr2
      have D2 := Lib.hid (HD.out.thenSame hc2)
      have B2 := Lib.hid (Nat.le_trans HD.out.size (Nat.le_refl _))
      obtain ⟨B, hB⟩ : ∃ B, B = wr.heap.size := ⟨_, rfl⟩
      have S2 := Lib.hid hc2.size
      rw [← hB] at R2 B2 S2
      clear hr2 hc2 hB HG
      go_wp2_with fail
      go_loopw [6, 27] (fun u i wr => ∃ k : Nat, i = .int .i64 k ∧ k ≤ 2 ∧ Hid (RowOf plC 4 wr B 25 u (partL l1 l2 k)) ∧ Hid (Chg [] w wr) ∧ Hid (B ≤ wr.heap.size)) (fun _ i _ => 2 - (intOf i).toNat)
      case atStart => exact ⟨0, rfl, by omega, R2, D2, S2⟩
      case round =>
        obtain ⟨k, rfl, hk, HR, E, HS⟩ := hrel
        have hp := HPL.out k hk
        rcases HCS.out k hk with rfl | ⟨a, c, l, hk2, hcell, hsrc, hll, hst⟩
        · go_wp2_with fail
          go_ret
          exact ⟨_, rfl, HR.out.mono B2.out, E.out⟩
        · have d0 := hcell wr E.out
          have HSrc := Lib.hid (hsrc wr E.out)
          have HST := Lib.hid hst
          have hk0 : (0 : Int) ≤ (k : Int) := by omega
          have hk1 : (k : Int) < 2 := by omega
          clear hcell hsrc hst
          go_wp2_with (at_builtin; refine wpl_appendsX rfl _ _ 23 rfl B 25 _ 56 Try.underlying23 plInfo rfl (by decide) plC_len plC_one u6 (partL l1 l2 k) rfl HR.out (.slice a l.length c) l rfl HSrc.out (by unfold maxLen; omega) (by omega) HS.out ?_; intro v6 w6 hr6 hc6; have R6 := Lib.hid hr6; have K6 := Lib.hid (E.out.then hc6 (by intro y hy hl; have := (HR.out.block y (by simpa using hy)).1; have := B2.out; omega)); have S6 := Lib.hid (Nat.le_trans HS.out hc6.size); clear hr6 hc6)
          exact ⟨⟨k + 1, by go_num, by omega, by rw [HST.out]; exact R6, K6, S6⟩, by simp [intOf]; omega⟩
    · have d0 := hcell wr D.out
      have hk0 : (0 : Int) ≤ (k : Int) := by omega
      have hk1 : (k : Int) < 2 := by omega
      have hst2 : (partL l1 l2 (k + 1)).length = (partL l1 l2 k).length + l.length := by rw [hst, List.length_append]
      generalize (partL l1 l2 k).length = n at *
      have HST := Lib.hid hst2
      have hn0 : (0 : Int) ≤ (n : Int) := by omega
      have hn1 : (n : Int) ≤ 8192 := by omega
      have hl0 : (0 : Int) ≤ (l.length : Int) := by omega
      have hl1 : (l.length : Int) ≤ 4096 := by omega
      clear hcell hsrc hst hst2
      go_wp2_with fail
      exact ⟨⟨k + 1, by go_num, by omega, by rw [HST.out]; go_num, D⟩, by simp [intOf]; omega⟩
end Go.Proofs.Ytjbnfaapkicejaa
