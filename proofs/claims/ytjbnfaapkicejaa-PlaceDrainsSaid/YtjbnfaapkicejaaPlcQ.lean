/- Chapter 43: contract: Remove. No condition. -/
import Derived.Test.YtjbnfaapkicejaaPlcP
namespace Go.Proofs.Ytjbnfaapkicejaa
set_option linter.unusedVariables false
set_option linter.unusedSimpArgs false
open Go.RowKit
theorem SrcIs.head {α : Type} {cf : α → List Value} {sz : Nat} {w : World} {g o c : Nat} {l : List α} (h : SrcIs cf sz w (.slice (some ⟨g, o, none⟩) l.length c) l) (m : Nat) (hm : m ≤ l.length) : SrcIs cf sz w (.slice (some ⟨g, o, none⟩) m c) (l.take m) := by
  rcases h with ⟨h, _⟩ | ⟨g', o', c', h1, h2, h3, h4, h5⟩
  · simp at h
  · cases h1
    have e1 : (l.take m).length = m := by rw [List.length_take]; omega
    refine .inr ⟨g, o, c, by rw [e1], by omega, h3, h4, fun k hk j hj => ?_⟩
    rw [h5 k (by omega) j hj, List.getElem_take]
theorem SrcIs.tail {α : Type} {cf : α → List Value} {sz : Nat} {w : World} {g o c : Nat} {l : List α} (h : SrcIs cf sz w (.slice (some ⟨g, o, none⟩) l.length c) l) (m : Nat) (hm : m ≤ l.length) (o' : Nat) (ho : c = m ∨ o' = o + m * sz) : SrcIs cf sz w (.slice (some ⟨g, o', none⟩) (l.length - m) (c - m)) (l.drop m) := by
  rcases h with ⟨h, _⟩ | ⟨g', o2, c', h1, h2, h3, h4, h5⟩
  · simp at h
  · cases h1
    have e1 : (l.drop m).length = l.length - m := List.length_drop
    refine .inr ⟨g, o', c - m, by rw [e1], by omega, by omega, h4, fun k hk j hj => ?_⟩
    rcases ho with ho | rfl
    · omega
    · have := h5 (m + k) (by omega) j hj
      rw [List.getElem_drop, ← this, Nat.add_mul]
      congr 2
      omega
def remP (l : List Pl) (s : ByteArray) : List Pl × Int := if pIdx l s < 0 then ([], 5) else (l.take (pIdx l s).toNat ++ l.drop ((pIdx l s).toNat + 1), 0)
set_option maxHeartbeats 8000000 in
set_option maxRecDepth 100000 in
theorem remove_any (a : Option Addr) (c : Nat) (l : List Pl) (s : ByteArray) (w : World) (h : InIs plC 4 w a c l) (hl : l.length ≤ 4096) :
    Calls Try.prog 22 #[.slice a l.length c, .string s] w fun e w' => ∃ v, e = .returned (.tuple #[v, .int .i64 (remP l s).2]) ∧ RowOf plC 4 w' w.heap.size 25 v (remP l s).1 ∧ Chg [] w w' := by
  have C1 := Lib.hid (show Chg [] w (w.alloc (.cells #[.string s] 9)) from (Chg.refl _ _).alloc _)
  have A := Lib.hid (indexr_any (fun x => x.id == s) (.pointer (some ⟨w.heap.size, 0, none⟩)) a c l _ (h.1.kept C1.out) hl (fun x _ w' hc => by
    have z := hc.at (by simp) (heap_alloc_new w (.cells #[.string s] 9))
    exact removef_any x _ s w' (by rw [blk_cell z]; rfl) (lt_of_heap z)))
  change Hid (Calls _ _ _ _ fun e w' => e = .returned (.int .i64 (pIdx l s)) ∧ _) at A
  obtain ⟨R, hR⟩ : ∃ R, R = remP l s := ⟨_, rfl⟩
  rw [← hR]
  unfold remP at hR
  have hb : pIdx l s < 0 ∨ ∃ m : Nat, pIdx l s = (m : Int) ∧ m < l.length := by
    rcases idx_find (fun x : Pl => x.id == s) l with ⟨_, hi⟩ | ⟨i, hi0, _, hi⟩
    · exact .inl (by unfold pIdx; rw [hi]; decide)
    · exact .inr ⟨i, hi, hi0⟩
  have HA := Lib.hid A.out
  generalize pIdx l s = n at *
  have H := Lib.hid h
  clear h A
  rcases hb with hn | ⟨m, rfl, hm⟩
  · rw [if_pos hn] at hR
    subst hR
    go_enter Try.func22, Try.ntmps22
    go_wp2_with fail
    refine HA.out.mono ?_; rintro e w1 ⟨rfl, hc1⟩
    have D := Lib.hid (C1.out.thenSame hc1)
    clear hc1 HA
    go_wp2_with fail
    go_ret2
    exact ⟨_, rfl, RowOf.nil _ _ _, D.out⟩
  rw [if_neg (by omega), Int.toNat_natCast] at hR
  subst hR
  obtain ⟨g, o, rfl, hg⟩ : ∃ g o, a = some ⟨g, o, none⟩ ∧ True := by
    obtain ⟨b, o, h, _⟩ := H.out.1.2 m hm
    exact ⟨b, o, h, trivial⟩
  have HS := Lib.hid (H.out.src (by omega))
  have hm0 : (0 : Int) ≤ (m : Int) := by omega
  have hm1 : (m : Int) < (l.length : Int) := by omega
  have hlc : (l.length : Int) ≤ (c : Int) := by have := H.out.2.1; omega
  have hll : (l.length : Int) ≤ 4096 := by omega
  have hmc : (m : Int) + 1 ≤ (c : Int) := by omega
  have hml : (m : Int) + 1 ≤ (l.length : Int) := by omega
  have hcm : (c : Int) ≤ 9223372036854775807 := by have := H.out.2.2.1; unfold maxLen at this; omega
  have nlc := H.out.2.1
  have nmc : m ≤ c := by omega
  have nmc1 : m + 1 ≤ c := by omega
  have nml1 : m + 1 ≤ l.length := by omega
  obtain ⟨o', hite, ho'⟩ : ∃ o', (if c = m + 1 then (some ⟨g, o, none⟩ : Option Addr) else some ⟨g, o + (m + 1) * 4, none⟩) = some ⟨g, o', none⟩ ∧ (c = m + 1 ∨ o' = o + (m + 1) * 4) := by
    by_cases e : c = m + 1
    · exact ⟨o, by rw [if_pos e], .inl e⟩
    · exact ⟨o + (m + 1) * 4, by rw [if_neg e], .inr rfl⟩
  have HO' := Lib.hid ho'
  clear ho'
  have hm01 : (0 : Int) ≤ (m : Int) + 1 := by omega
  have hwr : IntKind.i64.wrap ((m : Int) + 1) = ((m + 1 : Nat) : Int) := (IntWalk.i64_in _ (by omega)).trans (by omega)
  go_enter Try.func22, Try.ntmps22
  go_wp2_with fail
  refine HA.out.mono ?_; rintro e w1 ⟨rfl, hc1⟩
  have D := Lib.hid (C1.out.thenSame hc1)
  clear hc1 HA
  go_wp2_with fail
  refine wp_region_noPanic ?_
  have K0 := Lib.hid (show Chg [] w w1.drew from D.out.drew)
  refine wp_region_held_drew (S := (fun w' => True)) (by kernel_rfl) trivial (fun hHeld => ?_)
  refine wpAnyH_take (i := 0) (oi := _) (v := ?vA_0) rfl (by kernel_rfl) (by kernel_rfl) (by kernel_rfl) (fun _ _ _ h => h) (Or.inl ⟨by rfl, ?yA_0⟩) hHeld ?rA_0
  case yA_0 => (intro w hSw; (try dsimp only at hSw); (try simp only [List.getElem_toArray, List.getElem_cons_zero, List.getElem_cons_succ]); go_simp <;> with_reducible rfl)
  (try simp only [List.getElem_toArray, List.getElem_cons_zero, List.getElem_cons_succ, Act.put, List.setIfInBounds_toArray, List.set_cons_zero, List.set_cons_succ])
  refine wpAnyH_take (i := 1) (oi := _) (v := ?vA_1) rfl (by kernel_rfl) (by kernel_rfl) (by kernel_rfl) (fun _ _ _ h => h) (Or.inl ⟨by rfl, ?yA_1⟩) hHeld ?rA_1
  case yA_1 => (intro w hSw; (try dsimp only at hSw); (try simp only [List.getElem_toArray, List.getElem_cons_zero, List.getElem_cons_succ]); go_simp <;> with_reducible rfl)
  (try simp only [List.getElem_toArray, List.getElem_cons_zero, List.getElem_cons_succ, Act.put, List.setIfInBounds_toArray, List.set_cons_zero, List.set_cons_succ])
  refine wpAnyH_take (i := 2) (oi := _) (v := ?vA_2) rfl (by kernel_rfl) (by kernel_rfl) (by kernel_rfl) (fun _ _ _ h => h) (Or.inl ⟨by rfl, ?yA_2⟩) hHeld ?rA_2
  case yA_2 => (intro w hSw; (try dsimp only at hSw); (try simp only [List.getElem_toArray, List.getElem_cons_zero, List.getElem_cons_succ]); go_simp <;> with_reducible rfl)
  (try simp only [List.getElem_toArray, List.getElem_cons_zero, List.getElem_cons_succ, Act.put, List.setIfInBounds_toArray, List.set_cons_zero, List.set_cons_succ])
  refine wpAnyH_take (i := 3) (oi := _) (v := ?vA_3) rfl (by kernel_rfl) (by kernel_rfl) (by kernel_rfl) (fun _ _ _ h => h) (Or.inl ⟨by rfl, ?yA_3⟩) hHeld ?rA_3
  case yA_3 => (intro w hSw; (try dsimp only at hSw); (try simp only [List.getElem_toArray, List.getElem_cons_zero, List.getElem_cons_succ]); go_simp <;> with_reducible rfl)
  (try simp only [List.getElem_toArray, List.getElem_cons_zero, List.getElem_cons_succ, Act.put, List.setIfInBounds_toArray, List.set_cons_zero, List.set_cons_succ])
  refine wpAnyH_take (i := 4) (oi := _) (v := ?vA_4) rfl (by kernel_rfl) (by kernel_rfl) (by kernel_rfl) (fun _ _ _ h => h) (Or.inl ⟨by rfl, ?yA_4⟩) hHeld ?rA_4
  case yA_4 => (intro w hSw; (try dsimp only at hSw); (try simp only [List.getElem_toArray, List.getElem_cons_zero, List.getElem_cons_succ]); go_simp <;> with_reducible rfl)
  (try simp only [List.getElem_toArray, List.getElem_cons_zero, List.getElem_cons_succ, Act.put, List.setIfInBounds_toArray, List.set_cons_zero, List.set_cons_succ])
  refine wpAnyH_take (i := 5) (oi := _) (v := ?vA_5) rfl (by kernel_rfl) (by kernel_rfl) (by kernel_rfl) (fun _ _ _ h => h) (Or.inl ⟨by rfl, ?yA_5⟩) hHeld ?rA_5
  case yA_5 => (intro w hSw; (try dsimp only at hSw); (try simp only [List.getElem_toArray, List.getElem_cons_zero, List.getElem_cons_succ]); go_simp <;> with_reducible rfl)
  (try simp only [List.getElem_toArray, List.getElem_cons_zero, List.getElem_cons_succ, Act.put, List.setIfInBounds_toArray, List.set_cons_zero, List.set_cons_succ])
  refine wpAnyH_take (i := 6) (oi := _) (v := ?vA_6) rfl (by kernel_rfl) (by kernel_rfl) (by kernel_rfl) (fun _ _ _ h => h) (Or.inl ⟨by rfl, ?yA_6⟩) hHeld ?rA_6
  case yA_6 => (intro w hSw; (try dsimp only at hSw); (try simp only [List.getElem_toArray, List.getElem_cons_zero, List.getElem_cons_succ]); go_simp <;> with_reducible rfl)
  (try simp only [List.getElem_toArray, List.getElem_cons_zero, List.getElem_cons_succ, Act.put, List.setIfInBounds_toArray, List.set_cons_zero, List.set_cons_succ])
  have N1 := Lib.hid (heap_alloc_new w1.drew (.cells #[.slice (some ⟨g, o, none⟩) m c, .slice (some ⟨g, o', none⟩) (l.length - (m + 1)) (c - (m + 1))] 23))
  have K1 := Lib.hid (K0.out.alloc (.cells #[.slice (some ⟨g, o, none⟩) m c, .slice (some ⟨g, o', none⟩) (l.length - (m + 1)) (c - (m + 1))] 23))
  have A2 := Lib.hid (concat_any w1.drew.heap.size _ _ (l.take m) (l.drop (m + 1)) _ N1.out (((HS.out.kept K1.out).head m (by omega))) ((HS.out.kept K1.out).tail (m + 1) (by omega) o' HO'.out) (by rw [List.length_take]; omega) (by rw [List.length_drop]; omega))
  refine wpAnyH_ready (rs := [7]) (by kernel_rfl) (by simp) ?_
  refine AllReadyH.cons (o := _) rfl (fun K hK => ?_) AllReadyH.nil
  (try simp only [List.getElem_toArray, List.getElem_cons_zero, List.getElem_cons_succ])
  go_simp
  skip
  refine hK.out _ _ ?_ (fun hHeld => ?_)
  exact trivial
  clear hK K
  (try simp only [List.getElem_toArray, List.getElem_cons_zero, List.getElem_cons_succ, Act.put, List.setIfInBounds_toArray, List.set_cons_zero, List.set_cons_succ])
  refine wpAnyH_ready (rs := [8]) (by kernel_rfl) (by simp) ?_
  refine AllReadyH.cons (o := _) rfl (fun K hK => ?_) AllReadyH.nil
  (try simp only [List.getElem_toArray, List.getElem_cons_zero, List.getElem_cons_succ])
  go_simp
  (refine Calls.mono A2.out ?_; rintro e w4 ⟨v1, rfl, hr4, hc4⟩; have R2 := Lib.hid (hr4.mono (Nat.le_trans K1.out.size (Nat.le_refl _))); have K2 := Lib.hid (K1.out.thenSame hc4); clear hr4 hc4)
  refine hK.out _ _ ?_ (fun hHeld => ?_)
  exact trivial
  clear hK K
  (try simp only [List.getElem_toArray, List.getElem_cons_zero, List.getElem_cons_succ, Act.put, List.setIfInBounds_toArray, List.set_cons_zero, List.set_cons_succ])
  refine wpAnyH_take (i := 9) (oi := _) (v := ?vB_9) rfl (by kernel_rfl) (by kernel_rfl) (by kernel_rfl) (fun _ _ _ h => h) (Or.inl ⟨by rfl, ?yB_9⟩) hHeld ?rB_9
  case yB_9 => (intro w hSw; (try dsimp only at hSw); (try simp only [List.getElem_toArray, List.getElem_cons_zero, List.getElem_cons_succ]); go_simp <;> with_reducible rfl)
  (try simp only [List.getElem_toArray, List.getElem_cons_zero, List.getElem_cons_succ, Act.put, List.setIfInBounds_toArray, List.set_cons_zero, List.set_cons_succ])
  refine wpAnyH_take (i := 10) (oi := _) (v := ?vB_10) rfl (by kernel_rfl) (by kernel_rfl) (by kernel_rfl) (fun _ _ _ h => h) (Or.inl ⟨by rfl, ?yB_10⟩) hHeld ?rB_10
  case yB_10 => (intro w hSw; (try dsimp only at hSw); (try simp only [List.getElem_toArray, List.getElem_cons_zero, List.getElem_cons_succ]); go_simp <;> with_reducible rfl)
  (try simp only [List.getElem_toArray, List.getElem_cons_zero, List.getElem_cons_succ, Act.put, List.setIfInBounds_toArray, List.set_cons_zero, List.set_cons_succ])
  refine wpAnyH_done (by kernel_rfl) ?_ _
  refine NoPanic.normal ?_
  go_wp2_with fail
  go_ret2
  exact ⟨v1, rfl, R2.out, K2.out⟩
end Go.Proofs.Ytjbnfaapkicejaa
