/- Chapter 9: contract: nesting. Condition: first found the node well. -/
import Derived.Lib.MinMax
import Derived.Test.YtolidiafomceiaaGreatDoorStaG
namespace Go.Proofs.YtolidiafomceiaaGreatDoor
set_option linter.unusedVariables false
set_option linter.unusedSimpArgs false
open Go.RowKit
/-- The deepest nesting of a node, with fuel. -/
def nestF (l : List PNd) : Nat → Nat → Int
  | 0, _ => 0
  | n + 1, i => match l[i]? with
    | none => 0
    | some x => (x.kids.foldl (fun q k => max q (nestF l n k.toNat)) 0) + 1
theorem foldl_max_bound {g : Int → Int} {B : Int} (hg : ∀ k, 0 ≤ g k ∧ g k ≤ B) : ∀ (ks : List Int) (q : Int), 0 ≤ q → q ≤ B → 0 ≤ ks.foldl (fun q k => max q (g k)) q ∧ ks.foldl (fun q k => max q (g k)) q ≤ B := by
  intro ks
  induction ks with
  | nil => intro q h1 h2; exact ⟨h1, h2⟩
  | cons k ks ih =>
    intro q h1 h2
    rw [List.foldl_cons]
    have := hg k
    exact ih _ (by omega) (by omega)
theorem nestF_bound {l : List PNd} : ∀ n i, 0 ≤ nestF l n i ∧ nestF l n i ≤ n := by
  intro n
  induction n with
  | zero => intro i; rw [nestF]; omega
  | succ n ih =>
    intro i
    rw [nestF]
    split
    · omega
    · have := foldl_max_bound (g := fun k => nestF l n k.toNat) (B := n) (fun k => ih k.toNat) (by assumption : PNd).kids 0 (by omega) (by omega)
      omega
theorem firstGo_kids {F : Nat → Int} {l : List PNd} {x : PNd} {i : Int} (hF : ∀ i, F i ≤ i) : ∀ {k : Nat} {a : Int}, 0 ≤ firstGo F l x k a → a ≤ i → ∀ kk, kk < k → ∃ m : Nat, x.kids[kk]? = some (m : Int) ∧ (m : Int) < i ∧ m < l.length ∧ 0 ≤ F m := by
  intro k
  induction k with
  | zero => intro a _ _ kk h; omega
  | succ k ih =>
    intro a h hai kk hk
    rw [firstGo] at h
    split at h
    · omega
    · rename_i h1
      split at h
      · omega
      · rename_i h2
        split at h
        · omega
        · rename_i y h3
          split at h
          · omega
          · split at h
            · omega
            · rename_i h5
              obtain ⟨h6, -⟩ := List.getElem?_eq_some_iff.1 h3
              by_cases hkk : kk = k
              · subst hkk
                exact ⟨(a - 1).toNat, by rw [Decidable.not_not.1 h2]; congr 1; omega, by omega, h6, by omega⟩
              · exact ih h (by have := hF (a - 1).toNat; omega) kk (by omega)
theorem firstF_kids {l : List PNd} {n i : Nat} {x : PNd} (hx : l[i]? = some x) (h : 0 ≤ firstF l (n + 1) i) : ∀ kk, kk < x.kids.length → ∃ m : Nat, x.kids[kk]? = some (m : Int) ∧ m < i ∧ m < l.length ∧ 0 ≤ firstF l n m := by
  rw [firstF, hx] at h
  simp only at h
  split at h
  · intro kk hkk
    obtain ⟨m, h1, h2, h3, h4⟩ := firstGo_kids (fun j => firstF_le n j) h (Int.le_refl _) kk hkk
    exact ⟨m, h1, by omega, h3, h4⟩
  · omega
set_option maxHeartbeats 16000000 in
set_option maxRecDepth 100000 in
theorem nest_all {na : Option Addr} {nc : Nat} {l : List Nd} : ∀ (n : Nat) (w : World) (_ : InIs ndC 5 w na nc l) (_ : ∀ d ∈ l, NdIn w d) (_ : n ≤ l.length) (i : Nat), i < n → i < l.length → 0 ≤ firstF (l.map Nd.p) n i → Calls Tryz.prog 87 #[.slice na l.length nc, .int .i64 i] w fun e w' => e = .returned (.int .i64 (nestF (l.map Nd.p) n i)) ∧ Chg [] w w' := by
  intro n
  induction n with
  | zero => intro w _ _ _ i hi; omega
  | succ n ih =>
    intro w h hin hnl i hi hil hf
    obtain ⟨b1, o1, rfl, -, -, hc1⟩ := h.1.elem (Chg.refl [] w) i hil
    have hil' : (i : Int) < (l.length : Int) := by omega
    have hi0 : (0 : Int) ≤ (i : Int) := by omega
    have hll : (l.length : Int) ≤ 9223372036854775807 := by have h1 := h.2.1; have h2 := h.2.2.1; unfold maxLen at h2; omega
    have hnn : (n : Int) + 1 ≤ 9223372036854775807 := by omega
    have x4 := hc1 4 (by omega)
    simp only [ndC, List.getElem?_cons_zero, List.getElem?_cons_succ, Nat.add_zero] at x4
    have hxe : (l.map Nd.p)[i]? = some (l[i]).p := by rw [List.getElem?_map, List.getElem?_eq_getElem hil]; rfl
    obtain ⟨R, hR⟩ : ∃ R, R = nestF (l.map Nd.p) (n + 1) i := ⟨_, rfl⟩
    rw [← hR]
    rw [nestF, hxe] at hR
    simp only at hR
    have HK := firstF_kids hxe hf
    have hix := hin _ (List.getElem_mem hil)
    have hkids : (l[i]).p.kids = (l[i]).kids := rfl
    rw [hkids] at hR HK
    have HI := hix.2
    have IH := Lib.hid (fun w' (hc : Chg [] w w') j (hj : j < n) (hjl : j < l.length) (hjf : 0 ≤ firstF (l.map Nd.p) n j) => ih w' (h.kept hc) (fun d hd => (hin d hd).kept hc) (by omega) j hj hjl hjf)
    have hkb : ((l[i]).kids.length : Int) ≤ 9223372036854775807 := by have h1 := HI.2.1; have h2 := HI.2.2.1; unfold maxLen at h2; omega
    clear hxe hkids hix hf
    generalize (l[i]).kids = ks at *
    generalize (l[i]).da = da at *
    generalize (l[i]).dc = dc at *
    have HR := Lib.hid hR
    have HKK := Lib.hid HK
    have HII := Lib.hid HI
    have HB := Lib.hid (fun j => nestF_bound (l := l.map Nd.p) n j)
    clear hc1 hR HK HI h hin ih
    go_enter Tryz.func87, Tryz.ntmps87
    go_wp2_with fail
    go_loopw [5, 14] (fun u v wr => ∃ (j : Nat) (q : Int), u = .int .i64 q ∧ v = .int .i64 j ∧ j ≤ ks.length ∧ (0 ≤ q ∧ q ≤ (n : Int)) ∧ Hid (R = ((ks.drop j).foldl (fun q k => max q (nestF (l.map Nd.p) n k.toNat)) q) + 1) ∧ Hid (Chg [] w wr)) (fun _ v _ => ks.length - (intOf v).toNat)
    case atStart => exact ⟨0, 0, rfl, rfl, Nat.zero_le _, ⟨Int.le_refl _, by omega⟩, Lib.hid HR.out, Lib.hid (Chg.refl _ _)⟩
    case round =>
      obtain ⟨j, q, rfl, rfl, hj, ⟨hq0, hqn⟩, HS, D⟩ := hrel
      have hj0 : (0 : Int) ≤ (j : Int) := by omega
      by_cases hjl : j < ks.length
      · have hjl' : (j : Int) < (ks.length : Int) := by omega
        obtain ⟨b2, o2, rfl, -, -, hc2⟩ := HII.out.1.elem D.out j hjl
        obtain ⟨m, hm1, hm2, hm3, hm4⟩ := HKK.out j hjl
        rw [List.getElem?_eq_getElem hjl] at hm1
        injection hm1 with hm1
        rw [List.length_map] at hm3
        have u1 := hc2 0 (by omega)
        simp only [icI, List.getElem?_cons_zero, Nat.add_zero, Nat.mul_one] at u1
        rw [hm1] at u1
        have hb := HB.out m
        have HS2 := HS.out
        rw [List.drop_eq_getElem_cons hjl, List.foldl_cons, hm1, Int.toNat_natCast] at HS2
        have HS3 := Lib.hid HS2
        have A := Lib.hid (IH.out _ D.out m (by omega) hm3 hm4)
        generalize hr : nestF (l.map Nd.p) n m = r at *
        have qj : IntKind.i64.wrap ((j : Int) + 1) = (j : Int) + 1 := IntWalk.i64_in _ (by omega)
        clear hc2 hm1 hr HS2
        go_wp2_with (go_at_call 87; (with_reducible refine Calls.mono A.out ?_); rintro e w2 ⟨rfl, hc⟩; have D2 := Lib.hid (D.out.thenSame hc); clear hc)
        exact ⟨⟨j + 1, max q r, rfl, rfl, by omega, ⟨by omega, by omega⟩, HS3, D2⟩, by simp [intOf]; omega⟩
      · have hje : j = ks.length := by omega
        have HS2 := HS.out
        rw [hje, List.drop_length, List.foldl_nil] at HS2
        have HE := Lib.hid HS2
        have hjl' : ¬ (j : Int) < (ks.length : Int) := by omega
        have qq : IntKind.i64.wrap (q + 1) = q + 1 := IntWalk.i64_in _ (by omega)
        clear HS2 hje
        go_wp2_with fail
        go_ret
        exact ⟨retI HE.out.symm, D.out⟩
end Go.Proofs.YtolidiafomceiaaGreatDoor
