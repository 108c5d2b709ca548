/- Values (chapters 30, 50): contract: closed; the table of Itoa stays. No condition. -/
import Derived.Test.YtolidiafomceiaaGreatDoorValC
namespace Go.Proofs.YtolidiafomceiaaGreatDoor
set_option linter.unusedVariables false
set_option linter.unusedSimpArgs false
open Go.RowKit Go.ChangeShapes Go.WideShapes
open Go.ChangeMaps (open_string)
theorem TabW.kept {w w' : World} (h : TabW w) (hc : Chg [] w w') : TabW w' := by
  unfold TabW Lib.TabIs World.var? at h ⊢
  cases hg : Tryz.prog.globalNamed "internal/strconv.uint64pow10" with
  | none => rw [hg] at h; simp at h
  | some g =>
    rw [hg] at h
    simp only [Option.bind_some] at h ⊢
    have hlt : g < w.heap.size := by
      rcases Nat.lt_or_ge g w.heap.size with h' | h'
      · exact h'
      · rw [Array.getElem?_eq_none h'] at h; simp at h
    rw [hc.block g hlt (by simp)]
    exact h
theorem RowOf.shrink {α : Type} {cf : α → List Value} {sz : Nat} {w : World} {base g cap : Nat} {e : TypeId} {l1 l2 : List α} (hc : ∀ x, (cf x).length = sz) (h : RowOf cf sz w base e (.slice (some ⟨g, 0, none⟩) (l1 ++ l2).length cap) (l1 ++ l2)) : RowOf cf sz w base e (.slice (some ⟨g, 0, none⟩) l1.length cap) l1 := by
  obtain ⟨h1, h2⟩ := h
  refine ⟨flatMap_len hc l1, ?_⟩
  rcases h2 with ⟨h2, _⟩ | ⟨g', cap', cur, hv, hg, hh, h4, h5, h6, h7⟩
  · cases h2
  · cases hv
    rw [List.length_append] at h4 h7
    refine .inr ⟨g, cap, cur, rfl, hg, hh, by omega, h5, h6, ?_⟩
    have h8 := congrArg (List.take (l1.length * sz)) h7
    rw [List.take_take, Nat.min_eq_left (Nat.mul_le_mul_right _ (Nat.le_add_right _ _)), List.flatMap_append, List.take_append_of_le_length (by rw [flatMap_len hc]; exact Nat.le_refl _), List.take_of_length_le (l := l1.flatMap cf) (by rw [flatMap_len hc]; exact Nat.le_refl _)] at h8
    exact h8
structure Opn where
  pairs : Bool
  left : Int
  key : Bool
  last : ByteArray
  started : Bool
def opnC (x : Opn) : List Value := [.bool x.pairs, .int .i64 x.left, .bool x.key, .string x.last, .bool x.started]
theorem opnC_len (x : Opn) : (opnC x).length = 5 := rfl
theorem opnC_one (x : Opn) : ∀ u ∈ opnC x, u.oneCell' = true := by intro u hu; simp [opnC] at hu; rcases hu with rfl | rfl | rfl | rfl | rfl <;> rfl
def lenOf : Value → Nat
  | .slice _ n _ => n
  | _ => 0
/-- The open lists and maps after a complete value, the last one first. -/
def closedR : List Opn → List Opn
  | [] => []
  | t :: r => if 0 < t.left - 1 then { t with left := t.left - 1, key := t.pairs } :: r else closedR r
def closedL (st : List Opn) : List Opn := (closedR st.reverse).reverse
theorem closed_nil : closedL [] = [] := rfl
theorem closed_snoc (i : List Opn) (t : Opn) : closedL (i ++ [t]) = if 0 < t.left - 1 then i ++ [{ t with left := t.left - 1, key := t.pairs }] else closedL i := by
  unfold closedL
  rw [List.reverse_append]
  show (closedR (t :: i.reverse)).reverse = _
  rw [closedR]
  split
  · rw [List.reverse_cons, List.reverse_reverse]
  · rfl
set_option maxHeartbeats 8000000 in
set_option maxRecDepth 100000 in
theorem closed_any {w : World} {base : Nat} {v : Value} {st : List Opn} (h : RowOf opnC 5 w base 158 v st) (hb : ∀ o ∈ st, 1 ≤ o.left ∧ o.left ≤ 9223372036854775807) (hl : st.length ≤ 4398046511104) :
    Calls Tryz.prog 145 #[v] w fun e w' => ∃ v', e = .returned v' ∧ RowOf opnC 5 w' base 158 v' (closedL st) ∧ Chg v.ownBlock.toList w w' ∧ v'.ownBlock = v.ownBlock := by
  obtain ⟨a, c, rfl⟩ := RowOf.shape h
  obtain ⟨R, hR⟩ : ∃ R, R = closedL st := ⟨_, rfl⟩
  rw [← hR]
  have H := Lib.hid h
  have HB := Lib.hid hb
  have HR := Lib.hid hR
  clear h hb hR
  go_enter Tryz.func145, Tryz.ntmps145
  go_wp2_with fail
  go_loopw [0] (fun s wr => ∃ S : List Opn, s = .slice a S.length c ∧ Hid (R = closedL S) ∧ Hid (RowOf opnC 5 wr base 158 s S) ∧ Hid (Chg (Value.slice a st.length c).ownBlock.toList w wr) ∧ Hid (∀ o ∈ S, 1 ≤ o.left ∧ o.left ≤ 9223372036854775807) ∧ S.length ≤ 4398046511104) (fun s _ => lenOf s)
  case atStart => exact ⟨st, rfl, HR, H, Lib.hid (Chg.refl _ _), HB, hl⟩
  case round =>
    obtain ⟨S, rfl, HE, HS, D, HB, hsl⟩ := hrel
    rcases List.eq_nil_or_concat S with rfl | ⟨i, t, hit⟩
    · go_wp2_with fail
      go_ret
      exact ⟨.slice a 0 c, rfl, by rw [HE.out]; exact HS.out, D.out, by cases a <;> rfl⟩
    · rw [List.concat_eq_append] at hit
      subst hit
      have hlen : (i ++ [t]).length = i.length + 1 := by rw [List.length_append]; rfl
      obtain ⟨g, rfl⟩ : ∃ g, a = some ⟨g, 0, none⟩ := by
        rcases RowOf.at HS.out opnC_len with ⟨_, h0⟩ | ⟨g, cap, hv, _⟩
        · simp at h0
        · simp only [Value.slice.injEq] at hv; exact ⟨g, hv.1⟩
      obtain ⟨-, q2, q3, q4, q5, q6, q7⟩ := RowOf.atS HS.out opnC_len
      have hki : i.length < (i ++ [t]).length := by omega
      have hti : (i ++ [t])[i.length] = t := by simp
      have q4' := q4 i.length hki
      rw [hti] at q4'
      have d0 := q4' 0 (by omega)
      have d1 := q4' 1 (by omega)
      have d2 := q4' 2 (by omega)
      have f1 := q5 (i.length * 5 + 1)
      have f2 := q5 (i.length * 5 + 2)
      obtain ⟨hb1, hb2⟩ := HB.out t (by simp)
      have HE2 := HE.out
      rw [closed_snoc] at HE2
      have hst1 := RowOf.stored HS.out rfl opnC_len i.length hki 1 (by omega) (.int .i64 (t.left - 1)) { t with left := t.left - 1 } (by rw [hti]; rfl)
      have hset : ∀ y, (i ++ [t]).set i.length y = i ++ [y] := fun y => by simp
      rw [hset] at hst1
      simp only [opnC, List.getElem?_cons_zero, List.getElem?_cons_succ, Nat.add_zero] at d0 d1 d2
      rw [hlen] at *
      have HSI := Lib.hid (show ∀ o ∈ i, 1 ≤ o.left ∧ o.left ≤ 9223372036854775807 from fun o ho => HB.out o (by simp [ho]))
      have hi0 : (0 : Int) ≤ (i.length : Int) := by omega
      have hsl' : (i.length : Int) ≤ 4398046511103 := by omega
      have HH1 := Lib.hid hst1
      have hil : i.length < c := by omega
      clear q4 q4' q2 q3 q5 hst1 hti hki hlen
      simp only at f1 f2 q6 q7
      by_cases hp : 0 < t.left - 1
      · rw [if_pos hp] at HE2
        have HF := Lib.hid HE2
        have hst2 := RowOf.stored HH1.out (by rw [List.length_append]; rfl) opnC_len i.length (by rw [List.length_append]; simp) 2 (by omega) (.bool t.pairs) { t with left := t.left - 1, key := t.pairs } (by simp [opnC])
        have hset2 : (i ++ [({ t with left := t.left - 1 } : Opn)]).set i.length { t with left := t.left - 1, key := t.pairs } = i ++ [{ t with left := t.left - 1, key := t.pairs }] := by simp
        rw [hset2] at hst2
        have HH2 := Lib.hid hst2
        clear HE2 hst2 hset hset2 hsl
        have hmh := Lib.hid (show i.length = i.length from rfl)
        generalize i.length = m at hmh d0 d1 d2 f1 f2 hi0 hsl' hil HH2 HH1 HS ⊢
        go_wp2_with fail
        go_ret
        exact ⟨.slice (some ⟨g, 0, none⟩) (m + 1) c, rfl, by rw [HF.out]; exact HH2.out, (D.out.setCell _ _ (by simp [Value.ownBlock])).setCell _ _ (by simp [Value.ownBlock]), rfl⟩
      · rw [if_neg hp] at HE2
        have HF := Lib.hid HE2
        have hp' : t.left - 1 ≤ 0 := by omega
        clear HE2 hset
        go_wp2_with fail
        exact ⟨⟨i, rfl, HF, Lib.hid (RowOf.shrink opnC_len (by rw [List.length_append]; exact HH1.out)), Lib.hid (D.out.setCell _ _ (by simp [Value.ownBlock])), HSI, by omega⟩, by simp [lenOf]⟩
end Go.Proofs.YtolidiafomceiaaGreatDoor
