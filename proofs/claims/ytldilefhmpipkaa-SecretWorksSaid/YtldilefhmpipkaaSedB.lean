/- Chapter 22: contracts of the reference: Unbind, Rotate. No condition. -/
import Derived.Test.YtldilefhmpipkaaSedA
import Derived.BigRegion
import Derived.RegionTactic
import Derived.ChangeAlike
namespace Go.Proofs.Ytldilefhmpipkaa
set_option linter.unusedVariables false
set_option linter.unusedSimpArgs false
open Go.RowKit

set_option maxHeartbeats 8000000 in
set_option maxRecDepth 100000 in
theorem runbind_any (rb : Nat) (sv : Value) (l : List RSec) (name fn : ByteArray) (w : World) (h : RVIs w rb sv l) (hll : l.length ≤ 4096) (hbl : ∀ x ∈ l, x.s.bound.length ≤ 4096) :
    Calls Try.prog 33 #[.pointer (some ⟨rb, 0, none⟩), .string name, .string fn] w (RVPost w rb sv l (.int .i64 (runbindE (l.map RSec.s) name fn)) (runbindS (l.map RSec.s) name fn)) := by
  have H := Lib.hid h
  obtain ⟨E, hE⟩ : ∃ E, E = runbindE (l.map RSec.s) name fn := ⟨_, rfl⟩
  obtain ⟨L', hL'⟩ : ∃ L', L' = runbindS (l.map RSec.s) name fn := ⟨_, rfl⟩
  have HLE := Lib.hid (show ¬ E = 0 → L' = l.map RSec.s from fun hne => by rw [hL', runbindS, ← hE, if_neg hne])
  have HLz := Lib.hid (show E = 0 → L' = updR (l.map RSec.s) name (fun x => { x with bound := delAt x.bound (byt fn) }) from fun hz => by rw [hL', runbindS, ← hE, if_pos hz])
  rw [← hE, ← hL']
  unfold runbindE at hE
  have A3 := fun w h => rfind_any rb sv l name w h hll
  rw [rnms_map] at A3
  have e1 : posOf (rnms (l.map RSec.s)) (byt name) = posR (l.map RSec.s) name := rfl
  have e2 : foundAt (rnms (l.map RSec.s)) (byt name) = foundR (l.map RSec.s) name := rfl
  rw [e1, e2] at A3
  have c0 := blk_cell h.1
  have hcs := rfind_cases l name
  clear hL' e1 e2
  rcases hcs with ⟨b3, hlk⟩ | ⟨b3, hp, hlk, hup⟩
  · rw [hlk] at hE
    simp only at hE
    subst hE
    rw [b3] at A3
    have HL := Lib.hid (HLE.out (by decide))
    generalize posR (l.map RSec.s) name = p at *
    have A3 := Lib.hid A3
    rename_i A30
    clear h b3 hlk A30 HLE HLz
    go_enter Try.func33, Try.ntmps33
    go_wp2_with fail
    refine (A3.out _ H.out).mono ?_; rintro e w4 ⟨rfl, hc4⟩
    have C4 := Lib.hid hc4
    clear hc4
    go_wp2_with fail
    go_ret
    rw [HL.out]
    exact RVPost.same rfl H.out C4.out
  rw [hlk] at hE
  simp only at hE
  rw [b3] at A3
  have HLy := Lib.hid (show E = 0 → L' = (l.map RSec.s).set (posR (l.map RSec.s) name) { (l[posR (l.map RSec.s) name]).s with bound := delAt (l[posR (l.map RSec.s) name]).s.bound (byt fn) } from fun hz => by rw [HLz.out hz, hup])
  generalize posR (l.map RSec.s) name = p at *
  have A3 := Lib.hid A3
  rename_i A30
  clear b3 hlk A30 HLz hup
  have hb0 := hbl _ (List.getElem_mem hp)
  obtain ⟨g, sc, hsv, -, -, -, -, -⟩ := h.at hp
  subst hsv
  clear h hbl
  have hA4 := fun (w : World) (v : Value) (hs : SrcIs kc 1 w v (l[p]).s.bound) => rplace_any v (l[p]).s.bound fn w hs hb0
  have hpk : (0 : Int) ≤ (p : Int) := by omega
  have hpl : (p : Int) < (l.length : Int) := by omega
  have HAT := Lib.hid (fun w' (V : RVIs w' rb (.slice (some ⟨g, 0, none⟩) l.length sc) l) => V.at hp)
  obtain ⟨x, hx⟩ : ∃ x, x = l[p] := ⟨_, rfl⟩
  rw [← hx] at hE hA4 HAT HLy hb0
  have Hx := Lib.hid hx
  have hile := posOf_le x.s.bound (byt fn)
  obtain ⟨i, hi⟩ : ∃ i, i = posOf x.s.bound (byt fn) := ⟨_, rfl⟩
  have Hins : Hid (delAt x.s.bound (byt fn) = x.s.bound.take i ++ x.s.bound.drop (i + 1)) := Lib.hid (by unfold delAt; rw [← hi])
  rw [← hi] at hA4 hile
  clear hx
  cases b4 : foundAt x.s.bound (byt fn)
  case false =>
    rw [b4] at hE hA4
    simp only [Bool.false_eq_true, if_false] at hE
    subst hE
    have HL := Lib.hid (HLE.out (by decide))
    have A4 := Lib.hid hA4
    clear b4 hA4 HLE HLy
    go_enter Try.func33, Try.ntmps33
    go_wp2_with fail
    refine (A3.out _ H.out).mono ?_; rintro e w4 ⟨rfl, hc4⟩
    have C4 := Lib.hid hc4
    have V4 := Lib.hid (H.out.keptN hc4)
    have c4 := blk_cell V4.out.1
    obtain ⟨g', c', hgc, hcell, -, hgl, hbn, hsrc⟩ := HAT.out _ V4.out
    cases hgc
    have q7 := hcell 7 (by omega)
    simp only [rsCells, List.getElem?_cons_zero, List.getElem?_cons_succ] at q7
    have Hsrc := Lib.hid hsrc
    clear hc4 hcell hsrc hbn
    go_wp2_with fail
    refine (A4.out _ _ Hsrc.out).mono ?_; rintro e w6 ⟨rfl, hc6⟩
    have C6 := Lib.hid (C4.out.thenSame hc6)
    clear hc6
    go_wp2_with fail
    go_ret
    rw [HL.out]
    exact RVPost.same rfl H.out C6.out
  case true =>
    have hil : i < x.s.bound.length := by
      have := b4
      unfold foundAt at this
      rw [← hi] at this
      simp only [beq_iff_eq] at this
      exact (List.getElem?_eq_some_iff.1 this).1
    rw [b4] at hE hA4
    simp only [if_true] at hE
    subst hE
    have A4 := Lib.hid hA4
    have HL := Lib.hid (HLy.out rfl)
    have e1 : (x.s.bound.take i).length = i := by rw [List.length_take]; omega
    have e2 : (x.s.bound.drop (i + 1)).length = x.s.bound.length - (i + 1) := List.length_drop
    have E1 := Lib.hid e1
    have E2 := Lib.hid e2
    have hi0 : (0 : Int) ≤ (i : Int) := by omega
    have hi9 : (i : Int) ≤ 4096 := by omega
    clear HLE HLy e1 e2 hi hA4 b4
    go_enter Try.func33, Try.ntmps33
    go_wp2_with fail
    refine (A3.out _ H.out).mono ?_; rintro e w4 ⟨rfl, hc4⟩
    have C4 := Lib.hid hc4
    have V4 := Lib.hid (H.out.keptN hc4)
    have c4 := blk_cell V4.out.1
    obtain ⟨g', c', hgc, hcell, -, hgl, hbn, hsrc⟩ := HAT.out _ V4.out
    cases hgc
    have q7 := hcell 7 (by omega)
    simp only [rsCells, List.getElem?_cons_zero, List.getElem?_cons_succ] at q7
    have Hsrc := Lib.hid hsrc
    clear hc4 hcell hsrc hbn
    go_wp2_with fail
    refine (A4.out _ _ Hsrc.out).mono ?_; rintro e w6 ⟨rfl, hc6⟩
    have C6 := Lib.hid (C4.out.thenSame hc6)
    have V6 := Lib.hid (V4.out.keptN hc6)
    have c6 := blk_cell V6.out.1
    have l6 := lt_of_heap V6.out.1
    obtain ⟨g', c', hgc, hcell, -, hgl6, -, hsrc6⟩ := HAT.out _ V6.out
    cases hgc
    have q6 := hcell 7 (by omega)
    simp only [rsCells, List.getElem?_cons_zero, List.getElem?_cons_succ] at q6
    have Src6 := Lib.hid hsrc6
    clear hc6 hcell hsrc6
    go_wp2_with (first
      | (refine wpl_slice_hX rfl _ _ 46 rfl stElem (stSize _) x.bv x.s.bound i rfl Src6.out rfl hile ?_; intro vs1 hs1; have Hs1 := Lib.hid hs1; clear hs1)
      | (refine wpl_slice_lX rfl _ _ 46 rfl stElem (stSize _) x.bv x.s.bound (i + 1) rfl Src7.out rfl hil ?_; intro vs2 hs2; have Hs2 := Lib.hid hs2; clear hs2)
      | (at_builtin; refine wpl_appendsX rfl _ _ 46 rfl w6.heap.size 9 _ 16 Try.underlying46 stInfo rfl (by decide) kLen kOne (.slice none 0 0) [] rfl (RowOf.nil _ _ _) vs1 _ rfl Hs1.out (by rw [E1.out]; unfold maxLen; simp; omega) (by rw [E1.out]; simp; omega) (Nat.le_refl _) ?_; intro v7 w7 hr7 hc7; have R7 := Lib.hid (show RowOf kc 1 w7 w6.heap.size 9 v7 (x.s.bound.take i) from hr7); have C7 := Lib.hid (Chg.thenRow (Chg.refl [] w6) (RowOf.nil (cf := kc) (sz := 1) w6 w6.heap.size 9) (Nat.le_refl _) hc7); have s7 := C7.out.size; have V7 := Lib.hid (V6.out.keptN C7.out); have c7 := blk_cell V7.out.1; have l7 := lt_of_heap V7.out.1; obtain ⟨g8, d8, hgc8, hcell8, -, hgl8, -, hsrc8⟩ := HAT.out _ V7.out; cases hgc8; have q8 := hcell8 7 (by omega); simp only [rsCells, List.getElem?_cons_zero, List.getElem?_cons_succ] at q8; have Src7 := Lib.hid hsrc8; clear hr7 hc7 hcell8 hsrc8)
      | (at_builtin; refine wpl_appendsX rfl _ _ 46 rfl w6.heap.size 9 _ 16 Try.underlying46 stInfo rfl (by decide) kLen kOne v7 (x.s.bound.take i) rfl R7.out vs2 _ rfl Hs2.out (by rw [E1.out, E2.out]; unfold maxLen; omega) (by rw [E1.out, E2.out]; omega) (by omega) ?_; intro v9 w9 hr9 hc9; obtain ⟨a9, m9, n9, hv9⟩ := RowOf.shape3 hr9; subst hv9; have R9 := Lib.hid hr9; have C9 := Lib.hid (Chg.thenRow C7.out R7.out (Nat.le_refl _) hc9); have V9 := Lib.hid (V6.out.keptN C9.out); have c9 := blk_cell V9.out.1; have l9 := lt_of_heap V9.out.1; obtain ⟨g9, d9, hgc9, hcell9, hfr9, hgl9, -, -⟩ := HAT.out _ V9.out; cases hgc9; have q9 := hcell9 7 (by omega); simp only [rsCells, List.getElem?_cons_zero, List.getElem?_cons_succ] at q9; clear hr9 hc9 hcell9)
      | fail)
    go_ret
    rw [HL.out, Hins.out, Hx.out]
    exact RVPost.rebound hp rfl C6.out C9.out V9.out (by have := R9.out; rw [Hx.out] at this; exact this) hgl6

/-- A secret is changed, but for its bindings. -/
theorem RVPost.reset {w w7 : World} {rb g : Nat} {l : List RSec} {sc : Nat} {p : Nat} (hp : p < l.length) {v : Value} {e : Ending} (he : e = .returned v) (h7 : Chg [] w w7) (V : RVIs w7 rb (.slice (some ⟨g, 0, none⟩) l.length sc) l) (y : R0) (hy : y.bound = (l[p]).s.bound) :
    RVPost w rb (.slice (some ⟨g, 0, none⟩) l.length sc) l v ((l.map RSec.s).set p y) e (storeEl w7 g (p * 8) 0 (rsCells ⟨y, (l[p]).ba, (l[p]).bn, (l[p]).bc⟩)).drew := by
  have hst : Chg [g] w7 (storeEl w7 g (p * 8) 0 (rsCells ⟨y, (l[p]).ba, (l[p]).bn, (l[p]).bc⟩)).drew := (Chg.putEl _ _).drew
  have ap := V.apart
  have hrg : rb ≠ g := fun e => ap.1 (by rw [e]; rfl)
  have hrow := (RowOf.putEl V.2.1 rsLen p hp ⟨y, (l[p]).ba, (l[p]).bn, (l[p]).bc⟩).kept ((Chg.refl [] _).drew) (by simp)
  have hbn : ∀ x ∈ l, RowOf kc 1 (storeEl w7 g (p * 8) 0 (rsCells ⟨y, (l[p]).ba, (l[p]).bn, (l[p]).bc⟩)).drew 0 9 x.bv x.s.bound := fun x hx => (V.2.2 x hx).kept hst (fun q hq e => (ap.2 x hx).2 q hq (by simp at e; subst e; rfl))
  refine ⟨he, _, l.set p ⟨y, (l[p]).ba, (l[p]).bn, (l[p]).bc⟩, by rw [List.map_set], ⟨hst.at (by simpa using hrg) V.1, hrow, ?_⟩, (h7.mono (T := rb :: (Value.slice (some ⟨g, 0, none⟩) l.length sc).ownBlock.toList) (by simp)).then hst (by intro y hy _; simp at hy; subst hy; simp [Value.ownBlock]), ?_⟩
  · intro x hx
    rcases List.mem_or_eq_of_mem_set hx with hx | rfl
    · exact hbn x hx
    · have := hbn _ (List.getElem_mem hp)
      show RowOf kc 1 _ 0 9 (l[p]).bv y.bound
      rw [hy]; exact this
  · intro b hb
    rcases mem_rfp.1 hb with rfl | hb | ⟨x, hx, hb⟩
    · exact .inl (mem_rfp.2 (.inl rfl))
    · exact .inl (mem_rfp.2 (.inr (.inl hb)))
    · rcases List.mem_or_eq_of_mem_set hx with hx | rfl
      · exact .inl (mem_rfp.2 (.inr (.inr ⟨x, hx, hb⟩)))
      · exact .inl (mem_rfp.2 (.inr (.inr ⟨_, List.getElem_mem hp, hb⟩)))

def rrotE (L : List R0) (name text : ByteArray) (g n : Int) : Int × Int := match rlk L name with | none => (0, 5) | some x => if textB text = true then (if timeB g = true then (if timeB n = true then (if n < x.since then (0, 11) else if x.ver = 32 then (0, 3) else (x.ver + 1, 0)) else (0, 2)) else (0, 2)) else (0, 1)
def rrotF (text : ByteArray) (g n : Int) (y : R0) : R0 := ⟨y.name, text, y.text, true, n + g, n, y.ver + 1, y.bound⟩
def rrotS (L : List R0) (name text : ByteArray) (g n : Int) : List R0 := if (rrotE L name text g n).2 = 0 then updR L name (rrotF text g n) else L

set_option maxHeartbeats 16000000 in
set_option maxRecDepth 100000 in
theorem rrot_any (rb : Nat) (sv : Value) (l : List RSec) (name text : ByteArray) (gr now : Int) (w : World) (h : RVIs w rb sv l) (ht : text.size ≤ maxLen) (hll : l.length ≤ 4096) (hv : ∀ x ∈ l, 0 ≤ x.s.ver ∧ x.s.ver ≤ 32) :
    Calls Try.prog 34 #[.pointer (some ⟨rb, 0, none⟩), .string name, .string text, .int .i64 gr, .int .i64 now] w (RVPost w rb sv l (.tuple #[.int .i64 (rrotE (l.map RSec.s) name text gr now).1, .int .i64 (rrotE (l.map RSec.s) name text gr now).2]) (rrotS (l.map RSec.s) name text gr now)) := by
  have H := Lib.hid h
  obtain ⟨R, hR⟩ : ∃ R, R = rrotE (l.map RSec.s) name text gr now := ⟨_, rfl⟩
  obtain ⟨L', hL'⟩ : ∃ L', L' = rrotS (l.map RSec.s) name text gr now := ⟨_, rfl⟩
  have HLE := Lib.hid (show ¬ R.2 = 0 → L' = l.map RSec.s from fun hne => by rw [hL', rrotS, ← hR, if_neg hne])
  have HLz := Lib.hid (show R.2 = 0 → L' = updR (l.map RSec.s) name (rrotF text gr now) from fun hz => by rw [hL', rrotS, ← hR, if_pos hz])
  rw [← hR, ← hL']
  unfold rrotE at hR
  have A1 := fun w => rtext_any text w ht
  have A3 := fun w h => rfind_any rb sv l name w h hll
  rw [rnms_map] at A3
  have e1 : posOf (rnms (l.map RSec.s)) (byt name) = posR (l.map RSec.s) name := rfl
  have e2 : foundAt (rnms (l.map RSec.s)) (byt name) = foundR (l.map RSec.s) name := rfl
  rw [e1, e2] at A3
  have c0 := blk_cell h.1
  have hcs := rfind_cases l name
  clear hL' e1 e2
  rcases hcs with ⟨b3, hlk⟩ | ⟨b3, hp, hlk, hup⟩
  · rw [hlk] at hR
    simp only at hR
    subst hR
    rw [b3] at A3
    have HL := Lib.hid (HLE.out (by decide))
    generalize posR (l.map RSec.s) name = p at *
    have A3 := Lib.hid A3
    rename_i A30
    clear h b3 hlk A30 HLE HLz A1
    go_enter Try.func34, Try.ntmps34
    go_wp2_with fail
    refine (A3.out _ H.out).mono ?_; rintro e w4 ⟨rfl, hc4⟩
    have C4 := Lib.hid hc4
    clear hc4
    go_wp2_with fail
    go_ret2
    rw [HL.out]
    exact RVPost.same rfl H.out C4.out
  rw [hlk] at hR
  simp only at hR
  rw [b3] at A3
  have HLy := Lib.hid (show R.2 = 0 → L' = (l.map RSec.s).set (posR (l.map RSec.s) name) (rrotF text gr now (l[posR (l.map RSec.s) name]).s) from fun hz => by rw [HLz.out hz, hup])
  have hv0 := hv _ (List.getElem_mem hp)
  generalize posR (l.map RSec.s) name = p at *
  have A3 := Lib.hid A3
  rename_i A30
  obtain ⟨g, sc, hsv, -, -, -, -, -⟩ := h.at hp
  subst hsv
  have hpk : (0 : Int) ≤ (p : Int) := by omega
  have hpl : (p : Int) < (l.length : Int) := by omega
  have HAT := Lib.hid (fun w' (V : RVIs w' rb (.slice (some ⟨g, 0, none⟩) l.length sc) l) => V.at hp)
  clear b3 hlk A30 HLz hup h hv
  obtain ⟨x, hx⟩ : ∃ x, x = l[p] := ⟨_, rfl⟩
  rw [← hx] at hR HAT HLy hv0
  have Hx := Lib.hid hx
  clear hx
  have hcs : (textB text = false ∧ R = (0, 1)) ∨ (textB text = true ∧ gr < 0 ∧ R = (0, 2)) ∨ (textB text = true ∧ 0 ≤ gr ∧ 1073741824 < gr ∧ R = (0, 2)) ∨ (textB text = true ∧ 0 ≤ gr ∧ gr ≤ 1073741824 ∧ now < 0 ∧ R = (0, 2)) ∨ (textB text = true ∧ 0 ≤ gr ∧ gr ≤ 1073741824 ∧ 0 ≤ now ∧ 1073741824 < now ∧ R = (0, 2)) ∨
      (textB text = true ∧ 0 ≤ gr ∧ gr ≤ 1073741824 ∧ 0 ≤ now ∧ now ≤ 1073741824 ∧ now < x.s.since ∧ R = (0, 11)) ∨ (textB text = true ∧ 0 ≤ gr ∧ gr ≤ 1073741824 ∧ 0 ≤ now ∧ now ≤ 1073741824 ∧ x.s.since ≤ now ∧ (x.s.ver == 32) = true ∧ R = (0, 3)) ∨ (textB text = true ∧ 0 ≤ gr ∧ gr ≤ 1073741824 ∧ 0 ≤ now ∧ now ≤ 1073741824 ∧ x.s.since ≤ now ∧ (x.s.ver == 32) = false ∧ R = (x.s.ver + 1, 0)) := by
    cases b1 : textB text
    · exact .inl ⟨rfl, by rw [hR, b1]; rfl⟩
    · rw [b1] at hR
      simp only [if_true] at hR
      by_cases g0 : 0 ≤ gr
      · by_cases g1 : gr ≤ 1073741824
        · have hg : timeB gr = true := by simp [timeB, g0, g1]
          rw [if_pos hg] at hR
          by_cases t0 : 0 ≤ now
          · by_cases t1 : now ≤ 1073741824
            · have ht : timeB now = true := by simp [timeB, t0, t1]
              rw [if_pos ht] at hR
              by_cases c1 : now < x.s.since
              · exact .inr (.inr (.inr (.inr (.inr (.inl ⟨rfl, g0, g1, t0, t1, c1, by rw [hR, if_pos c1]⟩)))))
              · by_cases c2 : x.s.ver = 32
                · exact .inr (.inr (.inr (.inr (.inr (.inr (.inl ⟨rfl, g0, g1, t0, t1, by omega, by simpa using c2, by rw [hR, if_neg c1, if_pos c2]⟩))))))
                · exact .inr (.inr (.inr (.inr (.inr (.inr (.inr ⟨rfl, g0, g1, t0, t1, by omega, by simpa using c2, by rw [hR, if_neg c1, if_neg c2]⟩))))))
            · have ht : ¬ timeB now = true := by simp [timeB, t1]
              exact .inr (.inr (.inr (.inr (.inl ⟨rfl, g0, g1, t0, by omega, by rw [hR, if_neg ht]⟩))))
          · have ht : ¬ timeB now = true := by simp [timeB, t0]
            exact .inr (.inr (.inr (.inl ⟨rfl, g0, g1, by omega, by rw [hR, if_neg ht]⟩)))
        · have hg : ¬ timeB gr = true := by simp [timeB, g1]
          exact .inr (.inr (.inl ⟨rfl, g0, by omega, by rw [hR, if_neg hg]⟩))
      · have hg : ¬ timeB gr = true := by simp [timeB, g0]
        exact .inr (.inl ⟨rfl, by omega, by rw [hR, if_neg hg]⟩)
  clear hR
  have HCS := Lib.hid hcs
  clear hcs
  have hw : ∀ w4, Chg [] w w4 → ∀ w5, w5 = w4.alloc (.cells (rsCells x).toArray 80) → Chg [] w w5 ∧ RVIs w5 rb (.slice (some ⟨g, 0, none⟩) l.length sc) l ∧ w5.heap[w4.heap.size]? = some (.cells (rsCells x).toArray 80 (0, 0)) := by
    rintro w4 hc w5 rfl
    exact ⟨hc.alloc _, H.out.keptN (hc.alloc _), heap_alloc_new _ _⟩
  have HW := Lib.hid hw
  clear hw
  rcases HCS.out with ⟨b1, rfl⟩ | ⟨b1, g0, rfl⟩ | ⟨b1, g0, g1, rfl⟩ | ⟨b1, g0, g1, t0, rfl⟩ | ⟨b1, g0, g1, t0, t1, rfl⟩ | ⟨b1, g0, g1, t0, t1, c1, rfl⟩ | ⟨b1, g0, g1, t0, t1, c1, c2, rfl⟩ | ⟨b1, g0, g1, t0, t1, c1, c2, rfl⟩
  iterate 7
    · have HL := Lib.hid (HLE.out (by decide))
      rw [b1] at A1
      have A1 := Lib.hid A1
      rename_i A10
      clear b1 A10 HLE HLy HCS
      go_enter Try.func34, Try.ntmps34
      go_wp2_with fail
      refine (A3.out _ H.out).mono ?_; rintro e w4 ⟨rfl, hc4⟩
      have C4 := Lib.hid hc4
      have V4 := Lib.hid (H.out.keptN hc4)
      have c4 := blk_cell V4.out.1
      obtain ⟨g', c', hgc, hcell, -, hgl, -, -⟩ := HAT.out _ V4.out
      cases hgc
      have q0 := hcell 0 (by omega)
      have q1 := hcell 1 (by omega)
      have q2 := hcell 2 (by omega)
      have q3 := hcell 3 (by omega)
      have q4 := hcell 4 (by omega)
      have q5 := hcell 5 (by omega)
      have q6 := hcell 6 (by omega)
      have q7 := hcell 7 (by omega)
      simp only [rsCells, List.getElem?_cons_zero, List.getElem?_cons_succ, Nat.add_zero] at q0 q1 q2 q3 q4 q5 q6 q7
      clear hc4 hcell
      go_wp2_with fail
      refine (A1.out _).mono ?_; rintro e w5 ⟨rfl, rfl⟩
      go_wp2_with fail
      go_ret2
      rw [HL.out]
      exact RVPost.same rfl H.out (C4.out.alloc _)
  · have HL := Lib.hid (HLy.out rfl)
    rw [b1] at A1
    have A1 := Lib.hid A1
    rename_i A10
    obtain ⟨v0, v1⟩ := hv0
    clear b1 A10 HLE HLy HCS
    go_enter Try.func34, Try.ntmps34
    go_wp2_with fail
    refine (A3.out _ H.out).mono ?_; rintro e w4 ⟨rfl, hc4⟩
    have C4 := Lib.hid hc4
    have V4 := Lib.hid (H.out.keptN hc4)
    have c4 := blk_cell V4.out.1
    obtain ⟨g', c', hgc, hcell, hfr, hgl, -, -⟩ := HAT.out _ V4.out
    cases hgc
    have q0 := hcell 0 (by omega)
    have q1 := hcell 1 (by omega)
    have q2 := hcell 2 (by omega)
    have q3 := hcell 3 (by omega)
    have q4 := hcell 4 (by omega)
    have q5 := hcell 5 (by omega)
    have q6 := hcell 6 (by omega)
    have q7 := hcell 7 (by omega)
    simp only [rsCells, List.getElem?_cons_zero, List.getElem?_cons_succ, Nat.add_zero] at q0 q1 q2 q3 q4 q5 q6 q7
    have l4 := lt_of_heap V4.out.1
    clear hc4 hcell
    go_wp2_with fail
    refine (A1.out _).mono ?_; rintro e w5 ⟨rfl, rfl⟩
    go_wp2_with fail
    obtain ⟨o9, ho9⟩ : ∃ o9, o9 = Obj.cells #[.string x.s.name, .string text, .string x.s.text, .bool true, .int .i64 (now + gr), .int .i64 now, .int .i64 (x.s.ver + 1), .slice x.ba x.bn x.bc] 80 := ⟨_, rfl⟩
    rw [← ho9]
    have hc9 := C4.out.alloc o9
    have V9 := H.out.keptN hc9
    have hb9 := heap_alloc_new w4 o9
    obtain ⟨w9, hw9⟩ : ∃ w9, w9 = w4.alloc o9 := ⟨_, rfl⟩
    rw [← hw9] at hc9 V9 hb9 ⊢
    rw [ho9] at hb9
    have e9 := blk_cell hb9
    have c9 := blk_cell V9.1
    obtain ⟨g9, d9, hgc, hcell9, hfr9, hgl9, -, -⟩ := HAT.out _ V9
    cases hgc
    have s0 := hcell9 0 (by omega)
    have s1 := hcell9 1 (by omega)
    have s2 := hcell9 2 (by omega)
    have s3 := hcell9 3 (by omega)
    have s4 := hcell9 4 (by omega)
    have s5 := hcell9 5 (by omega)
    have s6 := hcell9 6 (by omega)
    have s7 := hcell9 7 (by omega)
    simp only [rsCells, List.getElem?_cons_zero, List.getElem?_cons_succ, Nat.add_zero] at s0 s1 s2 s3 s4 s5 s6 s7
    have HV9 := Lib.hid V9
    have HC9 := Lib.hid hc9
    clear hcell9 V9 hc9 hb9 hw9 ho9 c4 q0 q1 q2 q3 q4 q5 q6 q7
    go_still_tail 7, (by kernel_rfl)
    change wpList _ _ _ _ _ w9.drew
    go_wp2_with fail
    go_ret2
    rw [HL.out]
    have := RVPost.reset (v := .tuple #[.int .i64 (x.s.ver + 1), .int .i64 0]) hp rfl HC9.out HV9.out (rrotF text gr now (l[p]).s) rfl
    rw [← Hx.out] at this
    exact this
end Go.Proofs.Ytldilefhmpipkaa
