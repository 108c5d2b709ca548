/- Chapter 22: contracts of the reference: Bind, Unbind. No condition. -/
import Derived.Test.YtldilefhmpipkaaSecZ
namespace Go.Proofs.Ytldilefhmpipkaa
set_option linter.unusedVariables false
set_option linter.unusedSimpArgs false
open Go.RowKit

def rlk (L : List R0) (name : ByteArray) : Option R0 := if foundR L name = true then L[posR L name]? else none
def updR (L : List R0) (name : ByteArray) (f : R0 → R0) : List R0 := match L[posR L name]? with | some x => L.set (posR L name) (f x) | none => L
def insAt (l : List (List UInt8)) (s : List UInt8) : List (List UInt8) := l.take (posOf l s) ++ [s] ++ l.drop (posOf l s)
def delAt (l : List (List UInt8)) (s : List UInt8) : List (List UInt8) := l.take (posOf l s) ++ l.drop (posOf l s + 1)
def rbindE (L : List R0) (name fn : ByteArray) : Int := match rlk L name with | none => 5 | some x => if nameB fn = true then (if foundAt x.bound (byt fn) = true then 6 else if x.bound.length = 32 then 3 else 0) else 4
def rbindS (L : List R0) (name fn : ByteArray) : List R0 := if rbindE L name fn = 0 then updR L name (fun x => { x with bound := insAt x.bound (byt fn) }) else L
def runbindE (L : List R0) (name fn : ByteArray) : Int := match rlk L name with | none => 5 | some x => if foundAt x.bound (byt fn) = true then 0 else 5
def runbindS (L : List R0) (name fn : ByteArray) : List R0 := if runbindE L name fn = 0 then updR L name (fun x => { x with bound := delAt x.bound (byt fn) }) else L

/-- What find says, and what lies there. -/
theorem rfind_cases (l : List RSec) (name : ByteArray) : (foundR (l.map RSec.s) name = false ∧ rlk (l.map RSec.s) name = none) ∨
    (foundR (l.map RSec.s) name = true ∧ ∃ hp : posR (l.map RSec.s) name < l.length, rlk (l.map RSec.s) name = some (l[posR (l.map RSec.s) name]).s ∧ ∀ f, updR (l.map RSec.s) name f = (l.map RSec.s).set (posR (l.map RSec.s) name) (f (l[posR (l.map RSec.s) name]).s)) := by
  unfold rlk
  cases h : foundR (l.map RSec.s) name
  · exact .inl ⟨rfl, rfl⟩
  · obtain ⟨hp, _⟩ := foundR_lt h
    have hp' : posR (l.map RSec.s) name < l.length := by rw [List.length_map] at hp; exact hp
    have hg : (l.map RSec.s)[posR (l.map RSec.s) name]? = some (l[posR (l.map RSec.s) name]).s := by rw [List.getElem?_map, List.getElem?_eq_getElem hp']; rfl
    refine .inr ⟨rfl, hp', by rw [if_pos rfl, hg], fun f => ?_⟩
    unfold updR; rw [hg]
theorem RVIs.at {w : World} {rb : Nat} {sv : Value} {l : List RSec} (h : RVIs w rb sv l) {p : Nat} (hp : p < l.length) : ∃ g c, sv = .slice (some ⟨g, 0, none⟩) l.length c ∧ (∀ j, j < 8 → w.cell? ⟨g, p * 8 + j, none⟩ = (rsCells l[p])[j]?) ∧ (∀ i, w.frozen? ⟨g, i, none⟩ = false) ∧ g < w.heap.size ∧ (l[p]).bn = (l[p]).s.bound.length ∧ SrcIs kc 1 w (l[p]).bv (l[p]).s.bound := by
  rcases RowOf.at h.2.1 rsLen with ⟨_, h2⟩ | ⟨g, c, h1, h2, h3, h4, h5, _, h7⟩
  · rw [h2] at hp; simp at hp
  · have hb := h.2.2 _ (List.getElem_mem hp)
    obtain ⟨a, q, hq⟩ := RowOf.shape hb
    refine ⟨g, c, h1, fun j hj => h4 p hp j hj, h5, h7, ?_, RowOf.src hb kLen⟩
    unfold RSec.bv at hq
    simp only [Value.slice.injEq] at hq
    exact hq.2.1
/-- The bindings of a secret are changed. -/
theorem RVPost.rebound {w w1 w7 : World} {rb g : Nat} {l : List RSec} {sc : Nat} {p : Nat} (hp : p < l.length) {v : Value} {e : Ending} (he : e = .returned v) (h1 : Chg [] w w1) (h7 : Chg [] w1 w7) (V : RVIs w7 rb (.slice (some ⟨g, 0, none⟩) l.length sc) l) {a : Option Addr} {m c : Nat} {B : List (List UInt8)} (hr : RowOf kc 1 w7 w1.heap.size 9 (.slice a m c) B) (hgl : g < w1.heap.size) :
    RVPost w rb (.slice (some ⟨g, 0, none⟩) l.length sc) l v ((l.map RSec.s).set p { (l[p]).s with bound := B }) e (w7.setCell ⟨g, p * 8 + 7, none⟩ (.slice a m c)) := by
  have hst : Chg [g] w7 (w7.setCell ⟨g, p * 8 + 7, none⟩ (.slice a m c)) := (Chg.refl _ _).setCell _ _ (by simp)
  have ap := V.apart
  have hrg : rb ≠ g := fun e => ap.1 (by rw [e]; rfl)
  have hrow := RowOf.stored V.2.1 rfl rsLen p hp 7 (by omega) (.slice a m c) ⟨{ (l[p]).s with bound := B }, a, m, c⟩ rfl
  refine ⟨he, _, l.set p ⟨{ (l[p]).s with bound := B }, a, m, c⟩, by rw [List.map_set], ⟨hst.at (by simpa using hrg) V.1, hrow, ?_⟩, ((h1.thenSame h7).mono (T := rb :: (Value.slice (some ⟨g, 0, none⟩) l.length sc).ownBlock.toList) (by simp)).then hst (by intro y hy _; simp at hy; subst hy; simp [Value.ownBlock]), ?_⟩
  · intro x hx
    rcases List.mem_or_eq_of_mem_set hx with hx | rfl
    · exact (V.2.2 x hx).kept hst (fun q hq e => (ap.2 x hx).2 q hq (by simp at e; subst e; rfl))
    · exact (hr.kept hst (fun q hq e => by simp at e; subst e; have := (hr.block _ hq).1; omega)).mono (Nat.zero_le _)
  · intro b hb
    rcases mem_rfp.1 hb with rfl | hb | ⟨x, hx, hb⟩
    · exact .inl (mem_rfp.2 (.inl rfl))
    · exact .inl (mem_rfp.2 (.inr (.inl hb)))
    · rcases List.mem_or_eq_of_mem_set hx with hx | rfl
      · exact .inl (mem_rfp.2 (.inr (.inr ⟨x, hx, hb⟩)))
      · right; have := (hr.block _ hb).1; have := h1.size; omega

set_option maxHeartbeats 8000000 in
set_option maxRecDepth 100000 in
theorem rbind_any (rb : Nat) (sv : Value) (l : List RSec) (name fn : ByteArray) (w : World) (h : RVIs w rb sv l) (hn : fn.size ≤ maxLen) (hll : l.length ≤ 4096) (hbl : ∀ x ∈ l, x.s.bound.length ≤ 4096) :
    Calls Try.prog 32 #[.pointer (some ⟨rb, 0, none⟩), .string name, .string fn] w (RVPost w rb sv l (.int .i64 (rbindE (l.map RSec.s) name fn)) (rbindS (l.map RSec.s) name fn)) := by
  have H := Lib.hid h
  obtain ⟨E, hE⟩ : ∃ E, E = rbindE (l.map RSec.s) name fn := ⟨_, rfl⟩
  obtain ⟨L', hL'⟩ : ∃ L', L' = rbindS (l.map RSec.s) name fn := ⟨_, rfl⟩
  have HLE := Lib.hid (show ¬ E = 0 → L' = l.map RSec.s from fun hne => by rw [hL', rbindS, ← hE, if_neg hne])
  have HLz := Lib.hid (show E = 0 → L' = updR (l.map RSec.s) name (fun x => { x with bound := insAt x.bound (byt fn) }) from fun hz => by rw [hL', rbindS, ← hE, if_pos hz])
  rw [← hE, ← hL']
  unfold rbindE at hE
  have A1 := fun w => rname_any fn w hn
  have A3 := fun w h => rfind_any rb sv l name w h hll
  rw [rnms_map] at A3
  have e1 : posOf (rnms (l.map RSec.s)) (byt name) = posR (l.map RSec.s) name := rfl
  have e2 : foundAt (rnms (l.map RSec.s)) (byt name) = foundR (l.map RSec.s) name := rfl
  rw [e1, e2] at A3
  have c0 := blk_cell h.1
  have hcs := rfind_cases l name
  clear hL' e1 e2
  rcases hcs with ⟨b3, hlk⟩ | ⟨b3, hp, hlk, hup⟩
  · rw [hlk] at hE
    simp only at hE
    subst hE
    rw [b3] at A3
    have HL := Lib.hid (HLE.out (by decide))
    generalize posR (l.map RSec.s) name = p at *
    have A3 := Lib.hid A3
    rename_i A30
    clear h b3 hlk A30 HLE HLz A1
    go_enter Try.func32, Try.ntmps32
    go_wp2_with fail
    refine (A3.out _ H.out).mono ?_; rintro e w4 ⟨rfl, hc4⟩
    have C4 := Lib.hid hc4
    clear hc4
    go_wp2_with fail
    go_ret
    rw [HL.out]
    exact RVPost.same rfl H.out C4.out
  rw [hlk] at hE
  simp only at hE
  rw [b3] at A3
  have HLy := Lib.hid (show E = 0 → L' = (l.map RSec.s).set (posR (l.map RSec.s) name) { (l[posR (l.map RSec.s) name]).s with bound := insAt (l[posR (l.map RSec.s) name]).s.bound (byt fn) } from fun hz => by rw [HLz.out hz, hup])
  generalize posR (l.map RSec.s) name = p at *
  have A3 := Lib.hid A3
  rename_i A30
  clear b3 hlk A30 HLz hup
  by_cases b1 : nameB fn = true
  case neg =>
    rw [if_neg b1] at hE
    subst hE
    have b1' : nameB fn = false := by simpa using b1
    have HL := Lib.hid (HLE.out (by decide))
    have A1 := Lib.hid (b1' ▸ A1)
    rename_i A10
    clear h b1 b1' A10 HLE HLy
    go_enter Try.func32, Try.ntmps32
    go_wp2_with fail
    refine (A3.out _ H.out).mono ?_; rintro e w4 ⟨rfl, hc4⟩
    have C4 := Lib.hid hc4
    clear hc4
    go_wp2_with fail
    refine (A1.out _).mono ?_; rintro e w5 ⟨rfl, rfl⟩
    go_wp2_with fail
    go_ret
    rw [HL.out]
    exact RVPost.same rfl H.out C4.out
  rw [if_pos b1] at hE
  have A1 := Lib.hid (b1 ▸ A1)
  rename_i A10
  have hb0 := hbl _ (List.getElem_mem hp)
  obtain ⟨g, sc, hsv, -, -, -, -, -⟩ := h.at hp
  subst hsv
  clear A10 b1 h hbl
  have hA4 := fun (w : World) (v : Value) (hs : SrcIs kc 1 w v (l[p]).s.bound) => rplace_any v (l[p]).s.bound fn w hs hb0
  have hpk : (0 : Int) ≤ (p : Int) := by omega
  have hpl : (p : Int) < (l.length : Int) := by omega
  have HAT := Lib.hid (fun w' (V : RVIs w' rb (.slice (some ⟨g, 0, none⟩) l.length sc) l) => V.at hp)
  obtain ⟨x, hx⟩ : ∃ x, x = l[p] := ⟨_, rfl⟩
  rw [← hx] at hE hA4 HAT HLy hb0
  have Hx := Lib.hid hx
  have hile := posOf_le x.s.bound (byt fn)
  obtain ⟨i, hi⟩ : ∃ i, i = posOf x.s.bound (byt fn) := ⟨_, rfl⟩
  have Hins : Hid (insAt x.s.bound (byt fn) = x.s.bound.take i ++ [byt fn] ++ x.s.bound.drop i) := Lib.hid (by unfold insAt; rw [← hi])
  rw [← hi] at hA4 hile
  clear hi hx
  cases b4 : foundAt x.s.bound (byt fn)
  case true =>
    rw [b4] at hE hA4
    simp only [if_true] at hE
    subst hE
    have HL := Lib.hid (HLE.out (by decide))
    have A4 := Lib.hid hA4
    clear b4 hA4 HLE HLy
    go_enter Try.func32, Try.ntmps32
    go_wp2_with fail
    refine (A3.out _ H.out).mono ?_; rintro e w4 ⟨rfl, hc4⟩
    have C4 := Lib.hid hc4
    have V4 := Lib.hid (H.out.keptN hc4)
    have c4 := blk_cell V4.out.1
    obtain ⟨g', c', hgc, hcell, -, hgl, hbn, hsrc⟩ := HAT.out _ V4.out
    cases hgc
    have q7 := hcell 7 (by omega)
    simp only [rsCells, List.getElem?_cons_zero, List.getElem?_cons_succ] at q7
    have Hsrc := Lib.hid hsrc
    clear hc4 hcell hsrc hbn
    go_wp2_with fail
    refine (A1.out _).mono ?_; rintro e w5 ⟨rfl, rfl⟩
    go_wp2_with fail
    refine (A4.out _ _ Hsrc.out).mono ?_; rintro e w6 ⟨rfl, hc6⟩
    have C6 := Lib.hid (C4.out.thenSame hc6)
    clear hc6
    go_wp2_with fail
    go_ret
    rw [HL.out]
    exact RVPost.same rfl H.out C6.out
  rw [b4] at hE hA4
  simp only [Bool.false_eq_true, if_false] at hE
  have A4 := Lib.hid hA4
  clear b4 hA4
  by_cases b5 : x.s.bound.length = 32
  · rw [if_pos b5] at hE
    subst hE
    have HL := Lib.hid (HLE.out (by decide))
    clear HLE HLy
    go_enter Try.func32, Try.ntmps32
    go_wp2_with fail
    refine (A3.out _ H.out).mono ?_; rintro e w4 ⟨rfl, hc4⟩
    have C4 := Lib.hid hc4
    have V4 := Lib.hid (H.out.keptN hc4)
    have c4 := blk_cell V4.out.1
    obtain ⟨g', c', hgc, hcell, -, hgl, hbn, hsrc⟩ := HAT.out _ V4.out
    cases hgc
    have q7 := hcell 7 (by omega)
    simp only [rsCells, List.getElem?_cons_zero, List.getElem?_cons_succ] at q7
    have Hsrc := Lib.hid hsrc
    have hbb : ((x.bn : Int) == 32) = true := by simp; omega
    clear hc4 hcell hsrc hbn b5
    go_wp2_with fail
    refine (A1.out _).mono ?_; rintro e w5 ⟨rfl, rfl⟩
    go_wp2_with fail
    refine (A4.out _ _ Hsrc.out).mono ?_; rintro e w6 ⟨rfl, hc6⟩
    have C6 := Lib.hid (C4.out.thenSame hc6)
    have V6 := Lib.hid (V4.out.keptN hc6)
    have c6 := blk_cell V6.out.1
    obtain ⟨g', c', hgc, hcell, -, hgl6, -, -⟩ := HAT.out _ V6.out
    cases hgc
    have q6 := hcell 7 (by omega)
    simp only [rsCells, List.getElem?_cons_zero, List.getElem?_cons_succ] at q6
    clear hc6 hcell
    go_wp2_with fail
    go_ret
    rw [HL.out]
    exact RVPost.same rfl H.out C6.out
  · rw [if_neg b5] at hE
    subst hE
    have HL := Lib.hid (HLy.out rfl)
    have e1 : (x.s.bound.take i).length = i := by rw [List.length_take]; omega
    have e2 : (x.s.bound.drop i).length = x.s.bound.length - i := List.length_drop
    have E1 := Lib.hid e1
    have E2 := Lib.hid e2
    have Hb5 := Lib.hid b5
    clear HLE HLy e1 e2 b5
    go_enter Try.func32, Try.ntmps32
    go_wp2_with fail
    refine (A3.out _ H.out).mono ?_; rintro e w4 ⟨rfl, hc4⟩
    have C4 := Lib.hid hc4
    have V4 := Lib.hid (H.out.keptN hc4)
    have c4 := blk_cell V4.out.1
    obtain ⟨g', c', hgc, hcell, -, hgl, hbn, hsrc⟩ := HAT.out _ V4.out
    cases hgc
    have q7 := hcell 7 (by omega)
    simp only [rsCells, List.getElem?_cons_zero, List.getElem?_cons_succ] at q7
    have Hsrc := Lib.hid hsrc
    have hbb : ((x.bn : Int) == 32) = false := beq_eq_false_iff_ne.2 (by have := Hb5.out; omega)
    clear hc4 hcell hsrc hbn
    go_wp2_with fail
    refine (A1.out _).mono ?_; rintro e w5 ⟨rfl, rfl⟩
    go_wp2_with fail
    refine (A4.out _ _ Hsrc.out).mono ?_; rintro e w6 ⟨rfl, hc6⟩
    have C6 := Lib.hid (C4.out.thenSame hc6)
    have V6 := Lib.hid (V4.out.keptN hc6)
    have c6 := blk_cell V6.out.1
    have l6 := lt_of_heap V6.out.1
    obtain ⟨g', c', hgc, hcell, -, hgl6, -, hsrc6⟩ := HAT.out _ V6.out
    cases hgc
    have q6 := hcell 7 (by omega)
    simp only [rsCells, List.getElem?_cons_zero, List.getElem?_cons_succ] at q6
    have Src6 := Lib.hid hsrc6
    clear hc6 hcell hsrc6
    go_wp2_with (first
      | (refine wpl_slice_hX rfl _ _ 46 rfl stElem (stSize _) x.bv x.s.bound i rfl Src6.out rfl hile ?_; intro vs1 hs1; have Hs1 := Lib.hid hs1; clear hs1)
      | (refine wpl_slice_lX rfl _ _ 46 rfl stElem (stSize _) x.bv x.s.bound i rfl Src8.out rfl hile ?_; intro vs2 hs2; have Hs2 := Lib.hid hs2; clear hs2)
      | (at_builtin; refine wpl_appendsX rfl _ _ 46 rfl w6.heap.size 9 _ 16 Try.underlying46 stInfo rfl (by decide) kLen kOne (.slice none 0 0) [] rfl (RowOf.nil _ _ _) vs1 _ rfl Hs1.out (by rw [E1.out]; unfold maxLen; simp; omega) (by rw [E1.out]; simp; omega) (Nat.le_refl _) ?_; intro v7 w7 hr7 hc7; have R7 := Lib.hid (show RowOf kc 1 w7 w6.heap.size 9 v7 (x.s.bound.take i) from hr7); have C7 := Lib.hid (Chg.thenRow (Chg.refl [] w6) (RowOf.nil (cf := kc) (sz := 1) w6 w6.heap.size 9) (Nat.le_refl _) hc7); have s7 := C7.out.size; clear hr7 hc7)
      | (at_builtin; refine wpl_append rfl _ _ 46 rfl w6.heap.size 9 _ 16 Try.underlying46 stInfo rfl (by decide) kLen kOne v7 (x.s.bound.take i) rfl (RowOf.kept R7.out ((Chg.refl [] _).alloc _) (by simp)) w7.heap.size _ (byt fn) _ _ _ rfl (heap_alloc_new w7 _) (by simp [kc, encStr, byt]) (by rw [E1.out]; unfold maxLen; omega) (by rw [E1.out]; omega) (by simp; omega) ?_; intro v8 w8 hr8 hg8; have R8 := Lib.hid hr8; have C8 := Lib.hid (Chg.thenRow (C7.out.alloc _) R7.out (Nat.le_refl _) (Chg.ofRow (v := v7) hg8)); have s8 := C8.out.size; have V8 := Lib.hid (V6.out.keptN C8.out); have c8 := blk_cell V8.out.1; have l8 := lt_of_heap V8.out.1; obtain ⟨g8, d8, hgc8, hcell8, -, hgl8, -, hsrc8⟩ := HAT.out _ V8.out; cases hgc8; have q8 := hcell8 7 (by omega); simp only [rsCells, List.getElem?_cons_zero, List.getElem?_cons_succ] at q8; have Src8 := Lib.hid hsrc8; clear hr8 hg8 hcell8 hsrc8)
      | (at_builtin; refine wpl_appendsX rfl _ _ 46 rfl w6.heap.size 9 _ 16 Try.underlying46 stInfo rfl (by decide) kLen kOne v8 (x.s.bound.take i ++ [byt fn]) rfl R8.out vs2 _ rfl Hs2.out (by rw [List.length_append, E1.out, E2.out]; unfold maxLen; simp; omega) (by rw [List.length_append, E1.out, E2.out]; simp; omega) (by omega) ?_; intro v9 w9 hr9 hc9; obtain ⟨a9, m9, n9, hv9⟩ := RowOf.shape3 hr9; subst hv9; have R9 := Lib.hid hr9; have C9 := Lib.hid (Chg.thenRow C8.out R8.out (Nat.le_refl _) hc9); have V9 := Lib.hid (V6.out.keptN C9.out); have c9 := blk_cell V9.out.1; have l9 := lt_of_heap V9.out.1; obtain ⟨g9, d9, hgc9, hcell9, hfr9, hgl9, -, -⟩ := HAT.out _ V9.out; cases hgc9; have q9 := hcell9 7 (by omega); simp only [rsCells, List.getElem?_cons_zero, List.getElem?_cons_succ] at q9; clear hr9 hc9 hcell9)
      | fail)
    go_ret
    rw [HL.out, Hins.out, Hx.out]
    exact RVPost.rebound hp rfl C6.out C9.out V9.out (by have := R9.out; rw [Hx.out] at this; exact this) hgl6
end Go.Proofs.Ytldilefhmpipkaa
