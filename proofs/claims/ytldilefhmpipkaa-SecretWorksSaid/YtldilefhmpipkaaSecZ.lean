/- Chapter 22: contracts of the reference: Put, Bind, Unbind. No condition. -/
import Derived.Test.YtldilefhmpipkaaSecY
import Derived.Test.YtldilefhmpipkaaRNm
namespace Go.Proofs.Ytldilefhmpipkaa
set_option linter.unusedVariables false
set_option linter.unusedSimpArgs false
open Go.RowKit

theorem Chg.thenRow {α : Type} {cf : α → List Value} {sz : Nat} {w w0 w1 w2 : World} {base : Nat} {e : TypeId} {v : Value} {l : List α} (h : Chg [] w w1) (hr : RowOf cf sz w0 base e v l) (hb : w.heap.size ≤ base) (k : Chg v.ownBlock.toList w1 w2) : Chg [] w w2 :=
  h.then k (by intro y hy hl; have := (hr.block y (by simpa using hy)).1; omega)
theorem RowOf.shape3 {α : Type} {cf : α → List Value} {sz : Nat} {w : World} {base : Nat} {e : TypeId} {v : Value} {l : List α} (h : RowOf cf sz w base e v l) : ∃ a m c, v = .slice a m c := by
  obtain ⟨a, c, h⟩ := RowOf.shape h; exact ⟨a, _, c, h⟩
theorem rsInfo : (Try.prog.info? 80).map (fun i => (i.zero, i.size, i.bytes)) = some (some (.agg #[.string ⟨#[]⟩, .string ⟨#[]⟩, .string ⟨#[]⟩, .bool false, .int .i64 0, .int .i64 0, .int .i64 0, .slice none 0 0]), 8, 104) := by kernel_rfl
theorem rsElem : Try.prog.underlying 54 = some (.slice (Try.prog.elem 54)) := by kernel_rfl
theorem rsSize (w : World) : (sizeOf (Try.prog.elem 54)).run Try.prog w = .ok 8 w := by kernel_rfl
theorem stInfo : (Try.prog.info? 9).map (fun i => (i.zero, i.size, i.bytes)) = some (some (.string ⟨#[]⟩), 1, 16) := by kernel_rfl
theorem stElem : Try.prog.underlying 46 = some (.slice (Try.prog.elem 46)) := by kernel_rfl
theorem stSize (w : World) : (sizeOf (Try.prog.elem 46)).run Try.prog w = .ok 1 w := by kernel_rfl

def rnms (L : List R0) : List (List UInt8) := L.map fun x => byt x.name
def posR (L : List R0) (name : ByteArray) : Nat := posOf (rnms L) (byt name)
def foundR (L : List R0) (name : ByteArray) : Bool := foundAt (rnms L) (byt name)
theorem rnms_map (l : List RSec) : (l.map fun x => byt x.s.name) = rnms (l.map RSec.s) := by unfold rnms; rw [List.map_map]; rfl
theorem posR_le (L : List R0) (name : ByteArray) : posR L name ≤ L.length := by
  have := posOf_le (rnms L) (byt name)
  unfold rnms at this
  rw [List.length_map] at this
  exact this
theorem foundR_lt {L : List R0} {name : ByteArray} (h : foundR L name = true) : ∃ hp : posR L name < L.length, (L[posR L name]).name = name := by
  unfold foundR foundAt at h
  simp only [beq_iff_eq] at h
  obtain ⟨h1, h2⟩ := List.getElem?_eq_some_iff.1 h
  have h3 : posR L name < L.length := by unfold rnms at h1; rw [List.length_map] at h1; exact h1
  refine ⟨h3, ?_⟩
  have h4 : (rnms L)[posOf (rnms L) (byt name)] = byt (L[posR L name]).name := by
    unfold rnms posR rnms
    exact List.getElem_map ..
  rw [h4] at h2
  exact bs_inj h2

def rnewS (name text : ByteArray) : R0 := ⟨name, text, ⟨#[]⟩, false, 0, 0, 1, []⟩
def rputE (L : List R0) (name text : ByteArray) : Int := if nameB name = true then (if textB text = true then (if foundR L name = true then 6 else if L.length = 256 then 3 else 0) else 1) else 4
def rputS (L : List R0) (name text : ByteArray) : List R0 := if rputE L name text = 0 then L.take (posR L name) ++ [rnewS name text] ++ L.drop (posR L name) else L

set_option maxHeartbeats 8000000 in
set_option maxRecDepth 100000 in
theorem rput_any (rb : Nat) (sv : Value) (l : List RSec) (name text : ByteArray) (w : World) (h : RVIs w rb sv l) (hn : name.size ≤ maxLen) (ht : text.size ≤ maxLen) (hll : l.length ≤ 4096) :
    Calls Try.prog 31 #[.pointer (some ⟨rb, 0, none⟩), .string name, .string text] w (RVPost w rb sv l (.int .i64 (rputE (l.map RSec.s) name text)) (rputS (l.map RSec.s) name text)) := by
  have H := Lib.hid h
  obtain ⟨E, hE⟩ : ∃ E, E = rputE (l.map RSec.s) name text := ⟨_, rfl⟩
  obtain ⟨L', hL'⟩ : ∃ L', L' = rputS (l.map RSec.s) name text := ⟨_, rfl⟩
  have HLE := Lib.hid (show ¬ E = 0 → L' = l.map RSec.s from fun hne => by rw [hL', rputS, ← hE, if_neg hne])
  have HLz := Lib.hid (show E = 0 → L' = (l.map RSec.s).take (posR (l.map RSec.s) name) ++ [rnewS name text] ++ (l.map RSec.s).drop (posR (l.map RSec.s) name) from fun hz => by rw [hL', rputS, ← hE, if_pos hz])
  rw [← hE, ← hL']
  unfold rputE at hE
  have A1 := fun w => rname_any name w hn
  have A2 := fun w => rtext_any text w ht
  have A3 := fun w h => rfind_any rb sv l name w h hll
  rw [rnms_map] at A3
  have hple := posR_le (l.map RSec.s) name
  rw [List.length_map] at hple
  have e1 : posOf (rnms (l.map RSec.s)) (byt name) = posR (l.map RSec.s) name := rfl
  have e2 : foundAt (rnms (l.map RSec.s)) (byt name) = foundR (l.map RSec.s) name := rfl
  rw [e1, e2] at A3
  generalize posR (l.map RSec.s) name = p at *
  have c0 := blk_cell h.1
  clear hL' e1 e2
  by_cases b1 : nameB name = true
  case neg =>
    rw [if_neg b1] at hE
    subst hE
    have b1' : nameB name = false := by simpa using b1
    have HL := Lib.hid (HLE.out (by decide))
    have A1 := Lib.hid (b1' ▸ A1)
    rename_i A10
    clear h b1 b1' A10 HLE HLz A2 A3
    go_enter Try.func31, Try.ntmps31
    go_wp2_with fail
    refine (A1.out _).mono ?_; rintro e w2 ⟨rfl, rfl⟩
    go_wp2_with fail
    go_ret
    rw [HL.out]
    exact RVPost.same rfl H.out (Chg.refl _ _)
  rw [if_pos b1] at hE
  have A1 := Lib.hid (b1 ▸ A1)
  rename_i A10
  clear A10 b1
  by_cases b2 : textB text = true
  case neg =>
    rw [if_neg b2] at hE
    subst hE
    have b2' : textB text = false := by simpa using b2
    have HL := Lib.hid (HLE.out (by decide))
    have A2 := Lib.hid (b2' ▸ A2)
    rename_i A20
    clear h b2 b2' A20 HLE HLz A3
    go_enter Try.func31, Try.ntmps31
    go_wp2_with fail
    refine (A1.out _).mono ?_; rintro e w2 ⟨rfl, rfl⟩
    go_wp2_with fail
    refine (A2.out _).mono ?_; rintro e w3 ⟨rfl, rfl⟩
    go_wp2_with fail
    go_ret
    rw [HL.out]
    exact RVPost.same rfl H.out (Chg.refl _ _)
  rw [if_pos b2] at hE
  have A2 := Lib.hid (b2 ▸ A2)
  rename_i A20
  clear A20 b2
  cases b3 : foundR (l.map RSec.s) name
  case true =>
    rw [if_pos b3] at hE
    subst hE
    rw [b3] at A3
    have HL := Lib.hid (HLE.out (by decide))
    have A3 := Lib.hid A3
    rename_i A30
    clear h b3 A30 HLE HLz
    go_enter Try.func31, Try.ntmps31
    go_wp2_with fail
    refine (A1.out _).mono ?_; rintro e w2 ⟨rfl, rfl⟩
    go_wp2_with fail
    refine (A2.out _).mono ?_; rintro e w3 ⟨rfl, rfl⟩
    go_wp2_with fail
    refine (A3.out _ H.out).mono ?_; rintro e w4 ⟨rfl, hc4⟩
    have C4 := Lib.hid hc4
    clear hc4
    go_wp2_with fail
    go_ret
    rw [HL.out]
    exact RVPost.same rfl H.out C4.out
  rw [if_neg (by simp [b3]), List.length_map] at hE
  rw [b3] at A3
  have A3 := Lib.hid A3
  rename_i A30
  have hsh : ∃ a c, sv = .slice a l.length c := RowOf.shape h.2.1
  obtain ⟨sa, sc, rfl⟩ := hsh
  clear h b3 A30
  by_cases b4 : l.length = 256
  · rw [if_pos b4] at hE
    subst hE
    have HL := Lib.hid (HLE.out (by decide))
    have b4' : ((l.length : Int) == 256) = true := by simp; omega
    clear HLE HLz b4
    go_enter Try.func31, Try.ntmps31
    go_wp2_with fail
    refine (A1.out _).mono ?_; rintro e w2 ⟨rfl, rfl⟩
    go_wp2_with fail
    refine (A2.out _).mono ?_; rintro e w3 ⟨rfl, rfl⟩
    go_wp2_with fail
    refine (A3.out _ H.out).mono ?_; rintro e w4 ⟨rfl, hc4⟩
    have C4 := Lib.hid hc4
    have c4 := blk_cell (hc4.at (by simp) H.out.1)
    clear hc4
    go_wp2_with fail
    go_ret
    rw [HL.out]
    exact RVPost.same rfl H.out C4.out
  rw [if_neg b4] at hE
  subst hE
  have HL := Lib.hid (HLz.out rfl)
  have b4' : ((l.length : Int) == 256) = false := beq_eq_false_iff_ne.2 (by omega)
  clear HLE HLz b4
  go_enter Try.func31, Try.ntmps31
  go_wp2_with fail
  refine (A1.out _).mono ?_; rintro e w2 ⟨rfl, rfl⟩
  go_wp2_with fail
  refine (A2.out _).mono ?_; rintro e w3 ⟨rfl, rfl⟩
  go_wp2_with fail
  refine (A3.out _ H.out).mono ?_; rintro e w4 ⟨rfl, hc4⟩
  have C4 := Lib.hid hc4
  have V4 := Lib.hid (H.out.keptN hc4)
  have c4 := blk_cell V4.out.1
  have l4 := lt_of_heap V4.out.1
  have src4 := Lib.hid (RowOf.src V4.out.2.1 rsLen)
  have e1 : (l.take p).length = p := by rw [List.length_take]; omega
  have e2 : (l.drop p).length = l.length - p := List.length_drop
  have E1 := Lib.hid e1
  have E2 := Lib.hid e2
  clear hc4 e1 e2
  go_wp2_with (first
    | (refine wpl_slice_hX rfl _ _ 54 rfl rsElem (rsSize _) (.slice sa l.length sc) l p rfl src4.out rfl hple ?_; intro vs1 hs1; have Hs1 := Lib.hid hs1; clear hs1)
    | (refine wpl_slice_lX rfl _ _ 54 rfl rsElem (rsSize _) (.slice sa l.length sc) l p rfl (RowOf.src V6.out.2.1 rsLen) rfl hple ?_; intro vs2 hs2; have Hs2 := Lib.hid hs2; clear hs2)
    | (at_builtin; refine wpl_appendsX rfl _ _ 54 rfl w4.heap.size 80 _ 104 Try.underlying54 rsInfo rfl (by decide) rsLen rsOne (.slice none 0 0) [] rfl (RowOf.nil _ _ _) vs1 _ rfl Hs1.out (by rw [E1.out]; unfold maxLen; simp; omega) (by rw [E1.out]; simp; omega) (Nat.le_refl _) ?_; intro v5 w5 hr5 hc5; have R5 := Lib.hid (show RowOf rsCells 8 w5 w4.heap.size 80 v5 (l.take p) from hr5); have C5 := Lib.hid (Chg.thenRow (Chg.refl [] w4) (RowOf.nil (cf := rsCells) (sz := 8) w4 w4.heap.size 80) (Nat.le_refl _) hc5); have s5 := C5.out.size; clear hr5 hc5)
    | (at_builtin; refine wpl_append rfl _ _ 54 rfl w4.heap.size 80 _ 104 Try.underlying54 rsInfo rfl (by decide) rsLen rsOne v5 (l.take p) rfl (RowOf.kept R5.out ((Chg.refl [] _).alloc _) (by simp)) w5.heap.size _ ⟨rnewS name text, none, 0, 0⟩ _ _ _ rfl (heap_alloc_new w5 _) rfl (by rw [E1.out]; unfold maxLen; omega) (by rw [E1.out]; omega) (by simp; omega) ?_; intro v6 w6 hr6 hg6; have R6 := Lib.hid hr6; have C6 := Lib.hid (Chg.thenRow (C5.out.alloc _) R5.out (Nat.le_refl _) (Chg.ofRow (v := v5) hg6)); have s6 := C6.out.size; have V6 := Lib.hid (V4.out.keptN C6.out); have c6 := blk_cell V6.out.1; have l6 := lt_of_heap V6.out.1; clear hr6 hg6)
    | (at_builtin; refine wpl_appendsX rfl _ _ 54 rfl w4.heap.size 80 _ 104 Try.underlying54 rsInfo rfl (by decide) rsLen rsOne v6 (l.take p ++ [⟨rnewS name text, none, 0, 0⟩]) rfl R6.out vs2 _ rfl Hs2.out (by rw [List.length_append, E1.out, E2.out]; unfold maxLen; simp; omega) (by rw [List.length_append, E1.out, E2.out]; simp; omega) (by omega) ?_; intro v7 w7 hr7 hc7; obtain ⟨a7, m7, n7, hv7⟩ := RowOf.shape3 hr7; subst hv7; have R7 := Lib.hid hr7; have C7 := Lib.hid (Chg.thenRow C6.out R6.out (Nat.le_refl _) hc7); have V7 := Lib.hid (V4.out.keptN C7.out); have c7 := blk_cell V7.out.1; have f7 := blk_free V7.out.1; have l7 := lt_of_heap V7.out.1; clear hr7 hc7)
    | fail)
  go_ret
  rw [HL.out]
  have hb := blk_set V7.out.1 1 (.slice a7 m7 n7)
  have hst : Chg [rb] w7 (w7.setCell ⟨rb, 1, none⟩ (.slice a7 m7 n7)) := (Chg.refl _ _).setCell _ _ (by simp)
  have hrn : ∀ g, (Value.slice a7 m7 n7).ownBlock = some g → g ≠ rb := fun g hg => by have := (R7.out.block g hg).1; omega
  have hbnd : ∀ x ∈ l, RowOf kc 1 (w7.setCell ⟨rb, 1, none⟩ (.slice a7 m7 n7)) 0 9 x.bv x.s.bound := fun x hx => (V7.out.2.2 x hx).kept hst (fun g hg e => by simp at e; subst e; exact (V7.out.apart.2 x hx).1 hg)
  refine ⟨rfl, .slice a7 m7 n7, l.take p ++ [⟨rnewS name text, none, 0, 0⟩] ++ l.drop p, by simp, ⟨hb, (R7.out.kept hst (fun g hg => by simpa using hrn g hg)).mono (Nat.zero_le _), ?_⟩, ((C4.out.thenSame C7.out).mono (T := rb :: (Value.slice sa l.length sc).ownBlock.toList) (by simp)).then hst (by simp), ?_⟩
  · intro x hx
    rcases List.mem_append.1 hx with hx | hx
    · rcases List.mem_append.1 hx with hx | hx
      · exact hbnd x (List.mem_of_mem_take hx)
      · simp at hx; subst hx; exact RowOf.nil _ _ _
    · exact hbnd x (List.mem_of_mem_drop hx)
  · intro b hb
    have hs4 := C4.out.size
    rcases mem_rfp.1 hb with rfl | hb | ⟨x, hx, hb⟩
    · exact .inl (mem_rfp.2 (.inl rfl))
    · right; have := (R7.out.block b hb).1; omega
    · rcases List.mem_append.1 hx with hx | hx
      · rcases List.mem_append.1 hx with hx | hx
        · exact .inl (mem_rfp.2 (.inr (.inr ⟨x, List.mem_of_mem_take hx, hb⟩)))
        · simp at hx; subst hx; cases hb
      · exact .inl (mem_rfp.2 (.inr (.inr ⟨x, List.mem_of_mem_drop hx, hb⟩)))
end Go.Proofs.Ytldilefhmpipkaa
