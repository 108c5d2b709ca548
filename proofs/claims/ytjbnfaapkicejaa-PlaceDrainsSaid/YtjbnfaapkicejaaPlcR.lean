/- Chapter 43: contract: Drain. No condition. -/
import Derived.Test.YtjbnfaapkicejaaStepA
import Derived.Test.YtjbnfaapkicejaaPlcN
namespace Go.Proofs.Ytjbnfaapkicejaa
set_option linter.unusedVariables false
set_option linter.unusedSimpArgs false
open Go.RowKit
section
variable {P : Program} {α : Type} {cf : α → List Value} {sz : Nat}
theorem wpl_appendL {w : World} {ops : Array Oper} {rest : List Oper} {o : Oper} {a : Act} {Q : Exit → Act → World → Prop} (hgd : o.guard = none) (s x : Operand) (t : TypeId)
    (ho : o.op = .call { callee := .builtin .append, args := #[s, x], argTypes := #[t, t] }) (base : Nat) (e : TypeId) (z : Value) (bytes : Nat) (ht : P.underlying t = some (.slice e)) (hi : (P.info? e).map (fun i => (i.zero, i.size, i.bytes)) = some (some z, sz, bytes))
    (hzs : z.cells.size = sz) (hsz : 0 < sz) (hc : ∀ x, (cf x).length = sz) (h1 : ∀ x, ∀ u ∈ cf x, u.oneCell' = true) (v : Value) (l : List α) (hs : a.eval s = v) (hown : RowOf cf sz w base e v l)
    (g c : Nat) (y : α) (cur : Array Value) (tt : TypeId) (fr : Nat × Nat) (hx : a.eval x = .slice (some ⟨g, 0, none⟩) 1 c) (hnew : w.heap[g]? = some (.cells cur tt fr)) (hcur : cur.toList = cf y) (h63 : l.length + 1 ≤ maxLen) (hbytes : (l.length + 1) * bytes ≤ 140737488355328) (hbase : base ≤ w.heap.size)
    (h : ∀ g' cap w', RowOf cf sz w' base e (.slice (some ⟨g', 0, none⟩) (l.length + 1) cap) (l ++ [y]) → w.grownBy w' v.ownBlock → (v.ownBlock = some g' ∨ g' = w.heap.size) → g' < w'.heap.size → wpList P ops Q rest (a.put o.dst (.slice (some ⟨g', 0, none⟩) (l.length + 1) cap)) w') :
    wpList P ops Q (o :: rest) a w := by
  obtain ⟨i, hi0, hz0, hz1, hz2⟩ := info_parts hi
  refine wpList_append_lies w hgd s x t ho base e i z sz bytes ht hi0 hz0 hz1 hz2 hzs hsz v l.length (l.flatMap cf) hs hown ⟨g, 0, none⟩ 1 c (cf y) hx (by rw [hc]; omega) ?_ (h1 y) (by omega) h63 hbytes hbase w.heap.size rfl ?_
  · intro j u hj
    have : (⟨g, 0, none⟩ : Addr).add j = ⟨g, j, none⟩ := by
      unfold Addr.add; split
      · rename_i e; rw [e]
      · simp
    rw [this, blk_cell hnew, ← Array.getElem?_toList, hcur]; exact hj
  · intro g' cap w' hown' hg hat hlt
    exact h g' cap w' (by unfold RowOf; simpa using hown') hg hat hlt
end
def offW (ws : List Wk) (i : Nat) : List Wk := match ws[i]? with | some x => ws.set i { x with dr := true } | none => ws
def moveGo (ws : List Wk) : List Pl → List Pl → List Pl × Int
  | stay, [] => (stay, 0)
  | stay, p :: rest => if (chooseP ws stay p).2 = 0 then moveGo ws (stay ++ [withW p (chooseP ws stay p).1]) rest else ([], (chooseP ws stay p).2)
def stays (s : ByteArray) (l : List Pl) : List Pl := l.filter (fun y => !(y.wk == s))
def moves (s : ByteArray) (l : List Pl) : List Pl := l.filter (fun y => y.wk == s)
def drainP (ws : List Wk) (l : List Pl) (s : ByteArray) : List Wk × List Pl × Int :=
  if checkP ws l = 0 then
    (if wIdx ws s < 0 then ([], [], 5)
     else if (moveGo (offW ws (wIdx ws s).toNat) (stays s l) (moves s l)).2 = 0 then (offW ws (wIdx ws s).toNat, (moveGo (offW ws (wIdx ws s).toNat) (stays s l) (moves s l)).1, 0)
     else ([], [], (moveGo (offW ws (wIdx ws s).toNat) (stays s l) (moves s l)).2))
  else ([], [], checkP ws l)
theorem stays_step (s : ByteArray) (l : List Pl) (k : Nat) (h : k < l.length) : stays s (l.take (k + 1)) = stays s (l.take k) ++ (if (l[k].wk == s) = true then [] else [l[k]]) := by
  rw [List.take_succ_eq_append_getElem h]
  unfold stays
  rw [List.filter_append]
  congr 1
  cases hq : l[k].wk == s <;> simp [List.filter, hq]
theorem moves_step (s : ByteArray) (l : List Pl) (k : Nat) (h : k < l.length) : moves s (l.take (k + 1)) = moves s (l.take k) ++ (if (l[k].wk == s) = true then [l[k]] else []) := by
  rw [List.take_succ_eq_append_getElem h]
  unfold moves
  rw [List.filter_append]
  congr 1
  cases hq : l[k].wk == s <;> simp [List.filter, hq]
theorem stays_len (s : ByteArray) (l : List Pl) : (stays s l).length ≤ l.length := List.length_filter_le _ _
theorem moves_len (s : ByteArray) (l : List Pl) : (moves s l).length ≤ l.length := List.length_filter_le _ _
theorem offW_mem {ws : List Wk} {i : Nat} (h : ∀ x ∈ ws, memB x.mem = true) : ∀ x ∈ offW ws i, memB x.mem = true := by
  intro x hx
  unfold offW at hx
  split at hx
  · rename_i y hy
    rcases List.mem_or_eq_of_mem_set hx with hx | rfl
    · exact h x hx
    · exact h y (List.mem_of_getElem? hy)
  · exact h x hx
theorem offW_len (ws : List Wk) (i : Nat) : (offW ws i).length = ws.length := by
  unfold offW
  split
  · exact List.length_set
  · rfl
set_option maxHeartbeats 16000000 in
set_option maxRecDepth 100000 in
theorem drain_any (aw : Option Addr) (cw : Nat) (ws : List Wk) (a : Option Addr) (c : Nat) (l : List Pl) (s : ByteArray) (w : World) (hw : InIs wkC 3 w aw cw ws) (hwl : ws.length ≤ 4096) (hwg : ∀ x ∈ ws, x.good)
    (h : InIs plC 4 w a c l) (hl : l.length ≤ 4096) (hg : ∀ x ∈ l, x.good) :
    Calls Try.prog 17 #[.slice aw ws.length cw, .slice a l.length c, .string s] w fun e w' => ∃ v1 v2, e = .returned (.tuple #[v1, v2, .int .i64 (drainP ws l s).2.2]) ∧ RowOf wkC 3 w' w.heap.size 36 v1 (drainP ws l s).1 ∧ RowOf plC 4 w' w.heap.size 25 v2 (drainP ws l s).2.1 ∧ Chg [] w w' := by
  have H := Lib.hid h
  have A1 := Lib.hid (check_any aw cw ws a c l w hw.1 hwl hw.2.1 hwg h.1 hl h.2.1 hg)
  have A2 := Lib.hid (fun w' (hc : Chg [] w w') => worker_any aw cw ws s w' (hw.1.kept hc) hwl)
  have A3 := Lib.hid (fun w' (hc : Chg [] w w') => clonew_any aw cw ws w' (hw.kept hc) hwl)
  obtain ⟨R, hR⟩ : ∃ R, R = drainP ws l s := ⟨_, rfl⟩
  rw [← hR]
  unfold drainP at hR
  have hz := @check_zero ws l
  generalize checkP ws l = E at *
  clear hw h hwg hg
  by_cases hE : E = 0
  case neg =>
    rw [if_neg hE] at hR
    subst hR
    have hE' : (E == 0) = false := by simpa using hE
    clear hz
    go_enter Try.func17, Try.ntmps17
    go_wp2_with fail
    refine A1.out.mono ?_; rintro e w1 ⟨rfl, hc1⟩
    have C1 := Lib.hid hc1
    clear hc1
    go_wp2_with fail
    go_ret3
    exact ⟨_, _, rfl, RowOf.nil _ _ _, RowOf.nil _ _ _, C1.out⟩
  rw [if_pos hE] at hR
  obtain ⟨z1, z2, z3, z4, z5⟩ := hz hE
  subst hE
  have hb : wIdx ws s < 0 ∨ ∃ m : Nat, wIdx ws s = (m : Int) ∧ m < ws.length := by
    rcases idx_find (fun x : Wk => x.name == s) ws with ⟨_, hi⟩ | ⟨i, hi0, _, hi⟩
    · exact .inl (by unfold wIdx; rw [hi]; decide)
    · exact .inr ⟨i, hi, hi0⟩
  generalize wIdx ws s = n at *
  rcases hb with hn | ⟨m, rfl, hm⟩
  · rw [if_pos hn] at hR
    subst hR
    clear hz z1 z2 z3 z4 z5
    go_enter Try.func17, Try.ntmps17
    go_wp2_with fail
    refine A1.out.mono ?_; rintro e w1 ⟨rfl, hc1⟩
    have C1 := Lib.hid hc1
    clear hc1
    go_wp2_with fail
    refine (A2.out _ C1.out).mono ?_; rintro e w2 ⟨rfl, hc2⟩
    have C2 := Lib.hid (C1.out.thenSame hc2)
    clear hc2
    go_wp2_with fail
    go_ret3
    exact ⟨_, _, rfl, RowOf.nil _ _ _, RowOf.nil _ _ _, C2.out⟩
  rw [if_neg (by omega), Int.toNat_natCast] at hR
  have HR := Lib.hid hR
  have hoff : offW ws m = ws.set m { ws[m] with dr := true } := by unfold offW; rw [List.getElem?_eq_getElem hm]
  have ZW := Lib.hid (offW_mem (i := m) z3)
  have Z4 := Lib.hid z4
  have hwl' := Lib.hid (offW_len ws m)
  have hm0 : (0 : Int) ≤ (m : Int) := by omega
  have hm1 : (m : Int) < (ws.length : Int) := by omega
  have hl256 := z2
  clear hz z1 z2 z3 z4 z5 hR
  go_enter Try.func17, Try.ntmps17
  go_wp2_with fail
  refine A1.out.mono ?_; rintro e w1 ⟨rfl, hc1⟩
  have C1 := Lib.hid hc1
  clear hc1
  go_wp2_with fail
  refine (A2.out _ C1.out).mono ?_; rintro e w2 ⟨rfl, hc2⟩
  have C2 := Lib.hid (C1.out.thenSame hc2)
  clear hc2
  go_wp2_with fail
  refine (A3.out _ C2.out).mono ?_; rintro e w3 ⟨v3, rfl, hr3, hc3⟩
  have C3 := Lib.hid (C2.out.thenSame hc3)
  obtain ⟨gw, kw, rfl⟩ : ∃ gw kw, v3 = .slice (some ⟨gw, 0, none⟩) ws.length kw := by
    rcases RowOf.at hr3 wkC_len with ⟨_, h0⟩ | ⟨g, cap, hv, _⟩
    · rw [h0] at hm; simp at hm
    · exact ⟨g, cap, hv⟩
  obtain ⟨-, q2, q3, q4, q5, q6, q7⟩ := RowOf.atS hr3 wkC_len
  have d2 := q4 m hm 2 (by omega)
  have f2 := q5 (m * 3 + 2)
  obtain ⟨W4, hW4⟩ : ∃ W4, W4 = w3.setCell ⟨gw, m * 3 + 2, none⟩ (.bool true) := ⟨_, rfl⟩
  have hr4 := RowOf.stored hr3 rfl wkC_len m hm 2 (by omega) (.bool true) { ws[m] with dr := true } rfl
  rw [← hW4, ← hoff] at hr4
  have R4 := Lib.hid hr4
  have C4 := Lib.hid (show Chg [] w W4 by rw [hW4]; exact C3.out.setCell _ _ (by intro hlt; have := C2.out.size; simp at q6 hlt; omega))
  have GW := Lib.hid (show w.heap.size ≤ gw ∧ gw < W4.heap.size from ⟨Nat.le_trans C2.out.size q6, by have := (hr4.block gw rfl).2; exact this⟩)
  have HW4 := Lib.hid hW4
  simp only [wkC, List.getElem?_cons_zero, List.getElem?_cons_succ] at d2
  clear hc3 hr3 hr4 hW4 q2 q3 q4 q5 q6 hoff
  go_wp2_with fail
  rw [← HW4.out]
  clear d2 f2 q7
  have G4 := Lib.hid (R4.out.block gw rfl)
  have RW := Lib.hid (R4.out.mono (Nat.le_refl _) |>.sl wkC_len)
  go_loopw [11, 12, 38] (fun st mv i wr => ∃ (k : Nat) (a1 : Option Addr) (c1 : Nat) (a2 : Option Addr) (c2 : Nat), i = .int .i64 k ∧ k ≤ l.length ∧ st = .slice a1 (stays s (l.take k)).length c1 ∧ mv = .slice a2 (moves s (l.take k)).length c2 ∧ Hid (RowOf plC 4 wr W4.heap.size 25 st (stays s (l.take k))) ∧ Hid (RowOf plC 4 wr W4.heap.size 25 mv (moves s (l.take k))) ∧ Hid (∀ g, st.ownBlock = some g → mv.ownBlock ≠ some g) ∧ Hid (Chg [] W4 wr)) (fun _ _ i _ => l.length - (intOf i).toNat)
  case atStart => exact ⟨0, none, 0, none, 0, rfl, Nat.zero_le _, rfl, rfl, Lib.hid (RowOf.nil _ _ _), Lib.hid (RowOf.nil _ _ _), Lib.hid (by intro g h; simp [Value.ownBlock] at h), Lib.hid (Chg.refl _ _)⟩
  case round =>
    obtain ⟨k, a1, c1, a2, c2, rfl, hkl, rfl, rfl, HS, HM, HD, D⟩ := hrel
    by_cases hk : k < l.length
    · obtain ⟨g1, o1, rfl, -, hbr1, hcc⟩ := H.out.1.elem (C4.out.thenSame D.out) k hk
      have d0 := hcc 0 (by omega)
      have d1 := hcc 1 (by omega)
      have d2 := hcc 2 (by omega)
      have d3 := hcc 3 (by omega)
      have hst := stays_step s l k hk
      have hmt := moves_step s l k hk
      have hsl : (stays s (l.take k)).length ≤ 256 := Nat.le_trans (stays_len _ _) (by rw [List.length_take]; omega)
      have hml : (moves s (l.take k)).length ≤ 256 := Nat.le_trans (moves_len _ _) (by rw [List.length_take]; omega)
      generalize l[k] = y at *
      simp only [plC, List.getElem?_cons_zero, List.getElem?_cons_succ, Nat.add_zero] at d0 d1 d2 d3
      have hk0 : (0 : Int) ≤ (k : Int) := by omega
      have hk1 : (k : Int) < (l.length : Int) := by omega
      have HSL := Lib.hid hsl
      have HML := Lib.hid hml
      rw [beq_toListBytes] at hst hmt
      have E1 := Lib.hid (D.out.alloc (plO y))
      have E2 := Lib.hid (E1.out.alloc (plO y))
      have N2 := Lib.hid (heap_alloc_new (wr.alloc (plO y)) (plO y))
      have n1 := World.size_alloc wr (plO y)
      have n2 := World.size_alloc (wr.alloc (plO y)) (plO y)
      have hWr := D.out.size
      clear hcc hsl hml
      cases q1 : y.wk.toList == s.toList
      · rw [q1, if_neg (by decide)] at hst
        rw [q1, if_neg (by decide), List.append_nil] at hmt
        have HST := Lib.hid hst
        have HMT := Lib.hid hmt
        clear hst hmt
        generalize stays s (l.take k) = L at *
        generalize moves s (l.take k) = M at *
        go_wp2_with (at_builtin; refine wpl_appendL rfl _ _ 23 rfl W4.heap.size 25 _ 56 Try.underlying23 plInfo rfl (by decide) plC_len plC_one (.slice a1 L.length c1) L rfl (RowOf.kept HS.out (((Chg.refl [] wr).alloc (plO y)).alloc (plO y)) (by simp)) (wr.heap.size + 1) 1 y _ _ _ rfl (by rw [← n1]; exact N2.out) rfl (by unfold maxLen; have := HSL.out; omega) (by have := HSL.out; omega) E2.out.size ?_; intro g5 k5 w5 hr5 hg5 hw5 hl5)
        have hk5 : RowOf plC 4 w5 W4.heap.size 25 (.slice a2 M.length c2) M := RowOf.kept (RowOf.kept HM.out (((Chg.refl [] wr).alloc (plO y)).alloc (plO y)) (by simp)) (Chg.ofRow hg5) (fun g hg hmem => HD.out g (by simpa using hmem) hg)
        have hd5 : g5 ≠ g5 ∨ ∀ g, (Value.slice a2 M.length c2).ownBlock = some g → g ≠ g5 := .inr (fun g hg e => by
          subst e
          rcases hw5 with h | h
          · exact HD.out g h hg
          · have := (HM.out.block g hg).2
            have h' : g = ((wr.alloc (plO y)).alloc (plO y)).heap.size := h
            rw [n2, n1] at h'
            omega)
        have hc5 : Chg [] W4 w5 := E2.out.then (Chg.ofRow hg5) (by intro y hy hl; have := (HS.out.block y (by simpa using hy)).1; omega)
        exact ⟨⟨k + 1, some ⟨g5, 0, none⟩, k5, a2, c2, by go_num, by omega, by rw [HST.out, List.length_append]; rfl, by rw [HMT.out], Lib.hid (by rw [HST.out]; exact hr5), Lib.hid (by rw [HMT.out]; exact hk5), Lib.hid (fun g hg hm => by
          have e : g5 = g := by simpa [Value.ownBlock] using hg
          exact hd5.resolve_left (by simp) g hm e.symm), Lib.hid hc5⟩, by simp [intOf]; omega⟩
      · rw [q1, if_pos rfl, List.append_nil] at hst
        rw [q1, if_pos rfl] at hmt
        have HST := Lib.hid hst
        have HMT := Lib.hid hmt
        clear hst hmt
        generalize stays s (l.take k) = L at *
        generalize moves s (l.take k) = M at *
        go_wp2_with (at_builtin; refine wpl_appendL rfl _ _ 23 rfl W4.heap.size 25 _ 56 Try.underlying23 plInfo rfl (by decide) plC_len plC_one (.slice a2 M.length c2) M rfl (RowOf.kept HM.out (((Chg.refl [] wr).alloc (plO y)).alloc (plO y)) (by simp)) (wr.heap.size + 1) 1 y _ _ _ rfl (by rw [← n1]; exact N2.out) rfl (by unfold maxLen; have := HML.out; omega) (by have := HML.out; omega) E2.out.size ?_; intro g5 k5 w5 hr5 hg5 hw5 hl5)
        have hk5 : RowOf plC 4 w5 W4.heap.size 25 (.slice a1 L.length c1) L := RowOf.kept (RowOf.kept HS.out (((Chg.refl [] wr).alloc (plO y)).alloc (plO y)) (by simp)) (Chg.ofRow hg5) (fun g hg hmem => HD.out g hg (by simpa using hmem))
        have hd5 : g5 ≠ g5 ∨ ∀ g, (Value.slice a1 L.length c1).ownBlock = some g → g ≠ g5 := .inr (fun g hg e => by
          subst e
          rcases hw5 with h | h
          · exact HD.out g hg h
          · have := (HS.out.block g hg).2
            have h' : g = ((wr.alloc (plO y)).alloc (plO y)).heap.size := h
            rw [n2, n1] at h'
            omega)
        have hc5 : Chg [] W4 w5 := E2.out.then (Chg.ofRow hg5) (by intro y hy hl; have := (HM.out.block y (by simpa using hy)).1; omega)
        exact ⟨⟨k + 1, a1, c1, some ⟨g5, 0, none⟩, k5, by go_num, by omega, by rw [HST.out], by rw [HMT.out, List.length_append]; rfl, Lib.hid (by rw [HST.out]; exact hk5), Lib.hid (by rw [HMT.out]; exact hr5), Lib.hid (fun g hg hm => by
          have e : g5 = g := by simpa [Value.ownBlock] using hm
          exact hd5.resolve_left (by simp) g hg e.symm), Lib.hid hc5⟩, by simp [intOf]; omega⟩
    · have hks : k = l.length := by omega
      subst hks
      rw [List.take_length] at *
      have hsl : (stays s l).length ≤ 256 := Nat.le_trans (stays_len _ _) hl256
      have hml : (moves s l).length ≤ 256 := Nat.le_trans (moves_len _ _) hl256
      have ZS := Lib.hid (show ∀ q ∈ stays s l, memB q.mem = true from fun q hq => Z4.out q (List.mem_filter.1 hq).1)
      have ZM := Lib.hid (show ∀ q ∈ moves s l, memB q.mem = true from fun q hq => Z4.out q (List.mem_filter.1 hq).1)
      generalize stays s l = S0 at *
      generalize moves s l = M0 at *
      have hwl2 := hwl'.out
      generalize offW ws m = ws' at *
      have RW2 := Lib.hid (show SlIs wkC 3 W4 (some ⟨gw, 0, none⟩) ws'.length ws' by rw [hwl2]; exact RW.out.1)
      have HWL := Lib.hid hwl2
      clear RW hwl2 hwl'
      go_wp2_with fail
      go_loopw [11, 57] (fun st i wr => ∃ (k : Nat) (a1 : Option Addr) (c1 : Nat) (S : List Pl), i = .int .i64 k ∧ k ≤ M0.length ∧ st = .slice a1 S.length c1 ∧ Hid (RowOf plC 4 wr W4.heap.size 25 st S) ∧ Hid (RowOf plC 4 wr W4.heap.size 25 (.slice a2 M0.length c2) M0) ∧ Hid (∀ g, st.ownBlock = some g → (Value.slice a2 M0.length c2).ownBlock ≠ some g) ∧ Hid (Chg [] W4 wr) ∧ Hid (moveGo ws' S0 M0 = moveGo ws' S (M0.drop k)) ∧ Hid (S.length ≤ 256 + k) ∧ Hid (∀ q ∈ S, memB q.mem = true)) (fun _ i _ => M0.length - (intOf i).toNat)
      case atStart => exact ⟨0, a1, c1, S0, rfl, Nat.zero_le _, rfl, HS, HM, HD, D, Lib.hid (by rw [List.drop_zero]), Lib.hid hsl, ZS⟩
      case round =>
        obtain ⟨k, b1, e1, S, rfl, hkl, rfl, HS, HM, HD, D, HG, HL, ZS⟩ := hrel
        by_cases hk : k < M0.length
        · have hkm : k < 256 := by omega
          obtain ⟨g1, o1, rfl, -, hbr1, hcc⟩ := (RowOf.sl HM.out plC_len).1.elem (Chg.refl [] wr) k hk
          have d0 := hcc 0 (by omega)
          have d1 := hcc 1 (by omega)
          have d2 := hcc 2 (by omega)
          have d3 := hcc 3 (by omega)
          have hgo : M0.drop k = M0[k] :: M0.drop (k + 1) := List.drop_eq_getElem_cons hk
          have hym := ZM.out M0[k] (List.getElem_mem hk)
          generalize M0[k] = y at *
          simp only [plC, List.getElem?_cons_zero, List.getElem?_cons_succ, Nat.add_zero] at d0 d1 d2 d3
          have hk0 : (0 : Int) ≤ (k : Int) := by omega
          have hk1 : (k : Int) < (M0.length : Int) := by omega
          have hgo2 := HG.out
          rw [hgo, moveGo] at hgo2
          have E1 := Lib.hid (D.out.alloc (plO y))
          have N1 := Lib.hid (heap_alloc_new wr (plO y))
          have HS1 := Lib.hid (RowOf.kept HS.out ((Chg.refl [] wr).alloc (plO y)) (by simp))
          have hS5 : S.length ≤ 512 := by have := HL.out; omega
          have B1 := Lib.hid (choose_any (some ⟨gw, 0, none⟩) kw ws' b1 e1 S y _ (RW2.out.kept E1.out) (by rw [HWL.out]; exact hwl) (RowOf.sl HS1.out plC_len).1 (by omega) ZW.out ZS.out)
          have HGO := Lib.hid hgo
          obtain ⟨V, hV⟩ : ∃ V, V = chooseP ws' S y := ⟨_, rfl⟩
          rw [← hV] at hgo2 B1
          obtain ⟨nm, E⟩ := V
          simp only at hgo2 B1
          rw [HWL.out] at B1
          unfold plV plO at B1
          clear hcc hgo hV
          by_cases hE : E = 0
          case neg =>
            rw [if_neg hE] at hgo2
            have hE' : (E == 0) = false := by simpa using hE
            have HF : Hid (R = ([], [], E)) := Lib.hid (by rw [HR.out, hgo2]; simp [hE])
            clear hgo2
            go_wp2_with fail
            refine B1.out.mono ?_; rintro e w6 ⟨rfl, hc6⟩
            have D6 := Lib.hid (E1.out.thenSame hc6)
            clear hc6
            go_wp2_with fail
            go_ret3
            exact ⟨_, _, by rw [HF.out]; rfl, by rw [HF.out]; exact RowOf.nil _ _ _, by rw [HF.out]; exact RowOf.nil _ _ _, C4.out.thenSame D6.out⟩
          subst hE
          rw [if_pos rfl] at hgo2
          have HG2 := Lib.hid hgo2
          clear hgo2
          have n1 := World.size_alloc wr (plO y)
          have hWr := D.out.size
          go_wp2_with fail
          refine B1.out.mono ?_; rintro e w6 ⟨rfl, hc6⟩
          have X6 := Lib.hid (hc6.at (by simp) N1.out)
          have x6 := blk_cell X6.out
          have f6 := blk_free X6.out
          have l6 := lt_of_heap X6.out
          have z6 := hc6.size
          obtain ⟨W7, hW7⟩ : ∃ W7, W7 = w6.setCell ⟨wr.heap.size, 3, none⟩ (.string nm) := ⟨_, rfl⟩
          have K7 := Lib.hid (show Chg [] wr W7 by rw [hW7]; exact (((Chg.refl [] wr).alloc (plO y)).thenSame hc6).setCell _ _ (by simp))
          have X7 := Lib.hid (show W7.heap[wr.heap.size]? = some (plO (withW y nm)) by rw [hW7]; exact blk_set X6.out 3 _)
          have x7 := blk_cell X7.out
          have l7 := lt_of_heap X7.out
          have N8 := Lib.hid (heap_alloc_new W7 (plO (withW y nm)))
          have K8 := Lib.hid (K7.out.alloc (plO (withW y nm)))
          have n8 := World.size_alloc W7 (plO (withW y nm))
          have HS8 := Lib.hid (RowOf.kept HS.out K8.out (by simp))
          have HM8 := Lib.hid (RowOf.kept HM.out K8.out (by simp))
          have S8 := Lib.hid (D.out.thenSame K8.out).size
          clear hc6 z6 x7 l7
          have s7 : W7.heap.size = w6.heap.size := by rw [hW7]; simp [World.setCell]
          have N9 := N8.out
          rw [s7] at N9 n8
          have N9 := Lib.hid N9
          clear N8
          subst hW7
          go_wp2_with (at_builtin; refine wpl_appendL rfl _ _ 23 rfl W4.heap.size 25 _ 56 Try.underlying23 plInfo rfl (by decide) plC_len plC_one (.slice b1 S.length e1) S rfl HS8.out w6.heap.size 1 (withW y nm) _ _ _ rfl N9.out rfl (by unfold maxLen; omega) (by omega) S8.out ?_; intro g9 k9 w9 hr9 hg9 hw9 hl9)
          have hk9 : RowOf plC 4 w9 W4.heap.size 25 (.slice (some ⟨g1, o1, none⟩) M0.length c2) M0 := RowOf.kept HM8.out (Chg.ofRow hg9) (fun g hg hmem => HD.out g (by simpa using hmem) hg)
          have hd9 : ∀ g, (Value.slice (some ⟨g1, o1, none⟩) M0.length c2).ownBlock = some g → g ≠ g9 := fun g hg e => by
            subst e
            rcases hw9 with h | h
            · exact HD.out g h hg
            · have := (HM.out.block g hg).2
              have h' : g = ((w6.setCell ⟨wr.heap.size, 3, none⟩ (.string nm)).alloc (plO (withW y nm))).heap.size := h
              rw [n8] at h'
              omega
          have hc9 : Chg [] W4 w9 := (D.out.thenSame K8.out).then (Chg.ofRow hg9) (by intro y hy hl; have := (HS.out.block y (by simpa using hy)).1; omega)
          exact ⟨⟨k + 1, some ⟨g9, 0, none⟩, k9, S ++ [withW y nm], by go_num, by omega, by rw [List.length_append]; rfl, Lib.hid hr9, Lib.hid hk9, Lib.hid (fun g hg hm => by
            have e : g9 = g := by simpa [Value.ownBlock] using hg
            exact hd9 g hm e.symm), Lib.hid hc9, HG2, Lib.hid (by rw [List.length_append]; have := HL.out; simp; omega), Lib.hid (fun q hq => by
            rcases List.mem_append.1 hq with hq | hq
            · exact ZS.out q hq
            · simp at hq; subst hq; exact hym)⟩, by simp [intOf]; omega⟩
        · have hks : k = M0.length := by omega
          subst hks
          have hgo2 := HG.out
          rw [List.drop_length, moveGo] at hgo2
          have HF : Hid (R = (ws', S, 0)) := Lib.hid (by rw [HR.out, hgo2]; rfl)
          clear hgo2 HG
          go_wp2_with fail
          go_ret3
          exact ⟨.slice (some ⟨gw, 0, none⟩) ws.length kw, _, by rw [HF.out]; rfl, by rw [HF.out]; exact (RowOf.kept R4.out D.out (by simp)).mono C2.out.size, by rw [HF.out]; exact HS.out.mono C4.out.size, C4.out.thenSame D.out⟩
end Go.Proofs.Ytjbnfaapkicejaa
