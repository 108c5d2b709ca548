/- Chapter 52: has; a part of a slice; a list of strings beside two ledgers. No condition. -/
import Derived.Test.YtfnnnflfikmekaaUseX
import Derived.Test.YtfnnnflfikmekaaStepA
namespace Go.Proofs.Ytfnnnflfikmekaa
set_option linter.unusedVariables false
set_option linter.unusedSimpArgs false
open Go.RowKit
theorem wpl_slice_lh {P : Program} {k : Nat} {w : World} {ops : Array Oper} {rest : List Oper} {o : Oper} {a : Act} {Q : Exit → Act → World → Prop} (hgd : o.guard = none) (s l h : Operand) (t : TypeId) (ho : o.op = Op.slice t s (some l) (some h) none) (ht : P.underlying t = some (.slice (P.elem t)))
    (hsz : (sizeOf (P.elem t)).run P w = .ok k w) (g off n c m j : Nat) (hs : a.eval s = .slice (some ⟨g, off, none⟩) n c) (hl : a.eval l = .int .i64 (m : Int)) (hh : a.eval h = .int .i64 (j : Int)) (hm : m ≤ j) (hj : j ≤ c) (hne : m < c) (hK : wpList P ops Q rest (a.put o.dst (.slice (some ⟨g, off + m * k, none⟩) (j - m) (c - m))) w) : wpList P ops Q (o :: rest) a w := by
  refine wpList_plain hgd fun K' hK' => ?_
  have hrun := run_slice_lh (P := P) (w := w) t (some ⟨g, off, none⟩) n c ht .i64 .i64 (m : Int) (j : Int) (by omega) (by omega) (by omega)
  rw [hsz] at hrun
  simp only [Result.andThen, sliced, Int.toNat_natCast, Option.map_some, addr_none] at hrun
  rw [if_neg (show ¬ c = m by omega)] at hrun
  rw [← run_sliceAt_slice (P := P) (h := ht)] at hrun
  unfold Oper.wp
  simp [execOp, ho, hs, hl, hh, hrun, Result.andThen]
  exact hK' _ _ hK
theorem wpl_slice_one {P : Program} {k : Nat} {w : World} {ops : Array Oper} {rest : List Oper} {o : Oper} {a : Act} {Q : Exit → Act → World → Prop} (hgd : o.guard = none) (s l h : Operand) (t : TypeId) (ho : o.op = Op.slice t s (some l) (some h) none) (ht : P.underlying t = some (.slice (P.elem t)))
    (hsz : (sizeOf (P.elem t)).run P w = .ok k w) (g off n c m : Nat) (hs : a.eval s = .slice (some ⟨g, off, none⟩) n c) (hl : a.eval l = .int .i64 (m : Int)) (hh : a.eval h = .int .i64 ((m : Int) + 1)) (hj : m + 1 ≤ c) (hK : wpList P ops Q rest (a.put o.dst (.slice (some ⟨g, off + m * k, none⟩) 1 (c - m))) w) : wpList P ops Q (o :: rest) a w := by
  refine wpl_slice_lh hgd s l h t ho ht hsz g off n c m (m + 1) hs hl (by rw [hh]; rfl) (by omega) hj (by omega) ?_
  rw [show m + 1 - m = 1 by omega]
  exact hK
theorem p_play1 {W w : World} {b : Nat} {s : Led} {K : List Nat → World → Prop} (sK : Side K) (h : Pair W w (JL b s) K) (a : Option Addr) (cap : Nat) (x : OpU) (sl : SlIs opC 11 W a 1 [x]) (hg : x.good) (hl : s.l.length + 1 ≤ 4000) :
    Calls Try.prog 12 #[.pointer (some ⟨b, 0, none⟩), .slice a 1 cap] w fun e w' => e = .returned (.tuple #[]) ∧ Pair W w' (JL b (stepU s x)) K :=
  p_play sK h a cap [x] sl (by intro y hy; simp at hy; subst hy; exact hg) hl
/-- One element as a slice. -/
theorem SlIs.one {α : Type} {cf : α → List Value} {sz : Nat} {w : World} {g off n : Nat} {l : List α} (h : SlIs cf sz w (some ⟨g, off, none⟩) n l) (k : Nat) (hk : k < l.length) : SlIs cf sz w (some ⟨g, off + k * sz, none⟩) 1 [l[k]] := by
  refine ⟨rfl, fun j hj => ?_⟩
  have hj0 : j = 0 := by simpa using hj
  subst hj0
  obtain ⟨b, o, h1, h2, h3⟩ := h.2 k hk
  cases h1
  exact ⟨g, off + k * sz, rfl, h2, fun i hi => by rw [Nat.zero_mul, Nat.add_zero]; exact h3 i hi⟩
section
variable {P : Program} {α : Type} {cf : α → List Value} {sz : Nat}
theorem wpl_appendL {w : World} {ops : Array Oper} {rest : List Oper} {o : Oper} {a : Act} {Q : Exit → Act → World → Prop} (hgd : o.guard = none) (s x : Operand) (t : TypeId)
    (ho : o.op = .call { callee := .builtin .append, args := #[s, x], argTypes := #[t, t] }) (base : Nat) (e : TypeId) (z : Value) (bytes : Nat) (ht : P.underlying t = some (.slice e)) (hi : (P.info? e).map (fun i => (i.zero, i.size, i.bytes)) = some (some z, sz, bytes))
    (hzs : z.cells.size = sz) (hsz : 0 < sz) (hc : ∀ x, (cf x).length = sz) (h1 : ∀ x, ∀ u ∈ cf x, u.oneCell' = true) (v : Value) (l : List α) (hs : a.eval s = v) (hown : RowOf cf sz w base e v l)
    (g c : Nat) (y : α) (cur : Array Value) (tt : TypeId) (fr : Nat × Nat) (hx : a.eval x = .slice (some ⟨g, 0, none⟩) 1 c) (hnew : w.heap[g]? = some (.cells cur tt fr)) (hcur : cur.toList = cf y) (h63 : l.length + 1 ≤ maxLen) (hbytes : (l.length + 1) * bytes ≤ 140737488355328) (hbase : base ≤ w.heap.size)
    (h : ∀ g' cap w', RowOf cf sz w' base e (.slice (some ⟨g', 0, none⟩) (l.length + 1) cap) (l ++ [y]) → w.grownBy w' v.ownBlock → (v.ownBlock = some g' ∨ g' = w.heap.size) → g' < w'.heap.size → wpList P ops Q rest (a.put o.dst (.slice (some ⟨g', 0, none⟩) (l.length + 1) cap)) w') :
    wpList P ops Q (o :: rest) a w := by
  obtain ⟨i, hi0, hz0, hz1, hz2⟩ := info_parts hi
  refine wpList_append_lies w hgd s x t ho base e i z sz bytes ht hi0 hz0 hz1 hz2 hzs hsz v l.length (l.flatMap cf) hs hown ⟨g, 0, none⟩ 1 c (cf y) hx (by rw [hc]; omega) ?_ (h1 y) (by omega) h63 hbytes hbase w.heap.size rfl ?_
  · intro j u hj
    have : (⟨g, 0, none⟩ : Addr).add j = ⟨g, j, none⟩ := by
      unfold Addr.add; split
      · rename_i e; rw [e]
      · simp
    rw [this, blk_cell hnew, ← Array.getElem?_toList, hcur]; exact hj
  · intro g' cap w' hown' hg hat hlt
    exact h g' cap w' (by unfold RowOf; simpa using hown') hg hat hlt
end
/-- A list of strings of the call's own, as a side. -/
def RowS (v : Value) (l : List (List UInt8)) : List Nat → World → Prop := fun f w => f = v.ownBlock.toList ∧ RowOf kc 1 w 0 9 v l
theorem rowSide (v : Value) (l : List (List UInt8)) : Side (RowS v l) := by
  constructor
  · rintro f w ⟨rfl, h⟩ x hx
    exact (h.block x (by simpa using hx)).2
  · rintro f S w w' ⟨rfl, h⟩ hc hS
    exact ⟨rfl, h.kept hc (fun g hg => hS g (by simp [hg]))⟩
variable {W w w' : World} {J K M M' : List Nat → World → Prop}
theorem Pair.comm (h : Pair W w J (AndSide K M)) : Pair W w J (AndSide M K) := by
  obtain ⟨f, g, h1, ⟨g1, g2, rfl, k1, k2, k3⟩, h3, h4, h5, h6⟩ := h
  refine ⟨f, g2 ++ g1, h1, ⟨g2, g1, rfl, k2, k1, fun x hx hy => k3 x hy hx⟩, h3, ?_, ?_, h6⟩
  · intro x hx
    exact h4 x (by rcases List.mem_append.1 hx with h | h <;> simp [h])
  · intro x hx hy
    exact h5 x hx (by rcases List.mem_append.1 hy with h | h <;> simp [h])
theorem Pair.row {v : Value} {l : List (List UInt8)} (h : Pair W w J (AndSide K (RowS v l))) : RowOf kc 1 w 0 9 v l := by
  obtain ⟨f, g, h1, ⟨g1, g2, rfl, k1, ⟨_, k2⟩, k3⟩, _⟩ := h
  exact k2
theorem Pair.addRow (sJ : Side J) (sK : Side K) (h : Pair W w J K) : Pair W w J (AndSide K (RowS (.slice none 0 0) [])) := by
  obtain ⟨f, g, h1, h2, h3, h4, h5, h6⟩ := h
  exact ⟨f, g ++ [], h1, ⟨g, [], rfl, h2, ⟨rfl, RowOf.nil _ _ _⟩, by simp⟩, h3, by simpa using h4, by simpa using h5, h6⟩
theorem Pair.turnRow {v v' : Value} {l l' : List (List UInt8)} (sJ : Side J) (sK : Side K) (h : Pair W w J (AndSide K (RowS v l))) (hr : RowOf kc 1 w' 0 9 v' l') (hc : Chg v.ownBlock.toList w w') (hb : ∀ x, v'.ownBlock = some x → v.ownBlock = some x ∨ w.heap.size ≤ x) : Pair W w' J (AndSide K (RowS v' l')) := by
  have h' : Pair W w (RowS v l) (AndSide J K) := h.comm.swap
  refine Pair.comm (Pair.swap ?_)
  refine h'.turn (andSide sJ sK) ?_
  rintro f ⟨rfl, _⟩ _
  exact ⟨v'.ownBlock.toList, ⟨rfl, hr⟩, hc, fun x hx => by
    rcases hb x (by simpa using hx) with h | h
    · exact .inl (by simp [h])
    · exact .inr h⟩
theorem Pair.mid {N : List Nat → World → Prop} (h : Pair W w J (AndSide (AndSide K M) N)) : Pair W w J (AndSide (AndSide K N) M) := by
  obtain ⟨f, g, h1, ⟨g1, g2, rfl, ⟨g3, g4, rfl, k1, k2, k3⟩, k4, k5⟩, h3, h4, h5, h6⟩ := h
  refine ⟨f, (g3 ++ g2) ++ g4, h1, ⟨g3 ++ g2, g4, rfl, ⟨g3, g2, rfl, k1, k4, fun x hx hy => k5 x (by simp [hx]) hy⟩, k2, ?_⟩, h3, ?_, ?_, h6⟩
  · intro x hx hy
    rcases List.mem_append.1 hx with hx | hx
    · exact k3 x hx hy
    · exact k5 x (by simp [hy]) hx
  · intro x hx
    simp only [List.mem_append] at hx
    rcases hx with (hx | hx) | hx <;> exact h4 x (by simp [hx])
  · intro x hx hy
    simp only [List.mem_append] at hy
    rcases hy with (hy | hy) | hy <;> exact h5 x hx (by simp [hy])
theorem Pair.dropMid {N : List Nat → World → Prop} (h : Pair W w J (AndSide (AndSide K N) M)) : Pair W w J (AndSide K M) := by
  obtain ⟨f, g, h1, ⟨g1, g2, rfl, ⟨g3, g4, rfl, k1, k2, k3⟩, k4, k5⟩, h3, h4, h5, h6⟩ := h
  refine ⟨f, g3 ++ g2, h1, ⟨g3, g2, rfl, k1, k4, fun x hx hy => k5 x (by simp [hx]) hy⟩, h3, ?_, ?_, h6⟩
  · intro x hx
    rcases List.mem_append.1 hx with hx | hx <;> exact h4 x (by simp [hx])
  · intro x hx hy
    rcases List.mem_append.1 hy with hy | hy <;> exact h5 x hx (by simp [hy])
theorem Pair.boxMid {u : Nat} {o : Obj} (h : Pair W w J (AndSide (AndSide K (Box u o)) M)) : w.heap[u]? = some o := by
  obtain ⟨f, g, h1, ⟨g1, g2, rfl, ⟨g3, g4, rfl, k1, ⟨_, k2⟩, k3⟩, k4, k5⟩, h3, h4, h5, h6⟩ := h
  exact k2
theorem Pair.drop (h : Pair W w J (AndSide K M)) : Pair W w J K := by
  obtain ⟨f, g, h1, ⟨g1, g2, rfl, k1, k2, k3⟩, h3, h4, h5, h6⟩ := h
  exact ⟨f, g1, h1, k1, h3, fun x hx => h4 x (by simp [hx]), fun x hx hy => h5 x hx (by simp [hy]), h6⟩
theorem mem_step (l : List (List UInt8)) (x : List UInt8) (k : Nat) (hk : k < l.length) : (l.take (k + 1)).contains x = ((l.take k).contains x || l[k] == x) := by
  rw [List.take_succ_eq_append_getElem hk, Bool.eq_iff_iff]
  simp only [List.contains_iff_mem, List.mem_append, List.mem_singleton, Bool.or_eq_true, beq_iff_eq]
  exact ⟨fun h => h.imp id Eq.symm, fun h => h.imp id Eq.symm⟩
theorem str_eq (x : List UInt8) (s : ByteArray) : ((⟨x.toArray⟩ : ByteArray).toList == s.toList) = (x == bs s) := by
  rw [ByteArray.toList_eq, ByteArray.toList_eq]
  simp [bs]
set_option maxHeartbeats 4000000 in
set_option maxRecDepth 100000 in
theorem has_any (a : Option Addr) (c : Nat) (l : List (List UInt8)) (s : ByteArray) (w : World) (h : SlIs kc 1 w a l.length l) (hl : l.length ≤ 4096) : Calls Try.prog 16 #[.slice a l.length c, .string s] w fun e w' => e = .returned (.bool (l.contains (bs s))) ∧ Chg [] w w' := by
  have H := Lib.hid h
  obtain ⟨R, hR⟩ : ∃ R, R = l.contains (bs s) := ⟨_, rfl⟩
  rw [← hR]
  have HR := Lib.hid hR
  clear h hR
  go_enter Try.func16, Try.ntmps16
  go_wp2_with fail
  go_loopw [8] (fun i wr => ∃ k : Nat, i = .int .i64 k ∧ k ≤ l.length ∧ Hid ((l.take k).contains (bs s) = false) ∧ Hid (Chg [] w wr)) (fun i _ => l.length - (intOf i).toNat)
  case atStart => exact ⟨0, rfl, Nat.zero_le _, Lib.hid (by simp), Lib.hid (Chg.refl _ _)⟩
  case round =>
    obtain ⟨k, rfl, hkl, HA, D⟩ := hrel
    by_cases hk : k < l.length
    · obtain ⟨g1, o1, rfl, -, hbr1, hcc⟩ := H.out.elem D.out k hk
      have d1 := hcc 0 (by omega)
      simp only [kc, encStr, List.getElem?_cons_zero, Nat.add_zero, Nat.mul_one] at d1
      have hst := mem_step l (bs s) k hk
      rw [HA.out, Bool.false_or] at hst
      have hse := str_eq l[k] s
      have hyes : (l[k] == bs s) = true → R = true := fun h => by
        rw [HR.out, List.contains_iff_mem]
        have : l[k] = bs s := by simpa using h
        rw [← this]
        exact List.getElem_mem hk
      generalize l[k] = x at *
      obtain ⟨y, hy⟩ : ∃ y : ByteArray, y = ⟨x.toArray⟩ := ⟨_, rfl⟩
      rw [← hy] at d1 hse
      clear hy
      have hk0 : (0 : Int) ≤ (k : Int) := by omega
      have hk1 : (k : Int) < (l.length : Int) := by omega
      have HSt := Lib.hid hst
      clear hcc hst
      cases hq : x == bs s
      · rw [hq] at hse HSt
        have HS := Lib.hid HSt.out
        clear hyes hq HSt
        go_wp2_with fail
        exact ⟨⟨k + 1, by go_num, by omega, HS, D⟩, by simp [intOf]; omega⟩
      · rw [hq] at hse
        have HY := Lib.hid (hyes hq)
        clear hyes hq HSt
        go_wp2_with fail
        go_ret
        exact ⟨by rw [HY.out]; rfl, D.out⟩
    · have hks : k = l.length := by omega
      subst hks
      have HE : Hid (R = false) := Lib.hid (by rw [HR.out]; have := HA.out; rwa [List.take_length] at this)
      go_wp2_with fail
      go_ret
      exact ⟨by rw [HE.out]; rfl, D.out⟩
end Go.Proofs.Ytfnnnflfikmekaa
