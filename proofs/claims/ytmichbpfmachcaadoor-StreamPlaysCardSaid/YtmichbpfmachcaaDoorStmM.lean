/- Chapter 30: contract: Trim. No condition. -/
import Derived.Test.YtmichbpfmachcaaDoorStmL
namespace Go.Proofs.YtmichbpfmachcaaDoor
set_option linter.unusedVariables false
set_option linter.unusedSimpArgs false
open Go.RowKit Go.Shelf
attribute [local go_sem] Oper.semAt_some
variable {w w' : World} {b g c n : Nat} {D : List Sd} {keep now : Int} {f S : List Nat} {st : Stm}
theorem each_stops {N be : Nat} {W0 : World} (hN : N ≤ 8) (hbe : W0.heap[be]? = some (.cells #[.pointer (some ⟨b, 0, none⟩)] 28 (0, 0))) (hb : W0.cell? ⟨b, 2, none⟩ = some (.slice (some ⟨g, 0, none⟩) N c)) (hbl : b < W0.heap.size) :
    SeqStopsK Fence.wide 2 Tryd.prog 46 #[.pointer (some ⟨be, 0, none⟩)] (fun x : Fin N => #[.pointer (some ⟨g, x.1 * 2, none⟩)]) (KpS be b) (fun xs => xs = List.finRange N) (fun _ => True) N W0 := by
  intro l J Jx W hW hJ hJx hY h0
  have c2 : W.cell? ⟨be, 0, none⟩ = some (.pointer (some ⟨b, 0, none⟩)) := by
    have := hW.block be (lt_of_heap hbe)
    rw [hbe] at this
    exact blk_cell this 0
  have c1 : W.cell? ⟨b, 2, none⟩ = some (.slice (some ⟨g, 0, none⟩) N c) := by
    rw [← hb]
    unfold World.cell?
    rw [hW.block b hbl]
  exact each1_in Fence.wide 2 trivial rfl (by omega) l be b g N c hN J Jx hY W c2 c1 h0
/-- Between two rounds. -/
def TrimI (f : List Nat) (w : World) (b g c : Nat) (D : List Sd) (keep now : Int) (S0 : List Shd) (b5 be : Nat) (pre : List (Fin D.length)) (W : World) : Prop :=
  ∃ D', D'.map Sd.p = (foldK keep now S0 (pre.map (·.1))).1 ∧ StmAt W b g c D' keep now (canon b g D') ∧ (∀ x ∈ canon b g D', x ∈ f ∨ w.heap.size ≤ x) ∧ Chg f w W ∧
    W.heap[w.heap.size]? = some (.cells #[.pointer (some ⟨b, 0, none⟩)] 28 (0, 0)) ∧ W.heap[w.heap.size + 1]? = some (.cells #[.int .i64 now] 3 (0, 0)) ∧
    W.heap[b5]? = some (.cells #[.int .i64 ((foldK keep now S0 (pre.map (·.1))).2 : Int)] 3 (0, 0)) ∧ W.heap[be]? = some (.cells #[.pointer (some ⟨b, 0, none⟩)] 28 (0, 0))
theorem trimI_own {f : List Nat} {B b5 be : Nat} {S0 : List Shd} (hB : w.heap.size ≤ B) : OwnFrom B (TrimI f w b g c D keep now S0 b5 be) := by
  rintro pre W W' row ⟨D', i1, i2, i3, i4, i5, i6, i7, i8⟩ hg hr
  have hc : Chg row.toList W W' := ⟨hg.os, hg.tape, hg.output, hg.size, fun k hk hn => hg.block k hk (fun e => hn (by rw [← e]; simp))⟩
  have hne : ∀ {k : Nat} {cur : Array Value} {t : TypeId} {fr : Nat × Nat}, W.heap[k]? = some (.cells cur t fr) → k ∉ row.toList := fun {k cur t fr} hk hm => by
    obtain ⟨_, o, ho, hcl⟩ := hr k (by simpa using hm)
    rw [hk] at ho
    cases ho
    cases hcl
  obtain ⟨_, _, hcan⟩ := i2.canon
  refine ⟨D', i1, i2.kept hc (fun x hx => by obtain ⟨cur, t, ht, _⟩ := hcan x hx; exact hne ht), i3, i4.then hc (fun x hx hlt => by have := (hr x (by simpa using hx)).1; omega), hc.at (hne i5) i5, hc.at (hne i6) i6, hc.at (hne i7) i7, hc.at (hne i8) i8⟩
theorem keeps_chg {W W' : World} (h : Chg S W W') (hS : ∀ x ∈ S, ∃ cur t fr, W.heap[x]? = some (.cells cur t fr)) : KeepsOthers W W' :=
  ⟨h.size, fun k o hk ho => h.at (fun hm => by obtain ⟨cur, t, fr, hx⟩ := hS k hm; rw [hx] at hk; cases hk; cases ho) hk⟩
theorem trim_step {f : List Nat} {b5 be m x : Nat} {S0 : List Shd} {D' : List Sd} {pre : List (Fin D.length)} {W wc : World} {d : Sd} {a' : Option Addr} {c' : Nat} (X : Fin D.length) (hX : X.1 = x)
    (i1 : D'.map Sd.p = (foldK keep now S0 (pre.map (·.1))).1) (i2 : StmAt W b g c D' keep now (canon b g D')) (i3 : ∀ x ∈ canon b g D', x ∈ f ∨ w.heap.size ≤ x) (i4 : Chg f w W)
    (i5 : W.heap[w.heap.size]? = some (.cells #[.pointer (some ⟨b, 0, none⟩)] 28 (0, 0))) (i6 : W.heap[w.heap.size + 1]? = some (.cells #[.int .i64 now] 3 (0, 0)))
    (i7 : W.heap[b5]? = some (.cells #[.int .i64 ((foldK keep now S0 (pre.map (·.1))).2 : Int)] 3 (0, 0))) (i8 : W.heap[be]? = some (.cells #[.pointer (some ⟨b, 0, none⟩)] 28 (0, 0))) (hb5 : w.heap.size + 1 < b5) (hbe : be = b5 + 1)
    (hx : x < D'.length) (hd : D'[x] = d) (hm : cntD keep now (d.L.map Rc.p) = m) (hc : Chg [] W wc) (hr : RowOf rcC 10 wc W.heap.size 55 (.slice a' (d.L.drop m).length c') (d.L.drop m)) :
    let wz := ((wc.setCell ⟨g, x * 2 + 1, none⟩ (.slice a' (d.L.drop m).length c')).setCell ⟨g, x * 2, none⟩ (.int .i64 (d.first + (m : Int)))).setCell ⟨b5, 0, none⟩ (.int .i64 (((foldK keep now S0 (pre.map (·.1))).2 : Int) + (m : Int)))
    KeepsOthers W wz ∧ KpS be b W wz ∧ TrimI f w b g c D keep now S0 b5 be (pre ++ [X]) wz := by
  intro wz
  subst hd
  have hmem : D'[x] ∈ D' := List.getElem_mem hx
  obtain ⟨w1, hw1⟩ : ∃ w1, w1 = (wc.setCell ⟨g, x * 2 + 1, none⟩ (.slice a' (D'[x].L.drop m).length c')).setCell ⟨g, x * 2, none⟩ (.int .i64 (D'[x].first + (m : Int))) := ⟨_, rfl⟩
  have hz : wz = w1.setCell ⟨b5, 0, none⟩ (.int .i64 (((foldK keep now S0 (pre.map (·.1))).2 : Int) + (m : Int))) := by rw [hw1]
  have k1 : Chg [g] wc w1 := by rw [hw1]; exact ((Chg.refl _ _).setCell _ _ (by simp)).setCell _ _ (by simp)
  have k2 : Chg (g :: D'[x].v.ownBlock.toList) W w1 := (hc.mono (by simp)).then k1 (fun y hy _ => by simp at hy; simp [hy])
  have k3 : Chg [b5] w1 wz := by rw [hz]; exact (Chg.refl _ _).setCell _ _ (by simp)
  obtain ⟨-, -, hcan⟩ := i2.canon
  have hkind : ∀ (y : Nat) (cur : Array Value) (t : TypeId), W.heap[y]? = some (.cells cur t (0, 0)) → t = 28 ∨ t = 3 → y ∉ g :: D'[x].v.ownBlock.toList := by
    intro y cur t hy ht hmem'
    have hyc : y ∈ canon b g D' := by
      rcases List.mem_cons.1 hmem' with rfl | h
      · exact i2.ing
      · exact i2.inr _ hmem y (by simpa using h)
    obtain ⟨cur', t', h1, h2⟩ := hcan y hyc
    rw [hy] at h1
    simp at h1
    obtain ⟨-, rfl⟩ := h1
    rcases ht with rfl | rfl <;> simp at h2
  obtain ⟨curg, hcg⟩ := i2.rowAt
  have hcg' := hc.at (by simp) hcg
  have hrg : ∀ y, (Value.slice a' (D'[x].L.drop m).length c').ownBlock = some y → y ∉ [g] := fun y hy hm' => by
    obtain ⟨q, hq⟩ := rowBlk hr hy
    simp at hm'
    subst hm'
    rw [hcg'] at hq
    simp at hq
  obtain ⟨f', p1, p2⟩ := i2.put x hx ⟨D'[x].first + (m : Int), a', c', D'[x].L.drop m⟩ k2 (by
      have r1 := RowOf.stored (i2.row.kept hc (by simp)) rfl sdC_len x hx 1 (by omega) (.slice a' (D'[x].L.drop m).length c') ⟨D'[x].first, a', c', D'[x].L.drop m⟩ (by simp [sdC])
      have r2 := RowOf.stored r1 (by simp) sdC_len x (by simpa using hx) 0 (by omega) (.int .i64 (D'[x].first + (m : Int))) ⟨D'[x].first + (m : Int), a', c', D'[x].L.drop m⟩ (by simp [sdC])
      rw [List.set_set] at r2
      rw [hw1]
      exact r2) (hr.mono (Nat.zero_le _) |>.kept k1 hrg) (fun y hy => .inr (hr.block y hy).1) (fun r hr' => by
      have hrm : r ∈ D'[x].L := List.mem_of_mem_drop hr'
      have hB := i2.body _ hmem r hrm
      have hB2 := hB.keptAt k2 (fun y hy hm' => by
        obtain ⟨u1, u2, u3⟩ := i2.body_ne hB hy
        rcases List.mem_cons.1 hm' with e | hm'
        · exact u2 e
        · exact u3 _ hmem (by simpa using hm'))
      exact ⟨hB2.1, fun y hy => ⟨.inl (hB2.2 y hy).1, (hB2.2 y hy).2⟩⟩)
  obtain ⟨p3, p4, p5⟩ := p1.canon
  have j5 := k2.at (hkind _ _ _ i5 (.inl rfl)) i5
  have j6 := k2.at (hkind _ _ _ i6 (.inr rfl)) i6
  have j7 := k2.at (hkind _ _ _ i7 (.inr rfl)) i7
  have j8 := k2.at (hkind _ _ _ i8 (.inl rfl)) i8
  have hnb5 : ∀ y ∈ canon b g (D'.set x ⟨D'[x].first + (m : Int), a', c', D'[x].L.drop m⟩), y ∉ [b5] := fun y hy hm' => by
    obtain ⟨cur, t, h1, h2⟩ := p5 y hy
    simp at hm'
    subst hm'
    rw [j7] at h1
    simp at h1
    obtain ⟨-, rfl⟩ := h1
    simp at h2
  have p6 := p3.kept k3 hnb5
  have kz : Chg (g :: D'[x].v.ownBlock.toList ++ [b5]) W wz := (k2.mono (fun y hy _ => List.mem_append_left _ hy)).then k3 (fun y hy _ => List.mem_append_right _ hy)
  have hcnt : D'[x].p.recs = D'[x].L.map Rc.p := rfl
  have hq : (foldK keep now S0 (pre.map (·.1))).1[x]? = some D'[x].p := by rw [← i1, List.getElem?_map, List.getElem?_eq_getElem hx]; rfl
  have hF : foldK keep now S0 ((pre ++ [X]).map (·.1)) = ((foldK keep now S0 (pre.map (·.1))).1.set x (trimD keep now D'[x].p), (foldK keep now S0 (pre.map (·.1))).2 + m) := by
    rw [List.map_append, List.map_cons, List.map_nil, foldK_snoc, hX]
    unfold stepK
    simp only [hq, hcnt, hm]
  refine ⟨keeps_chg kz (fun y hy => ?_), ⟨?_, ?_⟩, _, ?_, p6, ?_, ?_, ?_, ?_, ?_, ?_⟩
  · rcases List.mem_append.1 hy with hy | hy
    · have hyc : y ∈ canon b g D' := by
        rcases List.mem_cons.1 hy with rfl | h
        · exact i2.ing
        · exact i2.inr _ hmem y (by simpa using h)
      obtain ⟨cur, t, h1, _⟩ := hcan y hyc
      exact ⟨cur, t, _, h1⟩
    · simp at hy
      subst hy
      exact ⟨_, _, _, i7⟩
  · rw [blk_cell i8, blk_cell (k3.at (by simp; omega) j8)]
  · rw [blk_cell i2.head, blk_cell p6.head, List.length_set]
  · rw [hF, List.map_set, ← i1]
    congr 1
    simp only [Sd.p, trimD, hm, List.map_drop]
  · intro y hy
    rcases p2 y (p4 y hy) with h | h
    · exact i3 y h
    · exact .inr (Nat.le_trans i4.size h)
  · refine i4.then kz (fun y hy hlt => ?_)
    rcases List.mem_append.1 hy with hy | hy
    · have hyc : y ∈ canon b g D' := by
        rcases List.mem_cons.1 hy with rfl | h
        · exact i2.ing
        · exact i2.inr _ hmem y (by simpa using h)
      rcases i3 y hyc with h | h
      · exact h
      · omega
    · simp at hy; omega
  · exact k3.at (by simp; omega) j5
  · exact k3.at (by simp; omega) j6
  · rw [hF, hz]
    have := blk_set j7 0 (.int .i64 (((foldK keep now S0 (pre.map (·.1))).2 : Int) + (m : Int)))
    rw [this]
    simp
  · exact k3.at (by simp; omega) j8
end Go.Proofs.YtmichbpfmachcaaDoor
