/- Chapter 30: a stream whose shard is put anew; contract: Append. Condition: the table of Itoa lies as the program lays it. -/
import Derived.Test.YtmichbpfmachcaaDoorStmF
namespace Go.Proofs.YtmichbpfmachcaaDoor
set_option linter.unusedVariables false
set_option linter.unusedSimpArgs false
open Go.RowKit
variable {w w' : World} {b g c n : Nat} {D : List Sd} {keep now : Int} {f S : List Nat} {st : Stm}
theorem StmAt.rowAt (h : StmAt w b g c D keep now f) : ∃ cur, w.heap[g]? = some (.cells cur 70 (0, 0)) := rowBlk h.row rfl
theorem StmAt.bg (h : StmAt w b g c D keep now f) : b ≠ g := by
  rintro rfl
  obtain ⟨cur, hg⟩ := h.rowAt
  rw [h.head] at hg
  simp at hg
theorem StmAt.row_ne (h : StmAt w b g c D keep now f) {d : Sd} (hd : d ∈ D) {x : Nat} (hx : d.v.ownBlock = some x) : x ≠ b ∧ x ≠ g := by
  obtain ⟨cur, hr⟩ := rowBlk (h.recs d hd) hx
  constructor
  · rintro rfl; rw [h.head] at hr; simp at hr
  · rintro rfl
    obtain ⟨cur', hg⟩ := h.rowAt
    rw [hr] at hg; simp at hg
theorem StmAt.body_ne (h : StmAt w b g c D keep now f) {e : Ev} (he : BodyIn w f e) {x : Addr} (hx : e.ba = some x) : x.block ≠ b ∧ x.block ≠ g ∧ ∀ d ∈ D, d.v.ownBlock ≠ some x.block := by
  obtain ⟨cur, hr⟩ := (he.2 x hx).2
  refine ⟨fun hb => ?_, fun hb => ?_, fun d hd hb => ?_⟩
  · rw [hb, h.head] at hr; simp at hr
  · obtain ⟨cur', hg⟩ := h.rowAt
    rw [hb, hg] at hr; simp at hr
  · obtain ⟨cur', hg⟩ := rowBlk (h.recs d hd) hb
    rw [hg] at hr; simp at hr
/-- A body is as it was where its block is. -/
theorem BodyIn.keptAt {e : Ev} (h : BodyIn w f e) (hc : Chg S w w') (hS : ∀ x, e.ba = some x → x.block ∉ S) : BodyIn w' f e := by
  obtain ⟨⟨⟨h1, h2⟩, h3⟩, h4⟩ := h
  refine ⟨⟨⟨h1, fun k hk => ?_⟩, h3⟩, fun x hx => ?_⟩
  · obtain ⟨q, o, e1, e2, e3⟩ := h2 k hk
    refine ⟨q, o, e1, hc.lt e2, fun j hj => ?_⟩
    rw [← e3 j hj]
    have hq := hc.block q e2 (hS _ e1)
    unfold World.cell?
    simp only [hq]
  · exact ⟨(h4 x hx).1, by obtain ⟨cur, hh⟩ := (h4 x hx).2; exact ⟨cur, hc.at (hS _ hx) hh⟩⟩
/-- A change of the stream's own head. -/
theorem StmAt.setHead (h : StmAt w b g c D keep now f) (j : Nat) (u : Value) (keep' now' : Int) (hu : (#[Value.int .i64 keep, .int .i64 now, .slice (some ⟨g, 0, none⟩) D.length c] : Array Value).setIfInBounds j u = #[.int .i64 keep', .int .i64 now', .slice (some ⟨g, 0, none⟩) D.length c]) :
    StmAt (w.setCell ⟨b, j, none⟩ u) b g c D keep' now' f := by
  have hc : Chg [b] w (w.setCell ⟨b, j, none⟩ u) := (Chg.refl _ _).setCell _ _ (by simp)
  refine ⟨?_, h.row.kept hc (fun y hy => by cases hy; simpa using Ne.symm h.bg), fun d hd => (h.recs d hd).kept hc (fun y hy => by simpa using (h.row_ne hd hy).1), h.apart, h.inb, h.ing, h.inr, fun d hd r hr => (h.body d hd r hr).keptAt hc (fun x hx => by simpa using (h.body_ne (h.body d hd r hr) hx).1), fun x hx => hc.lt (h.lt x hx)⟩
  have := blk_set h.head j u
  rw [this, hu]
theorem pairwise_set {α : Type} {R : α → α → Prop} (hs : ∀ a b, R a b → R b a) : ∀ {l : List α}, l.Pairwise R → ∀ (k : Nat) (hk : k < l.length) (x : α), (∀ i (hi : i < l.length), i ≠ k → R x l[i]) → (l.set k x).Pairwise R := by
  intro l h k hk x hx
  rw [List.pairwise_iff_getElem] at h ⊢
  intro i j hi hj hij
  rw [List.length_set] at hi hj
  rw [List.getElem_set, List.getElem_set]
  split
  · rename_i e
    subst e
    rw [if_neg (by omega)]
    exact hx j hj (by omega)
  · split
    · rename_i e
      subst e
      exact hs _ _ (hx i hi (by omega))
    · exact h i j hi hj hij
/-- Shard k is put anew. -/
theorem StmAt.put {wz : World} (h : StmAt w b g c D keep now f) (k : Nat) (hk : k < D.length) (d' : Sd) (hc : Chg (g :: (D[k]).v.ownBlock.toList) w wz)
    (hrow : RowOf sdC 2 wz 0 70 (.slice (some ⟨g, 0, none⟩) D.length c) (D.set k d')) (hr : RowOf rcC 10 wz 0 55 d'.v d'.L) (hl : ∀ x, d'.v.ownBlock = some x → (D[k]).v.ownBlock = some x ∨ w.heap.size ≤ x)
    (hb : ∀ r ∈ d'.L, InIs ceC 4 wz r.e.ba r.e.bc r.e.p.body ∧ ∀ x, r.e.ba = some x → (x.block ∈ f ∨ w.heap.size ≤ x.block) ∧ ∃ cur, wz.heap[x.block]? = some (.cells cur 66 (0, 0))) :
    ∃ f', StmAt wz b g c (D.set k d') keep now f' ∧ ∀ x ∈ f', x ∈ f ∨ w.heap.size ≤ x := by
  have hmem : D[k] ∈ D := List.getElem_mem hk
  have hsub : ∀ x ∈ f, x ∈ f ++ (d'.v.ownBlock.toList ++ d'.L.filterMap (fun r => r.e.ba.map (·.block))) := fun x hx => List.mem_append_left _ hx
  have hnk : ∀ i (hi : i < D.length), i ≠ k → ∀ x, (D[i]).v.ownBlock = some x → x ∉ g :: (D[k]).v.ownBlock.toList := by
    intro i hi hik x hx hm
    rcases List.mem_cons.1 hm with rfl | hm
    · exact (h.row_ne (List.getElem_mem hi) hx).2 rfl
    · have hm' : (D[k]).v.ownBlock = some x := by simpa using hm
      have hp := List.pairwise_iff_getElem.1 h.apart
      rcases Nat.lt_or_ge i k with hlt | hge
      · exact hp i k hi hk hlt x hx hm'
      · exact hp k i hk hi (by omega) x hm' hx
  have hset : ∀ d ∈ D.set k d', d = d' ∨ ∃ i, ∃ hi : i < D.length, i ≠ k ∧ d = D[i] := by
    intro d hd
    obtain ⟨i, hi, rfl⟩ := List.mem_iff_getElem.1 hd
    rw [List.length_set] at hi
    rw [List.getElem_set]
    split
    · exact .inl rfl
    · rename_i hne
      exact .inr ⟨i, hi, fun e => hne e.symm, rfl⟩
  refine ⟨f ++ (d'.v.ownBlock.toList ++ d'.L.filterMap (fun r => r.e.ba.map (·.block))), ⟨?_, ?_, ?_, ?_, hsub _ h.inb, hsub _ h.ing, ?_, ?_, ?_⟩, ?_⟩
  · rw [List.length_set]
    refine hc.at ?_ h.head
    intro hm
    rcases List.mem_cons.1 hm with e | hm
    · exact h.bg e
    · exact (h.row_ne hmem (by simpa using hm)).1 rfl
  · rw [List.length_set]; exact hrow
  · intro d hd
    rcases hset d hd with rfl | ⟨i, hi, hik, rfl⟩
    · exact hr
    · exact (h.recs _ (List.getElem_mem hi)).kept hc (fun y hy => hnk i hi hik y hy)
  · refine pairwise_set (fun a b hab x hx hy => hab x hy hx) h.apart k hk d' (fun i hi hik x hx hy => ?_)
    rcases hl x hx with h1 | h1
    · exact hnk i hi hik x hy (by simp [h1])
    · have := h.lt x (h.inr _ (List.getElem_mem hi) x hy)
      omega
  · intro d hd x hx
    rcases hset d hd with rfl | ⟨i, hi, hik, rfl⟩
    · exact List.mem_append_right _ (List.mem_append_left _ (by simp [hx]))
    · exact hsub _ (h.inr _ (List.getElem_mem hi) x hx)
  · intro d hd r hr'
    rcases hset d hd with rfl | ⟨i, hi, hik, rfl⟩
    · obtain ⟨q1, q2⟩ := hb r hr'
      exact ⟨q1, fun x hx => ⟨List.mem_append_right _ (List.mem_append_right _ (List.mem_filterMap.2 ⟨r, hr', by rw [hx]; rfl⟩)), (q2 x hx).2⟩⟩
    · have hB := h.body _ (List.getElem_mem hi) r hr'
      refine (hB.keptAt hc (fun x hx hm => ?_)).more hsub
      obtain ⟨e1, e2, e3⟩ := h.body_ne hB hx
      rcases List.mem_cons.1 hm with e | hm
      · exact e2 e
      · exact e3 _ hmem (by simpa using hm)
  · intro x hx
    rcases List.mem_append.1 hx with hx | hx
    · exact hc.lt (h.lt x hx)
    rcases List.mem_append.1 hx with hx | hx
    · exact (hr.block x (by simpa using hx)).2
    · obtain ⟨r, hr', he⟩ := List.mem_filterMap.1 hx
      cases hba : r.e.ba with
      | none => rw [hba] at he; cases he
      | some y =>
        rw [hba] at he
        cases he
        obtain ⟨cur, hcur⟩ := ((hb r hr').2 y hba).2
        exact lt_of_heap hcur
  · intro x hx
    rcases List.mem_append.1 hx with hx | hx
    · exact .inl hx
    rcases List.mem_append.1 hx with hx | hx
    · rcases hl x (by simpa using hx) with h1 | h1
      · exact .inl (h.inr _ hmem x h1)
      · exact .inr h1
    · obtain ⟨r, hr', he⟩ := List.mem_filterMap.1 hx
      cases hba : r.e.ba with
      | none => rw [hba] at he; cases he
      | some y =>
        rw [hba] at he
        cases he
        exact ((hb r hr').2 y hba).1
end Go.Proofs.YtmichbpfmachcaaDoor
