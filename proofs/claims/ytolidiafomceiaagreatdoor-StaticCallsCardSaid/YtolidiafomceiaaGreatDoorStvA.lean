/- Chapter 9, plain: a walk of the program goes along the nodes; what holds of the slots. No condition. -/
import Derived.Test.YtolidiafomceiaaGreatDoorMStaR
import Derived.Test.YtolidiafomceiaaGreatDoorMapl
import Derived.Test.YtolidiafomceiaaGreatDoorMSttS
namespace Go.Proofs.YtolidiafomceiaaGreatDoor
set_option linter.unusedVariables false
set_option linter.unusedSimpArgs false
open Go.RowKit
/-- The parts of a node, one behind the other: the first begins at r, the last ends before a. -/
def Chain (F : Nat → Int) : Nat → List Int → Nat → Prop
  | r, [], a => r = a
  | r, c :: cs, a => ∃ m : Nat, c = (m : Int) ∧ F m = (r : Int) ∧ m < a ∧ Chain F (m + 1) cs a
theorem Chain.snoc {F : Nat → Int} (hF : ∀ m : Nat, F m ≤ m) {m : Nat} : ∀ {cs : List Int} {r a : Nat}, F m = (a : Int) → Chain F r cs a → Chain F r (cs ++ [(m : Int)]) (m + 1) := by
  intro cs
  induction cs with
  | nil => intro r a hm h; have e : r = a := h; subst e; exact ⟨m, rfl, hm, by omega, rfl⟩
  | cons c cs ih => intro r a hm h; obtain ⟨q, h1, h2, h3, h4⟩ := h; have := hF m; exact ⟨q, h1, h2, by omega, ih hm h4⟩
theorem firstGo_chain {F : Nat → Int} (hF : ∀ m : Nat, F m ≤ m) {l : List PNd} {x : PNd} : ∀ {k a r : Nat}, k ≤ x.kids.length → firstGo F l x k a = (r : Int) → Chain F r (x.kids.take k) a := by
  intro k
  induction k with
  | zero => intro a r _ h; rw [firstGo] at h; rw [List.take_zero]; show r = a; omega
  | succ k ih =>
    intro a r hk h
    rw [firstGo] at h
    split at h
    · omega
    · rename_i h1
      split at h
      · omega
      · rename_i h2
        obtain ⟨m, rfl⟩ : ∃ m, a = m + 1 := ⟨a - 1, by omega⟩
        have e : ((m + 1 : Nat) : Int) - 1 = (m : Int) := by omega
        rw [e] at h2 h
        rw [Int.toNat_natCast] at h
        split at h
        · omega
        · split at h
          · omega
          · split at h
            · omega
            · obtain ⟨q, hq⟩ : ∃ q : Nat, F m = (q : Int) := ⟨(F m).toNat, by omega⟩
              rw [hq] at h
              have h3 := Chain.snoc hF hq (ih (by omega) h)
              have h2' := Decidable.not_not.1 h2
              obtain ⟨hlt, he⟩ := List.getElem?_eq_some_iff.1 h2'
              rw [List.take_succ_eq_append_getElem hlt, he]
              exact h3
theorem first_chain {l : List PNd} {i r : Nat} {x : PNd} (hx : l[i]? = some x) (h : firstF l l.length i = (r : Int)) : Chain (firstF l l.length) r x.kids i := by
  rw [firstF_at hx] at h
  split at h
  · have := firstGo_chain (fun m => firstF_le _ m) (Nat.le_refl _) h
    rw [List.take_length] at this
    exact this
  · omega
theorem fold_chain {F : Nat → Int} {σ : Type} {I : Nat → σ → Prop} {g : σ → Int → σ} : ∀ {cs : List Int} {r a : Nat} {S : σ}, Chain F r cs a → (∀ (m s : Nat) (S : σ), F m = (s : Int) → m < a → I s S → I (m + 1) (g S (m : Int))) → I r S → I a (cs.foldl g S) := by
  intro cs
  induction cs with
  | nil => intro r a S h _ hi; have e : r = a := h; rw [← e]; exact hi
  | cons c cs ih => intro r a S h hg hi; obtain ⟨m, rfl, h2, h3, h4⟩ := h; rw [List.foldl_cons]; exact ih h4 hg (hg m r S h2 h3 hi)
theorem walk_inv {p : PPr} {I : Nat → ScS → Prop} (leaf : ∀ i x S, p.nodes[i]? = some x → x.kind ≠ 19 → I i S → I (i + 1) (endZ p S i x)) (block : ∀ i x S d, p.nodes[i]? = some x → x.kind = 19 → I i S → I (i + 1) (dropV S d)) : ∀ (f i s : Nat) (S : ScS), i < f → i < p.nodes.length → firstF p.nodes p.nodes.length i = (s : Int) → I s S → I (i + 1) (walkZ p f S i) := by
  intro f
  induction f with
  | zero => intro i s S h; omega
  | succ f ih =>
    intro i s S hif hil hs hI
    have hx := List.getElem?_eq_getElem hil
    have hc := first_chain hx hs
    rw [walkZ, hx]
    simp only
    split
    · rename_i hk
      refine block i _ _ _ hx hk ?_
      exact fold_chain (I := fun i (q : ScS × List ByteArray) => I i q.1) hc (fun m s q h1 h2 h3 => by show I (m + 1) (walkZ p f q.1 (m : Int).toNat); rw [Int.toNat_natCast]; exact ih m s q.1 (by omega) (by omega) h1 h3) hI
    · rename_i hk
      refine leaf i _ _ hx hk ?_
      exact fold_chain hc (fun m s q h1 h2 h3 => by rw [Int.toNat_natCast]; exact ih m s q (by omega) (by omega) h1 h3) hI
/-- Where a slot comes from: a parameter or an earlier declaration. -/
def Src (p : PPr) (ps : List ByteArray) (a i : Nat) (sl : List Int) (s : ByteArray) (v : Int) : Prop := (∃ m : Nat, v = (m : Int) ∧ ps[m]? = some s) ∨ ((ps.length : Int) ≤ v ∧ ∃ k, a ≤ k ∧ k < i ∧ ∃ x, p.nodes[k]? = some x ∧ x.kind = 13 ∧ x.text = s ∧ sl[k]? = some v)
theorem Src.mono {p : PPr} {ps : List ByteArray} {a i i' : Nat} {sl sl' : List Int} {s : ByteArray} {v : Int} (h : Src p ps a i sl s v) (hi : i ≤ i') (hs : ∀ k, k < i → sl'[k]? = sl[k]?) : Src p ps a i' sl' s v := by
  rcases h with h | ⟨h1, k, h2, h3, x, h4, h5, h6, h7⟩
  · exact .inl h
  · exact .inr ⟨h1, k, h2, by omega, x, h4, h5, h6, by rw [hs k h3]; exact h7⟩
def NodeR (p : PPr) (ps : List ByteArray) (a i : Nat) (sl : List Int) (n : Int) : Prop := ∃ x v, p.nodes[i]? = some x ∧ sl[i]? = some v ∧
  (x.kind = 13 → (ps.length : Int) ≤ v ∧ v < n ∧ ∀ k y, a ≤ k → k < i → p.nodes[k]? = some y → y.kind = 13 → sl[k]? ≠ some v) ∧
  ((x.kind = 5 ∨ x.kind = 14) → 0 ≤ v ∧ v < n ∧ Src p ps a i sl x.text v) ∧ (x.kind ≠ 13 → x.kind ≠ 5 → x.kind ≠ 14 → v = -1)
theorem NodeR.mono {p : PPr} {ps : List ByteArray} {a i : Nat} {sl sl' : List Int} {n n' : Int} (h : NodeR p ps a i sl n) (hn : n ≤ n') (hs : ∀ k, k ≤ i → sl'[k]? = sl[k]?) : NodeR p ps a i sl' n' := by
  obtain ⟨x, v, h1, h2, h3, h4, h5⟩ := h
  refine ⟨x, v, h1, by rw [hs i (Nat.le_refl _)]; exact h2, fun e => ?_, fun e => ?_, h5⟩
  · obtain ⟨c1, c2, c3⟩ := h3 e
    exact ⟨c1, by omega, fun k y k1 k2 k3 k4 => by rw [hs k (by omega)]; exact c3 k y k1 k2 k3 k4⟩
  · obtain ⟨c1, c2, c3⟩ := h4 e
    exact ⟨c1, by omega, c3.mono (Nat.le_refl _) (fun k hk => hs k (by omega))⟩
structure Good (p : PPr) (ps : List ByteArray) (a i : Nat) (S : ScS) : Prop where
  next : (ps.length : Int) ≤ S.next ∧ S.next ≤ (ps.length : Int) + ((i : Int) - (a : Int))
  vis : ∀ e ∈ S.vis, 0 ≤ e.2 ∧ e.2 < S.next ∧ Src p ps a i S.slots e.1 e.2
  nodes : ∀ k, a ≤ k → k < i → NodeR p ps a k S.slots S.next
  above : ∀ k, i ≤ k → k < p.nodes.length → S.slots[k]? = some (-1)
structure WI (p : PPr) (ps : List ByteArray) (a : Nat) (S0 : ScS) (i : Nat) (S : ScS) : Prop where
  le : a ≤ i
  sl : S.slots.length = p.nodes.length
  el : S.errs.length = p.nodes.length
  below : ∀ k, k < a → S.slots[k]? = S0.slots[k]? ∧ S.errs[k]? = S0.errs[k]?
  ab : ∀ k, i ≤ k → k < p.nodes.length → S.slots[k]? = some (-1)
  st : (∃ j e, a ≤ j ∧ j < i ∧ S.errs[j]? = some e ∧ e ≠ 0) ∨ Good p ps a i S
theorem mem_putL {α : Type} {kf : α → ByteArray} {l : List α} {x y : α} (h : y ∈ putL kf l x) : y ∈ l ∨ y = x := by
  unfold putL at h
  split at h
  · obtain ⟨z, hz, e⟩ := List.mem_map.1 h
    split at e
    · exact .inr e.symm
    · exact .inl (e ▸ hz)
  · rcases List.mem_append.1 h with h | h
    · exact .inl h
    · exact .inr (List.mem_singleton.1 h)
theorem mem_dropV {S : ScS} : ∀ {d : List ByteArray} {v : List (ByteArray × Int)} {e : ByteArray × Int}, e ∈ d.foldl (delL Prod.fst) v → e ∈ v := by
  intro d
  induction d with
  | nil => intro v e h; exact h
  | cons s d ih => intro v e h; rw [List.foldl_cons] at h; exact (List.mem_filter.1 (ih h)).1
/-- Nothing but the slot of the node itself turned. -/
theorem Good.step {p : PPr} {ps : List ByteArray} {a i : Nat} {S S' : ScS} (h : Good p ps a i S) (hai : a ≤ i) (hi : i < p.nodes.length) (hn : S.next ≤ S'.next) (hn2 : S'.next ≤ S.next + 1) (hs : ∀ k, k ≠ i → S'.slots[k]? = S.slots[k]?) (hv : ∀ e ∈ S'.vis, e ∈ S.vis ∨ (0 ≤ e.2 ∧ e.2 < S'.next ∧ Src p ps a (i + 1) S'.slots e.1 e.2)) (hnode : NodeR p ps a i S'.slots S'.next) : Good p ps a (i + 1) S' := by
  refine ⟨⟨by have := h.next; omega, by have := h.next; omega⟩, fun e he => ?_, fun k h1 h2 => ?_, fun k h1 h2 => ?_⟩
  · rcases hv e he with c | c
    · obtain ⟨c1, c2, c3⟩ := h.vis e c
      exact ⟨c1, by omega, c3.mono (by omega) (fun k hk => hs k (by omega))⟩
    · exact c
  · by_cases hk : k = i
    · rw [hk]; exact hnode
    · exact (h.nodes k h1 (by omega)).mono hn (fun j hj => hs j (by omega))
  · rw [hs k (by omega)]
    exact h.above k (by omega) h2
theorem NodeR.none {p : PPr} {ps : List ByteArray} {a i : Nat} {S : ScS} {n : Int} {x : PNd} (h : Good p ps a i S) (hx : p.nodes[i]? = some x) (h13 : x.kind ≠ 13) (h5 : x.kind ≠ 5) (h14 : x.kind ≠ 14) : NodeR p ps a i S.slots n :=
  ⟨x, -1, hx, h.above i (Nat.le_refl _) (List.getElem?_eq_some_iff.1 hx).1, fun e => absurd e h13, fun e => absurd e (fun e => e.elim h5 h14), fun _ _ _ => rfl⟩
theorem WI.same {p : PPr} {ps : List ByteArray} {a i : Nat} {S0 S S' : ScS} {x : PNd} (h : WI p ps a S0 i S) (hx : p.nodes[i]? = some x) (h13 : x.kind ≠ 13) (h5 : x.kind ≠ 5) (h14 : x.kind ≠ 14) (hs : S'.slots = S.slots) (hn : S'.next = S.next) (hv : ∀ e ∈ S'.vis, e ∈ S.vis) (hel : S'.errs.length = S.errs.length) (he : ∀ k, k ≠ i → S'.errs[k]? = S.errs[k]?) : WI p ps a S0 (i + 1) S' := by
  have hle := h.le
  refine ⟨by have := h.le; omega, by rw [hs]; exact h.sl, by rw [hel]; exact h.el, fun k hk => ⟨by rw [hs]; exact (h.below k hk).1, by rw [he k (by omega)]; exact (h.below k hk).2⟩, fun k h1 h2 => by rw [hs]; exact h.ab k (by omega) h2, ?_⟩
  rcases h.st with ⟨j, e, h0, h1, h2, h3⟩ | hg
  · exact .inl ⟨j, e, h0, by omega, by rw [he j (by omega)]; exact h2, h3⟩
  · refine .inr (hg.step h.le (List.getElem?_eq_some_iff.1 hx).1 (by omega) (by omega) (fun k _ => by rw [hs]) (fun e q => .inl (hv e q)) ?_)
    rw [hs]
    exact NodeR.none hg hx h13 h5 h14
theorem set_ne {α : Type} {l : List α} {i k : Nat} {v : α} (h : k ≠ i) : (l.set i v)[k]? = l[k]? := List.getElem?_set_ne (fun e => h e.symm)
theorem WI.leaf {p : PPr} {ps : List ByteArray} {a : Nat} {S0 : ScS} (hN : p.nodes.length ≤ 600) (hP : ps.length ≤ 8) (i : Nat) (x : PNd) (S : ScS) (hx : p.nodes[i]? = some x) (h : WI p ps a S0 i S) : WI p ps a S0 (i + 1) (endZ p S i x) := by
  have hi := (List.getElem?_eq_some_iff.1 hx).1
  have hle := h.le
  have hil : i < S.slots.length := by rw [h.sl]; exact hi
  have hie : i < S.errs.length := by rw [h.el]; exact hi
  unfold endZ
  split
  · rename_i hk
    split
    · rename_i hl
      refine ⟨by omega, h.sl, by simp [h.el], fun k hk => ⟨(h.below k hk).1, by rw [set_ne (by omega)]; exact (h.below k hk).2⟩, fun k h1 h2 => h.ab k (by omega) h2, .inl ⟨i, 4, hle, by omega, by rw [List.getElem?_set_self hie], by decide⟩⟩
    · rename_i e hl
      refine ⟨by omega, by simp [h.sl], h.el, fun k hk => ⟨by rw [set_ne (by omega)]; exact (h.below k hk).1, (h.below k hk).2⟩, fun k h1 h2 => by rw [set_ne (by omega)]; exact h.ab k (by omega) h2, ?_⟩
      rcases h.st with ⟨j, e, h0, h1, h2, h3⟩ | hg
      · exact .inl ⟨j, e, h0, by omega, h2, h3⟩
      · obtain ⟨v1, v2, v3⟩ := hg.vis e (lookL_mem hl)
        have hkey : e.1 = x.text := lookL_key hl
        refine .inr (hg.step hle hi (Int.le_refl _) (by show S.next ≤ _; omega) (fun k hk => set_ne hk) (fun e q => .inl q) ⟨x, e.2, hx, List.getElem?_set_self hil, fun e13 => by omega, fun _ => ⟨v1, v2, ?_⟩, fun _ h5 h14 => by omega⟩)
        rw [← hkey]
        exact v3.mono (Nat.le_refl _) (fun k hk => set_ne (by omega))
  · rename_i hk
    split
    · rename_i h13
      unfold letZ
      split
      · exact ⟨by omega, by simp [h.sl], by simp [h.el], fun k hk => ⟨by rw [set_ne (by omega)]; exact (h.below k hk).1, by rw [set_ne (by omega)]; exact (h.below k hk).2⟩, fun k h1 h2 => by rw [set_ne (by omega)]; exact h.ab k (by omega) h2, .inl ⟨i, 6, hle, by omega, by rw [List.getElem?_set_self hie], by decide⟩⟩
      · split
        · exact ⟨by omega, by simp [h.sl], by simp [h.el], fun k hk => ⟨by rw [set_ne (by omega)]; exact (h.below k hk).1, by rw [set_ne (by omega)]; exact (h.below k hk).2⟩, fun k h1 h2 => by rw [set_ne (by omega)]; exact h.ab k (by omega) h2, .inl ⟨i, 3, hle, by omega, by rw [List.getElem?_set_self hie], by decide⟩⟩
        · refine ⟨by omega, by simp [h.sl], h.el, fun k hk => ⟨by rw [set_ne (by omega)]; exact (h.below k hk).1, (h.below k hk).2⟩, fun k h1 h2 => by rw [set_ne (by omega)]; exact h.ab k (by omega) h2, ?_⟩
          rcases h.st with ⟨j, e, h0, h1, h2, h3⟩ | hg
          · exact .inl ⟨j, e, h0, by omega, h2, h3⟩
          · have hnx := hg.next
            have hw : wrap64 (S.next + 1) = S.next + 1 := by unfold wrap64; omega
            have hself : (S.slots.set i S.next)[i]? = some S.next := List.getElem?_set_self hil
            have hpl : (0 : Int) ≤ (ps.length : Int) := Int.natCast_nonneg _
            refine .inr (hg.step hle hi (by show S.next ≤ wrap64 (S.next + 1); rw [hw]; omega) (by show wrap64 (S.next + 1) ≤ _; rw [hw]; exact Int.le_refl _) (fun k hk => set_ne hk) (fun e q => ?_) ⟨x, S.next, hx, hself, fun _ => ⟨hnx.1, by show S.next < wrap64 (S.next + 1); rw [hw]; omega, ?_⟩, fun c => absurd c hk, fun c => absurd h13 c⟩)
            · rcases mem_putL q with q | q
              · exact .inl q
              · refine .inr ?_
                rw [q]
                refine ⟨by show 0 ≤ S.next; omega, by show S.next < wrap64 (S.next + 1); rw [hw]; omega, .inr ⟨hnx.1, i, hle, by omega, x, hx, h13, rfl, hself⟩⟩
            · intro k y k1 k2 k3 k4 e
              rw [set_ne (by omega)] at e
              obtain ⟨x', v, g1, g2, g3, -⟩ := hg.nodes k k1 k2
              rw [k3] at g1
              injection g1 with g1
              subst g1
              rw [e] at g2
              injection g2 with g2
              subst g2
              have := (g3 k4).2.1
              omega
    · rename_i h13
      have h5 : x.kind ≠ 5 := fun e => hk (.inl e)
      have h14 : x.kind ≠ 14 := fun e => hk (.inr e)
      split
      · exact h.same hx h13 h5 h14 rfl rfl (fun _ q => q) (by simp) (fun k hk => set_ne hk)
      · split
        · split
          · split
            · exact h.same hx h13 h5 h14 rfl rfl (fun _ q => q) rfl (fun k hk => rfl)
            · exact h.same hx h13 h5 h14 rfl rfl (fun _ q => q) (by simp) (fun k hk => set_ne hk)
          · exact h.same hx h13 h5 h14 rfl rfl (fun _ q => q) (by simp) (fun k hk => set_ne hk)
        · exact h.same hx h13 h5 h14 rfl rfl (fun _ q => q) rfl (fun k hk => rfl)
theorem WI.walk {p : PPr} {ps : List ByteArray} {a b : Nat} {S0 : ScS} (hN : p.nodes.length ≤ 600) (hP : ps.length ≤ 8) (hb : b < p.nodes.length) (hf : firstF p.nodes p.nodes.length b = (a : Int)) (h : WI p ps a S0 a S0) : WI p ps a S0 (b + 1) (walkZ p p.nodes.length S0 b) :=
  walk_inv (fun i x S hx _ h => h.leaf hN hP i x S hx) (fun i x S d hx hk h => h.same hx (by omega) (by omega) (by omega) rfl rfl (fun e he => mem_dropV (S := S) he) rfl (fun _ _ => rfl)) p.nodes.length b a S0 hb hb hf h
theorem mem_parV : ∀ {l : List ByteArray} {k : Int} {v : List (ByteArray × Int)} {e : ByteArray × Int}, e ∈ parV l k v → e ∈ v ∨ ∃ m : Nat, e.2 = k + (m : Int) ∧ l[m]? = some e.1 := by
  intro l
  induction l with
  | nil => intro k v e h; exact .inl h
  | cons s r ih =>
    intro k v e h
    rw [parV] at h
    rcases ih h with h | ⟨m, h1, h2⟩
    · rcases mem_putL h with h | h
      · exact .inl h
      · rw [h]
        exact .inr ⟨0, by simp, rfl⟩
    · exact .inr ⟨m + 1, by rw [h1]; push_cast; omega, by simpa using h2⟩
theorem WI.start {p : PPr} {ps : List ByteArray} {a : Nat} {s e : List Int} (hs : s.length = p.nodes.length) (he : e.length = p.nodes.length) (hA : ∀ k, a ≤ k → k < p.nodes.length → s[k]? = some (-1)) : WI p ps a ⟨parV ps 0 [], (ps.length : Int), s, e⟩ a ⟨parV ps 0 [], (ps.length : Int), s, e⟩ := by
  refine ⟨Nat.le_refl _, hs, he, fun _ _ => ⟨rfl, rfl⟩, hA, .inr ⟨⟨Int.le_refl _, by show (ps.length : Int) ≤ _; omega⟩, fun v hv => ?_, fun k h1 h2 => by omega, hA⟩⟩
  rcases mem_parV hv with h | ⟨m, h1, h2⟩
  · cases h
  · have hm := (List.getElem?_eq_some_iff.1 h2).1
    exact ⟨by omega, by show v.2 < (ps.length : Int); omega, .inl ⟨m, by omega, h2⟩⟩
def RunsR (p : PPr) (sl : List Int) : List PFn → Nat → List Int → Prop
  | [], _, _ => True
  | f :: r, a, ns => ∃ (b : Nat) (n : Int) (ns' : List Int), ns = n :: ns' ∧ f.body = (b : Int) ∧ a ≤ b ∧ b < p.nodes.length ∧ (f.params.length : Int) ≤ n ∧ n ≤ (f.params.length : Int) + 600 ∧ (∀ k, a ≤ k → k ≤ b → NodeR p f.params a k sl n) ∧ RunsR p sl r (b + 1) ns'
theorem runs_right {p : PPr} (hN : p.nodes.length ≤ 600) : ∀ {r : List PFn} {a : Nat} {s e l : List Int}, ordGo p.nodes r a = true → s.length = p.nodes.length → e.length = p.nodes.length → (∀ k, a ≤ k → k < p.nodes.length → s[k]? = some (-1)) → (∀ f ∈ r, f.params.length ≤ 8) →
    ∃ ns, (runsZ p r (s, e, l)).2.2 = l ++ ns ∧ ns.length = r.length ∧ (runsZ p r (s, e, l)).1.length = p.nodes.length ∧ (runsZ p r (s, e, l)).2.1.length = p.nodes.length ∧ (∀ k, k < a → (runsZ p r (s, e, l)).1[k]? = s[k]? ∧ (runsZ p r (s, e, l)).2.1[k]? = e[k]?) ∧ ((∀ (k : Nat) (q : Int), (runsZ p r (s, e, l)).2.1[k]? = some q → q = 0) → RunsR p (runsZ p r (s, e, l)).1 r a ns) := by
  intro r
  induction r with
  | nil => intro a s e l _ hs he _ _; exact ⟨[], by rw [runsZ]; simp, rfl, hs, he, fun _ _ => ⟨rfl, rfl⟩, fun _ => trivial⟩
  | cons f r ih =>
    intro a s e l ho hs he hA hP
    rw [ordGo] at ho
    split at ho
    · cases ho
    · split at ho
      · cases ho
      · split at ho
        · cases ho
        · rename_i h1
          split at ho
          · cases ho
          · rename_i h2
            split at ho
            · cases ho
            · split at ho
              · cases ho
              · rename_i h4
                obtain ⟨b, hb⟩ : ∃ b : Nat, f.body = (b : Int) := ⟨f.body.toNat, by omega⟩
                rw [hb, Int.toNat_natCast] at h4
                have hbl : b < p.nodes.length := by omega
                have hf : firstF p.nodes p.nodes.length b = (a : Int) := by simpa using h4
                have W := WI.walk (ps := f.params) hN (hP f (by simp)) hbl hf (WI.start hs he hA)
                rw [runsZ, hb, Int.toNat_natCast]
                generalize hS : walkZ p p.nodes.length ⟨parV f.params 0 [], (f.params.length : Int), s, e⟩ b = S at *
                obtain ⟨ns, n1, n2, n3, n4, n5, n6⟩ := ih (a := b + 1) (s := S.slots) (e := S.errs) (l := l ++ [S.next]) (by rw [hb] at ho; push_cast; exact ho) W.sl W.el W.ab (fun g hg => hP g (by simp [hg]))
                refine ⟨S.next :: ns, by rw [n1]; simp, by simp [n2], n3, n4, fun k hk => ⟨by rw [(n5 k (by omega)).1]; exact (W.below k hk).1, by rw [(n5 k (by omega)).2]; exact (W.below k hk).2⟩, fun hz => ?_⟩
                rcases W.st with ⟨j, q, q1, q2, q3, q4⟩ | hg
                · exact absurd (hz j q (by rw [(n5 j q2).2]; exact q3)) q4
                · have hpl := hP f (by simp)
                  have hnx := hg.next
                  exact ⟨b, S.next, ns, rfl, hb, by omega, hbl, hnx.1, by omega, fun k k1 k2 => (hg.nodes k k1 (by omega)).mono (Int.le_refl _) (fun j hj => (n5 j (by omega)).1), n6 hz⟩
theorem errAt_none {l : List Int} : ∀ {k : Int}, errAt l k = none → ∀ (j : Nat) (q : Int), l[j]? = some q → q = 0 := by
  induction l with
  | nil => intro k _ j q h; simp at h
  | cons e r ih =>
    intro k h j q hq
    rw [errAt] at h
    split at h
    · rename_i he
      cases j with
      | zero => rw [List.getElem?_cons_zero] at hq; injection hq with hq; rw [← hq]; exact he
      | succ j => rw [List.getElem?_cons_succ] at hq; exact ih h j q hq
    · cases h
theorem errAt_nz {l : List Int} : ∀ {k a b : Int}, errAt l k = some (a, b) → b ≠ 0 := by
  induction l with
  | nil => intro k a b h; cases h
  | cons e r ih =>
    intro k a b h
    rw [errAt] at h
    split at h
    · exact ih h
    · injection h with h
      injection h with h1 h2
      subst h2
      assumption
/-- What study finds, if there is no error. -/
theorem study_right {p : PPr} {sl lo : List Int} {k : Int} (h : studyZ p = (sl, lo, k, 0)) : RunsR p sl p.funcs 0 lo ∧ sl.length = p.nodes.length ∧ lo.length = p.funcs.length := by
  unfold studyZ at h
  split at h
  · rename_i hc
    split at h
    · have hbad : ∀ {a b : Int}, b = 0 → errAt (allZ p).2.1 0 ≠ some (a, b) := fun e h => errAt_nz h e
      unfold studyEnd at h
      split at h
      · rename_i hE
        simp only [Prod.mk.injEq] at h
        exact absurd hE (hbad h.2.2.2)
      · rename_i hE
        have hz := errAt_none hE
        unfold scheckZ at hc
        split at hc
        · cases hc
        · split at hc
          · cases hc
          · split at hc
            · cases hc
            · split at hc
              · cases hc
              · rename_i h1 h2 h3 h4
                have hob : ordGo p.nodes p.funcs ((0 : Nat) : Int) = true := by
                  have : ordB p = true := by simpa using h3
                  exact this
                have hP : ∀ f ∈ p.funcs, f.params.length ≤ 8 := by
                  intro f hf
                  have h5 : p.funcs.any (fun f => decide (8 < f.params.length)) = false := by simpa using h4
                  have := List.any_eq_false.1 h5 f hf
                  simp at this
                  exact this
                obtain ⟨ns, n1, n2, n3, n4, n5, n6⟩ := runs_right (p := p) (by omega) (r := p.funcs) (a := 0) (s := List.replicate p.nodes.length (-1)) (e := List.replicate p.nodes.length 0) (l := []) hob (by simp) (by simp) (fun k _ hk => by rw [List.getElem?_replicate, if_pos hk]) hP
                simp only [Prod.mk.injEq] at h
                obtain ⟨g1, g2, -⟩ := h
                have e1 : (runsZ p p.funcs (List.replicate p.nodes.length (-1), List.replicate p.nodes.length 0, [])).1 = sl := g1
                have e2 : (runsZ p p.funcs (List.replicate p.nodes.length (-1), List.replicate p.nodes.length 0, [])).2.2 = lo := g2
                rw [e2, List.nil_append] at n1
                rw [e1] at n3 n6
                subst n1
                exact ⟨n6 hz, n3, n2⟩
    · rename_i hf
      simp only [Prod.mk.injEq] at h
      exact absurd h.2.2.2 hf
  · rename_i hc
    simp only [Prod.mk.injEq] at h
    exact absurd h.2.2.2 hc
theorem errAt_lt {l : List Int} : ∀ {k a b : Int}, errAt l k = some (a, b) → k ≤ a ∧ a < k + (l.length : Int) := by
  induction l with
  | nil => intro k a b h; cases h
  | cons e r ih =>
    intro k a b h
    rw [errAt] at h
    rw [List.length_cons]
    split at h
    · have := ih h
      push_cast
      omega
    · injection h with h
      injection h with h1 h2
      push_cast
      omega
theorem funcsGo_mem {p : PPr} : ∀ {r : List PFn} {i b : Int}, funcsGo p r i = some b → ∃ f ∈ r, f.body = b := by
  intro r
  induction r with
  | nil => intro i b h; cases h
  | cons f r ih =>
    intro i b h
    rw [funcsGo] at h
    split at h
    · injection h with h
      exact ⟨f, by simp, h⟩
    · obtain ⟨g, h1, h2⟩ := ih h
      exact ⟨g, by simp [h1], h2⟩
/-- The node that study names. -/
theorem study_at (p : PPr) : -1 ≤ (studyZ p).2.2.1 ∧ ((studyZ p).2.2.2 ≠ 0 → (studyZ p).2.2.1 < (p.nodes.length : Int)) := by
  unfold studyZ
  split
  · rename_i hc
    unfold scheckZ at hc
    split at hc
    · cases hc
    · split at hc
      · cases hc
      · split at hc
        · cases hc
        · split at hc
          · cases hc
          · rename_i h1 h2 h3 h4
            have hob : ordGo p.nodes p.funcs 0 = true := by
              have : ordB p = true := by simpa using h3
              exact this
            have hbody : ∀ f ∈ p.funcs, 0 ≤ f.body ∧ f.body < (p.nodes.length : Int) := by
              intro f hf
              obtain ⟨m, m1, m2, -⟩ := ordGo_ok (Int.le_refl 0) hob f hf
              omega
            split
            · have hP : ∀ f ∈ p.funcs, f.params.length ≤ 8 := by
                intro f hf
                have h5 : p.funcs.any (fun f => decide (8 < f.params.length)) = false := by simpa using h4
                have := List.any_eq_false.1 h5 f hf
                simp at this
                exact this
              obtain ⟨ns, n1, n2, n3, n4, n5, n6⟩ := runs_right (p := p) (by omega) (r := p.funcs) (a := 0) (s := List.replicate p.nodes.length (-1)) (e := List.replicate p.nodes.length 0) (l := []) hob (by simp) (by simp) (fun k _ hk => by rw [List.getElem?_replicate, if_pos hk]) hP
              unfold studyEnd
              split
              · rename_i k e hE
                have := errAt_lt hE
                have e4 : (allZ p).2.1.length = p.nodes.length := n4
                rw [e4] at this
                simp only
                omega
              · simp
            · unfold funcsZ
              cases hg : funcsGo p p.funcs 0 with
              | some b =>
                obtain ⟨f, hf, rfl⟩ := funcsGo_mem hg
                have := hbody f hf
                unfold fEndZ
                simp only
                omega
              | none =>
                unfold fEndZ mainZ
                simp only
                split
                · simp only
                  omega
                · split
                  · simp
                  · rename_i g hg2
                    have := hbody g (List.mem_of_getElem? hg2)
                    split
                    · simp
                    · simp only
                      omega
  · simp only
    omega
end Go.Proofs.YtolidiafomceiaaGreatDoor
