/- Chapter 9: texts, calls, what main reaches: plain. No condition. Chapter 9: contract: texts; sorts of the call's own. No condition. Chapter 9: contracts: Ops, Calls. Condition: the program came in well; the table of Itoa lies as the program lays it. Chapter 9: contract: Calls. Condition: the program came in well; the table of Itoa lies as the program lays it. -/
import Derived.Test.YtolidiafomceiaaGreatDoorSttA
import Derived.Shelf.Slices.CompactS
import Derived.Test.YtolidiafomceiaaGreatDoorLex
import Derived.Test.YtolidiafomceiaaGreatDoorRowm
import Derived.Test.YtolidiafomceiaaGreatDoorShelfG
import Derived.Test.YtolidiafomceiaaGreatDoorMSttB
import Derived.Deep.RegionHeld3
namespace Go.Proofs.YtolidiafomceiaaGreatDoor
set_option linter.unusedVariables false
set_option linter.unusedSimpArgs false
open Go.RowKit
theorem compactUp (d : Array (List UInt8)) (hs : d.toList.Pairwise (· ≤ ·)) : ∀ m, m ≤ d.size → (Lib.compactUpTo d m).Pairwise (· < ·) ∧ (∀ x ∈ Lib.compactUpTo d m, ∃ j, j < m ∧ d[j]! = x) ∧ (∀ j, j < m → d[j]! ∈ Lib.compactUpTo d m) := by
  have hle : ∀ i j, i < j → j < d.size → d[i]! ≤ d[j]! := by
    intro i j hij hj
    rw [getElem!_pos d i (by omega), getElem!_pos d j hj]
    have := List.pairwise_iff_getElem.1 hs i j (by simp; omega) (by simpa using hj) hij
    simpa using this
  have hle' : ∀ i j, i ≤ j → j < d.size → d[i]! ≤ d[j]! := by
    intro i j hij hj
    rcases Nat.lt_or_ge i j with h | h
    · exact hle i j h hj
    · have : i = j := by omega
      subst this; exact List.le_refl _
  intro m
  induction m with
  | zero => intro _; exact ⟨by simp [Lib.compactUpTo], by simp [Lib.compactUpTo], fun j hj => absurd hj (Nat.not_lt_zero j)⟩
  | succ m ih =>
    intro hm
    obtain ⟨h1, h2, h3⟩ := ih (by omega)
    rw [Lib.compactUpTo_succ]
    cases hk : Lib.keeps d m
    · simp only [Bool.false_eq_true, if_false, List.append_nil]
      refine ⟨h1, fun x hx => ?_, fun j hj => ?_⟩
      · obtain ⟨j, hj, e⟩ := h2 x hx
        exact ⟨j, by omega, e⟩
      · by_cases e : j = m
        · subst e
          have hz : j ≠ 0 ∧ d[j]! = d[j - 1]! := by
            unfold Lib.keeps at hk
            simpa using hk
          rw [hz.2]
          exact h3 (j - 1) (by omega)
        · exact h3 j (by omega)
    · simp only [if_true]
      refine ⟨List.pairwise_append.2 ⟨h1, by simp, fun x hx y hy => ?_⟩, fun x hx => ?_, fun j hj => ?_⟩
      · simp at hy
        subst hy
        obtain ⟨j, hj, rfl⟩ := h2 x hx
        have hz : m = 0 ∨ d[m]! ≠ d[m - 1]! := by
          unfold Lib.keeps at hk
          simpa using hk
        have hne := hz.resolve_left (by omega)
        refine Classical.byContradiction fun hn => hne ?_
        have q1 : d[m]! ≤ d[j]! := List.not_lt.1 hn
        exact List.le_antisymm (List.le_trans q1 (hle' j (m - 1) (by omega) (by omega))) (hle' (m - 1) m (by omega) (by omega))
      · rcases List.mem_append.1 hx with hx | hx
        · obtain ⟨j, hj, e⟩ := h2 x hx
          exact ⟨j, by omega, e⟩
        · simp at hx
          exact ⟨m, by omega, hx.symm⟩
      · by_cases e : j = m
        · subst e; simp
        · exact List.mem_append_left _ (h3 j (by omega))
theorem compact_facts {zs : List (List UInt8)} (hs : zs.Pairwise (· ≤ ·)) : (Lib.compact zs).Pairwise (· < ·) ∧ ∀ x, x ∈ Lib.compact zs ↔ x ∈ zs := by
  obtain ⟨h1, h2, h3⟩ := compactUp zs.toArray (by simpa using hs) zs.length (by simp)
  refine ⟨h1, fun x => ⟨fun hx => ?_, fun hx => ?_⟩⟩
  · obtain ⟨j, hj, rfl⟩ := h2 x hx
    rw [getElem!_pos zs.toArray j (by simpa using hj)]
    simp
  · obtain ⟨j, hj, rfl⟩ := List.mem_iff_getElem.1 hx
    have := h3 j hj
    rw [getElem!_pos zs.toArray j (by simpa using hj)] at this
    show zs[j] ∈ Lib.compactUpTo zs.toArray zs.length
    simpa using this
theorem nodup_lt {l : List (List UInt8)} (h : l.Pairwise (· < ·)) : l.Nodup := by
  refine h.imp fun {a b} hab => ?_
  rintro rfl
  exact List.lt_irrefl _ hab
/-- The texts of the nodes of a kind in a stretch, as they come. -/
def rawZ (kind : Int) (l : List PNd) : List (List UInt8) := (l.filter (fun x => x.kind == kind)).map (fun x => bs x.text)
def textsZ (kind : Int) (l : List PNd) : List (List UInt8) := Lib.compact ((rawZ kind l).mergeSort leB)
theorem textsZ_mem {kind : Int} {l : List PNd} {t : List UInt8} : t ∈ textsZ kind l ↔ ∃ x ∈ l, x.kind = kind ∧ bs x.text = t := by
  unfold textsZ
  rw [(compact_facts (leB_sorted _)).2, (List.mergeSort_perm _ _).mem_iff]
  unfold rawZ
  simp only [List.mem_map, List.mem_filter, beq_iff_eq]
  constructor
  · rintro ⟨x, ⟨h1, h2⟩, h3⟩; exact ⟨x, h1, h2, h3⟩
  · rintro ⟨x, h1, h2, h3⟩; exact ⟨x, ⟨h1, h2⟩, h3⟩
theorem textsZ_lt (kind : Int) (l : List PNd) : (textsZ kind l).Pairwise (· < ·) := (compact_facts (leB_sorted _)).1
def findT (p : PPr) (t : List UInt8) : Int := idxFrom (fun g : PFn => g.name == ⟨⟨t⟩⟩) p.funcs 0
def pickZ (p : PPr) (l : List (List UInt8)) : List Int := (l.map (findT p)).filter (fun k => decide (0 ≤ k))
def fromZ (p : PPr) (f : Nat) : Nat := if f = 0 then 0 else match p.funcs[f - 1]? with
  | none => 0
  | some g => g.body.toNat + 1
def toZ (p : PPr) (f : Nat) : Nat := match p.funcs[f]? with
  | none => 0
  | some g => g.body.toNat + 1
def callRaw (p : PPr) (f : Nat) : List Int := pickZ p (textsZ 11 ((p.nodes.take (toZ p f)).drop (fromZ p f)))
/-- What a function calls. -/
def callsZ (p : PPr) (f : Int) : List Int := if (studyZ p).2.2.2 = 0 ∧ 0 ≤ f ∧ f.toNat < p.funcs.length then (callRaw p f.toNat).mergeSort leI else []
theorem callsZ_mem {p : PPr} {f g : Int} (h : g ∈ callsZ p f) : ∃ m : Nat, g = (m : Int) ∧ m < p.funcs.length := by
  unfold callsZ at h
  split at h
  · rw [(List.mergeSort_perm _ _).mem_iff] at h
    unfold callRaw pickZ at h
    rw [List.mem_filter, List.mem_map] at h
    obtain ⟨⟨t, -, rfl⟩, h2⟩ := h
    have h3 := of_decide_eq_true h2
    rcases idxFrom_get (p := fun g : PFn => g.name == ⟨⟨t⟩⟩) (l := p.funcs) (k := 0) with e | ⟨m, e, h4, -⟩
    · unfold findT at h3; omega
    · exact ⟨m, by unfold findT; omega, h4⟩
  · simp at h
/-- What main reaches. -/
inductive ReachZ (p : PPr) : Int → Prop
  | main : ReachZ p (idxFrom (fun g : PFn => g.name == mainS) p.funcs 0)
  | call {f g : Int} (h : ReachZ p f) (hg : g ∈ callsZ p f) : ReachZ p g
def addAll (o l : List Int) : List Int := l.foldl (fun o f => if o.any (fun y => f == y) = true then o else o ++ [f]) o
theorem addAll_cons (o : List Int) (f : Int) (l : List Int) : addAll o (f :: l) = addAll (if o.any (fun y => f == y) = true then o else o ++ [f]) l := rfl
theorem addAll_mem {l : List Int} : ∀ {o : List Int} {x : Int}, x ∈ addAll o l ↔ x ∈ o ∨ x ∈ l := by
  induction l with
  | nil => intro o x; simp [addAll]
  | cons f l ih =>
    intro o x
    rw [addAll_cons, ih]
    split
    · rename_i h
      rw [List.any_eq_true] at h
      obtain ⟨y, hy, e⟩ := h
      have := eq_of_beq e
      subst this
      simp only [List.mem_cons]
      constructor
      · rintro (h | h)
        · exact .inl h
        · exact .inr (.inr h)
      · rintro (h | rfl | h)
        · exact .inl h
        · exact .inl hy
        · exact .inr h
    · simp only [List.mem_append, List.mem_cons, List.not_mem_nil, or_false]
      constructor
      · rintro ((h | h) | h)
        · exact .inl h
        · exact .inr (.inl h)
        · exact .inr (.inr h)
      · rintro (h | h | h)
        · exact .inl (.inl h)
        · exact .inl (.inr h)
        · exact .inr h
theorem addAll_nodup {l : List Int} : ∀ {o : List Int}, o.Nodup → (addAll o l).Nodup := by
  induction l with
  | nil => intro o h; exact h
  | cons f l ih =>
    intro o h
    rw [addAll_cons]
    split
    · exact ih h
    · rename_i hn
      refine ih ?_
      rw [List.nodup_append]
      refine ⟨h, by simp, ?_⟩
      intro a ha b hb
      simp at hb
      subst hb
      rintro rfl
      exact hn (List.any_eq_true.2 ⟨a, ha, beq_self_eq_true a⟩)
/-- The list so far, and how many of it are done. -/
structure Part (p : PPr) (i : Nat) (o : List Int) : Prop where
  nd : o.Nodup
  rng : ∀ f ∈ o, ∃ m : Nat, f = (m : Int) ∧ m < p.funcs.length
  main : idxFrom (fun g : PFn => g.name == mainS) p.funcs 0 ∈ o
  sound : ∀ f ∈ o, ReachZ p f
  done : ∀ j (h : j < o.length), j < i → ∀ g ∈ callsZ p o[j], g ∈ o
theorem nodup_sub {α : Type} [DecidableEq α] : ∀ {l m : List α}, l.Nodup → (∀ x ∈ l, x ∈ m) → l.length ≤ m.length := by
  intro l
  induction l with
  | nil => intro m _ _; exact Nat.zero_le _
  | cons x l ih =>
    intro m hn hs
    have hx : x ∈ m := hs x (by simp)
    have h1 := ih (m := m.erase x) (List.nodup_cons.1 hn).2 (fun y hy => by
      have hne : y ≠ x := fun e => (List.nodup_cons.1 hn).1 (e ▸ hy)
      exact (List.mem_erase_of_ne hne).2 (hs y (by simp [hy])))
    rw [List.length_erase_of_mem hx] at h1
    have := List.length_pos_of_mem hx
    rw [List.length_cons]
    omega
theorem nodup_range {l : List Int} {n : Nat} (h : l.Nodup) (hr : ∀ f ∈ l, ∃ m : Nat, f = (m : Int) ∧ m < n) : l.length ≤ n := by
  have h1 : l ⊆ (List.range n).map (fun m : Nat => (m : Int)) := by
    intro f hf
    obtain ⟨m, rfl, hm⟩ := hr f hf
    exact List.mem_map.2 ⟨m, List.mem_range.2 hm, rfl⟩
  have h2 := nodup_sub h (fun x hx => h1 hx)
  simpa using h2
theorem Part.len {p : PPr} {i : Nat} {o : List Int} (h : Part p i o) : o.length ≤ p.funcs.length := nodup_range h.nd h.rng
theorem addAll_pre {l : List Int} : ∀ {o : List Int}, o <+: addAll o l := by
  induction l with
  | nil => intro o; exact List.prefix_refl o
  | cons f l ih =>
    intro o
    rw [addAll_cons]
    split
    · exact ih
    · exact (List.prefix_append o [f]).trans ih
theorem Part.step {p : PPr} {i : Nat} {o : List Int} (h : Part p i o) (hi : i < o.length) : Part p (i + 1) (addAll o (callsZ p o[i])) := by
  refine ⟨addAll_nodup h.nd, ?_, addAll_mem.2 (.inl h.main), ?_, ?_⟩
  · intro f hf
    rcases addAll_mem.1 hf with hf | hf
    · exact h.rng f hf
    · exact callsZ_mem hf
  · intro f hf
    rcases addAll_mem.1 hf with hf | hf
    · exact h.sound f hf
    · exact .call (h.sound _ (List.getElem_mem hi)) hf
  · intro j hj hji g hg
    have hjo : j < o.length := by omega
    have e : (addAll o (callsZ p o[i]))[j] = o[j] := (List.IsPrefix.getElem addAll_pre hjo).symm
    rw [e] at hg
    refine addAll_mem.2 ?_
    by_cases hji2 : j < i
    · exact .inl (h.done j hjo hji2 g hg)
    · have : j = i := by omega
      subst this
      exact .inr hg
theorem Part.all {p : PPr} {i : Nat} {o : List Int} (h : Part p i o) (hi : i = o.length) (f : Int) : f ∈ o ↔ ReachZ p f := by
  refine ⟨h.sound f, fun hr => ?_⟩
  induction hr with
  | main => exact h.main
  | call _ hg ih =>
    obtain ⟨j, hj, rfl⟩ := List.mem_iff_getElem.1 ih
    exact h.done j hj (by omega) _ hg
theorem leI_sorted (l : List Int) : (l.mergeSort leI).Pairwise (· ≤ ·) := by
  have h := List.pairwise_mergeSort (le := leI) (fun a b c h1 h2 => by
    unfold leI at h1 h2 ⊢
    simp only [decide_eq_true_eq] at h1 h2 ⊢
    omega) (fun a b => by
    unfold leI
    simp only [Bool.or_eq_true, decide_eq_true_eq]
    omega) l
  exact h.imp (fun {a b} h => by unfold leI at h; simpa using h)
end Go.Proofs.YtolidiafomceiaaGreatDoor
namespace Go.Proofs.YtolidiafomceiaaGreatDoor
set_option linter.unusedVariables false
set_option linter.unusedSimpArgs false
open Go.RowKit Go.Sort
section
variable {P : Program} {α : Type} {cf : α → List Value} {sz : Nat}
/-- 'x[m:k]' of a slice that came in. -/
theorem wpl_slice_lhI {w : World} {ops : Array Oper} {rest : List Oper} {o : Oper} {a : Act} {Q : Exit → Act → World → Prop} (hgd : o.guard = none) (s l h : Operand) (t : TypeId) (ho : o.op = Op.slice t s (some l) (some h) none) (ht : P.underlying t = some (.slice (P.elem t)))
    (hsz : (sizeOf (P.elem t)).run P w = .ok sz w) (a0 : Option Addr) (c m k : Nat) (xs : List α) (hs : a.eval s = .slice a0 xs.length c) (hin : InIs cf sz w a0 c xs) (hl : a.eval l = .int .i64 (m : Int)) (hh : a.eval h = .int .i64 (k : Int)) (hmk : m ≤ k) (hk : k ≤ xs.length)
    (hK : ∀ a' c', InIs cf sz w a' c' ((xs.take k).drop m) → wpList P ops Q rest (a.put o.dst (.slice a' (k - m) c')) w) : wpList P ops Q (o :: rest) a w := by
  refine wpList_plain hgd fun K' hK' => ?_
  have hlc := hin.2.1
  have hrun := run_slice_lh (P := P) w t a0 xs.length c ht .i64 .i64 (m : Int) (k : Int) (by omega) (by omega) (by omega)
  rw [hsz] at hrun
  simp only [Result.andThen, sliced, Int.toNat_natCast] at hrun
  rw [← run_sliceAt_slice (P := P) (h := ht)] at hrun
  unfold Oper.wp
  simp [execOp, ho, hs, hl, hh, hrun, Result.andThen]
  have h1 := hin.take hk
  have e1 : (xs.take k).length = k := by rw [List.length_take]; omega
  have h2 : SlIs cf sz w a0 k (xs.take k) := by have := h1.1; rw [e1] at this; exact this
  have h3 := SlIs.drop h2 hmk (show k ≤ c by omega)
  refine hK' _ _ (hK _ (c - m) ⟨?_, ?_, ?_, ?_⟩)
  · rw [List.length_drop, e1]; exact h3
  · rw [List.length_drop, e1]; omega
  · have := hin.2.2.1; omega
  · intro he
    by_cases hcm : c = m
    · omega
    · rw [if_neg hcm] at he
      have h0 : a0 = none := by cases a0 with | none => rfl | some q => simp at he
      have := hin.2.2.2 h0
      omega
end
theorem compact_len (zs : List (List UInt8)) : (Lib.compact zs).length ≤ zs.length := by
  unfold Lib.compact Lib.compactUpTo
  rw [List.length_map]
  refine Nat.le_trans (List.length_filter_le _ _) ?_
  simp
theorem RowOf.shrinkC {α : Type} {cf : α → List Value} {sz : Nat} {w : World} {base g cap : Nat} {e : TypeId} {l1 l2 : List α} (hc : ∀ x, (cf x).length = sz) (h : RowOf cf sz w base e (.slice (some ⟨g, 0, none⟩) (l1 ++ l2).length cap) (l1 ++ l2)) : RowOf cf sz w base e (.slice (some ⟨g, 0, none⟩) l1.length cap) l1 := by
  obtain ⟨h1, h2⟩ := h
  refine ⟨flatMap_len hc l1, ?_⟩
  rcases h2 with ⟨h2, _⟩ | ⟨g', cap', cur, hv, hg, hh, h4, h5, h6, h7⟩
  · cases h2
  · cases hv
    rw [List.length_append] at h4 h7
    refine .inr ⟨g, cap, cur, rfl, hg, hh, by omega, h5, h6, ?_⟩
    have h8 := congrArg (List.take (l1.length * sz)) h7
    rw [List.take_take, Nat.min_eq_left (Nat.mul_le_mul_right _ (Nat.le_add_right _ _)), List.flatMap_append, List.take_append_of_le_length (by rw [flatMap_len hc]; exact Nat.le_refl _), List.take_of_length_le (l := l1.flatMap cf) (by rw [flatMap_len hc]; exact Nat.le_refl _)] at h8
    exact h8
theorem compact_row {w : World} {base : Nat} {e : TypeId} {v : Value} {l : List (List UInt8)} (h : RowOf kc 1 w base e v l) (hl : l.length ≤ 9223372036854775807) :
    Calls Tryz.prog 50 #[v] w fun ex w' => ∃ v', ex = .returned v' ∧ RowOf kc 1 w' base e v' (Lib.compact l) ∧ Chg v.ownBlock.toList w w' := by
  rcases h.2 with ⟨h2, h3⟩ | ⟨g, cap, cur, hv, hg, hh, h4, h5, h6, h7⟩
  · have hl0 := List.eq_nil_of_length_eq_zero h3
    subst hl0
    subst h2
    refine (Tryz.slices_Compact_string_empty none 0 w).mono ?_
    rintro ex w' ⟨rfl, rfl⟩
    exact ⟨_, rfl, h, Chg.refl _ _⟩
  · subst hv
    rw [flat_kc, Nat.mul_one] at h7
    have hcl := compact_len l
    refine (Tryz.slices_Compact_string g 0 cap l w (holds_of_block hh h7) hl h4).mono ?_
    rintro ex w' ⟨rfl, n, rfl⟩
    refine ⟨_, rfl, ?_, Chg.ofRow (v := .slice (some ⟨g, 0, none⟩) l.length cap) (grownBy_sorted (os := #[]) _)⟩
    have e1 : (Lib.compact l ++ List.replicate (l.length - (Lib.compact l).length) ([] : List UInt8)).length = l.length := by rw [List.length_append, List.length_replicate]; omega
    have := ownsRow_sorted (n := n) (os := #[]) (ts := Lib.compact l ++ List.replicate (l.length - (Lib.compact l).length) []) (ss := l) e1 hg hh h4 h5 h6
    refine RowOf.shrinkC kLen (l2 := List.replicate (l.length - (Lib.compact l).length) []) ?_
    unfold RowOf
    rw [flat_kc, e1]
    exact this
theorem sort_anyS {w : World} {base : Nat} {e : TypeId} {v : Value} {l : List (List UInt8)} (h : RowOf kc 1 w base e v l) (hl : l.length < 4611686018427387904) :
    Calls Tryz.prog 49 #[v] w fun ex w' => ex = .returned (.tuple #[]) ∧ RowOf kc 1 w' base e v (l.mergeSort leB) ∧ Chg v.ownBlock.toList w w' :=
  sort_row Tryz.slices_Sort_string Tryz.slices_Sort_string_none h hl
theorem sort_anyI {w : World} {base : Nat} {e : TypeId} {v : Value} {l : List Int} (h : RowOf icI 1 w base e v l) (hl : l.length < 4611686018427387904) :
    Calls Tryz.prog 39 #[v] w fun ex w' => ex = .returned (.tuple #[]) ∧ RowOf icI 1 w' base e v (l.mergeSort leI) ∧ Chg v.ownBlock.toList w w' :=
  sort_rowI Tryz.slices_Sort_int Tryz.slices_Sort_int_none h hl
theorem elemNodes : Tryz.prog.underlying 22 = some (.slice (Tryz.prog.elem 22)) := by kernel_rfl
theorem sizeNode (w : World) : (sizeOf (Tryz.prog.elem 22)).run Tryz.prog w = .ok 5 w := by kernel_rfl
/-- A list of strings of the call's own. -/
def TextsPost (w : World) (l : List (List UInt8)) (e : Ending) (w' : World) : Prop := ∃ (a : Option Addr) (c : Nat), e = .returned (.slice a l.length c) ∧ RowOf kc 1 w' w.heap.size 9 (.slice a l.length c) l ∧ Chg [] w w'
theorem rawZ_cons {kind : Int} (x : PNd) (l : List PNd) : rawZ kind (x :: l) = if (x.kind == kind) = true then bs x.text :: rawZ kind l else rawZ kind l := by
  unfold rawZ
  rw [List.filter_cons]
  split <;> simp_all
theorem rawZ_len (kind : Int) (l : List PNd) : (rawZ kind l).length ≤ l.length := by
  unfold rawZ
  rw [List.length_map]
  exact List.length_filter_le _ _
set_option maxHeartbeats 16000000 in
set_option maxRecDepth 100000 in
theorem texts_any (x : Pr) (kind : Int) (m k : Nat) (w : World) (h : PrIn w x) (hmk : m ≤ k) (hk : k ≤ x.nodes.length) (hN : x.nodes.length ≤ 600) : Calls Tryz.prog 35 #[.agg (prC x).toArray, .int .i64 kind, .int .i64 m, .int .i64 k] w (TextsPost w (textsZ kind ((x.p.nodes.take k).drop m))) := by
  obtain ⟨R, hR⟩ : ∃ R, R = textsZ kind ((x.p.nodes.take k).drop m) := ⟨_, rfl⟩
  rw [← hR]
  unfold textsZ at hR
  have e1 : (x.p.nodes.take k).drop m = ((x.nodes.take k).drop m).map Nd.p := by
    show ((x.nodes.map Nd.p).take k).drop m = _
    rw [List.map_drop, List.map_take]
  rw [e1] at hR
  obtain ⟨xs, hxs⟩ : ∃ xs, xs = (x.nodes.take k).drop m := ⟨_, rfl⟩
  rw [← hxs] at hR
  have hlen : xs.length = k - m := by rw [hxs, List.length_drop, List.length_take]; omega
  have HXS := Lib.hid hxs
  have HR := Lib.hid hR
  have HI := Lib.hid (fun w' (hc : Chg [] w w') => (h.kept hc).1.1)
  have hm0 : (0 : Int) ≤ (m : Int) := by omega
  obtain ⟨W1, hW1⟩ : ∃ W1, W1 = w.alloc (prO x) := ⟨_, rfl⟩
  have C1 := Lib.hid (show Chg [] w W1 by rw [hW1]; exact (Chg.refl _ _).alloc _)
  have B1 := Lib.hid (show W1.heap[w.heap.size]? = some (prO x) by rw [hW1]; exact heap_alloc_new _ _)
  unfold prO at hW1 B1
  have k1 := blk_cell B1.out
  have HLEN := Lib.hid hlen
  simp only [prC]
  clear hR h hxs e1 hlen
  go_enter Tryz.func35, Tryz.ntmps35
  go_upto_region 1 with fail
  rw [← hW1]
  clear hW1
  go_wp2_with (refine wpl_slice_lhI rfl _ _ _ 22 rfl elemNodes (sizeNode _) x.na x.nc m k x.nodes rfl (HI.out _ C1.out) rfl rfl hmk hk ?_; intro a' c' hin; rw [← HXS.out] at hin; have HIN := Lib.hid hin; clear hin)
  rw [← HLEN.out]
  have hxl : xs.length ≤ 600 := by have := HLEN.out; omega
  have hxli : (xs.length : Int) ≤ 600 := by omega
  clear k1
  go_loopw [9, 18] (fun u v wi => ∃ (j : Nat) (oa : Option Addr) (oc : Nat) (acc : List (List UInt8)), u = .slice oa acc.length oc ∧ v = .int .i64 j ∧ j ≤ xs.length ∧ acc.length ≤ j ∧ Hid (rawZ kind (xs.map Nd.p) = acc ++ rawZ kind ((xs.drop j).map Nd.p)) ∧ Hid (RowOf kc 1 wi W1.heap.size 9 (.slice oa acc.length oc) acc) ∧ Hid (Chg [] w wi) ∧ Hid (Chg [] W1 wi)) (fun _ v _ => xs.length - (intOf v).toNat)
  case atStart => exact ⟨0, none, 0, [], rfl, rfl, Nat.zero_le _, Nat.zero_le _, Lib.hid rfl, Lib.hid ⟨rfl, .inl ⟨rfl, rfl⟩⟩, C1, Lib.hid (Chg.refl _ _)⟩
  case round =>
    obtain ⟨j, oa, oc, acc, rfl, rfl, hj, hal, HS, Row, C, D⟩ := hrel
    have hj0 : (0 : Int) ≤ (j : Int) := by omega
    by_cases hjl : j < xs.length
    · have hjl' : (j : Int) < (xs.length : Int) := by omega
      obtain ⟨b2, o2, e2, -, -, hc2⟩ := HIN.out.1.elem D.out j hjl
      have y0 := hc2 0 (by omega)
      have y1 := hc2 1 (by omega)
      have y2 := hc2 2 (by omega)
      have y3 := hc2 3 (by omega)
      have y4 := hc2 4 (by omega)
      simp only [ndC, List.getElem?_cons_zero, List.getElem?_cons_succ, Nat.add_zero] at y0 y1 y2 y3 y4
      have HS2 := HS.out
      rw [List.drop_eq_getElem_cons hjl, List.map_cons, rawZ_cons] at HS2
      have qj : IntKind.i64.wrap ((j : Int) + 1) = (j : Int) + 1 := IntWalk.i64_in _ (by omega)
      generalize xs[j] = d at *
      rw [show d.p.kind = d.kind from rfl, show d.p.text = d.text from rfl] at HS2
      obtain ⟨W6, hW6⟩ : ∃ W6, W6 = wr.alloc (ndO d) := ⟨_, rfl⟩
      have N6 := Lib.hid (show Chg [] wr W6 by rw [hW6]; exact (Chg.refl _ _).alloc _)
      have C6 := Lib.hid (C.out.thenSame N6.out)
      have D6 := Lib.hid (D.out.thenSame N6.out)
      have R6 := Lib.hid (RowOf.kept Row.out N6.out (by simp))
      have B6 := Lib.hid (show W6.heap[wr.heap.size]? = some (ndO d) by rw [hW6]; exact heap_alloc_new _ _)
      unfold ndO at hW6 B6
      have n6 := blk_cell B6.out
      have hz6 := D6.out.size
      have hz1 := C1.out.size
      clear hc2
      rw [e2]
      go_upto_region 5 with fail
      rw [← hW6]
      clear hW6 y0 y1 y2 y3 y4
      cases hq : (d.kind == kind)
      · rw [hq, if_neg (by simp)] at HS2
        have HS3 := Lib.hid HS2
        clear HS2
        go_wp2_with fail
        exact ⟨⟨j + 1, oa, oc, acc, rfl, rfl, by omega, by omega, HS3, R6, C6, D6⟩, by simp [intOf]; omega⟩
      · rw [hq, if_pos rfl] at HS2
        have HS3 := Lib.hid (show rawZ kind (xs.map Nd.p) = (acc ++ [bs d.text]) ++ rawZ kind ((xs.drop (j + 1)).map Nd.p) by rw [HS2, List.append_assoc]; rfl)
        clear HS2
        go_wp2_with (at_builtin; refine wpl_append rfl _ _ 36 rfl W1.heap.size 9 _ 16 Tryz.underlying36 skInfo rfl (by decide) kLen kOne (.slice oa acc.length oc) acc rfl (RowOf.kept R6.out ((Chg.refl [] _).alloc _) (by simp)) W6.heap.size _ (bs d.text) _ _ _ rfl (heap_alloc_new W6 _) (by simp [kc, enc_bs]) (by unfold maxLen; omega) (by omega) (by simp; omega) ?_; intro v' w9 hr9 hg9; have Hr9 := Lib.hid hr9; have Hg9 := Lib.hid hg9; clear hr9 hg9)
        have hT := Lib.hid (fun g (hg : g ∈ (Value.slice oa acc.length oc).ownBlock.toList) => (R6.out.block g (by simpa using hg)).1)
        have C9 := Lib.hid ((C6.out.alloc (.cells #[.string d.text] 9)).then (Chg.ofRow Hg9.out) (fun g hg hl => by have h1 := hT.out _ hg; omega))
        have D9 := Lib.hid ((D6.out.alloc (.cells #[.string d.text] 9)).then (Chg.ofRow Hg9.out) (fun g hg hl => by have h1 := hT.out _ hg; omega))
        obtain ⟨a', c', rfl⟩ := RowOf.shape Hr9.out
        exact ⟨⟨j + 1, a', c', acc ++ [bs d.text], rfl, rfl, by omega, by simp; omega, HS3, Hr9, C9, D9⟩, by simp [intOf]; omega⟩
    · have hje : j = xs.length := by omega
      have HS2 := HS.out
      rw [hje, List.drop_length, List.map_nil, show rawZ kind [] = [] from rfl, List.append_nil] at HS2
      have HE := Lib.hid (show R = Lib.compact (acc.mergeSort leB) by rw [HR.out, HS2])
      have hjl' : ¬ (j : Int) < (xs.length : Int) := by omega
      have hal6 : acc.length ≤ 600 := by omega
      have hz1 := C1.out.size
      have AS := Lib.hid (sort_anyS Row.out (by omega))
      clear HS2 hje
      go_wp2_with (first | (go_at_call 49; (with_reducible refine Calls.mono AS.out ?_); rintro e w7 ⟨rfl, hr, hc⟩; have C7 := Lib.hid (C.out.then hc (fun g hg hl => by have h1 := (Row.out.block g (by simpa using hg)).1; omega)); have R7 := Lib.hid hr; clear hr hc) | (go_at_call 50; (with_reducible refine Calls.mono (compact_row R7.out (by rw [List.length_mergeSort]; omega)) ?_); rintro e w8 ⟨v', rfl, hr, hc⟩; have C8 := Lib.hid (C7.out.then hc (fun g hg hl => by have h1 := (R7.out.block g (by simpa using hg)).1; omega)); have R8 := Lib.hid hr; clear hr hc))
      go_ret
      obtain ⟨a9, c9, rfl⟩ := RowOf.shape R8.out
      rw [HE.out]
      exact ⟨a9, c9, rfl, R8.out.mono hz1, C8.out⟩
end Go.Proofs.YtolidiafomceiaaGreatDoor
namespace Go.Proofs.YtolidiafomceiaaGreatDoor
set_option linter.unusedVariables false
set_option linter.unusedSimpArgs false
open Go.RowKit
theorem errAt_ne {l : List Int} : ∀ {k a b : Int}, errAt l k = some (a, b) → b ≠ 0 := by
  induction l with
  | nil => intro k a b h; cases h
  | cons e r ih =>
    intro k a b h
    rw [errAt] at h
    split at h
    · exact ih h
    · injection h with h
      injection h with h1 h2
      subst h2
      assumption
theorem study_zero {p : PPr} (h : (studyZ p).2.2.2 = 0) : scheckZ p = 0 ∧ (funcsZ p).2 = 0 := by
  unfold studyZ at h
  split at h
  · rename_i h1
    split at h
    · rename_i h2; exact ⟨h1, h2⟩
    · rename_i h2; exact absurd h h2
  · rename_i h1; exact absurd h h1
theorem study_nodes {x : Pr} (h : (studyZ x.p).2.2.2 = 0) : x.nodes.length ≤ 600 ∧ x.funcs.length ≤ 16 := by
  have h1 := scheckZ_ok (study_zero h).1
  rw [show x.p.nodes.length = x.nodes.length from List.length_map _, show x.p.funcs.length = x.funcs.length from List.length_map _] at h1
  exact ⟨h1.1, h1.2.1⟩
theorem texts_nil {w w' : World} (hc : Chg [] w w') : TextsPost w [] (.returned (.slice none 0 0)) w' := ⟨none, 0, rfl, ⟨rfl, .inl ⟨rfl, rfl⟩⟩, hc⟩
def opsZ (p : PPr) : List (List UInt8) := if (studyZ p).2.2.2 = 0 then textsZ 12 p.nodes else []
set_option maxHeartbeats 16000000 in
set_option maxRecDepth 100000 in
theorem ops_any (x : Pr) (w : World) (h : PrIn w x) (hg : goodPr x) (ht : TabW w) : Calls Tryz.prog 20 #[.agg (prC x).toArray] w (TextsPost w (opsZ x.p)) := by
  obtain ⟨R, hR⟩ : ∃ R, R = opsZ x.p := ⟨_, rfl⟩
  rw [← hR]
  unfold opsZ at hR
  obtain ⟨W1, hW1⟩ : ∃ W1, W1 = w.alloc (prO x) := ⟨_, rfl⟩
  have C1 := Lib.hid (show Chg [] w W1 by rw [hW1]; exact (Chg.refl _ _).alloc _)
  have B1 := Lib.hid (show W1.heap[w.heap.size]? = some (prO x) by rw [hW1]; exact heap_alloc_new _ _)
  have A := Lib.hid (check_any x W1 (h.kept C1.out) hg (ht.kept C1.out))
  have T := Lib.hid (fun (hN : x.nodes.length ≤ 600) w' (hc : Chg [] w w') => texts_any x 12 0 x.nodes.length w' (h.kept hc) (Nat.zero_le _) (Nat.le_refl _) hN)
  have N := Lib.hid (study_nodes (x := x))
  unfold prO at hW1 B1
  have k1 := blk_cell B1.out
  simp only [prC] at A T ⊢
  have e0 : (x.p.nodes.take x.nodes.length).drop 0 = x.p.nodes := by
    rw [List.drop_zero]
    exact List.take_of_length_le (by rw [show x.p.nodes.length = x.nodes.length from List.length_map _]; exact Nat.le_refl _)
  rw [e0] at T
  generalize studyZ x.p = S at *
  clear h hg ht e0
  by_cases he : S.2.2.2 = 0
  · have hN := (N.out he).1
    have T2 := Lib.hid (T.out hN)
    rw [if_pos he] at hR
    have HE := Lib.hid hR
    have heb : (S.2.2.2 != 0) = false := by rw [he]; rfl
    clear hR N T he
    generalize S.2.2.2 = er at *
    generalize S.2.2.1 = ea at *
    go_enter Tryz.func20, Tryz.ntmps20
    go_upto_region 1 with fail
    rw [← hW1]
    clear hW1
    go_wp2_with (first | (go_at_call 10; (with_reducible refine Calls.mono A.out ?_); rintro e w2 ⟨rfl, hc⟩; have C2 := Lib.hid (C1.out.thenSame hc); have B2 := Lib.hid (hc.at (by simp) B1.out); have k2 := blk_cell B2.out; clear k1 hc) | (go_at_call 35; (with_reducible refine Calls.mono (T2.out _ C2.out) ?_); rintro e w3 ⟨a, c, rfl, hr, hc⟩; have R3 := Lib.hid (RowOf.mono hr C2.out.size); have C3 := Lib.hid (C2.out.thenSame hc); clear hr hc k2))
    go_ret
    rw [HE.out]
    exact ⟨a, c, rfl, R3.out, C3.out⟩
  · rw [if_neg he] at hR
    have HE := Lib.hid hR
    have heb : (S.2.2.2 != 0) = true := by simpa using he
    clear hR N T he
    generalize S.2.2.2 = er at *
    generalize S.2.2.1 = ea at *
    go_enter Tryz.func20, Tryz.ntmps20
    go_upto_region 1 with fail
    rw [← hW1]
    clear hW1
    go_wp2_with (go_at_call 10; (with_reducible refine Calls.mono A.out ?_); rintro e w2 ⟨rfl, hc⟩; have C2 := Lib.hid (C1.out.thenSame hc); clear k1 hc)
    go_ret
    rw [HE.out]
    exact texts_nil C2.out
end Go.Proofs.YtolidiafomceiaaGreatDoor
namespace Go.Proofs.YtolidiafomceiaaGreatDoor
set_option linter.unusedVariables false
set_option linter.unusedSimpArgs false
open Go.RowKit
theorem ordGo_up {l : List PNd} : ∀ {r : List PFn} {s : Int}, ordGo l r s = true → (∀ (h : 0 < r.length), s ≤ r[0].body) ∧ ∀ j (h : j + 1 < r.length), r[j].body < r[j + 1].body := by
  intro r
  induction r with
  | nil => intro s _; exact ⟨fun h => by simp at h, fun j h => by simp at h⟩
  | cons g r ih =>
    intro s h
    rw [ordGo] at h
    split at h
    · cases h
    · split at h
      · cases h
      · split at h
        · cases h
        · split at h
          · cases h
          · split at h
            · cases h
            · split at h
              · cases h
              · rename_i h3 h4 h5 h6
                obtain ⟨i1, i2⟩ := ih h
                refine ⟨fun _ => by simp only [List.getElem_cons_zero]; omega, fun j hj => ?_⟩
                cases j with
                | zero =>
                  have := i1 (by simpa using hj)
                  simp only [List.getElem_cons_zero, List.getElem_cons_succ]
                  omega
                | succ j =>
                  simp only [List.getElem_cons_succ]
                  exact i2 j (by simpa using hj)
theorem bodies_up {x : Pr} (h : ordB x.p = true) (j : Nat) (hj : j + 1 < x.funcs.length) : (x.funcs[j]).body < (x.funcs[j + 1]).body := by
  have h1 := (ordGo_up (l := x.p.nodes) (r := x.funcs.map Fn'.p) h).2 j (by simpa using hj)
  simp only [List.getElem_map] at h1
  exact h1
/-- A list of ints of the call's own. -/
def IntsPost (w : World) (l : List Int) (e : Ending) (w' : World) : Prop := ∃ (a : Option Addr) (c : Nat), e = .returned (.slice a l.length c) ∧ RowOf icI 1 w' w.heap.size 3 (.slice a l.length c) l ∧ Chg [] w w'
theorem ints_nil {w w' : World} (hc : Chg [] w w') : IntsPost w [] (.returned (.slice none 0 0)) w' := ⟨none, 0, rfl, ⟨rfl, .inl ⟨rfl, rfl⟩⟩, hc⟩
theorem toZ_x {x : Pr} {m q : Nat} (hm : m < x.funcs.length) (hq : (x.funcs[m]).body = (q : Int)) : toZ x.p m = q + 1 := by
  unfold toZ
  rw [funcs_p_at hm]
  show (x.funcs[m]).body.toNat + 1 = _
  rw [hq, Int.toNat_natCast]
theorem fromZ_x {x : Pr} {m q : Nat} (hm : m < x.funcs.length) (hq : (x.funcs[m]).body = (q : Int)) : fromZ x.p (m + 1) = q + 1 := by
  unfold fromZ
  rw [if_neg (by omega), Nat.add_sub_cancel, funcs_p_at hm]
  show (x.funcs[m]).body.toNat + 1 = _
  rw [hq, Int.toNat_natCast]
theorem pickZ_cons (p : PPr) (t : List UInt8) (l : List (List UInt8)) : pickZ p (t :: l) = if 0 ≤ findT p t then findT p t :: pickZ p l else pickZ p l := by
  unfold pickZ
  rw [List.map_cons, List.filter_cons]
  split
  · rename_i h; rw [if_pos (by simpa using h)]
  · rename_i h; rw [if_neg (by simpa using h)]
theorem findT_x (x : Pr) (t : List UInt8) : findT x.p t = idxFrom (fun f : Fn' => f.name == ⟨⟨t⟩⟩) x.funcs 0 := find_p x ⟨⟨t⟩⟩
theorem textsZ_len (kind : Int) (l : List PNd) : (textsZ kind l).length ≤ l.length := by
  unfold textsZ
  refine Nat.le_trans (compact_len _) ?_
  rw [List.length_mergeSort]
  exact rawZ_len kind l
set_option maxHeartbeats 16000000 in
set_option maxRecDepth 100000 in
theorem calls_any (x : Pr) (f : Int) (w : World) (h : PrIn w x) (hg : goodPr x) (ht : TabW w) : Calls Tryz.prog 22 #[.agg (prC x).toArray, .int .i64 f] w (IntsPost w (callsZ x.p f)) := by
  obtain ⟨R, hR⟩ : ∃ R, R = callsZ x.p f := ⟨_, rfl⟩
  rw [← hR]
  unfold callsZ at hR
  rw [show x.p.funcs.length = x.funcs.length from List.length_map _] at hR
  obtain ⟨W1, hW1⟩ : ∃ W1, W1 = w.alloc (prO x) := ⟨_, rfl⟩
  have C1 := Lib.hid (show Chg [] w W1 by rw [hW1]; exact (Chg.refl _ _).alloc _)
  have B1 := Lib.hid (show W1.heap[w.heap.size]? = some (prO x) by rw [hW1]; exact heap_alloc_new _ _)
  have A := Lib.hid (check_any x W1 (h.kept C1.out) hg (ht.kept C1.out))
  have T := Lib.hid (fun (m k : Nat) (hmk : m ≤ k) (hk : k ≤ x.nodes.length) (hN : x.nodes.length ≤ 600) w' (hc : Chg [] w w') => texts_any x 11 m k w' (h.kept hc) hmk hk hN)
  have FA := Lib.hid (fun w' (hc : Chg [] w w') (s : ByteArray) => find_any x s w' (h.kept hc))
  have N := Lib.hid (fun (e : (studyZ x.p).2.2.2 = 0) => And.intro (study_nodes e) (scheckZ_ok (study_zero e).1).2.2)
  have HF := Lib.hid (fun w' (hc : Chg [] w w') => (h.kept hc).2.1.1)
  have hfl : (x.funcs.length : Int) ≤ 9223372036854775807 := by have h1 := h.2.1.2.1; have h2 := h.2.1.2.2.1; unfold maxLen at h2; omega
  unfold prO at hW1 B1
  have k1 := blk_cell B1.out
  simp only [prC] at A T FA ⊢
  generalize studyZ x.p = S at *
  clear h hg ht
  by_cases he : S.2.2.2 = 0
  · obtain ⟨⟨hn6, hf16⟩, hord⟩ := N.out he
    have heb : (S.2.2.2 != 0) = false := by rw [he]; rfl
    by_cases hf : 0 ≤ f ∧ f.toNat < x.funcs.length
    · rw [if_pos ⟨he, hf.1, hf.2⟩] at hR
      obtain ⟨m, rfl⟩ : ∃ m : Nat, f = (m : Int) := ⟨f.toNat, by omega⟩
      rw [Int.toNat_natCast] at hf hR
      obtain ⟨-, hm⟩ := hf
      have HR := Lib.hid hR
      obtain ⟨q, hq1, hq2, -⟩ := bodies_ok hord m hm
      obtain ⟨b2, o2, e2, -, -, -⟩ := (HF.out _ (Chg.refl [] w)).elem (Chg.refl [] _) m hm
      have HU := Lib.hid (fun w' (hc : Chg [] w w') => show w'.cell? ⟨b2, o2 + m * 3 + 2, none⟩ = some (.int .i64 (q : Int)) from by
        obtain ⟨b3, o3, e3, -, -, hc3⟩ := (HF.out w' hc).elem (Chg.refl [] _) m hm
        rw [e2] at e3
        cases e3
        have := hc3 2 (by omega)
        simp only [fnC, List.getElem?_cons_zero, List.getElem?_cons_succ] at this
        rw [this, hq1])
      have hm' : (m : Int) < (x.funcs.length : Int) := by omega
      have hm0 : (0 : Int) ≤ (m : Int) := by omega
      have hmge : ¬ (m : Int) < 0 := by omega
      have hto := toZ_x hm hq1
      have qq : IntKind.i64.wrap ((q : Int) + 1) = (q : Int) + 1 := IntWalk.i64_in _ (by omega)
      have A2 := Lib.hid (by have := A.out; rw [e2] at this; exact this)
      have k3 := blk_cell (by have := B1.out; rw [e2] at this; exact this)
      rw [e2] at hW1 ⊢
      clear hR N k1 A
      generalize S.2.2.2 = er at *
      generalize S.2.2.1 = ea at *
      clear he
      obtain ⟨fr, hfr⟩ : ∃ fr, fr = fromZ x.p m := ⟨_, rfl⟩
      by_cases hm00 : m = 0
      · have hfr0 : fr = 0 := by rw [hfr, hm00]; rfl
        obtain ⟨TX, hTX⟩ : ∃ TX, TX = textsZ 11 ((x.p.nodes.take (q + 1)).drop 0) := ⟨_, rfl⟩
        have HTX := Lib.hid (show TX = textsZ 11 ((x.p.nodes.take (toZ x.p m)).drop (fromZ x.p m)) by rw [hTX, hto, ← hfr, hfr0])
        have HTL := Lib.hid (show TX.length ≤ 600 by
          rw [hTX]
          refine Nat.le_trans (textsZ_len _ _) ?_
          rw [List.length_drop, List.length_take, show x.p.nodes.length = x.nodes.length from List.length_map _]
          omega)
        have T3 := Lib.hid (fun w' (hc : Chg [] w w') => by
          have := T.out 0 (q + 1) (Nat.zero_le _) (by omega) hn6 w' hc
          rw [← hTX, e2, show ((0 : Nat) : Int) = 0 from rfl, show ((q + 1 : Nat) : Int) = (q : Int) + 1 from by push_cast; rfl] at this
          exact this)
        have hm2 : ¬ (m : Int) > 0 := by omega
        have hge : ¬ (x.funcs.length : Int) ≤ (m : Int) := by omega
        clear hTX hfr hfr0 hto T hq1 hm00
        go_enter Tryz.func22, Tryz.ntmps22
        go_upto_region 1 with fail
        rw [← hW1]
        clear hW1
        go_wp2_with (go_at_call 10; (with_reducible refine Calls.mono A2.out ?_); rintro e w2 ⟨rfl, hc⟩; have C2 := Lib.hid (C1.out.thenSame hc); have B2 := Lib.hid (hc.at (by simp) B1.out); have k2 := blk_cell (by have := B2.out; rw [e2] at this; exact this); clear k3 hc)
        have HP := Lib.hid (show callRaw x.p m = pickZ x.p TX from by rw [HTX.out]; rfl)
        have htl : TX.length ≤ 600 := by have := HTL.out; omega
        have htli : (TX.length : Int) ≤ 600 := by omega
        have VK := Lib.hid (fun (w' : World) (hc : Chg [] w2 w') => show w'.cell? ⟨w.heap.size, 0, none⟩ = some (.slice x.na x.nodes.length x.nc) ∧ w'.cell? ⟨w.heap.size, 1, none⟩ = some (.slice (some ⟨b2, o2, none⟩) x.funcs.length x.fc) ∧ w'.cell? ⟨b2, o2 + m * 3 + 2, none⟩ = some (.int .i64 (q : Int)) from by
          have h1 := blk_cell (by have := hc.at (by simp) B2.out; rw [e2] at this; exact this)
          exact ⟨h1 0, h1 1, HU.out w' (C2.out.thenSame hc)⟩)
        clear k2
        go_region_held3 (fun w' => w'.cell? ⟨w.heap.size, 0, none⟩ = some (.slice x.na x.nodes.length x.nc) ∧ w'.cell? ⟨w.heap.size, 1, none⟩ = some (.slice (some ⟨b2, o2, none⟩) x.funcs.length x.fc) ∧ w'.cell? ⟨b2, o2 + m * 3 + 2, none⟩ = some (.int .i64 (q : Int)))
          (first | exact VK.out _ ((Chg.refl _ _).drew) | exact VK.out _ KC.out)
          (first | (go_at_call 35; (with_reducible refine Calls.mono (T3.out _ (C2.out.thenSame (Chg.refl _ _).drew)) ?_); rintro e w3 ⟨a, c, rfl, hr, hc⟩; have R3 := Lib.hid hr; have KC := Lib.hid (show Chg [] w2 w3 from ((Chg.refl _ _).drew).thenSame hc); clear hr hc) | fail)
        have C3 := Lib.hid (C2.out.thenSame KC.out)
        have B3 := Lib.hid (KC.out.at (by simp) B2.out)
        have HG := Lib.hid (fun g (hg : (Value.slice a TX.length c).ownBlock = some g) => (R3.out.block g hg).2)
        go_wp2_with fail
        go_loopw [8, 51] (fun u v wi => ∃ (j : Nat) (oa : Option Addr) (oc : Nat) (acc : List Int), u = .slice oa acc.length oc ∧ v = .int .i64 j ∧ j ≤ TX.length ∧ acc.length ≤ j ∧ Hid (callRaw x.p m = acc ++ pickZ x.p (TX.drop j)) ∧ Hid (RowOf icI 1 wi w3.heap.size 3 (.slice oa acc.length oc) acc) ∧ Hid (RowOf kc 1 wi w2.heap.size 9 (.slice a TX.length c) TX) ∧ Hid (Chg [] w wi) ∧ Hid (wi.heap[w.heap.size]? = some (.cells #[.slice x.na x.nodes.length x.nc, .slice x.fa x.funcs.length x.fc] 25 (0, 0))) ∧ Hid (w3.heap.size ≤ wi.heap.size)) (fun _ v _ => TX.length - (intOf v).toNat)
        case atStart => exact ⟨0, none, 0, [], rfl, rfl, Nat.zero_le _, Nat.zero_le _, Lib.hid HP.out, Lib.hid ⟨rfl, .inl ⟨rfl, rfl⟩⟩, R3, C3, (by first | exact B3 | (rw [e2] at B3; exact B3)), Lib.hid (Nat.le_refl _)⟩
        case round =>
          obtain ⟨j, oa, oc, acc, rfl, rfl, hj, hal, HS, Acc, Row, C, B, Zw⟩ := hrel
          have hj0 : (0 : Int) ≤ (j : Int) := by omega
          by_cases hjl : j < TX.length
          · have hjl' : (j : Int) < (TX.length : Int) := by omega
            obtain ⟨b4, o4, e4, -, -, hc4⟩ := (RowOf.sl Row.out kLen).1.elem (Chg.refl [] _) j hjl
            have u4 := hc4 0 (by omega)
            simp only [kc, List.getElem?_cons_zero, Nat.add_zero, Nat.mul_one] at u4
            have HS2 := HS.out
            rw [List.drop_eq_getElem_cons hjl, pickZ_cons, findT_x] at HS2
            have qj : IntKind.i64.wrap ((j : Int) + 1) = (j : Int) + 1 := IntWalk.i64_in _ (by omega)
            have k5 := blk_cell (by have := B.out; rw [e2] at this; exact this)
            have AF := Lib.hid (fun w' (hc : Chg [] w w') => by have := FA.out w' hc ⟨⟨TX[j]⟩⟩; rw [e2] at this; exact this)
            generalize TX[j] = tx at *
            have u5 : wr.cell? ⟨b4, o4 + j, none⟩ = some (.string ⟨⟨tx⟩⟩) := u4
            generalize idxFrom (fun f : Fn' => f.name == ⟨⟨tx⟩⟩) x.funcs 0 = v at *
            clear hc4 u4
            rw [e4]
            have hal6 : acc.length ≤ 600 := by omega
            by_cases hv : 0 ≤ v
            · rw [if_pos hv] at HS2
              have HS3 := Lib.hid (show callRaw x.p m = (acc ++ [v]) ++ pickZ x.p (TX.drop (j + 1)) by rw [HS2, List.append_assoc]; rfl)
              clear HS2
              go_wp2_with (first | (go_at_call 38; (with_reducible refine Calls.mono (AF.out _ C.out) ?_); rintro e w6 ⟨rfl, hc⟩; have D6 := Lib.hid hc; have z6 := hc.size; clear hc k5) | (at_builtin; refine wpl_append rfl _ _ 32 rfl w3.heap.size 3 _ 8 Tryz.underlying32 intInfoS rfl (by decide) icI_len1 icI_one1 (.slice oa acc.length oc) acc rfl (RowOf.kept Acc.out (D6.out.alloc _) (by simp)) w6.heap.size _ v _ _ _ rfl (heap_alloc_new w6 _) rfl (by unfold maxLen; omega) (by omega) (by have := Zw.out; simp; omega) ?_; intro v' w9 hr9 hg9; have Hr9 := Lib.hid hr9; have Hg9 := Lib.hid hg9; clear hr9 hg9))
              have hT := Lib.hid (fun g (hg : g ∈ (Value.slice oa acc.length oc).ownBlock.toList) => (Acc.out.block g (by simpa using hg)).1)
              have C9 := Lib.hid (((C.out.thenSame D6.out).alloc (.cells #[.int .i64 v] 3)).then (Chg.ofRow Hg9.out) (fun g hg hl => by have h1 := hT.out _ hg; have := C3.out.size; omega))
              have B9 := Lib.hid ((Chg.ofRow Hg9.out).at (fun hg => by have h1 := hT.out _ hg; have := lt_of_heap B3.out; omega) (blk_alloc (o' := .cells #[.int .i64 v] 3) (D6.out.at (by simp) B.out)))
              have Row9 := Lib.hid (RowOf.kept (RowOf.kept Row.out (D6.out.alloc (.cells #[.int .i64 v] 3)) (by simp)) (Chg.ofRow Hg9.out) (fun g hg hm => by have h1 := hT.out _ hm; have h2 := HG.out g hg; omega))
              have Z9 := Lib.hid (show w3.heap.size ≤ w9.heap.size by have h1 := (Chg.ofRow Hg9.out).size; have h2 := Zw.out; simp at h1; omega)
              obtain ⟨a', c', rfl⟩ := RowOf.shape Hr9.out
              exact ⟨⟨j + 1, a', c', acc ++ [v], rfl, rfl, by omega, by simp; omega, HS3, Hr9, (by first | exact Row9 | (rw [e4] at Row9; exact Row9)), C9, (by first | exact B9 | (rw [e2] at B9; exact B9)), Z9⟩, by simp [intOf]; omega⟩
            · rw [if_neg hv] at HS2
              have HS3 := Lib.hid HS2
              clear HS2
              go_wp2_with (go_at_call 38; (with_reducible refine Calls.mono (AF.out _ C.out) ?_); rintro e w6 ⟨rfl, hc⟩; have C6 := Lib.hid (C.out.thenSame hc); have B6 := Lib.hid (hc.at (by simp) B.out); have Acc6 := Lib.hid (RowOf.kept Acc.out hc (by simp)); have Row6 := Lib.hid (RowOf.kept Row.out hc (by simp)); have Z6 := Lib.hid (Nat.le_trans Zw.out hc.size); clear hc k5)
              exact ⟨⟨j + 1, oa, oc, acc, rfl, rfl, by omega, by omega, HS3, Acc6, (by first | exact Row6 | (rw [e4] at Row6; exact Row6)), C6, (by first | exact B6 | (rw [e2] at B6; exact B6)), Z6⟩, by simp [intOf]; omega⟩
          · have hje : j = TX.length := by omega
            have HS2 := HS.out
            rw [hje, List.drop_length, show pickZ x.p [] = [] from rfl, List.append_nil] at HS2
            have HE := Lib.hid (show R = acc.mergeSort leI by rw [HR.out, HS2])
            have hjl' : ¬ (j : Int) < (TX.length : Int) := by omega
            have AS := Lib.hid (sort_anyI Acc.out (by omega))
            clear HS2 hje
            go_wp2_with (go_at_call 39; (with_reducible refine Calls.mono AS.out ?_); rintro e w6 ⟨rfl, hr, hc⟩; have C6 := Lib.hid (C.out.then hc (fun g hg hl => by have h1 := (Acc.out.block g (by simpa using hg)).1; have := C3.out.size; omega)); have R6 := Lib.hid (RowOf.mono hr C3.out.size); clear hr hc)
            go_ret
            rw [HE.out]
            exact ⟨oa, oc, by rw [List.length_mergeSort]; rfl, by rw [List.length_mergeSort]; exact R6.out, C6.out⟩
      · obtain ⟨p', hp'⟩ : ∃ p', m = p' + 1 := ⟨m - 1, by omega⟩
        have hp2 : p' < x.funcs.length := by omega
        obtain ⟨q', hr1, hr2, -⟩ := bodies_ok hord p' hp2
        have hq1g : ∀ k (hk : k < x.funcs.length), k = m → (x.funcs[k]).body = (q : Int) := by intro k hk e; subst e; exact hq1
        have hup := bodies_up hord p' (by omega)
        rw [hr1, hq1g (p' + 1) (by omega) hp'.symm] at hup
        have hfr0 : fr = q' + 1 := by rw [hfr, hp']; exact fromZ_x hp2 hr1
        have HU2 := Lib.hid (fun w' (hc : Chg [] w w') => show w'.cell? ⟨b2, o2 + p' * 3 + 2, none⟩ = some (.int .i64 (q' : Int)) from by
          obtain ⟨b3, o3, e3, -, -, hc3⟩ := (HF.out w' hc).elem (Chg.refl [] _) p' hp2
          rw [e2] at e3
          cases e3
          have := hc3 2 (by omega)
          simp only [fnC, List.getElem?_cons_zero, List.getElem?_cons_succ] at this
          rw [this, hr1])
        obtain ⟨TX, hTX⟩ : ∃ TX, TX = textsZ 11 ((x.p.nodes.take (q + 1)).drop (q' + 1)) := ⟨_, rfl⟩
        have HTX := Lib.hid (show TX = textsZ 11 ((x.p.nodes.take (toZ x.p m)).drop (fromZ x.p m)) by rw [hTX, hto, ← hfr, hfr0])
        have HTL := Lib.hid (show TX.length ≤ 600 by
          rw [hTX]
          refine Nat.le_trans (textsZ_len _ _) ?_
          rw [List.length_drop, List.length_take, show x.p.nodes.length = x.nodes.length from List.length_map _]
          omega)
        have T3 := Lib.hid (fun w' (hc : Chg [] w w') => by
          have := T.out (q' + 1) (q + 1) (by omega) (by omega) hn6 w' hc
          rw [← hTX, e2, show ((q' + 1 : Nat) : Int) = (q' : Int) + 1 from by push_cast; rfl, show ((q + 1 : Nat) : Int) = (q : Int) + 1 from by push_cast; rfl] at this
          exact this)
        have hm2 : (m : Int) > 0 := by omega
        have hge : ¬ (x.funcs.length : Int) ≤ (m : Int) := by omega
        have qm : IntKind.i64.wrap ((m : Int) - 1) = (p' : Int) := by rw [IntWalk.i64_in _ (by omega)]; omega
        have qq' : IntKind.i64.wrap ((q' : Int) + 1) = (q' : Int) + 1 := IntWalk.i64_in _ (by omega)
        have hp3 : (p' : Int) < (x.funcs.length : Int) := by omega
        have hp0 : (0 : Int) ≤ (p' : Int) := by omega
        clear hTX hfr hfr0 hto T hq1 hm00 hp' hr1 hq1g hup
        go_enter Tryz.func22, Tryz.ntmps22
        go_upto_region 1 with fail
        rw [← hW1]
        clear hW1
        go_wp2_with (go_at_call 10; (with_reducible refine Calls.mono A2.out ?_); rintro e w2 ⟨rfl, hc⟩; have C2 := Lib.hid (C1.out.thenSame hc); have B2 := Lib.hid (hc.at (by simp) B1.out); have k2 := blk_cell (by have := B2.out; rw [e2] at this; exact this); have u6 := HU2.out w2 C2.out; clear k3 hc)
        have HP := Lib.hid (show callRaw x.p m = pickZ x.p TX from by rw [HTX.out]; rfl)
        have htl : TX.length ≤ 600 := by have := HTL.out; omega
        have htli : (TX.length : Int) ≤ 600 := by omega
        have VK := Lib.hid (fun (w' : World) (hc : Chg [] w2 w') => show w'.cell? ⟨w.heap.size, 0, none⟩ = some (.slice x.na x.nodes.length x.nc) ∧ w'.cell? ⟨w.heap.size, 1, none⟩ = some (.slice (some ⟨b2, o2, none⟩) x.funcs.length x.fc) ∧ w'.cell? ⟨b2, o2 + m * 3 + 2, none⟩ = some (.int .i64 (q : Int)) from by
          have h1 := blk_cell (by have := hc.at (by simp) B2.out; rw [e2] at this; exact this)
          exact ⟨h1 0, h1 1, HU.out w' (C2.out.thenSame hc)⟩)
        clear k2
        go_region_held3 (fun w' => w'.cell? ⟨w.heap.size, 0, none⟩ = some (.slice x.na x.nodes.length x.nc) ∧ w'.cell? ⟨w.heap.size, 1, none⟩ = some (.slice (some ⟨b2, o2, none⟩) x.funcs.length x.fc) ∧ w'.cell? ⟨b2, o2 + m * 3 + 2, none⟩ = some (.int .i64 (q : Int)))
          (first | exact VK.out _ ((Chg.refl _ _).drew) | exact VK.out _ KC.out)
          (first | (go_at_call 35; (with_reducible refine Calls.mono (T3.out _ (C2.out.thenSame (Chg.refl _ _).drew)) ?_); rintro e w3 ⟨a, c, rfl, hr, hc⟩; have R3 := Lib.hid hr; have KC := Lib.hid (show Chg [] w2 w3 from ((Chg.refl _ _).drew).thenSame hc); clear hr hc) | fail)
        have C3 := Lib.hid (C2.out.thenSame KC.out)
        have B3 := Lib.hid (KC.out.at (by simp) B2.out)
        have HG := Lib.hid (fun g (hg : (Value.slice a TX.length c).ownBlock = some g) => (R3.out.block g hg).2)
        go_wp2_with fail
        go_loopw [8, 51] (fun u v wi => ∃ (j : Nat) (oa : Option Addr) (oc : Nat) (acc : List Int), u = .slice oa acc.length oc ∧ v = .int .i64 j ∧ j ≤ TX.length ∧ acc.length ≤ j ∧ Hid (callRaw x.p m = acc ++ pickZ x.p (TX.drop j)) ∧ Hid (RowOf icI 1 wi w3.heap.size 3 (.slice oa acc.length oc) acc) ∧ Hid (RowOf kc 1 wi w2.heap.size 9 (.slice a TX.length c) TX) ∧ Hid (Chg [] w wi) ∧ Hid (wi.heap[w.heap.size]? = some (.cells #[.slice x.na x.nodes.length x.nc, .slice x.fa x.funcs.length x.fc] 25 (0, 0))) ∧ Hid (w3.heap.size ≤ wi.heap.size)) (fun _ v _ => TX.length - (intOf v).toNat)
        case atStart => exact ⟨0, none, 0, [], rfl, rfl, Nat.zero_le _, Nat.zero_le _, Lib.hid HP.out, Lib.hid ⟨rfl, .inl ⟨rfl, rfl⟩⟩, R3, C3, (by first | exact B3 | (rw [e2] at B3; exact B3)), Lib.hid (Nat.le_refl _)⟩
        case round =>
          obtain ⟨j, oa, oc, acc, rfl, rfl, hj, hal, HS, Acc, Row, C, B, Zw⟩ := hrel
          have hj0 : (0 : Int) ≤ (j : Int) := by omega
          by_cases hjl : j < TX.length
          · have hjl' : (j : Int) < (TX.length : Int) := by omega
            obtain ⟨b4, o4, e4, -, -, hc4⟩ := (RowOf.sl Row.out kLen).1.elem (Chg.refl [] _) j hjl
            have u4 := hc4 0 (by omega)
            simp only [kc, List.getElem?_cons_zero, Nat.add_zero, Nat.mul_one] at u4
            have HS2 := HS.out
            rw [List.drop_eq_getElem_cons hjl, pickZ_cons, findT_x] at HS2
            have qj : IntKind.i64.wrap ((j : Int) + 1) = (j : Int) + 1 := IntWalk.i64_in _ (by omega)
            have k5 := blk_cell (by have := B.out; rw [e2] at this; exact this)
            have AF := Lib.hid (fun w' (hc : Chg [] w w') => by have := FA.out w' hc ⟨⟨TX[j]⟩⟩; rw [e2] at this; exact this)
            generalize TX[j] = tx at *
            have u5 : wr.cell? ⟨b4, o4 + j, none⟩ = some (.string ⟨⟨tx⟩⟩) := u4
            generalize idxFrom (fun f : Fn' => f.name == ⟨⟨tx⟩⟩) x.funcs 0 = v at *
            clear hc4 u4
            rw [e4]
            have hal6 : acc.length ≤ 600 := by omega
            by_cases hv : 0 ≤ v
            · rw [if_pos hv] at HS2
              have HS3 := Lib.hid (show callRaw x.p m = (acc ++ [v]) ++ pickZ x.p (TX.drop (j + 1)) by rw [HS2, List.append_assoc]; rfl)
              clear HS2
              go_wp2_with (first | (go_at_call 38; (with_reducible refine Calls.mono (AF.out _ C.out) ?_); rintro e w6 ⟨rfl, hc⟩; have D6 := Lib.hid hc; have z6 := hc.size; clear hc k5) | (at_builtin; refine wpl_append rfl _ _ 32 rfl w3.heap.size 3 _ 8 Tryz.underlying32 intInfoS rfl (by decide) icI_len1 icI_one1 (.slice oa acc.length oc) acc rfl (RowOf.kept Acc.out (D6.out.alloc _) (by simp)) w6.heap.size _ v _ _ _ rfl (heap_alloc_new w6 _) rfl (by unfold maxLen; omega) (by omega) (by have := Zw.out; simp; omega) ?_; intro v' w9 hr9 hg9; have Hr9 := Lib.hid hr9; have Hg9 := Lib.hid hg9; clear hr9 hg9))
              have hT := Lib.hid (fun g (hg : g ∈ (Value.slice oa acc.length oc).ownBlock.toList) => (Acc.out.block g (by simpa using hg)).1)
              have C9 := Lib.hid (((C.out.thenSame D6.out).alloc (.cells #[.int .i64 v] 3)).then (Chg.ofRow Hg9.out) (fun g hg hl => by have h1 := hT.out _ hg; have := C3.out.size; omega))
              have B9 := Lib.hid ((Chg.ofRow Hg9.out).at (fun hg => by have h1 := hT.out _ hg; have := lt_of_heap B3.out; omega) (blk_alloc (o' := .cells #[.int .i64 v] 3) (D6.out.at (by simp) B.out)))
              have Row9 := Lib.hid (RowOf.kept (RowOf.kept Row.out (D6.out.alloc (.cells #[.int .i64 v] 3)) (by simp)) (Chg.ofRow Hg9.out) (fun g hg hm => by have h1 := hT.out _ hm; have h2 := HG.out g hg; omega))
              have Z9 := Lib.hid (show w3.heap.size ≤ w9.heap.size by have h1 := (Chg.ofRow Hg9.out).size; have h2 := Zw.out; simp at h1; omega)
              obtain ⟨a', c', rfl⟩ := RowOf.shape Hr9.out
              exact ⟨⟨j + 1, a', c', acc ++ [v], rfl, rfl, by omega, by simp; omega, HS3, Hr9, (by first | exact Row9 | (rw [e4] at Row9; exact Row9)), C9, (by first | exact B9 | (rw [e2] at B9; exact B9)), Z9⟩, by simp [intOf]; omega⟩
            · rw [if_neg hv] at HS2
              have HS3 := Lib.hid HS2
              clear HS2
              go_wp2_with (go_at_call 38; (with_reducible refine Calls.mono (AF.out _ C.out) ?_); rintro e w6 ⟨rfl, hc⟩; have C6 := Lib.hid (C.out.thenSame hc); have B6 := Lib.hid (hc.at (by simp) B.out); have Acc6 := Lib.hid (RowOf.kept Acc.out hc (by simp)); have Row6 := Lib.hid (RowOf.kept Row.out hc (by simp)); have Z6 := Lib.hid (Nat.le_trans Zw.out hc.size); clear hc k5)
              exact ⟨⟨j + 1, oa, oc, acc, rfl, rfl, by omega, by omega, HS3, Acc6, (by first | exact Row6 | (rw [e4] at Row6; exact Row6)), C6, (by first | exact B6 | (rw [e2] at B6; exact B6)), Z6⟩, by simp [intOf]; omega⟩
          · have hje : j = TX.length := by omega
            have HS2 := HS.out
            rw [hje, List.drop_length, show pickZ x.p [] = [] from rfl, List.append_nil] at HS2
            have HE := Lib.hid (show R = acc.mergeSort leI by rw [HR.out, HS2])
            have hjl' : ¬ (j : Int) < (TX.length : Int) := by omega
            have AS := Lib.hid (sort_anyI Acc.out (by omega))
            clear HS2 hje
            go_wp2_with (go_at_call 39; (with_reducible refine Calls.mono AS.out ?_); rintro e w6 ⟨rfl, hr, hc⟩; have C6 := Lib.hid (C.out.then hc (fun g hg hl => by have h1 := (Acc.out.block g (by simpa using hg)).1; have := C3.out.size; omega)); have R6 := Lib.hid (RowOf.mono hr C3.out.size); clear hr hc)
            go_ret
            rw [HE.out]
            exact ⟨oa, oc, by rw [List.length_mergeSort]; rfl, by rw [List.length_mergeSort]; exact R6.out, C6.out⟩
    · rw [if_neg (by rintro ⟨-, h1, h2⟩; exact hf ⟨h1, h2⟩)] at hR
      have HE := Lib.hid hR
      clear hR N he
      generalize S.2.2.2 = er at *
      generalize S.2.2.1 = ea at *
      by_cases hf0 : f < 0
      · clear hf
        go_enter Tryz.func22, Tryz.ntmps22
        go_upto_region 1 with fail
        rw [← hW1]
        clear hW1
        go_wp2_with (go_at_call 10; (with_reducible refine Calls.mono A.out ?_); rintro e w2 ⟨rfl, hc⟩; have C2 := Lib.hid (C1.out.thenSame hc); have B2 := Lib.hid (hc.at (by simp) B1.out); have k2 := blk_cell B2.out; clear k1 hc)
        go_ret
        rw [HE.out]
        exact ints_nil C2.out
      · have hf3 : f ≥ (x.funcs.length : Int) := by omega
        clear hf
        go_enter Tryz.func22, Tryz.ntmps22
        go_upto_region 1 with fail
        rw [← hW1]
        clear hW1
        go_wp2_with (go_at_call 10; (with_reducible refine Calls.mono A.out ?_); rintro e w2 ⟨rfl, hc⟩; have C2 := Lib.hid (C1.out.thenSame hc); have B2 := Lib.hid (hc.at (by simp) B1.out); have k2 := blk_cell B2.out; clear k1 hc)
        go_ret
        rw [HE.out]
        exact ints_nil C2.out
  · rw [if_neg (fun e => he e.1)] at hR
    have HE := Lib.hid hR
    have heb : (S.2.2.2 != 0) = true := by simpa using he
    clear hR N he
    generalize S.2.2.2 = er at *
    generalize S.2.2.1 = ea at *
    go_enter Tryz.func22, Tryz.ntmps22
    go_upto_region 1 with fail
    rw [← hW1]
    clear hW1
    go_wp2_with (go_at_call 10; (with_reducible refine Calls.mono A.out ?_); rintro e w2 ⟨rfl, hc⟩; have C2 := Lib.hid (C1.out.thenSame hc); have B2 := Lib.hid (hc.at (by simp) B1.out); have k2 := blk_cell B2.out; clear k1 hc)
    go_ret
    rw [HE.out]
    exact ints_nil C2.out
end Go.Proofs.YtolidiafomceiaaGreatDoor
