/- Chapter 30: plain laws of appends and of the comparison of records. No condition. Chapter 30: plain laws of a stream's history: numbers, times, what is appended and trimmed. No condition. -/
import Derived.Test.YtmichbpfmachcaaDoorStmV
import Derived.Test.YtmichbpfmachcaaDoorMOps
namespace Go.Proofs.YtmichbpfmachcaaDoor
set_option linter.unusedVariables false
set_option linter.unusedSimpArgs false
open Go.RowKit
theorem appR_err {st : Stm} {e : PEv} {now : Int} (h : (appR st e now).1.2.2 ≠ 0) : (appR st e now).2 = st := by
  revert h
  unfold appR
  split
  · intro _; rfl
  split
  · intro _; rfl
  split
  · intro _; rfl
  split
  · intro _; rfl
  split
  · intro _; rfl
  · split
    · intro _; rfl
    · intro h; exact absurd rfl h
theorem ceE_refl (x : Ce) : ceE x x = true := ceE_iff.2 rfl
theorem evE_refl (e : PEv) : evE e e = true := by
  unfold evE
  simp [same_refl ceE_refl]
theorem recE_refl (r : PRec) : recE r r = true := by
  unfold recE
  simp [evE_refl]
theorem same_of_map {l m : List Rc} (h : l.map Rc.p = m.map Rc.p) : sameB rcE l m = true := by
  have hl : l.length = m.length := by have := congrArg List.length h; simpa using this
  unfold sameB sameTo
  rw [decide_eq_true hl, Bool.true_and, List.all_eq_true]
  intro i hi
  rw [List.mem_range] at hi
  have hi2 : i < m.length := by omega
  rw [List.getElem?_eq_getElem hi, List.getElem?_eq_getElem hi2]
  have h1 : (l.map Rc.p)[i]? = (m.map Rc.p)[i]? := by rw [h]
  rw [List.getElem?_map, List.getElem?_map, List.getElem?_eq_getElem hi, List.getElem?_eq_getElem hi2] at h1
  simp only [Option.map_some, Option.some.injEq] at h1
  show rcE l[i] m[i] = true
  unfold rcE
  rw [h1]
  exact recE_refl _
theorem readR_bodies {st : Stm} {n : Nat} (ho : st.ok n) (k from_ most : Int) : (∀ r ∈ (readR st k from_ most).1, r.e.body.length ≤ 1048576) ∧ (readR st k from_ most).1.length ≤ 256 := by
  unfold readR
  split
  · simp
  split
  · simp
  · rename_i d hd
    obtain ⟨hx, hxd⟩ := List.getElem?_eq_some_iff.1 hd
    have hm := ho.2.2.2.2.2.2 d (hxd ▸ List.getElem_mem hx)
    split
    · simp
    split
    · simp
    split
    · simp
    split
    · simp
    split
    · simp
    · refine ⟨fun r hr => (hm.2.2.2 r (List.mem_of_mem_drop (List.mem_of_mem_take hr))).2.2, ?_⟩
      rw [List.length_take, List.length_drop]
      have := hm.2.2.1
      omega
theorem Pair.join {W w : World} {J K : List Nat → World → Prop} (h : Pair W w J K) : Pair W w (AndSide J K) NoSide := by
  obtain ⟨f, g, h1, h2, h3, h4, h5, h6⟩ := h
  refine ⟨f ++ g, [], ⟨f, g, rfl, h1, h2, h5⟩, rfl, fun x hx => ?_, by simp, by simp, h6⟩
  rcases List.mem_append.1 hx with hx | hx
  · exact h3 x hx
  · exact h4 x hx
theorem Pair.dropR {W w : World} {J K L : List Nat → World → Prop} (h : Pair W w J (AndSide K L)) : Pair W w J K := by
  obtain ⟨f, g, h1, ⟨g1, g2, rfl, h2, h3, h4⟩, h5, h6, h7, h8⟩ := h
  exact ⟨f, g1, h1, h2, h5, fun x hx => h6 x (List.mem_append_left _ hx), fun x hx hy => h7 x hx (List.mem_append_left _ hy), h8⟩
/-- All appends of a list, one after the other. -/
def appsS (st : Stm) : List (PEv × Int) → Stm
  | [] => st
  | x :: l => appsS (appR st x.1 x.2).2 l
end Go.Proofs.YtmichbpfmachcaaDoor
namespace Go.Proofs.YtmichbpfmachcaaDoor
set_option linter.unusedVariables false
set_option linter.unusedSimpArgs false
open Go.RowKit
/-- Records are numbered on, and their times do not decrease. -/
structure Shd.fine (d : Shd) (i : Nat) (now : Int) : Prop where
  srt : d.recs.Pairwise (fun x y => x.at_ ≤ y.at_)
  old : ∀ r ∈ d.recs, r.at_ ≤ now
  num : ∀ (j : Nat) (r : PRec), d.recs[j]? = some r → r.sh = (i : Int) ∧ r.sq = d.first + (j : Int)
def Stm.fine (st : Stm) : Prop := ∀ (i : Nat) (d : Shd), st.sh[i]? = some d → d.fine i st.now
theorem newS_fine (n k : Int) : (newS n k).fine := by
  intro i d h
  have := List.eq_of_mem_replicate (List.mem_of_getElem? h)
  subst this
  exact ⟨.nil, by simp, by simp⟩
theorem bucketAt {st : Stm} {e : PEv} {d : Shd} (h : st.sh[(bucketZ e.key (st.sh.length : Int)).toNat]? = some d) (h0 : 0 ≤ bucketZ e.key (st.sh.length : Int)) : ((bucketZ e.key (st.sh.length : Int)).toNat : Int) = bucketZ e.key (st.sh.length : Int) := by omega
/-- What an append does: nothing, or it adds a record to the shard of the key. -/
theorem appR_cases (st : Stm) (e : PEv) (now : Int) : ((appR st e now).2 = st ∧ ((appR st e now).1.2.2 ≠ 0 ∨ ∀ d, st.sh[(bucketZ e.key (st.sh.length : Int)).toNat]? ≠ some d)) ∨
    ∃ d, st.now ≤ now ∧ now ≤ 1073741824 ∧ st.sh[(bucketZ e.key (st.sh.length : Int)).toNat]? = some d ∧ appR st e now = ((bucketZ e.key (st.sh.length : Int), d.first + (d.recs.length : Int), 0), { st with now := now, sh := st.sh.set (bucketZ e.key (st.sh.length : Int)).toNat ⟨d.first, d.recs ++ [⟨bucketZ e.key (st.sh.length : Int), d.first + (d.recs.length : Int), now, e⟩]⟩ }) := by
  unfold appR
  split
  · rename_i h; exact .inl ⟨rfl, .inl h⟩
  split
  · exact .inl ⟨rfl, .inl (by simp)⟩
  split
  · exact .inl ⟨rfl, .inl (by simp)⟩
  split
  · exact .inl ⟨rfl, .inl (by simp)⟩
  split
  · rename_i h; exact .inl ⟨rfl, .inr (fun d hd => by rw [h] at hd; cases hd)⟩
  · rename_i h1 h2 h3 h4 o d hd
    split
    · exact .inl ⟨rfl, .inl (by simp)⟩
    · exact .inr ⟨d, by omega, by omega, hd, rfl⟩
theorem appR_fine {st : Stm} (h : st.fine) (h0 : ∀ key, 0 ≤ bucketZ key (st.sh.length : Int)) (e : PEv) (now : Int) : (appR st e now).2.fine := by
  rcases appR_cases st e now with ⟨h1, -⟩ | ⟨d, h1, h2, h3, h4⟩
  · rw [h1]; exact h
  rw [h4]
  intro i d' hd'
  simp only at hd' ⊢
  have hb := h0 e.key
  generalize hq : bucketZ e.key (st.sh.length : Int) = q at *
  obtain ⟨m, rfl⟩ : ∃ m : Nat, q = m := ⟨q.toNat, by omega⟩
  simp only [Int.toNat_natCast] at *
  obtain ⟨hx, hxd⟩ := List.getElem?_eq_some_iff.1 h3
  by_cases hi : i = m
  · subst hi
    rw [List.getElem?_set_self hx] at hd'
    cases hd'
    obtain ⟨a1, a2, a3⟩ := h i d h3
    refine ⟨?_, ?_, ?_⟩
    · rw [List.pairwise_append]
      refine ⟨a1, by simp, fun x hx y hy => ?_⟩
      simp at hy; subst hy
      have := a2 x hx
      simp only; omega
    · intro r hr
      rcases List.mem_append.1 hr with hr | hr
      · have := a2 r hr; omega
      · simp at hr; subst hr; exact Int.le_refl _
    · intro j r hr
      by_cases hj : j < d.recs.length
      · rw [List.getElem?_append_left hj] at hr
        exact a3 j r hr
      · rw [List.getElem?_append_right (by omega)] at hr
        have hj0 : j - d.recs.length = 0 := by
          rcases Nat.eq_zero_or_pos (j - d.recs.length) with h | h
          · exact h
          · rw [List.getElem?_eq_none (by simp; omega)] at hr; cases hr
        rw [hj0] at hr
        simp at hr
        subst hr
        exact ⟨rfl, by simp only; omega⟩
  · rw [List.getElem?_set_ne (by omega)] at hd'
    obtain ⟨a1, a2, a3⟩ := h i d' hd'
    exact ⟨a1, fun r hr => by have := a2 r hr; omega, a3⟩
theorem trimR_cases (st : Stm) (now : Int) : (trimR st now = (0, st) ∧ (now < st.now ∨ 1073741824 < now)) ∨ (st.now ≤ now ∧ now ≤ 1073741824 ∧ trimR st now = ((((st.sh.map (fun d => cntD st.keep now d.recs)).sum : Nat) : Int), { st with now := now, sh := st.sh.map (trimD st.keep now) })) := by
  unfold trimR
  split
  · rename_i h; exact .inl ⟨rfl, .inl h⟩
  split
  · rename_i h; exact .inl ⟨rfl, .inr h⟩
  · exact .inr ⟨by omega, by omega, rfl⟩
theorem trimR_fine {st : Stm} (h : st.fine) (now : Int) : (trimR st now).2.fine := by
  rcases trimR_cases st now with ⟨h1, -⟩ | ⟨h1, h2, h3⟩
  · rw [h1]; exact h
  rw [h3]
  intro i d' hd'
  simp only [List.getElem?_map, Option.map_eq_some_iff] at hd' ⊢
  obtain ⟨d, hd, rfl⟩ := hd'
  obtain ⟨a1, a2, a3⟩ := h i d hd
  refine ⟨a1.sublist (List.drop_sublist _ _), fun r hr => ?_, fun j r hr => ?_⟩
  · have := a2 r (List.mem_of_mem_drop hr); omega
  · simp only [trimD, List.getElem?_drop] at hr ⊢
    obtain ⟨b1, b2⟩ := a3 _ r hr
    exact ⟨b1, by rw [b2]; push_cast; omega⟩
theorem appR_len (st : Stm) (e : PEv) (now : Int) : (appR st e now).2.sh.length = st.sh.length := by
  rcases appR_cases st e now with ⟨h1, -⟩ | ⟨d, h1, h2, h3, h4⟩
  · rw [h1]
  · rw [h4]; simp
theorem trimR_len (st : Stm) (now : Int) : (trimR st now).2.sh.length = st.sh.length := by
  rcases trimR_cases st now with ⟨h1, -⟩ | ⟨h1, h2, h3⟩
  · rw [h1]
  · rw [h3]; simp
theorem appR_keep (st : Stm) (e : PEv) (now : Int) : (appR st e now).2.keep = st.keep := by
  rcases appR_cases st e now with ⟨h1, -⟩ | ⟨d, h1, h2, h3, h4⟩
  · rw [h1]
  · rw [h4]
/-- The time after an append: the call's, if it returned no error. -/
theorem appR_now {st : Stm} {n : Nat} (ho : st.ok n) (h0 : ∀ key, 0 ≤ bucketZ key (st.sh.length : Int) ∧ bucketZ key (st.sh.length : Int) < (st.sh.length : Int)) (e : PEv) (now : Int) : (appR st e now).2.now = if (appR st e now).1.2.2 = 0 then now else st.now := by
  rcases appR_cases st e now with ⟨h1, h2 | h2⟩ | ⟨d, h1, h2, h3, h4⟩
  · rw [h1, if_neg h2]
  · exfalso
    obtain ⟨b1, b2⟩ := h0 e.key
    have hlt : (bucketZ e.key (st.sh.length : Int)).toNat < st.sh.length := by omega
    exact h2 _ (List.getElem?_eq_getElem hlt)
  · rw [h4]; simp
/-- With one shard and no trims. -/
def Stm.one (st : Stm) (L : List PRec) : Prop := st.sh = [⟨0, L⟩]
theorem appR_one {st : Stm} {L : List PRec} (h : st.one L) (e : PEv) (now : Int) : ∃ L', (appR st e now).2.one L' := by
  rcases appR_cases st e now with ⟨h1, -⟩ | ⟨d, h1, h2, h3, h4⟩
  · rw [h1]; exact ⟨L, h⟩
  · unfold Stm.one at h
    obtain ⟨hx, hxd⟩ := List.getElem?_eq_some_iff.1 h3
    have hz : (bucketZ e.key (st.sh.length : Int)).toNat = 0 := by
      rw [h] at hx ⊢; simpa using hx
    have hd : d = ⟨0, L⟩ := by
      rw [hz, h] at h3
      exact (Option.some.inj h3).symm
    subst hd
    refine ⟨L ++ [⟨bucketZ e.key (st.sh.length : Int), 0 + (L.length : Int), now, e⟩], ?_⟩
    rw [h4]
    show st.sh.set _ _ = _
    rw [hz, h]
    rfl
theorem takeWhile_filter (p : PRec → Bool) (l : List PRec) (h : l.Pairwise (fun x y => p y = true → p x = true)) : (l.takeWhile p).length = l.countP p := by
  induction l with
  | nil => rfl
  | cons x l ih =>
    rw [List.pairwise_cons] at h
    cases hp : p x
    · rw [List.takeWhile_cons_of_neg (by simp [hp]), List.countP_cons_of_neg (by simp [hp])]
      symm
      rw [List.length_nil, List.countP_eq_zero]
      intro y hy hpy
      rw [h.1 y hy hpy] at hp
      cases hp
    · rw [List.takeWhile_cons_of_pos hp, List.countP_cons_of_pos hp, List.length_cons, ih h.2]
theorem cntD_count {d : Shd} {i : Nat} {t : Int} (h : d.fine i t) (keep now : Int) : cntD keep now d.recs = d.recs.countP (fun r => decide (r.at_ + keep < now)) := by
  unfold cntD
  refine takeWhile_filter _ _ (h.srt.imp (fun {x y} hxy hy => ?_))
  simp only [decide_eq_true_eq] at hy ⊢
  omega
/-- What the law of Trim counts. -/
def goneP (keep now last : Int) (r : PRec) : Bool := (decide (last ≤ now) && decide (now ≤ 1073741824)) && decide (r.at_ + 1 + keep < now)
theorem trims_law {st : Stm} {L : List PRec} (h1 : st.one L) (hf : st.fine) (hl : L.length ≤ 256) (keep now : Int) (hk : st.keep = 1 + keep) :
    readR st 0 0 256 = (L, 0) ∧ (∀ z, nextZ (trimR st now).2 z = nextZ st z) ∧ nextZ st 0 = ((L.length : Int), 0) ∧ (trimR st now).1 = ((L.countP (goneP keep now st.now) : Nat) : Int) ∧ readR (trimR st now).2 0 (L.countP (goneP keep now st.now) : Nat) 256 = (L.drop (L.countP (goneP keep now st.now)), 0) := by
  unfold Stm.one at h1
  have h0 : st.sh[(0 : Int).toNat]? = some ⟨0, L⟩ := by rw [h1]; rfl
  have hfi := hf 0 ⟨0, L⟩ (by rw [h1]; rfl)
  have hr : readR st 0 0 256 = (L, 0) := by
    unfold readR
    rw [if_neg (by decide), h0]
    simp only
    rw [if_neg (by decide), if_neg (by omega), if_neg (by decide), if_neg (by decide), if_neg (by decide)]
    congr 1
    exact List.take_of_length_le (by simpa using hl)
  have hn : nextZ st 0 = ((L.length : Int), 0) := by
    unfold nextZ
    rw [if_neg (by decide), h0]
    simp
  rcases trimR_cases st now with ⟨e1, e2⟩ | ⟨e1, e2, e3⟩
  · have hz : L.countP (goneP keep now st.now) = 0 := by
      rw [List.countP_eq_zero]
      intro r hr
      unfold goneP
      rcases e2 with e2 | e2
      · rw [decide_eq_false (show ¬ st.now ≤ now by omega)]; simp
      · rw [decide_eq_false (show ¬ now ≤ 1073741824 by omega)]; simp
    rw [hz, e1]
    exact ⟨hr, fun z => rfl, hn, rfl, by simpa using hr⟩
  · have hz : L.countP (goneP keep now st.now) = cntD st.keep now L := by
      rw [cntD_count (d := ⟨0, L⟩) hfi, hk]
      refine List.countP_congr (fun r _ => ?_)
      unfold goneP
      rw [decide_eq_true e1, decide_eq_true e2]
      simp only [Bool.true_and, decide_eq_true_eq]
      omega
    have hle := cntD_le st.keep now L
    have hsh : (trimR st now).2.sh = [trimD st.keep now ⟨0, L⟩] := by rw [e3]; simp [h1]
    refine ⟨hr, fun z => ?_, hn, ?_, ?_⟩
    · unfold nextZ
      split
      · rfl
      · rw [hsh, h1]
        match z.toNat with
        | 0 =>
          simp [trimD]
          omega
        | m + 1 => rfl
    · rw [hz, e3, h1]; simp
    · unfold readR
      rw [if_neg (by decide), hsh, hz]
      simp only [Int.toNat_zero, List.getElem?_cons_zero, trimD, List.length_drop]
      rw [if_neg (by omega), if_neg (by omega), if_neg (by decide), if_neg (by decide), if_neg (by omega)]
      congr 1
      rw [show ((cntD st.keep now L : Int) - (0 + (cntD st.keep now L : Int))).toNat = 0 by omega, List.drop_zero]
      exact List.take_of_length_le (by rw [List.length_drop]; show _ ≤ 256; omega)
theorem good_of {w : World} {x : OpS} (h : x.good w) (hs : smallE x.e.p = true) : x.e.p.good := by
  obtain ⟨⟨g1, g2, g3, g4, g5, g6⟩, -⟩ := h
  have hb : x.e.p.body.length ≤ 60 := by
    unfold smallE at hs
    simp only [Bool.and_eq_true, decide_eq_true_eq] at hs
    exact hs.1.2
  exact ⟨g1, g2, g3, g4, g5, by omega, g6⟩
theorem opCells8 {w : World} {g o : Nat} (x : OpS) (h : ∀ w', Chg [] w w' → ∀ j, j < 12 → w'.cell? ⟨g, o + j, none⟩ = (opC x)[j]?) : ∀ w', Chg [] w w' → w'.cell? ⟨g, o + 1, none⟩ = some (.string x.e.p.id) ∧ w'.cell? ⟨g, o + 2, none⟩ = some (.string x.e.p.tn) ∧ w'.cell? ⟨g, o + 3, none⟩ = some (.string x.e.p.src) ∧ w'.cell? ⟨g, o + 4, none⟩ = some (.string x.e.p.key) ∧ w'.cell? ⟨g, o + 5, none⟩ = some (.int .i64 x.e.p.at_) ∧ w'.cell? ⟨g, o + 6, none⟩ = some (.string x.e.p.cause) ∧ w'.cell? ⟨g, o + 7, none⟩ = some (.slice x.e.ba x.e.p.body.length x.e.bc) ∧ w'.cell? ⟨g, o + 8, none⟩ = some (.int .i64 x.now) :=
  fun w' hc => ⟨h w' hc 1 (by omega), h w' hc 2 (by omega), h w' hc 3 (by omega), h w' hc 4 (by omega), h w' hc 5 (by omega), h w' hc 6 (by omega), h w' hc 7 (by omega), h w' hc 8 (by omega)⟩
end Go.Proofs.YtmichbpfmachcaaDoor
