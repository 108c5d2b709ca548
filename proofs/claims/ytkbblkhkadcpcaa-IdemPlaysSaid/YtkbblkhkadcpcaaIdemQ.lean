/- Chapter 27: plain laws: the program's table does as the reference's; the two orders of the keys are one. No program in sight. -/
import Derived.Test.YtkbblkhkadcpcaaIdemP
import Derived.Test.YtkbblkhkadcpcaaIdemW
namespace Go.Proofs.Ytkbblkhkadcpcaa

/-! insertion is the sort -/
theorem lt_le {a b : List UInt8} (h : a < b) : a ≤ b := List.le_of_lt h
theorem nlt {a b : List UInt8} (h : ¬ a < b) (hn : a ≠ b) : b < a := by
  have h1 : b ≤ a := List.not_lt.1 h
  by_cases h2 : b < a
  · exact h2
  · exact absurd (List.le_antisymm (List.not_lt.1 h2) h1) hn

theorem ins_new {O : List (List UInt8)} {x : List UInt8} (hp : O.Pairwise (· < ·)) (hx : x ∉ O) : (insS O x).Pairwise (· < ·) ∧ (insS O x).Perm (x :: O) := by
  have hsplit : O.takeWhile (fun y => decide (y < x)) ++ O.dropWhile (fun y => decide (y < x)) = O := List.takeWhile_append_dropWhile
  have hA : ∀ y ∈ O.takeWhile (fun y => decide (y < x)), y < x := by
    intro y hy
    have := List.all_eq_true.1 (List.all_takeWhile (p := fun y => decide (y < x)) (l := O)) y hy
    simpa using this
  have hB : ∀ y ∈ O.dropWhile (fun y => decide (y < x)), x < y := by
    intro y hy
    have hpB : (O.dropWhile (fun y => decide (y < x))).Pairwise (· < ·) := List.Pairwise.sublist (List.dropWhile_sublist _) hp
    have hxB : x ∉ O.dropWhile (fun y => decide (y < x)) := fun h => hx ((List.dropWhile_sublist _).subset h)
    cases hD : O.dropWhile (fun y => decide (y < x)) with
    | nil => rw [hD] at hy; cases hy
    | cons z D =>
      have hz : ¬ z < x := by
        have := List.head_dropWhile_not (fun y => decide (y < x)) (l := O) (by rw [hD]; simp)
        simp only [hD, List.head_cons] at this
        simpa using this
      rw [hD] at hy hpB hxB
      have hzx : x < z := nlt hz (fun e => hxB (by rw [e]; exact List.mem_cons_self))
      rcases List.mem_cons.1 hy with rfl | hy'
      · exact hzx
      · exact List.lt_trans hzx ((List.pairwise_cons.1 hpB).1 y hy')
  have hins : insS O x = O.takeWhile (fun y => decide (y < x)) ++ x :: O.dropWhile (fun y => decide (y < x)) := by
    unfold insS
    rw [if_pos]
    cases hD : O.dropWhile (fun y => decide (y < x)) with
    | nil => exact .inl rfl
    | cons z D =>
      right
      intro e
      simp only [List.head?_cons, Option.some.injEq] at e
      subst e
      exact hx ((List.dropWhile_sublist _).subset (by rw [hD]; exact List.mem_cons_self))
  rw [hins]
  constructor
  · rw [← hsplit] at hp
    obtain ⟨p1, p2, p3⟩ := List.pairwise_append.1 hp
    refine List.pairwise_append.2 ⟨p1, List.pairwise_cons.2 ⟨hB, p2⟩, fun a ha b hb => ?_⟩
    rcases List.mem_cons.1 hb with rfl | hb'
    · exact hA a ha
    · exact p3 a ha b hb'
  · exact List.perm_middle.trans (by rw [hsplit])

theorem sorted_fold (l O : List (List UInt8)) (hp : O.Pairwise (· < ·)) (hd : (O ++ l).Nodup) : (l.foldl insS O).Pairwise (· < ·) ∧ (l.foldl insS O).Perm (O ++ l) := by
  induction l generalizing O with
  | nil => exact ⟨hp, by simp⟩
  | cons x l ih =>
    have hx : x ∉ O := by
      intro h
      have := (List.nodup_append.1 hd).2.2
      exact this x h x List.mem_cons_self rfl
    obtain ⟨h1, h2⟩ := ins_new hp hx
    have hpm : (insS O x ++ l).Perm (O ++ x :: l) := (h2.append_right l).trans (by
      rw [List.cons_append]; exact List.perm_middle.symm)
    obtain ⟨h3, h4⟩ := ih (insS O x) h1 (hpm.nodup_iff.2 hd)
    exact ⟨h3, h4.trans hpm⟩

theorem sorted_merge (l : List (List UInt8)) (hd : l.Nodup) : sortedS l = l.mergeSort leB := by
  obtain ⟨h1, h2⟩ := sorted_fold l [] List.Pairwise.nil (by simpa using hd)
  have tr : ∀ a b c : List UInt8, leB a b = true → leB b c = true → leB a c = true := fun a b c h1 h2 => by simp only [leB, decide_eq_true_eq] at *; exact List.le_trans h1 h2
  have to : ∀ a b : List UInt8, (leB a b || leB b a) = true := fun a b => by simp only [leB, Bool.or_eq_true, decide_eq_true_eq]; exact List.le_total a b
  refine List.Perm.eq_of_pairwise (le := fun a b => leB a b = true) (fun a b _ _ h1 h2 => ?_) (h1.imp fun h => ?_) (List.pairwise_mergeSort tr to l) ((show (sortedS l).Perm ([] ++ l) from h2).trans (List.mergeSort_perm l leB).symm)
  · simp only [leB, decide_eq_true_eq] at h1 h2
    exact List.le_antisymm h1 h2
  · simpa [leB] using lt_le h

/-! the simulation -/
def entOf (ttl : Int) (x : REnt) : Ent := ⟨x.key, x.dig, x.res, x.done, x.frm + ttl⟩
def toSt (r : RSt) : St := ⟨r.room, r.ttl, r.time, r.l.map (entOf r.ttl)⟩
def allLive (r : RSt) : Prop := ∀ x ∈ r.l, r.time < x.frm + r.ttl
def frmIn (r : RSt) : Prop := ∀ x ∈ r.l, 0 ≤ x.frm ∧ x.frm ≤ 1073741824

theorem r_ok {r : RSt} (h : (toSt r).ok) (hf : frmIn r) : r.ok := by
  obtain ⟨o1, o2, o3, o4, o5, o6, o7⟩ := h
  simp only [toSt, List.length_map] at *
  exact ⟨o1, o2, o3, o4, o5, o6, by omega, hf⟩

theorem live_ent (ttl now : Int) (x : REnt) : live now (entOf ttl x) = rlive ttl now x := rfl
theorem filter_ent (r : RSt) (now : Int) : (toSt r).l.filter (live now) = (livS r now).map (entOf r.ttl) := by
  simp only [toSt, livS, List.filter_map]; rfl
theorem pass_ent (r : RSt) (now : Int) : passS (toSt r) now = toSt { r with time := now, l := livS r now } := by
  have := filter_ent r now
  unfold passS toSt at *
  simp only at *
  rw [this]
theorem look_ent (l : List REnt) (ttl : Int) (k : ByteArray) : lookL Ent.key (l.map (entOf ttl)) k = (lookL REnt.key l k).map (entOf ttl) := by
  unfold lookL; rw [List.find?_map]; rfl
theorem nd_ent {r : RSt} (h : (toSt r).nd) : (r.l.map REnt.key).Nodup := by
  unfold St.nd toSt at h
  simp only [List.map_map] at h
  exact h
theorem look_liv {r : RSt} (h : (toSt r).nd) (now : Int) (k : ByteArray) : lookL REnt.key (livS r now) k = (lookL REnt.key r.l k).filter (rlive r.ttl now) := lookL_filter _ _ (nd_ent h)
theorem at_clock (r : RSt) (now : Int) : atE (toSt r) now = clockE r now := rfl
theorem liv_all {r : RSt} (h : allLive r) : livS r r.time = r.l := List.filter_eq_self.2 fun x hx => by simpa [rlive] using h x hx
theorem count_liv (r : RSt) (now : Int) : (toSt r).l.countP (live now) = (livS r now).length := by rw [List.countP_eq_length_filter, filter_ent]; simp

def SimP {β : Type} (p : β × St) (q : β × RSt) : Prop := p.1 = q.1 ∧ p.2 = toSt q.2

theorem new_sim (r : RSt) (key dig : ByteArray) (now : Int) (hn : lookL Ent.key (passS (toSt r) now).l key = none) :
    SimP (newS (toSt r) key dig now) (if r.room ≤ ((livS r now).length : Int) then ((0, em, 3), r) else ((1, em, 0), { r with time := now, l := livS r now ++ [⟨key, dig, em, false, now⟩] })) := by
  unfold newS
  rw [count_liv]
  simp only [show (toSt r).room = r.room from rfl]
  split
  · exact ⟨rfl, rfl⟩
  · refine ⟨rfl, ?_⟩
    have h1 := putL_new (kf := Ent.key) (x := ⟨key, dig, em, false, now + (toSt r).ttl⟩) hn
    simp only [h1]
    rw [pass_ent]
    simp [toSt, entOf]

theorem begin_sim (r : RSt) (key dig : ByteArray) (now : Int) (hn : (toSt r).nd) : SimP (beginS (toSt r) key dig now) (rbeginS r key dig now) := by
  unfold beginS rbeginS
  rw [at_clock]
  by_cases hid : idB key = false ∨ idB dig = false
  · rw [if_pos hid, if_pos hid]; exact ⟨rfl, rfl⟩
  rw [if_neg hid, if_neg hid]
  by_cases h0 : clockE r now ≠ 0
  · rw [if_pos h0, if_pos h0]; exact ⟨rfl, rfl⟩
  rw [if_neg h0, if_neg h0]
  have hlp : ∀ k, lookL Ent.key (passS (toSt r) now).l k = (lookL REnt.key (livS r now) k).map (entOf r.ttl) := by
    intro k; rw [pass_ent]; exact look_ent _ _ _
  rw [show lookL Ent.key (toSt r).l key = (lookL REnt.key r.l key).map (entOf r.ttl) from look_ent _ _ _]
  have hlv := look_liv hn now key
  cases hl : lookL REnt.key r.l key with
  | none =>
    rw [hl] at hlv
    simp only [Option.map_none, hlv, Option.filter]
    exact new_sim r key dig now (by rw [hlp, hlv]; rfl)
  | some x =>
    rw [hl] at hlv
    simp only [Option.map_some]
    by_cases hf : (entOf r.ttl x).fin ≤ now
    · have hlive : rlive r.ttl now x = false := by simp only [rlive, decide_eq_false_iff_not]; show ¬ now < (entOf r.ttl x).fin; omega
      simp only [Option.filter, hlive, Bool.false_eq_true, if_false] at hlv
      rw [if_pos hf, hlv]
      exact new_sim r key dig now (by rw [hlp, hlv]; rfl)
    · have hlive : rlive r.ttl now x = true := by simp only [rlive, decide_eq_true_eq]; show now < (entOf r.ttl x).fin; omega
      simp only [Option.filter, hlive, if_true] at hlv
      rw [if_neg hf, hlv]
      simp only
      by_cases hd : x.dig ≠ dig
      · rw [if_pos (show (entOf r.ttl x).dig ≠ dig from hd), if_pos hd]; exact ⟨rfl, rfl⟩
      rw [if_neg (show ¬ (entOf r.ttl x).dig ≠ dig from hd), if_neg hd]
      by_cases hdn : x.done = true
      · rw [if_pos (show (entOf r.ttl x).done = true from hdn), if_pos hdn]; exact ⟨rfl, pass_ent r now⟩
      · rw [if_neg (show ¬ (entOf r.ttl x).done = true from hdn), if_neg hdn]; exact ⟨rfl, pass_ent r now⟩

theorem find_at (l : List REnt) (k : ByteArray) {x : REnt} (h : lookL REnt.key l k = some x) : ∃ j, ∃ hj : j < l.length, findE l k = (j : Int) ∧ l[j] = x := by
  rcases find_cases l k with ⟨j, hj, h1, h2⟩ | ⟨_, h2⟩
  · rw [h] at h2
    exact ⟨j, hj, h1, (Option.some.inj h2).symm⟩
  · rw [h] at h2; cases h2

theorem put_set {l : List REnt} {ttl : Int} {j : Nat} (hj : j < l.length) (hd : (l.map REnt.key).Nodup) (y : REnt) (hy : y.key = l[j].key) : putL Ent.key (l.map (entOf ttl)) (entOf ttl y) = (l.set j y).map (entOf ttl) := by
  unfold putL
  rw [if_pos]
  · apply List.ext_getElem (by simp)
    intro i h1 h2
    simp only [List.getElem_map, List.getElem_set]
    have hil : i < l.length := by simpa using h1
    by_cases e : j = i
    · subst e
      rw [if_pos (by simp [entOf, hy]), if_pos rfl]
    · rw [if_neg e, if_neg]
      intro hc
      have hc' : l[i].key = y.key := by simpa [entOf] using hc
      rw [hy] at hc'
      exact e (nodup_at (kf := REnt.key) hd (List.getElem?_eq_getElem hj) (List.getElem?_eq_getElem hil) hc'.symm)
  · rw [List.any_eq_true]
    exact ⟨entOf ttl l[j], List.mem_map.2 ⟨_, List.getElem_mem hj, rfl⟩, by simp [entOf, hy]⟩

theorem del_erase {l : List REnt} {ttl : Int} {j : Nat} (hj : j < l.length) (hd : (l.map REnt.key).Nodup) : delL Ent.key (l.map (entOf ttl)) l[j].key = (l.eraseIdx j).map (entOf ttl) := by
  unfold delL
  induction l generalizing j with
  | nil => simp at hj
  | cons x l ih =>
    simp only [List.map_cons, List.nodup_cons] at hd
    cases j with
    | zero =>
      simp only [List.getElem_cons_zero, List.map_cons, List.eraseIdx_zero, List.tail_cons]
      rw [List.filter_cons, if_neg (by simp [entOf])]
      refine List.filter_eq_self.2 fun a ha => ?_
      obtain ⟨b, hb, rfl⟩ := List.mem_map.1 ha
      have : b.key ≠ x.key := fun e => hd.1 (by rw [← e]; exact List.mem_map.2 ⟨b, hb, rfl⟩)
      simpa [entOf] using this
    | succ j =>
      have hj' : j < l.length := by simpa using hj
      simp only [List.getElem_cons_succ, List.map_cons, List.eraseIdx_cons_succ]
      have : x.key ≠ l[j].key := fun e => hd.1 (by rw [e]; exact List.mem_map.2 ⟨l[j], List.getElem_mem hj', rfl⟩)
      rw [List.filter_cons, if_pos (by simpa [entOf] using this), ih hj' hd.2]

/-- The two answers to a Finish or an Abandon, up to what becomes of the record. -/
theorem busy_sim (r : RSt) (key dig : ByteArray) (now : Int) (hn : (toSt r).nd) (h0 : clockE r now = 0) :
    (∃ c : Int, c ≠ 0 ∧ (busyS (toSt r) key dig now).1 = c ∧ ∀ (β : Type) (f : REnt → β) (g : Int → β), (match lookL REnt.key (livS r now) key with | none => g 5 | some x => if x.dig ≠ dig then g 19 else if x.done = true then g 10 else f x) = g c) ∨
    (∃ j, ∃ hj : j < (livS r now).length, findE (livS r now) key = (j : Int) ∧ (livS r now)[j].key = key ∧ (livS r now)[j].dig = dig ∧ (busyS (toSt r) key dig now) = (0, entOf r.ttl (livS r now)[j]) ∧
      ∀ (β : Type) (f : REnt → β) (g : Int → β), (match lookL REnt.key (livS r now) key with | none => g 5 | some x => if x.dig ≠ dig then g 19 else if x.done = true then g 10 else f x) = f (livS r now)[j]) := by
  have hlv := look_liv hn now key
  unfold busyS
  rw [at_clock, if_neg (by simp [h0]), show lookL Ent.key (toSt r).l key = (lookL REnt.key r.l key).map (entOf r.ttl) from look_ent _ _ _]
  cases hl : lookL REnt.key r.l key with
  | none =>
    rw [hl] at hlv
    rw [hlv]
    exact .inl ⟨5, by decide, rfl, fun _ _ _ => rfl⟩
  | some x =>
    rw [hl] at hlv
    by_cases hf : (entOf r.ttl x).fin ≤ now
    · have hlive : rlive r.ttl now x = false := by simp only [rlive, decide_eq_false_iff_not]; show ¬ now < (entOf r.ttl x).fin; omega
      simp only [Option.filter, hlive, Bool.false_eq_true, if_false] at hlv
      rw [hlv]
      refine .inl ⟨5, by decide, ?_, fun _ _ _ => rfl⟩
      simp only [Option.map_some]; rw [if_pos hf]
    · have hlive : rlive r.ttl now x = true := by simp only [rlive, decide_eq_true_eq]; show now < (entOf r.ttl x).fin; omega
      simp only [Option.filter, hlive, if_true] at hlv
      obtain ⟨j, hj, hfe, hx⟩ := find_at _ _ hlv
      have hkx := lookL_key hlv
      rw [hlv]
      simp only [Option.map_some]
      rw [if_neg hf]
      by_cases hd : x.dig ≠ dig
      · rw [if_pos (show (entOf r.ttl x).dig ≠ dig from hd)]
        exact .inl ⟨19, by decide, rfl, fun _ _ _ => by rw [if_pos hd]⟩
      rw [if_neg (show ¬ (entOf r.ttl x).dig ≠ dig from hd)]
      by_cases hdn : x.done = true
      · rw [if_pos (show (entOf r.ttl x).done = true from hdn)]
        exact .inl ⟨10, by decide, rfl, fun _ _ _ => by rw [if_neg hd, if_pos hdn]⟩
      · rw [if_neg (show ¬ (entOf r.ttl x).done = true from hdn)]
        refine .inr ⟨j, hj, hfe, by rw [hx]; exact hkx, by rw [hx]; exact Classical.not_not.1 hd, by rw [hx], fun _ _ _ => by rw [if_neg hd, if_neg hdn, hx]⟩

theorem finish_sim (r : RSt) (key dig res : ByteArray) (now : Int) (hn : (toSt r).nd) : SimP (finishS (toSt r) key dig res now) (rfinishS r key dig res now) := by
  unfold finishS rfinishS
  by_cases hid : idB key = false ∨ idB dig = false
  · rw [if_pos hid, if_pos hid]; exact ⟨rfl, rfl⟩
  rw [if_neg hid, if_neg hid]
  by_cases h3 : 4000 < res.size
  · rw [if_pos h3, if_pos h3]; exact ⟨rfl, rfl⟩
  rw [if_neg h3, if_neg h3]
  by_cases h0 : clockE r now = 0
  · rw [if_neg (by simp [h0] : ¬ clockE r now ≠ 0)]
    have hnd : ((livS r now).map REnt.key).Nodup := nodup_filter _ (nd_ent hn)
    rcases busy_sim r key dig now hn h0 with ⟨c, hc, hb, hm⟩ | ⟨j, hj, hfe, hkj, hdj, hb, hm⟩
    · rw [if_pos (by rw [hb]; exact hc), hb]
      have := hm _ (fun x => ((0 : Int), ({ r with time := now, l := (livS r now).set (findE (livS r now) key).toNat ⟨x.key, x.dig, res, true, now⟩ } : RSt))) (fun c => (c, r))
      exact Eq.subst (motive := fun z => SimP _ z) this.symm ⟨rfl, rfl⟩
    · rw [if_neg (by rw [hb]; simp), hb]
      have := hm _ (fun x => ((0 : Int), ({ r with time := now, l := (livS r now).set (findE (livS r now) key).toNat ⟨x.key, x.dig, res, true, now⟩ } : RSt))) (fun c => (c, r))
      refine Eq.subst (motive := fun z => SimP _ z) this.symm ?_
      rw [hfe]
      refine ⟨rfl, ?_⟩
      have hp := put_set (ttl := r.ttl) hj hnd ⟨(livS r now)[j].key, (livS r now)[j].dig, res, true, now⟩ rfl
      simp only [Int.toNat_natCast]
      rw [pass_ent]
      simp only [toSt, entOf] at hp ⊢
      rw [hkj] at hp ⊢
      rw [hp]
  · rw [if_pos h0]
    have hb : busyS (toSt r) key dig now = (clockE r now, ⟨em, em, em, false, 0⟩) := by unfold busyS; rw [at_clock, if_pos h0]
    rw [hb, if_pos h0]
    exact ⟨rfl, rfl⟩

theorem abandon_sim (r : RSt) (key dig : ByteArray) (now : Int) (hn : (toSt r).nd) : SimP (abandonS (toSt r) key dig now) (rabandonS r key dig now) := by
  unfold abandonS rabandonS
  by_cases hid : idB key = false ∨ idB dig = false
  · rw [if_pos hid, if_pos hid]; exact ⟨rfl, rfl⟩
  rw [if_neg hid, if_neg hid]
  by_cases h0 : clockE r now = 0
  · rw [if_neg (by simp [h0] : ¬ clockE r now ≠ 0)]
    have hnd : ((livS r now).map REnt.key).Nodup := nodup_filter _ (nd_ent hn)
    rcases busy_sim r key dig now hn h0 with ⟨c, hc, hb, hm⟩ | ⟨j, hj, hfe, hkj, hdj, hb, hm⟩
    · rw [if_pos (by rw [hb]; exact hc), hb]
      have := hm _ (fun _ => ((0 : Int), ({ r with time := now, l := (livS r now).eraseIdx (findE (livS r now) key).toNat } : RSt))) (fun c => (c, r))
      exact Eq.subst (motive := fun z => SimP _ z) this.symm ⟨rfl, rfl⟩
    · rw [if_neg (by rw [hb]; simp)]
      have := hm _ (fun _ => ((0 : Int), ({ r with time := now, l := (livS r now).eraseIdx (findE (livS r now) key).toNat } : RSt))) (fun c => (c, r))
      refine Eq.subst (motive := fun z => SimP _ z) this.symm ?_
      rw [hfe]
      refine ⟨rfl, ?_⟩
      have hp := del_erase (ttl := r.ttl) hj hnd
      rw [hkj] at hp
      simp only [Int.toNat_natCast]
      rw [pass_ent]
      simp only [toSt]
      rw [hp]
  · rw [if_pos h0]
    have hb : busyS (toSt r) key dig now = (clockE r now, ⟨em, em, em, false, 0⟩) := by unfold busyS; rw [at_clock, if_pos h0]
    rw [hb, if_pos h0]
    exact ⟨rfl, rfl⟩

theorem sweep_sim (r : RSt) (now : Int) (ha : allLive r) : SimP (sweepS (toSt r) now) (rsweepS r now) := by
  unfold sweepS rsweepS
  rw [at_clock]
  by_cases h0 : clockE r now ≠ 0
  · rw [if_pos h0, if_pos h0]; exact ⟨rfl, rfl⟩
  rw [if_neg h0, if_neg h0]
  refine ⟨?_, pass_ent r now⟩
  rw [pass_ent, liv_all ha]
  simp [toSt]
end Go.Proofs.Ytkbblkhkadcpcaa
