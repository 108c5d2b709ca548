/- Chapter 27: plain laws on what the program's table computes: its bounds stay; what becomes of the record of one key. No program in sight. -/
import Derived.Test.YtkbblkhkadcpcaaIdemE
import Derived.Test.YtkbblkhkadcpcaaIdemL
import Derived.Test.YtkbblkhkadcpcaaMapl
namespace Go.Proofs.Ytkbblkhkadcpcaa

def St.nd (s : St) : Prop := (s.l.map Ent.key).Nodup

theorem TabIs.nd {w : World} {tb mb : Nat} {s : St} (h : TabIs w tb mb s) : s.nd := h.2.nodup

theorem pass_len (s : St) (now : Int) : (passS s now).l.length = s.l.countP (live now) := by simp [passS, List.countP_eq_length_filter]
theorem pass_ok {s : St} {now : Int} (h : s.ok) (h0 : atE s now = 0) : (passS s now).ok := by
  obtain ⟨o1, o2, o3, o4, o5, o6, o7⟩ := h
  obtain ⟨a, b, _⟩ := atE_zero h0
  refine ⟨o1, o2, o3, o4, a, b, ?_⟩
  have := List.length_filter_le (live now) s.l
  show ((s.l.filter (live now)).length : Int) ≤ s.room
  omega

/-- What becomes of a table: nothing; or the time goes to now, and of the key k nothing is left but what lives. -/
def Passed (s s' : St) (k : ByteArray) : Prop := s'.room = s.room ∧ s'.ttl = s.ttl ∧ (s' = s ∨ (s.now ≤ s'.now ∧ lookL Ent.key s'.l k = (lookL Ent.key s.l k).filter (live s'.now)))

theorem passed_pass {s : St} {now : Int} (k : ByteArray) (hn : s.nd) (h0 : atE s now = 0) : Passed s (passS s now) k :=
  ⟨rfl, rfl, .inr ⟨(atE_zero h0).2.2, lookL_filter _ _ hn⟩⟩

theorem look_pass {s : St} {now : Int} (k : ByteArray) (hn : s.nd) : lookL Ent.key (passS s now).l k = (lookL Ent.key s.l k).filter (live now) := lookL_filter _ _ hn

/-- The three outcomes of Begin. -/
theorem begin_cases (s : St) (key dig : ByteArray) (now : Int) (hn : s.nd) :
    ((beginS s key dig now).1.2.2 ≠ 0 ∧ (beginS s key dig now).2 = s) ∨
    (atE s now = 0 ∧ lookL Ent.key (passS s now).l key = none ∧ s.l.countP (live now) < s.room ∧ beginS s key dig now = ((1, em, 0), { passS s now with l := (passS s now).l ++ [⟨key, dig, em, false, now + s.ttl⟩] })) ∨
    (atE s now = 0 ∧ ∃ r, lookL Ent.key s.l key = some r ∧ now < r.fin ∧ r.dig = dig ∧ beginS s key dig now = ((if r.done = true then (3, r.res, 0) else (2, em, 0)), passS s now)) := by
  have hnew : atE s now = 0 → (lookL Ent.key s.l key = none ∨ ∃ r, lookL Ent.key s.l key = some r ∧ r.fin ≤ now) → (newS s key dig now).1.2.2 ≠ 0 ∧ (newS s key dig now).2 = s ∨
      (atE s now = 0 ∧ lookL Ent.key (passS s now).l key = none ∧ s.l.countP (live now) < s.room ∧ newS s key dig now = ((1, em, 0), { passS s now with l := (passS s now).l ++ [⟨key, dig, em, false, now + s.ttl⟩] })) := by
    intro h0 hl
    by_cases hlim : s.room ≤ ((s.l.countP (live now) : Nat) : Int)
    · refine .inl ?_
      have e : newS s key dig now = ((0, em, 3), s) := by simp only [newS, if_pos hlim]
      rw [e]; exact ⟨by simp, rfl⟩
    · have hnone : lookL Ent.key (passS s now).l key = none := by
        rw [look_pass key hn]
        rcases hl with hl | ⟨r, hl, hr⟩
        · rw [hl]; rfl
        · rw [hl]
          have : live now r = false := by simp [live]; omega
          simp [Option.filter, this]
      refine .inr ⟨h0, hnone, by omega, ?_⟩
      simp only [newS, if_neg hlim]
      rw [putL_new (kf := Ent.key) (x := ⟨key, dig, em, false, now + s.ttl⟩) hnone]
  by_cases hid : idB key = false ∨ idB dig = false
  · refine .inl ?_
    have e : beginS s key dig now = ((0, em, 4), s) := by simp only [beginS, if_pos hid]
    rw [e]; exact ⟨by simp, rfl⟩
  · by_cases h0 : atE s now = 0
    · have hb : beginS s key dig now = match lookL Ent.key s.l key with
        | none => newS s key dig now
        | some r => if r.fin ≤ now then newS s key dig now else if r.dig ≠ dig then ((0, em, 19), s) else if r.done = true then ((3, r.res, 0), passS s now) else ((2, em, 0), passS s now) := by
        simp only [beginS]; rw [if_neg hid, if_neg (by simp [h0])]; rfl
      cases hl : lookL Ent.key s.l key with
      | none =>
        rw [hl] at hb; simp only at hb; rw [hb]
        rcases hnew h0 (.inl hl) with h | h
        · exact .inl h
        · exact .inr (.inl h)
      | some r =>
        rw [hl] at hb; simp only at hb
        by_cases hr : r.fin ≤ now
        · rw [if_pos hr] at hb; rw [hb]
          rcases hnew h0 (.inr ⟨r, hl, hr⟩) with h | h
          · exact .inl h
          · exact .inr (.inl h)
        · rw [if_neg hr] at hb
          by_cases hd : r.dig = dig
          · rw [if_neg (by simpa using hd)] at hb
            refine .inr (.inr ⟨h0, r, rfl, by omega, hd, ?_⟩)
            rw [hb]; split <;> rfl
          · rw [if_pos hd] at hb; rw [hb]
            exact .inl ⟨by simp, rfl⟩
    · refine .inl ?_
      simp only [beginS]; rw [if_neg hid, if_pos h0]
      exact ⟨h0, rfl⟩

theorem busy_cases (s : St) (key dig : ByteArray) (now : Int) : (busyS s key dig now).1 ≠ 0 ∨ (atE s now = 0 ∧ ∃ r, lookL Ent.key s.l key = some r ∧ now < r.fin ∧ r.dig = dig ∧ r.done = false ∧ busyS s key dig now = (0, r)) := by
  unfold busyS
  by_cases h0 : atE s now = 0
  · rw [if_neg (by simp [h0])]
    cases hl : lookL Ent.key s.l key with
    | none => exact .inl (by simp)
    | some r =>
      simp only
      by_cases hr : r.fin ≤ now
      · rw [if_pos hr]; exact .inl (by simp)
      · rw [if_neg hr]
        by_cases hd : r.dig = dig
        · rw [if_neg (by simpa using hd)]
          by_cases hdn : r.done = true
          · rw [if_pos hdn]; exact .inl (by simp)
          · rw [if_neg hdn]; exact .inr ⟨h0, r, rfl, by omega, hd, by simpa using hdn, rfl⟩
        · rw [if_pos hd]; exact .inl (by simp)
  · rw [if_pos h0]; exact .inl h0

theorem finish_cases (s : St) (key dig res : ByteArray) (now : Int) : ((finishS s key dig res now).1 ≠ 0 ∧ (finishS s key dig res now).2 = s) ∨
    (atE s now = 0 ∧ ∃ r, lookL Ent.key s.l key = some r ∧ now < r.fin ∧ r.dig = dig ∧ r.done = false ∧ finishS s key dig res now = (0, { passS s now with l := putL Ent.key (passS s now).l ⟨key, dig, res, true, now + s.ttl⟩ })) := by
  unfold finishS
  split
  · exact .inl ⟨by simp, rfl⟩
  · split
    · exact .inl ⟨by simp, rfl⟩
    · rcases busy_cases s key dig now with hb | ⟨h0, r, hl, hr, hd, hdn, hb⟩
      · rw [if_pos hb]; exact .inl ⟨hb, rfl⟩
      · rw [hb]; exact .inr ⟨h0, r, hl, hr, hd, hdn, by simp [hd]⟩

theorem abandon_cases (s : St) (key dig : ByteArray) (now : Int) : ((abandonS s key dig now).1 ≠ 0 ∧ (abandonS s key dig now).2 = s) ∨
    (atE s now = 0 ∧ ∃ r, lookL Ent.key s.l key = some r ∧ now < r.fin ∧ r.dig = dig ∧ r.done = false ∧ abandonS s key dig now = (0, { passS s now with l := delL Ent.key (passS s now).l key })) := by
  unfold abandonS
  split
  · exact .inl ⟨by simp, rfl⟩
  · rcases busy_cases s key dig now with hb | ⟨h0, r, hl, hr, hd, hdn, hb⟩
    · rw [if_pos hb]; exact .inl ⟨hb, rfl⟩
    · rw [hb]; exact .inr ⟨h0, r, hl, hr, hd, hdn, by simp⟩

theorem begin_ok {s : St} {key dig : ByteArray} {now : Int} (h : s.ok) (hn : s.nd) : (beginS s key dig now).2.ok := by
  rcases begin_cases s key dig now hn with ⟨_, h1⟩ | ⟨h0, _, hc, h1⟩ | ⟨h0, r, _, _, _, h1⟩
  · rw [h1]; exact h
  · rw [h1]
    have hp := pass_ok h h0
    obtain ⟨o1, o2, o3, o4, o5, o6, o7⟩ := hp
    refine ⟨o1, o2, o3, o4, o5, o6, ?_⟩
    have := pass_len s now
    simp only [List.length_append, List.length_singleton, this]
    show ((s.l.countP (live now) + 1 : Nat) : Int) ≤ s.room
    omega
  · rw [h1]; exact pass_ok h h0

theorem pass_has {s : St} {key : ByteArray} {now : Int} {r : Ent} (hn : s.nd) (hl : lookL Ent.key s.l key = some r) (hr : now < r.fin) : lookL Ent.key (passS s now).l key = some r := by
  rw [look_pass key hn, hl]; simp [Option.filter, live, hr]

theorem finish_ok {s : St} {key dig res : ByteArray} {now : Int} (h : s.ok) (hn : s.nd) : (finishS s key dig res now).2.ok := by
  rcases finish_cases s key dig res now with ⟨_, h1⟩ | ⟨h0, r, hl, hr, _, _, h1⟩
  · rw [h1]; exact h
  · rw [h1]
    obtain ⟨o1, o2, o3, o4, o5, o6, o7⟩ := pass_ok h h0
    refine ⟨o1, o2, o3, o4, o5, o6, ?_⟩
    have := putL_length (kf := Ent.key) (l := (passS s now).l) (x := ⟨key, dig, res, true, now + s.ttl⟩)
    rw [pass_has hn hl hr] at this
    simp only [this]
    exact o7
theorem abandon_ok {s : St} {key dig : ByteArray} {now : Int} (h : s.ok) : (abandonS s key dig now).2.ok := by
  rcases abandon_cases s key dig now with ⟨_, h1⟩ | ⟨h0, r, hl, hr, _, _, h1⟩
  · rw [h1]; exact h
  · rw [h1]
    obtain ⟨o1, o2, o3, o4, o5, o6, o7⟩ := pass_ok h h0
    refine ⟨o1, o2, o3, o4, o5, o6, ?_⟩
    have := List.length_filter_le (fun x => x.key != key) (passS s now).l
    show ((List.filter (fun x => x.key != key) (passS s now).l).length : Int) ≤ (passS s now).room
    omega
theorem sweep_ok {s : St} {now : Int} (h : s.ok) : (sweepS s now).2.ok := by
  unfold sweepS
  split
  · exact h
  · rename_i h0; exact pass_ok h (by simpa using h0)
theorem stepP_ok {s : St} {x : OpD} (h : s.ok) (hn : s.nd) : (stepP s x).ok := by
  unfold stepP
  split
  · exact begin_ok h hn
  · split
    · exact finish_ok h hn
    · split
      · exact abandon_ok h
      · split
        · exact sweep_ok h
        · exact h

/-- A call of another key, or none of Begin, Finish, Abandon. -/
theorem passed_step {s : St} {x : OpD} {k : ByteArray} (hn : s.nd) (hk : x.key ≠ k ∨ x.kind = 3) : Passed s (stepP s x) k := by
  have same : Passed s s k := ⟨rfl, rfl, .inl rfl⟩
  unfold stepP
  by_cases k0 : x.kind = 0
  · have hk' : k ≠ x.key := by rcases hk with h | h; exact h.symm; omega
    rw [if_pos k0]
    rcases begin_cases s x.key x.dig x.now hn with ⟨_, h1⟩ | ⟨h0, hnone, _, h1⟩ | ⟨h0, r, _, _, _, h1⟩
    · rw [h1]; exact same
    · rw [h1]
      refine ⟨rfl, rfl, .inr ⟨(atE_zero h0).2.2, ?_⟩⟩
      have h2 := lookL_putL_other (kf := Ent.key) (l := (passS s x.now).l) (x := ⟨x.key, x.dig, em, false, x.now + s.ttl⟩) hk'
      rw [putL_new (kf := Ent.key) (x := ⟨x.key, x.dig, em, false, x.now + s.ttl⟩) hnone] at h2
      exact h2.trans (look_pass k hn)
    · rw [h1]; exact passed_pass k hn h0
  · rw [if_neg k0]
    by_cases k1 : x.kind = 1
    · have hk' : k ≠ x.key := by rcases hk with h | h; exact h.symm; omega
      rw [if_pos k1]
      rcases finish_cases s x.key x.dig x.res x.now with ⟨_, h1⟩ | ⟨h0, r, hl, hr, _, _, h1⟩
      · rw [h1]; exact same
      · rw [h1]
        refine ⟨rfl, rfl, .inr ⟨(atE_zero h0).2.2, ?_⟩⟩
        exact (lookL_putL_other (kf := Ent.key) (l := (passS s x.now).l) (x := ⟨x.key, x.dig, x.res, true, x.now + s.ttl⟩) hk').trans (look_pass k hn)
    · rw [if_neg k1]
      by_cases k2 : x.kind = 2
      · have hk' : k ≠ x.key := by rcases hk with h | h; exact h.symm; omega
        rw [if_pos k2]
        rcases abandon_cases s x.key x.dig x.now with ⟨_, h1⟩ | ⟨h0, r, hl, hr, _, _, h1⟩
        · rw [h1]; exact same
        · rw [h1]
          refine ⟨rfl, rfl, .inr ⟨(atE_zero h0).2.2, ?_⟩⟩
          exact (lookL_delL_other (kf := Ent.key) hk' (nodup_filter _ hn)).trans (look_pass k hn)
      · rw [if_neg k2]
        by_cases k3 : x.kind = 3
        · rw [if_pos k3]
          unfold sweepS
          split
          · exact same
          · rename_i h0; exact passed_pass k hn (by simpa using h0)
        · rw [if_neg k3]; exact same

/-! IdemOnce -/
/-- What the law's variables say of the table. -/
def OnceInv (life : Int) (s : St) (frm : Int) (dig res : ByteArray) (done : Bool) : Prop :=
  s.ok ∧ s.ttl = life ∧ -1 ≤ frm ∧ frm ≤ 1073741824 ∧
  ((lookL Ent.key s.l cA = none ∧ (frm = -1 ∨ frm + life ≤ s.now)) ∨ ∃ r, lookL Ent.key s.l cA = some r ∧ 0 ≤ frm ∧ r.fin = frm + life ∧ r.dig = dig ∧ r.done = done ∧ (done = true → r.res = res))

theorem once_passed {life : Int} {s s' : St} {frm : Int} {dig res : ByteArray} {done : Bool} (h : OnceInv life s frm dig res done) (hp : Passed s s' cA) (hok : s'.ok) : OnceInv life s' frm dig res done := by
  obtain ⟨h1, h2, h3, h4, h5⟩ := h
  obtain ⟨p1, p2, p3⟩ := hp
  refine ⟨hok, p2.trans h2, h3, h4, ?_⟩
  rcases p3 with rfl | ⟨p4, p5⟩
  · exact h5
  · rcases h5 with ⟨h6, h7⟩ | ⟨r, h6, h7, h8, h9⟩
    · rw [p5, h6]
      exact .inl ⟨rfl, by omega⟩
    · rw [p5, h6]
      by_cases hlv : live s'.now r = true
      · exact .inr ⟨r, by simp [Option.filter, hlv], h7, h8, h9⟩
      · refine .inl ⟨by simp [Option.filter, hlv], ?_⟩
        simp only [live, decide_eq_true_eq] at hlv
        omega

/-- Begin of the key a. -/
theorem once_begin {life : Int} {s : St} {frm : Int} {dig res d : ByteArray} {done : Bool} {now : Int} (h : OnceInv life s frm dig res done) (hn : s.nd) :
    ((beginS s cA d now).1.2.2 ≠ 0 ∧ OnceInv life (beginS s cA d now).2 frm dig res done) ∨
    ((beginS s cA d now).1.2.2 = 0 ∧ (beginS s cA d now).1.1 = 1 ∧ ¬ (0 ≤ frm ∧ now < frm + life) ∧ OnceInv life (beginS s cA d now).2 now d res false) ∨
    ((beginS s cA d now).1.2.2 = 0 ∧ (beginS s cA d now).1.1 ≠ 1 ∧ (0 ≤ frm ∧ now < frm + life) ∧ d = dig ∧ (done = decide ((beginS s cA d now).1.1 = 3)) ∧ (done = true → (beginS s cA d now).1.2.1 = res) ∧ OnceInv life (beginS s cA d now).2 frm dig res done) := by
  have hok := begin_ok (key := cA) (dig := d) (now := now) h.1 hn
  obtain ⟨h1, h2, h3, h4, h5⟩ := h
  rcases begin_cases s cA d now hn with ⟨c1, c2⟩ | ⟨h0, hnone, _, c1⟩ | ⟨h0, r, c1, c2, c3, c4⟩
  · refine .inl ⟨c1, ?_⟩
    rw [c2]; exact ⟨h1, h2, h3, h4, h5⟩
  · obtain ⟨a0, a1, a2⟩ := atE_zero h0
    rw [c1] at hok ⊢
    refine .inr (.inl ⟨rfl, rfl, ?_, hok, h2, by omega, a1, .inr ⟨⟨cA, d, em, false, now + s.ttl⟩, ?_, a0, by simp [h2], rfl, rfl, by simp⟩⟩)
    · rcases h5 with ⟨h6, h7⟩ | ⟨r, h6, h7, h8, h9⟩
      · omega
      · rw [look_pass cA hn, h6] at hnone
        have : live now r = false := by
          cases hh : live now r with
          | false => rfl
          | true => simp [Option.filter, hh] at hnone
        simp only [live, decide_eq_false_iff_not] at this
        omega
    · have := lookL_putL_same (kf := Ent.key) (l := (passS s now).l) (⟨cA, d, em, false, now + s.ttl⟩ : Ent)
      rw [putL_new (kf := Ent.key) (x := ⟨cA, d, em, false, now + s.ttl⟩) hnone] at this
      exact this
  · obtain ⟨a0, a1, a2⟩ := atE_zero h0
    rcases h5 with ⟨h6, h7⟩ | ⟨r', h6, h7, h8, h9, h10, h11⟩
    · rw [h6] at c1; cases c1
    · rw [h6] at c1
      simp only [Option.some.injEq] at c1
      subst c1
      rw [c4] at hok ⊢
      refine .inr (.inr ⟨?_, ?_, ⟨h7, by omega⟩, by rw [← c3, h9], ?_, ?_, hok, h2, h3, h4, .inr ⟨r', pass_has hn h6 c2, h7, h8, h9, h10, h11⟩⟩)
      · split <;> rfl
      · split <;> simp
      · rw [← h10]; cases r'.done <;> simp
      · intro hd
        rw [h10, if_pos hd]; exact h11 hd

theorem once_finish {life : Int} {s : St} {frm : Int} {dig res d rs : ByteArray} {done : Bool} {now : Int} (h : OnceInv life s frm dig res done) (hn : s.nd) :
    ((finishS s cA d rs now).1 ≠ 0 ∧ OnceInv life (finishS s cA d rs now).2 frm dig res done) ∨
    ((finishS s cA d rs now).1 = 0 ∧ (0 ≤ frm ∧ now < frm + life) ∧ done = false ∧ d = dig ∧ OnceInv life (finishS s cA d rs now).2 now dig rs true) := by
  have hok := finish_ok (key := cA) (dig := d) (res := rs) (now := now) h.1 hn
  obtain ⟨h1, h2, h3, h4, h5⟩ := h
  rcases finish_cases s cA d rs now with ⟨c1, c2⟩ | ⟨h0, r, c1, c2, c3, c4, c5⟩
  · refine .inl ⟨c1, ?_⟩
    rw [c2]; exact ⟨h1, h2, h3, h4, h5⟩
  · obtain ⟨a0, a1, a2⟩ := atE_zero h0
    rcases h5 with ⟨h6, h7⟩ | ⟨r', h6, h7, h8, h9, h10, h11⟩
    · rw [h6] at c1; cases c1
    · rw [h6] at c1
      simp only [Option.some.injEq] at c1
      subst c1
      rw [c5] at hok ⊢
      refine .inr ⟨rfl, ⟨h7, by omega⟩, by rw [← h10, c4], by rw [← c3, h9], hok, h2, by omega, a1, .inr ⟨⟨cA, d, rs, true, now + s.ttl⟩, ?_, a0, by simp [h2], by rw [← h9, c3], rfl, fun _ => rfl⟩⟩
      exact lookL_putL_same (kf := Ent.key) (l := (passS s now).l) (⟨cA, d, rs, true, now + s.ttl⟩ : Ent)
end Go.Proofs.Ytkbblkhkadcpcaa
