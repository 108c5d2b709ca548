/- Chapter 27: contracts of the program's table: Begin. No condition. -/
import Derived.Test.YtkbblkhkadcpcaaIdemB
import Derived.Lib.SlicesS
import Derived.StillTailTactics
namespace Go.Proofs.Ytkbblkhkadcpcaa
open Go.RowKit

abbrev em : ByteArray := ⟨#[]⟩

/-- What Begin does where there is no living record of the key. -/
def newS (s : St) (key dig : ByteArray) (now : Int) : (Int × ByteArray × Int) × St :=
  if s.room ≤ ((s.l.countP (live now) : Nat) : Int) then ((0, em, 3), s) else ((1, em, 0), { passS s now with l := putL Ent.key (passS s now).l ⟨key, dig, em, false, now + s.ttl⟩ })
def beginS (s : St) (key dig : ByteArray) (now : Int) : (Int × ByteArray × Int) × St :=
  if idB key = false ∨ idB dig = false then ((0, em, 4), s)
  else if atE s now ≠ 0 then ((0, em, atE s now), s)
  else match lookL Ent.key s.l key with
    | none => newS s key dig now
    | some r => if r.fin ≤ now then newS s key dig now else if r.dig ≠ dig then ((0, em, 19), s) else if r.done = true then ((3, r.res, 0), passS s now) else ((2, em, 0), passS s now)

def BeginPost (w : World) (tb mb : Nat) (r : (Int × ByteArray × Int) × St) (e : Ending) (w' : World) : Prop :=
  e = .returned (.tuple #[.int .i64 r.1.1, .string r.1.2.1, .int .i64 r.1.2.2]) ∧ TabIs w' tb mb r.2 ∧ Chg [tb, mb] w w'

set_option maxHeartbeats 1000000 in
theorem begin_names (tb mb : Nat) (s : St) (key dig : ByteArray) (now : Int) (w : World) (h : TabIs w tb mb s) (hk : key.size ≤ maxLen) (hd : dig.size ≤ maxLen) (hid : idB key = false ∨ idB dig = false) :
    Calls Try.prog 9 #[.pointer (some ⟨tb, 0, none⟩), .string key, .string dig, .int .i64 now] w (BeginPost w tb mb (beginS s key dig now)) := by
  have hr : beginS s key dig now = ((0, em, 4), s) := by simp only [beginS, if_pos hid]
  rw [hr]
  by_cases h1 : idB key = false
  · have H := Lib.hid h
    clear h hr hid
    go_enter Try.func9, Try.ntmps9
    go_wp2_with fail
    refine (made_yes tb mb s _ H.out).mono ?_; rintro e w' ⟨rfl, rfl⟩
    go_wp2_with fail
    refine (ID_any _ _ hk).mono ?_; rintro e w1 ⟨rfl, hb⟩
    go_wp2_with fail
    go_ret3
    exact ⟨rfl, H.out.kept (Chg.ofBelow (S := []) hb) (by simp) (by simp), Chg.ofBelow hb⟩
  · have h2 : idB dig = false := by rcases hid with h | h; exact absurd h h1; exact h
    have h1' : idB key = true := by simpa using h1
    have H := Lib.hid h
    clear h hr hid h1
    go_enter Try.func9, Try.ntmps9
    go_wp2_with fail
    refine (made_yes tb mb s _ H.out).mono ?_; rintro e w' ⟨rfl, rfl⟩
    go_wp2_with fail
    refine (ID_any _ _ hk).mono ?_; rintro e w1 ⟨rfl, hb⟩
    go_wp2_with fail
    refine (ID_any _ _ hd).mono ?_; rintro e w2 ⟨rfl, hb2⟩
    go_wp2_with fail
    go_ret3
    have hb' : Chg [] w w2 := (Chg.ofBelow (S := []) hb).thenSame (Chg.ofBelow hb2)
    exact ⟨rfl, H.out.kept hb' (by simp) (by simp), hb'.mono (by simp)⟩

theorem at_zero (tb mb : Nat) (s : St) (now : Int) (w : World) (h : TabIs w tb mb s) (h0 : atE s now = 0) : Calls Try.prog 25 #[.pointer (some ⟨tb, 0, none⟩), .int .i64 now] w fun e w' => e = .returned (.int .i64 0) ∧ w = w' := by
  have := at_any tb mb s now w h
  rw [h0] at this; exact this

theorem atE_zero {s : St} {now : Int} (h0 : atE s now = 0) : 0 ≤ now ∧ now ≤ 1073741824 ∧ s.now ≤ now := by
  unfold atE at h0; split at h0
  · omega
  · split at h0 <;> omega

set_option maxHeartbeats 1000000 in
theorem begin_at (tb mb : Nat) (s : St) (key dig : ByteArray) (now : Int) (w : World) (h : TabIs w tb mb s) (hk : key.size ≤ maxLen) (hd : dig.size ≤ maxLen) (h1 : idB key = true) (h2 : idB dig = true) (h0 : atE s now ≠ 0) :
    Calls Try.prog 9 #[.pointer (some ⟨tb, 0, none⟩), .string key, .string dig, .int .i64 now] w (BeginPost w tb mb (beginS s key dig now)) := by
  have hr : beginS s key dig now = ((0, em, atE s now), s) := by simp only [beginS]; rw [if_neg (by simp [h1, h2]), if_pos h0]
  rw [hr]
  have H := Lib.hid h
  have hb0 : ((atE s now) == 0) = false := by simpa using h0
  clear h hr h0
  go_enter Try.func9, Try.ntmps9
  go_wp2_with fail
  refine (made_yes tb mb s _ H.out).mono ?_; rintro e w' ⟨rfl, rfl⟩
  go_wp2_with fail
  refine (ID_any _ _ hk).mono ?_; rintro e w1 ⟨rfl, hb⟩
  go_wp2_with fail
  refine (ID_any _ _ hd).mono ?_; rintro e w2 ⟨rfl, hb2⟩
  have hb' : Chg [] w w2 := (Chg.ofBelow (S := []) hb).thenSame (Chg.ofBelow hb2)
  go_wp2_with fail
  refine (at_any tb mb s now _ (H.out.kept hb' (by simp) (by simp))).mono ?_; rintro e w3 ⟨rfl, rfl⟩
  go_wp2_with fail
  go_ret3
  exact ⟨rfl, H.out.kept hb' (by simp) (by simp), hb'.mono (by simp)⟩

set_option maxHeartbeats 1000000 in
set_option maxRecDepth 100000 in
/-- A living record of the key. -/
theorem begin_some (tb mb : Nat) (s : St) (key dig : ByteArray) (now : Int) (w : World) (h : TabIs w tb mb s) (hk : key.size ≤ maxLen) (hd : dig.size ≤ maxLen) (h1 : idB key = true) (h2 : idB dig = true) (h0 : atE s now = 0)
    (r : Ent) (hl : lookL Ent.key s.l key = some r) (hlv : now < r.fin) :
    Calls Try.prog 9 #[.pointer (some ⟨tb, 0, none⟩), .string key, .string dig, .int .i64 now] w (BeginPost w tb mb (beginS s key dig now)) := by
  have hr : beginS s key dig now = if r.dig ≠ dig then ((0, em, 19), s) else if r.done = true then ((3, r.res, 0), passS s now) else ((2, em, 0), passS s now) := by
    simp only [beginS]; rw [if_neg (by simp [h1, h2]), if_neg (by simp [h0]), hl]; simp only; rw [if_neg (by omega)]
  obtain ⟨R, hR⟩ : ∃ R, R = beginS s key dig now := ⟨_, rfl⟩
  rw [← hR]
  have HR := Lib.hid (hR.trans hr)
  clear hr hR
  have H := Lib.hid h
  have H0 := Lib.hid h0
  have Hl := Lib.hid hl
  clear h h0 hl
  have hz := zeroRec
  go_enter Try.func9, Try.ntmps9
  go_wp2_with fail
  refine (made_yes tb mb s _ H.out).mono ?_; rintro e w' ⟨rfl, rfl⟩
  go_wp2_with fail
  refine (ID_any _ _ hk).mono ?_; rintro e w1 ⟨rfl, hb⟩
  go_wp2_with fail
  refine (ID_any _ _ hd).mono ?_; rintro e w2 ⟨rfl, hb2⟩
  have hb' : Chg [] w w2 := (Chg.ofBelow (S := []) hb).thenSame (Chg.ofBelow hb2)
  have H2 := Lib.hid (H.out.kept hb' (by simp) (by simp))
  have hc2 := blk_cell H2.out.1
  go_wp2_with fail
  refine (at_zero tb mb s now _ H2.out H0.out).mono ?_; rintro e w3 ⟨rfl, rfl⟩
  have h2lt := lt_of_heap H2.out.1
  obtain ⟨rk, rd, rr, rdn, rf⟩ := r
  by_cases hdg : rd = dig
  · subst hdg
    have hp := fun w' (hw : TabIs w' tb mb s) => pass_any tb mb s now w' hw
    have Hp := Lib.hid hp; clear hp
    cases rdn
    case' false => have HR' : Hid (R = ((2, em, 0), passS s now)) := by show _ = _; rw [HR.out]; simp
    case' true => have HR' : Hid (R = ((3, rr, 0), passS s now)) := by show _ = _; rw [HR.out]; simp
    all_goals
      clear HR
      go_wp2_with (at_lookup; refine wpl_lookup_hit _ rfl _ _ 51 rfl 9 59 Try.underlying51 Try.underlying9 (hz _) mb s.l rfl H2.out.2 key rfl _ Hl.out (.agg #[.string rd, .string rr, .bool _, .int .i64 rf]) rfl ?_)
      go_quiet (fail)
      go_wp2_with fail
      refine (Hp.out _ ?_).mono ?_
      · exact H2.out.kept (S := []) (((Chg.refl _ _).alloc _).drewN _) (by simp) (by simp)
      rintro e w5 ⟨rfl, ht5, hc5⟩
      have hcc := blk_cell (hc5.at (b := w2.heap.size) (by have := H2.out.2.lt; simp; omega) (heap_alloc_new w2 _))
      have hch5 : Chg [tb, mb] w w5 := (((hb'.alloc (.cells #[.string rd, .string rr, .bool _, .int .i64 rf] 59)).drewN nq).mono (T := [tb, mb]) (by simp)).thenSame hc5
      go_wp2_with fail
    · go_quiet (fail)
      go_wp2_with fail
      go_ret3
      rw [HR'.out]
      exact ⟨rfl, ht5.kept ((Chg.refl [] _).drewN _) (by simp) (by simp), hch5.drewN _⟩
    · go_ret3
      rw [HR'.out]
      exact ⟨rfl, ht5, hch5⟩
  · have hdb : (rd.toList == dig.toList) = false := (Lib.bytes_beq_false_iff _ _).2 hdg
    have HR' : Hid (R = ((0, em, 19), s)) := by have := HR.out; rw [if_pos hdg] at this; exact this
    clear HR hdg
    go_wp2_with (at_lookup; refine wpl_lookup_hit _ rfl _ _ 51 rfl 9 59 Try.underlying51 Try.underlying9 (hz _) mb s.l rfl H2.out.2 key rfl _ Hl.out (.agg #[.string rd, .string rr, .bool _, .int .i64 rf]) rfl ?_)
    go_ret3
    rw [HR'.out]
    exact ⟨rfl, H2.out.kept (S := []) ((Chg.refl _ _).alloc _) (by simp) (by simp), (hb'.alloc _).mono (by simp)⟩

theorem newS_eq {s : St} {key dig : ByteArray} {now : Int} (h1 : idB key = true) (h2 : idB dig = true) (h0 : atE s now = 0) (hl : lookL Ent.key s.l key = none ∨ ∃ r, lookL Ent.key s.l key = some r ∧ r.fin ≤ now) : beginS s key dig now = newS s key dig now := by
  simp only [beginS]; rw [if_neg (by simp [h1, h2]), if_neg (by simp [h0])]
  rcases hl with hl | ⟨r, hl, hr⟩
  · rw [hl]
  · rw [hl]; simp only; rw [if_pos hr]

set_option maxHeartbeats 2000000 in
set_option maxRecDepth 100000 in
theorem begin_limit (tb mb : Nat) (s : St) (key dig : ByteArray) (now : Int) (w : World) (h : TabIs w tb mb s) (hn : s.l.length ≤ 4096) (hk : key.size ≤ maxLen) (hd : dig.size ≤ maxLen) (h1 : idB key = true) (h2 : idB dig = true) (h0 : atE s now = 0)
    (hl : lookL Ent.key s.l key = none ∨ ∃ r, lookL Ent.key s.l key = some r ∧ r.fin ≤ now) (hlim : s.room ≤ ((s.l.countP (live now) : Nat) : Int)) :
    Calls Try.prog 9 #[.pointer (some ⟨tb, 0, none⟩), .string key, .string dig, .int .i64 now] w (BeginPost w tb mb (beginS s key dig now)) := by
  have hr : beginS s key dig now = ((0, em, 3), s) := by rw [newS_eq h1 h2 h0 hl, newS, if_pos hlim]
  rw [hr]
  have H := Lib.hid h
  have H0 := Lib.hid h0
  clear h hr h0
  have hz := zeroRec
  have hcl : s.l.countP (live now) ≤ 4096 := Nat.le_trans List.countP_le_length hn
  generalize hcnt : s.l.countP (live now) = cnt at hlim hcl
  have Hcnt := Lib.hid hcnt; clear hcnt
  have hb3 : decide (s.room ≤ (cnt : Int)) = true := by simpa using hlim
  go_enter Try.func9, Try.ntmps9
  go_wp2_with fail
  refine (made_yes tb mb s _ H.out).mono ?_; rintro e w' ⟨rfl, rfl⟩
  go_wp2_with fail
  refine (ID_any _ _ hk).mono ?_; rintro e w1 ⟨rfl, hb⟩
  go_wp2_with fail
  refine (ID_any _ _ hd).mono ?_; rintro e w2 ⟨rfl, hb2⟩
  have hb' : Chg [] w w2 := (Chg.ofBelow (S := []) hb).thenSame (Chg.ofBelow hb2)
  have H2 := Lib.hid (H.out.kept hb' (by simp) (by simp))
  have hc2 := blk_cell H2.out.1
  go_wp2_with fail
  refine (at_zero tb mb s now _ H2.out H0.out).mono ?_; rintro e w3 ⟨rfl, rfl⟩
  have hta : ∀ X, TabIs (w2.alloc X) tb mb s := fun X => H2.out.kept (S := []) ((Chg.refl _ _).alloc _) (by simp) (by simp)
  have k0 : ∀ X d os, (Go.Sort.grow (redrawn (w2.alloc X) d) os).cell? ⟨tb, 0, none⟩ = some (.int .i64 s.room) := fun X d os => cell_regrown (by rw [blk_cell (hta X).1]; rfl) d os
  have cL : ∀ X d os, Calls Try.prog 26 #[.pointer (some ⟨tb, 0, none⟩), .int .i64 now] (Go.Sort.grow (redrawn (w2.alloc X) d) os) fun e w'' => e = .returned (.int .i64 (cnt : Int)) ∧ ∃ p : Regrown, w'' = Go.Sort.grow (redrawn (w2.alloc X) p.d) p.os := fun X d os => by
    have := calls_regrown (living_any tb mb s now _ ((hta X).kept (chg_regrown _ d os) (by simp) (by simp)) hn)
    rw [Hcnt.out] at this; exact this
  have Hta := Lib.hid hta
  have HcL := Lib.hid cL
  clear hta cL
  rcases hl with hl | ⟨r, hl, hrf⟩
  · have Hl := Lib.hid hl
    clear hl
    go_wp2_with (at_lookup; refine wpl_lookup_miss _ rfl _ _ 51 rfl 9 59 Try.underlying51 Try.underlying9 (hz _) mb s.l rfl H2.out.2 key rfl Hl.out ?_)
    refine wp_region_quiet_below (by kernel_rfl) (by kernel_rfl) ?_
    repeat (any_goals (first | go_big_quiet_step (exact HcL.out _ _ _) | quiet_step (exact HcL.out _ _ _)))
    refine wpQuiet_nil ?_
    intro _ hw'
    obtain ⟨⟨dq, osq⟩, hw''⟩ := hw'
    subst hw''
    go_wp2_with fail
    go_ret3
    have hcf := (hb'.alloc (.cells #[.string ⟨#[]⟩, .string ⟨#[]⟩, .bool false, .int .i64 0] 59)).thenSame (chg_regrown _ dq osq)
    exact ⟨rfl, H.out.kept hcf (by simp) (by simp), hcf.mono (by simp)⟩
  · have Hl := Lib.hid hl
    clear hl
    obtain ⟨rk, rd, rr, rdn, rf⟩ := r
    go_wp2_with (at_lookup; refine wpl_lookup_hit _ rfl _ _ 51 rfl 9 59 Try.underlying51 Try.underlying9 (hz _) mb s.l rfl H2.out.2 key rfl _ Hl.out (.agg #[.string _, .string _, .bool _, .int .i64 _]) rfl ?_)
    refine wp_region_quiet_below (by kernel_rfl) (by kernel_rfl) ?_
    repeat (any_goals (first | go_big_quiet_step (exact HcL.out _ _ _) | quiet_step (exact HcL.out _ _ _)))
    refine wpQuiet_nil ?_
    intro _ hw'
    obtain ⟨⟨dq, osq⟩, hw''⟩ := hw'
    subst hw''
    go_wp2_with fail
    go_ret3
    have hcf := (hb'.alloc (.cells #[.string rd, .string rr, .bool rdn, .int .i64 rf] 59)).thenSame (chg_regrown _ dq osq)
    exact ⟨rfl, H.out.kept hcf (by simp) (by simp), hcf.mono (by simp)⟩
set_option maxHeartbeats 2000000 in
set_option maxRecDepth 100000 in
theorem begin_fresh (tb mb : Nat) (s : St) (key dig : ByteArray) (now : Int) (w : World) (h : TabIs w tb mb s) (hn : s.l.length ≤ 4096) (hk : key.size ≤ maxLen) (hd : dig.size ≤ maxLen) (h1 : idB key = true) (h2 : idB dig = true) (h0 : atE s now = 0)
    (hl : lookL Ent.key s.l key = none ∨ ∃ r, lookL Ent.key s.l key = some r ∧ r.fin ≤ now) (hlim : ((s.l.countP (live now) : Nat) : Int) < s.room) (hw : 0 ≤ s.ttl ∧ s.ttl ≤ 1073741824) :
    Calls Try.prog 9 #[.pointer (some ⟨tb, 0, none⟩), .string key, .string dig, .int .i64 now] w (BeginPost w tb mb (beginS s key dig now)) := by
  have hr : beginS s key dig now = ((1, em, 0), { passS s now with l := putL Ent.key (passS s now).l ⟨key, dig, em, false, now + s.ttl⟩ }) := by rw [newS_eq h1 h2 h0 hl, newS, if_neg (by omega)]
  obtain ⟨hnow0, hnow1, _⟩ := atE_zero h0
  obtain ⟨httl0, httl1⟩ := hw
  have hp := fun w' (hw : TabIs w' tb mb s) => pass_any tb mb s now w' hw
  have Hp := Lib.hid hp; clear hp
  rw [hr]
  have H := Lib.hid h
  have H0 := Lib.hid h0
  clear h hr h0
  have hz := zeroRec
  have hcl : s.l.countP (live now) ≤ 4096 := Nat.le_trans List.countP_le_length hn
  generalize hcnt : s.l.countP (live now) = cnt at hlim hcl
  have Hcnt := Lib.hid hcnt; clear hcnt
  have hb3 : decide (s.room ≤ (cnt : Int)) = false := by simpa using hlim
  go_enter Try.func9, Try.ntmps9
  go_wp2_with fail
  refine (made_yes tb mb s _ H.out).mono ?_; rintro e w' ⟨rfl, rfl⟩
  go_wp2_with fail
  refine (ID_any _ _ hk).mono ?_; rintro e w1 ⟨rfl, hb⟩
  go_wp2_with fail
  refine (ID_any _ _ hd).mono ?_; rintro e w2 ⟨rfl, hb2⟩
  have hb' : Chg [] w w2 := (Chg.ofBelow (S := []) hb).thenSame (Chg.ofBelow hb2)
  have H2 := Lib.hid (H.out.kept hb' (by simp) (by simp))
  have hc2 := blk_cell H2.out.1
  go_wp2_with fail
  refine (at_zero tb mb s now _ H2.out H0.out).mono ?_; rintro e w3 ⟨rfl, rfl⟩
  have hta : ∀ X, TabIs (w2.alloc X) tb mb s := fun X => H2.out.kept (S := []) ((Chg.refl _ _).alloc _) (by simp) (by simp)
  have k0 : ∀ X d os, (Go.Sort.grow (redrawn (w2.alloc X) d) os).cell? ⟨tb, 0, none⟩ = some (.int .i64 s.room) := fun X d os => cell_regrown (by rw [blk_cell (hta X).1]; rfl) d os
  have cL : ∀ X d os, Calls Try.prog 26 #[.pointer (some ⟨tb, 0, none⟩), .int .i64 now] (Go.Sort.grow (redrawn (w2.alloc X) d) os) fun e w'' => e = .returned (.int .i64 (cnt : Int)) ∧ ∃ p : Regrown, w'' = Go.Sort.grow (redrawn (w2.alloc X) p.d) p.os := fun X d os => by
    have := calls_regrown (living_any tb mb s now _ ((hta X).kept (chg_regrown _ d os) (by simp) (by simp)) hn)
    rw [Hcnt.out] at this; exact this
  have Hta := Lib.hid hta
  have HcL := Lib.hid cL
  clear hta cL
  rcases hl with hl | ⟨r, hl, hrf⟩
  · have Hl := Lib.hid hl
    clear hl
    go_wp2_with (at_lookup; refine wpl_lookup_miss _ rfl _ _ 51 rfl 9 59 Try.underlying51 Try.underlying9 (hz _) mb s.l rfl H2.out.2 key rfl Hl.out ?_)
    refine wp_region_quiet_below (by kernel_rfl) (by kernel_rfl) ?_
    repeat (any_goals (first | go_big_quiet_step (exact HcL.out _ _ _) | quiet_step (exact HcL.out _ _ _)))
    refine wpQuiet_nil ?_
    intro _ hw'
    obtain ⟨⟨dq, osq⟩, hw''⟩ := hw'
    subst hw''
    go_wp2_with fail
    have hcf : Chg [] w _ := (hb'.alloc (.cells #[.string ⟨#[]⟩, .string ⟨#[]⟩, .bool false, .int .i64 0] 59)).thenSame (chg_regrown _ dq osq)
    refine (Hp.out _ (H.out.kept hcf (by simp) (by simp))).mono ?_
    rintro e w5 ⟨rfl, ht5, hc5⟩
    have hch5 : Chg [tb, mb] w w5 := (hcf.mono (T := [tb, mb]) (by simp)).thenSame hc5
    have hk5 := blk_cell ht5.1
    simp only [passS] at hk5
    go_wp2_with fail
    have hsum : IntKind.i64.wrap (now + s.ttl) = now + s.ttl := IntWalk.i64_in _ (by omega)
    go_still_tail 13, (by kernel_rfl)
    clear hsum
    change wpList _ _ _ _ _ w5.drew
    have ht5' : TabIs w5.drew tb mb (passS s now) := ht5.kept ((Chg.refl [] _).drew) (by simp) (by simp)
    refine wpl_store _ rfl _ _ _ 51 rfl 9 59 Try.underlying51 Try.underlying9 mb _ rfl ht5'.2 ⟨key, dig, em, false, now + s.ttl⟩ rfl rfl ?_
    intro w6 hm6 hc6 hs6
    go_wp2
    go_ret3
    refine ⟨rfl, ⟨?_, hm6⟩, hch5.drew.then hc6 (by simp)⟩
    exact hc6.at (by have := ht5.ne; simpa using this) ht5'.1
  · have Hl := Lib.hid hl
    clear hl
    obtain ⟨rk, rd, rr, rdn, rf⟩ := r
    go_wp2_with (at_lookup; refine wpl_lookup_hit _ rfl _ _ 51 rfl 9 59 Try.underlying51 Try.underlying9 (hz _) mb s.l rfl H2.out.2 key rfl _ Hl.out (.agg #[.string _, .string _, .bool _, .int .i64 _]) rfl ?_)
    refine wp_region_quiet_below (by kernel_rfl) (by kernel_rfl) ?_
    repeat (any_goals (first | go_big_quiet_step (exact HcL.out _ _ _) | quiet_step (exact HcL.out _ _ _)))
    refine wpQuiet_nil ?_
    intro _ hw'
    obtain ⟨⟨dq, osq⟩, hw''⟩ := hw'
    subst hw''
    go_wp2_with fail
    have hcf : Chg [] w _ := (hb'.alloc (.cells #[.string rd, .string rr, .bool rdn, .int .i64 rf] 59)).thenSame (chg_regrown _ dq osq)
    refine (Hp.out _ (H.out.kept hcf (by simp) (by simp))).mono ?_
    rintro e w5 ⟨rfl, ht5, hc5⟩
    have hch5 : Chg [tb, mb] w w5 := (hcf.mono (T := [tb, mb]) (by simp)).thenSame hc5
    have hk5 := blk_cell ht5.1
    simp only [passS] at hk5
    go_wp2_with fail
    have hsum : IntKind.i64.wrap (now + s.ttl) = now + s.ttl := IntWalk.i64_in _ (by omega)
    go_still_tail 13, (by kernel_rfl)
    clear hsum
    change wpList _ _ _ _ _ w5.drew
    have ht5' : TabIs w5.drew tb mb (passS s now) := ht5.kept ((Chg.refl [] _).drew) (by simp) (by simp)
    refine wpl_store _ rfl _ _ _ 51 rfl 9 59 Try.underlying51 Try.underlying9 mb _ rfl ht5'.2 ⟨key, dig, em, false, now + s.ttl⟩ rfl rfl ?_
    intro w6 hm6 hc6 hs6
    go_wp2
    go_ret3
    refine ⟨rfl, ⟨?_, hm6⟩, hch5.drew.then hc6 (by simp)⟩
    exact hc6.at (by have := ht5.ne; simpa using this) ht5'.1
end Go.Proofs.Ytkbblkhkadcpcaa
