/- Chapter 27: contracts of the program's table: Begin whole, busy, Finish, Abandon, Sweep, Len. No condition. -/
import Derived.Test.YtkbblkhkadcpcaaIdemC
namespace Go.Proofs.Ytkbblkhkadcpcaa
open Go.RowKit

theorem begin_any (tb mb : Nat) (s : St) (key dig : ByteArray) (now : Int) (w : World) (h : TabIs w tb mb s) (hok : s.ok) (hk : key.size ≤ maxLen) (hd : dig.size ≤ maxLen) :
    Calls Try.prog 9 #[.pointer (some ⟨tb, 0, none⟩), .string key, .string dig, .int .i64 now] w (BeginPost w tb mb (beginS s key dig now)) := by
  obtain ⟨o1, o2, o3, o4, o5, o6, o7⟩ := hok
  by_cases hid : idB key = false ∨ idB dig = false
  · exact begin_names tb mb s key dig now w h hk hd hid
  · have h1 : idB key = true := by cases hh : idB key <;> simp_all
    have h2 : idB dig = true := by cases hh : idB dig <;> simp_all
    by_cases h0 : atE s now = 0
    · have main : (lookL Ent.key s.l key = none ∨ ∃ r, lookL Ent.key s.l key = some r ∧ r.fin ≤ now) → Calls Try.prog 9 #[.pointer (some ⟨tb, 0, none⟩), .string key, .string dig, .int .i64 now] w (BeginPost w tb mb (beginS s key dig now)) := by
        intro hl
        by_cases hlim : s.room ≤ ((s.l.countP (live now) : Nat) : Int)
        · exact begin_limit tb mb s key dig now w h (by omega) hk hd h1 h2 h0 hl hlim
        · exact begin_fresh tb mb s key dig now w h (by omega) hk hd h1 h2 h0 hl (by omega) ⟨by omega, o4⟩
      cases hl : lookL Ent.key s.l key with
      | none => exact main (.inl hl)
      | some r =>
        by_cases hlv : now < r.fin
        · exact begin_some tb mb s key dig now w h hk hd h1 h2 h0 r hl hlv
        · exact main (.inr ⟨r, hl, by omega⟩)
    · exact begin_at tb mb s key dig now w h hk hd h1 h2 h0

def zeroAgg : Value := .agg #[.string ⟨#[]⟩, .string ⟨#[]⟩, .bool false, .int .i64 0]

/-- The busy record of an attempt, or an error. -/
def busyS (s : St) (key dig : ByteArray) (now : Int) : Int × Ent :=
  if atE s now ≠ 0 then (atE s now, ⟨em, em, em, false, 0⟩) else
  match lookL Ent.key s.l key with
  | none => (5, ⟨em, em, em, false, 0⟩)
  | some r => if r.fin ≤ now then (5, ⟨em, em, em, false, 0⟩) else if r.dig ≠ dig then (19, ⟨em, em, em, false, 0⟩) else if r.done = true then (10, ⟨em, em, em, false, 0⟩) else (0, r)

def BusyPost (w : World) (r : Int × Ent) (e : Ending) (w' : World) : Prop := e = .returned (.tuple #[entVal r.2, .int .i64 r.1]) ∧ Chg [] w w'

set_option maxHeartbeats 2000000 in
set_option maxRecDepth 100000 in
theorem busy_any (tb mb : Nat) (s : St) (key dig : ByteArray) (now : Int) (w : World) (h : TabIs w tb mb s) :
    Calls Try.prog 32 #[.pointer (some ⟨tb, 0, none⟩), .string key, .string dig, .int .i64 now] w (BusyPost w (busyS s key dig now)) := by
  have H := Lib.hid h
  have htl := lt_of_heap h.1
  have hml := h.2.lt
  have hta : ∀ X, TabIs (w.alloc X) tb mb s := fun X => h.kept (S := []) ((Chg.refl _ _).alloc _) (by simp) (by simp)
  have Hta := Lib.hid hta
  have hc := blk_cell h.1
  have hz := zeroRec
  clear h hta
  by_cases h0 : atE s now = 0
  · have H0 := Lib.hid h0
    cases hl : lookL Ent.key s.l key with
    | none =>
      have HR : Hid (busyS s key dig now = (5, ⟨em, em, em, false, 0⟩)) := by show _ = _; simp [busyS, h0, hl]
      rw [HR.out]
      have Hl := Lib.hid hl
      clear hl h0 HR
      go_enter Try.func32, Try.ntmps32
      go_wp2_with fail
      refine (at_zero tb mb s now _ (Hta.out _) H0.out).mono ?_; rintro e w1 ⟨rfl, rfl⟩
      go_wp2_with (at_lookup; refine wpl_lookup_miss _ rfl _ _ 51 rfl 9 59 Try.underlying51 Try.underlying9 (hz _) mb s.l rfl (Hta.out _).2 key rfl Hl.out ?_)
      refine bodyPost_ret (v := .tuple #[entVal ⟨em, em, em, false, 0⟩, .int .i64 5]) (by simp [results, Try.results32, go_sem, entVal]) rfl ⟨rfl, ?_⟩
      first | exact (Chg.refl _ _).alloc _ | exact ((Chg.refl _ _).alloc _).alloc _
    | some r =>
      obtain ⟨rk, rd, rr, rdn, rf⟩ := r
      by_cases hlv : rf ≤ now
      · skip
        have HR : Hid (busyS s key dig now = (5, ⟨em, em, em, false, 0⟩)) := by show _ = _; simp [busyS, h0, hl, hlv]
        rw [HR.out]
        have Hl := Lib.hid hl
        clear hl h0 HR
        go_enter Try.func32, Try.ntmps32
        go_wp2_with fail
        refine (at_zero tb mb s now _ (Hta.out _) H0.out).mono ?_; rintro e w1 ⟨rfl, rfl⟩
        go_wp2_with (at_lookup; refine wpl_lookup_hit _ rfl _ _ 51 rfl 9 59 Try.underlying51 Try.underlying9 (hz _) mb s.l rfl (Hta.out _).2 key rfl _ Hl.out (.agg #[.string _, .string _, .bool _, .int .i64 _]) rfl ?_)
        refine bodyPost_ret (v := .tuple #[entVal ⟨em, em, em, false, 0⟩, .int .i64 5]) (by simp [results, Try.results32, go_sem, entVal]) rfl ⟨rfl, ?_⟩
        first | exact (Chg.refl _ _).alloc _ | exact ((Chg.refl _ _).alloc _).alloc _
      · have hlv' : now < rf := by omega
        by_cases hdg : rd = dig
        · obtain rfl := hdg.symm
          cases rdn
          · skip
            have HR : Hid (busyS s key dig now = (0, ⟨rk, dig, rr, false, rf⟩)) := by show _ = _; simp [busyS, h0, hl, Int.not_le.2 hlv']
            rw [HR.out]
            have Hl := Lib.hid hl
            clear hl h0 HR
            go_enter Try.func32, Try.ntmps32
            go_wp2_with fail
            refine (at_zero tb mb s now _ (Hta.out _) H0.out).mono ?_; rintro e w1 ⟨rfl, rfl⟩
            go_wp2_with (at_lookup; refine wpl_lookup_hit _ rfl _ _ 51 rfl 9 59 Try.underlying51 Try.underlying9 (hz _) mb s.l rfl (Hta.out _).2 key rfl _ Hl.out (.agg #[.string _, .string _, .bool _, .int .i64 _]) rfl ?_)
            refine bodyPost_ret (v := .tuple #[entVal ⟨rk, dig, rr, false, rf⟩, .int .i64 0]) (by simp [results, Try.results32, go_sem, entVal]) rfl ⟨rfl, ?_⟩
            first | exact (Chg.refl _ _).alloc _ | exact ((Chg.refl _ _).alloc _).alloc _
          · skip
            have HR : Hid (busyS s key dig now = (10, ⟨em, em, em, false, 0⟩)) := by show _ = _; simp [busyS, h0, hl, Int.not_le.2 hlv']
            rw [HR.out]
            have Hl := Lib.hid hl
            clear hl h0 HR
            go_enter Try.func32, Try.ntmps32
            go_wp2_with fail
            refine (at_zero tb mb s now _ (Hta.out _) H0.out).mono ?_; rintro e w1 ⟨rfl, rfl⟩
            go_wp2_with (at_lookup; refine wpl_lookup_hit _ rfl _ _ 51 rfl 9 59 Try.underlying51 Try.underlying9 (hz _) mb s.l rfl (Hta.out _).2 key rfl _ Hl.out (.agg #[.string _, .string _, .bool _, .int .i64 _]) rfl ?_)
            refine bodyPost_ret (v := .tuple #[entVal ⟨em, em, em, false, 0⟩, .int .i64 10]) (by simp [results, Try.results32, go_sem, entVal]) rfl ⟨rfl, ?_⟩
            first | exact (Chg.refl _ _).alloc _ | exact ((Chg.refl _ _).alloc _).alloc _
        · have hdb : (rd.toList == dig.toList) = false := (Lib.bytes_beq_false_iff _ _).2 hdg
          have HR : Hid (busyS s key dig now = (19, ⟨em, em, em, false, 0⟩)) := by show _ = _; simp [busyS, h0, hl, Int.not_le.2 hlv', hdg]
          rw [HR.out]
          have Hl := Lib.hid hl
          clear hl h0 HR
          go_enter Try.func32, Try.ntmps32
          go_wp2_with fail
          refine (at_zero tb mb s now _ (Hta.out _) H0.out).mono ?_; rintro e w1 ⟨rfl, rfl⟩
          go_wp2_with (at_lookup; refine wpl_lookup_hit _ rfl _ _ 51 rfl 9 59 Try.underlying51 Try.underlying9 (hz _) mb s.l rfl (Hta.out _).2 key rfl _ Hl.out (.agg #[.string _, .string _, .bool _, .int .i64 _]) rfl ?_)
          refine bodyPost_ret (v := .tuple #[entVal ⟨em, em, em, false, 0⟩, .int .i64 19]) (by simp [results, Try.results32, go_sem, entVal]) rfl ⟨rfl, ?_⟩
          first | exact (Chg.refl _ _).alloc _ | exact ((Chg.refl _ _).alloc _).alloc _
  · have HR : Hid (busyS s key dig now = (atE s now, ⟨em, em, em, false, 0⟩)) := by show _ = _; simp [busyS, h0]
    rw [HR.out]
    have hb0 : ((atE s now) == 0) = false := by simpa using h0
    clear h0 HR
    go_enter Try.func32, Try.ntmps32
    go_wp2_with fail
    refine (at_any tb mb s now _ (Hta.out _)).mono ?_; rintro e w1 ⟨rfl, rfl⟩
    go_wp2_with fail
    refine bodyPost_ret (v := .tuple #[entVal ⟨em, em, em, false, 0⟩, .int .i64 (atE s now)]) (by simp [results, Try.results32, go_sem, entVal]) rfl ⟨rfl, ?_⟩
    first | exact (Chg.refl _ _).alloc _ | exact ((Chg.refl _ _).alloc _).alloc _

def finishS (s : St) (key dig res : ByteArray) (now : Int) : Int × St :=
  if idB key = false ∨ idB dig = false then (4, s)
  else if 4000 < res.size then (3, s)
  else if (busyS s key dig now).1 ≠ 0 then ((busyS s key dig now).1, s)
  else (0, { passS s now with l := putL Ent.key (passS s now).l ⟨key, (busyS s key dig now).2.dig, res, true, now + s.ttl⟩ })

def ErrPost (w : World) (tb mb : Nat) (r : Int × St) (e : Ending) (w' : World) : Prop :=
  e = .returned (.int .i64 r.1) ∧ TabIs w' tb mb r.2 ∧ Chg [tb, mb] w w'

theorem busy_key {s : St} {key dig : ByteArray} {now : Int} (h : (busyS s key dig now).1 = 0) : atE s now = 0 ∧ (busyS s key dig now).2.key = key := by
  unfold busyS at *
  by_cases h0 : atE s now = 0
  · rw [if_neg (by simp [h0])] at *
    refine ⟨h0, ?_⟩
    cases hl : lookL Ent.key s.l key with
    | none => rw [hl] at h; simp at h
    | some r =>
      rw [hl] at h
      have hk : r.key = key := by
        have := List.find?_some hl
        simpa using this
      simp only at h ⊢
      split at h
      · simp at h
      · split at h
        · simp at h
        · split at h
          · simp at h
          · rename_i a b c; rw [if_neg a, if_neg b, if_neg c]; exact hk
  · rw [if_pos h0] at h; exact absurd h h0

set_option maxHeartbeats 2000000 in
set_option maxRecDepth 100000 in
theorem finish_any (tb mb : Nat) (s : St) (key dig res : ByteArray) (now : Int) (w : World) (h : TabIs w tb mb s) (hok : s.ok) (hk : key.size ≤ maxLen) (hd : dig.size ≤ maxLen) (hrs : res.size ≤ maxLen) :
    Calls Try.prog 14 #[.pointer (some ⟨tb, 0, none⟩), .string key, .string dig, .string res, .int .i64 now] w (ErrPost w tb mb (finishS s key dig res now)) := by
  obtain ⟨o1, o2, o3, o4, o5, o6, o7⟩ := hok
  have H := Lib.hid h
  clear h
  unfold maxLen at hrs
  by_cases h1 : idB key = false
  · have HR : Hid (finishS s key dig res now = (4, s)) := by show _ = _; simp [finishS, h1]
    rw [HR.out]; clear HR
    go_enter Try.func14, Try.ntmps14
    go_wp2_with fail
    refine (made_yes tb mb s _ H.out).mono ?_; rintro e w' ⟨rfl, rfl⟩
    go_wp2_with fail
    refine (ID_any _ _ hk).mono ?_; rintro e w1 ⟨rfl, hb⟩
    go_wp2_with fail
    go_ret
    exact ⟨rfl, H.out.kept (Chg.ofBelow (S := []) hb) (by simp) (by simp), Chg.ofBelow hb⟩
  · have h1' : idB key = true := by simpa using h1
    by_cases h2 : idB dig = false
    · have HR : Hid (finishS s key dig res now = (4, s)) := by show _ = _; simp [finishS, h2]
      rw [HR.out]; clear HR h1
      go_enter Try.func14, Try.ntmps14
      go_wp2_with fail
      refine (made_yes tb mb s _ H.out).mono ?_; rintro e w' ⟨rfl, rfl⟩
      go_wp2_with fail
      refine (ID_any _ _ hk).mono ?_; rintro e w1 ⟨rfl, hb⟩
      go_wp2_with fail
      refine (ID_any _ _ hd).mono ?_; rintro e w2 ⟨rfl, hb2⟩
      go_wp2_with fail
      go_ret
      have hb' : Chg [] w w2 := (Chg.ofBelow (S := []) hb).thenSame (Chg.ofBelow hb2)
      exact ⟨rfl, H.out.kept hb' (by simp) (by simp), hb'.mono (by simp)⟩
    · have h2' : idB dig = true := by simpa using h2
      by_cases h3 : 4000 < res.size
      · have HR : Hid (finishS s key dig res now = (3, s)) := by show _ = _; simp [finishS, h1', h2', h3]
        rw [HR.out]; clear HR h1 h2
        go_enter Try.func14, Try.ntmps14
        go_wp2_with fail
        refine (made_yes tb mb s _ H.out).mono ?_; rintro e w' ⟨rfl, rfl⟩
        go_wp2_with fail
        refine (ID_any _ _ hk).mono ?_; rintro e w1 ⟨rfl, hb⟩
        go_wp2_with fail
        refine (ID_any _ _ hd).mono ?_; rintro e w2 ⟨rfl, hb2⟩
        go_wp2_with fail
        go_ret
        have hb' : Chg [] w w2 := (Chg.ofBelow (S := []) hb).thenSame (Chg.ofBelow hb2)
        exact ⟨rfl, H.out.kept hb' (by simp) (by simp), hb'.mono (by simp)⟩
      · by_cases h4 : (busyS s key dig now).1 = 0
        · obtain ⟨h0, hkk⟩ := busy_key h4
          obtain ⟨t0, t1, _⟩ := atE_zero h0
          have HR : Hid (finishS s key dig res now = (0, { passS s now with l := putL Ent.key (passS s now).l ⟨key, (busyS s key dig now).2.dig, res, true, now + s.ttl⟩ })) := by show _ = _; simp [finishS, h1', h2', h3, h4]
          rw [HR.out]; clear HR h1 h2
          have hbz := fun w' (hw : TabIs w' tb mb s) => busy_any tb mb s key dig now w' hw
          generalize busyS s key dig now = B at *
          obtain ⟨k, ⟨rk, rd, rr, rdn, rf⟩⟩ := B
          simp only at h4 hkk
          subst h4
          have Hbz := Lib.hid hbz
          clear hbz h0
          have hp := fun w' (hw : TabIs w' tb mb s) => pass_any tb mb s now w' hw
          have Hp := Lib.hid hp; clear hp hkk
          go_enter Try.func14, Try.ntmps14
          go_wp2_with fail
          refine (made_yes tb mb s _ H.out).mono ?_; rintro e w' ⟨rfl, rfl⟩
          go_wp2_with fail
          refine (ID_any _ _ hk).mono ?_; rintro e w1 ⟨rfl, hb⟩
          go_wp2_with fail
          refine (ID_any _ _ hd).mono ?_; rintro e w2 ⟨rfl, hb2⟩
          have hb' : Chg [] w w2 := (Chg.ofBelow (S := []) hb).thenSame (Chg.ofBelow hb2)
          go_wp2_with fail
          refine (Hbz.out _ (H.out.kept hb' (by simp) (by simp))).mono ?_
          rintro e w3 ⟨rfl, hb3⟩
          have hb3' := hb'.thenSame hb3
          have H3 := Lib.hid (H.out.kept hb3' (by simp) (by simp))
          have htl := lt_of_heap H3.out.1
          have hml := H3.out.2.lt
          unfold entVal
          go_wp2_with fail
          refine (Hp.out _ (H3.out.kept (S := []) ((Chg.refl _ _).alloc _) (by simp) (by simp))).mono ?_
          rintro e w5 ⟨rfl, ht5, hc5⟩
          have hch5 : Chg [tb, mb] w w5 := ((hb3'.alloc (.cells #[.string rd, .string rr, .bool rdn, .int .i64 rf] 59)).mono (T := [tb, mb]) (by simp)).thenSame hc5
          have hbr := hc5.at (b := w3.heap.size) (by simp; omega) (heap_alloc_new w3 _)
          have hk5 := blk_cell ht5.1
          have hkr := blk_cell hbr
          have hfr := blk_free hbr
          simp only [passS] at hk5
          have hsum : IntKind.i64.wrap (now + s.ttl) = now + s.ttl := IntWalk.i64_in _ (by omega)
          have hne : w3.heap.size ≠ tb := by omega
          go_wp2_with fail
          go_region
          go_wp2_with fail
          generalize hw6 : (((w5.setCell ⟨w3.heap.size, 2, none⟩ (.bool true)).setCell ⟨w3.heap.size, 1, none⟩ (.string res)).setCell ⟨w3.heap.size, 3, none⟩ (.int .i64 (now + s.ttl))).drew = w6
          have hb6 : w6.heap[w3.heap.size]? = some (.cells #[.string rd, .string res, .bool true, .int .i64 (now + s.ttl)] 59 (0, 0)) := by rw [← hw6]; exact blk_set (blk_set (blk_set hbr 2 _) 1 _) 3 _
          have hc6 : Chg [w3.heap.size] w5 w6 := by rw [← hw6]; exact ((((Chg.refl _ _).setCell _ _ (by simp)).setCell _ _ (by simp)).setCell _ _ (by simp)).drew
          have ht6 := ht5.kept hc6 (by simp; omega) (by simp; omega)
          have hch6 : Chg [tb, mb] w w6 := hch5.then hc6 (by intro x hx hlt; have := hb3'.size; simp at hx; omega)
          have hk6 := blk_cell ht6.1
          simp only [passS] at hk6
          have hkr6 := blk_cell hb6
          clear hk5 hkr hfr hbr hw6 hsum
          go_still_tail 6, (by kernel_rfl)
          change wpList _ _ _ _ _ w6.drew
          have ht7 : TabIs w6.drew tb mb (passS s now) := ht6.kept ((Chg.refl [] _).drew) (by simp) (by simp)
          refine wpl_store _ rfl _ _ _ 51 rfl 9 59 Try.underlying51 Try.underlying9 mb _ rfl ht7.2 ⟨key, rd, res, true, now + s.ttl⟩ rfl rfl ?_
          intro w8 hm8 hc8 hs8
          go_wp2
          go_ret
          exact ⟨rfl, ⟨hc8.at (by have := ht5.ne; simpa using this) ht7.1, hm8⟩, hch6.drew.then hc8 (by simp)⟩
        · have HR : Hid (finishS s key dig res now = ((busyS s key dig now).1, s)) := by show _ = _; simp [finishS, h1', h2', h3, h4]
          rw [HR.out]; clear HR h1 h2
          have hbz := fun w' (hw : TabIs w' tb mb s) => busy_any tb mb s key dig now w' hw
          generalize busyS s key dig now = B at *
          obtain ⟨k, r⟩ := B
          have Hbz := Lib.hid hbz
          have hkb : (k == 0) = false := by simpa using h4
          clear hbz h4
          go_enter Try.func14, Try.ntmps14
          go_wp2_with fail
          refine (made_yes tb mb s _ H.out).mono ?_; rintro e w' ⟨rfl, rfl⟩
          go_wp2_with fail
          refine (ID_any _ _ hk).mono ?_; rintro e w1 ⟨rfl, hb⟩
          go_wp2_with fail
          refine (ID_any _ _ hd).mono ?_; rintro e w2 ⟨rfl, hb2⟩
          have hb' : Chg [] w w2 := (Chg.ofBelow (S := []) hb).thenSame (Chg.ofBelow hb2)
          go_wp2_with fail
          refine (Hbz.out _ (H.out.kept hb' (by simp) (by simp))).mono ?_
          rintro e w3 ⟨rfl, hb3⟩
          have hb3' := hb'.thenSame hb3
          unfold entVal
          go_wp2_with fail
          go_ret
          exact ⟨rfl, H.out.kept (hb3'.alloc _) (by simp) (by simp), (hb3'.alloc _).mono (by simp)⟩

def abandonS (s : St) (key dig : ByteArray) (now : Int) : Int × St :=
  if idB key = false ∨ idB dig = false then (4, s)
  else if (busyS s key dig now).1 ≠ 0 then ((busyS s key dig now).1, s)
  else (0, { passS s now with l := delL Ent.key (passS s now).l key })

set_option maxHeartbeats 2000000 in
set_option maxRecDepth 100000 in
theorem abandon_any (tb mb : Nat) (s : St) (key dig : ByteArray) (now : Int) (w : World) (h : TabIs w tb mb s) (hk : key.size ≤ maxLen) (hd : dig.size ≤ maxLen) :
    Calls Try.prog 22 #[.pointer (some ⟨tb, 0, none⟩), .string key, .string dig, .int .i64 now] w (ErrPost w tb mb (abandonS s key dig now)) := by
  have H := Lib.hid h
  clear h
  by_cases h1 : idB key = false
  · have HR : Hid (abandonS s key dig now = (4, s)) := by show _ = _; simp [abandonS, h1]
    rw [HR.out]; clear HR
    go_enter Try.func22, Try.ntmps22
    go_wp2_with fail
    refine (made_yes tb mb s _ H.out).mono ?_; rintro e w' ⟨rfl, rfl⟩
    go_wp2_with fail
    refine (ID_any _ _ hk).mono ?_; rintro e w1 ⟨rfl, hb⟩
    go_wp2_with fail
    go_ret
    exact ⟨rfl, H.out.kept (Chg.ofBelow (S := []) hb) (by simp) (by simp), Chg.ofBelow hb⟩
  · have h1' : idB key = true := by simpa using h1
    by_cases h2 : idB dig = false
    · have HR : Hid (abandonS s key dig now = (4, s)) := by show _ = _; simp [abandonS, h2]
      rw [HR.out]; clear HR h1
      go_enter Try.func22, Try.ntmps22
      go_wp2_with fail
      refine (made_yes tb mb s _ H.out).mono ?_; rintro e w' ⟨rfl, rfl⟩
      go_wp2_with fail
      refine (ID_any _ _ hk).mono ?_; rintro e w1 ⟨rfl, hb⟩
      go_wp2_with fail
      refine (ID_any _ _ hd).mono ?_; rintro e w2 ⟨rfl, hb2⟩
      go_wp2_with fail
      go_ret
      have hb' : Chg [] w w2 := (Chg.ofBelow (S := []) hb).thenSame (Chg.ofBelow hb2)
      exact ⟨rfl, H.out.kept hb' (by simp) (by simp), hb'.mono (by simp)⟩
    · have h2' : idB dig = true := by simpa using h2
      have hbz := fun w' (hw : TabIs w' tb mb s) => busy_any tb mb s key dig now w' hw
      by_cases h4 : (busyS s key dig now).1 = 0
      · have HR : Hid (abandonS s key dig now = (0, { passS s now with l := delL Ent.key (passS s now).l key })) := by show _ = _; simp [abandonS, h1', h2', h4]
        rw [HR.out]; clear HR h1 h2
        generalize busyS s key dig now = B at *
        obtain ⟨k, ⟨rk, rd, rr, rdn, rf⟩⟩ := B
        simp only at h4
        subst h4
        have Hbz := Lib.hid hbz
        have hp := fun w' (hw : TabIs w' tb mb s) => pass_any tb mb s now w' hw
        have Hp := Lib.hid hp; clear hp hbz
        go_enter Try.func22, Try.ntmps22
        go_wp2_with fail
        refine (made_yes tb mb s _ H.out).mono ?_; rintro e w' ⟨rfl, rfl⟩
        go_wp2_with fail
        refine (ID_any _ _ hk).mono ?_; rintro e w1 ⟨rfl, hb⟩
        go_wp2_with fail
        refine (ID_any _ _ hd).mono ?_; rintro e w2 ⟨rfl, hb2⟩
        have hb' : Chg [] w w2 := (Chg.ofBelow (S := []) hb).thenSame (Chg.ofBelow hb2)
        go_wp2_with fail
        refine (Hbz.out _ (H.out.kept hb' (by simp) (by simp))).mono ?_
        rintro e w3 ⟨rfl, hb3⟩
        have hb3' := hb'.thenSame hb3
        have H3 := Lib.hid (H.out.kept hb3' (by simp) (by simp))
        unfold entVal
        go_wp2_with fail
        refine (Hp.out _ (H3.out.kept (S := []) ((Chg.refl _ _).alloc _) (by simp) (by simp))).mono ?_
        rintro e w5 ⟨rfl, ht5, hc5⟩
        have hch5 : Chg [tb, mb] w w5 := ((hb3'.alloc (.cells #[.string rd, .string rr, .bool rdn, .int .i64 rf] 59)).mono (T := [tb, mb]) (by simp)).thenSame hc5
        have hk5 := blk_cell ht5.1
        have Ht5 := Lib.hid ht5
        simp only [passS] at hk5
        go_wp2_with (at_delete; refine wpl_delete _ rfl _ _ 51 9 rfl 59 Try.underlying51 Try.underlying9 mb _ rfl Ht5.out.2 key rfl ?_; intro w8 hm8 hc8 hs8; go_frame)
        go_ret
        exact ⟨rfl, ⟨hc8.at (by have := Ht5.out.ne; simpa using this) Ht5.out.1, hm8⟩, hch5.then hc8 (by simp)⟩
      · have HR : Hid (abandonS s key dig now = ((busyS s key dig now).1, s)) := by show _ = _; simp [abandonS, h1', h2', h4]
        rw [HR.out]; clear HR h1 h2
        generalize busyS s key dig now = B at *
        obtain ⟨k, r⟩ := B
        have Hbz := Lib.hid hbz
        have hkb : (k == 0) = false := by simpa using h4
        clear hbz h4
        go_enter Try.func22, Try.ntmps22
        go_wp2_with fail
        refine (made_yes tb mb s _ H.out).mono ?_; rintro e w' ⟨rfl, rfl⟩
        go_wp2_with fail
        refine (ID_any _ _ hk).mono ?_; rintro e w1 ⟨rfl, hb⟩
        go_wp2_with fail
        refine (ID_any _ _ hd).mono ?_; rintro e w2 ⟨rfl, hb2⟩
        have hb' : Chg [] w w2 := (Chg.ofBelow (S := []) hb).thenSame (Chg.ofBelow hb2)
        go_wp2_with fail
        refine (Hbz.out _ (H.out.kept hb' (by simp) (by simp))).mono ?_
        rintro e w3 ⟨rfl, hb3⟩
        have hb3' := hb'.thenSame hb3
        unfold entVal
        go_wp2_with fail
        go_ret
        exact ⟨rfl, H.out.kept (hb3'.alloc _) (by simp) (by simp), (hb3'.alloc _).mono (by simp)⟩

def sweepS (s : St) (now : Int) : Int × St := if atE s now ≠ 0 then (0, s) else ((s.l.length : Int) - ((passS s now).l.length : Int), passS s now)

theorem sweep_any (tb mb : Nat) (s : St) (now : Int) (w : World) (h : TabIs w tb mb s) (hn : s.l.length ≤ 4096) :
    Calls Try.prog 15 #[.pointer (some ⟨tb, 0, none⟩), .int .i64 now] w (ErrPost w tb mb (sweepS s now)) := by
  have H := Lib.hid h
  have hc := blk_cell h.1
  clear h
  by_cases h0 : atE s now = 0
  · have HR : Hid (sweepS s now = ((s.l.length : Int) - ((passS s now).l.length : Int), passS s now)) := by show _ = _; simp [sweepS, h0]
    rw [HR.out]; clear HR
    have H0 := Lib.hid h0; clear h0
    have hle : (passS s now).l.length ≤ s.l.length := List.length_filter_le _ _
    have hp := fun w' (hw : TabIs w' tb mb s) => pass_any tb mb s now w' hw
    have Hp := Lib.hid hp; clear hp
    have hpr : (passS s now).room = s.room ∧ (passS s now).ttl = s.ttl := ⟨rfl, rfl⟩
    generalize passS s now = s' at *
    go_enter Try.func15, Try.ntmps15
    go_wp2_with fail
    refine (made_yes tb mb s _ H.out).mono ?_; rintro e w' ⟨rfl, rfl⟩
    go_wp2_with fail
    refine (at_zero tb mb s now _ H.out H0.out).mono ?_; rintro e w1 ⟨rfl, rfl⟩
    go_wp2_with (at_len; refine wpl_len _ rfl _ 51 rfl 9 59 Try.underlying51 mb s.l rfl H.out.2 ?_)
    refine (Hp.out _ H.out).mono ?_
    rintro e w5 ⟨rfl, ht5, hc5⟩
    have hk5 := blk_cell ht5.1
    have Ht5 := Lib.hid ht5
    clear hpr ht5
    go_wp2_with (at_len; refine wpl_len _ rfl _ 51 rfl 9 59 Try.underlying51 mb s'.l rfl Ht5.out.2 ?_)
    go_ret
    exact ⟨rfl, Ht5.out, hc5⟩
  · have HR : Hid (sweepS s now = (0, s)) := by show _ = _; simp [sweepS, h0]
    rw [HR.out]; clear HR
    have hb0 : ((atE s now) == 0) = false := by simpa using h0
    clear h0
    go_enter Try.func15, Try.ntmps15
    go_wp2_with fail
    refine (made_yes tb mb s _ H.out).mono ?_; rintro e w' ⟨rfl, rfl⟩
    go_wp2_with fail
    refine (at_any tb mb s now _ H.out).mono ?_; rintro e w1 ⟨rfl, rfl⟩
    go_wp2_with fail
    go_ret
    exact ⟨rfl, H.out, Chg.refl _ _⟩

theorem len_any (tb mb : Nat) (s : St) (w : World) (h : TabIs w tb mb s) :
    Calls Try.prog 17 #[.pointer (some ⟨tb, 0, none⟩)] w fun e w' => e = .returned (.int .i64 (s.l.length : Int)) ∧ w = w' := by
  have H := Lib.hid h
  have hc := blk_cell h.1
  clear h
  go_enter Try.func17, Try.ntmps17
  go_wp2_with fail
  refine (made_yes tb mb s _ H.out).mono ?_; rintro e w' ⟨rfl, rfl⟩
  go_wp2_with (at_len; refine wpl_len _ rfl _ 51 rfl 9 59 Try.underlying51 mb s.l rfl H.out.2 ?_)
  go_ret
  exact ⟨rfl, rfl⟩
end Go.Proofs.Ytkbblkhkadcpcaa
