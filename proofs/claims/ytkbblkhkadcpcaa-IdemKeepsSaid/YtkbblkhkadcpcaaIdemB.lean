/- Chapter 27: contracts of the program's table: New, the check of a time, living, pass. No condition. -/
import Derived.Test.YtkbblkhkadcpcaaIdemA
namespace Go.Proofs.Ytkbblkhkadcpcaa
open Go.RowKit

/-- A record, with its key; fin is its end. -/
structure Ent where
  key : ByteArray
  dig : ByteArray
  res : ByteArray
  done : Bool
  fin : Int

def entVal (x : Ent) : Value := .agg #[.string x.dig, .string x.res, .bool x.done, .int .i64 x.fin]

structure St where
  room : Int
  ttl : Int
  now : Int
  l : List Ent

/-- The table at block tb, its map at block mb. -/
def TabIs (w : World) (tb mb : Nat) (s : St) : Prop :=
  w.heap[tb]? = some (.cells #[.int .i64 s.room, .int .i64 s.ttl, .int .i64 s.now, .map (some mb)] 53 (0, 0)) ∧ MapIs Ent.key entVal w mb s.l

def St.ok (s : St) : Prop := 1 ≤ s.room ∧ s.room ≤ 256 ∧ 1 ≤ s.ttl ∧ s.ttl ≤ 1073741824 ∧ 0 ≤ s.now ∧ s.now ≤ 1073741824 ∧ s.l.length ≤ s.room

theorem TabIs.ne {w : World} {tb mb : Nat} {s : St} (h : TabIs w tb mb s) : tb ≠ mb := by
  obtain ⟨h1, es, c, h2, _⟩ := h
  intro e; rw [e, h2] at h1; cases h1
theorem TabIs.kept {w w' : World} {tb mb : Nat} {s : St} {S : List Nat} (h : TabIs w tb mb s) (hc : Chg S w w') (h1 : tb ∉ S) (h2 : mb ∉ S) : TabIs w' tb mb s :=
  ⟨hc.at h1 h.1, h.2.kept hc h2⟩

def live (now : Int) (x : Ent) : Bool := decide (now < x.fin)
def atE (s : St) (now : Int) : Int := if now < 0 ∨ 1073741824 < now then 2 else if now < s.now then 11 else 0
def passS (s : St) (now : Int) : St := { s with now := now, l := s.l.filter (live now) }

theorem zeroRec (w : World) : (zeroValue 59).run Try.prog w = .ok (.agg #[.string ⟨#[]⟩, .string ⟨#[]⟩, .bool false, .int .i64 0]) w := by kernel_rfl

theorem made_yes (tb mb : Nat) (s : St) (w : World) (h : TabIs w tb mb s) : Calls Try.prog 23 #[.pointer (some ⟨tb, 0, none⟩)] w fun e w' => e = .returned (.bool true) ∧ w = w' := by
  have hc := blk_cell h.1
  clear h
  have hm := fun w => run_neq_map_nil (P := Try.prog) w 51 9 59 (some mb) Try.underlying51
  go_enter Try.func23, Try.ntmps23
  go_wp2
  go_ret
  exact ⟨rfl, rfl⟩

theorem at_any (tb mb : Nat) (s : St) (now : Int) (w : World) (h : TabIs w tb mb s) : Calls Try.prog 25 #[.pointer (some ⟨tb, 0, none⟩), .int .i64 now] w fun e w' => e = .returned (.int .i64 (atE s now)) ∧ w = w' := by
  have hc := blk_cell h.1
  clear h
  by_cases h1 : now < 0
  · go_enter Try.func25, Try.ntmps25
    go_wp2
    go_ret
    exact ⟨retI (by simp [atE, h1]), rfl⟩
  · by_cases h2 : 1073741824 < now
    · go_enter Try.func25, Try.ntmps25
      go_wp2
      go_ret
      exact ⟨retI (by simp [atE, h2]), rfl⟩
    · by_cases h3 : now < s.now
      · go_enter Try.func25, Try.ntmps25
        go_wp2
        go_ret
        exact ⟨retI (by rw [atE, if_neg (by omega), if_pos h3]), rfl⟩
      · go_enter Try.func25, Try.ntmps25
        go_wp2
        go_ret
        exact ⟨retI (by rw [atE, if_neg (by omega), if_neg (by omega)]), rfl⟩

theorem new_bad (room ttl : Int) (w : World) (h : room < 1 ∨ 256 < room ∨ ttl < 1 ∨ 1073741824 < ttl) : Calls Try.prog 8 #[.int .i64 room, .int .i64 ttl] w fun e w' => e = .returned (.tuple #[.pointer none, .int .i64 2]) ∧ w = w' := by
  by_cases h1 : room < 1
  · go_enter Try.func8, Try.ntmps8
    go_wp2
    go_ret2
    exact ⟨rfl, rfl⟩
  · by_cases h2 : 256 < room
    · go_enter Try.func8, Try.ntmps8
      go_wp2
      go_ret2
      exact ⟨rfl, rfl⟩
    · by_cases h3 : ttl < 1
      · go_enter Try.func8, Try.ntmps8
        go_wp2
        go_ret2
        exact ⟨rfl, rfl⟩
      · have h4 : 1073741824 < ttl := by omega
        go_enter Try.func8, Try.ntmps8
        go_wp2
        go_ret2
        exact ⟨rfl, rfl⟩

theorem new_ok (room ttl : Int) (w : World) (h1 : 1 ≤ room) (h2 : room ≤ 256) (h3 : 1 ≤ ttl) (h4 : ttl ≤ 1073741824) : Calls Try.prog 8 #[.int .i64 room, .int .i64 ttl] w fun e w' =>
    ∃ tb mb, e = .returned (.tuple #[.pointer (some ⟨tb, 0, none⟩), .int .i64 0]) ∧ TabIs w' tb mb ⟨room, ttl, 0, []⟩ ∧ w.heap.size ≤ tb ∧ w.heap.size ≤ mb ∧ Chg [] w w' := by
  have hmm := @run_makeMap Try.prog
  go_enter Try.func8, Try.ntmps8
  go_wp2
  go_ret2
  have e1 : (w.alloc (.map #[] 0)).heap.size = w.heap.size + 1 := by simp
  refine ⟨w.heap.size + 1, w.heap.size, rfl, ⟨by rw [← e1]; exact heap_alloc_new _ _, ?_⟩, by omega, by omega, ((Chg.refl _ _).alloc _).alloc _⟩
  exact (mapIs_new w).same (heap_alloc_old _ _ (by simp))

theorem count_del {l : List Ent} {x : Ent} (p : Ent → Bool) (hd : (l.map Ent.key).Nodup) (hx : x ∈ l) : l.countP p = (delL Ent.key l x.key).countP p + if p x then 1 else 0 := by
  unfold delL
  induction l with
  | nil => cases hx
  | cons y l ih =>
    simp only [List.map_cons, List.nodup_cons] at hd
    rcases List.mem_cons.1 hx with rfl | hx'
    · have : l.filter (fun z => z.key != x.key) = l := List.filter_eq_self.2 fun a ha => by
        have : a.key ≠ x.key := fun e => hd.1 (by rw [← e]; exact List.mem_map.2 ⟨a, ha, rfl⟩)
        simpa using this
      simp [this, List.countP_cons]
    · have hne : y.key ≠ x.key := fun e => hd.1 (by rw [e]; exact List.mem_map.2 ⟨x, hx', rfl⟩)
      have hb : (y.key != x.key) = true := by simpa using hne
      rw [List.countP_cons, List.filter_cons, if_pos hb, List.countP_cons, ih hd.2 hx']
      omega

set_option maxHeartbeats 800000 in
theorem living_any (tb mb : Nat) (s : St) (now : Int) (w : World) (h : TabIs w tb mb s) (hl : s.l.length ≤ 4096) : Calls Try.prog 26 #[.pointer (some ⟨tb, 0, none⟩), .int .i64 now] w fun e w' =>
    e = .returned (.int .i64 ((s.l.countP (live now) : Nat) : Int)) ∧ Chg [] w w' := by
  have hc := blk_cell h.1
  have Hm := h.2
  have hlt := Hm.lt
  have hltt := lt_of_heap h.1
  clear h
  have Hd := Hm.nodup
  have hcnt : s.l.countP (live now) ≤ s.l.length := List.countP_le_length
  have hz := zeroRec
  go_enter Try.func26, Try.ntmps26
  go_wp2_with (first | (at_range; refine wpl_range _ rfl _ 51 rfl 9 59 Try.underlying51 mb s.l rfl Hm ?_; intro w0 hit0 hc0 hs0) | go_in)
  go_frame
  go_loopw [5] (fun n wr => ∃ (k : Nat) (todo : List Ent), n = .int .i64 k ∧ k + todo.countP (live now) = s.l.countP (live now) ∧ IterIs Ent.key entVal wr mb w.heap.size s.l todo ∧ Chg [] w wr) (fun _ wr => wr.rangeLeft mb w.heap.size)
  case atStart => exact ⟨0, s.l, rfl, by omega, hit0, hc0⟩
  case round =>
    obtain ⟨k, todo, rfl, hk, hit, hch⟩ := hrel
    go_wp2_with (first | (at_next; refine wpl_next _ rfl _ rfl mb w.heap.size s.l todo rfl hit ?_ ?_) | go_in)
    · intro h0
      go_wp2
      go_ret
      subst h0
      exact ⟨retI (by simp at hk; omega), hch⟩
    · intro x w1 hx hit1 hch1 hs1 hen
      have hcd := count_del (live now) (List.Nodup.sublist (List.Sublist.map _ hit.sub) Hd) hx
      have Hcd := Lib.hid hcd; clear hcd
      have Hk := Lib.hid hk
      have hkb : k ≤ 4096 := by omega
      have Hleft := Lib.hid hit.left
      have Hlen : Hid ((delL Ent.key todo x.key).length < todo.length) := by
        have := count_del (fun _ => true) (List.Nodup.sublist (List.Sublist.map _ hit.sub) Hd) hx
        simp at this; show _ < _; omega
      clear hk hc hc0 hit0
      unfold entVal at hen
      go_wp2
      all_goals
        have hit2 := fun o => hit1.kept ((Chg.refl [] w1).alloc o) (by simp) (by simp)
        have hch2 : Chg [] w w1 := hch.then hch1 (by intro y hy hlt; simp at hy; omega)
        have hk := Hk.out
        have hcd := Hcd.out
      · have hlv : live now x = true := by simpa [live] using (by assumption : now < x.fin)
        refine ⟨⟨k + 1, _, by go_num, ?_, hit2 _, hch2.alloc _⟩, by rw [(hit2 _).left, Hleft.out]; exact Hlen.out⟩
        simp [hlv] at hcd; omega
      · have hlv : live now x = false := by simpa [live] using (by assumption : x.fin ≤ now)
        refine ⟨⟨k, _, by go_num, ?_, hit2 _, hch2.alloc _⟩, by rw [(hit2 _).left, Hleft.out]; exact Hlen.out⟩
        simp [hlv] at hcd; omega

theorem pass_filter {l : List Ent} {todo : List Ent} {x : Ent} (now : Int) (hd : (l.map Ent.key).Nodup) (hsl : todo.Sublist l) (hx : x ∈ todo) :
    (live now x = true → (l.filter fun y => live now y || todo.any fun z => z.key == y.key) = l.filter fun y => live now y || (delL Ent.key todo x.key).any fun z => z.key == y.key) ∧
    (live now x = false → delL Ent.key (l.filter fun y => live now y || todo.any fun z => z.key == y.key) x.key = l.filter fun y => live now y || (delL Ent.key todo x.key).any fun z => z.key == y.key) := by
  have hxl : x ∈ l := hsl.subset hx
  have hkey : ∀ y ∈ l, y.key = x.key → y = x := by
    intro y hy e
    obtain ⟨i, hi, rfl⟩ := List.mem_iff_getElem.1 hy
    obtain ⟨j, hj, rfl⟩ := List.mem_iff_getElem.1 hxl
    have := nodup_at (kf := Ent.key) hd (List.getElem?_eq_getElem hi) (List.getElem?_eq_getElem hj) e
    subst this; rfl
  have hother : ∀ y : Ent, y.key ≠ x.key → ((delL Ent.key todo x.key).any fun z => z.key == y.key) = todo.any fun z => z.key == y.key := by
    intro y hne
    unfold delL
    rw [List.any_filter, Bool.eq_iff_iff]
    simp only [List.any_eq_true, Bool.and_eq_true, bne_iff_ne, beq_iff_eq]
    constructor
    · rintro ⟨z, hz, _, e⟩; exact ⟨z, hz, e⟩
    · rintro ⟨z, hz, e⟩; exact ⟨z, hz, by rw [e]; exact hne, e⟩
  have hsame : ((delL Ent.key todo x.key).any fun z => z.key == x.key) = false := by
    unfold delL
    rw [List.any_eq_false]
    intro z hz
    have := (List.mem_filter.1 hz).2
    simp only [bne_iff_ne] at this
    simpa using this
  constructor
  · intro hlv
    refine List.filter_congr fun y hy => ?_
    by_cases e : y.key = x.key
    · rw [hkey y hy e, hlv]; simp
    · rw [hother y e]
  · intro hlv
    unfold delL
    rw [List.filter_filter]
    refine List.filter_congr fun y hy => ?_
    by_cases e : y.key = x.key
    · have h2 := hsame
      unfold delL at h2
      rw [hkey y hy e, hlv, h2]; simp
    · have h2 := hother y e
      unfold delL at h2
      rw [h2]
      have : (y.key != x.key) = true := by simpa using e
      rw [this]; simp

set_option maxHeartbeats 800000 in
theorem pass_any (tb mb : Nat) (s : St) (now : Int) (w : World) (h : TabIs w tb mb s) : Calls Try.prog 27 #[.pointer (some ⟨tb, 0, none⟩), .int .i64 now] w fun e w' =>
    e = .returned (.tuple #[]) ∧ TabIs w' tb mb (passS s now) ∧ Chg [tb, mb] w w' := by
  have hne := h.ne
  have hc := blk_cell h.1
  have hf := blk_free h.1
  have Hb : Hid (w.heap[tb]? = _) := h.1
  have Hm := h.2
  have hlt := Hm.lt
  have hltt := lt_of_heap h.1
  clear h
  have Hd := Hm.nodup
  have hz := zeroRec
  go_enter Try.func27, Try.ntmps27
  go_wp2_with (first | (at_range; refine wpl_range _ rfl _ 51 rfl 9 59 Try.underlying51 mb s.l rfl (Hm.same (blk_set_ne _ _ hne.symm)) ?_; intro w0 hit0 hc0 hs0) | go_in)
  go_frame
  have e0 : (w.setCell ⟨tb, 2, none⟩ (.int .i64 now)).heap.size = w.heap.size := by simp [World.setCell]
  rw [e0] at hit0 hs0 ⊢
  have hw0 : Chg [tb, mb] w w0 := ((Chg.refl [tb, mb] w).setCell ⟨tb, 2, none⟩ _ (by simp)).then hc0 (by simp)
  have hb0 : w0.heap[tb]? = some (.cells #[.int .i64 s.room, .int .i64 s.ttl, .int .i64 now, .map (some mb)] 53 (0, 0)) := hc0.at (by simp) (blk_set Hb.out 2 _)
  clear hc hf hc0
  go_loopw [4] (fun _ wr => ∃ (todo : List Ent), IterIs Ent.key entVal wr mb w.heap.size (s.l.filter fun y => live now y || todo.any fun z => z.key == y.key) todo ∧ todo.Sublist s.l ∧ Chg [tb, mb] w wr ∧ wr.heap[tb]? = some (.cells #[.int .i64 s.room, .int .i64 s.ttl, .int .i64 now, .map (some mb)] 53 (0, 0))) (fun _ wr => wr.rangeLeft mb w.heap.size)
  case atStart =>
    refine ⟨s.l, ?_, List.Sublist.refl _, hw0, hb0⟩
    have : (s.l.filter fun y => live now y || s.l.any fun z => z.key == y.key) = s.l := List.filter_eq_self.2 fun y hy => by
      simp only [Bool.or_eq_true, List.any_eq_true, beq_iff_eq]; exact .inr ⟨y, hy, rfl⟩
    rw [this]; exact hit0
  case round =>
    obtain ⟨todo, hit, hsl, hch, hb⟩ := hrel
    go_wp2_with (first | (at_next; refine wpl_next _ rfl _ rfl mb w.heap.size _ todo rfl hit ?_ ?_) | go_in)
    · intro h0
      go_wp2
      go_end0
      subst h0
      refine ⟨rfl, ⟨hb, ?_⟩, hch⟩
      have := hit.map
      simpa [passS] using this
    · intro x w1 hx hit1 hch1 hs1 hen
      have Hpf := Lib.hid (pass_filter now Hd hsl hx)
      have Hleft := Lib.hid hit.left
      have Hlen : Hid ((delL Ent.key todo x.key).length < todo.length) := by
        have := count_del (fun _ => true) (List.Nodup.sublist (List.Sublist.map _ hsl) Hd) hx
        simp at this; show _ < _; omega
      have hlr := hit.lt
      have hchw1 : Chg [tb, mb] w w1 := hch.then hch1 (by intro y hy hlt; simp at hy; omega)
      have hbw1 := hch1.at (b := tb) (by simp; omega) hb
      have hcw1 := blk_cell hbw1
      have hss : w.heap.size < w1.heap.size := by rw [hs1]; exact hlr
      have Hs1 := Lib.hid hs1
      have htw1 : tb < w1.heap.size := by omega
      have Hit0 := Lib.hid hit
      clear hw0 hb0 hit0 hs0 hit hch hb hs1
      unfold entVal at hen
      have Hita : Hid (∀ o, IterIs Ent.key entVal (w1.alloc o) mb w.heap.size (s.l.filter fun y => live now y || todo.any fun z => z.key == y.key) (delL Ent.key todo x.key)) := fun o => hit1.kept ((Chg.refl [] w1).alloc o) (by simp) (by simp)
      have Hdd : Hid (delL Ent.key (delL Ent.key todo x.key) x.key = delL Ent.key todo x.key) := by
        show _ = _; unfold delL; rw [List.filter_filter]; exact List.filter_congr fun _ _ => Bool.and_self _
      by_cases hlv : x.fin ≤ now
      · go_wp2_with (first | (at_delete; refine wpl_delete_iter _ rfl _ _ 51 9 rfl 59 Try.underlying51 Try.underlying9 mb w.heap.size _ _ rfl (Hita.out _) x.key rfl ?_; intro w2 hit2 hch2 hs2; go_frame) | go_in)
        have hlv' : live now x = false := by simpa [live] using hlv
        rw [Hdd.out, Hpf.out.2 hlv'] at hit2
        have hchw2 := (hchw1.alloc (.cells #[.string x.dig, .string x.res, .bool x.done, .int .i64 x.fin] 59)).then hch2 (by simp)
        go_roundw
        case rel => exact ⟨_, hit2, List.filter_sublist.trans hsl, hchw2, hch2.at (by simpa using hne) (blk_alloc hbw1)⟩
        case measure => rw [hit2.left, Hleft.out]; exact Hlen.out
      · go_wp2
        have hlv' : live now x = true := by simp [live]; omega
        have hit2 := Hita.out (.cells #[.string x.dig, .string x.res, .bool x.done, .int .i64 x.fin] 59)
        rw [Hpf.out.1 hlv'] at hit2
        go_roundw
        case rel => exact ⟨_, hit2, List.filter_sublist.trans hsl, hchw1.alloc _, blk_alloc hbw1⟩
        case measure => rw [hit2.left, Hleft.out]; exact Hlen.out
end Go.Proofs.Ytkbblkhkadcpcaa
