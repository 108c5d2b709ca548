/- Chapter 27: contracts of the reference's table. No condition. -/
import Derived.Test.YtkbblkhkadcpcaaIdemD
namespace Go.Proofs.Ytkbblkhkadcpcaa
open Go.RowKit

theorem setsize (w : World) (a : Addr) (v : Value) : (w.setCell a v).heap.size = w.heap.size := by simp [World.setCell]

structure REnt where
  key : ByteArray
  dig : ByteArray
  res : ByteArray
  done : Bool
  frm : Int

def rCells (x : REnt) : List Value := [.string x.key, .string x.dig, .string x.res, .bool x.done, .int .i64 x.frm]

structure RSt where
  room : Int
  ttl : Int
  time : Int
  l : List REnt

theorem rLen (x : REnt) : (rCells x).length = 5 := rfl
theorem rOne (x : REnt) : ∀ u ∈ rCells x, u.oneCell' = true := by
  intro u hu; simp only [rCells, List.mem_cons, List.not_mem_nil, or_false] at hu
  rcases hu with rfl | rfl | rfl | rfl | rfl <;> rfl

/-- The slice value sv holds the records l (nil, or a row of its own). -/
def RowIs (w : World) (sv : Value) (l : List REnt) : Prop := RowOf rCells 5 w 0 70 sv l

/-- The reference's table at block rb; its row lies outside F. -/
def RTabIs (w : World) (rb : Nat) (F : List Nat) (s : RSt) : Prop :=
  rb ∉ F ∧ ∃ sv, w.heap[rb]? = some (.cells #[.int .i64 s.room, .int .i64 s.ttl, .int .i64 s.time, sv] 66 (0, 0)) ∧ RowIs w sv s.l ∧ ∀ g, sv.ownBlock = some g → g ∉ F ∧ g ≠ rb

theorem RowIs.kept {w w' : World} {sv : Value} {l : List REnt} {S : List Nat} (h : RowIs w sv l) (hc : Chg S w w') (hn : ∀ g, sv.ownBlock = some g → g ∉ S) : RowIs w' sv l := RowOf.kept h hc hn

theorem RTabIs.kept {w w' : World} {rb : Nat} {F : List Nat} {s : RSt} {S : List Nat} (h : RTabIs w rb F s) (hc : Chg S w w') (hS : ∀ x ∈ S, x ∈ F) : RTabIs w' rb F s := by
  obtain ⟨h1, sv, h2, h3, h4⟩ := h
  exact ⟨h1, sv, hc.at (fun e => h1 (hS _ e)) h2, h3.kept hc (fun g hg e => (h4 g hg).1 (hS _ e)), h4⟩

def RSt.ok (s : RSt) : Prop := 1 ≤ s.room ∧ s.room ≤ 256 ∧ 1 ≤ s.ttl ∧ s.ttl ≤ 1073741824 ∧ 0 ≤ s.time ∧ s.time ≤ 1073741824 ∧ s.l.length ≤ 4096 ∧ ∀ x ∈ s.l, 0 ≤ x.frm ∧ x.frm ≤ 1073741824

def rlive (ttl now : Int) (x : REnt) : Bool := decide (now < x.frm + ttl)
def clockE (s : RSt) (now : Int) : Int := if now < 0 ∨ 1073741824 < now then 2 else if now < s.time then 11 else 0
def namesE (key dig : ByteArray) : Int := if idB key = false ∨ idB dig = false then 4 else 0

theorem names_any (key dig : ByteArray) (w : World) (hk : key.size ≤ maxLen) (hd : dig.size ≤ maxLen) : Calls Try.prog 37 #[.string key, .string dig] w fun e w' => e = .returned (.int .i64 (namesE key dig)) ∧ w = w' := by
  cases h1 : idB key
  · have HR : Hid (namesE key dig = 4) := by show _ = _; simp [namesE, h1]
    rw [HR.out]; clear HR
    have c1 := RID_any key w hk
    rw [h1] at c1
    have C1 := Lib.hid c1; clear c1 h1
    go_enter Try.func37, Try.ntmps37
    go_wp2_with fail
    refine C1.out.mono ?_; rintro e w1 ⟨rfl, rfl⟩
    go_wp2_with fail
    go_ret
    exact ⟨rfl, rfl⟩
  · have c1 := RID_any key w hk
    rw [h1] at c1
    have C1 := Lib.hid c1; clear c1
    have c2 := RID_any dig w hd
    by_cases h2 : idB dig = false
    · have HR : Hid (namesE key dig = 4) := by show _ = _; simp [namesE, h2]
      rw [HR.out]; clear HR h1
      rw [h2] at c2
      have C2 := Lib.hid c2; clear c2 h2
      go_enter Try.func37, Try.ntmps37
      go_wp2_with fail
      refine C1.out.mono ?_; rintro e w1 ⟨rfl, rfl⟩
      go_wp2_with fail
      refine C2.out.mono ?_; rintro e w1 ⟨rfl, rfl⟩
      go_wp2_with fail
      go_ret
      exact ⟨rfl, rfl⟩
    · have h2' : idB dig = true := by simpa using h2
      have HR : Hid (namesE key dig = 0) := by show _ = _; simp [namesE, h1, h2']
      rw [HR.out]; clear HR h1 h2
      rw [h2'] at c2
      have C2 := Lib.hid c2; clear c2 h2'
      go_enter Try.func37, Try.ntmps37
      go_wp2_with fail
      refine C1.out.mono ?_; rintro e w1 ⟨rfl, rfl⟩
      go_wp2_with fail
      refine C2.out.mono ?_; rintro e w1 ⟨rfl, rfl⟩
      go_wp2_with fail
      go_ret
      exact ⟨rfl, rfl⟩

theorem clock_any (rb : Nat) (s : RSt) (now : Int) (w : World) {sv : Value} (h : w.heap[rb]? = some (.cells #[.int .i64 s.room, .int .i64 s.ttl, .int .i64 s.time, sv] 66 (0, 0))) : Calls Try.prog 38 #[.pointer (some ⟨rb, 0, none⟩), .int .i64 now] w fun e w' => e = .returned (.int .i64 (clockE s now)) ∧ w = w' := by
  have hc := blk_cell h
  clear h
  by_cases h1 : now < 0
  · go_enter Try.func38, Try.ntmps38
    go_wp2
    go_ret
    exact ⟨retI (by simp [clockE, h1]), rfl⟩
  · by_cases h2 : 1073741824 < now
    · go_enter Try.func38, Try.ntmps38
      go_wp2
      go_ret
      exact ⟨retI (by simp [clockE, h2]), rfl⟩
    · by_cases h3 : now < s.time
      · go_enter Try.func38, Try.ntmps38
        go_wp2
        go_ret
        exact ⟨retI (by rw [clockE, if_neg (by omega), if_pos h3]), rfl⟩
      · go_enter Try.func38, Try.ntmps38
        go_wp2
        go_ret
        exact ⟨retI (by rw [clockE, if_neg (by omega), if_neg (by omega)]), rfl⟩

theorem rnew_ok (room ttl : Int) (F : List Nat) (w : World) (hF : ∀ x ∈ F, x < w.heap.size) (h1 : 1 ≤ room) (h2 : room ≤ 256) (h3 : 1 ≤ ttl) (h4 : ttl ≤ 1073741824) : Calls Try.prog 16 #[.int .i64 room, .int .i64 ttl] w fun e w' =>
    ∃ rb, e = .returned (.tuple #[.pointer (some ⟨rb, 0, none⟩), .int .i64 0]) ∧ RTabIs w' rb F ⟨room, ttl, 0, []⟩ ∧ w.heap.size ≤ rb ∧ Chg [] w w' := by
  go_enter Try.func16, Try.ntmps16
  go_wp2
  go_ret2
  refine ⟨w.heap.size, rfl, ⟨fun e => Nat.lt_irrefl _ (hF _ e), .slice none 0 0, heap_alloc_new _ _, World.ownsRow_nil _ _ _ _, by intro g hg; cases hg⟩, Nat.le_refl _, (Chg.refl _ _).alloc _⟩

theorem rnew_bad (room ttl : Int) (w : World) (h : room < 1 ∨ 256 < room ∨ ttl < 1 ∨ 1073741824 < ttl) : Calls Try.prog 16 #[.int .i64 room, .int .i64 ttl] w fun e w' => e = .returned (.tuple #[.pointer (some ⟨w.heap.size, 0, none⟩), .int .i64 2]) ∧ Chg [] w w' := by
  by_cases h1 : room < 1
  · go_enter Try.func16, Try.ntmps16
    go_wp2
    go_ret2
    exact ⟨rfl, (Chg.refl _ _).alloc _⟩
  · by_cases h2 : 256 < room
    · go_enter Try.func16, Try.ntmps16
      go_wp2
      go_ret2
      exact ⟨rfl, (Chg.refl _ _).alloc _⟩
    · by_cases h3 : ttl < 1
      · go_enter Try.func16, Try.ntmps16
        go_wp2
        go_ret2
        exact ⟨rfl, (Chg.refl _ _).alloc _⟩
      · have h4 : 1073741824 < ttl := by omega
        go_enter Try.func16, Try.ntmps16
        go_wp2
        go_ret2
        exact ⟨rfl, (Chg.refl _ _).alloc _⟩

/-- A row that is not empty: where it lies, and its cells. -/
theorem RowIs.at {w : World} {sv : Value} {l : List REnt} (h : RowIs w sv l) : (sv = .slice none 0 0 ∧ l = []) ∨ ∃ g cap, sv = .slice (some ⟨g, 0, none⟩) l.length cap ∧ l.length ≤ cap ∧ cap ≤ maxLen ∧ (∀ k (hk : k < l.length) j, j < 5 → w.cell? ⟨g, k * 5 + j, none⟩ = (rCells l[k])[j]?) ∧ (∀ i, w.frozen? ⟨g, i, none⟩ = false) ∧ g < w.heap.size := by
  rcases RowOf.at h rLen with h1 | ⟨g, cap, a, b, c, d, e, _, f⟩
  · exact .inl h1
  · exact .inr ⟨g, cap, a, b, c, d, e, f⟩

def findE (l : List REnt) (key : ByteArray) : Int := match l.findIdx? (fun x => x.key == key) with | some i => (i : Int) | none => -1

theorem findE_hit {l : List REnt} {key : ByteArray} {k : Nat} (hk : k < l.length) (h : (l.take k).all (fun x => !(x.key == key)) = true) (he : l[k].key = key) : findE l key = (k : Int) := by
  have : l.findIdx? (fun x => x.key == key) = some k := by
    rw [List.findIdx?_eq_some_iff_getElem]
    refine ⟨hk, by simpa using he, fun j hj => ?_⟩
    have := List.all_eq_true.1 h l[j] (by rw [List.mem_take_iff_getElem]; exact ⟨j, by omega, rfl⟩)
    simpa using this
  simp [findE, this]

theorem findE_miss {l : List REnt} {key : ByteArray} (h : l.all (fun x => !(x.key == key)) = true) : findE l key = -1 := by
  have : l.findIdx? (fun x => x.key == key) = none := by
    rw [List.findIdx?_eq_none_iff]
    intro x hx
    have := List.all_eq_true.1 h x hx
    simpa using this
  simp [findE, this]

theorem find_any (sv : Value) (l : List REnt) (key : ByteArray) (w : World) (h : RowIs w sv l) (hn : l.length ≤ 4096) : Calls Try.prog 39 #[sv, .string key] w fun e w' => e = .returned (.int .i64 (findE l key)) ∧ w = w' := by
  have main : ∀ (a : Option Addr) (cap : Nat), (∀ k (hk : k < l.length), ∃ g, a = some ⟨g, 0, none⟩ ∧ ∀ j, j < 5 → w.cell? ⟨g, k * 5 + j, none⟩ = (rCells l[k])[j]?) → Calls Try.prog 39 #[.slice a l.length cap, .string key] w fun e w' => e = .returned (.int .i64 (findE l key)) ∧ w = w' := by
    intro a cap hcell
    have Hcell := Lib.hid hcell
    clear hcell h
    obtain ⟨R, hR⟩ : ∃ R, R = findE l key := ⟨_, rfl⟩
    rw [← hR]
    have HR := Lib.hid hR
    clear hR
    go_enter Try.func39, Try.ntmps39
    go_wp2_with fail
    go_loop [4, 5] (fun r i => ∃ k : Nat, i = .int .i64 k ∧ k ≤ l.length ∧ (l.take k).all (fun x => !(x.key == key)) = true ∧ r = .int .i64 0) (fun _ i => l.length - (intOf i).toNat)
    case atStart => exact ⟨0, rfl, Nat.zero_le _, by simp, rfl⟩
    case round =>
      obtain ⟨k, rfl, hkl, hall, rfl⟩ := hrel
      have Hall := Lib.hid hall; clear hall
      by_cases hlt : k < l.length
      · obtain ⟨g, rfl, hcc⟩ := Hcell.out k hlt
        have hcl := hcc 0 (by omega)
        simp only [rCells, List.getElem?_cons_zero, Nat.add_zero] at hcl
        clear hcc
        go_wp2
        · go_ret
          refine ⟨retI ?_, rfl⟩
          rw [HR.out, findE_hit hlt Hall.out]
          exact (Lib.bytes_beq_iff _ _).1 (by assumption)
        · have hne : l[k].key ≠ key := (Lib.bytes_beq_false_iff _ _).1 (by assumption)
          refine ⟨⟨k + 1, by go_num, by omega, ?_, rfl⟩, by simp [intOf]; omega⟩
          rw [List.take_succ_eq_append_getElem hlt, List.all_append, Hall.out]
          simpa using hne
      · go_wp2
        go_ret
        refine ⟨retI ?_, rfl⟩
        have := Hall.out
        rw [List.take_of_length_le (by omega)] at this
        rw [HR.out, findE_miss this]
  rcases h.at with ⟨rfl, rfl⟩ | ⟨g, cap, rfl, hlc, hcm, hcell, _, _⟩
  · exact main none 0 (by simp)
  · exact main _ cap (fun k hk => ⟨g, rfl, hcell k hk⟩)

theorem rInfo : (Try.prog.info? 70).map (fun i => (i.zero, i.size, i.bytes)) = some (some (.agg #[.string ⟨#[]⟩, .string ⟨#[]⟩, .string ⟨#[]⟩, .bool false, .int .i64 0]), 5, 64) := by kernel_rfl

def LivPost (w : World) (l : List REnt) (e : Ending) (w' : World) : Prop := ∃ sv, e = .returned sv ∧ RowOf rCells 5 w' w.heap.size 70 sv l ∧ Chg [] w w'

set_option maxHeartbeats 2000000 in
set_option maxRecDepth 100000 in
theorem rliving_any (rb : Nat) (s : RSt) (sv : Value) (now : Int) (w : World) (h : w.heap[rb]? = some (.cells #[.int .i64 s.room, .int .i64 s.ttl, .int .i64 s.time, sv] 66 (0, 0))) (hr : RowIs w sv s.l)
    (ht : 0 ≤ s.ttl ∧ s.ttl ≤ 1073741824) (hn : s.l.length ≤ 4096) (hf : ∀ x ∈ s.l, 0 ≤ x.frm ∧ x.frm ≤ 1073741824) :
    Calls Try.prog 33 #[.pointer (some ⟨rb, 0, none⟩), .int .i64 now] w (LivPost w (s.l.filter (rlive s.ttl now))) := by
  obtain ⟨t0, t1⟩ := ht
  obtain ⟨a, cap, hsv⟩ := RowOf.shape hr
  have Hr := Lib.hid hr
  have Hb := Lib.hid h
  have hlt := lt_of_heap h
  have Hf := Lib.hid hf
  subst hsv
  clear h hr hf
  go_enter Try.func33, Try.ntmps33
  go_wp2_with fail
  go_loopw [5, 6] (fun o i wr => ∃ k : Nat, i = .int .i64 k ∧ k ≤ s.l.length ∧ RowOf rCells 5 wr w.heap.size 70 o ((s.l.take k).filter (rlive s.ttl now)) ∧ Chg [] w wr) (fun _ i _ => s.l.length - (intOf i).toNat)
  case atStart => exact ⟨0, rfl, Nat.zero_le _, RowOf.nil _ _ _, Chg.refl _ _⟩
  case round =>
    obtain ⟨k, rfl, hkl, hrow, hch⟩ := hrel
    have Hrow := Lib.hid hrow
    have Hch := Lib.hid hch
    have hc := blk_cell (hch.at (by simp) Hb.out)
    have Hr' := Lib.hid (RowIs.kept Hr.out hch (by simp))
    clear hrow hch
    by_cases hk : k < s.l.length
    · rcases RowIs.at Hr'.out with ⟨_, hl⟩ | ⟨g, cap', hv, hlc, hcm, hcell, _, hgl⟩
      · rw [hl] at hk; simp at hk
      · cases hv
        have c0 := hcell k hk 0 (by omega)
        have c1 := hcell k hk 1 (by omega)
        have c2 := hcell k hk 2 (by omega)
        have c3 := hcell k hk 3 (by omega)
        have c4 := hcell k hk 4 (by omega)
        simp only [rCells, List.getElem?_cons_zero, List.getElem?_cons_succ, Nat.add_zero] at c0 c1 c2 c3 c4
        have hfk := Hf.out s.l[k] (List.getElem_mem hk)
        obtain ⟨f0, f1⟩ := hfk
        have hx : ∃ x, x = s.l[k] := ⟨_, rfl⟩
        obtain ⟨x, hx⟩ := hx
        rw [← hx] at c0 c1 c2 c3 c4 f0 f1
        have Hx := Lib.hid hx
        clear hx hcell
        have hsum : IntKind.i64.wrap (x.frm + s.ttl) = x.frm + s.ttl := IntWalk.i64_in _ (by omega)
        have hk' : (k : Int) < (s.l.length : Int) := by omega
        have hk0 : (0 : Int) ≤ (k : Int) := by omega
        go_wp2_with fail
        go_quiet (fail)
        have hlen : ((s.l.take k).filter (rlive s.ttl now)).length ≤ 4096 := Nat.le_trans (List.length_filter_le _ _) (by rw [List.length_take]; omega)
        have hws : w.heap.size ≤ wr.heap.size := Hch.out.size
        go_wp2_with (at_builtin; refine wpl_append rfl _ _ 64 rfl w.heap.size 70 _ 64 Try.underlying64 rInfo rfl (by decide) rLen rOne u5 _ rfl (RowOf.kept Hrow.out (((Chg.refl [] _).drewN nq).alloc _) (by simp)) wr.heap.size _ x _ _ _ rfl (heap_alloc_new (wr.drewN nq) _) rfl ?c1 ?c2 ?c3 ?_; rotate_left 3; intro v' w1 hrow1 hg1)
        case c1 => unfold maxLen; omega
        case c2 => omega
        case c3 => simp; omega
        · have hlv : rlive s.ttl now x = true := by simpa [rlive] using (by assumption : now < x.frm + s.ttl)
          have hch1 : Chg [] w w1 := ((Hch.out.drewN nq).alloc _).then (Chg.ofRow hg1) (by intro y hy hl; simp at hy; have := (Hrow.out.block y hy).1; omega)
          refine ⟨⟨k + 1, by go_num, by omega, ?_, hch1⟩, by simp [intOf]; omega⟩
          rw [List.take_succ_eq_append_getElem hk, List.filter_append, ← Hx.out, List.filter_cons, hlv]
          exact hrow1
        · have hlv : rlive s.ttl now x = false := by simpa [rlive] using (by assumption : x.frm + s.ttl ≤ now)
          refine ⟨⟨k + 1, by go_num, by omega, ?_, Hch.out.drewN nq⟩, by simp [intOf]; omega⟩
          rw [List.take_succ_eq_append_getElem hk, List.filter_append, ← Hx.out, List.filter_cons, hlv]
          simp only [Bool.false_eq_true, if_false, List.filter_nil, List.append_nil]
          exact RowOf.kept Hrow.out ((Chg.refl [] _).drewN nq) (by simp)
    · go_wp2
      go_ret
      refine ⟨_, rfl, ?_, Hch.out⟩
      have := Hrow.out
      rw [List.take_of_length_le (by omega)] at this
      exact this
end Go.Proofs.Ytkbblkhkadcpcaa
