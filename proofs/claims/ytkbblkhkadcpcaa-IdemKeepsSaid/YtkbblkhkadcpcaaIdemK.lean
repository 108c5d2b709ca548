/- Chapter 27: contract of the program's Keys. No condition. -/
import Derived.Test.YtkbblkhkadcpcaaIdemD
import Derived.Test.YtkbblkhkadcpcaaRowm
import Derived.Test.YtkbblkhkadcpcaaShelfA
namespace Go.Proofs.Ytkbblkhkadcpcaa
open Go.RowKit

def keysS (s : St) : List (List UInt8) := (s.l.map fun x => bs x.key).mergeSort leB

theorem sort_any {w : World} {base : Nat} {v : Value} {l : List (List UInt8)} (h : RowOf kc 1 w base 9 v l) (hl : l.length < 4611686018427387904) :
    Calls Try.prog 34 #[v] w fun ex w' => ex = .returned (.tuple #[]) ∧ RowOf kc 1 w' base 9 v (l.mergeSort leB) ∧ Chg v.ownBlock.toList w w' :=
  sort_row (fun blk off cap ss w => Try.slices_Sort_string blk off cap ss w) (fun p cap w => Try.slices_Sort_string_none p cap w) h hl

theorem sInfo : (Try.prog.info? 9).map (fun i => (i.zero, i.size, i.bytes)) = some (some (.string ⟨#[]⟩), 1, 16) := by kernel_rfl

theorem perm_del {todo : List Ent} {x : Ent} (hd : (todo.map Ent.key).Nodup) (hx : x ∈ todo) : (todo.map fun y => bs y.key).Perm (bs x.key :: (delL Ent.key todo x.key).map fun y => bs y.key) := by
  unfold delL
  induction todo with
  | nil => cases hx
  | cons y l ih =>
    simp only [List.map_cons, List.nodup_cons] at hd
    rcases List.mem_cons.1 hx with rfl | hx'
    · have : l.filter (fun z => z.key != x.key) = l := List.filter_eq_self.2 fun a ha => by
        have : a.key ≠ x.key := fun e => hd.1 (by rw [← e]; exact List.mem_map.2 ⟨a, ha, rfl⟩)
        simpa using this
      simp [this]
    · have hne : y.key ≠ x.key := fun e => hd.1 (by rw [e]; exact List.mem_map.2 ⟨x, hx', rfl⟩)
      have hb : (y.key != x.key) = true := by simpa using hne
      rw [List.filter_cons, if_pos hb, List.map_cons, List.map_cons]
      exact ((ih hd.2 hx').cons _).trans (List.Perm.swap _ _ _)

set_option maxHeartbeats 1600000 in
set_option maxRecDepth 100000 in
theorem keys_any (tb mb : Nat) (s : St) (w : World) (h : TabIs w tb mb s) (hl : s.l.length ≤ 4096) : Calls Try.prog 20 #[.pointer (some ⟨tb, 0, none⟩)] w fun e w' =>
    ∃ v, e = .returned v ∧ RowOf kc 1 w' w.heap.size 9 v (keysS s) ∧ Chg [] w w' := by
  have hc := blk_cell h.1
  have Hm := h.2
  have hlt := Hm.lt
  have hltt := lt_of_heap h.1
  have Ht := Lib.hid h
  clear h
  have Hd := Hm.nodup
  have hz := zeroRec
  go_enter Try.func20, Try.ntmps20
  go_wp2_with fail
  refine (made_yes tb mb s _ Ht.out).mono ?_; rintro e w1 ⟨rfl, rfl⟩
  go_wp2_with (first | (at_range; refine wpl_range _ rfl _ 51 rfl 9 59 Try.underlying51 mb s.l rfl Hm ?_; intro w0 hit0 hc0 hs0) | fail)
  go_frame
  go_loopw [3] (fun v wr => ∃ (acc : List (List UInt8)) (todo : List Ent), RowOf kc 1 wr (w.heap.size + 1) 9 v acc ∧ (acc ++ todo.map fun y => bs y.key).Perm (s.l.map fun y => bs y.key) ∧ IterIs Ent.key entVal wr mb w.heap.size s.l todo ∧ Chg [] w wr) (fun _ wr => wr.rangeLeft mb w.heap.size)
  case atStart => exact ⟨[], s.l, RowOf.nil _ _ _, by simp, hit0, hc0⟩
  case round =>
    obtain ⟨acc, todo, hrow, hp, hit, hch⟩ := hrel
    have Hrow := Lib.hid hrow
    have Hp := Lib.hid hp
    have hal : acc.length ≤ 4096 := by have := hp.length_eq; simp at this; omega
    obtain ⟨va, vc, hv⟩ := RowOf.shape hrow
    subst hv
    clear hrow hp
    go_wp2_with (first | (at_next; refine wpl_next _ rfl _ rfl mb w.heap.size s.l todo rfl hit ?_ ?_) | fail)
    · intro h0
      go_wp2_with fail
      refine (sort_any Hrow.out (by omega)).mono ?_; rintro e w2 ⟨rfl, hrow2, hc2⟩
      have Hrow2 := Lib.hid hrow2
      clear hrow2
      go_wp2_with fail
      go_ret
      refine ⟨_, rfl, ?_, hch.then hc2 (by intro y hy hl; have := (Hrow.out.block y (by simpa using hy)).1; omega)⟩
      have hpp := Hp.out
      subst h0
      simp only [List.map_nil, List.append_nil] at hpp
      rw [keysS, ← mergeSort_of_perm hpp]
      exact Hrow2.out.mono (by omega)
    · intro x w1 hx hit1 hch1 hs1 hen
      have hlr := hit.lt
      have hss : w.heap.size < w1.heap.size := by rw [hs1]; exact hlr
      have Hpd := Lib.hid (perm_del (List.Nodup.sublist (List.Sublist.map _ hit.sub) Hd) hx)
      have Hleft := Lib.hid hit.left
      have Hlen : Hid ((delL Ent.key todo x.key).length < todo.length) := by
        have := count_del (fun _ => true) (List.Nodup.sublist (List.Sublist.map _ hit.sub) Hd) hx
        simp at this; show _ < _; omega
      have Hit1 := Lib.hid hit1
      have hchw1 : Chg [] w w1 := hch.then hch1 (by intro y hy hlt; simp at hy; omega)
      have Hrow1 := Lib.hid (RowOf.kept Hrow.out hch1 (fun g hg => by have := (Hrow.out.block g hg).1; simp; omega))
      have Hch := Lib.hid hchw1
      clear hc hc0 hit0 hit1 hit hch hch1 hchw1 hs1
      unfold entVal at hen
      go_wp2_with (first | (at_builtin; refine wpl_append rfl _ _ 46 rfl (w.heap.size + 1) 9 _ 16 Try.underlying46 sInfo rfl (by decide) kLen kOne _ acc rfl (RowOf.kept Hrow1.out ((Chg.refl [] _).alloc _) (by simp)) w1.heap.size _ (bs x.key) _ _ _ rfl (heap_alloc_new w1 _) (by simp [kc, enc_bs]) ?c1 ?c2 ?c3 ?_; rotate_left 3; intro v' w2 hrow2 hg2) | fail)
      case c1 => unfold maxLen; omega
      case c2 => omega
      case c3 => simp; omega
      have hn : ∀ y ∈ (Value.slice va acc.length vc).ownBlock.toList, w.heap.size + 1 ≤ y := fun y hy => (Hrow.out.block y (by simpa using hy)).1
      have hmb : mb < w.heap.size := hlt
      have hch2 : Chg [] w w2 := (Hch.out.alloc _).then (Chg.ofRow hg2) (by intro y hy hl; have := hn y hy; omega)
      have hit2 : IterIs Ent.key entVal w2 mb w.heap.size s.l (delL Ent.key todo x.key) := (Hit1.out.kept ((Chg.refl [] w1).alloc _) (by simp) (by simp)).kept (Chg.ofRow hg2) (fun hy => by have := hn _ hy; omega) (fun hy => by have := hn _ hy; omega)
      refine ⟨⟨acc ++ [bs x.key], _, hrow2, ?_, hit2, hch2⟩, by rw [hit2.left, Hleft.out]; exact Hlen.out⟩
      refine List.Perm.trans ?_ Hp.out
      rw [List.append_assoc]
      exact List.Perm.append_left _ Hpd.out.symm
end Go.Proofs.Ytkbblkhkadcpcaa
