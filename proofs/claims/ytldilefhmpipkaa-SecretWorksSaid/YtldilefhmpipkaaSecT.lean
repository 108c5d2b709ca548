/- Chapter 22: contract of the program: Names. No condition. -/
import Derived.Test.YtldilefhmpipkaaSecS
import Derived.Test.YtldilefhmpipkaaMapk
import Derived.Test.YtldilefhmpipkaaShelfD
import Derived.Test.YtldilefhmpipkaaSecI
namespace Go.Proofs.Ytldilefhmpipkaa
set_option linter.unusedVariables false
set_option linter.unusedSimpArgs false
open Go.RowKit

set_option maxHeartbeats 2000000 in
set_option maxRecDepth 100000 in
theorem delf_nil (b2 b3 : Nat) (w : World) : Calls Try.prog 48 #[.slice none 0 0, .func (.func 49) #[] #[.pointer (some ⟨b2, 0, none⟩), .pointer (some ⟨b3, 0, none⟩)]] w fun e w' => e = .returned (.slice none 0 0) ∧ w = w' := by
  have A : Hid (Calls Try.prog 61 #[.slice none 0 0, .func (.func 49) #[] #[.pointer (some ⟨b2, 0, none⟩), .pointer (some ⟨b3, 0, none⟩)]] w fun e w' => e = .returned (.int .i64 (-1)) ∧ w = w') := Lib.hid (by
    go_enter Try.func61, Try.ntmps61
    go_wp2_with fail
    go_loop [8] (fun i => i = .int .i64 0) (fun _ => 0)
    case atStart => rfl
    case round =>
      subst hrel
      go_wp2_with fail
      go_ret
      exact ⟨rfl, rfl⟩)
  go_enter Try.func48, Try.ntmps48
  go_wp2_with fail
  refine A.out.mono ?_; rintro e w1 ⟨rfl, rfl⟩
  go_wp2_with fail
  go_ret
  exact ⟨rfl, rfl⟩

def keepL (L : List S0) (fn : ByteArray) (n : List UInt8) : Bool := match look L ⟨n.toArray⟩ with | some x => hasB x fn | none => false
def namesS (L : List S0) (fn : ByteArray) : List (List UInt8) := ((L.map fun x => byt x.name).mergeSort leB).filter (keepL L fn)
theorem mk_byt (b : ByteArray) : (⟨(byt b).toArray⟩ : ByteArray) = b := by unfold byt; simp

set_option maxHeartbeats 8000000 in
set_option maxRecDepth 100000 in
theorem names_any (vb mb : Nat) (l : List Sec) (fn : ByteArray) (w : World) (h : VIs w vb mb l) (hn : ∀ x ∈ l, x.name.size ≤ maxLen) (hll : l.length ≤ 4096) :
    Calls Try.prog 26 #[.pointer (some ⟨vb, 0, none⟩), .string fn] w fun e w' => ∃ v, e = .returned v ∧ RowOf kc 1 w' w.heap.size 9 v (namesS (l.map Sec.s) fn) ∧ Chg [] w w' := by
  have hm := fun w => run_eql_map_nil (P := Try.prog) w 50 9 61 (some mb) Try.underlying50
  have hnd := h.nodup
  obtain ⟨wa, hwa⟩ : ∃ wa, wa = (w.alloc (.cells #[.pointer (some ⟨vb, 0, none⟩)] 25)).alloc (.cells #[.string fn] 9) := ⟨_, rfl⟩
  have hca : Chg [] w wa := by rw [hwa]; exact ((Chg.refl _ _).alloc _).alloc _
  have hsz : wa.heap.size = w.heap.size + 2 := by rw [hwa]; simp
  have hb2 : wa.heap[w.heap.size]? = some (.cells #[.pointer (some ⟨vb, 0, none⟩)] 25 (0, 0)) := by rw [hwa]; exact blk_alloc (heap_alloc_new w _)
  have hb3 : wa.heap[w.heap.size + 1]? = some (.cells #[.string fn] 9 (0, 0)) := by
    rw [hwa]
    have := heap_alloc_new (w.alloc (.cells #[.pointer (some ⟨vb, 0, none⟩)] 25)) (.cells #[.string fn] 9)
    rwa [World.size_alloc] at this
  have Va := Lib.hid (h.keptN hca)
  have hlt := h.lt
  obtain ⟨D, hown, hperm, hsD⟩ := ownsMap_of (P := Try.prog) (k := 9) Va.out.2.1 Try.underlying9 hn hll
  have Hcv := Lib.hid (blk_cell h.1)
  have A1 := Lib.hid (callsIn_wide.1 (Try.maps_Keys_47 (some mb) wa))
  have A2 := Lib.hid (callsIn_wide.1 (Try.slices_Sorted_keys_46_47 mb 4096 D _ wa hown (by unfold maxLen; omega) (by omega)))
  have hperm2 : ∀ ss : List (List UInt8), ss.Perm (strKeys D) → ss.mergeSort leB = ((l.map Sec.s).map fun x => byt x.name).mergeSort leB := fun ss hs => by
    rw [mergeSort_of_perm (hs.trans hperm), List.map_map]; rfl
  have hpl : ∀ ss : List (List UInt8), ss.Perm (strKeys D) → ss.length = l.length := fun ss hs => by
    have := (hs.trans hperm).length_eq; simpa using this
  have Hp2 := Lib.hid hperm2
  have Hpl := Lib.hid hpl
  have Hkeep := Lib.hid (show ∀ n ∈ ((l.map Sec.s).map fun x => byt x.name), ∃ x, lookL Sec.name l ⟨n.toArray⟩ = some x ∧ keepL (l.map Sec.s) fn n = hasB x.s fn by
    intro n hn
    rw [List.map_map] at hn
    obtain ⟨x, hx, rfl⟩ := List.mem_map.1 hn
    have h1 := lookL_of_mem hnd hx
    have e : (⟨((fun x => byt x.name) x.s).toArray⟩ : ByteArray) = x.name := mk_byt x.name
    refine ⟨x, ?_, ?_⟩
    · show lookL Sec.name l ⟨((fun x => byt x.name) x.s).toArray⟩ = some x
      rw [e]; exact h1
    · show keepL (l.map Sec.s) fn ((fun x => byt x.name) x.s) = _
      unfold keepL look
      rw [e, look_s, h1]; rfl)
  have r2 := blk_cell hb2
  have r3 := blk_cell hb3
  have cva := blk_cell Va.out.1
  have HB2 := Lib.hid hb2
  have HB3 := Lib.hid hb3
  have Hwa := Lib.hid hwa
  have Ca := Lib.hid hca
  have l2 := lt_of_heap hb2
  have l3 := lt_of_heap hb3
  have Hsz := Lib.hid hsz
  have hvb : vb < w.heap.size := hlt vb (by simp [fp])
  have Hlt := Lib.hid hlt
  have cvw := blk_cell h.1
  clear h hb2 hb3 hwa hca hown hperm hsD hperm2 hpl hnd hn hsz hlt
  go_enter Try.func26, Try.ntmps26
  go_wp2_with fail
  rw [← Hwa.out]
  clear cvw
  refine A1.out.mono ?_; rintro e w1 ⟨rfl, rfl⟩
  go_wp2_with fail
  refine A2.out.mono ?_; rintro e w2 ⟨v, ss, rfl, hss, hrow, hnil, hbl⟩
  have hrw : RowOf kc 1 w2 (wa.heap.size + 1) 9 v (((l.map Sec.s).map fun x => byt x.name).mergeSort leB) := by
    have e := Hp2.out ss hss
    have hr := hrow
    rw [World.size_alloc] at hr
    unfold RowOf
    rw [flat_kc, ← e]
    have e1 : (ss.mergeSort leB).length = ss.length := by simp
    rw [e1]
    exact hr
  have C2 := Lib.hid (show Chg [] wa w2 from ((Chg.refl [] wa).alloc _).thenSame (Chg.ofBelow hbl))
  have HR := Lib.hid hrw
  obtain ⟨NS, hNS⟩ : ∃ NS, NS = ((l.map Sec.s).map fun x => byt x.name).mergeSort leB := ⟨_, rfl⟩
  have hlen : NS.length = l.length := by rw [hNS]; simp
  have Hlen := Lib.hid hlen
  rw [← hNS] at HR
  have HNS := Lib.hid hNS
  clear hss hrow hnil hbl hrw hlen A1 A2 hNS
  rcases RowOf.at HR.out kLen with ⟨h1, h2⟩ | ⟨g, cp, h1, hcp1, hcp2, -, -, hgb, hgl⟩
  · subst h1
    have A3 := Lib.hid (delf_nil w.heap.size (w.heap.size + 1) w2)
    go_wp2_with fail
    refine A3.out.mono ?_; rintro e w3 ⟨rfl, rfl⟩
    go_wp2_with fail
    go_ret
    refine ⟨_, rfl, ?_, Ca.out.thenSame C2.out⟩
    unfold namesS
    rw [← HNS.out, h2]
    exact RowOf.nil _ _ _
  · subst h1
    have V2 := Va.out.keptN C2.out
    have hcl : ClosIs g w2 w.heap.size (w.heap.size + 1) (keepL (l.map Sec.s) fn) NS := by
      intro w' hc n hn
      have hn' : n ∈ ((l.map Sec.s).map fun x => byt x.name) := (List.mergeSort_perm _ _).mem_iff.1 (HNS.out ▸ hn)
      obtain ⟨x, hx, hk⟩ := Hkeep.out n hn'
      have hs := Hsz.out
      have V' := V2.kept hc (by intro b hb e; simp at e; subst e; have := Hlt.out b hb; omega)
      have := nclos_any vb mb l ⟨n.toArray⟩ fn w.heap.size (w.heap.size + 1) w' V' (hc.at (by simp; omega) (C2.out.at (by simp) HB2.out)) (hc.at (by simp; omega) (C2.out.at (by simp) HB3.out)) x hx
      rw [hk]
      exact this
    have A3 := Lib.hid (delf_row g cp w.heap.size (w.heap.size + 1) (wa.heap.size + 1) (keepL (l.map Sec.s) fn) _ w2 HR.out hcl (by rw [Hlen.out]; exact hll))
    have Hgb := Lib.hid hgb
    clear hcl V2
    go_wp2_with fail
    (with_reducible refine A3.out.mono ?_); rintro e w3 ⟨v3, rfl, hr3, hc3⟩
    have R3 := Lib.hid hr3
    have C3 := Lib.hid (show Chg [] w w3 from (Ca.out.thenSame C2.out).then hc3 (by intro y hy hl; simp at hy; have h1 := Hgb.out; have h2 := Hsz.out; omega))
    clear hr3 hc3
    go_wp2_with fail
    go_ret
    refine ⟨v3, rfl, ?_, C3.out⟩
    unfold namesS
    rw [← HNS.out]
    exact R3.out.mono (by have := Hsz.out; omega)
end Go.Proofs.Ytldilefhmpipkaa
