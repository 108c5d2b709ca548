/- Over any program: worlds that keep all blocks but a few named ones; blocks of cells; maps with string keys, read as lists of entries. No condition. Over any program: slices of structs (one-cell fields) that came in, read as lists; structs that came in by value. No condition. Over any program: rows of the call's own, many elements appended at once; an empty row; rows of strings; the sort. No condition. Over any program: stores into rows of structs. No condition. Over any program: make; slices of slices, read as lists; rows of the call's own read as slices. No condition. Over any program: rows of ints of the call's own; the library's sort of them. No condition. Plain: a stable sort of indices by keys: the order, what each step leaves. No condition. -/
import Derived.WalkKit
import Derived.WalkSpells
import Derived.WalkLawsBesides
import Derived.Maps.RangeWalk
import Derived.Maps.OwnSet
import Derived.Lib.Hide
import Derived.Lib.QuietBelow
import Derived.BigQuiet
import Derived.Deep.QuietTactic
import Derived.Deep.Slices
import Derived.Deep.Fields
import Derived.ChangeSame
import Derived.Lib.SmallJoins
import Derived.ProofKit
import Derived.OpenShut
import Derived.Sort.OwnSorted
import Derived.Sort.KeysCollected
import Derived.OwnWalk
import Derived.StillTailTactics
import Derived.Sort.OwnSortedInts
namespace Go.Proofs.YtehjalgogjkdlaaDoor
set_option linter.unusedVariables false
set_option linter.unusedSimpArgs false
open Go.RowKit
open Go.ChangeMaps (setBlock heap_setBlock_same heap_setBlock_other)

/-- All blocks that were there, but those of S, are as they were. -/
structure Chg (S : List Nat) (w w' : World) : Prop where
  os : w'.os = w.os
  tape : w'.tape = w.tape
  output : w'.output = w.output
  size : w.heap.size ≤ w'.heap.size
  block : ∀ k, k < w.heap.size → k ∉ S → w'.heap[k]? = w.heap[k]?

theorem Chg.refl (S : List Nat) (w : World) : Chg S w w := ⟨rfl, rfl, rfl, Nat.le_refl _, fun _ _ _ => rfl⟩
theorem Chg.trans {S S' T : List Nat} {a b c : World} (h : Chg S a b) (k : Chg S' b c) (h1 : ∀ x ∈ S, x < a.heap.size → x ∈ T) (h2 : ∀ x ∈ S', x < a.heap.size → x ∈ T) : Chg T a c :=
  ⟨k.os.trans h.os, k.tape.trans h.tape, k.output.trans h.output, Nat.le_trans h.size k.size, fun i hi hn =>
    (k.block i (Nat.lt_of_lt_of_le hi h.size) (fun e => hn (h2 i e hi))).trans (h.block i hi (fun e => hn (h1 i e hi)))⟩
theorem Chg.mono {S T : List Nat} {a b : World} (h : Chg S a b) (h1 : ∀ x ∈ S, x < a.heap.size → x ∈ T) : Chg T a b :=
  ⟨h.os, h.tape, h.output, h.size, fun i hi hn => h.block i hi (fun e => hn (h1 i e hi))⟩
/-- Two steps that change the same blocks, or new ones. -/
theorem Chg.then {S S' : List Nat} {a b c : World} (h : Chg S a b) (k : Chg S' b c) (h2 : ∀ x ∈ S', x < a.heap.size → x ∈ S) : Chg S a c :=
  h.trans k (fun _ hx _ => hx) h2
theorem Chg.thenSame {S : List Nat} {a b c : World} (h : Chg S a b) (k : Chg S b c) : Chg S a c := h.then k (fun _ hx _ => hx)
theorem Chg.alloc {S : List Nat} {a b : World} (h : Chg S a b) (o : Obj) : Chg S a (b.alloc o) :=
  ⟨h.os, h.tape, h.output, Nat.le_trans h.size (by simp), fun i hi hn => by
    rw [← h.block i hi hn]; exact heap_alloc_old b o (Nat.lt_of_lt_of_le hi h.size)⟩
theorem Chg.drew {S : List Nat} {a b : World} (h : Chg S a b) : Chg S a b.drew := ⟨h.os, h.tape, h.output, h.size, h.block⟩
theorem Chg.drewN {S : List Nat} {a b : World} (h : Chg S a b) (n : Nat) : Chg S a (b.drewN n) := ⟨h.os, h.tape, h.output, h.size, h.block⟩
theorem Chg.setCell {S : List Nat} {a b : World} (h : Chg S a b) (p : Addr) (v : Value) (hp : p.block < a.heap.size → p.block ∈ S) : Chg S a (b.setCell p v) :=
  ⟨h.os, h.tape, h.output, Nat.le_trans h.size (by simp [World.setCell]), fun i hi hn => by
    rw [← h.block i hi hn]
    exact Below.heap_setCell b p v i (fun e => hn (e ▸ hp (e ▸ hi)))⟩
theorem Chg.setBlock {S : List Nat} {a b : World} (h : Chg S a b) (p : Nat) (o : Obj) (hp : p < a.heap.size → p ∈ S) : Chg S a (setBlock b p o) :=
  ⟨h.os, h.tape, h.output, Nat.le_trans h.size (by simp [Go.ChangeMaps.setBlock]), fun i hi hn => by
    rw [← h.block i hi hn]
    simp only [Go.ChangeMaps.setBlock, Array.getElem?_setIfInBounds]
    rw [if_neg (fun e : p = i => hn (e ▸ hp (e.symm ▸ hi)))]⟩
theorem Chg.ofBelow {S : List Nat} {w w' : World} (h : Below w.heap.size w w') : Chg S w w' := ⟨h.os, h.tape, h.output, h.size, fun k hk _ => h.block k hk⟩
theorem Chg.toBelow {S : List Nat} {B : Nat} {w w' : World} (h : Chg S w w') (hB : B ≤ w.heap.size) (hS : ∀ x ∈ S, B ≤ x) : Below B w w' :=
  ⟨h.os, h.tape, h.output, h.size, fun k hk => h.block k (by omega) (fun e => by have := hS k e; omega)⟩
theorem Chg.ofGrown {w w' : World} {b : Nat} (h : w.grownBy w' (some b)) : Chg [b] w w' :=
  ⟨h.os, h.tape, h.output, h.size, fun k hk hn => h.block k hk (fun e => hn (by cases e; simp))⟩
theorem Chg.ofGrownNone {S : List Nat} {w w' : World} (h : w.grownBy w' none) : Chg S w w' :=
  ⟨h.os, h.tape, h.output, h.size, fun k hk _ => h.block k hk (by simp)⟩
theorem Chg.at {S : List Nat} {w w' : World} {b : Nat} {o : Obj} (h : Chg S w w') (hn : b ∉ S) (hb : w.heap[b]? = some o) : w'.heap[b]? = some o :=
  (h.block b (Array.getElem?_eq_some_iff.1 hb).1 hn).trans hb
theorem lt_of_heap {w : World} {b : Nat} {o : Obj} (hb : w.heap[b]? = some o) : b < w.heap.size := (Array.getElem?_eq_some_iff.1 hb).1
theorem Chg.lt {S : List Nat} {w w' : World} {b : Nat} (h : Chg S w w') (hb : b < w.heap.size) : b < w'.heap.size := Nat.lt_of_lt_of_le hb h.size

theorem retB {a b : Bool} (h : a = b) : Ending.returned (.bool a) = .returned (.bool b) := by rw [h]
theorem retI {k : IntKind} {a b : Int} (h : a = b) : Ending.returned (.int k a) = .returned (.int k b) := by rw [h]
theorem retV {a b : Value} (h : a = b) : Ending.returned a = .returned b := by rw [h]

/-! blocks of cells -/
theorem blk_cell {w : World} {b : Nat} {c : Array Value} {t : TypeId} {f : Nat × Nat} (h : w.heap[b]? = some (.cells c t f)) (i : Nat) : w.cell? ⟨b, i, none⟩ = c[i]? := by
  simp [World.cell?, h]
theorem blk_free {w : World} {b : Nat} {c : Array Value} {t : TypeId} (h : w.heap[b]? = some (.cells c t (0, 0))) (i : Nat) : w.frozen? ⟨b, i, none⟩ = false := by
  simp [World.frozen?, h]
theorem blk_set {w : World} {b : Nat} {c : Array Value} {t : TypeId} {f : Nat × Nat} (h : w.heap[b]? = some (.cells c t f)) (i : Nat) (v : Value) :
    (w.setCell ⟨b, i, none⟩ v).heap[b]? = some (.cells (c.setIfInBounds i v) t f) := by
  simp [World.setCell, Array.getElem?_modify, h]
theorem blk_set_ne {w : World} {b b' : Nat} (i : Nat) (v : Value) (hne : b' ≠ b) :
    (w.setCell ⟨b, i, none⟩ v).heap[b']? = w.heap[b']? := Below.heap_setCell w ⟨b, i, none⟩ v b' hne
theorem blk_alloc {w : World} {b : Nat} {o o' : Obj} (h : w.heap[b]? = some o) : (w.alloc o').heap[b]? = some o := (heap_alloc_old w o' (lt_of_heap h)).trans h

instance : LawfulBEq ByteArray where
  eq_of_beq h := (Go.MapKept.bytes_beq _ _).1 h
  rfl := (Go.MapKept.bytes_beq _ _).2 rfl

/-! maps with string keys -/
section maps
variable {α : Type} {kf : α → ByteArray} {vf : α → Value}

/-- The entries of a map's block, in their order, with no key twice. -/
def EntsAre (kf : α → ByteArray) (vf : α → Value) (es : Array MapEntry) (clock : Nat) (l : List α) : Prop :=
  es.toList.map (fun e => (e.key, e.val)) = l.map (fun x => (Value.string (kf x), vf x)) ∧ es.toList.Pairwise (fun a b => a.born < b.born) ∧ (∀ e ∈ es.toList, e.born < clock) ∧ (l.map kf).Nodup

/-- Block b is a map whose entries are l. -/
def MapIs (kf : α → ByteArray) (vf : α → Value) (w : World) (b : Nat) (l : List α) : Prop := ∃ es clock, w.heap[b]? = some (.map es clock) ∧ EntsAre kf vf es clock l

theorem MapIs.lt {w : World} {b : Nat} {l : List α} (h : MapIs kf vf w b l) : b < w.heap.size := by
  obtain ⟨_, _, hb, _⟩ := h; exact lt_of_heap hb
theorem MapIs.kept {w w' : World} {b : Nat} {l : List α} {S : List Nat} (h : MapIs kf vf w b l) (hc : Chg S w w') (hn : b ∉ S) : MapIs kf vf w' b l := by
  obtain ⟨es, c, hb, he⟩ := h; exact ⟨es, c, hc.at hn hb, he⟩
theorem MapIs.same {w w' : World} {b : Nat} {l : List α} (h : MapIs kf vf w b l) (hh : w'.heap[b]? = w.heap[b]?) : MapIs kf vf w' b l := by
  obtain ⟨es, c, hb, he⟩ := h; exact ⟨es, c, hh.trans hb, he⟩
theorem MapIs.nodup {w : World} {b : Nat} {l : List α} (h : MapIs kf vf w b l) : (l.map kf).Nodup := by
  obtain ⟨_, _, _, _, _, _, h⟩ := h; exact h
theorem mapIs_new (w : World) : MapIs kf vf (w.alloc (.map #[] 0)) w.heap.size [] :=
  ⟨#[], 0, heap_alloc_new w _, by simp, by simp, by simp, by simp⟩

theorem findNow_string (s : ByteArray) : ∀ (es : List MapEntry) (l : List α) (i : Nat), es.map (fun e => (e.key, e.val)) = l.map (fun x => (Value.string (kf x), vf x)) →
    (∃ j x, l[j]? = some x ∧ kf x = s ∧ (∀ y ∈ l.take j, kf y ≠ s) ∧ Instr.findNow .string (.string s) es i = some (some (i + j, vf x))) ∨ ((∀ x ∈ l, kf x ≠ s) ∧ Instr.findNow .string (.string s) es i = some none)
  | [], [], i, _ => .inr ⟨by simp, rfl⟩
  | [], _ :: _, _, h => by simp at h
  | _ :: _, [], _, h => by simp at h
  | e :: es, x :: l, i, h => by
    simp only [List.map_cons, List.cons.injEq, Prod.mk.injEq] at h
    obtain ⟨⟨hk, hv⟩, ht⟩ := h
    by_cases hx : kf x = s
    · exact .inl ⟨0, x, rfl, hx, by simp, by simp [Instr.findNow, hk, Instr.sameNow, hx, hv]⟩
    · have hne : (s == kf x) = false := by simp; exact fun e => hx e.symm
      rcases findNow_string s es l (i + 1) ht with ⟨j, y, hj, hy, hb, hf⟩ | ⟨hn, hf⟩
      · refine .inl ⟨j + 1, y, by simpa using hj, hy, ?_, ?_⟩
        · intro z hz
          simp only [List.take_succ_cons, List.mem_cons] at hz
          rcases hz with rfl | hz
          · exact hx
          · exact hb z hz
        · simp only [Instr.findNow, hk, Instr.sameNow, hne, hf]; congr 3; omega
      · refine .inr ⟨?_, ?_⟩
        · intro z hz
          rcases List.mem_cons.1 hz with rfl | hz
          · exact hx
          · exact hn z hz
        · simp only [Instr.findNow, hk, Instr.sameNow, hne, hf]

variable {P : Program}

theorem run_findKey_string {k : TypeId} (hk : P.underlying k = some .string) (s : ByteArray) (es : List MapEntry) (w : World) {r : Option (Nat × Value)} (h : Instr.findNow .string (.string s) es 0 = some r) :
    (Instr.findKey k (.string s) es).run P w = .ok r w := by
  simp [Instr.findKey, run_underlying hk, h, Result.andThen]

theorem run_checkKey_string {k : TypeId} (hk : P.underlying k = some .string) (em : Bool) (s : ByteArray) (w : World) :
    (Instr.checkKey em 10000 k (.string s)).run P w = .ok () w := by
  unfold Instr.checkKey
  simp [run_underlying hk, Result.andThen]

/-- What a look-up finds. -/
def lookL (kf : α → ByteArray) (l : List α) (s : ByteArray) : Option α := l.find? (fun x => kf x == s)

theorem lookL_hit {l : List α} {s : ByteArray} {j : Nat} {x : α} (h : l[j]? = some x) (hx : kf x = s) (hb : ∀ y ∈ l.take j, kf y ≠ s) : lookL kf l s = some x := by
  unfold lookL
  have hj := (List.getElem?_eq_some_iff.1 h)
  obtain ⟨hlt, he⟩ := hj
  have hl : l = l.take j ++ x :: l.drop (j + 1) := by
    rw [← he, ← List.drop_eq_getElem_cons hlt, List.take_append_drop]
  rw [hl, List.find?_append, List.find?_eq_none.2 (by intro y hy; simpa using hb y hy)]
  simp [hx]
theorem lookL_miss {l : List α} {s : ByteArray} (h : ∀ x ∈ l, kf x ≠ s) : lookL kf l s = none := by
  unfold lookL
  exact List.find?_eq_none.2 (by intro y hy; simpa using h y hy)

theorem MapIs.lookup {w : World} {b : Nat} {l : List α} (h : MapIs kf vf w b l) {t k e : TypeId} (ht : P.underlying t = some (.map k e)) (hk : P.underlying k = some .string) {z : Value}
    (hz : (zeroValue e).run P w = .ok z w) (s : ByteArray) (c : Bool) :
    (Instr.lookup t (.map (some b)) (.string s) c).run P w = .ok (if c then .tuple #[((lookL kf l s).map vf).getD z, .bool (lookL kf l s).isSome] else ((lookL kf l s).map vf).getD z) w := by
  obtain ⟨es, clock, hb, he, _, _, _⟩ := h
  rcases findNow_string s es.toList l 0 he with ⟨j, x, hj, hx, hbf, hf⟩ | ⟨hn, hf⟩
  · rw [lookL_hit hj hx hbf]
    simp [Instr.lookup, run_underlying ht, MapKept.run_getObj_map hb, run_checkKey_string hk, run_findKey_string hk s es.toList w hf, Result.andThen]
  · rw [lookL_miss hn]
    simp [Instr.lookup, run_underlying ht, MapKept.run_getObj_map hb, run_checkKey_string hk, run_findKey_string hk s es.toList w hf, hz, Result.andThen]

/-- What a store leaves. -/
def putL (kf : α → ByteArray) (l : List α) (x : α) : List α := if l.any (fun y => kf y == kf x) then l.map (fun y => if kf y == kf x then x else y) else l ++ [x]

theorem modify_toList (es : Array MapEntry) (i : Nat) (f : MapEntry → MapEntry) : (es.modify i f).toList = es.toList.modify i f := by simp

theorem map_modify_eq {β γ : Type} (g : β → γ) (f : β → β) : ∀ (l : List β) (i : Nat) (y : γ), (∀ b, l[i]? = some b → g (f b) = y) → (l.modify i f).map g = (l.map g).set i y
  | [], i, y, _ => by simp
  | b :: l, 0, y, h => by simp [h b rfl]
  | b :: l, i + 1, y, h => by simp [map_modify_eq g f l i y (fun b hb => h b (by simpa using hb))]

theorem set_eq_map {l : List α} {j : Nat} {x y : α} (hj : l[j]? = some y) (hxy : kf y = kf x) (hd : (l.map kf).Nodup) : l.set j x = l.map (fun z => if kf z == kf x then x else z) := by
  induction l generalizing j with
  | nil => simp at hj
  | cons z l ih =>
    simp only [List.map_cons, List.nodup_cons] at hd
    cases j with
    | zero =>
      simp only [List.getElem?_cons_zero, Option.some.injEq] at hj
      subst hj
      simp only [List.set_cons_zero, List.map_cons, hxy, beq_self_eq_true, if_true, List.cons.injEq, true_and]
      have : ∀ a ∈ l, (fun z => if kf z == kf x then x else z) a = a := by
        intro a ha
        have : kf a ≠ kf x := fun e => hd.1 (by rw [hxy, ← e]; exact List.mem_map.2 ⟨a, ha, rfl⟩)
        simp [this]
      exact (List.map_id' l).symm.trans (List.map_congr_left (fun a ha => (this a ha).symm))
    | succ j =>
      simp only [List.getElem?_cons_succ] at hj
      have hz : kf z ≠ kf x := fun e => hd.1 (by rw [e, ← hxy]; exact List.mem_map.2 ⟨y, List.mem_of_getElem? hj, rfl⟩)
      simp [hz, ih hj hd.2]

theorem putL_nodup {l : List α} {x : α} (hd : (l.map kf).Nodup) : ((putL kf l x).map kf).Nodup := by
  unfold putL
  split
  · have : (l.map (fun y => if kf y == kf x then x else y)).map kf = l.map kf := by
      rw [List.map_map]
      refine List.map_congr_left fun a _ => ?_
      by_cases h : kf a = kf x <;> simp [h]
    rw [this]; exact hd
  · rename_i h
    simp only [List.any_eq_true, beq_iff_eq, not_exists, not_and] at h
    rw [List.map_append, List.map_singleton, List.nodup_append]
    exact ⟨hd, by simp, by rintro a ha b hb; simp at hb; subst hb; obtain ⟨y, hy, rfl⟩ := List.mem_map.1 ha; exact h y hy⟩

theorem MapIs.store {w : World} {b : Nat} {l : List α} (h : MapIs kf vf w b l) {t k e : TypeId} (ht : P.underlying t = some (.map k e)) (hk : P.underlying k = some .string) (x : α) :
    ∃ w', (Instr.mapUpdate t (.map (some b)) (.string (kf x)) (vf x)).run P w = .ok () w' ∧ MapIs kf vf w' b (putL kf l x) ∧ Chg [b] w w' ∧ w'.heap.size = w.heap.size := by
  have hd := h.nodup
  obtain ⟨es, clock, hb, he, hp, hc, _⟩ := h
  rcases findNow_string (kf x) es.toList l 0 he with ⟨j, y, hj, hy, hbf, hf⟩ | ⟨hn, hf⟩
  · have hlen : es.toList.length = l.length := by have := congrArg List.length he; simpa using this
    have hjl : j < es.toList.length := by rw [hlen]; exact (List.getElem?_eq_some_iff.1 hj).1
    have hkey : (es[j]?).map (·.key) = some (.string (kf x)) := by
      have h1 := congrArg (fun m => (m[j]?).map Prod.fst) he
      simp only [List.getElem?_map, hj, Option.map_some, Option.map_map] at h1
      rw [hy] at h1
      rw [← Array.getElem?_toList, ← h1]; rfl
    have hst : ∀ w : World, (Instr.keyThatStays (.string (kf x)) (.string (kf x))).run P w = .ok (.string (kf x)) w := by
      intro w; simp [Instr.keyThatStays, Instr.sameBits]
    refine ⟨setBlock w b (.map (es.modify j fun e => { e with key := .string (kf x), val := vf x }) clock), ?_, ⟨_, clock, heap_setBlock_same hb _, ?_, ?_, ?_, putL_nodup hd⟩, (Chg.refl _ _).setBlock _ _ (by simp), by simp [Go.ChangeMaps.setBlock]⟩
    · simp only [Nat.zero_add] at hf
      have hkd : ((es[j]?).map (·.key)).getD (.string (kf x)) = .string (kf x) := by rw [hkey]; rfl
      simp only [Instr.mapUpdate, Sem.run_bind, run_underlying ht, MapKept.run_getObj_map hb, run_checkKey_string hk, run_findKey_string hk (kf x) es.toList w hf, Result.andThen, hkd, hst]
      simp [MapKept.run_setObj_map _ hb, Go.ChangeMaps.setBlock]
    · rw [modify_toList, map_modify_eq (fun e : MapEntry => (e.key, e.val)) (fun e => { e with key := .string (kf x), val := vf x }) _ _ (Value.string (kf x), vf x) (fun _ _ => rfl), he]
      have hany : l.any (fun z => kf z == kf x) = true := List.any_eq_true.2 ⟨y, List.mem_of_getElem? hj, by simp [hy]⟩
      simp only [putL, hany, if_true]
      rw [← set_eq_map hj hy hd, List.map_set]
    · rw [modify_toList]
      have := List.pairwise_map.2 hp
      refine List.pairwise_map.1 (?_ : List.Pairwise (· < ·) ((es.toList.modify j fun e => { e with key := .string (kf x), val := vf x }).map (·.born)))
      have hb' : (es.toList.modify j fun e => { e with key := Value.string (kf x), val := vf x }).map (·.born) = es.toList.map (·.born) := by
        rw [map_modify_eq MapEntry.born (fun e => { e with key := Value.string (kf x), val := vf x }) es.toList j ((es.toList.map (·.born)).getD j 0) (fun b hb => by simp at hb; simp [hb])]
        refine List.ext_getElem? fun i => ?_
        rw [List.getElem?_set]
        split
        · rename_i e; subst e; rw [if_pos (by simpa using hjl)]; simp [List.getElem?_eq_getElem hjl]
        · rfl
      rw [hb']; exact this
    · intro e he'
      rw [modify_toList] at he'
      obtain ⟨i, hi, rfl⟩ := List.mem_iff_getElem.1 he'
      rw [List.getElem_modify]
      have hi' : i < es.toList.length := by simpa using hi
      have := hc es.toList[i] (List.getElem_mem hi')
      split
      · exact this
      · exact this
  · have hany : l.any (fun z => kf z == kf x) = false := by
      rw [List.any_eq_false]; intro y hy; simpa using hn y hy
    refine ⟨setBlock w b (.map (es.push { key := .string (kf x), val := vf x, born := clock }) (clock + 1)), ?_, ⟨_, clock + 1, heap_setBlock_same hb _, ?_, ?_, ?_, putL_nodup hd⟩, (Chg.refl _ _).setBlock _ _ (by simp), by simp [Go.ChangeMaps.setBlock]⟩
    · simp only [Instr.mapUpdate, Sem.run_bind, run_underlying ht, MapKept.run_getObj_map hb, run_checkKey_string hk, run_findKey_string hk (kf x) es.toList w hf, Result.andThen]
      simp [MapKept.run_setObj_map _ hb, Go.ChangeMaps.setBlock]
    · simp [putL, hany, he]
    · rw [Array.toList_push, List.pairwise_append]
      exact ⟨hp, by simp, by intro a ha b hb'; simp at hb'; subst hb'; exact hc a ha⟩
    · intro e he'
      rw [Array.toList_push, List.mem_append] at he'
      rcases he' with he' | he'
      · have := hc e he'; omega
      · simp at he'; subst he'; simp

/-- What a deletion leaves. -/
def delL (kf : α → ByteArray) (l : List α) (s : ByteArray) : List α := l.filter (fun x => kf x != s)

theorem eraseIdx_eq_filter {β : Type} (p : β → Bool) : ∀ (l : List β) (j : Nat), j < l.length → (∀ b, l[j]? = some b → p b = false) → (∀ i b, i ≠ j → l[i]? = some b → p b = true) → l.eraseIdx j = l.filter p
  | [], _, h, _, _ => by simp at h
  | b :: l, 0, _, h, h' => by
    have hb := h b rfl
    rw [List.eraseIdx_cons_zero, List.filter_cons, if_neg (by simp [hb])]
    refine (List.filter_eq_self.2 fun a ha => ?_).symm
    obtain ⟨i, hi, rfl⟩ := List.mem_iff_getElem.1 ha
    exact h' (i + 1) _ (by omega) (by simp [hi])
  | b :: l, j + 1, hl, h, h' => by
    have hb := h' 0 b (by omega) rfl
    rw [List.eraseIdx_cons_succ, List.filter_cons, if_pos hb, eraseIdx_eq_filter p l j (by simpa using hl) (fun b hb => h b (by simpa using hb)) (fun i b hi hb => h' (i + 1) b (by omega) (by simpa using hb))]

def keyNe (s : ByteArray) (e : MapEntry) : Bool := match e.key with | .string s' => s' != s | _ => true
theorem keyNe_of {s s' : ByteArray} {e : MapEntry} (h : e.key = .string s') : keyNe s e = (s' != s) := by simp [keyNe, h]

theorem nodup_getElem {β : Type} {l : List β} (h : l.Nodup) {i j : Nat} (hi : i < l.length) (hj : j < l.length) (e : l[i] = l[j]) : i = j := by
  rcases Nat.lt_trichotomy i j with h1 | h1 | h1
  · exact absurd e (List.pairwise_iff_getElem.1 h i j hi hj h1)
  · exact h1
  · exact absurd e.symm (List.pairwise_iff_getElem.1 h j i hj hi h1)

theorem nodup_at {l : List α} {i j : Nat} {x y : α} (hd : (l.map kf).Nodup) (hi : l[i]? = some x) (hj : l[j]? = some y) (hk : kf x = kf y) : i = j := by
  obtain ⟨hi', rfl⟩ := List.getElem?_eq_some_iff.1 hi
  obtain ⟨hj', rfl⟩ := List.getElem?_eq_some_iff.1 hj
  exact nodup_getElem hd (by simpa using hi') (by simpa using hj') (by simpa using hk)

theorem eraseIdx_eq_delL {l : List α} {j : Nat} {y : α} (hj : l[j]? = some y) (hd : (l.map kf).Nodup) : l.eraseIdx j = delL kf l (kf y) := by
  refine eraseIdx_eq_filter _ _ _ (List.getElem?_eq_some_iff.1 hj).1 (fun b hb => ?_) (fun i b hi hb => ?_)
  · rw [hj] at hb; cases hb; simp
  · have : kf b ≠ kf y := fun e => hi (nodup_at hd hb hj e)
    simpa using this
theorem delL_miss {l : List α} {s : ByteArray} (h : ∀ x ∈ l, kf x ≠ s) : delL kf l s = l := by
  unfold delL
  exact List.filter_eq_self.2 fun a ha => by simpa using h a ha
theorem delL_nodup {l : List α} {s : ByteArray} (hd : (l.map kf).Nodup) : ((delL kf l s).map kf).Nodup :=
  List.Sublist.nodup (List.Sublist.map _ List.filter_sublist) hd

theorem eraseIf_toList (es : Array MapEntry) {j : Nat} (h : j < es.size) : (es.eraseIdxIfInBounds j).toList = es.toList.eraseIdx j := by
  simp [Array.eraseIdxIfInBounds, h]

/-- A deletion, and which entry goes. -/
theorem MapIs.drop_who {w : World} {b : Nat} {l : List α} {es : Array MapEntry} {clock : Nat} (hb : w.heap[b]? = some (.map es clock)) (h : EntsAre kf vf es clock l) {t k e : TypeId} (ht : P.underlying t = some (.map k e)) (hk : P.underlying k = some .string) (s : ByteArray) (ty : TypeId) :
    ∃ es', (Builtin.delete_ #[t, k] ty #[.map (some b), .string s]).run P w = .ok (.tuple #[]) (setBlock w b (.map es' clock)) ∧ EntsAre kf vf es' clock (delL kf l s) ∧ es'.toList = es.toList.filter (keyNe s) := by
  obtain ⟨he, hp, hc, hd⟩ := h
  rcases findNow_string s es.toList l 0 he with ⟨j, y, hj, hy, hbf, hf⟩ | ⟨hn, hf⟩
  · have hlen : es.toList.length = l.length := by have := congrArg List.length he; simpa using this
    have hjl : j < es.size := by have := (List.getElem?_eq_some_iff.1 hj).1; simp at hlen; omega
    have hall : ∀ (i : Nat) (e : MapEntry), es.toList[i]? = some e → ∃ z, l[i]? = some z ∧ e.key = .string (kf z) := by
      intro i e hi
      have h1 := congrArg (fun m => (m[i]?).map Prod.fst) he
      simp only [List.getElem?_map, hi, Option.map_some, Option.map_map] at h1
      cases hz : l[i]? with
      | none => rw [hz] at h1; simp at h1
      | some z => rw [hz] at h1; simp only [Option.map_some, Function.comp] at h1; exact ⟨z, rfl, by simpa using h1⟩
    refine ⟨es.eraseIdxIfInBounds j, ?_, ⟨?_, ?_, ?_, delL_nodup hd⟩, ?_⟩
    · simp only [Nat.zero_add] at hf
      simp [Builtin.delete_, run_underlying ht, MapKept.run_getObj_map hb, run_checkKey_string hk, run_findKey_string hk s es.toList w hf, Result.andThen, MapKept.run_setObj_map _ hb, Go.ChangeMaps.setBlock]
    · rw [eraseIf_toList es hjl, ← hy, ← eraseIdx_eq_delL hj hd, List.eraseIdx_eq_take_drop_succ, List.eraseIdx_eq_take_drop_succ]
      simp only [List.map_append, List.map_take, List.map_drop, he]
    · rw [eraseIf_toList es hjl]; exact hp.sublist (List.eraseIdx_sublist _ _)
    · intro x hx
      rw [eraseIf_toList es hjl] at hx
      exact hc x ((List.eraseIdx_sublist _ _).subset hx)
    · rw [eraseIf_toList es hjl]
      refine eraseIdx_eq_filter _ _ _ (by simpa using hjl) (fun b hb => ?_) (fun i b hi hb => ?_)
      · obtain ⟨z, hz, hzk⟩ := hall j b hb
        rw [hj] at hz; cases hz
        rw [keyNe_of hzk, hy]; simp
      · obtain ⟨z, hz, hzk⟩ := hall i b hb
        have : kf z ≠ s := fun e => hi (nodup_at hd hz hj (e.trans hy.symm))
        rw [keyNe_of hzk]; simpa using this
  · refine ⟨es, ?_, ?_, ?_⟩
    · simp [Builtin.delete_, run_underlying ht, MapKept.run_getObj_map hb, run_checkKey_string hk, run_findKey_string hk s es.toList w hf, Result.andThen, MapKept.run_setObj_map _ hb, Go.ChangeMaps.setBlock]
    · rw [delL_miss hn]; exact ⟨he, hp, hc, hd⟩
    · refine (List.filter_eq_self.2 fun e hm => ?_).symm
      have h1 : (e.key, e.val) ∈ l.map (fun x => (Value.string (kf x), vf x)) := by rw [← he]; exact List.mem_map.2 ⟨e, hm, rfl⟩
      obtain ⟨z, hz, hzk⟩ := List.mem_map.1 h1
      simp only [Prod.mk.injEq] at hzk
      rw [keyNe_of hzk.1.symm]; simpa using hn z hz

theorem MapIs.drop {w : World} {b : Nat} {l : List α} (h : MapIs kf vf w b l) {t k e : TypeId} (ht : P.underlying t = some (.map k e)) (hk : P.underlying k = some .string) (s : ByteArray) (ty : TypeId) :
    ∃ w', (Builtin.delete_ #[t, k] ty #[.map (some b), .string s]).run P w = .ok (.tuple #[]) w' ∧ MapIs kf vf w' b (delL kf l s) ∧ Chg [b] w w' ∧ w'.heap.size = w.heap.size := by
  obtain ⟨es, clock, hb, he⟩ := h
  obtain ⟨es', hr, he', _⟩ := MapIs.drop_who hb he ht hk s ty
  exact ⟨_, hr, ⟨es', clock, heap_setBlock_same hb _, he'⟩, (Chg.refl _ _).setBlock _ _ (by simp), by simp [Go.ChangeMaps.setBlock]⟩

theorem EntsAre.length {es : Array MapEntry} {clock : Nat} {l : List α} (h : EntsAre kf vf es clock l) : es.size = l.length := by
  have := congrArg List.length h.1; simpa using this

theorem MapIs.len {w : World} {b : Nat} {l : List α} (h : MapIs kf vf w b l) {t k e : TypeId} (ht : P.underlying t = some (.map k e)) (ty : TypeId) :
    (Builtin.len_ #[t] ty #[.map (some b)]).run P w = .ok (.int .i64 (l.length : Int)) w := by
  obtain ⟨es, clock, hb, he⟩ := h
  simp [Builtin.len_, run_underlying ht, MapKept.run_getObj_map hb, Result.andThen, he.length, goInt]

/-! ranging -/
/-- Block r is an iterator over the map of block b with the entries l, of which todo are still to come. -/
def IterIs (kf : α → ByteArray) (vf : α → Value) (w : World) (b r : Nat) (l todo : List α) : Prop :=
  ∃ es clock since seen c0, w.heap[b]? = some (.map es clock) ∧ EntsAre kf vf es clock l ∧ w.heap[r]? = some (.mapIter (some b) since seen c0) ∧ (∀ x ∈ es.toList, x.born < since) ∧ since ≤ c0 ∧ since ≤ clock ∧
    (es.toList.filter fun e => !seen.contains e.born).map (fun e => (e.key, e.val)) = todo.map (fun x => (Value.string (kf x), vf x)) ∧ todo.Sublist l

theorem IterIs.map {w : World} {b r : Nat} {l todo : List α} (h : IterIs kf vf w b r l todo) : MapIs kf vf w b l := by
  obtain ⟨es, clock, _, _, _, hb, he, _⟩ := h; exact ⟨es, clock, hb, he⟩
theorem IterIs.sub {w : World} {b r : Nat} {l todo : List α} (h : IterIs kf vf w b r l todo) : todo.Sublist l := by
  obtain ⟨_, _, _, _, _, _, _, _, _, _, _, _, h⟩ := h; exact h
theorem IterIs.ne {w : World} {b r : Nat} {l todo : List α} (h : IterIs kf vf w b r l todo) : r ≠ b := by
  obtain ⟨es, clock, since, seen, c0, hb, _, hr, _⟩ := h
  intro e; rw [e, hb] at hr; cases hr
theorem IterIs.lt {w : World} {b r : Nat} {l todo : List α} (h : IterIs kf vf w b r l todo) : r < w.heap.size := by
  obtain ⟨es, clock, since, seen, c0, hb, _, hr, _⟩ := h; exact lt_of_heap hr
theorem IterIs.kept {w w' : World} {b r : Nat} {l todo : List α} {S : List Nat} (h : IterIs kf vf w b r l todo) (hc : Chg S w w') (hb : b ∉ S) (hr : r ∉ S) : IterIs kf vf w' b r l todo := by
  obtain ⟨es, clock, since, seen, c0, h1, h2, h3, h4⟩ := h
  exact ⟨es, clock, since, seen, c0, hc.at hb h1, h2, hc.at hr h3, h4⟩
theorem IterIs.left {w : World} {b r : Nat} {l todo : List α} (h : IterIs kf vf w b r l todo) : w.rangeLeft b r = todo.length := by
  obtain ⟨es, clock, since, seen, c0, hb, _, hr, _, _, _, ht, _⟩ := h
  have := congrArg List.length ht
  simp only [World.rangeLeft, hb, hr, leftOf]
  rw [← Array.length_toList, Array.toList_filter]
  simpa using this

theorem MapIs.range {w : World} {b : Nat} {l : List α} (h : MapIs kf vf w b l) {t k e : TypeId} (ht : P.underlying t = some (.map k e)) :
    ∃ w', (Instr.range t (.map (some b))).run P w = .ok (.pointer (some ⟨w.heap.size, 0, none⟩)) w' ∧ IterIs kf vf w' b w.heap.size l l ∧ Chg [] w w' ∧ w'.heap.size = w.heap.size + 1 := by
  obtain ⟨es, clock, hb, he⟩ := h
  refine ⟨_, run_range_map w t k e b es clock ht hb, ⟨es, clock, clock, #[], clock, blk_alloc hb, he, heap_alloc_new _ _, he.2.2.1, Nat.le_refl _, Nat.le_refl _, ?_, List.Sublist.refl _⟩, (Chg.refl _ _).alloc _, by simp⟩
  have hf : es.toList.filter (fun e => !(#[] : Array Nat).contains e.born) = es.toList := List.filter_eq_self.2 (by intro a _; simp)
  rw [hf]; exact he.1

theorem nodup_born {es : List MapEntry} (h : es.Pairwise (fun a b => a.born < b.born)) : (es.map (·.born)).Nodup := by
  rw [List.nodup_iff_pairwise_ne, List.pairwise_map]
  exact h.imp (fun h => by omega)

theorem filter_push {es : List MapEntry} {seen : Array Nat} (e0 : MapEntry) :
    es.filter (fun e => !(seen.push e0.born).contains e.born) = (es.filter (fun e => !seen.contains e.born)).filter (fun e => e.born != e0.born) := by
  rw [List.filter_filter]
  refine List.filter_congr fun x _ => ?_
  by_cases h1 : x.born = e0.born <;> simp [h1]

theorem filter_map_key {es : List MapEntry} {l : List α} (h : es.map (fun e => (e.key, e.val)) = l.map (fun x => (Value.string (kf x), vf x))) (p : MapEntry → Bool) (q : α → Bool)
    (hpq : ∀ (e : MapEntry) (x : α), e ∈ es → x ∈ l → e.key = .string (kf x) → p e = q x) : (es.filter p).map (fun e => (e.key, e.val)) = (l.filter q).map (fun x => (Value.string (kf x), vf x)) := by
  induction es generalizing l with
  | nil => cases l with
    | nil => rfl
    | cons => simp at h
  | cons e es ih =>
    cases l with
    | nil => simp at h
    | cons x l =>
      have h' := h
      simp only [List.map_cons, List.cons.injEq, Prod.mk.injEq] at h'
      have ih' := ih h'.2 (fun e x he hx => hpq e x (by simp [he]) (by simp [hx]))
      have hq := hpq e x (by simp) (by simp) h'.1.1
      simp only [List.filter_cons, hq]
      split
      · simp [h'.1.1, h'.1.2, ih']
      · exact ih'

/-- THE STEP: nothing is left, or some entry that is left comes out. -/
theorem IterIs.next {w : World} {b r : Nat} {l todo : List α} (h : IterIs kf vf w b r l todo) (ty : TypeId) :
    (todo = [] ∧ (Instr.next (.pointer (some ⟨r, 0, none⟩)) false ty).run P w = .ok (.tuple #[.bool false]) w) ∨
    ∃ x ∈ todo, ∃ w', (Instr.next (.pointer (some ⟨r, 0, none⟩)) false ty).run P w = .ok (.tuple #[.bool true, .string (kf x), vf x]) w' ∧ IterIs kf vf w' b r l (delL kf todo (kf x)) ∧ Chg [r] w w' ∧ w'.heap.size = w.heap.size ∧
      (Instr.entry (.pointer (some ⟨r, 0, none⟩))).run P w' = .ok (.tuple #[.string (kf x), vf x]) w' := by
  have hne := h.ne
  obtain ⟨es, clock, since, seen, c0, hb, he, hr, hold, hsc, hcl, htd, hsub⟩ := h
  rcases run_next_at (P := P) w ty r b since c0 seen es clock hr hb hold hsc with ⟨h0, hrun⟩ | ⟨e, hm, w1, hw1, hrun⟩
  · refine .inl ⟨?_, hrun⟩
    have := congrArg List.length htd
    unfold leftOf at h0
    rw [← Array.length_toList, Array.toList_filter] at h0
    simp only [List.length_map] at this
    exact List.eq_nil_of_length_eq_zero (by rw [← this]; exact h0)
  · right
    have hm' : e ∈ es.toList.filter (fun e => !seen.contains e.born) := by unfold leftOf at hm; rw [Array.toList_filter] at hm; exact hm
    have hmem : e ∈ es.toList := (List.mem_filter.1 hm').1
    obtain ⟨j, hj, hje⟩ := List.mem_iff_getElem.1 hm'
    have hex : ∃ x ∈ todo, e.key = .string (kf x) ∧ e.val = vf x := by
      have h1 := congrArg (fun m => m[j]?) htd
      simp only [List.getElem?_map, List.getElem?_eq_getElem hj, hje, Option.map_some] at h1
      cases hx : todo[j]? with
      | none => rw [hx] at h1; simp at h1
      | some x =>
        rw [hx] at h1
        simp only [Option.map_some, Option.some.injEq, Prod.mk.injEq] at h1
        exact ⟨x, List.mem_of_getElem? hx, h1.1, h1.2⟩
    obtain ⟨x, hx, hk, hv⟩ := hex
    have hw1h : w1.heap = w.heap := by rcases hw1 with rfl | rfl <;> rfl
    have hb1 : w1.heap[b]? = some (.map es clock) := by rw [hw1h]; exact hb
    have hr1 : w1.heap[r]? = some (.mapIter (some b) since seen c0) := by rw [hw1h]; exact hr
    have hb2 : (setBlock w1 r (.mapIter (some b) since (seen.push e.born) clock)).heap[b]? = some (.map es clock) := by
      simp only [Go.ChangeMaps.setBlock, Array.getElem?_setIfInBounds, if_neg hne]; exact hb1
    have hr2 : (setBlock w1 r (.mapIter (some b) since (seen.push e.born) clock)).heap[r]? = some (.mapIter (some b) since (seen.push e.born) clock) := by
      simp only [Go.ChangeMaps.setBlock, Array.getElem?_setIfInBounds, if_pos, lt_of_heap hr1]
    refine ⟨x, hx, setBlock w1 r (.mapIter (some b) since (seen.push e.born) clock), by rw [hrun, hk, hv], ⟨es, clock, since, seen.push e.born, clock, hb2, he, hr2, hold, hcl, hcl, ?_, ?_⟩, ?_, by simp [Go.ChangeMaps.setBlock, hw1h], ?_⟩
    · rw [filter_push e]
      unfold delL
      refine filter_map_key htd (fun e' => e'.born != e.born) (fun x' => kf x' != kf x) fun e' x' he' hx' hk' => ?_
      show (e'.born != e.born) = (kf x' != kf x)
      have hmem' : e' ∈ es.toList := (List.mem_filter.1 he').1
      by_cases hkk : kf x' = kf x
      · have : e' = e := by
          have hdn : (es.toList.map (·.key)).Nodup := by
            have h2 := congrArg (fun m => m.map Prod.fst) he.1
            simp only [List.map_map] at h2
            have h3 : es.toList.map (·.key) = (l.map kf).map Value.string := by rw [List.map_map]; exact h2
            rw [h3, List.nodup_iff_pairwise_ne, List.pairwise_map]
            exact (List.nodup_iff_pairwise_ne.1 he.2.2.2).imp (fun h e => h (by injection e))
          rw [List.nodup_iff_pairwise_ne, List.pairwise_map] at hdn
          exact Go.entry_eq_of_key hdn hmem' hmem (by rw [hk', hk, hkk])
        subst this
        simp [hkk]
      · have : e'.born ≠ e.born := by
          intro hbn
          have hbd := nodup_born he.2.1
          have : e' = e := by
            obtain ⟨i1, hi1, rfl⟩ := List.mem_iff_getElem.1 hmem'
            obtain ⟨i2, hi2, rfl⟩ := List.mem_iff_getElem.1 hmem
            have := nodup_getElem hbd (by simpa using hi1) (by simpa using hi2) (by simpa using hbn)
            subst this; rfl
          subst this
          rw [hk] at hk'
          injection hk' with h5
          exact hkk h5.symm
        rw [bne_iff_ne.2 this, bne_iff_ne.2 hkk]
    · exact List.filter_sublist.trans hsub
    · have hc1 : Chg [r] w w1 := by rcases hw1 with rfl | rfl <;> first | exact Chg.refl _ _ | exact (Chg.refl _ _).drew
      exact hc1.setBlock _ _ (by simp)
    · have := run_entry_at (P := P) _ r b since seen es clock e hr2 hb2 hmem (nodup_born he.2.1)
      rw [this, hk, hv]

/-- The deletion of a key that has come out already, or of any. -/
theorem IterIs.drop {w : World} {b r : Nat} {l todo : List α} (h : IterIs kf vf w b r l todo) {t k e : TypeId} (ht : P.underlying t = some (.map k e)) (hk : P.underlying k = some .string) (s : ByteArray) (ty : TypeId) :
    ∃ w', (Builtin.delete_ #[t, k] ty #[.map (some b), .string s]).run P w = .ok (.tuple #[]) w' ∧ IterIs kf vf w' b r (delL kf l s) (delL kf todo s) ∧ Chg [b] w w' ∧ w'.heap.size = w.heap.size := by
  have hne := h.ne
  obtain ⟨es, clock, since, seen, c0, hb, he, hr, hold, hsc, hcl, htd, hsub⟩ := h
  obtain ⟨es', hrun, he', hwho⟩ := MapIs.drop_who hb he ht hk s ty
  refine ⟨_, hrun, ⟨es', clock, since, seen, c0, heap_setBlock_same hb _, he', by rw [heap_setBlock_other hb _ hne]; exact hr, ?_, hsc, hcl, ?_, hsub.filter _⟩, (Chg.refl _ _).setBlock _ _ (by simp), by simp [Go.ChangeMaps.setBlock]⟩
  · intro x hx
    rw [hwho] at hx
    exact hold x (List.mem_filter.1 hx).1
  · rw [hwho, List.filter_filter]
    have : es.toList.filter (fun a => (!seen.contains a.born) && keyNe s a) = (es.toList.filter (fun e => !seen.contains e.born)).filter (keyNe s) := by
      rw [List.filter_filter]; exact List.filter_congr fun x _ => Bool.and_comm _ _
    rw [this]
    unfold delL
    exact filter_map_key htd _ _ fun e' x' _ _ hk' => keyNe_of hk'

end maps

/-! rows of structs: a slice of the call's own, as a list -/
section rows
variable {α : Type} {cf : α → List Value} {sz : Nat}

/-- The slice value v is nil and l empty, or v starts at the head of a row in a block from base on, not frozen, whose first cells are those of l's elements (sz cells each). -/
def RowOf (cf : α → List Value) (sz : Nat) (w : World) (base : Nat) (e : TypeId) (v : Value) (l : List α) : Prop := w.ownsRow base e sz v l.length (l.flatMap cf)

theorem flatMap_len (hc : ∀ x, (cf x).length = sz) (l : List α) : (l.flatMap cf).length = l.length * sz := by
  induction l with
  | nil => simp
  | cons x l ih => rw [List.flatMap_cons, List.length_append, hc, ih, List.length_cons, Nat.add_mul]; omega

theorem flatMap_at (hc : ∀ x, (cf x).length = sz) (l : List α) (k : Nat) (h : k < l.length) (j : Nat) (hj : j < sz) : (l.flatMap cf)[k * sz + j]? = (cf l[k])[j]? := by
  induction l generalizing k with
  | nil => simp at h
  | cons x l ih =>
    cases k with
    | zero => simp only [List.flatMap_cons, List.getElem_cons_zero, Nat.zero_mul, Nat.zero_add]; rw [List.getElem?_append_left (by rw [hc]; exact hj)]
    | succ k =>
      simp only [List.flatMap_cons, List.getElem_cons_succ]
      rw [List.getElem?_append_right (by rw [hc, Nat.add_mul]; omega), ← ih k (by simpa using h), hc]
      congr 1
      rw [Nat.add_mul]; omega

theorem RowOf.nil (w : World) (base : Nat) (e : TypeId) : RowOf cf sz w base e (.slice none 0 0) [] := World.ownsRow_nil _ _ _ _
theorem RowOf.kept {w w' : World} {base : Nat} {e : TypeId} {v : Value} {l : List α} {S : List Nat} (h : RowOf cf sz w base e v l) (hc : Chg S w w') (hn : ∀ g, v.ownBlock = some g → g ∉ S) : RowOf cf sz w' base e v l := by
  obtain ⟨h1, h2⟩ := h
  refine ⟨h1, ?_⟩
  rcases h2 with h2 | ⟨g, cap, cur, hv, hg, hh, r⟩
  · exact .inl h2
  · exact .inr ⟨g, cap, cur, hv, hg, hc.at (hn g (by rw [hv]; rfl)) hh, r⟩
theorem RowOf.mono {w : World} {base base' : Nat} {e : TypeId} {v : Value} {l : List α} (h : RowOf cf sz w base e v l) (hb : base' ≤ base) : RowOf cf sz w base' e v l := by
  obtain ⟨h1, h2⟩ := h
  refine ⟨h1, ?_⟩
  rcases h2 with h2 | ⟨g, cap, cur, hv, hg, r⟩
  · exact .inl h2
  · exact .inr ⟨g, cap, cur, hv, Nat.le_trans hb hg, r⟩
theorem RowOf.block {w : World} {base : Nat} {e : TypeId} {v : Value} {l : List α} (h : RowOf cf sz w base e v l) : ∀ g, v.ownBlock = some g → base ≤ g ∧ g < w.heap.size := World.ownsRow.lt h
/-- A row that is not nil: where it lies, and its cells. -/
theorem RowOf.at {w : World} {base : Nat} {e : TypeId} {v : Value} {l : List α} (h : RowOf cf sz w base e v l) (hc : ∀ x, (cf x).length = sz) : (v = .slice none 0 0 ∧ l = []) ∨
    ∃ g cap, v = .slice (some ⟨g, 0, none⟩) l.length cap ∧ l.length ≤ cap ∧ cap ≤ maxLen ∧ (∀ k (hk : k < l.length) j, j < sz → w.cell? ⟨g, k * sz + j, none⟩ = (cf l[k])[j]?) ∧ (∀ i, w.frozen? ⟨g, i, none⟩ = false) ∧ base ≤ g ∧ g < w.heap.size := by
  rcases h.2 with ⟨h2, h3⟩ | ⟨g, cap, cur, hv, hg, hh, h4, h5, h6, h7⟩
  · exact .inl ⟨h2, List.eq_nil_of_length_eq_zero h3⟩
  · refine .inr ⟨g, cap, hv, h4, h5, fun k hk j hj => ?_, fun i => blk_free hh i, hg, lt_of_heap hh⟩
    rw [blk_cell hh, ← flatMap_at hc l k hk j hj, ← h7, List.getElem?_take, if_pos ?_, Array.getElem?_toList]
    calc k * sz + j < k * sz + sz := by omega
      _ = (k + 1) * sz := by rw [Nat.add_mul]; omega
      _ ≤ l.length * sz := Nat.mul_le_mul_right _ hk
theorem RowOf.shape {w : World} {base : Nat} {e : TypeId} {v : Value} {l : List α} (h : RowOf cf sz w base e v l) : ∃ a cap, v = .slice a l.length cap := by
  rcases h.2 with ⟨h2, h3⟩ | ⟨g, cap, cur, hv, _⟩
  · exact ⟨none, 0, by rw [h2, h3]⟩
  · exact ⟨_, _, hv⟩

/-- 'out = append(out, x)', x laid in a new block. -/
theorem wpl_append {P : Program} {w : World} {ops : Array Oper} {rest : List Oper} {o : Oper} {a : Act} {Q : Exit → Act → World → Prop} (hgd : o.guard = none) (s x : Operand) (t : TypeId)
    (ho : o.op = .call { callee := .builtin .append, args := #[s, x], argTypes := #[t, t] }) (base : Nat) (e : TypeId) (z : Value) (bytes : Nat) (ht : P.underlying t = some (.slice e)) (hi : (P.info? e).map (fun i => (i.zero, i.size, i.bytes)) = some (some z, sz, bytes))
    (hzs : z.cells.size = sz) (hsz : 0 < sz) (hc : ∀ x, (cf x).length = sz) (h1 : ∀ x, ∀ u ∈ cf x, u.oneCell' = true) (v : Value) (l : List α) (hs : a.eval s = v) (hown : RowOf cf sz w base e v l)
    (g c : Nat) (y : α) (cur : Array Value) (tt : TypeId) (fr : Nat × Nat) (hx : a.eval x = .slice (some ⟨g, 0, none⟩) 1 c) (hnew : w.heap[g]? = some (.cells cur tt fr)) (hcur : cur.toList = cf y) (h63 : l.length + 1 ≤ maxLen) (hbytes : (l.length + 1) * bytes ≤ 140737488355328) (hbase : base ≤ w.heap.size)
    (h : ∀ v' w', RowOf cf sz w' base e v' (l ++ [y]) → w.grownBy w' v.ownBlock → wpList P ops Q rest (a.put o.dst v') w') : wpList P ops Q (o :: rest) a w := by
  obtain ⟨i, hi0, hz0, hz1, hz2⟩ := info_parts hi
  refine wpList_append_own _ hgd s x t ho base e i z sz bytes ht hi0 hz0 hz1 hz2 hzs hsz v l.length (l.flatMap cf) hs hown ⟨g, 0, none⟩ 1 c (cf y) hx (by rw [hc]; omega) ?_ (h1 y) h63 hbytes hbase ?_
  · intro j u hj
    have : (⟨g, 0, none⟩ : Addr).add j = ⟨g, j, none⟩ := by
      unfold Addr.add; split
      · rename_i e; rw [e]
      · simp
    rw [this, blk_cell hnew, ← Array.getElem?_toList, hcur]; exact hj
  · intro v' w' hown' hg _
    exact h v' w' (by unfold RowOf; simpa using hown') hg

theorem Chg.ofRow {w w' : World} {v : Value} (h : w.grownBy w' v.ownBlock) : Chg v.ownBlock.toList w w' :=
  ⟨h.os, h.tape, h.output, h.size, fun k hk hn => h.block k hk (fun e => hn (by rw [← e]; simp))⟩
end rows

/-- A callee that changes nothing that was there, met inside a region that draws its order. -/
theorem calls_regrown {P : Program} {f : FuncId} {args : Array Value} {w : World} {d : Nat} {os : Array Obj} {v : Value}
    (h : Calls P f args (Go.Sort.grow (redrawn w d) os) fun e w' => e = .returned v ∧ Chg [] (Go.Sort.grow (redrawn w d) os) w') : Calls P f args (Go.Sort.grow (redrawn w d) os) fun e w'' => e = .returned v ∧ ∃ p : Regrown, w'' = Go.Sort.grow (redrawn w p.d) p.os :=
  Calls.regrown_of (h.mono fun _ _ ⟨he, hc⟩ => ⟨he, hc.toBelow (Nat.le_refl _) (by simp)⟩)

theorem chg_regrown (w : World) (d : Nat) (os : Array Obj) : Chg [] w (Go.Sort.grow (redrawn w d) os) := Chg.ofBelow (below_regrown w d os)

/-! at the operations, for the walk -/
section ops
variable {α : Type} {kf : α → ByteArray} {vf : α → Value} {P : Program} (w : World) {ops : Array Oper} {rest : List Oper} {o : Oper} {a : Act} {Q : Exit → Act → World → Prop}

theorem wpl_lookup_ok (hg : o.guard = none) (m x : Operand) (t : TypeId) (hop : o.op = Op.lookup t m x true) (k e : TypeId) (ht : P.underlying t = some (.map k e)) (hk : P.underlying k = some .string) {z : Value} (hz : (zeroValue e).run P w = .ok z w)
    (b : Nat) (l : List α) (hm : a.eval m = .map (some b)) (h : MapIs kf vf w b l) (s : ByteArray) (hx : a.eval x = .string s)
    (hK : wpList P ops Q rest (a.put o.dst (.tuple #[((lookL kf l s).map vf).getD z, .bool (lookL kf l s).isSome])) w) : wpList P ops Q (o :: rest) a w := by
  refine wpList_plain hg fun K' hK' => ?_
  have hrun := h.lookup ht hk hz s true
  unfold Oper.wp
  simp only [if_true] at hrun
  simp [execOp, hop, hm, hx, hrun, Result.andThen]
  exact hK' _ _ hK

theorem wpl_lookup_hit (hg : o.guard = none) (m x : Operand) (t : TypeId) (hop : o.op = Op.lookup t m x true) (k e : TypeId) (ht : P.underlying t = some (.map k e)) (hk : P.underlying k = some .string) {z : Value} (hz : (zeroValue e).run P w = .ok z w)
    (b : Nat) (l : List α) (hm : a.eval m = .map (some b)) (h : MapIs kf vf w b l) (s : ByteArray) (hx : a.eval x = .string s) (r : α) (hr : lookL kf l s = some r) (v : Value) (hv : vf r = v)
    (hK : wpList P ops Q rest (a.put o.dst (.tuple #[v, .bool true])) w) : wpList P ops Q (o :: rest) a w :=
  wpl_lookup_ok w hg m x t hop k e ht hk hz b l hm h s hx (by rw [hr]; simpa [hv] using hK)

theorem wpl_lookup_miss (hg : o.guard = none) (m x : Operand) (t : TypeId) (hop : o.op = Op.lookup t m x true) (k e : TypeId) (ht : P.underlying t = some (.map k e)) (hk : P.underlying k = some .string) {z : Value} (hz : (zeroValue e).run P w = .ok z w)
    (b : Nat) (l : List α) (hm : a.eval m = .map (some b)) (h : MapIs kf vf w b l) (s : ByteArray) (hx : a.eval x = .string s) (hr : lookL kf l s = none)
    (hK : wpList P ops Q rest (a.put o.dst (.tuple #[z, .bool false])) w) : wpList P ops Q (o :: rest) a w :=
  wpl_lookup_ok w hg m x t hop k e ht hk hz b l hm h s hx (by rw [hr]; simpa using hK)

theorem wpl_lookup (hg : o.guard = none) (m x : Operand) (t : TypeId) (hop : o.op = Op.lookup t m x false) (k e : TypeId) (ht : P.underlying t = some (.map k e)) (hk : P.underlying k = some .string) {z : Value} (hz : (zeroValue e).run P w = .ok z w)
    (b : Nat) (l : List α) (hm : a.eval m = .map (some b)) (h : MapIs kf vf w b l) (s : ByteArray) (hx : a.eval x = .string s)
    (hK : wpList P ops Q rest (a.put o.dst (((lookL kf l s).map vf).getD z)) w) : wpList P ops Q (o :: rest) a w := by
  refine wpList_plain hg fun K' hK' => ?_
  have hrun := h.lookup ht hk hz s false
  unfold Oper.wp
  simp only [Bool.false_eq_true, if_false] at hrun
  simp [execOp, hop, hm, hx, hrun, Result.andThen]
  exact hK' _ _ hK

theorem wpl_store (hg : o.guard = none) (m x v : Operand) (t : TypeId) (hop : o.op = Op.mapUpdate t m x v) (k e : TypeId) (ht : P.underlying t = some (.map k e)) (hk : P.underlying k = some .string)
    (b : Nat) (l : List α) (hm : a.eval m = .map (some b)) (h : MapIs kf vf w b l) (y : α) (hx : a.eval x = .string (kf y)) (hv : a.eval v = vf y)
    (hK : ∀ w', MapIs kf vf w' b (putL kf l y) → Chg [b] w w' → w'.heap.size = w.heap.size → wpList P ops Q rest (a.put o.dst undef) w') : wpList P ops Q (o :: rest) a w := by
  refine wpList_plain hg fun K' hK' => ?_
  obtain ⟨w', hrun, h1, h2, h3⟩ := h.store ht hk y
  unfold Oper.wp
  simp [execOp, hop, hm, hx, hv, hrun, Result.andThen]
  exact hK' _ _ (hK w' h1 h2 h3)

theorem wpl_delete (hg : o.guard = none) (m x : Operand) (t k : TypeId) (hop : o.op = Op.call { callee := Callee.builtin Builtin.delete, args := #[m, x], argTypes := #[t, k] }) (e : TypeId) (ht : P.underlying t = some (.map k e)) (hk : P.underlying k = some .string)
    (b : Nat) (l : List α) (hm : a.eval m = .map (some b)) (h : MapIs kf vf w b l) (s : ByteArray) (hx : a.eval x = .string s)
    (hK : ∀ w', MapIs kf vf w' b (delL kf l s) → Chg [b] w w' → w'.heap.size = w.heap.size → wpList P ops Q rest (a.put o.dst (.tuple #[])) w') : wpList P ops Q (o :: rest) a w := by
  refine wpList_plain hg fun K' hK' => ?_
  obtain ⟨w', hrun, h1, h2, h3⟩ := h.drop ht hk s o.type
  unfold Oper.wp
  simp [execOp, hop, resolve, invoke, builtin, hm, hx, hrun, Result.andThen]
  exact hK' _ _ (hK w' h1 h2 h3)

theorem wpl_len (hg : o.guard = none) (m : Operand) (t : TypeId) (hop : o.op = Op.call { callee := Callee.builtin Builtin.len, args := #[m], argTypes := #[t] }) (k e : TypeId) (ht : P.underlying t = some (.map k e))
    (b : Nat) (l : List α) (hm : a.eval m = .map (some b)) (h : MapIs kf vf w b l) (hK : wpList P ops Q rest (a.put o.dst (.int .i64 (l.length : Int))) w) : wpList P ops Q (o :: rest) a w := by
  refine wpList_plain hg fun K' hK' => ?_
  unfold Oper.wp
  simp [execOp, hop, resolve, invoke, builtin, hm, h.len ht o.type, Result.andThen]
  exact hK' _ _ hK

theorem wpl_range (hg : o.guard = none) (m : Operand) (t : TypeId) (hop : o.op = Op.range t m) (k e : TypeId) (ht : P.underlying t = some (.map k e))
    (b : Nat) (l : List α) (hm : a.eval m = .map (some b)) (h : MapIs kf vf w b l)
    (hK : ∀ w', IterIs kf vf w' b w.heap.size l l → Chg [] w w' → w'.heap.size = w.heap.size + 1 → wpList P ops Q rest (a.put o.dst (.pointer (some ⟨w.heap.size, 0, none⟩))) w') : wpList P ops Q (o :: rest) a w := by
  refine wpList_plain hg fun K' hK' => ?_
  obtain ⟨w', hrun, h1, h2, h3⟩ := h.range ht
  unfold Oper.wp
  simp [execOp, hop, hm, hrun, Result.andThen]
  exact hK' _ _ (hK w' h1 h2 h3)

theorem wpl_next (hg : o.guard = none) (it : Operand) (hop : o.op = Op.next it false) (b r : Nat) (l todo : List α) (hit : a.eval it = .pointer (some ⟨r, 0, none⟩)) (h : IterIs kf vf w b r l todo)
    (hDone : todo = [] → wpList P ops Q rest (a.put o.dst (.tuple #[.bool false])) w)
    (hMore : ∀ (x : α) (w' : World), x ∈ todo → IterIs kf vf w' b r l (delL kf todo (kf x)) → Chg [r] w w' → w'.heap.size = w.heap.size → (Instr.entry (.pointer (some ⟨r, 0, none⟩))).run P w' = .ok (.tuple #[.string (kf x), vf x]) w' →
      wpList P ops Q rest (a.put o.dst (.tuple #[.bool true, .string (kf x), vf x])) w') : wpList P ops Q (o :: rest) a w := by
  refine wpList_plain hg fun K' hK' => ?_
  unfold Oper.wp
  rcases h.next (P := P) o.type with ⟨h0, hrun⟩ | ⟨x, hx, w', hrun, h1, h2, h3, h4⟩
  · simp [execOp, hop, hit, hrun, Result.andThen]
    exact hK' _ _ (hDone h0)
  · simp [execOp, hop, hit, hrun, Result.andThen]
    exact hK' _ _ (hMore x w' hx h1 h2 h3 h4)

theorem wpl_delete_iter (hg : o.guard = none) (m x : Operand) (t k : TypeId) (hop : o.op = Op.call { callee := Callee.builtin Builtin.delete, args := #[m, x], argTypes := #[t, k] }) (e : TypeId) (ht : P.underlying t = some (.map k e)) (hk : P.underlying k = some .string)
    (b r : Nat) (l todo : List α) (hm : a.eval m = .map (some b)) (h : IterIs kf vf w b r l todo) (s : ByteArray) (hx : a.eval x = .string s)
    (hK : ∀ w', IterIs kf vf w' b r (delL kf l s) (delL kf todo s) → Chg [b] w w' → w'.heap.size = w.heap.size → wpList P ops Q rest (a.put o.dst (.tuple #[])) w') : wpList P ops Q (o :: rest) a w := by
  refine wpList_plain hg fun K' hK' => ?_
  obtain ⟨w', hrun, h1, h2, h3⟩ := h.drop ht hk s o.type
  unfold Oper.wp
  simp [execOp, hop, resolve, invoke, builtin, hm, hx, hrun, Result.andThen]
  exact hK' _ _ (hK w' h1 h2 h3)

end ops
end Go.Proofs.YtehjalgogjkdlaaDoor

namespace Go.Proofs.YtehjalgogjkdlaaDoor
set_option linter.unusedVariables false
set_option linter.unusedSimpArgs false
open Go.RowKit Go.ChangeShapes Go.WideShapes Go.Deep

/-- The slice at a holds the elements of l (sz cells each). -/
def SlIs {α : Type} (cf : α → List Value) (sz : Nat) (w : World) (a : Option Addr) (len : Nat) (l : List α) : Prop :=
  l.length = len ∧ ∀ k (hk : k < l.length), ∃ b off, a = some ⟨b, off, none⟩ ∧ b < w.heap.size ∧ ∀ j, j < sz → w.cell? ⟨b, off + k * sz + j, none⟩ = (cf l[k])[j]?

theorem SlIs.kept {α : Type} {cf : α → List Value} {sz : Nat} {w w' : World} {a : Option Addr} {len : Nat} {l : List α} (h : SlIs cf sz w a len l) (hc : Chg [] w w') : SlIs cf sz w' a len l :=
  ⟨h.1, fun k hk => by
    obtain ⟨b, off, h1, h2, h3⟩ := h.2 k hk
    refine ⟨b, off, h1, hc.lt h2, fun j hj => ?_⟩
    rw [← h3 j hj]
    exact World.cell?_of_block (w := w) (hc.block b h2 (by simp))⟩
theorem SlIs.below {α : Type} {cf : α → List Value} {sz : Nat} {w w' : World} {a : Option Addr} {len : Nat} {l : List α} (h : SlIs cf sz w a len l) (hc : Below w.heap.size w w') : SlIs cf sz w' a len l := h.kept (Chg.ofBelow hc)

theorem choose_list {α : Type} (n : Nat) (P : Nat → α → Prop) (h : ∀ i, i < n → ∃ x, P i x) : ∃ l : List α, l.length = n ∧ ∀ i (hi : i < l.length), P i l[i] := by
  induction n with
  | zero => exact ⟨[], rfl, fun i hi => by simp at hi⟩
  | succ n ih =>
    obtain ⟨l, hl, hp⟩ := ih (fun i hi => h i (by omega))
    obtain ⟨x, hx⟩ := h n (by omega)
    refine ⟨l ++ [x], by simp [hl], fun i hi => ?_⟩
    by_cases hin : i < l.length
    · rw [List.getElem_append_left hin]; exact hp i hin
    · have : i = n := by simp at hi; omega
      subst this
      rw [List.getElem_append_right (by omega)]
      simpa [hl] using hx

section
variable {H : Type} {enc : TypeId × Value → H} {P : Program} {w : World} {base : Nat} {spare : Nat → Bool} {held : Bool}

theorem open_slice_fields {t e : TypeId} {fs : Array Field} {fuel : Nat} {cs : List Value} {x : DataW H × List MemPlace} (ht : P.underlying t = some (.slice e)) (he : P.underlying e = some (.struct fs))
    (hone : oneCellFields P fs = true) (hC : P.cellsOf e = fs.size) (h : DataW.trod enc P w base spare held fuel t cs = some x) :
    (cs = [.slice none 0 0]) ∨
    ∃ (a : Addr) (len cap m : Nat), cs = [.slice (some a) len cap] ∧ len ≤ cap ∧ cap ≤ maxLen ∧ len ≤ m ∧
      ∀ i, i < m → ∃ (ys : List (DataW H × List MemPlace)) (n : Nat), ys.length = fs.size ∧
        ∀ (j : Nat) (f : Field), fs[j]? = some f → ∃ (v : Value) (y : DataW H × List MemPlace), w.cell? (a.add (i * fs.size + j)) = some v ∧ ys[j]? = some y ∧ DataW.trod enc P w base spare held n f.type [v] = some y := by
  rcases open_slice ht h with h0 | ⟨a, len, cap, m, n, D, Pl, hcs, hb, hl, hm, hmm, hx, hi⟩
  · exact .inl h0.1
  · refine .inr ⟨a, len, cap, m, hcs, hl, hm, by rw [hmm]; split <;> omega, fun i him => ?_⟩
    obtain ⟨cs', hc, ht'⟩ := hi i him
    rw [hC] at hc
    obtain ⟨ys, n', hn', hy, hlen, hyl, hf⟩ := DataW.trod_struct he ht'
    obtain ⟨_, hcl, hat⟩ := World.cells?_some hc
    refine ⟨ys, n', hyl, fun j f hj => ?_⟩
    obtain ⟨ho, hk⟩ := hone_of hone j f hj
    have hjl : j < fs.size := (Array.getElem?_eq_some_iff.1 hj).1
    have hcell := hat j hjl
    have hv : cs'[j]? = some (cs'[j]'(by omega)) := List.getElem?_eq_getElem (by omega)
    have h1 := hf j f hj
    rw [ho, hk] at h1
    have hone' : (cs'.drop j).take 1 = [cs'[j]'(by omega)] := by
      rw [List.drop_eq_getElem_cons (by omega)]
      rfl
    rw [hone'] at h1
    have hys : ys[j]? = some (ys[j]'(by omega)) := List.getElem?_eq_getElem (by omega)
    refine ⟨_, _, ?_, hys, h1.trans hys⟩
    rw [← Go.Deep.add_add, hcell, hv]

/-- A slice of structs that came in, as a list: dec says what the fields' readings make of an element. -/
theorem open_sl {α : Type} (cf : α → List Value) (good : α → Prop) {t e : TypeId} {fs : Array Field} {a : Option Addr} {len cap : Nat} {d : DataW H} {ps : List MemPlace} (ht : P.underlying t = some (.slice e)) (he : P.underlying e = some (.struct fs))
    (hone : oneCellFields P fs = true) (hC : P.cellsOf e = fs.size) (hpos : 0 < fs.size) (hcf : ∀ x, (cf x).length = fs.size)
    (dec : ∀ f : Nat → Value, (∀ (j : Nat) (fd : Field), fs[j]? = some fd → ∃ (y : DataW H × List MemPlace) (n : Nat), DataW.trod enc P w base spare held n fd.type [f j] = some y) → ∃ x : α, good x ∧ ∀ j, j < fs.size → (cf x)[j]? = some (f j))
    (h : DataW.Trod enc P w base spare held t (.slice a len cap) d ps) : ∃ l : List α, SlIs cf fs.size w a len l ∧ (∀ x ∈ l, good x) ∧ len ≤ maxLen := by
  obtain ⟨fuel, hf⟩ := h
  rcases open_slice_fields ht he hone hC hf with hcs | ⟨x, l, c, m, hcs, hl, hm, hlm, hi⟩
  · simp [Value.cells] at hcs
    obtain ⟨rfl, rfl, rfl⟩ := hcs
    exact ⟨[], ⟨rfl, fun k hk => by simp at hk⟩, by simp, Nat.zero_le _⟩
  · simp [Value.cells] at hcs
    obtain ⟨rfl, rfl, rfl⟩ := hcs
    have hstep : ∀ i, i < len → ∃ y : α, good y ∧ ∀ j, j < fs.size → w.cell? (x.add (i * fs.size + j)) = (cf y)[j]? := by
      intro i hin
      obtain ⟨ys, n, hys, hfd⟩ := hi i (by omega)
      have hval : ∀ j, j < fs.size → ∃ v, w.cell? (x.add (i * fs.size + j)) = some v := by
        intro j hj
        obtain ⟨v, y, h1, _⟩ := hfd j fs[j] (by simp [hj])
        exact ⟨v, h1⟩
      obtain ⟨y, hg, hy⟩ := dec (fun j => (w.cell? (x.add (i * fs.size + j))).getD (.bool false)) (fun j fd hj => by
        obtain ⟨v, y, h1, h2, h3⟩ := hfd j fd hj
        exact ⟨y, n, by simpa [h1] using h3⟩)
      refine ⟨y, hg, fun j hj => ?_⟩
      obtain ⟨v, hv⟩ := hval j hj
      rw [hy j hj, hv]; rfl
    obtain ⟨l, hll, hp⟩ := choose_list len _ hstep
    refine ⟨l, ⟨hll, fun k hk => ?_⟩, fun y hy => ?_, Nat.le_trans hl hm⟩
    · obtain ⟨b, off, spot⟩ := x
      have h0 := (hp 0 (by omega)).2 0 hpos
      have hsp : spot = none := by
        cases spot with
        | none => rfl
        | some s =>
          exfalso
          have e0 : (⟨b, off, some s⟩ : Addr).add (0 * fs.size + 0) = ⟨b, off, some s⟩ := by simp [Addr.add]
          rw [e0] at h0
          have : w.cell? ⟨b, off, some s⟩ = none := by unfold World.cell?; split <;> simp
          rw [this] at h0
          have hlt : (cf l[0])[0]? = some ((cf l[0])[0]'(by rw [hcf]; exact hpos)) := List.getElem?_eq_getElem _
          rw [hlt] at h0; cases h0
      subst hsp
      have hadd : ∀ m, (⟨b, off, none⟩ : Addr).add m = ⟨b, off + m, none⟩ := by
        intro m; unfold Addr.add; split
        · rename_i e; rw [e]; rfl
        · rfl
      refine ⟨b, off, rfl, ?_, fun j hj => ?_⟩
      · have h1 := (hp k hk).2 0 hpos
        have hlt : (cf l[k])[0]? = some ((cf l[k])[0]'(by rw [hcf]; exact hpos)) := List.getElem?_eq_getElem _
        rw [hlt] at h1
        exact World.block_lt_of_cell? w _ (by rw [hadd] at h1; exact h1)
      · rw [← (hp k hk).2 j hj, hadd, Nat.add_assoc]
    · obtain ⟨k, hk, rfl⟩ := List.mem_iff_getElem.1 hy
      exact (hp k hk).1

/-- A struct of one-cell fields that came in by value. -/
theorem open_st {α : Type} (cf : α → List Value) (good : α → Prop) {r : Reach} {b0 : Nat} {t : TypeId} {fs : Array Field} {v : Value} {d : DataW H} {ps : List MemPlace} (ht : P.underlying t = some (.struct fs)) (hone : oneCellFields P fs = true) (hC : P.cellsOf t = fs.size)
    (hcf : ∀ x, (cf x).length = fs.size)
    (dec : ∀ f : Nat → Value, (∀ (j : Nat) (fd : Field), fs[j]? = some fd → ∃ (y : DataW H × List MemPlace) (n : Nat), DataW.trod enc P w base spare held n fd.type [f j] = some y) → ∃ x : α, good x ∧ ∀ j, j < fs.size → (cf x)[j]? = some (f j))
    (hv : Value.okWide P w r b0 t v) (h : DataW.Trod enc P w base spare held t v d ps) : ∃ x : α, v = .agg (cf x).toArray ∧ good x := by
  obtain ⟨cs, rfl, hsz⟩ := okWide_struct ht hv
  obtain ⟨fuel, hf⟩ := h
  obtain ⟨xs, n, _, hx, _, hlen, hg⟩ := DataW.trod_struct ht hf
  obtain ⟨x, hgx, hx'⟩ := dec (fun j => (cs[j]?).getD (.bool false)) (fun j fd hj => by
    obtain ⟨ho, hk⟩ := hone_of hone j fd hj
    have hjl : j < fs.size := (Array.getElem?_eq_some_iff.1 hj).1
    have hjc : j < cs.size := by rw [hsz, hC]; exact hjl
    have h1 := hg j fd hj
    rw [ho, hk] at h1
    have h2 : ((Value.agg cs).cells.toList.drop j).take 1 = [cs[j]] := by
      show (cs.toList.drop j).take 1 = _
      rw [List.drop_eq_getElem_cons (by simpa using hjc)]; simp
    rw [h2] at h1
    have hxj : xs[j]? = some (xs[j]'(by omega)) := List.getElem?_eq_getElem (by omega)
    exact ⟨_, n, by simpa [hjc] using h1.trans hxj⟩)
  refine ⟨x, ?_, hgx⟩
  congr 1
  apply Array.ext_getElem?
  intro j
  by_cases hj : j < fs.size
  · have := hx' j hj
    have e : (cf x).toArray[j]? = (cf x)[j]? := by simp
    rw [e, this]
    have hjc : j < cs.size := by rw [hsz, hC]; exact hj
    simp [hjc]
  · rw [Array.getElem?_eq_none (by rw [hsz, hC]; omega), Array.getElem?_eq_none (by rw [List.size_toArray, hcf]; omega)]
end
end Go.Proofs.YtehjalgogjkdlaaDoor

namespace Go.Proofs.YtehjalgogjkdlaaDoor
set_option linter.unusedVariables false
set_option linter.unusedSimpArgs false
open Go.RowKit
section rows
variable {α : Type} {cf : α → List Value} {sz : Nat}

theorem addr_none (b off j : Nat) : (⟨b, off, none⟩ : Addr).add j = ⟨b, off + j, none⟩ := by
  unfold Addr.add; split
  · rename_i e; rw [e]; rfl
  · rfl

/-- 'out = append(out, ys...)', ys lying somewhere. -/
theorem wpl_appends {P : Program} {w : World} {ops : Array Oper} {rest : List Oper} {o : Oper} {a : Act} {Q : Exit → Act → World → Prop} (hgd : o.guard = none) (s x : Operand) (t : TypeId)
    (ho : o.op = .call { callee := .builtin .append, args := #[s, x], argTypes := #[t, t] }) (base : Nat) (e : TypeId) (z : Value) (bytes : Nat) (ht : P.underlying t = some (.slice e)) (hi : (P.info? e).map (fun i => (i.zero, i.size, i.bytes)) = some (some z, sz, bytes))
    (hzs : z.cells.size = sz) (hsz : 0 < sz) (hc : ∀ x, (cf x).length = sz) (h1 : ∀ x, ∀ u ∈ cf x, u.oneCell' = true) (v : Value) (l : List α) (hs : a.eval s = v) (hown : RowOf cf sz w base e v l)
    (g off c m : Nat) (ys : List α) (hx : a.eval x = .slice (some ⟨g, off, none⟩) m c) (hm : m = ys.length) (hys : ∀ k (hk : k < ys.length) j, j < sz → w.cell? ⟨g, off + (k * sz + j), none⟩ = (cf ys[k])[j]?) (h63 : l.length + ys.length ≤ maxLen) (hbytes : (l.length + ys.length) * bytes ≤ 140737488355328) (hbase : base ≤ w.heap.size)
    (h : ∀ v' w', RowOf cf sz w' base e v' (l ++ ys) → w.grownBy w' v.ownBlock → (v' = .slice none 0 0 ↔ v = .slice none 0 0 ∧ ys = []) → wpList P ops Q rest (a.put o.dst v') w') : wpList P ops Q (o :: rest) a w := by
  obtain ⟨i, hi0, hz0, hz1, hz2⟩ := info_parts hi
  subst hm
  refine wpList_append_own _ hgd s x t ho base e i z sz bytes ht hi0 hz0 hz1 hz2 hzs hsz v l.length (l.flatMap cf) hs hown ⟨g, off, none⟩ ys.length c (ys.flatMap cf) hx (flatMap_len hc ys) ?_ ?_ h63 hbytes hbase ?_
  · intro j u hj
    have hjl : j < ys.length * sz := by rw [← flatMap_len hc ys]; exact (List.getElem?_eq_some_iff.1 hj).1
    have hk : j / sz < ys.length := Nat.div_lt_of_lt_mul (by rw [Nat.mul_comm]; exact hjl)
    have hr : j % sz < sz := Nat.mod_lt _ hsz
    have e1 : j / sz * sz + j % sz = j := by rw [Nat.mul_comm]; exact Nat.div_add_mod j sz
    have := flatMap_at hc ys (j / sz) hk (j % sz) hr
    rw [e1, hj] at this
    rw [addr_none, ← e1, hys _ hk _ hr, ← this]
  · intro u hu
    obtain ⟨y, _, hy⟩ := List.mem_flatMap.1 hu
    exact h1 y u hy
  · intro v' w' hown' hg hn
    refine h v' w' (by unfold RowOf; simpa using hown') hg (hn.trans ?_)
    rw [List.length_eq_zero_iff]

/-- 'x[:m]' of a slice that is not nil. -/
theorem wpl_slice_h {P : Program} {k : Nat} {w : World} {ops : Array Oper} {rest : List Oper} {o : Oper} {a : Act} {Q : Exit → Act → World → Prop} (hgd : o.guard = none) (s h : Operand) (t : TypeId) (ho : o.op = Op.slice t s none (some h) none) (ht : P.underlying t = some (.slice (P.elem t)))
    (hsz : (sizeOf (P.elem t)).run P w = .ok k w) (g off n c m : Nat) (hs : a.eval s = .slice (some ⟨g, off, none⟩) n c) (hh : a.eval h = .int .i64 (m : Int)) (hm : m ≤ c) (hK : wpList P ops Q rest (a.put o.dst (.slice (some ⟨g, off, none⟩) m c)) w) : wpList P ops Q (o :: rest) a w := by
  refine wpList_plain hgd fun K' hK' => ?_
  have hrun := run_slice_h (P := P) (w := w) t (some ⟨g, off, none⟩) n c ht .i64 (m : Int) (by omega) (by omega)
  rw [hsz] at hrun
  simp only [Result.andThen, sliced, Int.toNat_natCast, Nat.sub_zero, Nat.zero_mul, Option.map_some, addr_none, Nat.add_zero, ite_self] at hrun
  rw [← run_sliceAt_slice (P := P) (h := ht)] at hrun
  unfold Oper.wp
  simp [execOp, ho, hs, hh, hrun, Result.andThen]
  exact hK' _ _ hK

/-- 'x[m:]' of a slice that is not nil. -/
theorem wpl_slice_l {P : Program} {k : Nat} {w : World} {ops : Array Oper} {rest : List Oper} {o : Oper} {a : Act} {Q : Exit → Act → World → Prop} (hgd : o.guard = none) (s h : Operand) (t : TypeId) (ho : o.op = Op.slice t s (some h) none none) (ht : P.underlying t = some (.slice (P.elem t)))
    (hsz : (sizeOf (P.elem t)).run P w = .ok k w) (g off n c m : Nat) (hs : a.eval s = .slice (some ⟨g, off, none⟩) n c) (hh : a.eval h = .int .i64 (m : Int)) (hm : m ≤ n) (hn : n ≤ c) (hK : ∀ off', (off' = off + m * k ∨ m = n) → wpList P ops Q rest (a.put o.dst (.slice (some ⟨g, off', none⟩) (n - m) (c - m))) w) : wpList P ops Q (o :: rest) a w := by
  refine wpList_plain hgd fun K' hK' => ?_
  have hrun := run_slice_l (P := P) (w := w) t (some ⟨g, off, none⟩) n c ht .i64 (m : Int) (by omega) (by omega)
  rw [hsz] at hrun
  simp only [Result.andThen, sliced, Int.toNat_natCast, Option.map_some, addr_none] at hrun
  rw [← run_sliceAt_slice (P := P) (h := ht)] at hrun
  unfold Oper.wp
  simp [execOp, ho, hs, hh, hrun, Result.andThen]
  by_cases hc : c = m
  · rw [if_pos hc]; exact hK' _ _ (hK off (.inr (by omega)))
  · rw [if_neg hc]; exact hK' _ _ (hK _ (.inl rfl))

/-- An empty row in a block. -/
theorem RowOf.empty {w : World} {base g : Nat} {e : TypeId} {cur : Array Value} (hb : base ≤ g) (h : w.heap[g]? = some (.cells cur e (0, 0))) (hc : cur.size = 0) : RowOf cf sz w base e (.slice (some ⟨g, 0, none⟩) 0 0) [] :=
  ⟨by simp, .inr ⟨g, 0, cur, rfl, hb, h, Nat.le_refl _, by unfold maxLen; omega, by simpa using hc, by simp⟩⟩
end rows

/-! strings, as the lists of their bytes -/
def kc (b : List UInt8) : List Value := [encStr b]
def bs (b : ByteArray) : List UInt8 := b.data.toList
theorem enc_bs (b : ByteArray) : encStr (bs b) = .string b := by simp [encStr, bs]
theorem kLen (x : List UInt8) : (kc x).length = 1 := rfl
theorem kOne (x : List UInt8) : ∀ u ∈ kc x, u.oneCell' = true := by intro u hu; simp [kc] at hu; subst hu; rfl
theorem flat_kc (l : List (List UInt8)) : l.flatMap kc = l.map encStr := by induction l with
  | nil => rfl
  | cons x l ih => simp [kc, ih]
theorem bs_inj {a b : ByteArray} (h : bs a = bs b) : a = b := by
  cases a; cases b; simp [bs] at h; simpa using h

/-- The library's sort of strings, at rows of the call's own: f is its number. -/
theorem sort_row {P : Program} {f : FuncId}
    (hS : ∀ (blk off cap : Nat) (ss : List (List UInt8)) (w : World) (_ : Sort.Holds encStr w blk off ss.toArray) (_ : blk < w.heap.size) (_ : ss.length < 4611686018427387904),
      Calls P f #[.slice (some ⟨blk, off, none⟩) ss.length cap] w fun e w' => e = .returned (.tuple #[]) ∧ ∃ n os, w' = Go.Sort.grow (Go.Sort.putRow encStr (Sort.ahead w n) blk off (ss.mergeSort fun x y => decide (x ≤ y)).toArray) os)
    (hN : ∀ (p : Option Addr) (cap : Nat) (w : World), Calls P f #[.slice p 0 cap] w fun e w' => e = .returned (.tuple #[]) ∧ w' = w)
    {w : World} {base : Nat} {e : TypeId} {v : Value} {l : List (List UInt8)} (h : RowOf kc 1 w base e v l) (hl : l.length < 4611686018427387904) :
    Calls P f #[v] w fun ex w' => ex = .returned (.tuple #[]) ∧ RowOf kc 1 w' base e v (l.mergeSort leB) ∧ Chg v.ownBlock.toList w w' := by
  rcases h.2 with ⟨h2, h3⟩ | ⟨g, cap, cur, hv, hg, hh, h4, h5, h6, h7⟩
  · have hl0 := List.eq_nil_of_length_eq_zero h3
    subst hl0
    subst h2
    refine (hN none 0 w).mono ?_
    rintro ex w' ⟨rfl, rfl⟩
    exact ⟨rfl, by simpa using h, Chg.refl _ _⟩
  · subst hv
    rw [flat_kc, Nat.mul_one] at h7
    refine (hS g 0 cap l w (holds_of_block hh h7) (lt_of_heap hh) hl).mono ?_
    rintro ex w' ⟨rfl, n, os, rfl⟩
    refine ⟨rfl, ?_, Chg.ofRow (v := .slice (some ⟨g, 0, none⟩) l.length cap) (grownBy_sorted _)⟩
    have := ownsRow_sorted (n := n) (os := os) (ts := l.mergeSort leB) (by simp) hg hh h4 h5 h6
    unfold RowOf
    rw [flat_kc]
    have e1 : (l.mergeSort leB).length = l.length := by simp
    rw [e1]
    exact this
end Go.Proofs.YtehjalgogjkdlaaDoor

namespace Go.Proofs.YtehjalgogjkdlaaDoor
set_option linter.unusedVariables false
set_option linter.unusedSimpArgs false
open Go.RowKit
section
variable {α : Type} {cf : α → List Value} {sz : Nat}

theorem flatMap_set (hc : ∀ x, (cf x).length = sz) (l : List α) (k : Nat) (h : k < l.length) (j : Nat) (hj : j < sz) (u : Value) (x' : α) (hx : cf x' = (cf l[k]).set j u) : (l.set k x').flatMap cf = (l.flatMap cf).set (k * sz + j) u := by
  induction l generalizing k with
  | nil => simp at h
  | cons x l ih =>
    cases k with
    | zero =>
      simp only [List.getElem_cons_zero] at hx
      simp only [List.set_cons_zero, List.flatMap_cons, Nat.zero_mul, Nat.zero_add]
      rw [List.set_append_left _ _ (by rw [hc]; exact hj), hx]
    | succ k =>
      simp only [List.getElem_cons_succ] at hx
      simp only [List.set_cons_succ, List.flatMap_cons]
      rw [ih k (by simpa using h) hx, List.set_append_right _ _ (by rw [hc, Nat.add_mul]; omega), hc]
      congr 1
      rw [Nat.add_mul]
      congr 1
      omega

/-- A store into a cell of the row. -/
theorem RowOf.stored {w : World} {base : Nat} {e : TypeId} {g cap n : Nat} {l : List α} (h : RowOf cf sz w base e (.slice (some ⟨g, 0, none⟩) n cap) l) (hn : n = l.length) (hc : ∀ x, (cf x).length = sz) (k : Nat) (hk : k < l.length) (j : Nat) (hj : j < sz) (u : Value) (x' : α) (hx : cf x' = (cf l[k]).set j u) :
    RowOf cf sz (w.setCell ⟨g, k * sz + j, none⟩ u) base e (.slice (some ⟨g, 0, none⟩) n cap) (l.set k x') := by
  subst hn
  unfold RowOf
  rw [List.length_set, flatMap_set hc l k hk j hj u x' hx]
  exact (World.ownsRow.stored h _ _).1
end
end Go.Proofs.YtehjalgogjkdlaaDoor

namespace Go.Proofs.YtehjalgogjkdlaaDoor
set_option linter.unusedVariables false
set_option linter.unusedSimpArgs false
open Go.RowKit
section
variable {α : Type} {cf : α → List Value} {sz : Nat}

theorem made_flat {zc : Array Value} {z0 : α} (hz : zc.toList = cf z0) (hs : zc.size = sz) (n : Nat) : (madeCells zc (n * sz)).toList = (List.replicate n z0).flatMap cf := by
  have key : (List.range sz).map (fun i => zc[i]!) = cf z0 := by
    rw [← hz]
    refine List.ext_getElem (by simp [hs]) fun i h1 h2 => ?_
    have h3 : i < zc.size := by simpa using h2
    simp [h3]
  have hm : ∀ m, (madeCells zc m).toList = (List.range m).map (fun i => zc[i % sz]!) := by intro m; unfold madeCells; rw [Array.toList_map, Array.toList_range, hs]
  rw [hm]
  induction n with
  | zero => simp
  | succ n ih =>
    rw [Nat.add_mul, Nat.one_mul, List.range_add, List.map_append, ih, List.replicate_succ', List.flatMap_append]
    congr 1
    rw [List.flatMap_cons, List.flatMap_nil, List.append_nil, ← key, List.map_map]
    refine List.map_congr_left fun i hi => ?_
    have hi' : i < sz := by simpa using hi
    show zc[(n * sz + i) % sz]! = _
    rw [Nat.mul_add_mod_self_right, Nat.mod_eq_of_lt hi']

/-- 'make([]T, n)'. -/
theorem wpl_make {P : Program} {w : World} {ops : Array Oper} {rest : List Oper} {o : Oper} {a : Act} {Q : Exit → Act → World → Prop} (hg : o.guard = none) (l c : Operand) (t : TypeId) (hop : o.op = Op.makeSlice t l c)
    (base : Nat) (e : TypeId) (z : Value) (bytes : Nat) (ht : P.underlying t = some (.slice e)) (hi : (P.info? e).map (fun i => (i.zero, i.size, i.bytes)) = some (some z, sz, bytes)) (z0 : α) (hz : z.cells.toList = cf z0) (hzs : z.cells.size = sz)
    (n : Nat) (hl : a.eval l = .int .i64 (n : Int)) (hc : a.eval c = .int .i64 (n : Int)) (hb : bytes * n ≤ 281474976710656) (hn : n ≤ maxLen) (hbase : base ≤ w.heap.size)
    (hK : ∀ w', RowOf cf sz w' base e (.slice (some ⟨w.heap.size, 0, none⟩) n n) (List.replicate n z0) → Chg [] w w' → w.heap.size < w'.heap.size → wpList P ops Q rest (a.put o.dst (.slice (some ⟨w.heap.size, 0, none⟩) n n)) w') : wpList P ops Q (o :: rest) a w := by
  obtain ⟨i, hi0, hz0, hz1, hz2⟩ := info_parts hi
  refine wpList_make_full _ hg l c t hop base e i z sz ht hi0 hz0 hz1 .i64 .i64 _ _ n hl hc rfl rfl (by rw [hz2]; exact hb) hn hbase ?_
  intro w' hown hgr
  have hr : RowOf cf sz w' base e (.slice (some ⟨w.heap.size, 0, none⟩) n n) (List.replicate n z0) := by
    unfold RowOf
    rw [List.length_replicate, ← made_flat hz hzs n]
    exact hown
  exact hK w' hr (Chg.ofGrownNone hgr) (RowOf.block hr _ rfl).2

theorem RowOf.sl {w : World} {base : Nat} {e : TypeId} {a : Option Addr} {n c : Nat} {l : List α} (h : RowOf cf sz w base e (.slice a n c) l) (hc : ∀ x, (cf x).length = sz) : SlIs cf sz w a n l ∧ n ≤ c ∧ n ≤ maxLen := by
  rcases RowOf.at h hc with ⟨h1, h2⟩ | ⟨g, cap, h1, h2, h3, h4, _, _, h5⟩
  · cases h1; subst h2
    exact ⟨⟨rfl, fun k hk => by simp at hk⟩, Nat.le_refl _, Nat.zero_le _⟩
  · cases h1
    exact ⟨⟨rfl, fun k hk => ⟨g, 0, rfl, h5, fun j hj => by rw [Nat.zero_add]; exact h4 k hk j hj⟩⟩, h2, by omega⟩

/-- A row at a known head. -/
theorem RowOf.atS {w : World} {base : Nat} {e : TypeId} {a : Addr} {n c : Nat} {l : List α} (h : RowOf cf sz w base e (.slice (some a) n c) l) (hc : ∀ x, (cf x).length = sz) :
    n = l.length ∧ l.length ≤ c ∧ c ≤ maxLen ∧ (∀ k (hk : k < l.length) j, j < sz → w.cell? ⟨a.block, k * sz + j, none⟩ = (cf l[k])[j]?) ∧ (∀ i, w.frozen? ⟨a.block, i, none⟩ = false) ∧ base ≤ a.block ∧ a.block < w.heap.size := by
  obtain ⟨g, cap, hv, h1, h2, h3, h4, h5, h6⟩ := (RowOf.at h hc).resolve_left (fun h => by simp at h)
  simp only [Value.slice.injEq, Option.some.injEq] at hv
  obtain ⟨rfl, rfl, rfl⟩ := hv
  exact ⟨rfl, h1, h2, h3, h4, h5, h6⟩

theorem SlIs.drop {w : World} {a : Option Addr} {n c m : Nat} {l : List α} (h : SlIs cf sz w a n l) (hm : m ≤ n) (hn : n ≤ c) : SlIs cf sz w (if c = m then a else a.map (·.add (m * sz))) (n - m) (l.drop m) := by
  obtain ⟨hl, hc⟩ := h
  refine ⟨by simp [hl], fun k hk => ?_⟩
  have hk' : m + k < l.length := by simp at hk; omega
  obtain ⟨b, off, rfl, hb, hcell⟩ := hc (m + k) hk'
  rw [if_neg (by omega)]
  refine ⟨b, off + m * sz, by simp [addr_none], hb, fun j hj => ?_⟩
  have := hcell j hj
  rw [List.getElem_drop, ← this, Nat.add_mul]
  congr 2
  omega

/-- 'x[m:]', any slice. -/
theorem wpl_slice_lo {P : Program} {w : World} {ops : Array Oper} {rest : List Oper} {o : Oper} {a : Act} {Q : Exit → Act → World → Prop} (hgd : o.guard = none) (s h : Operand) (t : TypeId) (ho : o.op = Op.slice t s (some h) none none) (ht : P.underlying t = some (.slice (P.elem t)))
    (hsz : (sizeOf (P.elem t)).run P w = .ok sz w) (a0 : Option Addr) (n c m : Nat) (l : List α) (hs : a.eval s = .slice a0 n c) (hh : a.eval h = .int .i64 (m : Int)) (hm : m ≤ n) (hn : n ≤ c) (hsl : SlIs cf sz w a0 n l)
    (hK : ∀ a', SlIs cf sz w a' (n - m) (l.drop m) → wpList P ops Q rest (a.put o.dst (.slice a' (n - m) (c - m))) w) : wpList P ops Q (o :: rest) a w := by
  refine wpList_plain hgd fun K' hK' => ?_
  have hrun := run_slice_l (P := P) (w := w) t a0 n c ht .i64 (m : Int) (by omega) (by omega)
  rw [hsz] at hrun
  simp only [Result.andThen, sliced, Int.toNat_natCast] at hrun
  rw [← run_sliceAt_slice (P := P) (h := ht)] at hrun
  unfold Oper.wp
  simp [execOp, ho, hs, hh, hrun, Result.andThen]
  exact hK' _ _ (hK _ (hsl.drop hm hn))

theorem trod_cap {H : Type} {enc : TypeId × Value → H} {P : Program} {w : World} {base : Nat} {spare : Nat → Bool} {held : Bool} {t e : TypeId} {a : Option Addr} {len cap : Nat} {d : DataW H} {ps : List MemPlace} (ht : P.underlying t = some (.slice e))
    (h : DataW.Trod enc P w base spare held t (.slice a len cap) d ps) : len ≤ cap := by
  obtain ⟨fuel, hf⟩ := h
  rcases Go.Deep.open_slice ht hf with ⟨h0, _⟩ | ⟨_, _, _, _, _, _, _, h0, _, h1, _⟩
  · simp [Value.cells] at h0; omega
  · simp [Value.cells] at h0; omega

/-- A block that was just laid, as a slice. -/
theorem SlIs.ofBlock {w : World} {b : Nat} {cur : Array Value} {t : TypeId} {fr : Nat × Nat} (l : List α) (h : w.heap[b]? = some (.cells cur t fr)) (hc : ∀ x, (cf x).length = sz) (hl : cur.toList = l.flatMap cf) : SlIs cf sz w (some ⟨b, 0, none⟩) l.length l :=
  ⟨rfl, fun k hk => ⟨b, 0, rfl, lt_of_heap h, fun j hj => by rw [Nat.zero_add, blk_cell h, ← flatMap_at hc l k hk j hj, ← hl, Array.getElem?_toList]⟩⟩

/-- An element's cells, stored one after the other. -/
def storeEl (w : World) (g p : Nat) : Nat → List Value → World
  | _, [] => w
  | j, u :: us => storeEl (w.setCell ⟨g, p + j, none⟩ u) g p (j + 1) us
def putLs (xs : List Value) (p : Nat) : Nat → List Value → List Value
  | _, [] => xs
  | j, u :: us => putLs (xs.set (p + j) u) p (j + 1) us
theorem putLs_mid (p : Nat) : ∀ (us pre seg rest : List Value) (j : Nat), pre.length = p + j → seg.length = us.length → putLs (pre ++ (seg ++ rest)) p j us = pre ++ (us ++ rest) := by
  intro us
  induction us with
  | nil => intro pre seg rest j _ h2; cases seg with | nil => rfl | cons => simp at h2
  | cons u us ih =>
    intro pre seg rest j h1 h2
    cases seg with
    | nil => simp at h2
    | cons s seg =>
      unfold putLs
      rw [List.set_append_right _ _ (by omega), show p + j - pre.length = 0 by omega]
      have := ih (pre ++ [u]) seg rest (j + 1) (by simp; omega) (by simpa using h2)
      simpa using this
theorem RowOf.putEl {w : World} {base : Nat} {e : TypeId} {g n c : Nat} {l : List α} (h : RowOf cf sz w base e (.slice (some ⟨g, 0, none⟩) n c) l) (hc : ∀ x, (cf x).length = sz) (k : Nat) (hk : k < l.length) (x : α) :
    RowOf cf sz (storeEl w g (k * sz) 0 (cf x)) base e (.slice (some ⟨g, 0, none⟩) n c) (l.set k x) := by
  have hn : n = l.length := (RowOf.atS h hc).1
  subst hn
  have key : ∀ (us : List Value) (w : World) (xs : List Value) (j : Nat), w.ownsRow base e sz (.slice (some ⟨g, 0, none⟩) l.length c) l.length xs → (storeEl w g (k * sz) j us).ownsRow base e sz (.slice (some ⟨g, 0, none⟩) l.length c) l.length (putLs xs (k * sz) j us) := by
    intro us
    induction us with
    | nil => intro w xs j h; exact h
    | cons u us ih => intro w xs j h; exact ih _ _ _ (World.ownsRow.stored h _ _).1
  have h2 := key (cf x) w _ 0 h
  unfold RowOf
  have e : putLs (l.flatMap cf) (k * sz) 0 (cf x) = (l.set k x).flatMap cf := by
    have hl : l = l.take k ++ l[k] :: l.drop (k + 1) := by rw [← List.drop_eq_getElem_cons hk, List.take_append_drop]
    have hs : l.set k x = l.take k ++ x :: l.drop (k + 1) := by
      rw [List.set_eq_take_append_cons_drop, if_pos hk]
    rw [hs]
    conv => lhs; rw [hl]
    rw [List.flatMap_append, List.flatMap_append, List.flatMap_cons, List.flatMap_cons]
    exact putLs_mid _ _ _ _ _ _ (by rw [flatMap_len hc, List.length_take, Nat.min_eq_left (by omega)]; omega) (by rw [hc, hc])
  rw [← e, List.length_set]
  exact h2
theorem Chg.putEl {w : World} {g p : Nat} (us : List Value) : ∀ j, Chg [g] w (storeEl w g p j us) := by
  induction us generalizing w with
  | nil => intro j; exact Chg.refl _ _
  | cons u us ih => intro j; exact ((Chg.refl [g] w).setCell _ _ (by simp)).thenSame (ih _)

/-- The cells of an element, in a later world. -/
theorem SlIs.elem {w w' : World} {a : Option Addr} {n : Nat} {l : List α} (h : SlIs cf sz w a n l) (hc : Chg [] w w') (k : Nat) (hk : k < l.length) :
    ∃ b off, a = some ⟨b, off, none⟩ ∧ b < w.heap.size ∧ b < w'.heap.size ∧ ∀ j, j < sz → w'.cell? ⟨b, off + k * sz + j, none⟩ = (cf l[k])[j]? := by
  obtain ⟨b, off, h1, h2, h3⟩ := h.2 k hk
  exact ⟨b, off, h1, h2, hc.lt h2, fun j hj => by rw [← h3 j hj]; exact World.cell?_of_block (w := w) (hc.block b h2 (by simp))⟩
end
end Go.Proofs.YtehjalgogjkdlaaDoor

namespace Go.Proofs.YtehjalgogjkdlaaDoor
set_option linter.unusedVariables false
set_option linter.unusedSimpArgs false
open Go.RowKit

def icI (n : Int) : List Value := [.int .i64 n]
theorem flat_icI (l : List Int) : l.flatMap icI = l.map (Value.int .i64) := by induction l with
  | nil => rfl
  | cons x l ih => simp [icI, ih]
theorem icI_len (x : Int) : (icI x).length = 1 := rfl
theorem icI_one (x : Int) : ∀ u ∈ icI x, u.oneCell' = true := by intro u hu; simp [icI] at hu; subst hu; rfl
def leI (x y : Int) : Bool := decide (x ≤ y)

/-- The library's sort of ints, at rows of the call's own: f is its number. -/
theorem sort_rowI {P : Program} {f : FuncId}
    (hS : ∀ (blk off cap : Nat) (zs : List Int) (w : World) (_ : Sort.Holds (Value.int .i64) w blk off zs.toArray) (_ : blk < w.heap.size) (_ : zs.length < 4611686018427387904),
      Calls P f #[.slice (some ⟨blk, off, none⟩) zs.length cap] w fun e w' => e = .returned (.tuple #[]) ∧ ∃ n os, w' = Go.Sort.grow (Go.Sort.putRow (Value.int .i64) (Sort.ahead w n) blk off (zs.mergeSort fun x y => decide (x ≤ y)).toArray) os)
    (hN : ∀ (p : Option Addr) (cap : Nat) (w : World), Calls P f #[.slice p 0 cap] w fun e w' => e = .returned (.tuple #[]) ∧ w' = w)
    {w : World} {base : Nat} {e : TypeId} {v : Value} {l : List Int} (h : RowOf icI 1 w base e v l) (hl : l.length < 4611686018427387904) :
    Calls P f #[v] w fun ex w' => ex = .returned (.tuple #[]) ∧ RowOf icI 1 w' base e v (l.mergeSort leI) ∧ Chg v.ownBlock.toList w w' := by
  rcases h.2 with ⟨h2, h3⟩ | ⟨g, cap, cur, hv, hg, hh, h4, h5, h6, h7⟩
  · have hl0 := List.eq_nil_of_length_eq_zero h3
    subst hl0
    subst h2
    refine (hN none 0 w).mono ?_
    rintro ex w' ⟨rfl, rfl⟩
    exact ⟨rfl, by simpa using h, Chg.refl _ _⟩
  · subst hv
    rw [flat_icI, Nat.mul_one] at h7
    refine (hS g 0 cap l w (holds_of_blockI hh h7) (lt_of_heap hh) hl).mono ?_
    rintro ex w' ⟨rfl, n, os, rfl⟩
    refine ⟨rfl, ?_, Chg.ofRow (v := .slice (some ⟨g, 0, none⟩) l.length cap) (grownBy_sortedI _)⟩
    have := ownsRow_sortedI (n := n) (os := os) (ts := l.mergeSort leI) (by simp) hg hh h4 h5 h6
    unfold RowOf
    rw [flat_icI]
    have e1 : (l.mergeSort leI).length = l.length := by simp
    rw [e1]
    exact this
end Go.Proofs.YtehjalgogjkdlaaDoor

namespace Go.Proofs.YtehjalgogjkdlaaDoor
set_option linter.unusedVariables false
set_option linter.unusedSimpArgs false
open Go.RowKit
/-- x comes ahead of y: it has the greater key, or the same and it is the lesser index. -/
def Prec (K : Int → Int) (x y : Int) : Prop := K y < K x ∨ (K y = K x ∧ x < y)
variable {K : Int → Int} {x y z : Int} {A B C L R l : List Int}
theorem Prec.trans (h : Prec K x y) (k : Prec K y z) : Prec K x z := by unfold Prec at *; omega
theorem prec_lt (h : x < y) : Prec K y x ↔ K x < K y := by unfold Prec; omega
theorem prec_nlt (h : x < y) : ¬ K x < K y ↔ Prec K x y := by unfold Prec; omega
theorem Prec.asymm (h : Prec K x y) (k : Prec K y x) : False := by unfold Prec at *; omega
/-- All of one list come ahead of all of another. -/
def Ahd (K : Int → Int) (A B : List Int) : Prop := ∀ x ∈ A, ∀ y ∈ B, Prec K x y
def Low (A B : List Int) : Prop := ∀ x ∈ A, ∀ y ∈ B, x < y
abbrev Srt (K : Int → Int) (l : List Int) : Prop := l.Pairwise (Prec K)
theorem srt_append : Srt K (A ++ B) ↔ Srt K A ∧ Srt K B ∧ Ahd K A B := List.pairwise_append
theorem Ahd.perm {A' B' : List Int} (h : Ahd K A B) (h1 : A'.Perm A) (h2 : B'.Perm B) : Ahd K A' B' := fun x hx y hy => h x (h1.mem_iff.1 hx) y (h2.mem_iff.1 hy)
theorem Low.perm {A' B' : List Int} (h : Low A B) (h1 : A'.Perm A) (h2 : B'.Perm B) : Low A' B' := fun x hx y hy => h x (h1.mem_iff.1 hx) y (h2.mem_iff.1 hy)
theorem low_append_l : Low (A ++ B) C ↔ Low A C ∧ Low B C := by simp only [Low, List.mem_append]; exact ⟨fun h => ⟨fun x hx => h x (Or.inl hx), fun x hx => h x (Or.inr hx)⟩, fun h x hx => hx.elim (h.1 x) (h.2 x)⟩
theorem low_append_r : Low C (A ++ B) ↔ Low C A ∧ Low C B := by simp only [Low, List.mem_append]; exact ⟨fun h => ⟨fun x hx y hy => h x hx y (Or.inl hy), fun x hx y hy => h x hx y (Or.inr hy)⟩, fun h x hx y hy => hy.elim (h.1 x hx y) (h.2 x hx y)⟩
theorem ahd_append_l : Ahd K (A ++ B) C ↔ Ahd K A C ∧ Ahd K B C := by simp only [Ahd, List.mem_append]; exact ⟨fun h => ⟨fun x hx => h x (Or.inl hx), fun x hx => h x (Or.inr hx)⟩, fun h x hx => hx.elim (h.1 x) (h.2 x)⟩
theorem ahd_append_r : Ahd K C (A ++ B) ↔ Ahd K C A ∧ Ahd K C B := by simp only [Ahd, List.mem_append]; exact ⟨fun h => ⟨fun x hx y hy => h x hx y (Or.inl hy), fun x hx y hy => h x hx y (Or.inr hy)⟩, fun h x hx y hy => hy.elim (h.1 x hx y) (h.2 x hx y)⟩
/-- The exchange of two places. -/
def swp (l : List Int) (i j : Nat) : List Int := (l.set i (l.getD j 0)).set j (l.getD i 0)
theorem swp_next (A B : List Int) (x y : Int) {i : Nat} (h : A.length = i) : swp (A ++ x :: y :: B) i (i + 1) = A ++ y :: x :: B := by
  subst h
  unfold swp
  simp [List.getD_eq_getElem?_getD]
theorem swp_prev (A B : List Int) (x y : Int) {i : Nat} (h : A.length = i) : swp (A ++ x :: y :: B) (i + 1) i = A ++ y :: x :: B := by
  subst h
  unfold swp
  simp [List.getD_eq_getElem?_getD]
theorem swp_length (l : List Int) (i j : Nat) : (swp l i j).length = l.length := by unfold swp; simp
/-- The exchange of two far places. -/
theorem swp_far (A B C : List Int) (x y : Int) {i j : Nat} (h : A.length = i) (hj : i + 1 + B.length = j) : swp (A ++ x :: B ++ y :: C) i j = A ++ y :: B ++ x :: C := by
  subst h; subst hj
  unfold swp
  have e : A.length + 1 + B.length - A.length = B.length + 1 := by omega
  have e2 : ¬ A.length + 1 + B.length < A.length := by omega
  simp [List.getD_eq_getElem?_getD, List.set_append, List.getElem?_append, e, e2]
/-- A sorted list with an element put in. -/
theorem srt_put (h : Srt K (A ++ B)) (h1 : ∀ y ∈ A, Prec K y x) (h2 : ∀ y ∈ B, Prec K x y) : Srt K (A ++ x :: B) := by
  obtain ⟨a, b, c⟩ := srt_append.1 h
  refine srt_append.2 ⟨a, List.pairwise_cons.2 ⟨h2, b⟩, fun u hu v hv => ?_⟩
  rcases List.mem_cons.1 hv with rfl | hv
  · exact h1 u hu
  · exact c u hu v hv
/-- What one call of insertion leaves, between two bounds. -/
def InsTo (K : Int → Int) (l l' : List Int) (a b : Nat) : Prop := ∃ A X Y B, l = A ++ X ++ B ∧ l' = A ++ Y ++ B ∧ A.length = a ∧ a + X.length = b ∧ Y.Perm X ∧ Srt K Y
/-- A list that lies in sorted pieces of a length, each below what follows. -/
inductive Chk (K : Int → Int) (s : Nat) : List Int → Prop
  | last (l : List Int) : l.length ≤ s → Srt K l → Chk K s l
  | more (c l : List Int) : c.length = s → Srt K c → Low c l → Chk K s l → Chk K s (c ++ l)
/-- What has been merged so far. -/
def Dn (K : Int → Int) (s : Nat) (d : List Int) : Prop := ∀ l, Low d l → Chk K s l → Chk K s (d ++ l)
theorem Dn.nil {s : Nat} : Dn K s [] := fun _ _ h => h
theorem Dn.snoc {s : Nat} {d c : List Int} (h : Dn K s d) (hc : c.length = s) (h1 : Srt K c) (h2 : Low d c) : Dn K s (d ++ c) := fun l hl hk => by
  rw [List.append_assoc]
  obtain ⟨a, b⟩ := low_append_l.1 hl
  exact h _ (low_append_r.2 ⟨h2, a⟩) (.more c l hc h1 b hk)
theorem Chk.short {s : Nat} (h : Chk K s l) (hl : l.length ≤ s) : Srt K l := by
  cases h with
  | last _ _ h => exact h
  | more c l hc h1 h2 h3 =>
    simp only [List.length_append] at hl
    have : l = [] := List.length_eq_zero_iff.1 (by omega)
    subst this; simpa using h1
/-- The first two pieces. -/
theorem Chk.two {s : Nat} (h : Chk K s l) (hl : s < l.length) : ∃ L R D, l = L ++ R ++ D ∧ L.length = s ∧ R.length ≤ s ∧ Srt K L ∧ Srt K R ∧ Low L R ∧ Low (L ++ R) D ∧ Chk K s D ∧ (2 * s ≤ l.length → R.length = s) ∧ (l.length ≤ 2 * s → D = []) := by
  cases h with
  | last _ h _ => omega
  | more c l hc h1 h2 h3 =>
    cases h3 with
    | last _ h4 h5 =>
      refine ⟨c, l, [], by simp, hc, h4, h1, h5, h2, (fun _ _ _ h => nomatch h), .last _ (by simp) List.Pairwise.nil, fun h => ?_, fun _ => rfl⟩
      simp only [List.length_append] at h; omega
    | more c2 l2 hc2 h4 h5 h6 =>
      obtain ⟨a, b⟩ := low_append_r.1 h2
      refine ⟨c, c2, l2, by simp, hc, by omega, h1, h4, a, low_append_l.2 ⟨b, h5⟩, h6, fun _ => hc2, fun h => ?_⟩
      simp only [List.length_append] at h
      exact List.length_eq_zero_iff.1 (by omega)
/-- A sorted list that holds the same elements is the same. -/
theorem srt_unique (h1 : Srt K A) (h2 : Srt K B) (hp : A.Perm B) : A = B := hp.eq_of_pairwise (fun _ _ _ _ a b => (a.asymm b).elim) h1 h2
/-- The two runs' ends tell what comes ahead of what. -/
theorem sym_ahd (hL : Srt K L) (hR : Srt K R) {i j : Nat} (hi : i ≤ L.length) (hj : j ≤ R.length) (h : i = 0 ∨ j = R.length ∨ Prec K (L.getD (i - 1) 0) (R.getD j 0)) : Ahd K (L.take i) (R.drop j) := by
  intro x hx y hy
  obtain ⟨u, hu, rfl⟩ := List.mem_iff_getElem.1 hx
  obtain ⟨v, hv, rfl⟩ := List.mem_iff_getElem.1 hy
  simp only [List.length_take, List.length_drop] at hu hv
  rw [List.getElem_take, List.getElem_drop]
  rcases h with h | h | h
  · omega
  · omega
  · rw [List.getD_eq_getElem?_getD, List.getD_eq_getElem?_getD, List.getElem?_eq_getElem (by omega), List.getElem?_eq_getElem (by omega)] at h
    simp only [Option.getD_some] at h
    have h1 : u = i - 1 ∨ Prec K L[u] L[i - 1] := by
      rcases Nat.lt_or_ge u (i - 1) with q | q
      · exact Or.inr (List.pairwise_iff_getElem.1 hL u (i - 1) (by omega) (by omega) q)
      · exact Or.inl (by omega)
    have h2 : v = 0 ∨ Prec K R[j] R[j + v] := by
      rcases Nat.eq_zero_or_pos v with q | q
      · exact Or.inl q
      · exact Or.inr (List.pairwise_iff_getElem.1 hR j (j + v) (by omega) (by omega) (by omega))
    have h3 : Prec K L[u] R[j] := by
      rcases h1 with rfl | h1
      · exact h
      · exact h1.trans h
    rcases h2 with rfl | h2
    · simpa using h3
    · exact h3.trans h2
theorem sym_join {X Y : List Int} {i j : Nat} (hX : Srt K X) (hY : Srt K Y) (pX : X.Perm (L.take i ++ R.take j)) (pY : Y.Perm (L.drop i ++ R.drop j)) (hL : Srt K L) (hR : Srt K R) (a1 : Ahd K (L.take i) (R.drop j)) (a2 : Ahd K (R.take j) (L.drop i)) :
    Srt K (X ++ Y) ∧ (X ++ Y).Perm (L ++ R) := by
  have b1 : Ahd K (L.take i) (L.drop i) := (srt_append.1 (by rwa [List.take_append_drop])).2.2
  have b2 : Ahd K (R.take j) (R.drop j) := (srt_append.1 (by rwa [List.take_append_drop])).2.2
  refine ⟨srt_append.2 ⟨hX, hY, Ahd.perm (ahd_append_l.2 ⟨ahd_append_r.2 ⟨b1, a1⟩, ahd_append_r.2 ⟨a2, b2⟩⟩) pX pY⟩, (pX.append pY).trans ?_⟩
  have e1 : L ++ R = L.take i ++ (L.drop i ++ (R.take j ++ R.drop j)) := by rw [List.take_append_drop, ← List.append_assoc, List.take_append_drop]
  have e2 : L.take i ++ R.take j ++ (L.drop i ++ R.drop j) = L.take i ++ (R.take j ++ (L.drop i ++ R.drop j)) := by simp
  rw [e1, e2]
  refine List.Perm.append_left _ ?_
  rw [← List.append_assoc, ← List.append_assoc]
  exact List.Perm.append_right _ List.perm_append_comm
/-- One element against a run. -/
theorem one_into {j : Nat} (hR : Srt K R) (hj : j ≤ R.length) (h1 : j = 0 ∨ Prec K (R.getD (j - 1) 0) x) (h2 : j = R.length ∨ Prec K x (R.getD j 0)) : Srt K (R.take j ++ x :: R.drop j) := by
  have a1 := sym_ahd (L := R) (R := [x]) (i := j) (j := 0) hR (List.pairwise_singleton _ _) hj (by simp) (by rcases h1 with h | h; exact Or.inl h; exact Or.inr (Or.inr (by simpa using h)))
  have a2 := sym_ahd (L := [x]) (R := R) (i := 1) (j := j) (List.pairwise_singleton _ _) hR (by simp) hj (by rcases h2 with h | h; exact Or.inr (Or.inl h); exact Or.inr (Or.inr (by simpa using h)))
  refine srt_put (by rwa [List.take_append_drop]) (fun y hy => a1 y hy x (by simp)) (fun y hy => a2 x (by simp) y hy)
theorem perm_into (j : Nat) : (R.take j ++ x :: R.drop j).Perm (x :: R) := by
  have := (List.perm_middle (a := x) (l₁ := R.take j) (l₂ := R.drop j))
  rwa [List.take_append_drop] at this
end Go.Proofs.YtehjalgogjkdlaaDoor
