/- Chapter 22: the program's vault as it lies in memory: a map of pointers to entries, each with a map of bindings. No condition. -/
import Derived.Test.YtldilefhmpipkaaMapl
namespace Go.Proofs.Ytldilefhmpipkaa
set_option linter.unusedVariables false
set_option linter.unusedSimpArgs false
open Go.RowKit

/-- A secret. -/
structure S0 where
  name : ByteArray
  text : ByteArray
  before : ByteArray
  ver : Int
  til : Int
  now : Int
  bound : List ByteArray
/-- A secret and its blocks: that of the entry, that of the map of its bindings. -/
structure Sec where
  s : S0
  eb : Nat
  mb : Nat
def Sec.name (x : Sec) : ByteArray := x.s.name
def secV (x : Sec) : Value := .pointer (some ⟨x.eb, 0, none⟩)
def entC (x : S0) (mb : Nat) : Array Value := #[.string x.text, .string x.before, .int .i64 x.ver, .int .i64 x.til, .int .i64 x.now, .map (some mb)]
def tt (_ : ByteArray) : Value := .bool true
def EntIs (w : World) (x : Sec) : Prop := w.heap[x.eb]? = some (.cells (entC x.s x.mb) 64 (0, 0)) ∧ MapIs id tt w x.mb x.s.bound
def blks (l : List Sec) : List Nat := l.flatMap fun x => [x.eb, x.mb]
def Sep (mb : Nat) (l : List Sec) : Prop := ∀ x ∈ l, x.mb ≠ mb ∧ ∀ y ∈ l, (x.eb = y.eb ∨ x.mb = y.mb) → x.name = y.name
/-- The vault at block vb, its map at block mb. -/
def VIs (w : World) (vb mb : Nat) (l : List Sec) : Prop :=
  w.heap[vb]? = some (.cells #[.map (some mb)] 52 (0, 0)) ∧ MapIs Sec.name secV w mb l ∧ (∀ x ∈ l, EntIs w x) ∧ Sep mb l
def fp (vb mb : Nat) (l : List Sec) : List Nat := vb :: mb :: blks l

theorem MapIs.congr {α β : Type} {kf : α → ByteArray} {vf : α → Value} {kg : β → ByteArray} {vg : β → Value} {w : World} {b : Nat} {l : List α} {m : List β} (h : MapIs kf vf w b l) (he : l.map (fun x => (kf x, vf x)) = m.map (fun x => (kg x, vg x))) : MapIs kg vg w b m := by
  obtain ⟨es, c, hb, h1, h2, h3, h4⟩ := h
  refine ⟨es, c, hb, ?_, h2, h3, ?_⟩
  · rw [h1]
    have := congrArg (List.map (fun p : ByteArray × Value => (Value.string p.1, p.2))) he
    rw [List.map_map, List.map_map] at this
    exact this
  · have := congrArg (List.map Prod.fst) he
    simp only [List.map_map] at this
    have e1 : (Prod.fst ∘ fun x => (kf x, vf x)) = kf := rfl
    have e2 : (Prod.fst ∘ fun x => (kg x, vg x)) = kg := rfl
    rw [e1, e2] at this
    rw [← this]; exact h4

theorem mem_blks {l : List Sec} {b : Nat} : b ∈ blks l ↔ ∃ x ∈ l, b = x.eb ∨ b = x.mb := by
  unfold blks
  simp [List.mem_flatMap]
theorem VIs.nodup {w : World} {vb mb : Nat} {l : List Sec} (h : VIs w vb mb l) : (l.map Sec.name).Nodup := h.2.1.nodup
theorem VIs.lt {w : World} {vb mb : Nat} {l : List Sec} (h : VIs w vb mb l) : ∀ b ∈ fp vb mb l, b < w.heap.size := by
  obtain ⟨h1, h2, h3, _⟩ := h
  intro b hb
  simp only [fp, List.mem_cons] at hb
  rcases hb with rfl | rfl | hb
  · exact lt_of_heap h1
  · exact h2.lt
  · obtain ⟨x, hx, rfl | rfl⟩ := mem_blks.1 hb
    · exact lt_of_heap (h3 x hx).1
    · exact (h3 x hx).2.lt
theorem VIs.kept {w w' : World} {vb mb : Nat} {l : List Sec} {S : List Nat} (h : VIs w vb mb l) (hc : Chg S w w') (hS : ∀ b ∈ fp vb mb l, b ∉ S) : VIs w' vb mb l := by
  obtain ⟨h1, h2, h3, h4⟩ := h
  refine ⟨hc.at (hS _ (by simp [fp])) h1, h2.kept hc (hS _ (by simp [fp])), fun x hx => ?_, h4⟩
  exact ⟨hc.at (hS _ (by simp only [fp, List.mem_cons]; exact .inr (.inr (mem_blks.2 ⟨x, hx, .inl rfl⟩)))) (h3 x hx).1, (h3 x hx).2.kept hc (hS _ (by simp only [fp, List.mem_cons]; exact .inr (.inr (mem_blks.2 ⟨x, hx, .inr rfl⟩))))⟩
theorem VIs.keptN {w w' : World} {vb mb : Nat} {l : List Sec} (h : VIs w vb mb l) (hc : Chg [] w w') : VIs w' vb mb l := h.kept hc (by simp)
/-- The kinds of the blocks keep them apart. -/
theorem VIs.apart {w : World} {vb mb : Nat} {l : List Sec} (h : VIs w vb mb l) {x : Sec} (hx : x ∈ l) : vb ≠ mb ∧ vb ≠ x.eb ∧ vb ≠ x.mb ∧ mb ≠ x.eb ∧ mb ≠ x.mb ∧ x.eb ≠ x.mb ∧ ∀ y ∈ l, y.name ≠ x.name → y.eb ≠ x.eb ∧ y.mb ≠ x.mb ∧ y.eb ≠ x.mb ∧ y.mb ≠ x.eb := by
  obtain ⟨h1, ⟨es, c, h2, _⟩, h3, h4⟩ := h
  obtain ⟨e1, es', c', e2, _⟩ := h3 x hx
  refine ⟨?_, ?_, ?_, ?_, ?_, ?_, ?_⟩
  · intro e; rw [e, h2] at h1; cases h1
  · intro e; rw [e, e1] at h1; simp [entC] at h1
  · intro e; rw [e, e2] at h1; cases h1
  · intro e; rw [e, e1] at h2; cases h2
  · exact fun e => (h4 x hx).1 e.symm
  · intro e; rw [e, e2] at e1; cases e1
  · intro y hy hne
    obtain ⟨f1, es'', c'', f2, _⟩ := h3 y hy
    refine ⟨fun e => hne ((h4 y hy).2 x hx (.inl e)), fun e => hne ((h4 y hy).2 x hx (.inr e)), ?_, ?_⟩
    · intro e; rw [e, e2] at f1; cases f1
    · intro e; rw [e, e1] at f2; cases f2

def upd (l : List S0) (k : ByteArray) (f : S0 → S0) : List S0 := l.map fun y => if y.name == k then f y else y
def updB (l : List Sec) (k : ByteArray) (f : S0 → S0) : List Sec := l.map fun y => if y.name == k then { y with s := f y.s } else y
theorem updB_s (l : List Sec) (k : ByteArray) (f : S0 → S0) : (updB l k f).map Sec.s = upd (l.map Sec.s) k f := by
  unfold updB upd
  rw [List.map_map, List.map_map]
  refine List.map_congr_left fun y _ => ?_
  by_cases hn : y.s.name = k
  · simp [Sec.name, hn]
  · simp [Sec.name, hn]
theorem updB_blks (l : List Sec) (k : ByteArray) (f : S0 → S0) : blks (updB l k f) = blks l := by
  unfold blks updB
  rw [List.flatMap_map]
  congr 1
  funext y
  by_cases hn : y.name = k
  · simp [hn]
  · simp [hn]
theorem eq_of_name {l : List Sec} (hd : (l.map Sec.name).Nodup) {x y : Sec} (hx : x ∈ l) (hy : y ∈ l) (h : y.name = x.name) : y = x := by
  have h1 := lookL_of_mem hd hx
  have h2 := lookL_of_mem hd hy
  rw [h, h1] at h2; cases h2; rfl
/-- A secret is changed, and nothing else. -/
theorem VIs.update {w w' : World} {vb mb : Nat} {l : List Sec} (h : VIs w vb mb l) {x : Sec} (hx : x ∈ l) (f : S0 → S0) (hf : ∀ y, (f y).name = y.name) (hc : Chg [x.eb, x.mb] w w') (he : EntIs w' { x with s := f x.s }) : VIs w' vb mb (updB l x.name f) := by
  obtain ⟨a1, a2, a3, a4, a5, a6, a7⟩ := h.apart hx
  have hd := h.nodup
  obtain ⟨h1, h2, h3, h4⟩ := h
  have hnm : ∀ y, ((if y.name == x.name then { y with s := f y.s } else y : Sec)).name = y.name ∧ ((if y.name == x.name then { y with s := f y.s } else y : Sec)).eb = y.eb ∧ ((if y.name == x.name then { y with s := f y.s } else y : Sec)).mb = y.mb := by
    intro y
    split
    · exact ⟨hf _, rfl, rfl⟩
    · exact ⟨rfl, rfl, rfl⟩
  refine ⟨hc.at (by simp; omega) h1, (h2.kept hc (by simp; omega)).congr ?_, ?_, ?_⟩
  · unfold updB
    rw [List.map_map]
    refine List.map_congr_left fun y _ => ?_
    simp only [Function.comp, secV]
    rw [(hnm y).1, (hnm y).2.1]
  · intro z hz
    obtain ⟨y, hy, rfl⟩ := List.mem_map.1 hz
    by_cases hn : y.name = x.name
    · have := eq_of_name hd hx hy hn
      subst this
      simpa using he
    · simp only [beq_iff_eq, hn, if_false]
      obtain ⟨b1, b2, b3, b4⟩ := a7 y hy hn
      exact ⟨hc.at (by simp; omega) (h3 y hy).1, (h3 y hy).2.kept hc (by simp; omega)⟩
  · intro z hz
    obtain ⟨y, hy, rfl⟩ := List.mem_map.1 hz
    obtain ⟨q1, q2, q3⟩ := hnm y
    rw [q1, q2, q3]
    refine ⟨(h4 y hy).1, fun z' hz' => ?_⟩
    obtain ⟨y', hy', rfl⟩ := List.mem_map.1 hz'
    obtain ⟨r1, r2, r3⟩ := hnm y'
    rw [r1, r2, r3]
    exact (h4 y hy).2 y' hy'
/-- A secret is added. -/
theorem VIs.add {w w' : World} {vb mb : Nat} {l : List Sec} (h : VIs w vb mb l) {x : Sec} (hn : lookL Sec.name l x.name = none) (hxe : w.heap.size ≤ x.eb) (hxm : w.heap.size ≤ x.mb) (hc : Chg [mb] w w') (hm : MapIs Sec.name secV w' mb (l ++ [x])) (he : EntIs w' x) : VIs w' vb mb (l ++ [x]) := by
  have hlt := h.lt
  have hl2 : ∀ y ∈ l, y.eb < w.heap.size ∧ y.mb < w.heap.size ∧ y.eb ≠ mb ∧ y.mb ≠ mb := fun y hy => by
    have := h.apart hy
    refine ⟨hlt _ ?_, hlt _ ?_, by omega, by omega⟩
    · simp only [fp, List.mem_cons]; exact .inr (.inr (mem_blks.2 ⟨y, hy, .inl rfl⟩))
    · simp only [fp, List.mem_cons]; exact .inr (.inr (mem_blks.2 ⟨y, hy, .inr rfl⟩))
  have hmb := hlt mb (by simp [fp])
  have hvm : vb ≠ mb := by
    intro e
    obtain ⟨h1, ⟨es, c, h2, _⟩, _⟩ := h
    rw [e, h2] at h1; cases h1
  obtain ⟨h1, h2, h3, h4⟩ := h
  refine ⟨hc.at (by simpa using hvm) h1, hm, ?_, ?_⟩
  · intro y hy
    rcases List.mem_append.1 hy with hy | hy
    · have := hl2 y hy
      exact ⟨hc.at (by simp; omega) (h3 y hy).1, (h3 y hy).2.kept hc (by simp; omega)⟩
    · simp at hy; subst hy; exact he
  · intro y hy
    rcases List.mem_append.1 hy with hy | hy
    · have q := hl2 y hy
      refine ⟨q.2.2.2, fun z hz e => ?_⟩
      rcases List.mem_append.1 hz with hz | hz
      · exact (h4 y hy).2 z hz e
      · simp at hz; subst hz; omega
    · simp at hy; subst hy
      refine ⟨by omega, fun z hz e => ?_⟩
      rcases List.mem_append.1 hz with hz | hz
      · have q := hl2 z hz; omega
      · simp at hz; subst hz; rfl
theorem look_s (l : List Sec) (k : ByteArray) : lookL S0.name (l.map Sec.s) k = (lookL Sec.name l k).map Sec.s := by
  unfold lookL
  rw [List.find?_map]
  rfl
end Go.Proofs.Ytldilefhmpipkaa
