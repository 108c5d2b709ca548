/- Over any program: make; slices of slices, read as lists; rows of the call's own read as slices. No condition. -/
import Derived.Test.YtolidiafomceiaaGreatDoorSlice
import Derived.Test.YtolidiafomceiaaGreatDoorRowm
import Derived.Test.YtolidiafomceiaaGreatDoorRowk
import Derived.OwnWalk
import Derived.StillTailTactics
namespace Go.Proofs.YtolidiafomceiaaGreatDoor
set_option linter.unusedVariables false
set_option linter.unusedSimpArgs false
open Go.RowKit
section
variable {α : Type} {cf : α → List Value} {sz : Nat}

theorem made_flat {zc : Array Value} {z0 : α} (hz : zc.toList = cf z0) (hs : zc.size = sz) (n : Nat) : (madeCells zc (n * sz)).toList = (List.replicate n z0).flatMap cf := by
  have key : (List.range sz).map (fun i => zc[i]!) = cf z0 := by
    rw [← hz]
    refine List.ext_getElem (by simp [hs]) fun i h1 h2 => ?_
    have h3 : i < zc.size := by simpa using h2
    simp [h3]
  have hm : ∀ m, (madeCells zc m).toList = (List.range m).map (fun i => zc[i % sz]!) := by intro m; unfold madeCells; rw [Array.toList_map, Array.toList_range, hs]
  rw [hm]
  induction n with
  | zero => simp
  | succ n ih =>
    rw [Nat.add_mul, Nat.one_mul, List.range_add, List.map_append, ih, List.replicate_succ', List.flatMap_append]
    congr 1
    rw [List.flatMap_cons, List.flatMap_nil, List.append_nil, ← key, List.map_map]
    refine List.map_congr_left fun i hi => ?_
    have hi' : i < sz := by simpa using hi
    show zc[(n * sz + i) % sz]! = _
    rw [Nat.mul_add_mod_self_right, Nat.mod_eq_of_lt hi']

/-- 'make([]T, n)'. -/
theorem wpl_make {P : Program} {w : World} {ops : Array Oper} {rest : List Oper} {o : Oper} {a : Act} {Q : Exit → Act → World → Prop} (hg : o.guard = none) (l c : Operand) (t : TypeId) (hop : o.op = Op.makeSlice t l c)
    (base : Nat) (e : TypeId) (z : Value) (bytes : Nat) (ht : P.underlying t = some (.slice e)) (hi : (P.info? e).map (fun i => (i.zero, i.size, i.bytes)) = some (some z, sz, bytes)) (z0 : α) (hz : z.cells.toList = cf z0) (hzs : z.cells.size = sz)
    (n : Nat) (hl : a.eval l = .int .i64 (n : Int)) (hc : a.eval c = .int .i64 (n : Int)) (hb : bytes * n ≤ 281474976710656) (hn : n ≤ maxLen) (hbase : base ≤ w.heap.size)
    (hK : ∀ w', RowOf cf sz w' base e (.slice (some ⟨w.heap.size, 0, none⟩) n n) (List.replicate n z0) → Chg [] w w' → w.heap.size < w'.heap.size → wpList P ops Q rest (a.put o.dst (.slice (some ⟨w.heap.size, 0, none⟩) n n)) w') : wpList P ops Q (o :: rest) a w := by
  obtain ⟨i, hi0, hz0, hz1, hz2⟩ := info_parts hi
  refine wpList_make_full _ hg l c t hop base e i z sz ht hi0 hz0 hz1 .i64 .i64 _ _ n hl hc rfl rfl (by rw [hz2]; exact hb) hn hbase ?_
  intro w' hown hgr
  have hr : RowOf cf sz w' base e (.slice (some ⟨w.heap.size, 0, none⟩) n n) (List.replicate n z0) := by
    unfold RowOf
    rw [List.length_replicate, ← made_flat hz hzs n]
    exact hown
  exact hK w' hr (Chg.ofGrownNone hgr) (RowOf.block hr _ rfl).2

theorem RowOf.sl {w : World} {base : Nat} {e : TypeId} {a : Option Addr} {n c : Nat} {l : List α} (h : RowOf cf sz w base e (.slice a n c) l) (hc : ∀ x, (cf x).length = sz) : SlIs cf sz w a n l ∧ n ≤ c ∧ n ≤ maxLen := by
  rcases RowOf.at h hc with ⟨h1, h2⟩ | ⟨g, cap, h1, h2, h3, h4, _, _, h5⟩
  · cases h1; subst h2
    exact ⟨⟨rfl, fun k hk => by simp at hk⟩, Nat.le_refl _, Nat.zero_le _⟩
  · cases h1
    exact ⟨⟨rfl, fun k hk => ⟨g, 0, rfl, h5, fun j hj => by rw [Nat.zero_add]; exact h4 k hk j hj⟩⟩, h2, by omega⟩

/-- A row at a known head. -/
theorem RowOf.atS {w : World} {base : Nat} {e : TypeId} {a : Addr} {n c : Nat} {l : List α} (h : RowOf cf sz w base e (.slice (some a) n c) l) (hc : ∀ x, (cf x).length = sz) :
    n = l.length ∧ l.length ≤ c ∧ c ≤ maxLen ∧ (∀ k (hk : k < l.length) j, j < sz → w.cell? ⟨a.block, k * sz + j, none⟩ = (cf l[k])[j]?) ∧ (∀ i, w.frozen? ⟨a.block, i, none⟩ = false) ∧ base ≤ a.block ∧ a.block < w.heap.size := by
  obtain ⟨g, cap, hv, h1, h2, h3, h4, h5, h6⟩ := (RowOf.at h hc).resolve_left (fun h => by simp at h)
  simp only [Value.slice.injEq, Option.some.injEq] at hv
  obtain ⟨rfl, rfl, rfl⟩ := hv
  exact ⟨rfl, h1, h2, h3, h4, h5, h6⟩

theorem SlIs.drop {w : World} {a : Option Addr} {n c m : Nat} {l : List α} (h : SlIs cf sz w a n l) (hm : m ≤ n) (hn : n ≤ c) : SlIs cf sz w (if c = m then a else a.map (·.add (m * sz))) (n - m) (l.drop m) := by
  obtain ⟨hl, hc⟩ := h
  refine ⟨by simp [hl], fun k hk => ?_⟩
  have hk' : m + k < l.length := by simp at hk; omega
  obtain ⟨b, off, rfl, hb, hcell⟩ := hc (m + k) hk'
  rw [if_neg (by omega)]
  refine ⟨b, off + m * sz, by simp [addr_none], hb, fun j hj => ?_⟩
  have := hcell j hj
  rw [List.getElem_drop, ← this, Nat.add_mul]
  congr 2
  omega

/-- 'x[m:]', any slice. -/
theorem wpl_slice_lo {P : Program} {w : World} {ops : Array Oper} {rest : List Oper} {o : Oper} {a : Act} {Q : Exit → Act → World → Prop} (hgd : o.guard = none) (s h : Operand) (t : TypeId) (ho : o.op = Op.slice t s (some h) none none) (ht : P.underlying t = some (.slice (P.elem t)))
    (hsz : (sizeOf (P.elem t)).run P w = .ok sz w) (a0 : Option Addr) (n c m : Nat) (l : List α) (hs : a.eval s = .slice a0 n c) (hh : a.eval h = .int .i64 (m : Int)) (hm : m ≤ n) (hn : n ≤ c) (hsl : SlIs cf sz w a0 n l)
    (hK : ∀ a', SlIs cf sz w a' (n - m) (l.drop m) → wpList P ops Q rest (a.put o.dst (.slice a' (n - m) (c - m))) w) : wpList P ops Q (o :: rest) a w := by
  refine wpList_plain hgd fun K' hK' => ?_
  have hrun := run_slice_l (P := P) (w := w) t a0 n c ht .i64 (m : Int) (by omega) (by omega)
  rw [hsz] at hrun
  simp only [Result.andThen, sliced, Int.toNat_natCast] at hrun
  rw [← run_sliceAt_slice (P := P) (h := ht)] at hrun
  unfold Oper.wp
  simp [execOp, ho, hs, hh, hrun, Result.andThen]
  exact hK' _ _ (hK _ (hsl.drop hm hn))

theorem trod_cap {H : Type} {enc : TypeId × Value → H} {P : Program} {w : World} {base : Nat} {spare : Nat → Bool} {held : Bool} {t e : TypeId} {a : Option Addr} {len cap : Nat} {d : DataW H} {ps : List MemPlace} (ht : P.underlying t = some (.slice e))
    (h : DataW.Trod enc P w base spare held t (.slice a len cap) d ps) : len ≤ cap := by
  obtain ⟨fuel, hf⟩ := h
  rcases Go.Deep.open_slice ht hf with ⟨h0, _⟩ | ⟨_, _, _, _, _, _, _, h0, _, h1, _⟩
  · simp [Value.cells] at h0; omega
  · simp [Value.cells] at h0; omega

/-- A block that was just laid, as a slice. -/
theorem SlIs.ofBlock {w : World} {b : Nat} {cur : Array Value} {t : TypeId} {fr : Nat × Nat} (l : List α) (h : w.heap[b]? = some (.cells cur t fr)) (hc : ∀ x, (cf x).length = sz) (hl : cur.toList = l.flatMap cf) : SlIs cf sz w (some ⟨b, 0, none⟩) l.length l :=
  ⟨rfl, fun k hk => ⟨b, 0, rfl, lt_of_heap h, fun j hj => by rw [Nat.zero_add, blk_cell h, ← flatMap_at hc l k hk j hj, ← hl, Array.getElem?_toList]⟩⟩

/-- An element's cells, stored one after the other. -/
def storeEl (w : World) (g p : Nat) : Nat → List Value → World
  | _, [] => w
  | j, u :: us => storeEl (w.setCell ⟨g, p + j, none⟩ u) g p (j + 1) us
def putLs (xs : List Value) (p : Nat) : Nat → List Value → List Value
  | _, [] => xs
  | j, u :: us => putLs (xs.set (p + j) u) p (j + 1) us
theorem putLs_mid (p : Nat) : ∀ (us pre seg rest : List Value) (j : Nat), pre.length = p + j → seg.length = us.length → putLs (pre ++ (seg ++ rest)) p j us = pre ++ (us ++ rest) := by
  intro us
  induction us with
  | nil => intro pre seg rest j _ h2; cases seg with | nil => rfl | cons => simp at h2
  | cons u us ih =>
    intro pre seg rest j h1 h2
    cases seg with
    | nil => simp at h2
    | cons s seg =>
      unfold putLs
      rw [List.set_append_right _ _ (by omega), show p + j - pre.length = 0 by omega]
      have := ih (pre ++ [u]) seg rest (j + 1) (by simp; omega) (by simpa using h2)
      simpa using this
theorem RowOf.putEl {w : World} {base : Nat} {e : TypeId} {g n c : Nat} {l : List α} (h : RowOf cf sz w base e (.slice (some ⟨g, 0, none⟩) n c) l) (hc : ∀ x, (cf x).length = sz) (k : Nat) (hk : k < l.length) (x : α) :
    RowOf cf sz (storeEl w g (k * sz) 0 (cf x)) base e (.slice (some ⟨g, 0, none⟩) n c) (l.set k x) := by
  have hn : n = l.length := (RowOf.atS h hc).1
  subst hn
  have key : ∀ (us : List Value) (w : World) (xs : List Value) (j : Nat), w.ownsRow base e sz (.slice (some ⟨g, 0, none⟩) l.length c) l.length xs → (storeEl w g (k * sz) j us).ownsRow base e sz (.slice (some ⟨g, 0, none⟩) l.length c) l.length (putLs xs (k * sz) j us) := by
    intro us
    induction us with
    | nil => intro w xs j h; exact h
    | cons u us ih => intro w xs j h; exact ih _ _ _ (World.ownsRow.stored h _ _).1
  have h2 := key (cf x) w _ 0 h
  unfold RowOf
  have e : putLs (l.flatMap cf) (k * sz) 0 (cf x) = (l.set k x).flatMap cf := by
    have hl : l = l.take k ++ l[k] :: l.drop (k + 1) := by rw [← List.drop_eq_getElem_cons hk, List.take_append_drop]
    have hs : l.set k x = l.take k ++ x :: l.drop (k + 1) := by
      rw [List.set_eq_take_append_cons_drop, if_pos hk]
    rw [hs]
    conv => lhs; rw [hl]
    rw [List.flatMap_append, List.flatMap_append, List.flatMap_cons, List.flatMap_cons]
    exact putLs_mid _ _ _ _ _ _ (by rw [flatMap_len hc, List.length_take, Nat.min_eq_left (by omega)]; omega) (by rw [hc, hc])
  rw [← e, List.length_set]
  exact h2
theorem Chg.putEl {w : World} {g p : Nat} (us : List Value) : ∀ j, Chg [g] w (storeEl w g p j us) := by
  induction us generalizing w with
  | nil => intro j; exact Chg.refl _ _
  | cons u us ih => intro j; exact ((Chg.refl [g] w).setCell _ _ (by simp)).thenSame (ih _)

/-- The cells of an element, in a later world. -/
theorem SlIs.elem {w w' : World} {a : Option Addr} {n : Nat} {l : List α} (h : SlIs cf sz w a n l) (hc : Chg [] w w') (k : Nat) (hk : k < l.length) :
    ∃ b off, a = some ⟨b, off, none⟩ ∧ b < w.heap.size ∧ b < w'.heap.size ∧ ∀ j, j < sz → w'.cell? ⟨b, off + k * sz + j, none⟩ = (cf l[k])[j]? := by
  obtain ⟨b, off, h1, h2, h3⟩ := h.2 k hk
  exact ⟨b, off, h1, h2, hc.lt h2, fun j hj => by rw [← h3 j hj]; exact World.cell?_of_block (w := w) (hc.block b h2 (by simp))⟩
end
end Go.Proofs.YtolidiafomceiaaGreatDoor
