/- Values (chapters 30, 50): plain: what looking through a value computes. No condition. -/
import Derived.Test.YtolidiafomceiaaGreatDoorValD
namespace Go.Proofs.YtolidiafomceiaaGreatDoor
set_option linter.unusedVariables false
set_option linter.unusedSimpArgs false
open Go.RowKit
structure Sh where
  depth : Int
  bytes : Int
  outside : Bool
  long : Bool
def shC (s : Sh) : Array Value := #[.int .i64 s.depth, .int .i64 s.bytes, .bool s.outside, .bool s.long]
def shO (s : Sh) : Obj := .cells #[.int .i64 s.depth, .int .i64 s.bytes, .bool s.outside, .bool s.long] 152
def leS (a b : ByteArray) : Bool := Op.bytesLess a.toList b.toList || a.toList == b.toList
inductive Lk where
  | fail (s : Sh)
  | done (s : Sh)
  | next (s : Sh) (st : List Opn)
def keyTop (st : List Opn) : Option (List Opn × Opn) := match st.getLast? with
  | some t => if t.key = true then some (st.dropLast, t) else none
  | none => none
def keySh (c : Ce) (s : Sh) : Sh := { s with bytes := IntKind.i64.wrap (s.bytes + IntKind.i64.wrap (quotZ c.str + 1)), long := s.long || decide (200 < (c.str.size : Int)) }
def valSh (c : Ce) (s : Sh) (n : Nat) : Sh := { depth := max s.depth ((n : Int) + 1), bytes := IntKind.i64.wrap (s.bytes + sizeZ c), outside := s.outside || (c.kind == 3 && !validB c.n), long := s.long || decide (200 < (c.str.size : Int)) }
def valL (len : Nat) (c : Ce) (s : Sh) (st : List Opn) : Lk :=
  if 0 < c.cn then (if (len : Int) < c.cn then .fail (valSh c s st.length) else .next (valSh c s st.length) (st ++ [⟨c.kind == 6, c.cn, c.kind == 6, ⟨#[]⟩, false⟩]))
  else if (closedL st).length = 0 then .done (valSh c s st.length) else .next (valSh c s st.length) (closedL st)
def lookC (len : Nat) (c : Ce) (s : Sh) (st : List Opn) : Lk :=
  if plainB c = false then .fail s
  else match keyTop st with
    | some (i, t) => if (!(c.kind == 4) || (t.started && leS c.str t.last)) = true then .fail s else .next (keySh c s) (i ++ [{ t with last := c.str, started := true, key := false }])
    | none => valL len c s st
def lookR (len : Nat) : List Ce → Nat → Sh → List Opn → Int × Sh × Bool
  | [], _, s, _ => (0, s, false)
  | c :: r, i, s, st => match lookC len c s st with
    | .fail s => (0, s, false)
    | .done s => ((i : Int) + 1, s, true)
    | .next s st => lookR len r (i + 1) s st
def sh0 : Sh := ⟨0, 0, false, false⟩
def lookS (l : List Ce) : Int × Sh × Bool := lookR l.length l 0 sh0 []
theorem look_nil (len i : Nat) (s : Sh) (st : List Opn) : lookR len [] i s st = (0, s, false) := rfl
theorem look_fail {len i : Nat} {c : Ce} {r : List Ce} {s s' : Sh} {st : List Opn} (h : lookC len c s st = .fail s') : lookR len (c :: r) i s st = (0, s', false) := by rw [lookR, h]
theorem look_done {len i : Nat} {c : Ce} {r : List Ce} {s s' : Sh} {st : List Opn} (h : lookC len c s st = .done s') : lookR len (c :: r) i s st = ((i : Int) + 1, s', true) := by rw [lookR, h]
theorem look_next {len i : Nat} {c : Ce} {r : List Ce} {s s' : Sh} {st st' : List Opn} (h : lookC len c s st = .next s' st') : lookR len (c :: r) i s st = lookR len r (i + 1) s' st' := by rw [lookR, h]
theorem keyTop_nil : keyTop [] = none := rfl
theorem keyTop_yes (i : List Opn) {t : Opn} (h : t.key = true) : keyTop (i ++ [t]) = some (i, t) := by unfold keyTop; simp [h]
theorem keyTop_no (i : List Opn) {t : Opn} (h : t.key = false) : keyTop (i ++ [t]) = none := by unfold keyTop; simp [h]
theorem lookC_plain {len : Nat} {c : Ce} {s : Sh} {st : List Opn} (h : plainB c = false) : lookC len c s st = .fail s := by unfold lookC; rw [if_pos h]
theorem lookC_key {len : Nat} {c : Ce} {s : Sh} {i : List Opn} {t : Opn} (h : plainB c = true) (hk : t.key = true) : lookC len c s (i ++ [t]) = if (!(c.kind == 4) || (t.started && leS c.str t.last)) = true then .fail s else .next (keySh c s) (i ++ [{ t with last := c.str, started := true, key := false }]) := by
  unfold lookC
  rw [if_neg (by rw [h]; decide), keyTop_yes i hk]
theorem lookC_val {len : Nat} {c : Ce} {s : Sh} {st : List Opn} (h : plainB c = true) (hk : keyTop st = none) : lookC len c s st = valL len c s st := by
  unfold lookC
  rw [if_neg (by rw [h]; decide), hk]
theorem closed_bounds {st : List Opn} (h : ∀ o ∈ st, 1 ≤ o.left ∧ o.left ≤ 9223372036854775807) : (∀ o ∈ closedL st, 1 ≤ o.left ∧ o.left ≤ 9223372036854775807) ∧ (closedL st).length ≤ st.length := by
  have key : ∀ r : List Opn, (∀ o ∈ r, 1 ≤ o.left ∧ o.left ≤ 9223372036854775807) → (∀ o ∈ closedR r, 1 ≤ o.left ∧ o.left ≤ 9223372036854775807) ∧ (closedR r).length ≤ r.length := by
    intro r
    induction r with
    | nil => intro _; exact ⟨by simp [closedR], Nat.le_refl _⟩
    | cons t r ih =>
      intro h
      have ht := h t (by simp)
      rw [closedR]
      split
      · refine ⟨fun o ho => ?_, by simp⟩
        rcases List.mem_cons.1 ho with rfl | ho
        · exact ⟨by show 1 ≤ t.left - 1; omega, by show t.left - 1 ≤ _; omega⟩
        · exact h o (by simp [ho])
      · obtain ⟨h1, h2⟩ := ih (fun o ho => h o (by simp [ho]))
        exact ⟨h1, by simp; omega⟩
  obtain ⟨h1, h2⟩ := key st.reverse (fun o ho => h o (by simpa using ho))
  unfold closedL
  exact ⟨fun o ho => h1 o (by simpa using ho), by simpa using h2⟩
theorem sh_at {w : World} {q : Nat} {x0 x1 x2 x3 : Value} (y0 y1 y2 y3 : Value) (h : w.heap[q]? = some (.cells #[x0, x1, x2, x3] 152 (0, 0))) :
    ((((w.setCell ⟨q, 0, none⟩ y0).setCell ⟨q, 1, none⟩ y1).setCell ⟨q, 2, none⟩ y2).setCell ⟨q, 3, none⟩ y3).heap[q]? = some (.cells #[y0, y1, y2, y3] 152 (0, 0)) :=
  blk_set (blk_set (blk_set (blk_set h 0 y0) 1 y1) 2 y2) 3 y3
theorem keyTop_some {S : List Opn} {i : List Opn} {t : Opn} (h : keyTop S = some (i, t)) : S = i ++ [t] ∧ t.key = true := by
  rcases List.eq_nil_or_concat S with rfl | ⟨i', t', e⟩
  · simp [keyTop_nil] at h
  · rw [List.concat_eq_append] at e
    subst e
    cases hk : t'.key with
    | true =>
      rw [keyTop_yes i' hk] at h
      simp only [Option.some.injEq, Prod.mk.injEq] at h
      obtain ⟨rfl, rfl⟩ := h
      exact ⟨rfl, hk⟩
    | false => rw [keyTop_no i' hk] at h; simp at h
/-- What lies where, in the midst of a round. -/
def Mid (b3 b5 n8 B : Nat) (W : World) (x : Ce) (s : Sh) (v : Value) (S : List Opn) (wx : World) : Prop :=
  wx.heap[b3]? = some (shO sh0) ∧ wx.heap[b5]? = some (shO s) ∧ wx.heap[n8]? = some (ceO x) ∧ RowOf opnC 5 wx B 158 v S ∧ Chg [] W wx ∧ B ≤ wx.heap.size
theorem Mid.chg {b3 b5 n8 B : Nat} {W : World} {x : Ce} {s : Sh} {v : Value} {S : List Opn} {wx wy : World} (h : Mid b3 b5 n8 B W x s v S wx) (hc : Chg [] wx wy) : Mid b3 b5 n8 B W x s v S wy :=
  ⟨hc.at (by simp) h.1, hc.at (by simp) h.2.1, hc.at (by simp) h.2.2.1, h.2.2.2.1.kept hc (by simp), h.2.2.2.2.1.thenSame hc, Nat.le_trans h.2.2.2.2.2 hc.size⟩
theorem Mid.set5 {b3 b5 n8 B : Nat} {W : World} {x : Ce} {s s' : Sh} {v : Value} {S : List Opn} {wx : World} (h : Mid b3 b5 n8 B W x s v S wx) (h1 : b3 ≠ b5) (h2 : n8 ≠ b5) (h3 : b5 < B) (h4 : W.heap.size ≤ b5) (j : Nat) (u : Value)
    (hs : (shC s).setIfInBounds j u = shC s') : Mid b3 b5 n8 B W x s' v S (wx.setCell ⟨b5, j, none⟩ u) := by
  obtain ⟨m1, m2, m3, m4, m5, m6⟩ := h
  have hc : Chg [b5] wx (wx.setCell ⟨b5, j, none⟩ u) := (Chg.refl _ _).setCell _ _ (by simp)
  refine ⟨hc.at (by simpa using h1) m1, ?_, hc.at (by simpa using h2) m3, m4.kept hc (fun g hg hm => ?_), m5.setCell _ _ (by intro hlt; simp at hlt; omega), Nat.le_trans m6 hc.size⟩
  · have := blk_set m2 j u
    rw [this]
    show some (Obj.cells ((shC s).setIfInBounds j u) _ _) = _
    rw [hs]
    rfl
  · have := (m4.block g hg).1
    simp at hm
    omega
theorem Mid.setg {b3 b5 n8 B g n c : Nat} {W : World} {x : Ce} {s : Sh} {S S' : List Opn} {wx : World} (h : Mid b3 b5 n8 B W x s (.slice (some ⟨g, 0, none⟩) n c) S wx) (h1 : b3 < B) (h2 : b5 < B) (h3 : g ≠ n8) (h4 : W.heap.size ≤ B) (j : Nat) (u : Value)
    (hr : RowOf opnC 5 (wx.setCell ⟨g, j, none⟩ u) B 158 (.slice (some ⟨g, 0, none⟩) n c) S') : Mid b3 b5 n8 B W x s (.slice (some ⟨g, 0, none⟩) n c) S' (wx.setCell ⟨g, j, none⟩ u) := by
  obtain ⟨m1, m2, m3, m4, m5, m6⟩ := h
  have hg := (m4.block g rfl).1
  have hc : Chg [g] wx (wx.setCell ⟨g, j, none⟩ u) := (Chg.refl _ _).setCell _ _ (by simp)
  exact ⟨hc.at (by simp; omega) m1, hc.at (by simp; omega) m2, hc.at (by simpa using Ne.symm h3) m3, hr, m5.setCell _ _ (by intro hlt; simp at hlt; omega), Nat.le_trans m6 hc.size⟩
theorem Mid.top {b3 b5 n8 B g c : Nat} {W : World} {x : Ce} {s : Sh} {i : List Opn} {t : Opn} {wx : World} (h : Mid b3 b5 n8 B W x s (.slice (some ⟨g, 0, none⟩) (i.length + 1) c) (i ++ [t]) wx) (h1 : b3 < B) (h2 : b5 < B) (h3 : g ≠ n8) (h4 : W.heap.size ≤ B) (j : Nat) (hj : j < 5) (u : Value) (t' : Opn)
    (ht : opnC t' = (opnC t).set j u) : Mid b3 b5 n8 B W x s (.slice (some ⟨g, 0, none⟩) (i.length + 1) c) (i ++ [t']) (wx.setCell ⟨g, i.length * 5 + j, none⟩ u) := by
  refine h.setg h1 h2 h3 h4 _ _ ?_
  have hr := RowOf.stored h.2.2.2.1 (by simp) opnC_len i.length (by simp) j hj u t' (by simpa using ht)
  have hs : (i ++ [t]).set i.length t' = i ++ [t'] := by simp
  rw [hs] at hr
  exact hr
end Go.Proofs.YtolidiafomceiaaGreatDoor
