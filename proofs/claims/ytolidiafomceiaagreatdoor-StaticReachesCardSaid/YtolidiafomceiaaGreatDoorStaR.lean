/- Chapter 9: what package static computes, plain. No condition. -/
import Derived.Test.YtolidiafomceiaaGreatDoorStaQ
import Derived.Test.YtolidiafomceiaaGreatDoorStaB
namespace Go.Proofs.YtolidiafomceiaaGreatDoor
set_option linter.unusedVariables false
set_option linter.unusedSimpArgs false
open Go.RowKit
theorem idxFrom_map {α β : Type} {f : α → β} {p : β → Bool} : ∀ {l : List α} {k : Int}, idxFrom p (l.map f) k = idxFrom (fun x => p (f x)) l k := by
  intro l
  induction l with
  | nil => intro k; rfl
  | cons x r ih =>
    intro k
    rw [List.map_cons, idxFrom, idxFrom, ih]
theorem idxFrom_get {α : Type} {p : α → Bool} : ∀ {l : List α} {k : Int}, idxFrom p l k = -1 ∨ ∃ m : Nat, idxFrom p l k = k + (m : Int) ∧ ∃ h : m < l.length, p l[m] = true := by
  intro l
  induction l with
  | nil => intro k; exact .inl rfl
  | cons x r ih =>
    intro k
    rw [idxFrom]
    split
    · rename_i h; exact .inr ⟨0, by simp, by simp, h⟩
    · rcases ih (k := k + 1) with h | ⟨m, h1, h2, h3⟩
      · exact .inl h
      · exact .inr ⟨m + 1, by rw [h1]; push_cast; omega, by simpa using h2, by simpa using h3⟩
/-- A string twice in a list, behind what was seen. -/
def dupFrom (seen : List ByteArray) : List ByteArray → Bool
  | [] => false
  | x :: r => seen.any (fun y => x == y) || dupFrom (seen ++ [x]) r
def mainS : ByteArray := ⟨#[109, 97, 105, 110]⟩
def fBad (p : PPr) (i : Int) (f : PFn) : Bool := ((lkZ biL f.name).2 || decide (idxFrom (fun g : PFn => g.name == f.name) p.funcs 0 < i)) || dupFrom [] f.params
def funcsGo (p : PPr) : List PFn → Int → Option Int
  | [], _ => none
  | f :: r, i => if fBad p i f = true then some f.body else funcsGo p r (i + 1)
def mainZ (p : PPr) : Int × Int :=
  if idxFrom (fun g : PFn => g.name == mainS) p.funcs 0 < 0 then (-1, 5) else match p.funcs[(idxFrom (fun g : PFn => g.name == mainS) p.funcs 0).toNat]? with
    | none => (0, 0)
    | some f => if f.params.length = 1 then (0, 0) else (f.body, 7)
def fEndZ (p : PPr) : Option Int → Int × Int
  | some b => (b, 6)
  | none => mainZ p
/-- The first error of the functions, with a node. -/
def funcsZ (p : PPr) : Int × Int := fEndZ p (funcsGo p p.funcs 0)
/-- What a walk through a function knows. -/
structure ScS where
  vis : List (ByteArray × Int)
  next : Int
  slots : List Int
  errs : List Int
/-- The error of a call. -/
def callZ (p : PPr) (n : PNd) : Int :=
  if 0 ≤ idxFrom (fun g : PFn => g.name == n.text) p.funcs 0 then match p.funcs[(idxFrom (fun g : PFn => g.name == n.text) p.funcs 0).toNat]? with
    | none => 0
    | some g => if (g.params.length : Int) = (n.kids.length : Int) then 0 else 7
  else if (lkZ biL n.text).2 = true then (if (lkZ biL n.text).1 = (n.kids.length : Int) then 0 else 7) else 4
def letZ (S : ScS) (i : Nat) (s : ByteArray) : ScS :=
  if (lookL Prod.fst S.vis s).isSome = true then ⟨S.vis, wrap64 (S.next + 1), S.slots.set i S.next, S.errs.set i 6⟩
  else if S.next = 32 then ⟨S.vis, wrap64 (S.next + 1), S.slots.set i S.next, S.errs.set i 3⟩
  else ⟨putL Prod.fst S.vis (s, S.next), wrap64 (S.next + 1), S.slots.set i S.next, S.errs⟩
/-- A node, behind its parts. -/
def endZ (p : PPr) (S : ScS) (i : Nat) (n : PNd) : ScS :=
  if n.kind = 5 ∨ n.kind = 14 then match lookL Prod.fst S.vis n.text with
    | none => ⟨S.vis, S.next, S.slots, S.errs.set i 4⟩
    | some x => ⟨S.vis, S.next, S.slots.set i x.2, S.errs⟩
  else if n.kind = 13 then letZ S i n.text
  else if n.kind = 11 then ⟨S.vis, S.next, S.slots, S.errs.set i (callZ p n)⟩
  else if n.kind = 12 then (if (lkZ hoL n.text).2 = true then (if (lkZ hoL n.text).1 = (n.kids.length : Int) then S else ⟨S.vis, S.next, S.slots, S.errs.set i 7⟩) else ⟨S.vis, S.next, S.slots, S.errs.set i 4⟩)
  else S
/-- A statement of a block was walked: is it a variable's declaration? -/
def declZ (p : PPr) (S : ScS) (d : List ByteArray) (k : Nat) : List ByteArray := match p.nodes[k]? with
  | none => d
  | some x => if x.kind = 13 ∧ S.errs[k]? = some 0 then d ++ [x.text] else d
def dropV (S : ScS) (d : List ByteArray) : ScS := ⟨d.foldl (delL Prod.fst) S.vis, S.next, S.slots, S.errs⟩
def stmZ (p : PPr) (W : ScS → Nat → ScS) (q : ScS × List ByteArray) (k : Int) : ScS × List ByteArray := (W q.1 k.toNat, declZ p (W q.1 k.toNat) q.2 k.toNat)
def walkZ (p : PPr) : Nat → ScS → Nat → ScS
  | 0, S, _ => S
  | f + 1, S, i => match p.nodes[i]? with
    | none => S
    | some x => if x.kind = 19 then dropV (x.kids.foldl (stmZ p (walkZ p f)) (S, [])).1 (x.kids.foldl (stmZ p (walkZ p f)) (S, [])).2
      else endZ p (x.kids.foldl (fun q k => walkZ p f q k.toNat) S) i x
def parV (l : List ByteArray) (k : Int) (v : List (ByteArray × Int)) : List (ByteArray × Int) := match l with
  | [] => v
  | x :: r => parV r (k + 1) (putL Prod.fst v (x, k))
/-- All functions: the slots, the errors, the numbers of variables. -/
def runsZ (p : PPr) : List PFn → List Int × List Int × List Int → List Int × List Int × List Int
  | [], q => q
  | f :: r, (s, e, l) => runsZ p r ((walkZ p p.nodes.length ⟨parV f.params 0 [], (f.params.length : Int), s, e⟩ f.body.toNat).slots, (walkZ p p.nodes.length ⟨parV f.params 0 [], (f.params.length : Int), s, e⟩ f.body.toNat).errs, l ++ [(walkZ p p.nodes.length ⟨parV f.params 0 [], (f.params.length : Int), s, e⟩ f.body.toNat).next])
def errAt : List Int → Int → Option (Int × Int)
  | [], _ => none
  | e :: r, k => if e = 0 then errAt r (k + 1) else some (k, e)
def allZ (p : PPr) : List Int × List Int × List Int := runsZ p p.funcs (List.replicate p.nodes.length (-1), List.replicate p.nodes.length 0, [])
def studyEnd (Z : List Int × List Int × List Int) : List Int × List Int × Int × Int := match errAt Z.2.1 0 with
  | some (k, e) => ([], [], k, e)
  | none => (Z.1, Z.2.2, 0, 0)
/-- study: slots, locals, a node, an error. -/
def studyZ (p : PPr) : List Int × List Int × Int × Int :=
  if scheckZ p = 0 then
    if (funcsZ p).2 = 0 then studyEnd (allZ p)
    else ([], [], (funcsZ p).1, (funcsZ p).2)
  else ([], [], -1, scheckZ p)
theorem letZ_len {S : ScS} {i : Nat} {s : ByteArray} : (letZ S i s).slots.length = S.slots.length ∧ (letZ S i s).errs.length = S.errs.length := by
  unfold letZ
  split
  · simp
  · split <;> simp
theorem endZ_len {p : PPr} {S : ScS} {i : Nat} {n : PNd} : (endZ p S i n).slots.length = S.slots.length ∧ (endZ p S i n).errs.length = S.errs.length := by
  unfold endZ
  split
  · split <;> simp
  · split
    · exact letZ_len
    · split
      · simp
      · split
        · split
          · split <;> simp
          · simp
        · simp
end Go.Proofs.YtolidiafomceiaaGreatDoor
