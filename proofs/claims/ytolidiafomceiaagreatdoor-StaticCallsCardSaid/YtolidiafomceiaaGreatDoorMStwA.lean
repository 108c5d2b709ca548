/- Chapter 9, plain: what the reference's walk through the nodes computes. No condition. Chapter 9, plain: the reference's walk finds what the program's finds. No condition. Chapter 9: the reference's walk: what lies where; visible, fail, declare. No condition. Chapter 9: the reference's walk: declare, call. Condition: the table of Itoa lies as the program lays it (call). Chapter 9: the reference's function and repeated. No condition. Chapter 9: the reference's walk: call; x[:m] of a row of the call's own. No condition. -/
import Derived.Test.YtolidiafomceiaaGreatDoorStvA
import Derived.Test.YtolidiafomceiaaGreatDoorSttA
import Derived.Test.YtolidiafomceiaaGreatDoorAppL
import Derived.Deep.DeepCutAuto
import Derived.Deep.RegionHeld3
namespace Go.Proofs.YtolidiafomceiaaGreatDoor
set_option linter.unusedVariables false
set_option linter.unusedSimpArgs false
open Go.RowKit
structure RfS where
  names : List (ByteArray × Int)
  next : Int
  slot : List Int
  node : Int
  err : Int
def failR (S : RfS) (i e : Int) : RfS := if S.err = 0 then ⟨S.names, S.next, S.slot, i, e⟩ else S
def visR (l : List (ByteArray × Int)) (s : ByteArray) : Int := match lookL Prod.fst l s with
  | some x => x.2
  | none => -1
def declR (S : RfS) (s : ByteArray) : RfS := ⟨S.names ++ [(s, S.next)], wrap64 (S.next + 1), S.slot, S.node, S.err⟩
def setR (S : RfS) (i : Nat) (v : Int) : RfS := ⟨S.names, S.next, S.slot.set i v, S.node, S.err⟩
def hostZ (x : PNd) : Int := if (lkZ hoL x.text).2 = true then (if (lkZ hoL x.text).1 = (x.kids.length : Int) then 0 else 7) else 4
def callR (S : RfS) (i : Nat) (e : Int) : RfS := if e = 0 then S else failR S i e
def letR (S : RfS) (i : Nat) (s : ByteArray) : RfS := if 0 ≤ visR S.names s then failR S i 6 else if 32 ≤ S.next then failR S i 3 else S
def varR (S : RfS) (i : Nat) (v : Int) : RfS := if v < 0 then failR (setR S i v) i 4 else setR S i v
def declSet (S : RfS) (i : Nat) (s : ByteArray) : RfS := setR (declR S s) i (wrap64 (wrap64 (S.next + 1) - 1))
/-- A node, behind its parts; m names were visible ahead of it. -/
def endR (p : PPr) (m : Nat) (S : RfS) (i : Nat) (x : PNd) : RfS :=
  if x.kind = 19 then ⟨S.names.take m, S.next, S.slot, S.node, S.err⟩
  else if x.kind = 5 ∨ x.kind = 14 then varR S i (visR S.names x.text)
  else if x.kind = 13 then declSet (letR S i x.text) i x.text
  else if x.kind = 11 then callR S i (callZ p x)
  else if x.kind = 12 then callR S i (hostZ x)
  else S
def visitR (p : PPr) : Nat → RfS → Nat → RfS
  | 0, S, _ => S
  | f + 1, S, i => match p.nodes[i]? with
    | none => S
    | some x => endR p S.names.length (x.kids.foldl (fun q k => visitR p f q k.toNat) S) i x
def runR (p : PPr) (S : RfS) (f : PFn) : RfS := visitR p p.nodes.length (f.params.foldl declR ⟨[], 0, S.slot, S.node, S.err⟩) f.body.toNat
def allR (p : PPr) : RfS := p.funcs.foldl (runR p) ⟨[], 0, List.replicate p.nodes.length (-1), 0, 0⟩
def rcheckZ (p : PPr) : Int × Int := if scheckZ p = 0 then (if (funcsZ p).2 = 0 then ((allR p).node, (allR p).err) else funcsZ p) else (-1, scheckZ p)
theorem failR_names {S : RfS} {i e : Int} : (failR S i e).names = S.names ∧ (failR S i e).next = S.next ∧ (failR S i e).slot = S.slot := by unfold failR; split <;> exact ⟨rfl, rfl, rfl⟩
theorem failR_err {S : RfS} {i e : Int} (h : S.err ≠ 0) : failR S i e = S := by unfold failR; rw [if_neg h]
theorem letR_names {S : RfS} {i : Nat} {s : ByteArray} : (letR S i s).names = S.names ∧ (letR S i s).next = S.next ∧ (letR S i s).slot = S.slot := by
  unfold letR; split
  · exact failR_names
  · split
    · exact failR_names
    · exact ⟨rfl, rfl, rfl⟩
theorem callR_names {S : RfS} {i : Nat} {e : Int} : (callR S i e).names = S.names ∧ (callR S i e).next = S.next ∧ (callR S i e).slot = S.slot := by
  unfold callR; split
  · exact ⟨rfl, rfl, rfl⟩
  · exact failR_names
theorem varR_names {S : RfS} {i : Nat} {v : Int} : (varR S i v).names = S.names ∧ (varR S i v).next = S.next := by
  unfold varR; split
  · exact ⟨failR_names.1, failR_names.2.1⟩
  · exact ⟨rfl, rfl⟩
/-- What is visible and the next slot come from what was visible and the next slot alone. -/
theorem endR_names {p : PPr} {m : Nat} {S : RfS} {i : Nat} {x : PNd} : (endR p m S i x).names = (if x.kind = 19 then S.names.take m else if x.kind = 13 then S.names ++ [(x.text, S.next)] else S.names) ∧ (endR p m S i x).next = (if x.kind = 13 then wrap64 (S.next + 1) else S.next) := by
  unfold endR
  by_cases h19 : x.kind = 19
  · rw [if_pos h19, if_pos h19, if_neg (by omega)]
    exact ⟨rfl, rfl⟩
  rw [if_neg h19, if_neg h19]
  by_cases h5 : x.kind = 5 ∨ x.kind = 14
  · rw [if_pos h5, if_neg (by omega), if_neg (by omega)]
    exact varR_names
  rw [if_neg h5]
  by_cases h13 : x.kind = 13
  · rw [if_pos h13, if_pos h13, if_pos h13]
    show (letR S i x.text).names ++ [(x.text, (letR S i x.text).next)] = _ ∧ wrap64 ((letR S i x.text).next + 1) = _
    rw [letR_names.1, letR_names.2.1]
    exact ⟨rfl, rfl⟩
  rw [if_neg h13, if_neg h13, if_neg h13]
  split
  · exact ⟨callR_names.1, callR_names.2.1⟩
  · split
    · exact ⟨callR_names.1, callR_names.2.1⟩
    · exact ⟨rfl, rfl⟩
theorem foldl_inv {σ : Type} {I : σ → Prop} {g : σ → Int → σ} (h : ∀ S k, I S → I (g S k)) : ∀ {cs : List Int} {S : σ}, I S → I (cs.foldl g S) := by
  intro cs
  induction cs with
  | nil => intro S hS; exact hS
  | cons c cs ih => intro S hS; rw [List.foldl_cons]; exact ih (h S c hS)
theorem visit_names {p : PPr} : ∀ (f : Nat) (S : RfS) (i : Nat), ∃ ds, (visitR p f S i).names = S.names ++ ds := by
  intro f
  induction f with
  | zero => intro S i; exact ⟨[], by rw [visitR]; simp⟩
  | succ f ih =>
    intro S i
    rw [visitR]
    split
    · exact ⟨[], by simp⟩
    · rename_i x hx
      obtain ⟨ds, hd⟩ := foldl_inv (I := fun q : RfS => ∃ ds, q.names = S.names ++ ds) (g := fun q k => visitR p f q k.toNat) (fun q k ⟨ds, e⟩ => by
        obtain ⟨es, e2⟩ := ih q k.toNat
        exact ⟨ds ++ es, by rw [e2, e, List.append_assoc]⟩) (cs := x.kids) (S := S) ⟨[], by simp⟩
      rw [endR_names.1]
      split
      · exact ⟨[], by rw [hd]; simp⟩
      · split
        · exact ⟨ds ++ [_], by rw [hd, List.append_assoc]⟩
        · exact ⟨ds, hd⟩
theorem endR_slen {p : PPr} {m : Nat} {S : RfS} {i : Nat} {x : PNd} : (endR p m S i x).slot.length = S.slot.length := by
  unfold endR
  split
  · rfl
  · split
    · unfold varR; split
      · rw [failR_names.2.2]; simp [setR]
      · simp [setR]
    · split
      · show (List.set _ _ _).length = _
        rw [List.length_set]
        show (letR S i x.text).slot.length = _
        rw [letR_names.2.2]
      · split
        · rw [callR_names.2.2]
        · split
          · rw [callR_names.2.2]
          · rfl
theorem visit_slen {p : PPr} : ∀ (f : Nat) (S : RfS) (i : Nat), (visitR p f S i).slot.length = S.slot.length := by
  intro f
  induction f with
  | zero => intro S i; rfl
  | succ f ih =>
    intro S i
    rw [visitR]
    split
    · rfl
    · rename_i x hx
      rw [endR_slen]
      exact foldl_inv (I := fun q : RfS => q.slot.length = S.slot.length) (g := fun q k => visitR p f q k.toNat) (fun q k e => by rw [ih]; exact e) rfl
theorem endR_err {p : PPr} {m : Nat} {S : RfS} {i : Nat} {x : PNd} (h : S.err ≠ 0) : (endR p m S i x).err = S.err ∧ (endR p m S i x).node = S.node := by
  unfold endR
  split
  · exact ⟨rfl, rfl⟩
  · split
    · unfold varR; split
      · rw [failR_err (S := setR S i _) h]; exact ⟨rfl, rfl⟩
      · exact ⟨rfl, rfl⟩
    · split
      · have e : letR S i x.text = S := by
          unfold letR; split
          · exact failR_err h
          · split
            · exact failR_err h
            · rfl
        rw [e]; exact ⟨rfl, rfl⟩
      · split
        · unfold callR; split
          · exact ⟨rfl, rfl⟩
          · rw [failR_err h]; exact ⟨rfl, rfl⟩
        · split
          · unfold callR; split
            · exact ⟨rfl, rfl⟩
            · rw [failR_err h]; exact ⟨rfl, rfl⟩
          · exact ⟨rfl, rfl⟩
theorem visit_err {p : PPr} : ∀ (f : Nat) (S : RfS) (i : Nat), S.err ≠ 0 → (visitR p f S i).err = S.err ∧ (visitR p f S i).node = S.node := by
  intro f
  induction f with
  | zero => intro S i _; exact ⟨rfl, rfl⟩
  | succ f ih =>
    intro S i h
    rw [visitR]
    split
    · exact ⟨rfl, rfl⟩
    · rename_i x hx
      obtain ⟨h1, h2⟩ := foldl_inv (I := fun q : RfS => q.err = S.err ∧ q.node = S.node) (g := fun q k => visitR p f q k.toNat) (fun q k e => by
        obtain ⟨a, b⟩ := ih q k.toNat (by rw [e.1]; exact h)
        exact ⟨by rw [a]; exact e.1, by rw [b]; exact e.2⟩) (cs := x.kids) (S := S) ⟨rfl, rfl⟩
      obtain ⟨a, b⟩ := endR_err (p := p) (m := S.names.length) (i := i) (x := x) (S := x.kids.foldl (fun q k => visitR p f q k.toNat) S) (by rw [h1]; exact h)
      exact ⟨by rw [a]; exact h1, by rw [b]; exact h2⟩
/-- The names and the next slot do not lean on the rest. -/
theorem visit_indep {p : PPr} : ∀ (f : Nat) (S S' : RfS) (i : Nat), S.names = S'.names → S.next = S'.next → (visitR p f S i).names = (visitR p f S' i).names ∧ (visitR p f S i).next = (visitR p f S' i).next := by
  intro f
  induction f with
  | zero => intro S S' i h1 h2; exact ⟨h1, h2⟩
  | succ f ih =>
    intro S S' i h1 h2
    rw [visitR, visitR]
    cases p.nodes[i]? with
    | none => exact ⟨h1, h2⟩
    | some x =>
      simp only
      have hk : ∀ (cs : List Int) (q q' : RfS), q.names = q'.names → q.next = q'.next → (cs.foldl (fun q k => visitR p f q k.toNat) q).names = (cs.foldl (fun q k => visitR p f q k.toNat) q').names ∧ (cs.foldl (fun q k => visitR p f q k.toNat) q).next = (cs.foldl (fun q k => visitR p f q k.toNat) q').next := by
        intro cs
        induction cs with
        | nil => intro q q' a b; exact ⟨a, b⟩
        | cons c cs ihc => intro q q' a b; rw [List.foldl_cons, List.foldl_cons]; exact ihc _ _ (ih q q' _ a b).1 (ih q q' _ a b).2
      obtain ⟨a, b⟩ := hk x.kids S S' h1 h2
      rw [endR_names.1, endR_names.2, endR_names.1, endR_names.2, a, b, h1]
      exact ⟨rfl, rfl⟩
theorem visit_bound {p : PPr} : ∀ (f i s : Nat) (S : RfS), i < f → i < p.nodes.length → firstF p.nodes p.nodes.length i = (s : Int) → (visitR p f S i).names.length + s ≤ S.names.length + (i + 1) := by
  intro f
  induction f with
  | zero => intro i s S h; omega
  | succ f ih =>
    intro i s S hif hil hs
    have hx := List.getElem?_eq_getElem hil
    have hc := first_chain hx hs
    rw [visitR, hx]
    simp only
    have hk := fold_chain (I := fun a (q : RfS) => q.names.length + s ≤ S.names.length + a) (g := fun q k => visitR p f q k.toNat) (S := S) hc (fun m t q h1 h2 h3 => by
      have := ih m t q (by omega) (by omega) h1
      show (visitR p f q (m : Int).toNat).names.length + s ≤ _
      rw [Int.toNat_natCast]
      have h3' : q.names.length + s ≤ S.names.length + t := h3
      omega) (Nat.le_refl _)
    have hk' : (List.foldl (fun q k => visitR p f q k.toNat) S (p.nodes[i]).kids).names.length + s ≤ S.names.length + i := hk
    have hsi := firstF_le (l := p.nodes) p.nodes.length i
    rw [endR_names.1]
    split
    · rw [List.length_take]
      omega
    · split
      · rw [List.length_append, List.length_singleton]
        omega
      · omega
end Go.Proofs.YtolidiafomceiaaGreatDoor
namespace Go.Proofs.YtolidiafomceiaaGreatDoor
set_option linter.unusedVariables false
set_option linter.unusedSimpArgs false
open Go.RowKit
structure ROk (p : PPr) (S : ScS) (R : RfS) : Prop where
  err : R.err = 0
  node : R.node = 0
  errs : ∀ (k : Nat) (q : Int), S.errs[k]? = some q → q = 0
  el : S.errs.length = p.nodes.length
  slots : R.slot = S.slots
  next : R.next = S.next
  nx : 0 ≤ R.next ∧ R.next ≤ 32
  vn : (S.vis.map Prod.fst).Nodup
  rn : (R.names.map Prod.fst).Nodup
  look : ∀ s, lookL Prod.fst S.vis s = lookL Prod.fst R.names s
  pos : ∀ e ∈ R.names, 0 ≤ e.2
structure RBad (i : Nat) (e : List Int) (R : RfS) : Prop where
  ne : R.err ≠ 0
  at' : ∃ k : Nat, k < i ∧ R.node = (k : Int) ∧ e[k]? = some R.err ∧ ∀ (j : Nat) (q : Int), j < k → e[j]? = some q → q = 0
def Rel (p : PPr) (i : Nat) (S : ScS) (R : RfS) : Prop := ROk p S R ∨ RBad i S.errs R
theorem RBad.mono {i i' : Nat} {e e' : List Int} {R R' : RfS} (h : RBad i e R) (hi : i ≤ i') (he : ∀ k, k < i → e'[k]? = e[k]?) (h1 : R'.err = R.err) (h2 : R'.node = R.node) : RBad i' e' R' := by
  obtain ⟨k, k1, k2, k3, k4⟩ := h.at'
  exact ⟨by rw [h1]; exact h.ne, k, by omega, by rw [h2]; exact k2, by rw [h1, he k k1]; exact k3, fun j q hj hq => k4 j q hj (by rw [he j (by omega)] at hq; exact hq)⟩
theorem fold_chain2 {F : Nat → Int} {σ τ : Type} {I : Nat → σ → τ → Prop} {g : σ → Int → σ} {h : τ → Int → τ} : ∀ {cs : List Int} {r a : Nat} {S : σ} {T : τ}, Chain F r cs a → (∀ (m s : Nat) (S : σ) (T : τ), (m : Int) ∈ cs → F m = (s : Int) → m < a → I s S T → I (m + 1) (g S (m : Int)) (h T (m : Int))) → I r S T → I a (cs.foldl g S) (cs.foldl h T) := by
  intro cs
  induction cs with
  | nil => intro r a S T h _ hi; have e : r = a := h; rw [← e]; exact hi
  | cons c cs ih =>
    intro r a S T h hg hi
    obtain ⟨m, rfl, h2, h3, h4⟩ := h
    rw [List.foldl_cons, List.foldl_cons]
    exact ih h4 (fun m s S T hm => hg m s S T (List.mem_cons_of_mem _ hm)) (hg m r S T (List.mem_cons_self ..) h2 h3 hi)
theorem firstGo_fits {F : Nat → Int} {l : List PNd} {x : PNd} : ∀ {k : Nat} {a : Int}, 0 ≤ firstGo F l x k a → ∀ (j : Nat) (c : Int), j < k → x.kids[j]? = some c → ∃ y, l[c.toNat]? = some y ∧ fitsB x j y.kind = true := by
  intro k
  induction k with
  | zero => intro a _ j c hj; omega
  | succ k ih =>
    intro a h j c hj hc
    rw [firstGo] at h
    split at h
    · omega
    · split at h
      · omega
      · rename_i h2
        split at h
        · omega
        · rename_i y hy
          split at h
          · omega
          · rename_i h3
            split at h
            · omega
            · by_cases hjk : j = k
              · subst hjk
                have := Decidable.not_not.1 h2
                rw [hc] at this
                injection this with this
                exact ⟨y, by rw [this]; exact hy, by simpa using h3⟩
              · exact ih h j c (by omega) hc
theorem kid_nolet {l : List PNd} {i : Nat} {x : PNd} (hx : l[i]? = some x) (hf : 0 ≤ firstF l l.length i) (h19 : x.kind ≠ 19) : ∀ (m : Nat) (y : PNd), (m : Int) ∈ x.kids → l[m]? = some y → y.kind ≠ 13 := by
  intro m y hm hy
  rw [firstF_at hx] at hf
  split at hf
  · obtain ⟨j, hj, e⟩ := List.mem_iff_getElem.1 hm
    obtain ⟨y', h1, h2⟩ := firstGo_fits hf j (m : Int) hj (by rw [List.getElem?_eq_getElem hj, e])
    rw [Int.toNat_natCast, hy] at h1
    injection h1 with h1
    subst h1
    unfold fitsB at h2
    rw [if_neg h19] at h2
    intro e13
    rw [e13] at h2
    split at h2
    · split at h2
      · cases h2
      · cases h2
    · cases h2
  · omega
/-- A node makes visible its own name, if it declares one, and nothing else. -/
theorem visit_decl {p : PPr} : ∀ (f : Nat) (S : RfS) (i : Nat) (x : PNd), i < f → p.nodes[i]? = some x → 0 ≤ firstF p.nodes p.nodes.length i → ∃ ds : List (ByteArray × Int), (visitR p f S i).names = S.names ++ ds ∧ ds.map Prod.fst = if x.kind = 13 then [x.text] else [] := by
  intro f
  induction f with
  | zero => intro S i x h; omega
  | succ f ih =>
    intro S i x hif hx hf
    have hil := (List.getElem?_eq_some_iff.1 hx).1
    obtain ⟨r, hr⟩ : ∃ r : Nat, firstF p.nodes p.nodes.length i = (r : Int) := ⟨(firstF p.nodes p.nodes.length i).toNat, by omega⟩
    have hc := first_chain hx hr
    rw [visitR, hx]
    simp only
    by_cases h19 : x.kind = 19
    · obtain ⟨ds, hd⟩ := foldl_inv (I := fun q : RfS => ∃ ds, q.names = S.names ++ ds) (g := fun q k => visitR p f q k.toNat) (fun q k ⟨ds, e⟩ => by
        obtain ⟨es, e2⟩ := visit_names f q k.toNat
        exact ⟨ds ++ es, by rw [e2, e, List.append_assoc]⟩) (cs := x.kids) (S := S) ⟨[], by simp⟩
      rw [endR_names.1, if_pos h19, if_neg (by omega), hd]
      exact ⟨[], by simp, rfl⟩
    · have hk : (x.kids.foldl (fun q k => visitR p f q k.toNat) S).names = S.names :=
        fold_chain2 (I := fun _ (_ : Unit) (q : RfS) => q.names = S.names) (g := fun q _ => q) (S := ()) hc (fun m s _ q hm h1 h2 h3 => by
          have hml : m < p.nodes.length := by omega
          have hy := List.getElem?_eq_getElem hml
          have hnl := kid_nolet hx hf h19 m _ hm hy
          obtain ⟨ds, d1, d2⟩ := ih q m _ (by omega) hy (by omega)
          rw [if_neg hnl] at d2
          have : ds = [] := List.map_eq_nil_iff.1 d2
          rw [Int.toNat_natCast, d1, this, h3]
          simp) rfl
      rw [endR_names.1, if_neg h19, hk]
      by_cases h13 : x.kind = 13
      · rw [if_pos h13, if_pos h13]
        exact ⟨[(x.text, _)], rfl, rfl⟩
      · rw [if_neg h13, if_neg h13]
        exact ⟨[], by simp, rfl⟩
theorem bad_now {p : PPr} {S S' : ScS} {R R' : RfS} {i : Nat} {e : Int} (h : ROk p S R) (hi : i < p.nodes.length) (he : e ≠ 0) (hS : S'.errs = S.errs.set i e) (h1 : R'.err = e) (h2 : R'.node = (i : Int)) : RBad (i + 1) S'.errs R' := by
  refine ⟨by rw [h1]; exact he, i, by omega, h2, ?_, fun j q hj hq => ?_⟩
  · rw [hS, h1]
    exact List.getElem?_set_self (by rw [h.el]; exact hi)
  · rw [hS, set_ne (by omega)] at hq
    exact h.errs j q hq
theorem failR_ok {S : RfS} {i e : Int} (h : S.err = 0) : (failR S i e).err = e ∧ (failR S i e).node = i := by unfold failR; rw [if_pos h]; exact ⟨rfl, rfl⟩
theorem look_app {l : List (ByteArray × Int)} {e : ByteArray × Int} {s : ByteArray} (h : lookL Prod.fst l e.1 = none) : lookL Prod.fst (l ++ [e]) s = if s = e.1 then some e else lookL Prod.fst l s := by
  unfold lookL at h ⊢
  rw [List.find?_append]
  by_cases hs : s = e.1
  · subst hs
    rw [if_pos rfl, h]
    simp
  · rw [if_neg hs, List.find?_cons_of_neg (by simpa using fun e => hs e.symm)]
    simp
theorem nodup_snoc {l : List (ByteArray × Int)} {e : ByteArray × Int} (h : (l.map Prod.fst).Nodup) (hn : lookL Prod.fst l e.1 = none) : ((l ++ [e]).map Prod.fst).Nodup := by
  rw [List.map_append, List.nodup_append]
  refine ⟨h, by simp, fun a ha b hb => ?_⟩
  simp at hb
  subst hb
  obtain ⟨y, hy, rfl⟩ := List.mem_map.1 ha
  exact lookL_none.1 hn y hy
theorem leaf_sim {p : PPr} {S : ScS} {R : RfS} {i m : Nat} {x : PNd} (hx : p.nodes[i]? = some x) (h19 : x.kind ≠ 19) (h : ROk p S R) : Rel p (i + 1) (endZ p S i x) (endR p m R i x) := by
  have hi := (List.getElem?_eq_some_iff.1 hx).1
  have hnx := h.nx
  unfold endZ endR
  rw [if_neg h19]
  by_cases h5 : x.kind = 5 ∨ x.kind = 14
  · rw [if_pos h5, if_pos h5]
    have hl := h.look x.text
    cases hv : lookL Prod.fst S.vis x.text with
    | none =>
      rw [hv] at hl
      have e1 : visR R.names x.text = -1 := by unfold visR; rw [← hl]
      rw [e1]
      unfold varR
      rw [if_pos (by decide)]
      have := failR_ok (S := setR R i (-1)) (i := (i : Int)) (e := 4) h.err
      exact .inr (bad_now h hi (by decide) rfl this.1 this.2)
    | some e =>
      rw [hv] at hl
      have e1 : visR R.names x.text = e.2 := by unfold visR; rw [← hl]
      have e2 := h.pos e (lookL_mem hl.symm)
      rw [e1]
      unfold varR
      rw [if_neg (by omega)]
      exact .inl ⟨h.err, h.node, h.errs, h.el, by show R.slot.set i e.2 = S.slots.set i e.2; rw [h.slots], h.next, h.nx, h.vn, h.rn, h.look, h.pos⟩
  rw [if_neg h5, if_neg h5]
  by_cases h13 : x.kind = 13
  · rw [if_pos h13, if_pos h13]
    have hl := h.look x.text
    unfold letZ letR
    cases hv : lookL Prod.fst S.vis x.text with
    | some e =>
      rw [hv] at hl
      have e1 : visR R.names x.text = e.2 := by unfold visR; rw [← hl]
      have e2 := h.pos e (lookL_mem hl.symm)
      rw [if_pos (show (some e).isSome = true from rfl), e1, if_pos e2]
      have := failR_ok (S := R) (i := (i : Int)) (e := 6) h.err
      exact .inr (bad_now h hi (by decide) rfl this.1 this.2)
    | none =>
      rw [hv] at hl
      have e1 : visR R.names x.text = -1 := by unfold visR; rw [← hl]
      rw [if_neg (show ¬ (none : Option (ByteArray × Int)).isSome = true by simp), e1, if_neg (show ¬ (0 : Int) ≤ -1 by decide), ← h.next]
      by_cases h32 : R.next = 32
      · rw [if_pos h32, if_pos (by omega)]
        have := failR_ok (S := R) (i := (i : Int)) (e := 3) h.err
        exact .inr (bad_now h hi (by decide) rfl this.1 this.2)
      · rw [if_neg h32, if_neg (by omega)]
        have w1 : wrap64 (R.next + 1) = R.next + 1 := by unfold wrap64; omega
        have w2 : wrap64 (wrap64 (R.next + 1) - 1) = R.next := by rw [w1]; unfold wrap64; omega
        refine .inl ⟨h.err, h.node, h.errs, h.el, ?_, rfl, ?_, putL_nodup h.vn, ?_, fun s => ?_, fun e he => ?_⟩
        · show R.slot.set i (wrap64 (wrap64 (R.next + 1) - 1)) = S.slots.set i R.next
          rw [w2, h.slots]
        · show 0 ≤ wrap64 (R.next + 1) ∧ wrap64 (R.next + 1) ≤ 32
          rw [w1]
          omega
        · exact nodup_snoc h.rn hl.symm
        · show lookL Prod.fst (putL Prod.fst S.vis (x.text, R.next)) s = lookL Prod.fst (R.names ++ [(x.text, R.next)]) s
          rw [putL_new (x := (x.text, R.next)) hv, look_app (e := (x.text, R.next)) hv, look_app (e := (x.text, R.next)) hl.symm, h.look s]
        · rcases List.mem_append.1 he with he | he
          · exact h.pos e he
          · rw [List.mem_singleton.1 he]
            exact hnx.1
  rw [if_neg h13, if_neg h13]
  by_cases h11 : x.kind = 11
  · rw [if_pos h11, if_pos h11]
    unfold callR
    by_cases hc : callZ p x = 0
    · rw [if_pos hc, hc]
      refine .inl ⟨h.err, h.node, fun k q hq => ?_, by simp [h.el], h.slots, h.next, h.nx, h.vn, h.rn, h.look, h.pos⟩
      by_cases hk : k = i
      · rw [hk, List.getElem?_set_self (by rw [h.el]; exact hi)] at hq
        injection hq with hq
        exact hq.symm
      · rw [set_ne hk] at hq
        exact h.errs k q hq
    · rw [if_neg hc]
      have := failR_ok (S := R) (i := (i : Int)) (e := callZ p x) h.err
      exact .inr (bad_now h hi hc rfl this.1 this.2)
  rw [if_neg h11, if_neg h11]
  by_cases h12 : x.kind = 12
  · rw [if_pos h12, if_pos h12]
    unfold callR hostZ
    split
    · split
      · rw [if_pos rfl]
        exact .inl h
      · rw [if_neg (by decide)]
        have := failR_ok (S := R) (i := (i : Int)) (e := 7) h.err
        exact .inr (bad_now h hi (by decide) rfl this.1 this.2)
    · rw [if_neg (by decide)]
      have := failR_ok (S := R) (i := (i : Int)) (e := 4) h.err
      exact .inr (bad_now h hi (by decide) rfl this.1 this.2)
  rw [if_neg h12, if_neg h12]
  exact .inl h
theorem endZ_errs {p : PPr} {S : ScS} {i : Nat} {x : PNd} {k : Nat} (h : k ≠ i) : (endZ p S i x).errs[k]? = S.errs[k]? := by
  unfold endZ
  split
  · split
    · exact set_ne h
    · rfl
  · split
    · unfold letZ
      split
      · exact set_ne h
      · split
        · exact set_ne h
        · rfl
    · split
      · exact set_ne h
      · split
        · split
          · split
            · rfl
            · exact set_ne h
          · exact set_ne h
        · rfl
theorem dels_nodup : ∀ {d : List ByteArray} {v : List (ByteArray × Int)}, (v.map Prod.fst).Nodup → ((d.foldl (delL Prod.fst) v).map Prod.fst).Nodup := by
  intro d
  induction d with
  | nil => intro v h; exact h
  | cons s d ih => intro v h; rw [List.foldl_cons]; exact ih (delL_nodup h)
theorem look_dels : ∀ {d : List ByteArray} {v : List (ByteArray × Int)} {s : ByteArray}, (v.map Prod.fst).Nodup → lookL Prod.fst (d.foldl (delL Prod.fst) v) s = if s ∈ d then none else lookL Prod.fst v s := by
  intro d
  induction d with
  | nil => intro v s _; simp
  | cons t d ih =>
    intro v s h
    rw [List.foldl_cons, ih (delL_nodup h)]
    by_cases h1 : s ∈ d
    · rw [if_pos h1, if_pos (by simp [h1])]
    · rw [if_neg h1]
      by_cases h2 : s = t
      · subst h2
        rw [if_pos (by simp), lookL_delL_same]
      · rw [if_neg (by simp [h1, h2]), lookL_delL_other h2 h]
theorem block_look {v N ds : List (ByteArray × Int)} (hv : (v.map Prod.fst).Nodup) (hn : ((N ++ ds).map Prod.fst).Nodup) (hl : ∀ s, lookL Prod.fst v s = lookL Prod.fst (N ++ ds) s) (s : ByteArray) : lookL Prod.fst ((ds.map Prod.fst).foldl (delL Prod.fst) v) s = lookL Prod.fst N s := by
  rw [look_dels hv, hl s]
  rw [List.map_append, List.nodup_append] at hn
  split
  · rename_i hs
    refine (lookL_none.2 fun y hy e => ?_).symm
    exact hn.2.2 y.1 (List.mem_map.2 ⟨y, hy, rfl⟩) s hs e
  · rename_i hs
    unfold lookL
    have hn2 : ds.find? (fun y => y.1 == s) = none := List.find?_eq_none.2 fun y hy => by
      intro e
      exact hs (List.mem_map.2 ⟨y, hy, eq_of_beq e⟩)
    rw [List.find?_append, hn2]
    simp
theorem walk_sim {p : PPr} : ∀ (f i s : Nat) (S : ScS) (R : RfS), i < f → i < p.nodes.length → firstF p.nodes p.nodes.length i = (s : Int) → Rel p s S R → Rel p (i + 1) (walkZ p f S i) (visitR p f R i) := by
  intro f
  induction f with
  | zero => intro i s S R h; omega
  | succ f ih =>
    intro i s S R hif hil hs hI
    have hx := List.getElem?_eq_getElem hil
    have hc := first_chain hx hs
    rw [walkZ, visitR, hx]
    simp only
    generalize p.nodes[i] = x at *
    by_cases h19 : x.kind = 19
    · rw [if_pos h19]
      have hfold := fold_chain2 (I := fun a (q : ScS × List ByteArray) (T : RfS) => Rel p a q.1 T ∧ (T.err = 0 → ∃ ds, T.names = R.names ++ ds ∧ q.2 = ds.map Prod.fst)) (g := stmZ p (walkZ p f)) (h := fun q k => visitR p f q k.toNat) (S := (S, [])) (T := R) hc (fun m t q T hm h1 h2 h3 => by
        have hml : m < p.nodes.length := by omega
        have hy := List.getElem?_eq_getElem hml
        have hr := ih m t q.1 T (by omega) hml h1 h3.1
        unfold stmZ
        simp only [Int.toNat_natCast]
        refine ⟨hr, fun he => ?_⟩
        have he0 : T.err = 0 := by
          rcases Decidable.em (T.err = 0) with h | h
          · exact h
          · rw [(visit_err f T m h).1] at he
            exact absurd he h
        obtain ⟨ds, d1, d2⟩ := h3.2 he0
        obtain ⟨es, e1, e2⟩ := visit_decl f T m _ (by omega) hy (by omega)
        refine ⟨ds ++ es, by rw [e1, d1, List.append_assoc], ?_⟩
        rcases hr with hr | hr
        · unfold declZ
          rw [hy]
          simp only
          have hel := hr.el
          have h0 : (walkZ p f q.1 m).errs[m]? = some 0 := by
            rw [List.getElem?_eq_getElem (by rw [hel]; exact hml)]
            congr 1
            exact hr.errs m _ (List.getElem?_eq_getElem (by rw [hel]; exact hml))
          rw [List.map_append, e2, d2]
          by_cases h13 : (p.nodes[m]).kind = 13
          · rw [if_pos ⟨h13, h0⟩, if_pos h13]
          · rw [if_neg (fun c => h13 c.1), if_neg h13]
            simp
        · exact absurd he hr.ne) ⟨hI, fun _ => ⟨[], by simp, rfl⟩⟩
      obtain ⟨h1, h2⟩ := hfold
      generalize x.kids.foldl (stmZ p (walkZ p f)) (S, []) = q at *
      generalize x.kids.foldl (fun q k => visitR p f q k.toNat) R = T at *
      unfold endR
      rw [if_pos h19]
      rcases h1 with h1 | h1
      · obtain ⟨ds, d1, d2⟩ := h2 h1.err
        refine .inl ⟨h1.err, h1.node, h1.errs, h1.el, h1.slots, h1.next, h1.nx, dels_nodup h1.vn, ?_, fun t => ?_, fun e he => h1.pos e (List.mem_of_mem_take he)⟩
        · have hrn := h1.rn
          show ((T.names.take R.names.length).map Prod.fst).Nodup
          rw [List.map_take]
          exact List.Sublist.nodup (List.take_sublist _ _) hrn
        · show lookL Prod.fst (q.2.foldl (delL Prod.fst) q.1.vis) t = lookL Prod.fst (T.names.take R.names.length) t
          have hrn := h1.rn
          have hlk := h1.look
          rw [d1] at hrn hlk
          rw [d2, d1, List.take_left]
          exact block_look h1.vn hrn hlk t
      · exact .inr (h1.mono (by omega) (fun _ _ => rfl) rfl rfl)
    · rw [if_neg h19]
      have hfold := fold_chain2 (I := fun a (q : ScS) (T : RfS) => Rel p a q T) (g := fun q k => walkZ p f q k.toNat) (h := fun q k => visitR p f q k.toNat) (S := S) (T := R) hc (fun m t q T hm h1 h2 h3 => by
        simp only [Int.toNat_natCast]
        exact ih m t q T (by omega) (by omega) h1 h3) hI
      rcases hfold with h1 | h1
      · exact leaf_sim hx h19 h1
      · have := endR_err (p := p) (m := R.names.length) (i := i) (x := x) h1.ne
        exact .inr (h1.mono (by omega) (fun k hk => endZ_errs (by omega)) this.1 this.2)
def parN : List ByteArray → Int → List (ByteArray × Int)
  | [], _ => []
  | x :: r, k => (x, k) :: parN r (k + 1)
theorem parN_fst : ∀ {l : List ByteArray} {k : Int}, (parN l k).map Prod.fst = l := by
  intro l
  induction l with
  | nil => intro k; rfl
  | cons x r ih => intro k; rw [parN, List.map_cons, ih]
theorem parN_pos : ∀ {l : List ByteArray} {k : Int}, 0 ≤ k → ∀ e ∈ parN l k, 0 ≤ e.2 := by
  intro l
  induction l with
  | nil => intro k _ e he; cases he
  | cons x r ih =>
    intro k hk e he
    rw [parN] at he
    rcases List.mem_cons.1 he with rfl | he
    · exact hk
    · exact ih (by omega) e he
theorem parV_eq : ∀ {l : List ByteArray} {k : Int} {v : List (ByteArray × Int)}, (v.map Prod.fst ++ l).Nodup → parV l k v = v ++ parN l k := by
  intro l
  induction l with
  | nil => intro k v _; rw [parV, parN]; simp
  | cons x r ih =>
    intro k v h
    have hn : lookL Prod.fst v x = none := lookL_none.2 fun y hy e => by
      rw [List.nodup_append] at h
      exact h.2.2 y.1 (List.mem_map.2 ⟨y, hy, rfl⟩) x (by simp) e
    rw [parV, parN, putL_new (x := (x, k)) hn, ih (by simpa using h)]
    simp
theorem decl_fold : ∀ {l : List ByteArray} {S : RfS}, 0 ≤ S.next → S.next + (l.length : Int) ≤ 1000 → l.foldl declR S = ⟨S.names ++ parN l S.next, S.next + (l.length : Int), S.slot, S.node, S.err⟩ := by
  intro l
  induction l with
  | nil => intro S _ _; rw [List.foldl_nil, parN]; simp
  | cons x r ih =>
    intro S h1 h2
    rw [List.length_cons] at h2
    push_cast at h2
    have w1 : wrap64 (S.next + 1) = S.next + 1 := by unfold wrap64; omega
    rw [List.foldl_cons, ih (by show 0 ≤ wrap64 _; rw [w1]; omega) (by show wrap64 _ + _ ≤ _; rw [w1]; omega)]
    unfold declR
    rw [w1, parN, List.append_assoc]
    simp only [RfS.mk.injEq, true_and, and_true]
    refine ⟨by simp, ?_⟩
    rw [List.length_cons]
    push_cast
    omega
theorem dup_nodup : ∀ {l seen : List ByteArray}, dupFrom seen l = false → l.Nodup ∧ ∀ x ∈ l, x ∉ seen := by
  intro l
  induction l with
  | nil => intro seen _; exact ⟨List.nodup_nil, fun x hx => by cases hx⟩
  | cons y r ih =>
    intro seen h
    rw [dupFrom, Bool.or_eq_false_iff] at h
    obtain ⟨h1, h2⟩ := h
    obtain ⟨i1, i2⟩ := ih h2
    refine ⟨List.nodup_cons.2 ⟨fun hy => i2 y hy (by simp), i1⟩, fun x hx hs => ?_⟩
    rcases List.mem_cons.1 hx with rfl | hx
    · have := List.any_eq_false.1 h1 x hs
      simp at this
    · exact i2 x hx (by simp [hs])
theorem funcsGo_nodup {p : PPr} : ∀ {r : List PFn} {i : Int}, funcsGo p r i = none → ∀ f ∈ r, dupFrom [] f.params = false := by
  intro r
  induction r with
  | nil => intro i _ f hf; cases hf
  | cons g r ih =>
    intro i h f hf
    rw [funcsGo] at h
    split at h
    · cases h
    · rename_i hb
      rcases List.mem_cons.1 hf with rfl | hf
      · have : fBad p i f = false := by simpa using hb
        unfold fBad at this
        rw [Bool.or_eq_false_iff] at this
        exact this.2
      · exact ih h f hf
/-- Between two functions. -/
def RSt (p : PPr) (a : Nat) (s e : List Int) (R : RfS) : Prop := (R.err = 0 ∧ R.node = 0 ∧ (∀ (k : Nat) (q : Int), e[k]? = some q → q = 0) ∧ e.length = p.nodes.length ∧ R.slot = s) ∨ RBad a e R
theorem runs_sim {p : PPr} (R0 : RfS) : ∀ {r : List PFn} {a : Nat} {s e l : List Int} {R : RfS}, ordGo p.nodes r a = true → (∀ f ∈ r, f.params.length ≤ 8 ∧ f.params.Nodup) → RSt p a s e R →
    RSt p p.nodes.length (runsZ p r (s, e, l)).1 (runsZ p r (s, e, l)).2.1 (r.foldl (runR p) R) ∧ ((r.foldl (runR p) R).err = 0 → (runsZ p r (s, e, l)).2.2 = l ++ r.map (fun f => (runR p R0 f).next)) := by
  intro r
  induction r with
  | nil =>
    intro a s e l R ho _ h
    rw [ordGo] at ho
    have ha : a = p.nodes.length := by have := eq_of_beq ho; omega
    subst ha
    rw [runsZ]
    exact ⟨h, fun _ => by simp⟩
  | cons f r ih =>
    intro a s e l R ho hP h
    rw [ordGo] at ho
    split at ho
    · cases ho
    · split at ho
      · cases ho
      · split at ho
        · cases ho
        · rename_i h1
          split at ho
          · cases ho
          · rename_i h2
            split at ho
            · cases ho
            · split at ho
              · cases ho
              · rename_i h4
                obtain ⟨b, hb⟩ : ∃ b : Nat, f.body = (b : Int) := ⟨f.body.toNat, by omega⟩
                rw [hb, Int.toNat_natCast] at h4
                have hbl : b < p.nodes.length := by omega
                have hf : firstF p.nodes p.nodes.length b = (a : Int) := by simpa using h4
                obtain ⟨hp8, hpn⟩ := hP f (by simp)
                have hst : Rel p a ⟨parV f.params 0 [], (f.params.length : Int), s, e⟩ (f.params.foldl declR ⟨[], 0, R.slot, R.node, R.err⟩) := by
                  rw [decl_fold (Int.le_refl 0) (by show (0 : Int) + _ ≤ _; omega), parV_eq (by simpa using hpn)]
                  rcases h with ⟨c1, c2, c3, c4, c5⟩ | h
                  · refine .inl ⟨c1, c2, c3, c4, c5, by simp, by show 0 ≤ (0 : Int) + _ ∧ (0 : Int) + _ ≤ 32; omega, ?_, ?_, fun _ => rfl, fun e he => ?_⟩
                    · simpa [parN_fst] using hpn
                    · simpa [parN_fst] using hpn
                    · exact parN_pos (Int.le_refl 0) e (by simpa using he)
                  · exact .inr ⟨h.ne, h.at'⟩
                have hw := walk_sim p.nodes.length b a _ _ hbl hbl hf hst
                have hnx : ∀ R1 : RfS, (runR p R1 f).next = (runR p R0 f).next := fun R1 => by
                  unfold runR
                  refine (visit_indep _ _ _ _ ?_ ?_).2
                  · rw [decl_fold (Int.le_refl 0) (by show (0 : Int) + _ ≤ _; omega), decl_fold (Int.le_refl 0) (by show (0 : Int) + _ ≤ _; omega)]
                  · rw [decl_fold (Int.le_refl 0) (by show (0 : Int) + _ ≤ _; omega), decl_fold (Int.le_refl 0) (by show (0 : Int) + _ ≤ _; omega)]
                have hrun : visitR p p.nodes.length (f.params.foldl declR ⟨[], 0, R.slot, R.node, R.err⟩) b = runR p R f := by unfold runR; rw [hb, Int.toNat_natCast]
                rw [hrun] at hw
                rw [runsZ, hb, Int.toNat_natCast, List.foldl_cons]
                generalize walkZ p p.nodes.length ⟨parV f.params 0 [], (f.params.length : Int), s, e⟩ b = S at *
                have hst2 : RSt p (b + 1) S.slots S.errs (runR p R f) := by
                  rcases hw with hw | hw
                  · exact .inl ⟨hw.err, hw.node, hw.errs, hw.el, hw.slots⟩
                  · exact .inr hw
                obtain ⟨g1, g2⟩ := ih (a := b + 1) (l := l ++ [S.next]) (by rw [hb] at ho; push_cast; exact ho) (fun g hg => hP g (by simp [hg])) hst2
                refine ⟨g1, fun he => ?_⟩
                rw [g2 he]
                have herr : (runR p R f).err = 0 := by
                  rcases Decidable.em ((runR p R f).err = 0) with c | c
                  · exact c
                  · have hall : ∀ (r : List PFn) (Q : RfS), Q.err ≠ 0 → (r.foldl (runR p) Q).err ≠ 0 := by
                      intro r
                      induction r with
                      | nil => intro Q hQ; exact hQ
                      | cons g r ihr =>
                        intro Q hQ
                        rw [List.foldl_cons]
                        refine ihr _ ?_
                        unfold runR
                        have hd : ∀ (l : List ByteArray) (T : RfS), (l.foldl declR T).err = T.err := by
                          intro l
                          induction l with
                          | nil => intro T; rfl
                          | cons y l ihl => intro T; rw [List.foldl_cons, ihl]; rfl
                        rw [(visit_err _ _ _ (by rw [hd]; exact hQ)).1, hd]
                        exact hQ
                    exact absurd he (hall r _ c)
                rcases hw with hw | hw
                · rw [← hw.next, hnx R]
                  simp
                · exact absurd herr hw.ne
theorem errAt_zero {l : List Int} : ∀ {k : Int}, (∀ (j : Nat) (q : Int), l[j]? = some q → q = 0) → errAt l k = none := by
  induction l with
  | nil => intro k _; rfl
  | cons e r ih =>
    intro k h
    rw [errAt, if_pos (h 0 e rfl)]
    exact ih (fun j q hq => h (j + 1) q (by simpa using hq))
theorem errAt_at {l : List Int} : ∀ {k : Int} {j : Nat} {e : Int}, l[j]? = some e → e ≠ 0 → (∀ (i : Nat) (q : Int), i < j → l[i]? = some q → q = 0) → errAt l k = some (k + (j : Int), e) := by
  induction l with
  | nil => intro k j e h; simp at h
  | cons y r ih =>
    intro k j e h he hz
    rw [errAt]
    cases j with
    | zero =>
      rw [List.getElem?_cons_zero] at h
      injection h with h
      subst h
      rw [if_neg he]
      simp
    | succ j =>
      rw [List.getElem?_cons_succ] at h
      rw [if_pos (hz 0 y (by omega) rfl), ih h he (fun i q hi hq => hz (i + 1) q (by omega) (by simpa using hq))]
      congr 2
      push_cast
      omega
theorem all_sim {p : PPr} (R0 : RfS) (hc : scheckZ p = 0) (hf : (funcsZ p).2 = 0) : (errAt (allZ p).2.1 0 = none ∧ (allR p).err = 0 ∧ (allR p).node = 0 ∧ (allR p).slot = (allZ p).1 ∧ (allZ p).2.2 = p.funcs.map (fun f => (runR p R0 f).next)) ∨ (errAt (allZ p).2.1 0 = some ((allR p).node, (allR p).err) ∧ (allR p).err ≠ 0) := by
  unfold scheckZ at hc
  split at hc
  · cases hc
  · split at hc
    · cases hc
    · split at hc
      · cases hc
      · split at hc
        · cases hc
        · rename_i h1 h2 h3 h4
          have hob : ordGo p.nodes p.funcs ((0 : Nat) : Int) = true := by
            have : ordB p = true := by simpa using h3
            exact this
          have hgo : funcsGo p p.funcs 0 = none := by
            unfold funcsZ at hf
            cases hg : funcsGo p p.funcs 0 with
            | none => rfl
            | some b => rw [hg] at hf; exact absurd hf (by show ¬ (6 : Int) = 0; decide)
          have hP : ∀ f ∈ p.funcs, f.params.length ≤ 8 ∧ f.params.Nodup := by
            intro f hf
            have h5 : p.funcs.any (fun f => decide (8 < f.params.length)) = false := by simpa using h4
            have := List.any_eq_false.1 h5 f hf
            simp at this
            exact ⟨this, (dup_nodup (funcsGo_nodup hgo f hf)).1⟩
          have hz0 : ∀ (k : Nat) (q : Int), (List.replicate p.nodes.length (0 : Int))[k]? = some q → q = 0 := by
            intro k q hq
            rw [List.getElem?_replicate] at hq
            split at hq
            · injection hq with hq
              exact hq.symm
            · cases hq
          have h := runs_sim R0 (r := p.funcs) (a := 0) (s := List.replicate p.nodes.length (-1)) (e := List.replicate p.nodes.length 0) (l := []) (R := ⟨[], 0, List.replicate p.nodes.length (-1), 0, 0⟩) hob hP (.inl ⟨rfl, rfl, hz0, by simp, rfl⟩)
          rw [List.nil_append] at h
          obtain ⟨g1, g2⟩ := h
          rcases g1 with ⟨c1, c2, c3, c4, c5⟩ | g1
          · exact .inl ⟨errAt_zero c3, c1, c2, c5, g2 c1⟩
          · obtain ⟨k, k1, k2, k3, k4⟩ := g1.at'
            refine .inr ⟨?_, g1.ne⟩
            have := errAt_at (k := 0) k3 g1.ne k4
            rw [Int.zero_add] at this
            rw [show (allR p).node = (k : Int) from k2]
            exact this
/-- Both find the same error. -/
theorem rcheck_eq (p : PPr) : rcheckZ p = ((studyZ p).2.2.1, (studyZ p).2.2.2) := by
  unfold rcheckZ studyZ
  by_cases hc : scheckZ p = 0
  · rw [if_pos hc, if_pos hc]
    by_cases hf : (funcsZ p).2 = 0
    · rw [if_pos hf, if_pos hf]
      unfold studyEnd
      rcases all_sim ⟨[], 0, [], 0, 0⟩ hc hf with ⟨h1, h2, h3, -⟩ | ⟨h1, h2⟩
      · rw [h1, h2, h3]
      · rw [h1]
    · rw [if_neg hf, if_neg hf]
  · rw [if_neg hc, if_neg hc]
theorem rslots_eq {p : PPr} (h : (studyZ p).2.2.2 = 0) : (allR p).slot = (studyZ p).1 ∧ ∀ R0 : RfS, (studyZ p).2.1 = p.funcs.map (fun f => (runR p R0 f).next) := by
  unfold studyZ at h ⊢
  by_cases hc : scheckZ p = 0
  · rw [if_pos hc] at h ⊢
    by_cases hf : (funcsZ p).2 = 0
    · rw [if_pos hf] at h ⊢
      refine ⟨?_, fun R0 => ?_⟩
      · unfold studyEnd at h ⊢
        rcases all_sim ⟨[], 0, [], 0, 0⟩ hc hf with ⟨h1, h2, h3, h4, -⟩ | ⟨h1, h2⟩
        · rw [h1]; exact h4
        · rw [h1] at h; exact absurd h h2
      · unfold studyEnd at h ⊢
        rcases all_sim R0 hc hf with ⟨h1, h2, h3, h4, h5⟩ | ⟨h1, h2⟩
        · rw [h1]; exact h5
        · rw [h1] at h; exact absurd h h2
    · rw [if_neg hf] at h
      exact absurd h hf
  · rw [if_neg hc] at h
    exact absurd h hc
end Go.Proofs.YtolidiafomceiaaGreatDoor
namespace Go.Proofs.YtolidiafomceiaaGreatDoor
set_option linter.unusedVariables false
set_option linter.unusedSimpArgs false
open Go.RowKit
def oblk (a : Option Addr) : Option Nat := a.map (·.block)
theorem oblk_eq (a : Option Addr) (n c : Nat) : (Value.slice a n c).ownBlock = oblk a := by cases a <;> rfl
def rfO (x : Pr) (sb : Nat) (na : Option Addr) (nn nc : Nat) (va : Option Addr) (vn vc : Nat) (nx nd er : Int) : Obj := .cells #[.slice x.na x.nodes.length x.nc, .slice x.fa x.funcs.length x.fc, .slice na nn nc, .slice va vn vc, .int .i64 nx, .slice (some ⟨sb, 0, none⟩) x.nodes.length x.nodes.length, .int .i64 nd, .int .i64 er] 58 (0, 0)
/-- The reference's walk: its struct at block b, the slots at block sb, what is visible and its slots. -/
structure RfA (x : Pr) (B b sb : Nat) (na : Option Addr) (nc : Nat) (N : List ByteArray) (va : Option Addr) (vc : Nat) (V : List Int) (nx : Int) (sl : List Int) (nd er : Int) (w : World) : Prop where
  box : w.heap[b]? = some (rfO x sb na N.length nc va V.length vc nx nd er)
  nm : RowOf skC 1 w B 9 (.slice na N.length nc) N
  vl : RowOf icI 1 w B 3 (.slice va V.length vc) V
  sl : RowOf icI 1 w B 3 (.slice (some ⟨sb, 0, none⟩) x.nodes.length x.nodes.length) sl
  lb : B ≤ b
  n1 : sb ≠ b
  n2 : oblk na ≠ some b
  n3 : oblk na ≠ some sb
  n4 : oblk va ≠ some b
  n5 : oblk va ≠ some sb
  n6 : ∀ g, oblk na = some g → oblk va ≠ some g
def rfF (b sb : Nat) (na va : Option Addr) : List Nat := b :: sb :: ((oblk na).toList ++ (oblk va).toList)
section
variable {x : Pr} {B b sb : Nat} {na va : Option Addr} {nc vc : Nat} {N : List ByteArray} {V : List Int} {nx nd er : Int} {sl : List Int} {w w' : World}
theorem rfF_mem {y : Nat} : y ∈ rfF b sb na va ↔ y = b ∨ y = sb ∨ oblk na = some y ∨ oblk va = some y := by
  unfold rfF
  simp only [List.mem_cons, List.mem_append, Option.mem_toList, Option.mem_def]
theorem RfA.kept {T : List Nat} (h : RfA x B b sb na nc N va vc V nx sl nd er w) (hc : Chg T w w') (hT : ∀ y ∈ rfF b sb na va, y ∉ T) : RfA x B b sb na nc N va vc V nx sl nd er w' :=
  ⟨hc.at (hT b (rfF_mem.2 (.inl rfl))) h.box, h.nm.kept hc (fun g hg => hT g (rfF_mem.2 (.inr (.inr (.inl (by rw [oblk_eq] at hg; exact hg)))))), h.vl.kept hc (fun g hg => hT g (rfF_mem.2 (.inr (.inr (.inr (by rw [oblk_eq] at hg; exact hg)))))), h.sl.kept hc (fun g hg => hT g (rfF_mem.2 (.inr (.inl (by simpa [Value.ownBlock] using hg.symm))))), h.lb, h.n1, h.n2, h.n3, h.n4, h.n5, h.n6⟩
theorem RfA.keptN (h : RfA x B b sb na nc N va vc V nx sl nd er w) (hc : Chg [] w w') : RfA x B b sb na nc N va vc V nx sl nd er w' := h.kept hc (by simp)
theorem RfA.lt (h : RfA x B b sb na nc N va vc V nx sl nd er w) : ∀ y ∈ rfF b sb na va, B ≤ y ∧ y < w.heap.size := by
  intro y hy
  rcases rfF_mem.1 hy with rfl | rfl | hy | hy
  · exact ⟨h.lb, lt_of_heap h.box⟩
  · exact h.sl.block y rfl
  · exact h.nm.block _ (by rw [oblk_eq]; exact hy)
  · exact h.vl.block _ (by rw [oblk_eq]; exact hy)
theorem RfA.slen (h : RfA x B b sb na nc N va vc V nx sl nd er w) : sl.length = x.nodes.length := (RowOf.atS h.sl icI_len1).1.symm
theorem RfA.slF (h : RfA x B b sb na nc N va vc V nx sl nd er w) (i : Nat) : w.frozen? ⟨sb, i, none⟩ = false := (RowOf.atS h.sl icI_len1).2.2.2.2.1 i
theorem RfA.slC (h : RfA x B b sb na nc N va vc V nx sl nd er w) (i : Nat) (hi : i < x.nodes.length) : w.cell? ⟨sb, i, none⟩ = some (.int .i64 (sl[i]'(by rw [h.slen]; exact hi))) := by
  have := (RowOf.atS h.sl icI_len1).2.2.2.1 i (by rw [h.slen]; exact hi) 0 (by omega)
  simpa [icI] using this
/-- A cell of the struct is put. -/
theorem RfA.put (h : RfA x B b sb na nc N va vc V nx sl nd er w) (j : Nat) (v : Value) {nx' nd' er' : Int} (hb : (w.setCell ⟨b, j, none⟩ v).heap[b]? = some (rfO x sb na N.length nc va V.length vc nx' nd' er')) : RfA x B b sb na nc N va vc V nx' sl nd' er' (w.setCell ⟨b, j, none⟩ v) := by
  have hc : Chg [b] w (w.setCell ⟨b, j, none⟩ v) := (Chg.refl _ _).setCell _ _ (by simp)
  exact ⟨hb, h.nm.kept hc (fun g hg hm => by rw [oblk_eq] at hg; simp at hm; subst hm; exact h.n2 hg), h.vl.kept hc (fun g hg hm => by rw [oblk_eq] at hg; simp at hm; subst hm; exact h.n4 hg), h.sl.kept hc (fun g hg hm => by simp [Value.ownBlock] at hg; simp at hm; subst hm; exact h.n1 hg), h.lb, h.n1, h.n2, h.n3, h.n4, h.n5, h.n6⟩
theorem RfA.putNext (h : RfA x B b sb na nc N va vc V nx sl nd er w) (v : Int) : RfA x B b sb na nc N va vc V v sl nd er (w.setCell ⟨b, 4, none⟩ (.int .i64 v)) := h.put 4 _ (by rw [blk_set h.box 4 (.int .i64 v)]; rfl)
theorem RfA.putNode (h : RfA x B b sb na nc N va vc V nx sl nd er w) (v : Int) : RfA x B b sb na nc N va vc V nx sl v er (w.setCell ⟨b, 6, none⟩ (.int .i64 v)) := h.put 6 _ (by rw [blk_set h.box 6 (.int .i64 v)]; rfl)
theorem RfA.putErr (h : RfA x B b sb na nc N va vc V nx sl nd er w) (v : Int) : RfA x B b sb na nc N va vc V nx sl nd v (w.setCell ⟨b, 7, none⟩ (.int .i64 v)) := h.put 7 _ (by rw [blk_set h.box 7 (.int .i64 v)]; rfl)
theorem RfA.putSlot (h : RfA x B b sb na nc N va vc V nx sl nd er w) (i : Nat) (hi : i < x.nodes.length) (v : Int) : RfA x B b sb na nc N va vc V nx (sl.set i v) nd er (w.setCell ⟨sb, i, none⟩ (.int .i64 v)) := by
  have hc : Chg [sb] w (w.setCell ⟨sb, i, none⟩ (.int .i64 v)) := (Chg.refl _ _).setCell _ _ (by simp)
  refine ⟨hc.at (by simp; exact fun e => h.n1 e.symm) h.box, h.nm.kept hc (fun g hg hm => by rw [oblk_eq] at hg; simp at hm; subst hm; exact h.n3 hg), h.vl.kept hc (fun g hg hm => by rw [oblk_eq] at hg; simp at hm; subst hm; exact h.n5 hg), ?_, h.lb, h.n1, h.n2, h.n3, h.n4, h.n5, h.n6⟩
  have := RowOf.stored h.sl h.slen.symm icI_len1 i (by rw [h.slen]; exact hi) 0 (by omega) (.int .i64 v) v rfl
  simpa using this
/-- The visible names are put anew. -/
theorem RfA.putN {wy : World} (h : RfA x B b sb na nc N va vc V nx sl nd er w) (na' : Option Addr) (nc' : Nat) (N' : List ByteArray) (hc : Chg (oblk na).toList w wy) (hr : RowOf skC 1 wy B 9 (.slice na' N'.length nc') N') (hl : ∀ y, oblk na' = some y → oblk na = some y ∨ w.heap.size ≤ y) :
    RfA x B b sb na' nc' N' va vc V nx sl nd er (wy.setCell ⟨b, 2, none⟩ (.slice na' N'.length nc')) ∧ Chg (rfF b sb na va) w (wy.setCell ⟨b, 2, none⟩ (.slice na' N'.length nc')) := by
  have hs : Chg [b] wy (wy.setCell ⟨b, 2, none⟩ (.slice na' N'.length nc')) := (Chg.refl _ _).setCell _ _ (by simp)
  have hb := lt_of_heap h.box
  have hsb : sb < w.heap.size := (h.sl.block sb rfl).2
  have m2 : oblk na' ≠ some b := fun e => by
    rcases hl b e with e1 | e1
    · exact h.n2 e1
    · omega
  have m3 : oblk na' ≠ some sb := fun e => by
    rcases hl sb e with e1 | e1
    · exact h.n3 e1
    · omega
  refine ⟨⟨?_, hr.kept hs (fun y hy hm => by simp at hm; subst hm; rw [oblk_eq] at hy; exact m2 hy), (h.vl.kept hc (fun g hg hm => ?_)).kept hs (fun y hy hm => by simp at hm; subst hm; rw [oblk_eq] at hy; exact h.n4 hy), (h.sl.kept hc (fun g hg hm => ?_)).kept hs (fun y hy hm => by simp [Value.ownBlock] at hy; simp at hm; subst hm; exact h.n1 hy), h.lb, h.n1, m2, m3, h.n4, h.n5, fun g e e2 => ?_⟩, ?_⟩
  · rw [blk_set (hc.at (by simpa using h.n2) h.box) 2 (.slice na' N'.length nc')]
    rfl
  · rw [oblk_eq] at hg
    exact h.n6 g (by simpa using hm) hg
  · simp [Value.ownBlock] at hg
    subst hg
    exact h.n3 (by simpa using hm)
  · rcases hl g e with e1 | e1
    · exact h.n6 g e1 e2
    · have := (h.vl.block g (by rw [oblk_eq]; exact e2)).2
      omega
  · exact Chg.trans hc hs (fun y hy _ => rfF_mem.2 (.inr (.inr (.inl (by simpa using hy))))) (fun y hy _ => rfF_mem.2 (.inl (by simpa using hy)))
theorem RfA.putV {wy : World} (h : RfA x B b sb na nc N va vc V nx sl nd er w) (va' : Option Addr) (vc' : Nat) (V' : List Int) (hc : Chg (oblk va).toList w wy) (hr : RowOf icI 1 wy B 3 (.slice va' V'.length vc') V') (hl : ∀ y, oblk va' = some y → oblk va = some y ∨ w.heap.size ≤ y) :
    RfA x B b sb na nc N va' vc' V' nx sl nd er (wy.setCell ⟨b, 3, none⟩ (.slice va' V'.length vc')) ∧ Chg (rfF b sb na va) w (wy.setCell ⟨b, 3, none⟩ (.slice va' V'.length vc')) := by
  have hs : Chg [b] wy (wy.setCell ⟨b, 3, none⟩ (.slice va' V'.length vc')) := (Chg.refl _ _).setCell _ _ (by simp)
  have hb := lt_of_heap h.box
  have hsb : sb < w.heap.size := (h.sl.block sb rfl).2
  have m2 : oblk va' ≠ some b := fun e => by
    rcases hl b e with e1 | e1
    · exact h.n4 e1
    · omega
  have m3 : oblk va' ≠ some sb := fun e => by
    rcases hl sb e with e1 | e1
    · exact h.n5 e1
    · omega
  refine ⟨⟨?_, (h.nm.kept hc (fun g hg hm => ?_)).kept hs (fun y hy hm => by simp at hm; subst hm; rw [oblk_eq] at hy; exact h.n2 hy), hr.kept hs (fun y hy hm => by simp at hm; subst hm; rw [oblk_eq] at hy; exact m2 hy), (h.sl.kept hc (fun g hg hm => ?_)).kept hs (fun y hy hm => by simp [Value.ownBlock] at hy; simp at hm; subst hm; exact h.n1 hy), h.lb, h.n1, h.n2, h.n3, m2, m3, fun g e e2 => ?_⟩, ?_⟩
  · rw [blk_set (hc.at (by simpa using h.n4) h.box) 3 (.slice va' V'.length vc')]
    rfl
  · rw [oblk_eq] at hg
    exact h.n6 g hg (by simpa using hm)
  · simp [Value.ownBlock] at hg
    subst hg
    exact h.n5 (by simpa using hm)
  · rcases hl g e2 with e1 | e1
    · exact h.n6 g e e1
    · have := (h.nm.block g (by rw [oblk_eq]; exact e)).2
      omega
  · exact Chg.trans hc hs (fun y hy _ => rfF_mem.2 (.inr (.inr (.inr (by simpa using hy))))) (fun y hy _ => rfF_mem.2 (.inl (by simpa using hy)))
end
/-- The walk as a state, with its blocks. -/
def RfJ (x : Pr) (B b sb : Nat) (S : RfS) (L : List Nat) (w : World) : Prop := ∃ na nc va vc, RfA x B b sb na nc (S.names.map Prod.fst) va vc (S.names.map Prod.snd) S.next S.slot S.node S.err w ∧ L = rfF b sb na va
/-- The state became S' by changes of its own blocks and of new ones. -/
def RfTo (x : Pr) (B b sb : Nat) (L : List Nat) (w : World) (S' : RfS) (w' : World) : Prop := ∃ L', RfJ x B b sb S' L' w' ∧ Chg L w w' ∧ ∀ y ∈ L', y ∈ L ∨ w.heap.size ≤ y
section
variable {x : Pr} {B b sb : Nat} {S S' : RfS} {L : List Nat} {w w' : World}
theorem RfJ.keptN (h : RfJ x B b sb S L w) (hc : Chg [] w w') : RfJ x B b sb S L w' := by
  obtain ⟨na, nc, va, vc, h1, h2⟩ := h
  exact ⟨na, nc, va, vc, h1.keptN hc, h2⟩
theorem RfJ.kept {T : List Nat} (h : RfJ x B b sb S L w) (hc : Chg T w w') (hT : ∀ y ∈ L, y ∉ T) : RfJ x B b sb S L w' := by
  obtain ⟨na, nc, va, vc, h1, rfl⟩ := h
  exact ⟨na, nc, va, vc, h1.kept hc hT, rfl⟩
theorem RfJ.lt (h : RfJ x B b sb S L w) : ∀ y ∈ L, B ≤ y ∧ y < w.heap.size := by
  obtain ⟨na, nc, va, vc, h1, rfl⟩ := h
  exact h1.lt
theorem RfTo.refl (h : RfJ x B b sb S L w) : RfTo x B b sb L w S w := ⟨L, h, (Chg.refl _ _), fun y hy => .inl hy⟩
theorem RfTo.sameN (h : RfJ x B b sb S L w) (hc : Chg [] w w') : RfTo x B b sb L w S w' := ⟨L, h.keptN hc, hc.mono (by simp), fun y hy => .inl hy⟩
theorem RfTo.then {w2 : World} {S2 : RfS} (h : RfTo x B b sb L w S w') (h2 : ∀ L', RfJ x B b sb S L' w' → RfTo x B b sb L' w' S2 w2) : RfTo x B b sb L w S2 w2 := by
  obtain ⟨L1, j1, c1, n1⟩ := h
  obtain ⟨L2, j2, c2, n2⟩ := h2 L1 j1
  refine ⟨L2, j2, c1.then c2 (fun y hy hlt => ?_), fun y hy => ?_⟩
  · rcases n1 y hy with h | h
    · exact h
    · omega
  · rcases n2 y hy with h | h
    · exact n1 y h
    · exact .inr (Nat.le_trans c1.size h)
theorem RfTo.comp {w2 : World} {S2 : RfS} {L1 : List Nat} (c1 : Chg L w w') (n1 : ∀ y ∈ L1, y ∈ L ∨ w.heap.size ≤ y) (h2 : RfTo x B b sb L1 w' S2 w2) : RfTo x B b sb L w S2 w2 := by
  obtain ⟨L2, j2, c2, n2⟩ := h2
  refine ⟨L2, j2, c1.then c2 (fun y hy hlt => ?_), fun y hy => ?_⟩
  · rcases n1 y hy with h | h
    · exact h
    · omega
  · rcases n2 y hy with h | h
    · exact n1 y h
    · exact .inr (Nat.le_trans c1.size h)
theorem RfTo.thenN {w2 : World} (h : RfTo x B b sb L w S w') (hc : Chg [] w' w2) : RfTo x B b sb L w S w2 := h.then (fun _ j => RfTo.sameN j hc)
/-- What is not the walk's stays. -/
theorem RfTo.at {k : Nat} {o : Obj} (h : RfTo x B b sb L w S w') (hk : k ∉ L) (ho : w.heap[k]? = some o) : w'.heap[k]? = some o := by
  obtain ⟨L1, j1, c1, n1⟩ := h
  exact c1.at hk ho
theorem RfTo.chg {W : World} (h : RfTo x B b sb L w S w') (hW : Chg [] W w) (hL : ∀ y ∈ L, W.heap.size ≤ y) : Chg [] W w' := by
  obtain ⟨L1, j1, c1, n1⟩ := h
  exact hW.then c1 (fun y hy hlt => absurd hlt (Nat.not_lt.2 (hL y hy)))
end
theorem visR_cons {e : ByteArray × Int} {l : List (ByteArray × Int)} {s : ByteArray} : visR (e :: l) s = if (e.1 == s) = true then e.2 else visR l s := by
  unfold visR lookL
  by_cases h : (e.1 == s) = true
  · rw [if_pos h, List.find?_cons_of_pos (p := fun x : ByteArray × Int => x.1 == s) h]
  · rw [if_neg h, List.find?_cons_of_neg (p := fun x : ByteArray × Int => x.1 == s) h]
set_option maxHeartbeats 16000000 in
set_option maxRecDepth 100000 in
theorem visible_any {x : Pr} {B b sb : Nat} {S : RfS} {L : List Nat} {w : World} (h : RfJ x B b sb S L w) (s : ByteArray) : Calls Tryz.prog 68 #[.pointer (some ⟨b, 0, none⟩), .string s] w fun e w' => e = .returned (.int .i64 (visR S.names s)) ∧ Chg [] w w' := by
  obtain ⟨na, nc, va, vc, h, rfl⟩ := h
  obtain ⟨R, hR⟩ : ∃ R, R = visR S.names s := ⟨_, rfl⟩
  rw [← hR]
  have HR := Lib.hid hR
  have H := Lib.hid h
  obtain ⟨names, next, slot, node, err⟩ := S
  simp only at hR h
  have nlen : (names.length : Int) ≤ 9223372036854775807 := by
    have h0 := (InIs.ofRow h.nm skC_len).2
    have h1 := h0.2.1; have h2 := h0.2.2.1; unfold maxLen at h2; rw [List.length_map] at h1; omega
  clear hR h
  have HBX := Lib.hid H.out.box
  unfold rfO at HBX
  simp only [List.length_map] at HBX
  have k0 := blk_cell HBX.out
  go_enter Tryz.func68, Tryz.ntmps68
  go_upto_region 1 with fail
  go_wp2_with fail
  go_loopw [5] (fun u wi => ∃ i : Nat, u = .int .i64 i ∧ i ≤ names.length ∧ Hid (R = visR (names.drop i) s) ∧ wi = w) (fun u _ => names.length - (intOf u).toNat)
  case atStart => exact ⟨0, rfl, Nat.zero_le _, HR, rfl⟩
  case round =>
    obtain ⟨i, rfl, hi, HQ, rfl⟩ := hrel
    have hi0 : (0 : Int) ≤ (i : Int) := by omega
    by_cases hil : i < names.length
    · have hil' : (i : Int) < (names.length : Int) := by omega
      obtain ⟨b4, o4, e4, -, -, hc4⟩ := ((InIs.ofRow H.out.nm skC_len).2.1).elem (Chg.refl [] _) i (by rw [List.length_map]; exact hil)
      obtain ⟨b5, o5, e5, -, -, hc5⟩ := ((InIs.ofRow H.out.vl icI_len1).2.1).elem (Chg.refl [] _) i (by rw [List.length_map]; exact hil)
      have u4 := hc4 0 (by omega)
      have u5 := hc5 0 (by omega)
      simp only [skC, icI, List.getElem_map, List.getElem?_cons_zero, Nat.add_zero, Nat.mul_one] at u4 u5
      clear hc4 hc5
      subst e4
      subst e5
      have HQ2 := HQ.out
      rw [List.drop_eq_getElem_cons hil, visR_cons] at HQ2
      generalize names[i] = e at *
      obtain ⟨en, ev⟩ := e
      simp only at u4 u5 HQ2
      have q1 : IntKind.i64.wrap ((i : Int) + 1) = (i : Int) + 1 := IntWalk.i64_in _ (by omega)
      cases hq : (en == s)
      · rw [hq, if_neg (by simp)] at HQ2
        have HQ3 := Lib.hid HQ2
        have hq2 : (en.toList == s.toList) = false := (beq_toListBytes en s).symm.trans hq
        clear HQ2 hq
        go_wp2_with fail
        exact ⟨⟨i + 1, rfl, by omega, HQ3, trivial⟩, by simp [intOf]; omega⟩
      · rw [hq, if_pos rfl] at HQ2
        have HE := Lib.hid HQ2
        have hq2 : (en.toList == s.toList) = true := (beq_toListBytes en s).symm.trans hq
        clear HQ2 hq
        go_wp2_with fail
        go_ret
        exact ⟨retI HE.out.symm, Chg.refl _ _⟩
    · have hie : i = names.length := by omega
      have hil' : ¬ (i : Int) < (names.length : Int) := by omega
      have HQ2 := HQ.out
      rw [hie, List.drop_length] at HQ2
      have HE := Lib.hid (show R = -1 from HQ2)
      clear HQ2 hie
      go_wp2_with fail
      go_ret
      exact ⟨retI HE.out.symm, Chg.refl _ _⟩
set_option maxHeartbeats 16000000 in
set_option maxRecDepth 100000 in
theorem fail_any {x : Pr} {B b sb : Nat} {S : RfS} {L : List Nat} {w : World} (h : RfJ x B b sb S L w) (i e : Int) : Calls Tryz.prog 69 #[.pointer (some ⟨b, 0, none⟩), .int .i64 i, .int .i64 e] w fun r w' => r = .returned (.tuple #[]) ∧ RfTo x B b sb L w (failR S i e) w' := by
  obtain ⟨na, nc, va, vc, h, rfl⟩ := h
  obtain ⟨R, hR⟩ : ∃ R, R = failR S i e := ⟨_, rfl⟩
  rw [← hR]
  have H := Lib.hid h
  have k0 := blk_cell (by have := h.box; unfold rfO at this; exact this)
  have f0 := blk_free (by have := h.box; unfold rfO at this; exact this)
  by_cases he : S.err = 0
  · have HR := Lib.hid (show R = ⟨S.names, S.next, S.slot, i, e⟩ by rw [hR]; unfold failR; rw [if_pos he])
    rw [he] at k0
    obtain ⟨W1, hW1⟩ : ∃ W1, W1 = w.setCell ⟨b, 6, none⟩ (.int .i64 i) := ⟨_, rfl⟩
    have A1 := Lib.hid (show RfA x B b sb na nc (S.names.map Prod.fst) va vc (S.names.map Prod.snd) S.next S.slot i S.err W1 by rw [hW1]; exact h.putNode i)
    have C1 := Lib.hid (show Chg [b] w W1 by rw [hW1]; exact (Chg.refl _ _).setCell _ _ (by simp))
    have k1 := blk_cell (by have := A1.out.box; unfold rfO at this; exact this)
    have f1 := blk_free (by have := A1.out.box; unfold rfO at this; exact this)
    have A2 := Lib.hid (A1.out.putErr e)
    have C2 := Lib.hid (C1.out.setCell ⟨b, 7, none⟩ (.int .i64 e) (by simp))
    clear hR h he
    go_enter Tryz.func69, Tryz.ntmps69
    go_upto_region 2 with fail
    rw [← hW1]
    clear hW1 k0 f0
    go_wp2_with fail
    go_end0
    exact ⟨rfl, rfF b sb na va, ⟨na, nc, va, vc, by rw [HR.out]; exact A2.out, rfl⟩, C2.out.mono (fun y hy _ => by simp at hy; exact rfF_mem.2 (.inl hy)), fun y hy => .inl hy⟩
  · have HR := Lib.hid (show R = S by rw [hR]; unfold failR; rw [if_neg he])
    have he2 : (S.err == 0) = false := beq_eq_false_iff_ne.2 he
    clear hR h
    go_enter Tryz.func69, Tryz.ntmps69
    go_wp2_with fail
    go_end0
    exact ⟨rfl, by rw [HR.out]; exact RfTo.refl ⟨na, nc, va, vc, H.out, rfl⟩⟩
end Go.Proofs.YtolidiafomceiaaGreatDoor
namespace Go.Proofs.YtolidiafomceiaaGreatDoor
set_option linter.unusedVariables false
set_option linter.unusedSimpArgs false
open Go.RowKit
theorem strInfoW : (Tryz.prog.info? 9).map (fun i => (i.zero, i.size, i.bytes)) = some (some (.string .empty), 1, 16) := by kernel_rfl
theorem oblk_some (g : Nat) : oblk (some ⟨g, 0, none⟩) = some g := rfl
set_option maxHeartbeats 16000000 in
set_option maxRecDepth 100000 in
theorem declare_any {x : Pr} {B b sb : Nat} {S : RfS} {L : List Nat} {w : World} (h : RfJ x B b sb S L w) (hn : S.names.length ≤ 10000) (s : ByteArray) : Calls Tryz.prog 47 #[.pointer (some ⟨b, 0, none⟩), .string s] w fun e w' => e = .returned (.int .i64 (wrap64 (wrap64 (S.next + 1) - 1))) ∧ RfTo x B b sb L w (declR S s) w' := by
  have hB : B ≤ w.heap.size := by have := h.lt b (by obtain ⟨na, nc, va, vc, h, rfl⟩ := h; exact rfF_mem.2 (.inl rfl)); omega
  obtain ⟨na, nc, va, vc, h, rfl⟩ := h
  obtain ⟨names, next, slot, node, err⟩ := S
  simp only at h hn
  have H := Lib.hid h
  have hnl : (names.map Prod.fst).length ≤ 10000 := by rw [List.length_map]; exact hn
  have hvl : (names.map Prod.snd).length ≤ 10000 := by rw [List.length_map]; exact hn
  have HN1 := Lib.hid (show (names.map Prod.fst).length = names.length from List.length_map _)
  have HN2 := Lib.hid (show (names.map Prod.snd).length = names.length from List.length_map _)
  obtain ⟨N, hN⟩ : ∃ N, N = names.map Prod.fst := ⟨_, rfl⟩
  obtain ⟨V, hV⟩ : ∃ V, V = names.map Prod.snd := ⟨_, rfl⟩
  rw [← hN] at HN1 hnl
  rw [← hV] at HN2 hvl
  have HNN := Lib.hid hN
  have HVV := Lib.hid hV
  have HH := Lib.hid (show RfA x B b sb na nc N va vc V next slot node err w by rw [hN, hV]; exact h)
  have X1 := Lib.hid (HH.out.nm.kept ((Chg.refl [] w).alloc (.cells #[.string s] 9 (0, 0))) (by simp))
  clear h hN hV H
  have HBX := Lib.hid (show w.heap[b]? = some (.cells #[.slice x.na x.nodes.length x.nc, .slice x.fa x.funcs.length x.fc, .slice na N.length nc, .slice va V.length vc, .int .i64 next, .slice (some ⟨sb, 0, none⟩) x.nodes.length x.nodes.length, .int .i64 node, .int .i64 err] 58 (0, 0)) from HH.out.box)
  have k0 := blk_cell HBX.out
  have f0 := blk_free HBX.out
  have kb := blk_cell (blk_alloc (o' := .cells #[.string s] 9 (0, 0)) HBX.out)
  have fb := blk_free (blk_alloc (o' := .cells #[.string s] 9 (0, 0)) HBX.out)
  go_enter Tryz.func47, Tryz.ntmps47
  go_upto_region 1 with fail
  go_upto_region 2 with (at_builtin; refine wpl_appendL rfl _ _ 36 rfl B 9 _ 16 Tryz.underlying36 strInfoW rfl (by decide) skC_len skC_one (.slice na N.length nc) N rfl X1.out w.heap.size 1 s _ _ _ rfl (heap_alloc_new w _) rfl (by unfold maxLen; omega) (by omega) (by simp; omega) ?_; intro g1 c1 w1 hr1 hg1 ho1 hl1; have G1 := Lib.hid (show Chg (oblk na).toList (w.alloc (.cells #[.string s] 9 (0, 0))) w1 by have := Chg.ofRow (v := .slice na N.length nc) hg1; rw [oblk_eq] at this; exact this); have R1 := Lib.hid hr1; have O1 := Lib.hid (show oblk na = some g1 ∨ (w.alloc (.cells #[.string s] 9 (0, 0))).heap.size ≤ g1 by rw [oblk_eq] at ho1; rcases ho1 with e | e; exact .inl e; exact .inr (Nat.le_of_eq e.symm)); have BX1 := Lib.hid (G1.out.at (by simpa using HH.out.n2) (blk_alloc HBX.out)); have k1 := blk_cell BX1.out; have f1 := blk_free BX1.out; clear hr1 hg1 ho1 hl1)
  obtain ⟨W3, hW3⟩ : ∃ W3, W3 = w1.setCell ⟨b, 2, none⟩ (.slice (some ⟨g1, 0, none⟩) (N.length + 1) c1) := ⟨_, rfl⟩
  have P3 := (HH.out.keptN ((Chg.refl [] w).alloc (.cells #[.string s] 9 (0, 0)))).putN (some ⟨g1, 0, none⟩) c1 (N ++ [s]) G1.out (by rw [List.length_append]; exact R1.out) (fun y hy => by
    have e : g1 = y := by simpa [oblk] using hy
    subst e
    rcases O1.out with h | h
    · exact .inl h
    · exact .inr h)
  rw [List.length_append, List.length_singleton, ← hW3] at P3
  have A3 := Lib.hid P3.1
  have K3 := Lib.hid P3.2
  have ZB3 := Lib.hid (show B ≤ W3.heap.size from Nat.le_trans hB (Nat.le_trans ((Chg.refl [] w).alloc (.cells #[.string s] 9 (0, 0))).size K3.out.size))
  rw [← hW3]
  clear hW3 P3 k0 f0 kb fb k1 f1 BX1 G1 R1 X1 HBX
  go_cut [] (fun wx => ∃ g8 c8, Hid (RfA x B b sb (some ⟨g1, 0, none⟩) c1 (N ++ [s]) (some ⟨g8, 0, none⟩) c8 (V ++ [next]) next slot node err wx) ∧ Hid (Chg (rfF b sb (some ⟨g1, 0, none⟩) va) W3 wx) ∧ Hid (oblk va = some g8 ∨ W3.heap.size ≤ g8))
  case first =>
    obtain ⟨wd, hwd⟩ : ∃ wd, wd = W3.drew := ⟨_, rfl⟩
    have D0 := Lib.hid (show Chg [] W3 wd by rw [hwd]; exact (Chg.refl _ _).drew)
    have A4 := Lib.hid (A3.out.keptN D0.out)
    have BX4 := Lib.hid (show wd.heap[b]? = some (.cells #[.slice x.na x.nodes.length x.nc, .slice x.fa x.funcs.length x.fc, .slice (some ⟨g1, 0, none⟩) (N.length + 1) c1, .slice va V.length vc, .int .i64 next, .slice (some ⟨sb, 0, none⟩) x.nodes.length x.nodes.length, .int .i64 node, .int .i64 err] 58 (0, 0)) from by have := A4.out.box; unfold rfO at this; rw [List.length_append, List.length_singleton] at this; exact this)
    have N6 := Lib.hid (heap_alloc_new wd (.cells #[.int .i64 next] 3))
    have K6 := Lib.hid ((Chg.refl [] wd).alloc (.cells #[.int .i64 next] 3))
    have q3 := blk_cell BX4.out 3
    have q4 := blk_cell (blk_alloc (o' := .cells #[.int .i64 next] 3) BX4.out) 3
    simp only [List.getElem?_toArray, List.getElem?_cons_zero, List.getElem?_cons_succ] at q3 q4
    have R6 := Lib.hid (A4.out.vl.kept K6.out (by simp))
    refine wp_region_noPanic ?_
    refine wp_region_held_drew (S := (fun w' => w'.cell? ⟨b, 4, none⟩ = some (.int .i64 next))) (by kernel_rfl) (by rw [← hwd]; exact blk_cell BX4.out 4) (fun hHeld => ?_)
    rw [← hwd] at hHeld ⊢
    clear hwd
    refine wpAnyH_take (i := 0) (oi := _) (v := ?vA_0) rfl (by kernel_rfl) (by kernel_rfl) (by kernel_rfl) (fun _ _ _ h => h) (Or.inl ⟨by rfl, ?yA_0⟩) hHeld ?rA_0
    case yA_0 => (intro w hSw; (try dsimp only at hSw); (try simp only [List.getElem_toArray, List.getElem_cons_zero, List.getElem_cons_succ]); go_simp <;> with_reducible rfl)
    (try simp only [List.getElem_toArray, List.getElem_cons_zero, List.getElem_cons_succ, Act.put, List.setIfInBounds_toArray, List.set_cons_zero, List.set_cons_succ])
    refine wpAnyH_take (i := 1) (oi := _) (v := ?vA_1) rfl (by kernel_rfl) (by kernel_rfl) (by kernel_rfl) (fun _ _ _ h => h) (Or.inl ⟨by rfl, ?yA_1⟩) hHeld ?rA_1
    case yA_1 => (intro w hSw; (try dsimp only at hSw); (try simp only [List.getElem_toArray, List.getElem_cons_zero, List.getElem_cons_succ]); go_simp <;> with_reducible rfl)
    (try simp only [List.getElem_toArray, List.getElem_cons_zero, List.getElem_cons_succ, Act.put, List.setIfInBounds_toArray, List.set_cons_zero, List.set_cons_succ])
    refine wpAnyH_take (i := 2) (oi := _) (v := ?vA_2) rfl (by kernel_rfl) (by kernel_rfl) (by kernel_rfl) (fun _ _ _ h => h) (Or.inl ⟨by rfl, ?yA_2⟩) hHeld ?rA_2
    case yA_2 => (intro w hSw; (try dsimp only at hSw); (try simp only [List.getElem_toArray, List.getElem_cons_zero, List.getElem_cons_succ]); go_simp <;> with_reducible rfl)
    (try simp only [List.getElem_toArray, List.getElem_cons_zero, List.getElem_cons_succ, Act.put, List.setIfInBounds_toArray, List.set_cons_zero, List.set_cons_succ])
    refine wpAnyH_take (i := 3) (oi := _) (v := ?vA_3) rfl (by kernel_rfl) (by kernel_rfl) (by kernel_rfl) (fun _ _ _ h => h) (Or.inl ⟨by rfl, ?yA_3⟩) hHeld ?rA_3
    case yA_3 => (intro w hSw; (try dsimp only at hSw); (try simp only [List.getElem_toArray, List.getElem_cons_zero, List.getElem_cons_succ]); go_simp <;> with_reducible rfl)
    (try simp only [List.getElem_toArray, List.getElem_cons_zero, List.getElem_cons_succ, Act.put, List.setIfInBounds_toArray, List.set_cons_zero, List.set_cons_succ])
    refine wpAnyH_take (i := 5) (oi := _) (v := ?vA_5) rfl (by kernel_rfl) (by kernel_rfl) (by kernel_rfl) (fun _ _ _ h => h) (Or.inl ⟨by rfl, ?yA_5⟩) hHeld ?rA_5
    case yA_5 => (intro w hSw; (try dsimp only at hSw); (try simp only [List.getElem_toArray, List.getElem_cons_zero, List.getElem_cons_succ]); go_simp <;> with_reducible rfl)
    (try simp only [List.getElem_toArray, List.getElem_cons_zero, List.getElem_cons_succ, Act.put, List.setIfInBounds_toArray, List.set_cons_zero, List.set_cons_succ])
    refine wpAnyH_take (i := 6) (oi := _) (v := ?vA_6) rfl (by kernel_rfl) (by kernel_rfl) (by kernel_rfl) (fun _ _ _ h => h) (Or.inl ⟨by rfl, ?yA_6⟩) hHeld ?rA_6
    case yA_6 => (intro w hSw; (try dsimp only at hSw); (try simp only [List.getElem_toArray, List.getElem_cons_zero, List.getElem_cons_succ]); go_simp <;> with_reducible rfl)
    (try simp only [List.getElem_toArray, List.getElem_cons_zero, List.getElem_cons_succ, Act.put, List.setIfInBounds_toArray, List.set_cons_zero, List.set_cons_succ])
    refine wpAnyH_take (i := 7) (oi := _) (v := ?vA_7) rfl (by kernel_rfl) (by kernel_rfl) (by kernel_rfl) (fun _ _ _ h => h) (Or.inl ⟨by rfl, ?yA_7⟩) hHeld ?rA_7
    case yA_7 => (intro w hSw; (try dsimp only at hSw); (try simp only [List.getElem_toArray, List.getElem_cons_zero, List.getElem_cons_succ]); go_simp <;> with_reducible rfl)
    (try simp only [List.getElem_toArray, List.getElem_cons_zero, List.getElem_cons_succ, Act.put, List.setIfInBounds_toArray, List.set_cons_zero, List.set_cons_succ])
    refine wpAnyH_take (i := 8) (oi := _) (v := ?vA_8) rfl (by kernel_rfl) (by kernel_rfl) (by kernel_rfl) (fun _ _ _ h => h) (Or.inl ⟨by rfl, ?yA_8⟩) hHeld ?rA_8
    case yA_8 => (intro w hSw; (try dsimp only at hSw); (try simp only [List.getElem_toArray, List.getElem_cons_zero, List.getElem_cons_succ]); go_simp <;> with_reducible rfl)
    (try simp only [List.getElem_toArray, List.getElem_cons_zero, List.getElem_cons_succ, Act.put, List.setIfInBounds_toArray, List.set_cons_zero, List.set_cons_succ])
    refine wpAnyH_ready (rs := [4, 9]) (by kernel_rfl) (by simp) ?_
    refine AllReadyH.cons (o := _) rfl (fun K hK => ?_) (AllReadyH.cons (o := _) rfl (fun K hK => ?_) AllReadyH.nil)
    ·
      (try simp only [List.getElem_toArray, List.getElem_cons_zero, List.getElem_cons_succ])
      go_simp
      skip
      refine hK.out _ _ ?_ (fun hHeld => ?_)
      exact blk_cell BX4.out 4
      clear hK K
      (try simp only [List.getElem_toArray, List.getElem_cons_zero, List.getElem_cons_succ, Act.put, List.setIfInBounds_toArray, List.set_cons_zero, List.set_cons_succ])
      refine wpAnyH_ready (rs := [9]) (by kernel_rfl) (by simp) ?_
      refine AllReadyH.cons (o := _) rfl (fun K hK => ?_) AllReadyH.nil
      (try simp only [List.getElem_toArray, List.getElem_cons_zero, List.getElem_cons_succ])
      go_simp
      skip
      refine hK.out _ _ ?_ (fun hHeld => ?_)
      exact blk_cell (blk_alloc (o' := .cells #[.int .i64 next] 3) BX4.out) 4
      clear hK K
      (try simp only [List.getElem_toArray, List.getElem_cons_zero, List.getElem_cons_succ, Act.put, List.setIfInBounds_toArray, List.set_cons_zero, List.set_cons_succ])
      refine wpAnyH_ready (rs := [10]) (by kernel_rfl) (by simp) ?_
      refine AllReadyH.cons (o := _) rfl (fun K hK => ?_) AllReadyH.nil
      (try simp only [List.getElem_toArray, List.getElem_cons_zero, List.getElem_cons_succ])
      refine step_list rfl ?_
      (refine wpl_appendL rfl _ _ 32 rfl B 3 _ 8 Tryz.underlying32 intInfoS rfl (by decide) icI_len1 icI_one1 (.slice va V.length vc) V rfl R6.out wd.heap.size 1 next _ _ _ rfl N6.out rfl (by unfold maxLen; omega) (by omega) (Nat.le_trans ZB3.out (Nat.le_trans D0.out.size K6.out.size)) ?_; intro g8 c8 w8 hr8 hg8 ho8 hl8; have K8 := Lib.hid (show Chg (oblk va).toList (wd.alloc (.cells #[.int .i64 next] 3)) w8 by have := Chg.ofRow (v := .slice va V.length vc) hg8; rw [oblk_eq] at this; exact this); have R8 := Lib.hid hr8; have O8 := Lib.hid ho8; have SX8 := Lib.hid (K8.out.at (by simpa using A4.out.n4) (K6.out.at (by simp) BX4.out)); clear hr8 hg8 ho8)
      refine ⟨rfl, hK.out _ _ ?_ (fun hHeld => ?_)⟩
      exact blk_cell SX8.out 4
      clear hK K
      (try simp only [List.getElem_toArray, List.getElem_cons_zero, List.getElem_cons_succ, Act.put, List.setIfInBounds_toArray, List.set_cons_zero, List.set_cons_succ])
      have v8 := blk_cell SX8.out
      have f8 := blk_free SX8.out
      refine wpAnyH_take (i := 11) (oi := _) (v := ?vA_11) rfl (by kernel_rfl) (by kernel_rfl) (by kernel_rfl) (fun _ _ _ h => h) (Or.inl ⟨by rfl, ?yA_11⟩) hHeld ?rA_11
      case yA_11 => (intro w hSw; (try dsimp only at hSw); (try simp only [List.getElem_toArray, List.getElem_cons_zero, List.getElem_cons_succ]); go_simp <;> with_reducible rfl)
      (try simp only [List.getElem_toArray, List.getElem_cons_zero, List.getElem_cons_succ, Act.put, List.setIfInBounds_toArray, List.set_cons_zero, List.set_cons_succ])
      refine wpAnyH_take (i := 12) (oi := _) (v := ?vA_12) rfl (by kernel_rfl) (by kernel_rfl) (by kernel_rfl) (fun _ _ _ h => h) (Or.inl ⟨by rfl, ?yA_12⟩) hHeld ?rA_12
      case yA_12 => (intro w hSw; (try dsimp only at hSw); (try simp only [List.getElem_toArray, List.getElem_cons_zero, List.getElem_cons_succ]); go_simp <;> with_reducible rfl)
      (try simp only [List.getElem_toArray, List.getElem_cons_zero, List.getElem_cons_succ, Act.put, List.setIfInBounds_toArray, List.set_cons_zero, List.set_cons_succ])
      refine wpAnyH_ready (rs := [13]) (by kernel_rfl) (by simp) ?_
      refine AllReadyH.cons (o := _) rfl (fun K hK => ?_) AllReadyH.nil
      (try simp only [List.getElem_toArray, List.getElem_cons_zero, List.getElem_cons_succ])
      go_simp
      skip
      refine hK.out _ _ ?_ (fun hHeld => ?_)
      exact blk_cell ((blk_set SX8.out 3 _).trans rfl : (w8.setCell ⟨b, 3, none⟩ (.slice (some ⟨g8, 0, none⟩) (V.length + 1) c8)).heap[b]? = some (.cells #[.slice x.na x.nodes.length x.nc, .slice x.fa x.funcs.length x.fc, .slice (some ⟨g1, 0, none⟩) (N.length + 1) c1, .slice (some ⟨g8, 0, none⟩) (V.length + 1) c8, .int .i64 next, .slice (some ⟨sb, 0, none⟩) x.nodes.length x.nodes.length, .int .i64 node, .int .i64 err] 58 (0, 0))) 4
      clear hK K
      (try simp only [List.getElem_toArray, List.getElem_cons_zero, List.getElem_cons_succ, Act.put, List.setIfInBounds_toArray, List.set_cons_zero, List.set_cons_succ])
      refine wpAnyH_done (by kernel_rfl) ?_ _
      refine NoPanic.normal ?_
      go_wp2_with fail
      go_meet
      have ho8' : ∀ y, oblk (some ⟨g8, 0, none⟩) = some y → oblk va = some y ∨ (wd.alloc (.cells #[.int .i64 next] 3)).heap.size ≤ y := by
        intro y hy
        have e : g8 = y := by simpa [oblk] using hy
        subst e
        rcases O8.out with e | e
        · left; rw [oblk_eq] at e; exact e
        · right; rw [e]; exact Nat.le_refl _
      have hfin := (A4.out.keptN K6.out).putV (some ⟨g8, 0, none⟩) c8 (V ++ [next]) K8.out (by rw [List.length_append]; exact R8.out) ho8'
      rw [List.length_append] at hfin
      exact ⟨g8, c8, Lib.hid hfin.1, Lib.hid (((D0.out.thenSame K6.out).mono (by simp)).then hfin.2 (fun y hy _ => hy)), Lib.hid (by rcases ho8' g8 rfl with h | h; exact .inl h; exact .inr (Nat.le_trans (Nat.le_trans D0.out.size K6.out.size) h))⟩
    ·
      (try simp only [List.getElem_toArray, List.getElem_cons_zero, List.getElem_cons_succ])
      go_simp
      skip
      refine hK.out _ _ ?_ (fun hHeld => ?_)
      exact blk_cell (blk_alloc (o' := .cells #[.int .i64 next] 3) BX4.out) 4
      clear hK K
      (try simp only [List.getElem_toArray, List.getElem_cons_zero, List.getElem_cons_succ, Act.put, List.setIfInBounds_toArray, List.set_cons_zero, List.set_cons_succ])
      refine wpAnyH_ready (rs := [4]) (by kernel_rfl) (by simp) ?_
      refine AllReadyH.cons (o := _) rfl (fun K hK => ?_) AllReadyH.nil
      (try simp only [List.getElem_toArray, List.getElem_cons_zero, List.getElem_cons_succ])
      go_simp
      skip
      refine hK.out _ _ ?_ (fun hHeld => ?_)
      exact blk_cell (blk_alloc (o' := .cells #[.int .i64 next] 3) BX4.out) 4
      clear hK K
      (try simp only [List.getElem_toArray, List.getElem_cons_zero, List.getElem_cons_succ, Act.put, List.setIfInBounds_toArray, List.set_cons_zero, List.set_cons_succ])
      refine wpAnyH_ready (rs := [10]) (by kernel_rfl) (by simp) ?_
      refine AllReadyH.cons (o := _) rfl (fun K hK => ?_) AllReadyH.nil
      (try simp only [List.getElem_toArray, List.getElem_cons_zero, List.getElem_cons_succ])
      refine step_list rfl ?_
      (refine wpl_appendL rfl _ _ 32 rfl B 3 _ 8 Tryz.underlying32 intInfoS rfl (by decide) icI_len1 icI_one1 (.slice va V.length vc) V rfl R6.out wd.heap.size 1 next _ _ _ rfl N6.out rfl (by unfold maxLen; omega) (by omega) (Nat.le_trans ZB3.out (Nat.le_trans D0.out.size K6.out.size)) ?_; intro g8 c8 w8 hr8 hg8 ho8 hl8; have K8 := Lib.hid (show Chg (oblk va).toList (wd.alloc (.cells #[.int .i64 next] 3)) w8 by have := Chg.ofRow (v := .slice va V.length vc) hg8; rw [oblk_eq] at this; exact this); have R8 := Lib.hid hr8; have O8 := Lib.hid ho8; have SX8 := Lib.hid (K8.out.at (by simpa using A4.out.n4) (K6.out.at (by simp) BX4.out)); clear hr8 hg8 ho8)
      refine ⟨rfl, hK.out _ _ ?_ (fun hHeld => ?_)⟩
      exact blk_cell SX8.out 4
      clear hK K
      (try simp only [List.getElem_toArray, List.getElem_cons_zero, List.getElem_cons_succ, Act.put, List.setIfInBounds_toArray, List.set_cons_zero, List.set_cons_succ])
      have v8 := blk_cell SX8.out
      have f8 := blk_free SX8.out
      refine wpAnyH_take (i := 11) (oi := _) (v := ?vB_11) rfl (by kernel_rfl) (by kernel_rfl) (by kernel_rfl) (fun _ _ _ h => h) (Or.inl ⟨by rfl, ?yB_11⟩) hHeld ?rB_11
      case yB_11 => (intro w hSw; (try dsimp only at hSw); (try simp only [List.getElem_toArray, List.getElem_cons_zero, List.getElem_cons_succ]); go_simp <;> with_reducible rfl)
      (try simp only [List.getElem_toArray, List.getElem_cons_zero, List.getElem_cons_succ, Act.put, List.setIfInBounds_toArray, List.set_cons_zero, List.set_cons_succ])
      refine wpAnyH_take (i := 12) (oi := _) (v := ?vB_12) rfl (by kernel_rfl) (by kernel_rfl) (by kernel_rfl) (fun _ _ _ h => h) (Or.inl ⟨by rfl, ?yB_12⟩) hHeld ?rB_12
      case yB_12 => (intro w hSw; (try dsimp only at hSw); (try simp only [List.getElem_toArray, List.getElem_cons_zero, List.getElem_cons_succ]); go_simp <;> with_reducible rfl)
      (try simp only [List.getElem_toArray, List.getElem_cons_zero, List.getElem_cons_succ, Act.put, List.setIfInBounds_toArray, List.set_cons_zero, List.set_cons_succ])
      refine wpAnyH_ready (rs := [13]) (by kernel_rfl) (by simp) ?_
      refine AllReadyH.cons (o := _) rfl (fun K hK => ?_) AllReadyH.nil
      (try simp only [List.getElem_toArray, List.getElem_cons_zero, List.getElem_cons_succ])
      go_simp
      skip
      refine hK.out _ _ ?_ (fun hHeld => ?_)
      exact blk_cell ((blk_set SX8.out 3 _).trans rfl : (w8.setCell ⟨b, 3, none⟩ (.slice (some ⟨g8, 0, none⟩) (V.length + 1) c8)).heap[b]? = some (.cells #[.slice x.na x.nodes.length x.nc, .slice x.fa x.funcs.length x.fc, .slice (some ⟨g1, 0, none⟩) (N.length + 1) c1, .slice (some ⟨g8, 0, none⟩) (V.length + 1) c8, .int .i64 next, .slice (some ⟨sb, 0, none⟩) x.nodes.length x.nodes.length, .int .i64 node, .int .i64 err] 58 (0, 0))) 4
      clear hK K
      (try simp only [List.getElem_toArray, List.getElem_cons_zero, List.getElem_cons_succ, Act.put, List.setIfInBounds_toArray, List.set_cons_zero, List.set_cons_succ])
      refine wpAnyH_done (by kernel_rfl) ?_ _
      refine NoPanic.normal ?_
      go_wp2_with fail
      go_meet
      have ho8' : ∀ y, oblk (some ⟨g8, 0, none⟩) = some y → oblk va = some y ∨ (wd.alloc (.cells #[.int .i64 next] 3)).heap.size ≤ y := by
        intro y hy
        have e : g8 = y := by simpa [oblk] using hy
        subst e
        rcases O8.out with e | e
        · left; rw [oblk_eq] at e; exact e
        · right; rw [e]; exact Nat.le_refl _
      have hfin := (A4.out.keptN K6.out).putV (some ⟨g8, 0, none⟩) c8 (V ++ [next]) K8.out (by rw [List.length_append]; exact R8.out) ho8'
      rw [List.length_append] at hfin
      exact ⟨g8, c8, Lib.hid hfin.1, Lib.hid (((D0.out.thenSame K6.out).mono (by simp)).then hfin.2 (fun y hy _ => hy)), Lib.hid (by rcases ho8' g8 rfl with h | h; exact .inl h; exact .inr (Nat.le_trans (Nat.le_trans D0.out.size K6.out.size) h))⟩
  case rest =>
    obtain ⟨g8, c8, A5, K5, O5⟩ := hcut
    have k5 := blk_cell (by have := A5.out.box; unfold rfO at this; exact this)
    have f5 := blk_free (by have := A5.out.box; unfold rfO at this; exact this)
    obtain ⟨W6, hW6⟩ : ∃ W6, W6 = wc.setCell ⟨b, 4, none⟩ (.int .i64 (wrap64 (next + 1))) := ⟨_, rfl⟩
    have A6 := Lib.hid (show RfA x B b sb (some ⟨g1, 0, none⟩) c1 (N ++ [s]) (some ⟨g8, 0, none⟩) c8 (V ++ [next]) (wrap64 (next + 1)) slot node err W6 by rw [hW6]; exact A5.out.putNext _)
    have C6 := Lib.hid (show Chg [b] wc W6 by rw [hW6]; exact (Chg.refl _ _).setCell _ _ (by simp))
    have k6 := blk_cell (by have := A6.out.box; unfold rfO at this; exact this)
    go_upto_region 4 with fail
    rw [← hW6]
    clear hW6 k5 f5
    go_wp2_with fail
    go_ret
    have AF : RfA x B b sb (some ⟨g1, 0, none⟩) c1 ((names ++ [(s, next)]).map Prod.fst) (some ⟨g8, 0, none⟩) c8 ((names ++ [(s, next)]).map Prod.snd) (wrap64 (next + 1)) slot node err W6 := by
      rw [List.map_append, List.map_append, ← HNN.out, ← HVV.out]
      exact A6.out
    have z0 := ((Chg.refl [] w).alloc (.cells #[.string s] 9 (0, 0))).size
    have z3 := K3.out.size
    refine ⟨rfl, rfF b sb (some ⟨g1, 0, none⟩) (some ⟨g8, 0, none⟩), ⟨_, c1, _, c8, AF, rfl⟩, (((((Chg.refl [] w).alloc (.cells #[.string s] 9 (0, 0))).mono (by simp)).then K3.out (fun y hy _ => hy)).then K5.out (fun y hy hlt => ?_)).then C6.out (fun y hy _ => rfF_mem.2 (.inl (by simpa using hy))), fun y hy => ?_⟩
    · rcases rfF_mem.1 hy with h | h | h | h
      · exact rfF_mem.2 (.inl h)
      · exact rfF_mem.2 (.inr (.inl h))
      · have e : g1 = y := by simpa [oblk] using h
        subst e
        rcases O1.out with h | h
        · exact rfF_mem.2 (.inr (.inr (.inl h)))
        · omega
      · exact rfF_mem.2 (.inr (.inr (.inr h)))
    · rcases rfF_mem.1 hy with h | h | h | h
      · exact .inl (rfF_mem.2 (.inl h))
      · exact .inl (rfF_mem.2 (.inr (.inl h)))
      · have e : g1 = y := by simpa [oblk] using h
        subst e
        rcases O1.out with h | h
        · exact .inl (rfF_mem.2 (.inr (.inr (.inl h))))
        · exact .inr (by omega)
      · have e : g8 = y := by simpa [oblk] using h
        subst e
        rcases O5.out with h | h
        · exact .inl (rfF_mem.2 (.inr (.inr (.inr h))))
        · exact .inr (by omega)
end Go.Proofs.YtolidiafomceiaaGreatDoor
namespace Go.Proofs.YtolidiafomceiaaGreatDoor
set_option linter.unusedVariables false
set_option linter.unusedSimpArgs false
open Go.RowKit
set_option maxHeartbeats 16000000 in
set_option maxRecDepth 100000 in
theorem rfunction_any (x : Pr) (w : World) (h : PrIn w x) (s : ByteArray) : Calls Tryz.prog 31 #[.agg (prC x).toArray, .string s] w fun e w' => e = .returned (.int .i64 (idxFrom (fun g : PFn => g.name == s) x.p.funcs 0)) ∧ Chg [] w w' := by
  obtain ⟨R, hR⟩ : ∃ R, R = idxFrom (fun g : PFn => g.name == s) x.p.funcs 0 := ⟨_, rfl⟩
  rw [← hR]
  rw [show x.p.funcs = x.funcs.map Fn'.p from rfl, idxFrom_map] at hR
  have HR := Lib.hid (show R = idxFrom (fun g : Fn' => g.name == s) x.funcs 0 from hR)
  obtain ⟨W1, hW1⟩ : ∃ W1, W1 = w.alloc (prO x) := ⟨_, rfl⟩
  have C1 := Lib.hid (show Chg [] w W1 by rw [hW1]; exact (Chg.refl _ _).alloc _)
  have B1 := Lib.hid (show W1.heap[w.heap.size]? = some (prO x) by rw [hW1]; exact heap_alloc_new _ _)
  unfold prO at hW1 B1
  have HP := Lib.hid (h.kept C1.out)
  have k1 := blk_cell B1.out
  have hfl : (x.funcs.length : Int) ≤ 9223372036854775807 := by have h0 := HP.out.2.1; have h1 := h0.2.1; have h2 := h0.2.2.1; unfold maxLen at h2; omega
  simp only [prC]
  clear h hR
  go_enter Tryz.func31, Tryz.ntmps31
  go_upto_region 1 with fail
  rw [← hW1]
  clear hW1
  go_wp2_with fail
  go_loopw [5] (fun u wi => ∃ i : Nat, u = .int .i64 i ∧ i ≤ x.funcs.length ∧ Hid (R = idxFrom (fun g : Fn' => g.name == s) (x.funcs.drop i) (i : Int)) ∧ wi = W1) (fun u _ => x.funcs.length - (intOf u).toNat)
  case atStart => exact ⟨0, rfl, Nat.zero_le _, HR, rfl⟩
  case round =>
    obtain ⟨i, rfl, hi, HQ, rfl⟩ := hrel
    have hi0 : (0 : Int) ≤ (i : Int) := by omega
    by_cases hil : i < x.funcs.length
    · have hil' : (i : Int) < (x.funcs.length : Int) := by omega
      obtain ⟨b2, o2, e2, -, -, hc2⟩ := (HP.out.2.1.1).elem (Chg.refl [] _) i hil
      have u0 := hc2 0 (by omega)
      simp only [fnC, List.getElem?_cons_zero, Nat.add_zero] at u0
      have HQ2 := HQ.out
      rw [List.drop_eq_getElem_cons hil, idxFrom] at HQ2
      generalize x.funcs[i] = fn at *
      have k2 := blk_cell (by have := B1.out; rw [e2] at this; exact this)
      have q1 : IntKind.i64.wrap ((i : Int) + 1) = (i : Int) + 1 := IntWalk.i64_in _ (by omega)
      clear hc2 k1
      rw [e2]
      cases hq : (fn.name == s)
      · rw [hq, if_neg (by simp)] at HQ2
        have HQ3 := Lib.hid HQ2
        have hq2 : (fn.name.toList == s.toList) = false := (beq_toListBytes fn.name s).symm.trans hq
        clear HQ2 hq
        go_wp2_with fail
        exact ⟨⟨i + 1, rfl, by omega, HQ3, trivial⟩, by simp [intOf]; omega⟩
      · rw [hq, if_pos rfl] at HQ2
        have HE := Lib.hid HQ2
        have hq2 : (fn.name.toList == s.toList) = true := (beq_toListBytes fn.name s).symm.trans hq
        clear HQ2 hq
        go_wp2_with fail
        go_ret
        exact ⟨retI HE.out.symm, C1.out⟩
    · have hie : i = x.funcs.length := by omega
      have hil' : ¬ (i : Int) < (x.funcs.length : Int) := by omega
      have HQ2 := HQ.out
      rw [hie, List.drop_length, idxFrom] at HQ2
      have HE := Lib.hid HQ2
      clear HQ2 hie
      go_wp2_with fail
      go_ret
      exact ⟨retI HE.out.symm, C1.out⟩
set_option maxHeartbeats 16000000 in
set_option maxRecDepth 100000 in
theorem repeated_any {a : Option Addr} {c : Nat} {l : List ByteArray} {w : World} (h : InIs skC 1 w a c l) : Calls Tryz.prog 32 #[.slice a l.length c] w fun e w' => e = .returned (.bool (dupFrom [] l)) ∧ Chg [] w w' := by
  obtain ⟨R, hR⟩ : ∃ R, R = dupFrom [] l := ⟨_, rfl⟩
  rw [← hR]
  have HR := Lib.hid (show R = dupFrom (l.take 0) (l.drop 0) by rw [hR]; simp)
  have H := Lib.hid h
  have hfl : (l.length : Int) ≤ 9223372036854775807 := by have h1 := h.2.1; have h2 := h.2.2.1; unfold maxLen at h2; omega
  clear h hR
  go_enter Tryz.func32, Tryz.ntmps32
  go_wp2_with fail
  go_loopw [3] (fun u wi => ∃ i : Nat, u = .int .i64 i ∧ i ≤ l.length ∧ Hid (R = dupFrom (l.take i) (l.drop i)) ∧ Hid (Chg [] w wi)) (fun u _ => l.length - (intOf u).toNat)
  case atStart => exact ⟨0, rfl, Nat.zero_le _, HR, Lib.hid (Chg.refl _ _)⟩
  case round =>
    obtain ⟨i, rfl, hi, HQ, D⟩ := hrel
    have hi0 : (0 : Int) ≤ (i : Int) := by omega
    by_cases hil : i < l.length
    · have hil' : (i : Int) < (l.length : Int) := by omega
      have HQ2 := HQ.out
      rw [List.drop_eq_getElem_cons hil, dupFrom] at HQ2
      have HQ3 := Lib.hid HQ2
      have q1 : IntKind.i64.wrap ((i : Int) + 1) = (i : Int) + 1 := IntWalk.i64_in _ (by omega)
      clear HQ2 HQ
      go_wp2_with fail
      go_loopw [4] (fun u wi => ∃ k : Nat, u = .int .i64 k ∧ k ≤ i ∧ Hid ((l.take i).any (fun y => l[i] == y) = ((l.take i).drop k).any (fun y => l[i] == y)) ∧ Hid (Chg [] w wi)) (fun u _ => i - (intOf u).toNat)
      case atStart => exact ⟨0, rfl, Nat.zero_le _, Lib.hid rfl, D⟩
      case round =>
        obtain ⟨k, rfl, hk, HS, D2⟩ := hrel
        have hk0 : (0 : Int) ≤ (k : Int) := by omega
        by_cases hki : k < i
        · have hki' : (k : Int) < (i : Int) := by omega
          have hkl : (k : Int) < (l.length : Int) := by omega
          obtain ⟨b2, o2, e2, -, hb2, hc2⟩ := H.out.1.elem D2.out i hil
          obtain ⟨b3, o3, e3, -, -, hc3⟩ := H.out.1.elem D2.out k (by omega)
          obtain ⟨rfl, rfl⟩ : b2 = b3 ∧ o2 = o3 := by
            have := e2.symm.trans e3
            simpa using this
          clear e3
          have u2 := hc2 0 (by omega)
          have u3 := hc3 0 (by omega)
          simp only [skC, List.getElem?_cons_zero, Nat.add_zero, Nat.mul_one] at u2 u3
          have HS2 := HS.out
          rw [List.drop_eq_getElem_cons (by rw [List.length_take]; omega), List.any_cons, List.getElem_take] at HS2
          clear hc2 hc3
          subst e2
          have q2 : IntKind.i64.wrap ((k : Int) + 1) = (k : Int) + 1 := IntWalk.i64_in _ (by omega)
          cases hq : (l[i] == l[k])
          · rw [hq, Bool.false_or] at HS2
            have HS3 := Lib.hid HS2
            have hq2 : ((l[i]).toList == (l[k]).toList) = false := (beq_toListBytes _ _).symm.trans hq
            clear HS2 hq
            generalize l[k] = sk at *
            generalize hsi : l[i] = si at *
            go_wp2_with fail
            go_quiet (fail)
            have D3 := Lib.hid (D2.out.drewN nq)
            go_wp2_with fail
            exact ⟨⟨k + 1, rfl, by omega, HS3, D3⟩, by simp [intOf]; omega⟩
          · have HE := Lib.hid (show R = true by rw [HQ3.out, HS2, hq]; rfl)
            have hq2 : ((l[i]).toList == (l[k]).toList) = true := (beq_toListBytes _ _).symm.trans hq
            clear HS2 hq
            generalize l[k] = sk at *
            generalize l[i] = si at *
            go_wp2_with fail
            go_quiet (fail)
            have D3 := Lib.hid (D2.out.drewN nq)
            go_wp2_with fail
            go_ret
            exact ⟨retB HE.out.symm, D3.out⟩
        · have hke : k = i := by omega
          have hki' : ¬ (k : Int) < (i : Int) := by omega
          have HS2 := HS.out
          rw [hke, show (l.take i).drop i = [] from List.drop_of_length_le (by rw [List.length_take]; omega), List.any_nil] at HS2
          have HQ4 := Lib.hid (show R = dupFrom (l.take (i + 1)) (l.drop (i + 1)) by rw [HQ3.out, HS2, Bool.false_or, List.take_succ_eq_append_getElem hil])
          clear HS2 hke HQ3
          go_wp2_with fail
          exact ⟨⟨i + 1, rfl, by omega, HQ4, D2⟩, by simp [intOf]; omega⟩
    · have hie : i = l.length := by omega
      have hil' : ¬ (i : Int) < (l.length : Int) := by omega
      have HQ2 := HQ.out
      rw [hie, List.drop_length, dupFrom] at HQ2
      have HE := Lib.hid HQ2
      clear HQ2 hie
      go_wp2_with fail
      go_ret
      exact ⟨retB HE.out.symm, D.out⟩
end Go.Proofs.YtolidiafomceiaaGreatDoor
namespace Go.Proofs.YtolidiafomceiaaGreatDoor
set_option linter.unusedVariables false
set_option linter.unusedSimpArgs false
open Go.RowKit
section
variable {P : Program} {α : Type} {cf : α → List Value} {sz : Nat}
theorem wpl_slice_row {w : World} {ops : Array Oper} {rest : List Oper} {o : Oper} {a : Act} {Q : Exit → Act → World → Prop} (hgd : o.guard = none) (s h : Operand) (t : TypeId) (ho : o.op = Op.slice t s none (some h) none) (ht : P.underlying t = some (.slice (P.elem t)))
    (hsz : (sizeOf (P.elem t)).run P w = .ok sz w) (hc : ∀ x, (cf x).length = sz) (base : Nat) (e : TypeId) (a0 : Option Addr) (c : Nat) (l1 l2 : List α) (hs : a.eval s = .slice a0 (l1 ++ l2).length c) (hr : RowOf cf sz w base e (.slice a0 (l1 ++ l2).length c) (l1 ++ l2)) (hh : a.eval h = .int .i64 (l1.length : Int))
    (hK : ∀ a' c', RowOf cf sz w base e (.slice a' l1.length c') l1 → (∀ y, oblk a' = some y → oblk a0 = some y) → wpList P ops Q rest (a.put o.dst (.slice a' l1.length c')) w) : wpList P ops Q (o :: rest) a w := by
  rcases RowOf.at hr hc with ⟨h1, h2⟩ | ⟨g, cap, h1, h2, h3, -⟩
  · simp only [Value.slice.injEq] at h1
    obtain ⟨h1, h4, h5⟩ := h1
    subst h1
    subst h5
    obtain ⟨rfl, rfl⟩ := List.append_eq_nil_iff.1 h2
    refine wpList_plain hgd fun K' hK' => ?_
    have hrun := run_slice_h (P := P) (w := w) t none 0 0 ht .i64 (0 : Int) (by omega) (by omega)
    rw [hsz] at hrun
    simp only [Result.andThen, sliced, Option.map_none, ite_self] at hrun
    rw [← run_sliceAt_slice (P := P) (h := ht)] at hrun
    unfold Oper.wp
    simp only [List.append_nil, List.length_nil] at hs hh
    simp [execOp, ho, hs, hh, hrun, Result.andThen]
    exact hK' _ _ (hK none 0 hr (fun y hy => by cases hy))
  · simp only [Value.slice.injEq] at h1
    obtain ⟨rfl, -, rfl⟩ := h1
    refine wpl_slice_h hgd s h t ho ht hsz g 0 (l1 ++ l2).length c l1.length hs hh (by rw [List.length_append] at h2; omega) (hK _ _ (RowOf.shrink hc hr) (fun y hy => hy))
end
/-- The error that a call gets. -/
def callE (p : PPr) (n : PNd) : Int := if n.kind = 12 then hostZ n else callZ p n
set_option maxHeartbeats 16000000 in
set_option maxRecDepth 100000 in
theorem rcall_any {x : Pr} {w0 : World} {B b sb : Nat} (hp : PrIn w0 x) {S : RfS} {L : List Nat} {w : World} (h : RfJ x B b sb S L w) (hw : Chg [] w0 w) (i : Nat) (hi : i < x.nodes.length) (hfl16 : x.funcs.length ≤ 16) : Calls Tryz.prog 70 #[.pointer (some ⟨b, 0, none⟩), .int .i64 i] w fun e w' => e = .returned (.tuple #[]) ∧ RfTo x B b sb L w (callR S i (callE x.p (x.nodes[i]).p)) w' := by
  obtain ⟨R, hR⟩ : ∃ R, R = callR S i (callE x.p (x.nodes[i]).p) := ⟨_, rfl⟩
  rw [← hR]
  have HJ := Lib.hid h
  obtain ⟨na, nc, va, vc, h, rfl⟩ := h
  have H := Lib.hid h
  have HP := Lib.hid (fun w' (hc : Chg [] w w') => hp.kept (hw.thenSame hc))
  have hi0 : (0 : Int) ≤ (i : Int) := by omega
  have hi1 : (i : Int) < (x.nodes.length : Int) := by omega
  obtain ⟨b3, o3, e3, -, -, hc3⟩ := ((HP.out _ (Chg.refl _ _)).1.1.1).elem (Chg.refl [] _) i hi
  have v0 := hc3 0 (by omega)
  have v1 := hc3 1 (by omega)
  have v2 := hc3 2 (by omega)
  have v3 := hc3 3 (by omega)
  have v4 := hc3 4 (by omega)
  simp only [ndC, List.getElem?_cons_zero, List.getElem?_cons_succ, Nat.add_zero] at v0 v1 v2 v3 v4
  clear hc3
  have HND := Lib.hid (fun w' (hc : Chg [] w w') => show NdIn w' x.nodes[i] from (HP.out w' hc).1.2 _ (List.getElem_mem hi))
  generalize x.nodes[i] = d at *
  have BX := Lib.hid H.out.box
  unfold rfO at BX
  have k0 := blk_cell (by have := BX.out; rw [e3] at this; exact this)
  obtain ⟨W1, hW1⟩ : ∃ W1, W1 = w.alloc (ndO d) := ⟨_, rfl⟩
  have C1 := Lib.hid (show Chg [] w W1 by rw [hW1]; exact (Chg.refl _ _).alloc _)
  have N1 := Lib.hid (show W1.heap[w.heap.size]? = some (ndO d) by rw [hW1]; exact heap_alloc_new _ _)
  have BX1 := Lib.hid (C1.out.at (by simp) BX.out)
  unfold ndO at hW1 N1
  have n1 := blk_cell N1.out
  have AB := Lib.hid (fun w' => rbuiltin_any d.text w')
  have AF := Lib.hid (fun w' (hc : Chg [] w w') => by have h := rfunction_any x w' (HP.out w' hc) d.text; simp only [prC] at h; exact h)
  have AH := Lib.hid (fun w' => rhostop_any d.text w')
  have HF0 := Lib.hid (fun w' (hc : Chg [] w w') => (HP.out w' hc).2.1.1)
  have hpm : ∀ (m : Nat) (hm : m < x.funcs.length), x.p.funcs[m]? = some (x.funcs[m]).p := fun m hm => by
    show (x.funcs.map Fn'.p)[m]? = _
    rw [List.getElem?_map, List.getElem?_eq_getElem hm]
    rfl
  have hidx := idxFrom_get (p := fun g : PFn => g.name == d.text) (l := x.p.funcs) (k := 0)
  have hfe : x.p.funcs.length = x.funcs.length := List.length_map _
  have HID := Lib.hid (show idxFrom (fun g : PFn => g.name == d.text) x.p.funcs 0 = -1 ∨ ∃ m : Nat, idxFrom (fun g : PFn => g.name == d.text) x.p.funcs 0 = (m : Int) ∧ m < x.funcs.length from by
    rcases hidx with h | ⟨m, h1, h2, -⟩
    · exact .inl h
    · exact .inr ⟨m, by omega, by omega⟩)
  have HPM := Lib.hid hpm
  have hcz : callZ x.p d.p = (if 0 ≤ idxFrom (fun g : PFn => g.name == d.text) x.p.funcs 0 then match x.p.funcs[(idxFrom (fun g : PFn => g.name == d.text) x.p.funcs 0).toNat]? with
    | none => 0
    | some g => if (g.params.length : Int) = (d.kids.length : Int) then 0 else 7
  else if (lkZ biL d.text).2 = true then (if (lkZ biL d.text).1 = (d.kids.length : Int) then 0 else 7) else 4) := rfl
  have HCZ := Lib.hid hcz
  have HHZ := Lib.hid (show hostZ d.p = if (lkZ hoL d.text).2 = true then (if (lkZ hoL d.text).1 = (d.kids.length : Int) then 0 else 7) else 4 from rfl)
  have HR := Lib.hid hR
  generalize idxFrom (fun g : PFn => g.name == d.text) x.p.funcs 0 = fi at *
  generalize lkZ biL d.text = lb at *
  generalize lkZ hoL d.text = lh at *
  have HNBN := Lib.hid (show w.heap.size < W1.heap.size from lt_of_heap N1.out)
  have k1 := blk_cell (by have := BX1.out; rw [e3] at this; exact this)
  have E3 := Lib.hid e3
  clear hR h hp hw hidx hpm hcz hfe
  go_enter Tryz.func70, Tryz.ntmps70
  go_upto_region 1 with fail
  rw [← hW1]
  clear hW1 v0 v1 v2 v3 v4 k0
  generalize w.heap.size = nb at *
  go_upto_region 2 with (go_at_call 30; (with_reducible refine Calls.mono (AB.out _) ?_); rintro e w2 ⟨rfl, hc⟩; have C2 := Lib.hid (C1.out.thenSame hc); have N2 := Lib.hid (hc.at (by simp) N1.out); clear hc k1 n1)
  have VK := Lib.hid (fun (w' : World) (hc : Chg [] w2 w') => show w'.cell? ⟨b, 0, none⟩ = some (.slice (some ⟨b3, o3, none⟩) x.nodes.length x.nc) ∧ w'.cell? ⟨b, 1, none⟩ = some (.slice x.fa x.funcs.length x.fc) ∧ w'.cell? ⟨nb, 1, none⟩ = some (.string d.text) from by
    have C3 := C2.out.thenSame hc
    have h1 := blk_cell (by have := C3.at (by simp) BX.out; rw [E3.out] at this; exact this)
    have h2 := blk_cell (hc.at (by simp) N2.out)
    exact ⟨h1 0, h1 1, h2 1⟩)
  have AF2 := Lib.hid (fun w' (hc : Chg [] w w') => by have := AF.out w' hc; rw [E3.out] at this; exact this)
  go_region_held3 (fun w' => w'.cell? ⟨b, 0, none⟩ = some (.slice (some ⟨b3, o3, none⟩) x.nodes.length x.nc) ∧ w'.cell? ⟨b, 1, none⟩ = some (.slice x.fa x.funcs.length x.fc) ∧ w'.cell? ⟨nb, 1, none⟩ = some (.string d.text))
    (first | exact VK.out _ ((Chg.refl _ _).drew) | exact VK.out _ KC.out)
    (first | (go_at_call 31; (with_reducible refine Calls.mono (AF2.out _ (C2.out.drew)) ?_); rintro e w3 ⟨rfl, hc⟩; have KC := Lib.hid (show Chg [] w2 w3 from ((Chg.refl _ _).drew).thenSame hc); clear hc) | fail)
  have C3 := Lib.hid (C2.out.thenSame KC.out)
  have N3 := Lib.hid (KC.out.at (by simp) N2.out)
  have n3 := blk_cell N3.out
  have k3 := blk_cell (by have := C3.out.at (by simp) BX.out; rw [E3.out] at this; exact this)
  have FA := Lib.hid (fun w' (hc : Chg [] w w') (e : Int) => fail_any (HJ.out.keptN hc) i e)
  have OK := Lib.hid (fun w' (hc : Chg [] w w') (hr : R = S) => show RfTo x B b sb (rfF b sb na va) w R w' from by rw [hr]; exact RfTo.sameN HJ.out hc)
  have NO := Lib.hid (fun w' w2 (hc : Chg [] w w') (e : Int) (he : e ≠ 0) (hr : R = callR S i e) (ht : RfTo x B b sb (rfF b sb na va) w' (failR S i e) w2) => show RfTo x B b sb (rfF b sb na va) w R w2 from by
    rw [hr, callR, if_neg he]
    exact RfTo.comp (hc.mono (by simp)) (fun y hy => .inl hy) ht)
  have HFUN := Lib.hid (HF0.out _ C3.out)
  have hk0 : (0 : Int) ≤ (d.kids.length : Int) := Int.natCast_nonneg _
  clear AB AF AF2 VK
  obtain ⟨h1, h2⟩ := lh
  obtain ⟨l1, l2⟩ := lb
  simp only at AH HHZ HCZ
  rcases HID.out with hfi | ⟨m, hfi, hm⟩
  · subst hfi
    have hfi2 : ¬ (-1 : Int) ≥ 0 := by omega
    by_cases h12 : d.kind = 12
    · have h12b : (d.kind == 12) = true := by rw [h12]; rfl
      cases h2 with
      | false =>
        have HE := Lib.hid (show R = callR S i 4 by rw [HR.out, callE, if_pos (show d.p.kind = 12 from h12), HHZ.out]; rfl)
        go_wp2_with (first | (go_at_call 94; (with_reducible refine Calls.mono (AH.out _) ?_); rintro e w4 ⟨rfl, hc⟩; have C4 := Lib.hid (C3.out.thenSame hc); have N4 := Lib.hid (hc.at (by simp) N3.out); have n4 := blk_cell N4.out; clear hc n3) | (go_at_call 69; (with_reducible refine Calls.mono (FA.out _ C4.out _) ?_); rintro e w9 ⟨rfl, ht⟩; have T9 := Lib.hid ht; clear ht))
        go_end0
        exact ⟨rfl, NO.out _ _ C4.out 4 (by decide) HE.out T9.out⟩
      | true =>
        by_cases hkl : h1 = (d.kids.length : Int)
        · have HE := Lib.hid (show R = S by rw [HR.out, callE, if_pos (show d.p.kind = 12 from h12), HHZ.out, if_pos rfl, if_pos hkl]; rfl)
          have hkb : ((d.kids.length : Int) != h1) = false := by rw [hkl]; simp
          go_wp2_with (go_at_call 94; (with_reducible refine Calls.mono (AH.out _) ?_); rintro e w4 ⟨rfl, hc⟩; have C4 := Lib.hid (C3.out.thenSame hc); have N4 := Lib.hid (hc.at (by simp) N3.out); have n4 := blk_cell N4.out; clear hc n3)
          go_end0
          exact ⟨rfl, OK.out _ C4.out HE.out⟩
        · have HE := Lib.hid (show R = callR S i 7 by rw [HR.out, callE, if_pos (show d.p.kind = 12 from h12), HHZ.out, if_pos rfl, if_neg hkl])
          have hkb : ((d.kids.length : Int) != h1) = true := bne_iff_ne.2 (fun e => hkl e.symm)
          go_wp2_with (first | (go_at_call 94; (with_reducible refine Calls.mono (AH.out _) ?_); rintro e w4 ⟨rfl, hc⟩; have C4 := Lib.hid (C3.out.thenSame hc); have N4 := Lib.hid (hc.at (by simp) N3.out); have n4 := blk_cell N4.out; clear hc n3) | (go_at_call 69; (with_reducible refine Calls.mono (FA.out _ C4.out _) ?_); rintro e w9 ⟨rfl, ht⟩; have T9 := Lib.hid ht; clear ht))
          go_end0
          exact ⟨rfl, NO.out _ _ C4.out 7 (by decide) HE.out T9.out⟩
    · have h12b : (d.kind == 12) = false := beq_eq_false_iff_ne.2 h12
      cases l2 with
      | false =>
        have HE := Lib.hid (show R = callR S i 4 by rw [HR.out, callE, if_neg (show ¬ d.p.kind = 12 from h12), HCZ.out]; rfl)
        go_wp2_with (go_at_call 69; (with_reducible refine Calls.mono (FA.out _ C3.out _) ?_); rintro e w9 ⟨rfl, ht⟩; have T9 := Lib.hid ht; clear ht)
        go_end0
        exact ⟨rfl, NO.out _ _ C3.out 4 (by decide) HE.out T9.out⟩
      | true =>
        have HCZ2 := Lib.hid (show callZ x.p d.p = if l1 = (d.kids.length : Int) then 0 else 7 by rw [HCZ.out, if_neg (by omega), if_pos rfl])
        by_cases hkl : l1 = (d.kids.length : Int)
        · have HE := Lib.hid (show R = S by rw [HR.out, callE, if_neg (show ¬ d.p.kind = 12 from h12), HCZ2.out, if_pos hkl]; rfl)
          have hkb : ((d.kids.length : Int) != l1) = false := by rw [hkl]; simp
          go_wp2_with fail
          go_end0
          exact ⟨rfl, OK.out _ C3.out HE.out⟩
        · have HE := Lib.hid (show R = callR S i 7 by rw [HR.out, callE, if_neg (show ¬ d.p.kind = 12 from h12), HCZ2.out, if_neg hkl])
          have hkb : ((d.kids.length : Int) != l1) = true := bne_iff_ne.2 (fun e => hkl e.symm)
          go_wp2_with (go_at_call 69; (with_reducible refine Calls.mono (FA.out _ C3.out _) ?_); rintro e w9 ⟨rfl, ht⟩; have T9 := Lib.hid ht; clear ht)
          go_end0
          exact ⟨rfl, NO.out _ _ C3.out 7 (by decide) HE.out T9.out⟩
  · subst hfi
    have hm0 : (0 : Int) ≤ (m : Int) := by omega
    have hfi2 : (m : Int) ≥ 0 := by omega
    have hm1 : (m : Int) < (x.funcs.length : Int) := by omega
    obtain ⟨b2, o2, e2, -, -, hc2⟩ := (HFUN.out).elem (Chg.refl [] _) m hm
    have u1 := hc2 1 (by omega)
    simp only [fnC, List.getElem?_cons_zero, List.getElem?_cons_succ, Nat.add_zero] at u1
    have HCZ2 := Lib.hid (show callZ x.p d.p = if ((x.funcs[m]).params.length : Int) = (d.kids.length : Int) then 0 else 7 by rw [HCZ.out, if_pos hm0, Int.toNat_natCast, HPM.out m hm]; rfl)
    generalize x.funcs[m] = fn at *
    clear hc2 k3
    have k3 := blk_cell (by have := C3.out.at (by simp) BX.out; rw [E3.out, e2] at this; exact this)
    by_cases h12 : d.kind = 12
    · have h12b : (d.kind == 12) = true := by rw [h12]; rfl
      cases h2 with
      | false =>
        have HE := Lib.hid (show R = callR S i 4 by rw [HR.out, callE, if_pos (show d.p.kind = 12 from h12), HHZ.out]; rfl)
        go_wp2_with (first | (go_at_call 94; (with_reducible refine Calls.mono (AH.out _) ?_); rintro e w4 ⟨rfl, hc⟩; have C4 := Lib.hid (C3.out.thenSame hc); have N4 := Lib.hid (hc.at (by simp) N3.out); have n4 := blk_cell N4.out; clear hc n3) | (go_at_call 69; (with_reducible refine Calls.mono (FA.out _ C4.out _) ?_); rintro e w9 ⟨rfl, ht⟩; have T9 := Lib.hid ht; clear ht))
        go_end0
        exact ⟨rfl, NO.out _ _ C4.out 4 (by decide) HE.out T9.out⟩
      | true =>
        by_cases hkl : h1 = (d.kids.length : Int)
        · have HE := Lib.hid (show R = S by rw [HR.out, callE, if_pos (show d.p.kind = 12 from h12), HHZ.out, if_pos rfl, if_pos hkl]; rfl)
          have hkb : ((d.kids.length : Int) != h1) = false := by rw [hkl]; simp
          go_wp2_with (go_at_call 94; (with_reducible refine Calls.mono (AH.out _) ?_); rintro e w4 ⟨rfl, hc⟩; have C4 := Lib.hid (C3.out.thenSame hc); have N4 := Lib.hid (hc.at (by simp) N3.out); have n4 := blk_cell N4.out; clear hc n3)
          go_end0
          exact ⟨rfl, OK.out _ C4.out HE.out⟩
        · have HE := Lib.hid (show R = callR S i 7 by rw [HR.out, callE, if_pos (show d.p.kind = 12 from h12), HHZ.out, if_pos rfl, if_neg hkl])
          have hkb : ((d.kids.length : Int) != h1) = true := bne_iff_ne.2 (fun e => hkl e.symm)
          go_wp2_with (first | (go_at_call 94; (with_reducible refine Calls.mono (AH.out _) ?_); rintro e w4 ⟨rfl, hc⟩; have C4 := Lib.hid (C3.out.thenSame hc); have N4 := Lib.hid (hc.at (by simp) N3.out); have n4 := blk_cell N4.out; clear hc n3) | (go_at_call 69; (with_reducible refine Calls.mono (FA.out _ C4.out _) ?_); rintro e w9 ⟨rfl, ht⟩; have T9 := Lib.hid ht; clear ht))
          go_end0
          exact ⟨rfl, NO.out _ _ C4.out 7 (by decide) HE.out T9.out⟩
    · have h12b : (d.kind == 12) = false := beq_eq_false_iff_ne.2 h12
      by_cases hkl : (fn.params.length : Int) = (d.kids.length : Int)
      · have HE := Lib.hid (show R = S by rw [HR.out, callE, if_neg (show ¬ d.p.kind = 12 from h12), HCZ2.out, if_pos hkl]; rfl)
        have hkb : ((d.kids.length : Int) != (fn.params.length : Int)) = false := by rw [hkl]; simp
        go_wp2_with fail
        go_end0
        exact ⟨rfl, OK.out _ C3.out HE.out⟩
      · have HE := Lib.hid (show R = callR S i 7 by rw [HR.out, callE, if_neg (show ¬ d.p.kind = 12 from h12), HCZ2.out, if_neg hkl])
        have hkb : ((d.kids.length : Int) != (fn.params.length : Int)) = true := bne_iff_ne.2 (fun e => hkl e.symm)
        go_wp2_with (go_at_call 69; (with_reducible refine Calls.mono (FA.out _ C3.out _) ?_); rintro e w9 ⟨rfl, ht⟩; have T9 := Lib.hid ht; clear ht)
        go_end0
        exact ⟨rfl, NO.out _ _ C3.out 7 (by decide) HE.out T9.out⟩
end Go.Proofs.YtolidiafomceiaaGreatDoor
