/- Over any program: a map with string keys, as the kit's contracts on its keys want it. No condition. -/
import Derived.Test.YtldilefhmpipkaaMapl
import Derived.Sort.KeysCollected
namespace Go.Proofs.Ytldilefhmpipkaa
set_option linter.unusedVariables false
set_option linter.unusedSimpArgs false
open Go.RowKit Go.Maps Go.Sort
open Go.WideElems (Fit rd rg rd_mk rg_of)
open Go.WideShapes (sorted_perm)
section
variable {α : Type} {kf : α → ByteArray} {vf : α → Value} {P : Program}

theorem ownsMap_of {w : World} {b : Nat} {l : List α} (h : MapIs kf vf w b l) {k : TypeId} (hk : P.underlying k = some .string) (hs : ∀ x ∈ l, (kf x).size ≤ maxLen) (hl : l.length ≤ 4096) :
    ∃ D : DataW Unit, w.ownsMap P k (fun _ => some (.nil, [])) b 4096 D ∧ (strKeys D).Perm (l.map fun x => (kf x).data.toList) ∧ Maps.size D = l.length := by
  have hnd := h.nodup
  obtain ⟨es, c, hb, h1, h2, h3, h4⟩ := h
  have hlen : es.size = l.length := by have := congrArg List.length h1; simpa using this
  have hkeys : es.toList.map (fun e => e.key) = l.map (fun x => Value.string (kf x)) := by
    have := congrArg (List.map Prod.fst) h1
    rw [List.map_map, List.map_map] at this
    exact this
  have hrd : ∀ e ∈ es.toList, ∃ s : ByteArray, e.key = .string s ∧ s.size ≤ maxLen ∧ rd (H := Unit) P k (fun _ => some (.nil, [])) e = some (.string s.data.toList, .nil) := by
    intro e he
    have : e.key ∈ l.map (fun x => Value.string (kf x)) := by rw [← hkeys]; exact List.mem_map.2 ⟨e, he, rfl⟩
    obtain ⟨x, hx, hxe⟩ := List.mem_map.1 this
    refine ⟨kf x, hxe.symm, hs x hx, ?_⟩
    have hko : keyOf P k e.key = some (.string (kf x).data.toList) := by
      rw [← hxe]
      unfold keyOf mapKey
      simp only [hk]
      rw [if_pos (hs x hx)]
    unfold rd
    rw [hko]; rfl
  refine ⟨.map ((es.toList.map (rg P k (fun _ => some (.nil, [])))).foldr DataW.insert []), ⟨es, c, hb, ⟨by unfold maxLen; omega, ⟨h3, ?_, ?_⟩, fun e he => ?_⟩, by omega, rfl⟩, ?_, ?_⟩
  · rw [List.nodup_iff_pairwise_ne, List.pairwise_map]
    exact h2.imp (fun h => by omega)
  · rw [hkeys]
    have : l.map (fun x => Value.string (kf x)) = (l.map kf).map Value.string := by rw [List.map_map]; rfl
    rw [this]
    exact List.Pairwise.map _ (fun a b hab e => hab (by cases e; rfl)) hnd
  · obtain ⟨s, _, _, hr⟩ := hrd e he
    exact ⟨_, hr⟩
  · show (((es.toList.map (rg P k (fun _ => some (.nil, [])))).foldr DataW.insert []).map fun p => strOf p.1).Perm _
    refine ((sorted_perm _).map _).trans ?_
    rw [List.map_map]
    have e1 : es.toList.map ((fun p : Lit × DataW Unit => strOf p.1) ∘ rg P k (fun _ => some (.nil, []))) = es.toList.map (fun e => match e.key with | .string s => s.data.toList | _ => []) := by
      refine List.map_congr_left fun e he => ?_
      obtain ⟨s, hs', _, hr⟩ := hrd e he
      simp only [Function.comp]
      rw [rg_of hr, hs']
      rfl
    have e2 : es.toList.map (fun e => match e.key with | .string s => s.data.toList | _ => []) = (es.toList.map (fun e => e.key)).map (fun v => match v with | .string s => s.data.toList | _ => []) := by rw [List.map_map]; rfl
    rw [e1, e2, hkeys, List.map_map]
    exact List.Perm.refl _
  · show ((es.toList.map (rg P k (fun _ => some (.nil, [])))).foldr DataW.insert []).length = _
    rw [(sorted_perm _).length_eq, List.length_map, Array.length_toList, hlen]
end
end Go.Proofs.Ytldilefhmpipkaa
