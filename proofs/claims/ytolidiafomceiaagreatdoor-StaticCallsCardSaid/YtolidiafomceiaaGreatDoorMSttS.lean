/- Chapter 9, plain: the program's valid strings are the reference's; fields alike. No condition. Chapter 9: first, plain: its fuel; the interval of a node. No condition. Chapter 9: the reference's measure, plain: sizes against first. No condition. Chapter 9, plain: the reference's measure is the program's ordered. No condition. Chapter 9, plain: the reference's heights are the program's nesting. No condition. Chapter 9, plain: what the reference's Check of layer 8 returns; it is the program's. No condition. -/
import Derived.Test.YtolidiafomceiaaGreatDoorSttU
import Derived.Test.YtolidiafomceiaaGreatDoorMStaK
import Derived.Test.YtolidiafomceiaaGreatDoorSttV
import Derived.Test.YtolidiafomceiaaGreatDoorSttW
namespace Go.Proofs.YtolidiafomceiaaGreatDoor
set_option linter.unusedVariables false
set_option linter.unusedSimpArgs false
open Go.RowKit
theorem qTo_text (s : ByteArray) : qTo s s.size = textB s := by
  have hsz : s.data.toList.length = s.size := by simp
  cases h : textB s
  · unfold textB at h
    rw [List.all_eq_false] at h
    obtain ⟨c, hc, hcf⟩ := h
    obtain ⟨k, hk, rfl⟩ := List.mem_iff_getElem.1 hc
    have hks : k < s.size := by omega
    refine qTo_no hks ?_
    have e : s.data.toList[k] = s[k]'hks := by simp [ByteArray.getElem_eq_getElem_data]
    rw [e] at hcf
    unfold qByte
    simpa using hcf
  · unfold textB at h
    rw [List.all_eq_true] at h
    unfold qTo
    rw [List.all_eq_true]
    intro k hk
    have hks := List.mem_range.1 hk
    have e1 : s.data[k]? = some (s[k]'hks) := by rw [Array.getElem?_eq_getElem (by simpa using hks)]; rfl
    rw [e1]
    have e : s.data.toList[k]'(by omega) = s[k]'hks := by simp [ByteArray.getElem_eq_getElem_data]
    have := h (s[k]'hks) (by rw [← e]; exact List.getElem_mem _)
    unfold qByte
    exact this
theorem quotZ_small {s : ByteArray} (h : s.size ≤ 200) : quotZ s ≤ 602 ∧ 0 ≤ quotZ s := by
  have h1 : Lib.countByte s.data.toList 34 ≤ s.size := by
    have := List.count_le_length (a := (34 : UInt8)) (l := s.data.toList)
    unfold Lib.countByte
    simpa using this
  have h2 : Lib.countByte s.data.toList 92 ≤ s.size := by
    have := List.count_le_length (a := (92 : UInt8)) (l := s.data.toList)
    unfold Lib.countByte
    simpa using this
  unfold quotZ
  rw [IntWalk.i64_in ((s.size : Int) + 2) (by omega), IntWalk.i64_in ((s.size : Int) + 2 + (Lib.countByte s.data.toList 34 : Nat)) (by omega), IntWalk.i64_in _ (by omega)]
  omega
theorem sText_quo (s : ByteArray) : sTextB s = sQuoB s := by
  unfold sTextB sQuoB
  rw [qTo_text]
  have hp : plainB (sStrCe s) = textB s := by unfold plainB sStrCe; simp
  unfold checkZ lookS
  cases ht : textB s
  · have hf : lookC 1 (sStrCe s) sh0 [] = .fail sh0 := lookC_plain (by rw [hp, ht])
    rw [show ([sStrCe s] : List Ce).length = 1 from rfl, look_fail hf]
    rfl
  · have hv : lookC 1 (sStrCe s) sh0 [] = .done (valSh (sStrCe s) sh0 0) := by
      rw [lookC_val (by rw [hp, ht]) keyTop_nil]
      unfold valL
      rw [if_neg (show ¬ 0 < (sStrCe s).cn by unfold sStrCe; simp)]
      rfl
    rw [show ([sStrCe s] : List Ce).length = 1 from rfl, look_done hv]
    unfold checkQ valSh sh0 sStrCe
    by_cases hs : s.size ≤ 200
    · have hq := quotZ_small hs
      have hb : IntKind.i64.wrap (0 + sizeZ ⟨4, 0, s, 0⟩) = quotZ s := by
        unfold sizeZ
        simp only [Int.zero_add]
        rw [if_neg (by decide), if_neg (by decide), if_neg (by decide), if_pos trivial]
        exact IntWalk.i64_in _ (by omega)
      simp only [hb]
      have h1 : ¬ (200 : Int) < (s.size : Int) := by omega
      have h2 : ¬ (4000 : Int) < quotZ s := by omega
      simp [h1, h2, hs]
      omega
    · have h1 : (200 : Int) < (s.size : Int) := by omega
      simp [h1, hs]
theorem keysR_eq (l : List ByteArray) : keysR l = keysB l := by
  unfold keysR keysB keysToR keysTo
  congr 1
  funext i
  unfold keyAtR keyAt
  cases l[i]? with
  | none => rfl
  | some s =>
    simp only [sText_quo]
    cases l[i - 1]? <;> rfl
theorem fieldsR_eq (x : PNd) : fieldsR x = fieldsB x := by
  unfold fieldsR fieldsB
  rw [sText_quo, keysR_eq]
  rfl
end Go.Proofs.YtolidiafomceiaaGreatDoor
namespace Go.Proofs.YtolidiafomceiaaGreatDoor
set_option linter.unusedVariables false
set_option linter.unusedSimpArgs false
open Go.RowKit
theorem firstGo_congr {F G : Nat → Int} {l : List PNd} {x : PNd} (hF : ∀ i, F i ≤ i) : ∀ {k : Nat} {a : Int}, (∀ j : Nat, (j : Int) < a → F j = G j) → firstGo F l x k a = firstGo G l x k a := by
  intro k
  induction k with
  | zero => intro a _; rfl
  | succ k ih =>
    intro a h
    rw [firstGo, firstGo]
    split
    · rfl
    · rename_i h1
      split
      · rfl
      · split
        · rfl
        · split
          · rfl
          · have e : F (a - 1).toNat = G (a - 1).toNat := h _ (by omega)
            rw [← e]
            split
            · rfl
            · refine ih (fun j hj => h j ?_)
              have := hF (a - 1).toNat
              omega
/-- The fuel of first does not matter. -/
theorem firstF_fuel {l : List PNd} : ∀ (n m i : Nat), i < n → i < m → firstF l n i = firstF l m i := by
  intro n
  induction n with
  | zero => intro m i h; omega
  | succ n ih =>
    intro m i hn hm
    obtain ⟨m, rfl⟩ : ∃ m', m = m' + 1 := ⟨m - 1, by omega⟩
    rw [firstF, firstF]
    cases l[i]? with
    | none => rfl
    | some x =>
      simp only
      split
      · refine firstGo_congr (fun j => firstF_le n j) (fun j hj => ih m j (by omega) (by omega))
      · rfl
/-- The parts of a node cover what lies between its first node and itself. -/
theorem firstGo_cover {F : Nat → Int} {l : List PNd} {x : PNd} (hF : ∀ i, F i ≤ i) : ∀ {k : Nat} {a s : Int}, firstGo F l x k a = s → 0 ≤ s → ∀ j : Nat, s ≤ (j : Int) → (j : Int) < a → ∃ c : Nat, (c : Int) < a ∧ s ≤ F c ∧ F c ≤ (j : Int) ∧ j ≤ c := by
  intro k
  induction k with
  | zero => intro a s h _ j hj ha; rw [firstGo] at h; omega
  | succ k ih =>
    intro a s h hs j hj ha
    rw [firstGo] at h
    split at h
    · omega
    · split at h
      · omega
      · split at h
        · omega
        · split at h
          · omega
          · split at h
            · omega
            · rename_i h1 _ _ _ _ _ h5
              have hle := hF (a - 1).toNat
              have hend : s ≤ F (a - 1).toNat := by
                rw [← h]
                exact (firstGo_le hF (by omega)).1
              by_cases hjf : F (a - 1).toNat ≤ (j : Int)
              · exact ⟨(a - 1).toNat, by omega, hend, hjf, by omega⟩
              · obtain ⟨c, c1, c2, c3, c4⟩ := ih h hs j hj (by omega)
                exact ⟨c, by omega, c2, c3, c4⟩
/-- Within a node's interval each node's interval lies. -/
theorem firstF_within {l : List PNd} : ∀ (n i : Nat) (s : Int), i < n → firstF l n i = s → 0 ≤ s → ∀ j : Nat, s ≤ (j : Int) → j ≤ i → s ≤ firstF l n j := by
  intro n
  induction n with
  | zero => intro i s hi; omega
  | succ n ih =>
    intro i s hin h hs j hj hji
    by_cases hje : j = i
    · rw [hje, h]; exact Int.le_refl _
    · have h0 := h
      rw [firstF] at h0
      split at h0
      · omega
      · split at h0
        · obtain ⟨c, c1, c2, c3, c4⟩ := firstGo_cover (fun k => firstF_le n k) h0 hs j hj (by omega)
          have h2 := ih c (firstF l n c) (by omega) rfl (by omega) j c3 c4
          rw [firstF_fuel (n + 1) n j (by omega) (by omega)]
          omega
        · omega
end Go.Proofs.YtolidiafomceiaaGreatDoor
namespace Go.Proofs.YtolidiafomceiaaGreatDoor
set_option linter.unusedVariables false
set_option linter.unusedSimpArgs false
open Go.RowKit
def szAt (sz : List Int) (a : Int) : Int := (sz[a.toNat]?).getD 0
/-- The parts of a node from the last one on: the node before them, the highest of them. -/
def kidsGo (x : PNd) (low : Int) (sz ht : List Int) : Nat → Int → Int → Option (Int × Int)
  | 0, a, t => some (a, t)
  | k + 1, a, t => if x.kids[k]? = some a ∧ low ≤ a then kidsGo x low sz ht k (a - szAt sz a) (max t (szAt ht a)) else none
def nodeM (l : List PNd) (low : Int) (i : Nat) (x : PNd) (sz ht : List Int) : Option (List Int × List Int) := match kidsGo x low sz ht x.kids.length ((i : Int) - 1) 0 with
  | none => none
  | some (a, t) => if (fieldsR x && partsB l x) = true then some (sz ++ [(i : Int) - a], ht ++ [t + 1]) else none
/-- What is known of the nodes of a function so far. -/
structure MI (l : List PNd) (low i : Nat) (sz : List Int) : Prop where
  len : sz.length = i
  cur : ∀ j : Nat, low ≤ j → j < i → firstF l l.length j = (j : Int) - szAt sz j + 1 ∧ (low : Int) ≤ firstF l l.length j
theorem kidsGo_none {l : List PNd} {x : PNd} {low i : Nat} {sz ht : List Int} (h : MI l low i sz) : ∀ {k : Nat} {a t : Int}, a < (i : Int) → kidsGo x low sz ht k a t = none → firstGo (firstF l l.length) l x k (a + 1) < (low : Int) := by
  intro k
  induction k with
  | zero => intro a t _ hk; rw [kidsGo] at hk; cases hk
  | succ k ih =>
    intro a t ha hk
    rw [kidsGo] at hk
    rw [firstGo]
    split
    · omega
    · rename_i h1
      split
      · omega
      · rename_i h2
        have h2' : x.kids[k]? = some a := by
          have := Decidable.not_not.1 h2
          rw [this]
          congr 1
          omega
        split
        · omega
        · split
          · omega
          · split
            · omega
            · rename_i h5
              have hle := firstF_le (l := l) l.length (a + 1 - 1).toNat
              have hgl := firstGo_le (l := l) (x := x) (fun j => firstF_le (l := l) l.length j) (k := k) (a := firstF l l.length (a + 1 - 1).toNat) (by omega)
              by_cases hl : (low : Int) ≤ a
              · rw [if_pos ⟨h2', hl⟩] at hk
                obtain ⟨c1, c2⟩ := h.cur a.toNat (by omega) (by omega)
                have ea : ((a.toNat : Nat) : Int) = a := by omega
                rw [ea] at c1
                have hle2 := firstF_le (l := l) l.length a.toNat
                have := ih (a := a - szAt sz a) (by omega) hk
                rw [show (a + 1 - 1).toNat = a.toNat by congr 1; omega, c1]
                exact this
              · omega
theorem kidsGo_some {l : List PNd} {x : PNd} {low i : Nat} {sz ht : List Int} (h : MI l low i sz) (hil : i ≤ l.length) : ∀ {k : Nat} {a t b u : Int}, a < (i : Int) → (low : Int) ≤ a + 1 → (∀ j, j < k → fitAt l x j = true) → kidsGo x low sz ht k a t = some (b, u) → firstGo (firstF l l.length) l x k (a + 1) = b + 1 ∧ (low : Int) ≤ b + 1 ∧ b ≤ a := by
  intro k
  induction k with
  | zero =>
    intro a t b u _ hl _ hk
    rw [kidsGo] at hk
    injection hk with hk
    injection hk with h1 h2
    subst h1
    exact ⟨rfl, hl, Int.le_refl _⟩
  | succ k ih =>
    intro a t b u ha hl hfit hk
    rw [kidsGo] at hk
    split at hk
    · rename_i hc
      obtain ⟨h1, h2⟩ := hc
      obtain ⟨c1, c2⟩ := h.cur a.toNat (by omega) (by omega)
      have ea : ((a.toNat : Nat) : Int) = a := by omega
      rw [ea] at c1
      have hle := firstF_le (l := l) l.length a.toNat
      obtain ⟨r1, r2, r3⟩ := ih (a := a - szAt sz a) (by omega) (by omega) (fun j hj => hfit j (by omega)) hk
      have hal : a.toNat < l.length := by omega
      have hf := hfit k (by omega)
      unfold fitAt at hf
      rw [h1] at hf
      simp only at hf
      unfold kindAt at hf
      rw [List.getElem?_eq_getElem hal] at hf
      simp only at hf
      rw [firstGo, if_neg (by omega), if_neg (by rw [h1]; simp), show (a + 1 - 1).toNat = a.toNat by congr 1; omega, List.getElem?_eq_getElem hal]
      simp only
      rw [if_neg (by rw [hf]; simp), if_neg (by omega), c1]
      exact ⟨r1, r2, by omega⟩
    · cases hk
theorem kidsGo_nofit {l : List PNd} {x : PNd} {low i : Nat} {sz ht : List Int} (h : MI l low i sz) (hil : i ≤ l.length) : ∀ {k : Nat} {a t b u : Int}, a < (i : Int) → (∃ j, j < k ∧ fitAt l x j = false) → kidsGo x low sz ht k a t = some (b, u) → firstGo (firstF l l.length) l x k (a + 1) < 0 := by
  intro k
  induction k with
  | zero => intro a t b u _ hf; obtain ⟨j, hj, _⟩ := hf; omega
  | succ k ih =>
    intro a t b u ha hf hk
    rw [kidsGo] at hk
    split at hk
    · rename_i hc
      obtain ⟨h1, h2⟩ := hc
      obtain ⟨c1, c2⟩ := h.cur a.toNat (by omega) (by omega)
      have ea : ((a.toNat : Nat) : Int) = a := by omega
      rw [ea] at c1
      have hle := firstF_le (l := l) l.length a.toNat
      have hal : a.toNat < l.length := by omega
      rw [firstGo, if_neg (by omega), if_neg (by rw [h1]; simp), show (a + 1 - 1).toNat = a.toNat by congr 1; omega, List.getElem?_eq_getElem hal]
      simp only
      by_cases hfk : fitAt l x k = true
      · obtain ⟨j, hj, hjf⟩ := hf
        have hjk : j < k := by
          rcases Nat.lt_or_ge j k with h | h
          · exact h
          · have : j = k := by omega
            subst this
            rw [hfk] at hjf
            cases hjf
        split
        · omega
        · split
          · omega
          · rw [c1]
            exact ih (a := a - szAt sz a) (by omega) ⟨j, hjk, hjf⟩ hk
      · have hf2 := Bool.eq_false_iff.2 hfk
        unfold fitAt at hf2
        rw [h1] at hf2
        simp only at hf2
        unfold kindAt at hf2
        rw [List.getElem?_eq_getElem hal] at hf2
        simp only at hf2
        rw [if_pos hf2]
        omega
    · cases hk
theorem firstF_at {l : List PNd} {i : Nat} {x : PNd} (hx : l[i]? = some x) : firstF l l.length i = if (fieldsB x && countB x) = true then firstGo (firstF l l.length) l x x.kids.length i else -1 := by
  have hi := (List.getElem?_eq_some_iff.1 hx).1
  obtain ⟨n, hn⟩ : ∃ n, l.length = n + 1 := ⟨l.length - 1, by omega⟩
  rw [hn, firstF, hx]
  simp only
  split
  · exact firstGo_congr (fun j => firstF_le n j) (fun j hj => firstF_fuel n (n + 1) j (by omega) (by omega))
  · rfl
theorem szAt_app {sz : List Int} {v : Int} {j : Nat} (h : j < sz.length) : szAt (sz ++ [v]) j = szAt sz j := by
  unfold szAt
  rw [Int.toNat_natCast, List.getElem?_append_left h]
theorem szAt_new {sz : List Int} {v : Int} {i : Nat} (h : sz.length = i) : szAt (sz ++ [v]) i = v := by
  unfold szAt
  rw [Int.toNat_natCast, ← h, List.getElem?_append_right (Nat.le_refl _), Nat.sub_self]
  rfl
theorem nodeM_some {l : List PNd} {x : PNd} {low i : Nat} {sz ht sz' ht' : List Int} (h : MI l low i sz) (hx : l[i]? = some x) (hF : fieldsR x = fieldsB x) (hlow : low ≤ i) (hm : nodeM l low i x sz ht = some (sz', ht')) : MI l low (i + 1) sz' := by
  have hi := (List.getElem?_eq_some_iff.1 hx).1
  unfold nodeM at hm
  split at hm
  · cases hm
  · rename_i a t hk
    split at hm
    · rename_i hc
      injection hm with hm
      injection hm with e1 e2
      subst e1
      rw [Bool.and_eq_true, hF] at hc
      obtain ⟨hc1, hc2⟩ := hc
      unfold partsB at hc2
      rw [Bool.and_eq_true] at hc2
      obtain ⟨r1, r2, r3⟩ := kidsGo_some h (by omega) (by omega) (by omega) (fun j hj => by
        have := List.all_eq_true.1 hc2.2 j (List.mem_range.2 hj)
        exact this) hk
      rw [show (i : Int) - 1 + 1 = i by omega] at r1
      have hfi : firstF l l.length i = a + 1 := by rw [firstF_at hx, hc1, hc2.1, if_pos (by rfl), r1]
      refine ⟨by simp [h.len], fun j hj1 hj2 => ?_⟩
      by_cases hji : j = i
      · subst hji
        rw [szAt_new h.len, hfi]
        omega
      · have := h.cur j hj1 (by omega)
        rw [szAt_app (by rw [h.len]; omega)]
        exact this
    · cases hm
theorem nodeM_none {l : List PNd} {x : PNd} {low i : Nat} {sz ht : List Int} (h : MI l low i sz) (hx : l[i]? = some x) (hF : fieldsR x = fieldsB x) (hm : nodeM l low i x sz ht = none) : firstF l l.length i < (low : Int) := by
  have hi := (List.getElem?_eq_some_iff.1 hx).1
  rw [firstF_at hx]
  split
  · rename_i hfc
    rw [Bool.and_eq_true] at hfc
    unfold nodeM at hm
    split at hm
    · rename_i hk
      have := kidsGo_none h (by omega) hk
      rw [show (i : Int) - 1 + 1 = i by omega] at this
      exact this
    · rename_i a t hk
      split at hm
      · cases hm
      · rename_i hc
        rw [hF, hfc.1, Bool.true_and] at hc
        unfold partsB at hc
        rw [hfc.2, Bool.true_and] at hc
        have hex : ∃ j, j < x.kids.length ∧ fitAt l x j = false := by
          have := Bool.eq_false_iff.2 hc
          unfold fitsTo at this
          rw [List.all_eq_false] at this
          obtain ⟨j, hj, hjf⟩ := this
          exact ⟨j, List.mem_range.1 hj, by simpa using hjf⟩
        have := kidsGo_nofit h (by omega) (by omega) hex hk
        rw [show (i : Int) - 1 + 1 = i by omega] at this
        omega
  · omega
end Go.Proofs.YtolidiafomceiaaGreatDoor
namespace Go.Proofs.YtolidiafomceiaaGreatDoor
set_option linter.unusedVariables false
set_option linter.unusedSimpArgs false
open Go.RowKit
def rangeM (l : List PNd) (low : Int) : Nat → Nat → List Int → List Int → Option (List Int × List Int)
  | 0, _, sz, ht => some (sz, ht)
  | n + 1, i, sz, ht => match l[i]? with
    | none => none
    | some x => match nodeM l low i x sz ht with
      | none => none
      | some (sz', ht') => rangeM l low n (i + 1) sz' ht'
def funcsM (l : List PNd) : List PFn → Int → List Int → List Int → Option (List Int × List Int × Int)
  | [], low, sz, ht => some (sz, ht, low)
  | f :: r, low, sz, ht => if f.body < low then none else if (l.length : Int) ≤ f.body then none else if (kindAt l f.body.toNat != 19) = true then none else if sNameB f.name = false then none else if f.params.any (fun s => !sNameB s) = true then none else
    match rangeM l low (f.body - low + 1).toNat low.toNat sz ht with
    | none => none
    | some (sz', ht') => if szAt sz' f.body = f.body - low + 1 then funcsM l r (f.body + 1) sz' ht' else none
/-- What measure returns, if all is well. -/
def measR (p : PPr) : Option (List Int × List Int) := match funcsM p.nodes p.funcs 0 [] [] with
  | none => none
  | some (sz, ht, low) => if low = (p.nodes.length : Int) then some (sz, ht) else none
theorem rangeM_some {l : List PNd} {low : Nat} : ∀ {n i : Nat} {sz ht sz' ht' : List Int}, MI l low i sz → low ≤ i → rangeM l low n i sz ht = some (sz', ht') → MI l low (i + n) sz' := by
  intro n
  induction n with
  | zero =>
    intro i sz ht sz' ht' h _ hm
    rw [rangeM] at hm
    injection hm with hm
    injection hm with h1 h2
    subst h1
    exact h
  | succ n ih =>
    intro i sz ht sz' ht' h hl hm
    rw [rangeM] at hm
    split at hm
    · cases hm
    · rename_i x hx
      split at hm
      · cases hm
      · rename_i s2 t2 hn
        have := ih (nodeM_some h hx (fieldsR_eq x) hl hn) (by omega) hm
        rw [show i + 1 + n = i + (n + 1) by omega] at this
        exact this
theorem rangeM_none {l : List PNd} {low : Nat} : ∀ {n i : Nat} {sz ht : List Int}, MI l low i sz → low ≤ i → i + n ≤ l.length → rangeM l low n i sz ht = none → ∃ j, i ≤ j ∧ j < i + n ∧ firstF l l.length j < (low : Int) := by
  intro n
  induction n with
  | zero => intro i sz ht _ _ _ hm; rw [rangeM] at hm; cases hm
  | succ n ih =>
    intro i sz ht h hl hin hm
    rw [rangeM] at hm
    have hi : i < l.length := by omega
    rw [List.getElem?_eq_getElem hi] at hm
    simp only at hm
    split at hm
    · rename_i hn
      exact ⟨i, Nat.le_refl _, by omega, nodeM_none h (List.getElem?_eq_getElem hi) (fieldsR_eq _) hn⟩
    · rename_i s2 t2 hn
      obtain ⟨j, h1, h2, h3⟩ := ih (nodeM_some h (List.getElem?_eq_getElem hi) (fieldsR_eq _) hl hn) (by omega) (by omega) hm
      exact ⟨j, by omega, by omega, h3⟩
theorem MI_start {l : List PNd} {low : Nat} {sz : List Int} (h : sz.length = low) : MI l low low sz := ⟨h, fun j h1 h2 => by omega⟩
theorem rangeM_first {l : List PNd} {low body : Nat} {sz ht : List Int} (h : sz.length = low) (hlb : low ≤ body) (hb : body < l.length) :
    firstF l l.length body = (low : Int) ↔ ∃ sz' ht', rangeM l low (body - low + 1) low sz ht = some (sz', ht') ∧ szAt sz' body = (body : Int) - low + 1 := by
  constructor
  · intro hf
    cases hm : rangeM l low (body - low + 1) low sz ht with
    | none =>
      obtain ⟨j, h1, h2, h3⟩ := rangeM_none (MI_start h) (Nat.le_refl _) (by omega) hm
      have := firstF_within l.length body low hb hf (by omega) j (by omega) (by omega)
      omega
    | some q =>
      obtain ⟨sz', ht'⟩ := q
      have := (rangeM_some (MI_start h) (Nat.le_refl _) hm).cur body hlb (by omega)
      exact ⟨sz', ht', rfl, by omega⟩
  · rintro ⟨sz', ht', hm, hs⟩
    have := (rangeM_some (MI_start h) (Nat.le_refl _) hm).cur body hlb (by omega)
    omega
theorem rangeM_len {l : List PNd} {low : Nat} {n : Nat} {sz ht sz' ht' : List Int} (h : sz.length = low) (hm : rangeM l low n low sz ht = some (sz', ht')) : sz'.length = low + n := (rangeM_some (MI_start h) (Nat.le_refl _) hm).len
theorem funcsM_ord {l : List PNd} : ∀ {r : List PFn} {low : Nat} {sz ht : List Int}, sz.length = low → (ordGo l r low = true ↔ ∃ sz' ht', funcsM l r low sz ht = some (sz', ht', (l.length : Int))) := by
  intro r
  induction r with
  | nil =>
    intro low sz ht _
    rw [ordGo, funcsM]
    constructor
    · intro h
      have := eq_of_beq h
      exact ⟨sz, ht, by rw [this]⟩
    · rintro ⟨sz', ht', h⟩
      injection h with h
      injection h with h1 h2
      injection h2 with h2 h3
      rw [h3]
      simp
  | cons f r ih =>
    intro low sz ht hl
    rw [ordGo, funcsM]
    by_cases c1 : f.body < (low : Int)
    · rw [if_pos c1, if_pos c1]
      constructor
      · intro h
        split at h
        · cases h
        · split at h
          · cases h
          · cases h
      · rintro ⟨_, _, h⟩; cases h
    by_cases c2 : (l.length : Int) ≤ f.body
    · rw [if_neg c1, if_pos c2, if_neg c1, if_pos c2]
      constructor
      · intro h
        split at h
        · cases h
        · split at h
          · cases h
          · cases h
      · rintro ⟨_, _, h⟩; cases h
    by_cases c3 : (kindAt l f.body.toNat != 19) = true
    · rw [if_neg c1, if_neg c2, if_pos c3, if_neg c1, if_neg c2, if_pos c3]
      constructor
      · intro h
        split at h
        · cases h
        · split at h
          · cases h
          · cases h
      · rintro ⟨_, _, h⟩; cases h
    rw [if_neg c1, if_neg c2, if_neg c3, if_neg c1, if_neg c2, if_neg c3]
    by_cases c4 : sNameB f.name = false
    · rw [if_pos c4, if_pos c4]
      constructor
      · intro h; cases h
      · rintro ⟨_, _, h⟩; cases h
    rw [if_neg c4, if_neg c4]
    by_cases c5 : f.params.any (fun s => !sNameB s) = true
    · rw [if_pos c5, if_pos c5]
      constructor
      · intro h; cases h
      · rintro ⟨_, _, h⟩; cases h
    rw [if_neg c5, if_neg c5]
    obtain ⟨b, hb⟩ : ∃ b : Nat, f.body = (b : Int) := ⟨f.body.toNat, by omega⟩
    have hlb : low ≤ b := by omega
    have hbl : b < l.length := by omega
    have RF := rangeM_first (l := l) (ht := ht) hl hlb hbl
    rw [hb, Int.toNat_natCast, Int.toNat_natCast, show ((b : Int) - (low : Int) + 1).toNat = b - low + 1 by omega]
    by_cases hf : firstF l l.length b = (low : Int)
    · obtain ⟨sz', ht', hm, hs⟩ := RF.1 hf
      rw [if_neg (by simp [hf]), hm]
      simp only
      rw [if_pos hs]
      have := ih (low := b + 1) (sz := sz') (ht := ht') (by rw [rangeM_len hl hm]; omega)
      rw [show ((b + 1 : Nat) : Int) = (b : Int) + 1 by push_cast; rfl] at this
      exact this
    · rw [if_pos (by simpa using hf)]
      constructor
      · intro h; cases h
      · rintro ⟨s1, t1, h⟩
        split at h
        · cases h
        · rename_i s2 t2 hm
          split at h
          · rename_i hs
            exact absurd (RF.2 ⟨s2, t2, hm, hs⟩) hf
          · cases h
theorem measR_ord (p : PPr) : ordB p = true ↔ ∃ sz ht, measR p = some (sz, ht) := by
  have h := funcsM_ord (l := p.nodes) (r := p.funcs) (low := 0) (sz := []) (ht := []) rfl
  unfold ordB
  rw [show ((0 : Nat) : Int) = 0 from rfl] at h
  rw [h]
  unfold measR
  constructor
  · rintro ⟨sz, ht, e⟩
    exact ⟨sz, ht, by rw [e]; simp⟩
  · rintro ⟨sz, ht, e⟩
    split at e
    · cases e
    · rename_i s t lo hm
      split at e
      · rename_i hlo
        exact ⟨s, t, by rw [← hlo]; exact hm⟩
      · cases e
end Go.Proofs.YtolidiafomceiaaGreatDoor
namespace Go.Proofs.YtolidiafomceiaaGreatDoor
set_option linter.unusedVariables false
set_option linter.unusedSimpArgs false
open Go.RowKit
theorem foldl_max_congr {g h : Int → Int} : ∀ {ks : List Int} {q : Int}, (∀ k ∈ ks, g k = h k) → ks.foldl (fun q k => max q (g k)) q = ks.foldl (fun q k => max q (h k)) q := by
  intro ks
  induction ks with
  | nil => intro q _; rfl
  | cons k ks ih =>
    intro q hk
    rw [List.foldl_cons, List.foldl_cons, hk k (by simp)]
    exact ih (fun c hc => hk c (by simp [hc]))
theorem foldl_max_ge {g : Int → Int} : ∀ {ks : List Int} {q : Int}, q ≤ ks.foldl (fun q k => max q (g k)) q := by
  intro ks
  induction ks with
  | nil => intro q; exact Int.le_refl _
  | cons k ks ih =>
    intro q
    rw [List.foldl_cons]
    have := ih (q := max q (g k))
    omega
theorem kid_lt {l : List PNd} {i : Nat} {x : PNd} (hx : l[i]? = some x) (h : 0 ≤ firstF l l.length i) : ∀ c ∈ x.kids, ∃ m : Nat, c = (m : Int) ∧ m < i ∧ 0 ≤ firstF l l.length m := by
  intro c hc
  obtain ⟨k, hk, rfl⟩ := List.mem_iff_getElem.1 hc
  have hi := (List.getElem?_eq_some_iff.1 hx).1
  have h2 : 0 ≤ firstF l (i + 1) i := by rw [firstF_fuel (i + 1) l.length i (by omega) hi]; exact h
  obtain ⟨m, h3, h4, h5, h6⟩ := firstF_kids hx h2 k hk
  rw [List.getElem?_eq_getElem hk] at h3
  injection h3 with h3
  exact ⟨m, h3, h4, by rw [firstF_fuel l.length i m (by omega) h4]; exact h6⟩
theorem nestF_fuel {l : List PNd} : ∀ (n m i : Nat), i < n → i < m → i < l.length → 0 ≤ firstF l l.length i → nestF l n i = nestF l m i := by
  intro n
  induction n with
  | zero => intro m i h; omega
  | succ n ih =>
    intro m i hn hm hi hf
    obtain ⟨m, rfl⟩ : ∃ m', m = m' + 1 := ⟨m - 1, by omega⟩
    rw [nestF, nestF, List.getElem?_eq_getElem hi]
    simp only
    rw [foldl_max_congr (g := fun k => nestF l n k.toNat) (h := fun k => nestF l m k.toNat)]
    intro c hc
    obtain ⟨q, rfl, hq, hqf⟩ := kid_lt (List.getElem?_eq_getElem hi) hf c hc
    rw [Int.toNat_natCast]
    exact ih m q (by omega) (by omega) (by omega) hqf
theorem nestF_at {l : List PNd} {i : Nat} {x : PNd} (hx : l[i]? = some x) (hf : 0 ≤ firstF l l.length i) : nestF l l.length i = x.kids.foldl (fun q k => max q (nestF l l.length k.toNat)) 0 + 1 := by
  have hi := (List.getElem?_eq_some_iff.1 hx).1
  obtain ⟨n, hn⟩ : ∃ n, l.length = n + 1 := ⟨l.length - 1, by omega⟩
  rw [hn, nestF, hx]
  simp only
  rw [foldl_max_congr (g := fun k => nestF l n k.toNat) (h := fun k => nestF l (n + 1) k.toNat)]
  intro c hc
  obtain ⟨q, rfl, hq, hqf⟩ := kid_lt hx hf c hc
  rw [Int.toNat_natCast]
  exact nestF_fuel n (n + 1) q (by omega) (by omega) (by omega) hqf
def topM (ht : List Int) (ks : List Int) : Int := ks.foldl (fun q c => max q (szAt ht c)) 0
theorem kidsGo_top {x : PNd} {low : Int} {sz ht : List Int} : ∀ {k : Nat} {a t b u : Int}, 0 ≤ t → kidsGo x low sz ht k a t = some (b, u) → u = max t (topM ht (x.kids.take k)) := by
  intro k
  induction k with
  | zero =>
    intro a t b u ht0 hk
    rw [kidsGo] at hk
    injection hk with hk
    injection hk with h1 h2
    rw [List.take_zero]
    unfold topM
    rw [List.foldl_nil]
    omega
  | succ k ih =>
    intro a t b u ht0 hk
    rw [kidsGo] at hk
    split at hk
    · rename_i hc
      have h1 := ih (t := max t (szAt ht a)) (by omega) hk
      have hkl := (List.getElem?_eq_some_iff.1 hc.1)
      obtain ⟨hlt, he⟩ := hkl
      rw [List.take_succ_eq_append_getElem hlt]
      unfold topM at h1 ⊢
      rw [List.foldl_append, List.foldl_cons, List.foldl_nil, he, h1]
      omega
    · cases hk
structure MH (l : List PNd) (i : Nat) (ht : List Int) : Prop where
  len : ht.length = i
  at' : ∀ j : Nat, j < i → szAt ht j = nestF l l.length j
theorem nodeM_top {l : List PNd} {x : PNd} {low i : Nat} {sz ht sz' ht' : List Int} (h : MI l low i sz) (hh : MH l i ht) (hx : l[i]? = some x) (hlow : low ≤ i) (hm : nodeM l low i x sz ht = some (sz', ht')) : MH l (i + 1) ht' := by
  have h2 := nodeM_some h hx (fieldsR_eq x) hlow hm
  have hf : 0 ≤ firstF l l.length i := by have := (h2.cur i hlow (by omega)).2; omega
  unfold nodeM at hm
  split at hm
  · cases hm
  · rename_i a t hk
    split at hm
    · injection hm with hm
      injection hm with e1 e2
      subst e2
      have ht2 := kidsGo_top (Int.le_refl 0) hk
      rw [List.take_length] at ht2
      have hge : 0 ≤ topM ht x.kids := foldl_max_ge
      have hn : nestF l l.length i = t + 1 := by
        rw [nestF_at hx hf, ht2]
        unfold topM at hge ⊢
        rw [foldl_max_congr (g := fun k => nestF l l.length k.toNat) (h := fun c => szAt ht c)]
        · omega
        · intro c hc
          obtain ⟨q, rfl, hq, -⟩ := kid_lt hx hf c hc
          rw [Int.toNat_natCast, hh.at' q hq]
      refine ⟨by simp [hh.len], fun j hj => ?_⟩
      by_cases hji : j = i
      · subst hji
        rw [szAt_new hh.len, hn]
      · rw [szAt_app (by rw [hh.len]; omega)]
        exact hh.at' j (by omega)
    · cases hm
theorem rangeM_top {l : List PNd} {low : Nat} : ∀ {n i : Nat} {sz ht sz' ht' : List Int}, MI l low i sz → MH l i ht → low ≤ i → rangeM l low n i sz ht = some (sz', ht') → MH l (i + n) ht' := by
  intro n
  induction n with
  | zero =>
    intro i sz ht sz' ht' _ hh _ hm
    rw [rangeM] at hm
    injection hm with hm
    injection hm with h1 h2
    subst h2
    exact hh
  | succ n ih =>
    intro i sz ht sz' ht' h hh hl hm
    rw [rangeM] at hm
    split at hm
    · cases hm
    · rename_i x hx
      split at hm
      · cases hm
      · rename_i s2 t2 hn
        have := ih (nodeM_some h hx (fieldsR_eq x) hl hn) (nodeM_top h hh hx hl hn) (by omega) hm
        rw [show i + 1 + n = i + (n + 1) by omega] at this
        exact this
end Go.Proofs.YtolidiafomceiaaGreatDoor
namespace Go.Proofs.YtolidiafomceiaaGreatDoor
set_option linter.unusedVariables false
set_option linter.unusedSimpArgs false
open Go.RowKit
theorem funcsM_top {l : List PNd} : ∀ {r : List PFn} {low : Nat} {sz ht sz' ht' : List Int} {e : Int}, sz.length = low → MH l low ht → funcsM l r low sz ht = some (sz', ht', e) → ∃ m : Nat, e = (m : Int) ∧ MH l m ht' := by
  intro r
  induction r with
  | nil =>
    intro low sz ht sz' ht' e _ hh hm
    rw [funcsM] at hm
    injection hm with hm
    injection hm with h1 h2
    injection h2 with h2 h3
    subst h2
    exact ⟨low, h3.symm, hh⟩
  | cons f r ih =>
    intro low sz ht sz' ht' e hl hh hm
    rw [funcsM] at hm
    split at hm
    · cases hm
    · split at hm
      · cases hm
      · split at hm
        · cases hm
        · split at hm
          · cases hm
          · split at hm
            · cases hm
            · rename_i c1 c2 _ _ _
              obtain ⟨b, hb⟩ : ∃ b : Nat, f.body = (b : Int) := ⟨f.body.toNat, by omega⟩
              rw [hb, Int.toNat_natCast, show ((b : Int) - (low : Int) + 1).toNat = b - low + 1 by omega] at hm
              split at hm
              · cases hm
              · rename_i s2 t2 hr
                split at hm
                · have h1 := rangeM_top (MI_start hl) hh (Nat.le_refl _) hr
                  have h2 := rangeM_len hl hr
                  rw [show low + (b - low + 1) = b + 1 by omega] at h1 h2
                  rw [show (b : Int) + 1 = ((b + 1 : Nat) : Int) by push_cast; rfl] at hm
                  exact ih h2 h1 hm
                · cases hm
theorem measR_top {p : PPr} {sz ht : List Int} (h : measR p = some (sz, ht)) : MH p.nodes p.nodes.length ht := by
  unfold measR at h
  split at h
  · cases h
  · rename_i s t e hm
    split at h
    · rename_i he
      injection h with h
      injection h with h1 h2
      subst h2
      obtain ⟨m, h3, h4⟩ := funcsM_top (low := 0) (sz := []) (ht := []) rfl ⟨rfl, fun j hj => by omega⟩ hm
      have : m = p.nodes.length := by omega
      rw [← this]
      have hn : MH p.nodes m t := h4
      rw [this] at hn ⊢
      exact hn
    · cases h
/-- What the reference's Check of layer 8 returns. -/
def rvalidZ (p : PPr) : Int := if 600 < p.nodes.length ∨ 16 < p.funcs.length then 3 else match measR p with
  | none => 1
  | some (_, ht) => if p.funcs.any (fun f => decide (8 < f.params.length) || decide (32 < szAt ht f.body)) = true then 3 else 0
theorem foldl_max_lt {α : Type} {g : α → Int} {B : Int} : ∀ {fs : List α} {q : Int}, decide (B < fs.foldl (fun q f => max q (g f)) q) = (decide (B < q) || fs.any (fun f => decide (B < g f))) := by
  intro fs
  induction fs with
  | nil => intro q; rw [List.foldl_nil, List.any_nil, Bool.or_false]
  | cons f fs ih =>
    intro q
    rw [List.foldl_cons, ih, List.any_cons]
    by_cases h1 : B < q
    · rw [decide_eq_true h1, decide_eq_true (show B < max q (g f) by omega)]
      rfl
    · by_cases h2 : B < g f
      · rw [decide_eq_true h2, decide_eq_true (show B < max q (g f) by omega)]
        simp
      · rw [decide_eq_false h1, decide_eq_false h2, decide_eq_false (show ¬ B < max q (g f) by omega)]
        rfl
theorem rvalid_eq (p : PPr) : rvalidZ p = scheckZ p := by
  unfold rvalidZ scheckZ
  by_cases h1 : 600 < p.nodes.length
  · rw [if_pos (.inl h1), if_pos h1]
  rw [if_neg h1]
  by_cases h2 : 16 < p.funcs.length
  · rw [if_pos (.inr h2), if_pos h2]
  rw [if_neg (by omega), if_neg h2]
  cases ho : ordB p
  · have hn : measR p = none := by
      cases hm : measR p with
      | none => rfl
      | some q =>
        obtain ⟨sz, ht⟩ := q
        have := (measR_ord p).2 ⟨sz, ht, hm⟩
        rw [ho] at this
        cases this
    rw [hn, if_pos rfl]
  · obtain ⟨sz, ht, hm⟩ := (measR_ord p).1 ho
    rw [hm, if_neg (by simp)]
    simp only
    have hT := measR_top hm
    have hB := ordGo_ok (Int.le_refl 0) ho
    have hany : p.funcs.any (fun f => decide (8 < f.params.length) || decide (32 < szAt ht f.body)) = (p.funcs.any (fun f => decide (8 < f.params.length)) || decide (32 < deepF p)) := by
      unfold deepF
      rw [foldl_max_lt]
      rw [show decide ((32 : Int) < 0) = false from rfl, Bool.false_or]
      have he : ∀ f ∈ p.funcs, decide (32 < szAt ht f.body) = decide (32 < nestF p.nodes p.nodes.length f.body.toNat) := by
        intro f hf
        obtain ⟨m, hb, hm2, -⟩ := hB f hf
        rw [hb, Int.toNat_natCast, hT.at' m hm2]
      rw [show p.funcs.any (fun f => decide (8 < f.params.length) || decide (32 < szAt ht f.body)) = p.funcs.any (fun f => decide (8 < f.params.length) || decide (32 < nestF p.nodes p.nodes.length f.body.toNat)) from by
        rw [Bool.eq_iff_iff, List.any_eq_true, List.any_eq_true]
        constructor
        · rintro ⟨f, hf, h⟩; exact ⟨f, hf, by rw [← he f hf]; exact h⟩
        · rintro ⟨f, hf, h⟩; exact ⟨f, hf, by rw [he f hf]; exact h⟩]
      rw [Bool.eq_iff_iff, Bool.or_eq_true, List.any_eq_true, List.any_eq_true, List.any_eq_true]
      constructor
      · rintro ⟨f, hf, h⟩
        rw [Bool.or_eq_true] at h
        rcases h with h | h
        · exact .inl ⟨f, hf, h⟩
        · exact .inr ⟨f, hf, h⟩
      · rintro (⟨f, hf, h⟩ | ⟨f, hf, h⟩)
        · exact ⟨f, hf, by rw [h]; rfl⟩
        · exact ⟨f, hf, by rw [h]; simp⟩
    rw [hany]
    cases h8 : p.funcs.any (fun f => decide (8 < f.params.length))
    · rw [Bool.false_or, if_neg (show ¬ (false = true) by simp)]
      by_cases hd : 32 < deepF p
      · rw [if_pos (decide_eq_true hd), if_pos hd]
      · rw [if_neg (by simpa using hd), if_neg hd]
    · rw [Bool.true_or, if_pos rfl, if_pos rfl]
end Go.Proofs.YtolidiafomceiaaGreatDoor
