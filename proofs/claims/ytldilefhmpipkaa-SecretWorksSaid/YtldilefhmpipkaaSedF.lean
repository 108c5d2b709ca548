/- Chapter 22: plain laws: the program's secrets and the reference's stay the same. No program in sight. -/
import Derived.Test.YtldilefhmpipkaaSedE
namespace Go.Proofs.Ytldilefhmpipkaa
set_option linter.unusedVariables false
set_option linter.unusedSimpArgs false

structure Mat (x : S0) (y : R0) : Prop where
  name : y.name = x.name
  text : y.text = x.text
  prev : y.prev = x.before
  rot : y.rot = decide (1 < x.ver)
  til : y.til = x.til
  since : y.since = x.now
  ver : y.ver = x.ver
  basc : Asc y.bound
  blen : y.bound.length = x.bound.length
  bmem : ∀ f, f ∈ x.bound ↔ byt f ∈ y.bound
structure Sim (L : List S0) (M : List R0) : Prop where
  ok : SOk L
  asc : Asc (rnms M)
  len : M.length = L.length
  fwd : ∀ x ∈ L, ∃ y ∈ M, Mat x y
  bwd : ∀ y ∈ M, ∃ x ∈ L, Mat x y
theorem Sim.nil : Sim [] [] := ⟨SOk.nil, by simp [rnms], rfl, by simp, by simp⟩
theorem Sim.at {L : List S0} {M : List R0} (h : Sim L M) (k : ByteArray) : (look L k = none ∧ rlk M k = none) ∨ ∃ x y, look L k = some x ∧ rlk M k = some y ∧ Mat x y := by
  cases hl : look L k with
  | none =>
    refine .inl ⟨rfl, ?_⟩
    cases hr : rlk M k with
    | none => rfl
    | some y =>
      obtain ⟨h1, h2⟩ := rlk_mem hr
      obtain ⟨x, h3, h4⟩ := h.bwd y h1
      exact absurd (h4.name.symm.trans h2) (look_none.1 hl x h3)
  | some x =>
    obtain ⟨y, h1, h2⟩ := h.fwd x (look_mem hl)
    exact .inr ⟨x, y, rfl, (rlk_iff h.asc).2 ⟨h1, h2.name.trans (look_key hl)⟩, h2⟩
theorem Mat.has {x : S0} {y : R0} (h : Mat x y) (fn : ByteArray) : foundAt y.bound (byt fn) = hasB x fn := by
  rw [Bool.eq_iff_iff, found_iff h.basc, hasB_iff]
  exact (h.bmem fn).symm
theorem Sim.upd {L : List S0} {M : List R0} (h : Sim L M) {k : ByteArray} {x : S0} {y : R0} (hx : look L k = some x) (hy : rlk M k = some y) {f : S0 → S0} {g : R0 → R0} (hf : ∀ z, (f z).name = z.name) (hg : (g y).name = y.name) (hm : Mat (f x) (g y)) (hk : SOk (upd L k f)) : Sim (upd L k f) (updR M k g) := by
  obtain ⟨h1, h2, h3, h4, h5⟩ := updR_all h.asc hy g hg
  refine ⟨hk, by rw [h1]; exact h.asc, ?_, ?_, ?_⟩
  · rw [h2, h.len]
    unfold Go.Proofs.Ytldilefhmpipkaa.upd
    rw [List.length_map]
  · intro z hz
    rcases upd_mem h.ok.nd hx f hz with rfl | ⟨hz, hne⟩
    · exact ⟨_, h3, hm⟩
    · obtain ⟨u, hu, hmu⟩ := h.fwd z hz
      exact ⟨u, h4 u hu (by rw [hmu.name]; exact hne), hmu⟩
  · intro u hu
    rcases h5 u hu with rfl | ⟨hu, hne⟩
    · exact ⟨_, (upd_mem' h.ok.nd hx f).2 (.inl rfl), hm⟩
    · obtain ⟨z, hz, hmu⟩ := h.bwd u hu
      exact ⟨z, (upd_mem' h.ok.nd hx f).2 (.inr ⟨hz, by rw [← hmu.name]; exact hne⟩), hmu⟩

theorem Sim.put {L : List S0} {M : List R0} (h : Sim L M) (name text : ByteArray) : rputE M name text = putE L name text ∧ Sim (putS L name text) (rputS M name text) := by
  have hl := h.ok.len
  have hml := h.len
  have hE : rputE M name text = putE L name text := by
    unfold rputE putE
    rw [foundR_iff]
    have h1 : (rlk M name).isSome = (look L name).isSome := by
      rcases h.at name with ⟨a, b⟩ | ⟨x, y, a, b, _⟩
      · rw [a, b]; rfl
      · rw [a, b]; rfl
    rw [h1]
    by_cases h2 : 256 ≤ L.length
    · have h3 : M.length = 256 := by omega
      rw [if_pos h2, if_pos h3]
    · have h3 : ¬ M.length = 256 := by omega
      rw [if_neg h2, if_neg h3]
  refine ⟨hE, ?_⟩
  unfold rputS putS
  rw [hE]
  by_cases hz : putE L name text = 0
  · have hk := h.ok.put name text
    unfold putS at hk
    rw [if_pos hz] at hk ⊢
    rw [if_pos hz]
    obtain ⟨_, _, h3, _⟩ := putE_zero hz
    have hnn : byt name ∉ rnms M := by
      intro hm
      obtain ⟨y, hy, e⟩ := List.mem_map.1 hm
      obtain ⟨x, hx, hmat⟩ := h.bwd y hy
      exact look_none.1 h3 x hx (hmat.name.symm.trans (bs_inj e))
    have hmem : ∀ z, z ∈ M.take (posR M name) ++ [rnewS name text] ++ M.drop (posR M name) ↔ z = rnewS name text ∨ z ∈ M := by
      intro z
      have : z ∈ M ↔ z ∈ M.take (posR M name) ++ M.drop (posR M name) := by rw [List.take_append_drop]
      rw [this]
      simp only [List.mem_append, List.mem_singleton]
      constructor
      · rintro ((h | h) | h)
        · exact .inr (.inl h)
        · exact .inl h
        · exact .inr (.inr h)
      · rintro (h | h | h)
        · exact .inl (.inr h)
        · exact .inl (.inl h)
        · exact .inr h
    have hnew : Mat (newS0 name text) (rnewS name text) := ⟨rfl, rfl, rfl, rfl, rfl, rfl, rfl, List.Pairwise.nil, rfl, by simp [newS0, rnewS]⟩
    refine ⟨hk, ?_, ?_, ?_, ?_⟩
    · have := ins_sorted h.asc hnn
      unfold rnms at this ⊢
      rw [List.map_append, List.map_append, List.map_take, List.map_drop]
      exact this
    · have := posR_le M name
      simp; omega
    · intro x hx
      rcases List.mem_append.1 hx with hx | hx
      · obtain ⟨y, hy, hm⟩ := h.fwd x hx
        exact ⟨y, (hmem y).2 (.inr hy), hm⟩
      · simp at hx; subst hx
        exact ⟨_, (hmem _).2 (.inl rfl), hnew⟩
    · intro y hy
      rcases (hmem y).1 hy with rfl | hy
      · exact ⟨_, by simp, hnew⟩
      · obtain ⟨x, hx, hm⟩ := h.bwd y hy
        exact ⟨x, by simp [hx], hm⟩
  · rw [if_neg hz, if_neg hz]; exact h
theorem Sim.bind {L : List S0} {M : List R0} (h : Sim L M) (name fn : ByteArray) : rbindE M name fn = bindE L name fn ∧ Sim (bindS L name fn) (rbindS M name fn) := by
  have hE : rbindE M name fn = bindE L name fn := by
    unfold rbindE bindE
    rcases h.at name with ⟨a, b⟩ | ⟨x, y, a, b, hm⟩
    · rw [a, b]
    · rw [a, b]
      simp only
      rw [hm.has fn]
      have hb := (h.ok.all x (look_mem a)).1
      have hl := hm.blen
      by_cases h2 : 32 ≤ x.bound.length
      · have h3 : y.bound.length = 32 := by omega
        rw [if_pos h2, if_pos h3]
      · have h3 : ¬ y.bound.length = 32 := by omega
        rw [if_neg h2, if_neg h3]
  refine ⟨hE, ?_⟩
  unfold rbindS bindS
  rw [hE]
  by_cases hz : bindE L name fn = 0
  · have hk := h.ok.bind name fn
    unfold bindS at hk
    rw [if_pos hz] at hk ⊢
    rw [if_pos hz]
    obtain ⟨x, h1, _, h3, _⟩ := bindE_zero hz
    rcases h.at name with ⟨a, b⟩ | ⟨x', y, a, b, hm⟩
    · rw [h1] at a; cases a
    · rw [h1] at a; cases a
      have hf : foundAt y.bound (byt fn) = false := by rw [hm.has fn]; exact h3
      have hnn : byt fn ∉ y.bound := fun hmm => by rw [(found_iff hm.basc _).2 hmm] at hf; cases hf
      refine h.upd h1 b (fun _ => rfl) rfl ⟨hm.name, hm.text, hm.prev, hm.rot, hm.til, hm.since, hm.ver, ins_sorted hm.basc hnn, ?_, ?_⟩ hk
      · rw [len_ins, hm.blen]; simp
      · intro f
        rw [mem_ins, ← hm.bmem f]
        simp only [List.mem_append, List.mem_singleton]
        constructor
        · rintro (h | rfl)
          · exact .inr h
          · exact .inl rfl
        · rintro (h | h)
          · exact .inr (bs_inj h)
          · exact .inl h
  · rw [if_neg hz, if_neg hz]; exact h
theorem Sim.unbind {L : List S0} {M : List R0} (h : Sim L M) (name fn : ByteArray) : runbindE M name fn = unbindE L name fn ∧ Sim (unbindS L name fn) (runbindS M name fn) := by
  have hE : runbindE M name fn = unbindE L name fn := by
    unfold runbindE unbindE
    rcases h.at name with ⟨a, b⟩ | ⟨x, y, a, b, hm⟩
    · rw [a, b]
    · rw [a, b]
      simp only
      rw [hm.has fn]
  refine ⟨hE, ?_⟩
  unfold runbindS unbindS
  rw [hE]
  by_cases hz : unbindE L name fn = 0
  · have hk := h.ok.unbind name fn
    unfold unbindS at hk
    rw [if_pos hz] at hk ⊢
    rw [if_pos hz]
    obtain ⟨x, h1, h3⟩ := unbindE_zero hz
    rcases h.at name with ⟨a, b⟩ | ⟨x', y, a, b, hm⟩
    · rw [h1] at a; cases a
    · rw [h1] at a; cases a
      have hf : foundAt y.bound (byt fn) = true := by rw [hm.has fn]; exact h3
      obtain ⟨d1, d2⟩ := del_sorted hm.basc hf
      have hdm : ∀ f, f ∈ delL id x.bound fn ↔ byt f ∈ delAt y.bound (byt fn) := by
        intro f
        rw [mem_del hm.basc hf, ← hm.bmem f]
        unfold delL
        rw [List.mem_filter]
        refine and_congr_right fun _ => ?_
        by_cases e : f = fn
        · subst e; simp
        · have : byt f ≠ byt fn := fun h => e (bs_inj h)
          simp [e, this]
      have hnd := (h.ok.all x (look_mem h1)).2.2.2.2
      have hdl : (delL id x.bound fn).length + 1 = x.bound.length := by
        have : delL id x.bound fn = x.bound.erase fn := by
          unfold delL
          rw [hnd.erase_eq_filter]
          exact List.filter_congr fun y _ => by simp [bne]
        rw [this, List.length_erase_of_mem (hasB_iff.1 h3)]
        have := List.length_pos_of_mem (hasB_iff.1 h3)
        omega
      refine h.upd h1 b (fun _ => rfl) rfl ⟨hm.name, hm.text, hm.prev, hm.rot, hm.til, hm.since, hm.ver, d1, ?_, hdm⟩ hk
      have := hm.blen
      show (delAt y.bound (byt fn)).length = (delL id x.bound fn).length
      omega
  · rw [if_neg hz, if_neg hz]; exact h
theorem Sim.rot {L : List S0} {M : List R0} (h : Sim L M) (name text : ByteArray) (g n : Int) : rrotE M name text g n = rotE L name text g n ∧ Sim (rotS L name text g n) (rrotS M name text g n) := by
  have hE : rrotE M name text g n = rotE L name text g n := by
    unfold rrotE rotE
    rcases h.at name with ⟨a, b⟩ | ⟨x, y, a, b, hm⟩
    · rw [a, b]
    · rw [a, b]
      simp only
      have hb := (h.ok.all x (look_mem a)).2.2.1
      rw [hm.since, hm.ver]
      by_cases h2 : 32 ≤ x.ver
      · have h3 : x.ver = 32 := by omega
        rw [if_pos h2, if_pos h3]
      · have h3 : ¬ x.ver = 32 := by omega
        rw [if_neg h2, if_neg h3]
  refine ⟨hE, ?_⟩
  unfold rrotS rotS
  rw [hE]
  by_cases hz : (rotE L name text g n).2 = 0
  · have hk := h.ok.rot name text g n
    unfold rotS at hk
    rw [if_pos hz] at hk ⊢
    rw [if_pos hz]
    obtain ⟨x, h1, _⟩ := rotE_zero hz
    rcases h.at name with ⟨a, b⟩ | ⟨x', y, a, b, hm⟩
    · rw [h1] at a; cases a
    · rw [h1] at a; cases a
      have hv := (h.ok.all x (look_mem h1)).2.1
      refine h.upd h1 b (fun _ => rfl) rfl ⟨hm.name, rfl, hm.text, ?_, rfl, rfl, ?_, hm.basc, hm.blen, hm.bmem⟩ hk
      · show true = decide (1 < x.ver + 1)
        have : 1 < x.ver + 1 := by omega
        simp [this]
      · simp [rrotF, rotF, hm.ver]
  · rw [if_neg hz, if_neg hz]; exact h

/-! the questions -/
def rreadS (M : List R0) (name fn : ByteArray) : ByteArray × Int × Int := match rlk M name with | none => (em, 0, 5) | some x => if foundAt x.bound (byt fn) = true then (x.text, x.ver, 0) else (em, 0, 12)
def raccB (M : List R0) (name text : ByteArray) (now : Int) : Bool := match rlk M name with | none => false | some x => text == x.text || (x.rot && text == x.prev && decide (now ≤ x.til))
def rnamesS (M : List R0) (fn : ByteArray) : List Bs := (M.filter fun x => foundAt x.bound (byt fn)).map fun x => byt x.name
theorem Sim.read {L : List S0} {M : List R0} (h : Sim L M) (name fn : ByteArray) : rreadS M name fn = readS L name fn := by
  unfold rreadS readS
  rcases h.at name with ⟨a, b⟩ | ⟨x, y, a, b, hm⟩
  · rw [a, b]
  · rw [a, b]
    simp only
    rw [hm.has fn, hm.text, hm.ver]
theorem Sim.acc {L : List S0} {M : List R0} (h : Sim L M) (name text : ByteArray) (now : Int) : raccB M name text now = accB L name text now := by
  unfold raccB accB
  rcases h.at name with ⟨a, b⟩ | ⟨x, y, a, b, hm⟩
  · rw [a, b]
  · rw [a, b]
    simp only
    rw [hm.text, hm.prev, hm.rot, hm.til]
theorem Sim.red {L : List S0} {M : List R0} (h : Sim L M) (s : ByteArray) : rredS M s = redS L s := by
  unfold rredS redS
  rw [red_same (us := texts L) (fun t _ => ?_) _ (byt s) (Nat.le_refl _)]
  unfold rtexts texts
  simp only [List.mem_flatMap, List.mem_cons, List.not_mem_nil, or_false]
  constructor
  · rintro ⟨y, hy, ht⟩
    obtain ⟨x, hx, hm⟩ := h.bwd y hy
    exact ⟨x, hx, by rw [← hm.text, ← hm.prev]; exact ht⟩
  · rintro ⟨x, hx, ht⟩
    obtain ⟨y, hy, hm⟩ := h.fwd x hx
    exact ⟨y, hy, by rw [hm.text, hm.prev]; exact ht⟩
theorem asc_ext : ∀ (l m : List Bs), Asc l → Asc m → (∀ a, a ∈ l ↔ a ∈ m) → l = m
  | [], [], _, _, _ => rfl
  | [], z :: m, _, _, h => absurd ((h z).2 (by simp)) (by simp)
  | z :: l, [], _, _, h => absurd ((h z).1 (by simp)) (by simp)
  | z :: l, u :: m, h1, h2, h => by
    obtain ⟨a1, a2⟩ := List.pairwise_cons.1 h1
    obtain ⟨b1, b2⟩ := List.pairwise_cons.1 h2
    have e : z = u := by
      rcases List.mem_cons.1 ((h z).1 (by simp)) with e | e
      · exact e
      · rcases List.mem_cons.1 ((h u).2 (by simp)) with e2 | e2
        · exact e2.symm
        · exact absurd (List.lt_trans (b1 z e) (a1 u e2)) (List.lt_irrefl u)
    subst e
    rw [asc_ext l m a2 b2 (fun a => ?_)]
    constructor
    · intro ha
      rcases List.mem_cons.1 ((h a).1 (by simp [ha])) with e | e
      · subst e; exact absurd (a1 a ha) (List.lt_irrefl a)
      · exact e
    · intro ha
      rcases List.mem_cons.1 ((h a).2 (by simp [ha])) with e | e
      · subst e; exact absurd (b1 a ha) (List.lt_irrefl a)
      · exact e
theorem Sim.names {L : List S0} {M : List R0} (h : Sim L M) (fn : ByteArray) : rnamesS M fn = namesS L fn := by
  refine asc_ext _ _ ?_ (namesS_sorted h.ok fn) fun a => ?_
  · have hs := h.asc
    unfold rnamesS
    unfold rnms at hs
    exact hs.sublist (List.Sublist.map _ List.filter_sublist)
  · obtain ⟨k, rfl⟩ : ∃ k : ByteArray, a = byt k := ⟨⟨a.toArray⟩, by simp [byt]⟩
    rw [namesS_mem]
    unfold rnamesS
    rw [List.mem_map]
    constructor
    · rintro ⟨y, hy, e⟩
      obtain ⟨h1, h2⟩ := List.mem_filter.1 hy
      obtain ⟨x, hx, hm⟩ := h.bwd y h1
      refine ⟨x, ?_, by rw [← hm.has]; exact h2⟩
      rw [← bs_inj e, hm.name]
      exact look_of h.ok.nd hx
    · rintro ⟨x, hx, hh⟩
      obtain ⟨y, hy, hm⟩ := h.fwd x (look_mem hx)
      exact ⟨y, List.mem_filter.2 ⟨hy, by rw [hm.has]; exact hh⟩, by rw [hm.name, look_key hx]⟩

/-! a step -/
def rstepS (L : List R0) (x : OpD) : List R0 := if x.kind = 0 then rputS L x.name x.text else if x.kind = 1 then rbindS L x.name x.fn else if x.kind = 2 then runbindS L x.name x.fn else if x.kind = 3 then rrotS L x.name x.text x.grace x.now else L
def rstepR (L : List R0) (x : OpD) : Int × Int := if x.kind = 0 then (0, rputE L x.name x.text) else if x.kind = 1 then (0, rbindE L x.name x.fn) else if x.kind = 2 then (0, runbindE L x.name x.fn) else if x.kind = 3 then rrotE L x.name x.text x.grace x.now else (0, 0)
theorem Sim.step {L : List S0} {M : List R0} (h : Sim L M) (x : OpD) : rstepR M x = stepR L x ∧ Sim (stepS L x) (rstepS M x) := by
  unfold rstepR stepR rstepS stepS
  by_cases k0 : x.kind = 0
  · simp only [if_pos k0]
    obtain ⟨a, b⟩ := h.put x.name x.text
    exact ⟨by rw [a], b⟩
  simp only [if_neg k0]
  by_cases k1 : x.kind = 1
  · simp only [if_pos k1]
    obtain ⟨a, b⟩ := h.bind x.name x.fn
    exact ⟨by rw [a], b⟩
  simp only [if_neg k1]
  by_cases k2 : x.kind = 2
  · simp only [if_pos k2]
    obtain ⟨a, b⟩ := h.unbind x.name x.fn
    exact ⟨by rw [a], b⟩
  simp only [if_neg k2]
  by_cases k3 : x.kind = 3
  · simp only [if_pos k3]
    exact h.rot x.name x.text x.grace x.now
  simp only [if_neg k3]
  exact ⟨trivial, h⟩
def rplayS (l : List OpD) : List R0 := l.foldl rstepS []
theorem rplay_step (l : List OpD) (k : Nat) (hk : k < l.length) : rplayS (l.take (k + 1)) = rstepS (rplayS (l.take k)) l[k] := by
  unfold rplayS
  rw [List.take_succ_eq_append_getElem hk, List.foldl_append]; rfl
theorem sim_play (l : List OpD) : Sim (playS l) (rplayS l) := by
  have : ∀ (l : List OpD) (L : List S0) (M : List R0), Sim L M → Sim (l.foldl stepS L) (l.foldl rstepS M) := by
    intro l
    induction l with
    | nil => intro L M h; exact h
    | cons x l ih => intro L M h; exact ih _ _ (h.step x).2
  exact this l [] [] Sim.nil
/-- What the reference's calls need. -/
theorem Sim.secs {L : List S0} {l : List RSec} (h : Sim L (l.map RSec.s)) : l.length ≤ 4096 ∧ (∀ x ∈ l, x.s.bound.length ≤ 4096) ∧ ∀ x ∈ l, 0 ≤ x.s.ver ∧ x.s.ver ≤ 32 := by
  have hl := h.len
  have hk := h.ok.len
  rw [List.length_map] at hl
  refine ⟨by omega, fun x hx => ?_, fun x hx => ?_⟩
  all_goals
    obtain ⟨y, hy, hm⟩ := h.bwd x.s (List.mem_map.2 ⟨x, hx, rfl⟩)
    have := h.ok.all y hy
    have h1 := hm.blen
    have h2 := hm.ver
    omega
end Go.Proofs.Ytldilefhmpipkaa
