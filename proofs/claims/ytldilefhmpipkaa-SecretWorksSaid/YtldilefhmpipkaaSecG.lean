/- Chapter 22: contracts: done, played, small, contains. No condition. -/
import Derived.Test.YtldilefhmpipkaaSecR
namespace Go.Proofs.Ytldilefhmpipkaa
set_option linter.unusedVariables false
set_option linter.unusedSimpArgs false
open Go.RowKit Go.ChangeShapes Go.WideShapes
open Go.ChangeMaps (open_string)

structure OpD where
  kind : Int
  name : ByteArray
  text : ByteArray
  fn : ByteArray
  grace : Int
  now : Int
def oCells (x : OpD) : List Value := [.int .i64 x.kind, .string x.name, .string x.text, .string x.fn, .int .i64 x.grace, .int .i64 x.now]
def OpD.good (x : OpD) : Prop := (Lit.int .i64 x.kind).wf = true ∧ x.name.size ≤ maxLen ∧ x.text.size ≤ maxLen ∧ x.fn.size ≤ maxLen ∧ (Lit.int .i64 x.grace).wf = true ∧ (Lit.int .i64 x.now).wf = true
theorem oCells_len (x : OpD) : (oCells x).length = 6 := rfl
theorem oCells_one (x : OpD) : ∀ u ∈ oCells x, u.oneCell' = true := by intro u hu; simp [oCells] at hu; rcases hu with rfl | rfl | rfl | rfl | rfl | rfl <;> rfl
theorem dec_OpD {H : Type} {enc : TypeId × Value → H} {w : World} {base : Nat} {spare : Nat → Bool} {held : Bool} {fs : Array Field} (hfs : Try.prog.underlying 33 = some (.struct fs)) (f : Nat → Value)
    (h : ∀ (j : Nat) (fd : Field), fs[j]? = some fd → ∃ (y : DataW H × List MemPlace) (n : Nat), DataW.trod enc Try.prog w base spare held n fd.type [f j] = some y) : ∃ x : OpD, x.good ∧ ∀ j, j < fs.size → (oCells x)[j]? = some (f j) := by
  rw [Try.underlying33] at hfs
  cases hfs
  obtain ⟨y0, n0, h0⟩ := h 0 _ rfl
  obtain ⟨a0, e0, _, w0⟩ := DataW.trod_int Try.underlying3 h0
  obtain ⟨y1, n1, h1⟩ := h 1 _ rfl
  obtain ⟨a1, e1, _, w1⟩ := DataW.trod_string Try.underlying9 h1
  obtain ⟨y2, n2, h2⟩ := h 2 _ rfl
  obtain ⟨a2, e2, _, w2⟩ := DataW.trod_string Try.underlying9 h2
  obtain ⟨y3, n3, h3⟩ := h 3 _ rfl
  obtain ⟨a3, e3, _, w3⟩ := DataW.trod_string Try.underlying9 h3
  obtain ⟨y4, n4, h4⟩ := h 4 _ rfl
  obtain ⟨a4, e4, _, w4⟩ := DataW.trod_int Try.underlying3 h4
  obtain ⟨y5, n5, h5⟩ := h 5 _ rfl
  obtain ⟨a5, e5, _, w5⟩ := DataW.trod_int Try.underlying3 h5
  simp only [List.cons.injEq, and_true] at e0 e1 e2 e3 e4 e5
  refine ⟨⟨a0, a1, a2, a3, a4, a5⟩, ⟨w0, w1, w2, w3, w4, w5⟩, fun j hj => ?_⟩
  match j, hj with
  | 0, _ => simp [oCells, e0]
  | 1, _ => simp [oCells, e1]
  | 2, _ => simp [oCells, e2]
  | 3, _ => simp [oCells, e3]
  | 4, _ => simp [oCells, e4]
  | 5, _ => simp [oCells, e5]
set_option maxRecDepth 100000 in
theorem open_OpD {H : Type} {enc : TypeId × Value → H} {w : World} {base : Nat} {spare : Nat → Bool} {held : Bool} {r : Reach} {b0 : Nat} {v : Value} {d : DataW H} {ps : List MemPlace}
    (hv : Value.okWide Try.prog w r b0 33 v) (h : DataW.Trod enc Try.prog w base spare held 33 v d ps) : ∃ x : OpD, v = .agg (oCells x).toArray ∧ x.good :=
  open_st oCells OpD.good Try.underlying33 (by kernel_rfl) (by kernel_rfl) (fun _ => rfl) (dec_OpD Try.underlying33) hv h
set_option maxRecDepth 100000 in
theorem opens_OpD {H : Type} {enc : TypeId × Value → H} {w : World} {base : Nat} {spare : Nat → Bool} {held : Bool} {a : Option Addr} {len cap : Nat} {d : DataW H} {ps : List MemPlace}
    (h : DataW.Trod enc Try.prog w base spare held 22 (.slice a len cap) d ps) : ∃ l : List OpD, SlIs oCells 6 w a len l ∧ (∀ x ∈ l, x.good) ∧ len ≤ maxLen ∧ len ≤ cap := by
  obtain ⟨l, h1, h2, h3⟩ := open_sl oCells OpD.good Try.underlying22 Try.underlying33 (by kernel_rfl) (by kernel_rfl) (by decide) (fun _ => rfl) (dec_OpD Try.underlying33) h
  exact ⟨l, h1, h2, h3, trod_cap Try.underlying22 h⟩

def okOp (x : OpD) : Bool := decide (x.name.size ≤ 300) && decide (x.text.size ≤ 300) && decide (x.fn.size ≤ 300)
def smallL (l : List OpD) : Bool := l.all fun x => decide (l.length ≤ 300) && okOp x
theorem smallL_bad {l : List OpD} {k : Nat} (hk : k < l.length) {x : OpD} (hx : x = l[k]) (hb : 300 < l.length ∨ okOp x = false) : smallL l = false := by
  unfold smallL
  rw [List.all_eq_false]
  refine ⟨l[k], List.getElem_mem hk, ?_⟩
  rw [← hx]
  rcases hb with h | h
  · have : decide (l.length ≤ 300) = false := by simp; omega
    simp [this]
  · simp [h]

set_option maxHeartbeats 4000000 in
set_option maxRecDepth 100000 in
theorem smallF_any (a : Option Addr) (len cap : Nat) (l : List OpD) (w : World) (h : SlIs oCells 6 w a len l) (hg : ∀ x ∈ l, x.good) (hm : len ≤ maxLen) : Calls Try.prog 9 #[.slice a len cap] w fun e w' => e = .returned (.bool (smallL l)) ∧ w = w' := by
  obtain ⟨hl, hcell⟩ := h
  have Hcell := Lib.hid hcell
  have Hg := Lib.hid hg
  have Hl := Lib.hid hl
  unfold maxLen at hm
  clear hcell hg
  obtain ⟨R, hR⟩ : ∃ R, R = smallL l := ⟨_, rfl⟩
  rw [← hR]
  have HR := Lib.hid hR
  clear hR hl
  go_enter Try.func9, Try.ntmps9
  go_wp2_with fail
  go_loop [2, 6] (fun r i => ∃ k : Nat, i = .int .i64 k ∧ k ≤ len ∧ r = .bool false ∧ Hid (∀ i (h : i < l.length), i < k → l.length ≤ 300 ∧ okOp l[i] = true)) (fun _ i => len - (intOf i).toNat)
  case atStart => exact ⟨0, rfl, Nat.zero_le _, rfl, Lib.hid (fun i _ h => absurd h (Nat.not_lt_zero i))⟩
  case round =>
    obtain ⟨k, rfl, hkl, rfl, Hall⟩ := hrel
    by_cases hlt : k < len
    · have hk2 : k < l.length := by rw [Hl.out]; exact hlt
      obtain ⟨b, off, rfl, hb, hcc⟩ := Hcell.out k hk2
      obtain ⟨x, hx⟩ : ∃ x, x = l[k] := ⟨_, rfl⟩
      rw [← hx] at hcc
      have Hx := Lib.hid hx
      obtain ⟨_, g1, g2, g3, _⟩ := Hg.out x (hx ▸ List.getElem_mem hk2)
      have d1 := hcc 1 (by omega)
      have d2 := hcc 2 (by omega)
      have d3 := hcc 3 (by omega)
      simp only [oCells, List.getElem?_cons_zero, List.getElem?_cons_succ] at d1 d2 d3
      unfold maxLen at g1 g2 g3
      have hcs : ((300 : Int) < (len : Int) ∧ Hid (R = false)) ∨ ((len : Int) ≤ 300 ∧ (300 : Int) < (x.name.size : Int) ∧ Hid (R = false)) ∨ ((len : Int) ≤ 300 ∧ (x.name.size : Int) ≤ 300 ∧ (300 : Int) < (x.text.size : Int) ∧ Hid (R = false)) ∨ ((len : Int) ≤ 300 ∧ (x.name.size : Int) ≤ 300 ∧ (x.text.size : Int) ≤ 300 ∧ (300 : Int) < (x.fn.size : Int) ∧ Hid (R = false)) ∨ ((len : Int) ≤ 300 ∧ (x.name.size : Int) ≤ 300 ∧ (x.text.size : Int) ≤ 300 ∧ (x.fn.size : Int) ≤ 300 ∧ Hid (∀ i (h : i < l.length), i < k + 1 → l.length ≤ 300 ∧ okOp l[i] = true)) := by
        have hno : (300 < l.length ∨ okOp x = false) → R = false := fun h => HR.out.trans (smallL_bad hk2 hx h)
        have hll := Hl.out
        by_cases e0 : (len : Int) ≤ 300
        · by_cases e1 : (x.name.size : Int) ≤ 300
          · by_cases e2 : (x.text.size : Int) ≤ 300
            · by_cases e3 : (x.fn.size : Int) ≤ 300
              · refine .inr (.inr (.inr (.inr ⟨e0, e1, e2, e3, Lib.hid (fun i hi hik => ?_)⟩)))
                by_cases e : i = k
                · subst e
                  refine ⟨by omega, ?_⟩
                  rw [← hx]
                  simp [okOp]; omega
                · exact Hall.out i hi (by omega)
              · exact .inr (.inr (.inr (.inl ⟨e0, e1, e2, by omega, Lib.hid (hno (.inr (by simp [okOp]; omega)))⟩)))
            · exact .inr (.inr (.inl ⟨e0, e1, by omega, Lib.hid (hno (.inr (by simp [okOp]; omega)))⟩))
          · exact .inr (.inl ⟨e0, by omega, Lib.hid (hno (.inr (by simp [okOp]; omega)))⟩)
        · exact .inl ⟨by omega, Lib.hid (hno (.inl (by omega)))⟩
      have hk0 : (0 : Int) ≤ (k : Int) := by omega
      have hk1 : (k : Int) < (len : Int) := by omega
      clear hcc hx
      rcases hcs with ⟨e0, E⟩ | ⟨e0, e1, E⟩ | ⟨e0, e1, e2, E⟩ | ⟨e0, e1, e2, e3, E⟩ | ⟨e0, e1, e2, e3, E⟩
      iterate 4
        · go_wp2_with fail
          go_ret
          exact ⟨by rw [E.out]; rfl, rfl⟩
      · go_wp2_with fail
        exact ⟨⟨k + 1, by go_num, by omega, rfl, E⟩, by simp [intOf]; omega⟩
    · have hR : Hid (R = true) := Lib.hid (by
        rw [HR.out]
        unfold smallL
        rw [List.all_eq_true]
        intro x hx
        obtain ⟨i, hi, rfl⟩ := List.mem_iff_getElem.1 hx
        have := Hall.out i hi (by have := Hl.out; omega)
        simp [this.1, this.2])
      go_wp2_with fail
      go_ret
      exact ⟨by rw [hR.out]; rfl, rfl⟩

def stepS (L : List S0) (x : OpD) : List S0 := if x.kind = 0 then putS L x.name x.text else if x.kind = 1 then bindS L x.name x.fn else if x.kind = 2 then unbindS L x.name x.fn else if x.kind = 3 then rotS L x.name x.text x.grace x.now else L
def stepR (L : List S0) (x : OpD) : Int × Int := if x.kind = 0 then (0, putE L x.name x.text) else if x.kind = 1 then (0, bindE L x.name x.fn) else if x.kind = 2 then (0, unbindE L x.name x.fn) else if x.kind = 3 then rotE L x.name x.text x.grace x.now else (0, 0)
theorem SOk.step {L : List S0} (h : SOk L) (x : OpD) : SOk (stepS L x) := by
  unfold stepS
  split
  · exact h.put _ _
  · split
    · exact h.bind _ _
    · split
      · exact h.unbind _ _
      · split
        · exact h.rot _ _ _ _
        · exact h
theorem mem_s {l : List Sec} {x : Sec} (h : x ∈ l) : x.s ∈ l.map Sec.s := List.mem_map.2 ⟨x, h, rfl⟩
theorem SOk.secs {l : List Sec} (h : SOk (l.map Sec.s)) : l.length ≤ 4096 ∧ (∀ x ∈ l, x.s.bound.length ≤ 4096) ∧ ∀ x ∈ l, 0 ≤ x.s.ver := by
  refine ⟨by have := h.len; simp at this; omega, fun x hx => by have := (h.all _ (mem_s hx)).1; omega, fun x hx => by have := (h.all _ (mem_s hx)).2.1; omega⟩
theorem VPost.ahead {w0 w w' : World} {vb mb : Nat} {l : List Sec} {v : Value} {L' : List S0} {e : Ending} (h : VPost w vb mb l v L' e w') (hc : Chg [] w0 w) : VPost w0 vb mb l v L' e w' := by
  obtain ⟨h1, l', h2, h3, h4, h5⟩ := h
  exact ⟨h1, l', h2, h3, (hc.mono (T := fp vb mb l) (by simp)).thenSame h4, fun b hb => (h5 b hb).imp id (fun h => Nat.le_trans hc.size h)⟩

set_option maxHeartbeats 4000000 in
set_option maxRecDepth 100000 in
theorem done_any (vb mb : Nat) (l : List Sec) (x : OpD) (w : World) (h : VIs w vb mb l) (hk : SOk (l.map Sec.s)) (hx : x.good) :
    Calls Try.prog 21 #[.pointer (some ⟨vb, 0, none⟩), .agg #[.int .i64 x.kind, .string x.name, .string x.text, .string x.fn, .int .i64 x.grace, .int .i64 x.now]] w (VPost w vb mb l (.tuple #[.int .i64 (stepR (l.map Sec.s) x).1, .int .i64 (stepR (l.map Sec.s) x).2]) (stepS (l.map Sec.s) x)) := by
  obtain ⟨kd, nm, tx, fn, gr, nw⟩ := x
  simp only [] at *
  obtain ⟨s1, s2, s3⟩ := hk.secs
  obtain ⟨_, g1, g2, g3, _⟩ := hx
  have hc0 : Chg [] w (w.alloc (.cells #[.int .i64 kd, .string nm, .string tx, .string fn, .int .i64 gr, .int .i64 nw] 33)) := (Chg.refl _ _).alloc _
  have C0 := Lib.hid hc0
  have H0 := Lib.hid (h.keptN hc0)
  have A1 := Lib.hid (put_any vb mb l nm tx _ H0.out g1 g2 s1)
  have A2 := Lib.hid (bind_any vb mb l nm fn _ H0.out g3 s2)
  have A3 := Lib.hid (unbind_any vb mb l nm fn _ H0.out)
  have A4 := Lib.hid (rot_any vb mb l nm tx gr nw _ H0.out g2 s3)
  obtain ⟨R, hR⟩ : ∃ R, R = stepR (l.map Sec.s) ⟨kd, nm, tx, fn, gr, nw⟩ := ⟨_, rfl⟩
  obtain ⟨L', hL⟩ : ∃ L', L' = stepS (l.map Sec.s) ⟨kd, nm, tx, fn, gr, nw⟩ := ⟨_, rfl⟩
  rw [← hR, ← hL]
  unfold stepR at hR
  unfold stepS at hL
  simp only [] at hR hL
  clear s1 s2 s3 g1 g2 g3 hc0
  by_cases k0 : kd = 0
  · rw [if_pos k0] at hR hL
    subst k0
    have HR := Lib.hid hR
    have HL := Lib.hid hL
    clear hR hL A2 A3 A4
    go_enter Try.func21, Try.ntmps21
    go_wp2_with fail
    refine A1.out.mono ?_; rintro e w1 hp
    have HP := Lib.hid (hp.ahead C0.out)
    obtain ⟨rfl, _⟩ := hp
    go_wp2_with fail
    go_ret2
    rw [HR.out, HL.out]
    exact ⟨rfl, HP.out.2⟩
  rw [if_neg k0] at hR hL
  have b0 : (kd == 0) = false := by simpa using k0
  by_cases k1 : kd = 1
  · rw [if_pos k1] at hR hL
    subst k1
    have HR := Lib.hid hR
    have HL := Lib.hid hL
    clear hR hL A1 A3 A4
    go_enter Try.func21, Try.ntmps21
    go_wp2_with fail
    refine A2.out.mono ?_; rintro e w1 hp
    have HP := Lib.hid (hp.ahead C0.out)
    obtain ⟨rfl, _⟩ := hp
    go_wp2_with fail
    go_ret2
    rw [HR.out, HL.out]
    exact ⟨rfl, HP.out.2⟩
  rw [if_neg k1] at hR hL
  have b1 : (kd == 1) = false := by simpa using k1
  by_cases k2 : kd = 2
  · rw [if_pos k2] at hR hL
    subst k2
    have HR := Lib.hid hR
    have HL := Lib.hid hL
    clear hR hL A1 A2 A4
    go_enter Try.func21, Try.ntmps21
    go_wp2_with fail
    refine A3.out.mono ?_; rintro e w1 hp
    have HP := Lib.hid (hp.ahead C0.out)
    obtain ⟨rfl, _⟩ := hp
    go_wp2_with fail
    go_ret2
    rw [HR.out, HL.out]
    exact ⟨rfl, HP.out.2⟩
  rw [if_neg k2] at hR hL
  have b2 : (kd == 2) = false := by simpa using k2
  by_cases k3 : kd = 3
  · rw [if_pos k3] at hR hL
    subst k3
    rw [← hR] at A4
    have HL := Lib.hid hL
    obtain ⟨r1, r2⟩ := R
    clear hR hL A1 A2 A3
    go_enter Try.func21, Try.ntmps21
    go_wp2_with fail
    refine A4.out.mono ?_; rintro e w1 hp
    have HP := Lib.hid (hp.ahead C0.out)
    obtain ⟨rfl, _⟩ := hp
    go_wp2_with fail
    go_ret2
    rw [HL.out]
    exact ⟨rfl, HP.out.2⟩
  rw [if_neg k3] at hR hL
  have b3 : (kd == 3) = false := by simpa using k3
  subst hR hL
  clear A1 A2 A3 A4 k0 k1 k2 k3
  go_enter Try.func21, Try.ntmps21
  go_wp2_with fail
  go_ret2
  exact VPost.same rfl h C0.out

def playS (l : List OpD) : List S0 := l.foldl stepS []
theorem play_step (l : List OpD) (k : Nat) (hk : k < l.length) : playS (l.take (k + 1)) = stepS (playS (l.take k)) l[k] := by
  unfold playS
  rw [List.take_succ_eq_append_getElem hk, List.foldl_append]; rfl
theorem play_ok (l : List OpD) : SOk (playS l) := by
  have : ∀ (l : List OpD) (L : List S0), SOk L → SOk (l.foldl stepS L) := by
    intro l
    induction l with
    | nil => intro L h; exact h
    | cons x l ih => intro L h; exact ih _ (h.step x)
  exact this l [] SOk.nil

/-- A vault of the call's own: it lies in new blocks alone. -/
def Own (B : Nat) (w : World) (vb : Nat) (L : List S0) : Prop := ∃ mb l, l.map Sec.s = L ∧ VIs w vb mb l ∧ ∀ b ∈ fp vb mb l, B ≤ b
theorem Own.keptN {B : Nat} {w w' : World} {vb : Nat} {L : List S0} (h : Own B w vb L) (hc : Chg [] w w') : Own B w' vb L := by
  obtain ⟨mb, l, h1, h2, h3⟩ := h; exact ⟨mb, l, h1, h2.keptN hc, h3⟩
/-- A call of a method on a vault of the caller's own. -/
theorem Own.post {W w w' : World} {vb mb : Nat} {l : List Sec} {v : Value} {L' : List S0} {e : Ending} (h : VPost w vb mb l v L' e w') (hB : ∀ b ∈ fp vb mb l, W.heap.size ≤ b) (hc : Chg [] W w) : e = .returned v ∧ Own W.heap.size w' vb L' ∧ Chg [] W w' := by
  obtain ⟨h1, l', h2, h3, h4, h5⟩ := h
  refine ⟨h1, ⟨mb, l', h2, h3, ?_⟩, hc.then h4 (by intro y hy hl; have := hB y hy; omega)⟩
  intro b hb
  simp only [fp, List.mem_cons] at hb
  rcases hb with rfl | rfl | hb
  · exact hB _ (by simp [fp])
  · exact hB _ (by simp [fp])
  · rcases h5 b hb with h | h
    · exact hB _ (by simp only [fp, List.mem_cons]; exact .inr (.inr h))
    · exact Nat.le_trans hc.size h

set_option maxHeartbeats 4000000 in
set_option maxRecDepth 100000 in
theorem played_any (a : Option Addr) (len cap : Nat) (l : List OpD) (w : World) (h : SlIs oCells 6 w a len l) (hg : ∀ x ∈ l, x.good) (hm : len ≤ maxLen) : Calls Try.prog 11 #[.slice a len cap] w fun e w' => ∃ vb, e = .returned (.pointer (some ⟨vb, 0, none⟩)) ∧ Own w.heap.size w' vb (playS l) ∧ Chg [] w w' := by
  have H := Lib.hid h
  have Hg := Lib.hid hg
  have Hl := Lib.hid h.1
  unfold maxLen at hm
  clear h hg
  go_enter Try.func11, Try.ntmps11
  go_wp2_with fail
  refine (new_any w).mono ?_; rintro e w1 ⟨vb, mb, rfl, hv, hvb, hmb, hc1⟩
  have C1 := Lib.hid hc1
  have O1 : Hid (Own w.heap.size w1 vb []) := Lib.hid ⟨mb, [], rfl, hv, by simp [fp, blks]; omega⟩
  clear hc1 hv hmb hvb
  go_wp2_with fail
  go_loopw [4] (fun i wr => ∃ k : Nat, i = .int .i64 k ∧ k ≤ len ∧ Own w.heap.size wr vb (playS (l.take k)) ∧ Chg [] w wr) (fun i _ => len - (intOf i).toNat)
  case atStart => exact ⟨0, rfl, Nat.zero_le _, O1.out, C1.out⟩
  case round =>
    obtain ⟨k, rfl, hkl, hown, hch⟩ := hrel
    have HC := Lib.hid hch
    have HO := Lib.hid hown
    clear hch
    by_cases hlt : k < len
    · have hk2 : k < l.length := by rw [Hl.out]; exact hlt
      obtain ⟨b, off, rfl, -, hbr, hcc⟩ := H.out.elem HC.out k hk2
      have hst := play_step l k hk2
      obtain ⟨x, hx⟩ : ∃ x, x = l[k] := ⟨_, rfl⟩
      have hxg := Hg.out x (hx ▸ List.getElem_mem hk2)
      rw [← hx] at hcc hst
      obtain ⟨mb2, l2, e2, V2, B2⟩ := hown
      have A := Lib.hid (done_any vb mb2 l2 x wr V2 (by rw [e2]; exact play_ok _) hxg)
      have Hst := Lib.hid hst
      have Hpost := Lib.hid (fun e w' h => Own.post (W := w) (e := e) (w' := w') (v := .tuple #[.int .i64 (stepR (l2.map Sec.s) x).1, .int .i64 (stepR (l2.map Sec.s) x).2]) (L' := stepS (l2.map Sec.s) x) h B2 HC.out)
      have E2 := Lib.hid e2
      have d0 := hcc 0 (by omega)
      have d1 := hcc 1 (by omega)
      have d2 := hcc 2 (by omega)
      have d3 := hcc 3 (by omega)
      have d4 := hcc 4 (by omega)
      have d5 := hcc 5 (by omega)
      simp only [oCells, List.getElem?_cons_zero, List.getElem?_cons_succ, Nat.add_zero] at d0 d1 d2 d3 d4 d5
      have hk0 : (0 : Int) ≤ (k : Int) := by omega
      have hk1 : (k : Int) < (len : Int) := by omega
      clear hcc hx hst V2 B2 e2 hxg
      go_wp2_with fail
      refine A.out.mono ?_; rintro e w2 hp
      obtain ⟨rfl, ho, hc2⟩ := Hpost.out _ _ hp
      have HO2 := Lib.hid ho
      have HC2 := Lib.hid hc2
      clear hp ho hc2
      go_wp2_with fail
      refine ⟨⟨k + 1, by go_num, by omega, ?_, HC2.out⟩, by simp [intOf]; omega⟩
      rw [Hst.out, ← E2.out]
      exact HO2.out
    · have ht : l.take k = l := List.take_of_length_le (by rw [Hl.out]; omega)
      rw [ht] at HO
      clear ht hown
      go_wp2_with fail
      go_ret
      exact ⟨vb, rfl, HO.out, HC.out⟩
end Go.Proofs.Ytldilefhmpipkaa
