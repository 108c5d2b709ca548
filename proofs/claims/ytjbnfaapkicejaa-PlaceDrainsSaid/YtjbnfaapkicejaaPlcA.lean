/- Chapter 43: workers and placements; the index of an element; memory. No condition. -/
import Derived.Test.YtjbnfaapkicejaaRown
import Derived.Test.YtjbnfaapkicejaaRId
import Derived.Test.YtjbnfaapkicejaaRNm
namespace Go.Proofs.Ytjbnfaapkicejaa
set_option linter.unusedVariables false
set_option linter.unusedSimpArgs false
open Go.RowKit Go.ChangeShapes Go.WideShapes
open Go.ChangeMaps (open_string)

structure Wk where
  name : ByteArray
  mem : Int
  dr : Bool
def wkC (x : Wk) : List Value := [.string x.name, .int .i64 x.mem, .bool x.dr]
def Wk.good (x : Wk) : Prop := x.name.size ≤ maxLen ∧ (Lit.int .i64 x.mem).wf = true
theorem wkC_len (x : Wk) : (wkC x).length = 3 := rfl
theorem wkC_one (x : Wk) : ∀ u ∈ wkC x, u.oneCell' = true := by intro u hu; simp [wkC] at hu; rcases hu with rfl | rfl | rfl <;> rfl
theorem dec_Wk {H : Type} {enc : TypeId × Value → H} {w : World} {base : Nat} {spare : Nat → Bool} {held : Bool} {fs : Array Field} (hfs : Try.prog.underlying 36 = some (.struct fs)) (f : Nat → Value)
    (h : ∀ (j : Nat) (fd : Field), fs[j]? = some fd → ∃ (y : DataW H × List MemPlace) (n : Nat), DataW.trod enc Try.prog w base spare held n fd.type [f j] = some y) : ∃ x : Wk, x.good ∧ ∀ j, j < fs.size → (wkC x)[j]? = some (f j) := by
  rw [Try.underlying36] at hfs
  cases hfs
  obtain ⟨y0, n0, h0⟩ := h 0 _ rfl
  obtain ⟨a0, e0, _, w0⟩ := DataW.trod_string Try.underlying9 h0
  obtain ⟨y1, n1, h1⟩ := h 1 _ rfl
  obtain ⟨a1, e1, _, w1⟩ := DataW.trod_int Try.underlying3 h1
  obtain ⟨y2, n2, h2⟩ := h 2 _ rfl
  obtain ⟨a2, e2, _⟩ := DataW.trod_bool Try.underlying4 h2
  simp only [List.cons.injEq, and_true] at e0 e1 e2
  refine ⟨⟨a0, a1, a2⟩, ⟨w0, w1⟩, fun j hj => ?_⟩
  match j, hj with
  | 0, _ => simp [wkC, e0]
  | 1, _ => simp [wkC, e1]
  | 2, _ => simp [wkC, e2]
set_option maxRecDepth 100000 in
theorem open_Wk {H : Type} {enc : TypeId × Value → H} {w : World} {base : Nat} {spare : Nat → Bool} {held : Bool} {r : Reach} {b0 : Nat} {v : Value} {d : DataW H} {ps : List MemPlace}
    (hv : Value.okWide Try.prog w r b0 36 v) (h : DataW.Trod enc Try.prog w base spare held 36 v d ps) : ∃ x : Wk, v = .agg (wkC x).toArray ∧ x.good :=
  open_st wkC Wk.good Try.underlying36 (by kernel_rfl) (by kernel_rfl) (fun _ => rfl) (dec_Wk Try.underlying36) hv h
set_option maxRecDepth 100000 in
theorem opens_Wk {H : Type} {enc : TypeId × Value → H} {w : World} {base : Nat} {spare : Nat → Bool} {held : Bool} {a : Option Addr} {len cap : Nat} {d : DataW H} {ps : List MemPlace}
    (h : DataW.Trod enc Try.prog w base spare held 22 (.slice a len cap) d ps) : ∃ l : List Wk, SlIs wkC 3 w a len l ∧ (∀ x ∈ l, x.good) ∧ len ≤ maxLen ∧ len ≤ cap := by
  obtain ⟨l, h1, h2, h3⟩ := open_sl wkC Wk.good Try.underlying22 Try.underlying36 (by kernel_rfl) (by kernel_rfl) (by decide) (fun _ => rfl) (dec_Wk Try.underlying36) h
  exact ⟨l, h1, h2, h3, trod_cap Try.underlying22 h⟩
structure Pl where
  id : ByteArray
  tn : ByteArray
  mem : Int
  wk : ByteArray
def plC (x : Pl) : List Value := [.string x.id, .string x.tn, .int .i64 x.mem, .string x.wk]
def Pl.good (x : Pl) : Prop := x.id.size ≤ maxLen ∧ x.tn.size ≤ maxLen ∧ (Lit.int .i64 x.mem).wf = true ∧ x.wk.size ≤ maxLen
theorem plC_len (x : Pl) : (plC x).length = 4 := rfl
theorem plC_one (x : Pl) : ∀ u ∈ plC x, u.oneCell' = true := by intro u hu; simp [plC] at hu; rcases hu with rfl | rfl | rfl | rfl <;> rfl
theorem dec_Pl {H : Type} {enc : TypeId × Value → H} {w : World} {base : Nat} {spare : Nat → Bool} {held : Bool} {fs : Array Field} (hfs : Try.prog.underlying 25 = some (.struct fs)) (f : Nat → Value)
    (h : ∀ (j : Nat) (fd : Field), fs[j]? = some fd → ∃ (y : DataW H × List MemPlace) (n : Nat), DataW.trod enc Try.prog w base spare held n fd.type [f j] = some y) : ∃ x : Pl, x.good ∧ ∀ j, j < fs.size → (plC x)[j]? = some (f j) := by
  rw [Try.underlying25] at hfs
  cases hfs
  obtain ⟨y0, n0, h0⟩ := h 0 _ rfl
  obtain ⟨a0, e0, _, w0⟩ := DataW.trod_string Try.underlying9 h0
  obtain ⟨y1, n1, h1⟩ := h 1 _ rfl
  obtain ⟨a1, e1, _, w1⟩ := DataW.trod_string Try.underlying9 h1
  obtain ⟨y2, n2, h2⟩ := h 2 _ rfl
  obtain ⟨a2, e2, _, w2⟩ := DataW.trod_int Try.underlying3 h2
  obtain ⟨y3, n3, h3⟩ := h 3 _ rfl
  obtain ⟨a3, e3, _, w3⟩ := DataW.trod_string Try.underlying9 h3
  simp only [List.cons.injEq, and_true] at e0 e1 e2 e3
  refine ⟨⟨a0, a1, a2, a3⟩, ⟨w0, w1, w2, w3⟩, fun j hj => ?_⟩
  match j, hj with
  | 0, _ => simp [plC, e0]
  | 1, _ => simp [plC, e1]
  | 2, _ => simp [plC, e2]
  | 3, _ => simp [plC, e3]
set_option maxRecDepth 100000 in
theorem open_Pl {H : Type} {enc : TypeId × Value → H} {w : World} {base : Nat} {spare : Nat → Bool} {held : Bool} {r : Reach} {b0 : Nat} {v : Value} {d : DataW H} {ps : List MemPlace}
    (hv : Value.okWide Try.prog w r b0 25 v) (h : DataW.Trod enc Try.prog w base spare held 25 v d ps) : ∃ x : Pl, v = .agg (plC x).toArray ∧ x.good :=
  open_st plC Pl.good Try.underlying25 (by kernel_rfl) (by kernel_rfl) (fun _ => rfl) (dec_Pl Try.underlying25) hv h
set_option maxRecDepth 100000 in
theorem opens_Pl {H : Type} {enc : TypeId × Value → H} {w : World} {base : Nat} {spare : Nat → Bool} {held : Bool} {a : Option Addr} {len cap : Nat} {d : DataW H} {ps : List MemPlace}
    (h : DataW.Trod enc Try.prog w base spare held 23 (.slice a len cap) d ps) : ∃ l : List Pl, SlIs plC 4 w a len l ∧ (∀ x ∈ l, x.good) ∧ len ≤ maxLen ∧ len ≤ cap := by
  obtain ⟨l, h1, h2, h3⟩ := open_sl plC Pl.good Try.underlying23 Try.underlying25 (by kernel_rfl) (by kernel_rfl) (by decide) (fun _ => rfl) (dec_Pl Try.underlying25) h
  exact ⟨l, h1, h2, h3, trod_cap Try.underlying23 h⟩
def wkV (x : Wk) : Value := .agg #[.string x.name, .int .i64 x.mem, .bool x.dr]
def plV (x : Pl) : Value := .agg #[.string x.id, .string x.tn, .int .i64 x.mem, .string x.wk]

def memB (n : Int) : Bool := decide (1 ≤ n) && decide (n ≤ 1000000000)
theorem memory_any (n : Int) (w : World) : Calls Try.prog 38 #[.int .i64 n] w fun e w' => e = .returned (.bool (memB n)) ∧ w = w' := by
  by_cases h1 : 1 ≤ n
  · go_enter Try.func38, Try.ntmps38
    go_wp2
    go_ret
    exact ⟨by simp [memB, h1], rfl⟩
  · go_enter Try.func38, Try.ntmps38
    go_wp2
    go_ret
    exact ⟨by simp [memB, h1]; try omega, rfl⟩
/-- The index of the first element that meets a condition, or -1. -/
def idxOf {α : Type} (f : α → Bool) (l : List α) : Int := match l.findIdx? f with | some i => (i : Int) | none => -1
theorem idx_hit {α : Type} {f : α → Bool} {l : List α} {k : Nat} (hk : k < l.length) (h : (l.take k).any f = false) (hf : f l[k] = true) : idxOf f l = (k : Int) := by
  have : l.findIdx? f = some k := by
    rw [List.findIdx?_eq_some_iff_getElem]
    refine ⟨hk, hf, fun j hj => ?_⟩
    have := List.any_eq_false.1 h l[j] (by
      rw [List.mem_take_iff_getElem]
      exact ⟨j, by omega, rfl⟩)
    simpa using this
  unfold idxOf; rw [this]
theorem idx_miss {α : Type} {f : α → Bool} {l : List α} (h : l.any f = false) : idxOf f l = -1 := by
  have : l.findIdx? f = none := by
    rw [List.findIdx?_eq_none_iff]
    intro x hx
    simpa using List.any_eq_false.1 h x hx
  unfold idxOf; rw [this]
theorem any_step {α : Type} (f : α → Bool) (l : List α) (k : Nat) (h : k < l.length) : (l.take (k + 1)).any f = ((l.take k).any f || f l[k]) := by
  rw [List.take_succ_eq_append_getElem h, List.any_append]; simp

theorem workerf_any (x : Wk) (t : Nat) (s : ByteArray) (w : World) (h : w.cell? ⟨t, 0, none⟩ = some (.string s)) (l : t < w.heap.size) : Calls Try.prog 62 #[wkV x, .pointer (some ⟨t, 0, none⟩)] w fun e w' => e = .returned (.bool (x.name == s)) ∧ Chg [] w w' := by
  rw [beq_toListBytes]
  unfold wkV
  go_enter Try.func62, Try.ntmps62
  go_wp2
  go_ret
  exact ⟨rfl, (Chg.refl _ _).alloc _⟩
theorem placedf_any (x : Pl) (t : Nat) (s : ByteArray) (w : World) (h : w.cell? ⟨t, 0, none⟩ = some (.string s)) (l : t < w.heap.size) : Calls Try.prog 70 #[plV x, .pointer (some ⟨t, 0, none⟩)] w fun e w' => e = .returned (.bool (x.id == s)) ∧ Chg [] w w' := by
  rw [beq_toListBytes]
  unfold plV
  go_enter Try.func70, Try.ntmps70
  go_wp2
  go_ret
  exact ⟨rfl, (Chg.refl _ _).alloc _⟩
theorem removef_any (x : Pl) (t : Nat) (s : ByteArray) (w : World) (h : w.cell? ⟨t, 0, none⟩ = some (.string s)) (l : t < w.heap.size) : Calls Try.prog 43 #[plV x, .pointer (some ⟨t, 0, none⟩)] w fun e w' => e = .returned (.bool (x.id == s)) ∧ Chg [] w w' := by
  rw [beq_toListBytes]
  unfold plV
  go_enter Try.func43, Try.ntmps43
  go_wp2
  go_ret
  exact ⟨rfl, (Chg.refl _ _).alloc _⟩
set_option maxHeartbeats 4000000 in
set_option maxRecDepth 100000 in
theorem indexw_any (f : Wk → Bool) (x1 : Value) (a : Option Addr) (c : Nat) (l : List Wk) (w : World) (h : SlIs wkC 3 w a l.length l) (hl : l.length ≤ 4096)
    (hp : ∀ (x : Wk), x ∈ l → ∀ w', Chg [] w w' → Calls Try.prog 62 #[wkV x, x1] w' fun e w'' => e = .returned (.bool (f x)) ∧ Chg [] w' w'') :
    Calls Try.prog 61 #[.slice a l.length c, .func (.func 62) #[] #[x1]] w fun e w' => e = .returned (.int .i64 (idxOf f l)) ∧ Chg [] w w' := by
  have H := Lib.hid h
  have HP := Lib.hid hp
  obtain ⟨R, hR⟩ : ∃ R, R = idxOf f l := ⟨_, rfl⟩
  rw [← hR]
  have HR := Lib.hid hR
  clear h hp hR
  go_enter Try.func61, Try.ntmps61
  go_wp2_with fail
  go_loopw [8] (fun i wr => ∃ k : Nat, i = .int .i64 k ∧ k ≤ l.length ∧ Hid ((l.take k).any f = false) ∧ Hid (Chg [] w wr)) (fun i _ => l.length - (intOf i).toNat)
  case atStart => exact ⟨0, rfl, Nat.zero_le _, Lib.hid (by simp), Lib.hid (Chg.refl _ _)⟩
  case round =>
    obtain ⟨k, rfl, hkl, HA, D⟩ := hrel
    by_cases hk : k < l.length
    · obtain ⟨g1, o1, rfl, -, hbr1, hcc⟩ := H.out.elem D.out k hk
      have d0 := hcc 0 (by omega)
      have d1 := hcc 1 (by omega)
      have d2 := hcc 2 (by omega)
      have d3 := fun (h : 3 < 3) => hcc 3 h
      have hst := any_step f l k hk
      rw [HA.out, Bool.false_or] at hst
      have hhit := fun h => (HR.out.trans (idx_hit hk HA.out h))
      have hmem := List.getElem_mem hk
      generalize l[k] = x at *
      simp only [wkC, List.getElem?_cons_zero, List.getElem?_cons_succ, Nat.add_zero] at d0 d1 d2 d3
      have d3 := d3
      simp at d3
      have hk0 : (0 : Int) ≤ (k : Int) := by omega
      have hk1 : (k : Int) < (l.length : Int) := by omega
      have A := HP.out x hmem wr D.out
      unfold wkV at A
      cases hq : f x
      · rw [hq] at A hst
        have HA1 := Lib.hid A
        have HST := Lib.hid hst
        clear A hst hhit hq hcc
        go_wp2_with fail
        refine HA1.out.mono ?_; rintro e w1 ⟨rfl, hc1⟩
        have D1 := Lib.hid (D.out.thenSame hc1)
        clear hc1
        go_wp2_with fail
        exact ⟨⟨k + 1, by go_num, by omega, HST, D1⟩, by simp [intOf]; omega⟩
      · rw [hq] at A
        have HA1 := Lib.hid A
        have HH := Lib.hid (hhit hq)
        clear A hst hhit hq hcc
        go_wp2_with fail
        refine HA1.out.mono ?_; rintro e w1 ⟨rfl, hc1⟩
        have D1 := Lib.hid (D.out.thenSame hc1)
        clear hc1
        go_wp2_with fail
        go_ret
        exact ⟨by rw [HH.out]; rfl, D1.out⟩
    · have hks : k = l.length := by omega
      subst hks
      have HE : Hid (R = -1) := Lib.hid (by
        have := HA.out
        rw [List.take_length] at this
        exact HR.out.trans (idx_miss this))
      go_wp2_with fail
      go_ret
      exact ⟨by rw [HE.out]; rfl, D.out⟩
set_option maxHeartbeats 4000000 in
set_option maxRecDepth 100000 in
theorem indexp_any (f : Pl → Bool) (x1 : Value) (a : Option Addr) (c : Nat) (l : List Pl) (w : World) (h : SlIs plC 4 w a l.length l) (hl : l.length ≤ 4096)
    (hp : ∀ (x : Pl), x ∈ l → ∀ w', Chg [] w w' → Calls Try.prog 70 #[plV x, x1] w' fun e w'' => e = .returned (.bool (f x)) ∧ Chg [] w' w'') :
    Calls Try.prog 42 #[.slice a l.length c, .func (.func 70) #[] #[x1]] w fun e w' => e = .returned (.int .i64 (idxOf f l)) ∧ Chg [] w w' := by
  have H := Lib.hid h
  have HP := Lib.hid hp
  obtain ⟨R, hR⟩ : ∃ R, R = idxOf f l := ⟨_, rfl⟩
  rw [← hR]
  have HR := Lib.hid hR
  clear h hp hR
  go_enter Try.func42, Try.ntmps42
  go_wp2_with fail
  go_loopw [8] (fun i wr => ∃ k : Nat, i = .int .i64 k ∧ k ≤ l.length ∧ Hid ((l.take k).any f = false) ∧ Hid (Chg [] w wr)) (fun i _ => l.length - (intOf i).toNat)
  case atStart => exact ⟨0, rfl, Nat.zero_le _, Lib.hid (by simp), Lib.hid (Chg.refl _ _)⟩
  case round =>
    obtain ⟨k, rfl, hkl, HA, D⟩ := hrel
    by_cases hk : k < l.length
    · obtain ⟨g1, o1, rfl, -, hbr1, hcc⟩ := H.out.elem D.out k hk
      have d0 := hcc 0 (by omega)
      have d1 := hcc 1 (by omega)
      have d2 := hcc 2 (by omega)
      have d3 := fun (h : 3 < 4) => hcc 3 h
      have hst := any_step f l k hk
      rw [HA.out, Bool.false_or] at hst
      have hhit := fun h => (HR.out.trans (idx_hit hk HA.out h))
      have hmem := List.getElem_mem hk
      generalize l[k] = x at *
      simp only [plC, List.getElem?_cons_zero, List.getElem?_cons_succ, Nat.add_zero] at d0 d1 d2 d3
      have d3 := d3
      simp at d3
      have hk0 : (0 : Int) ≤ (k : Int) := by omega
      have hk1 : (k : Int) < (l.length : Int) := by omega
      have A := HP.out x hmem wr D.out
      unfold plV at A
      cases hq : f x
      · rw [hq] at A hst
        have HA1 := Lib.hid A
        have HST := Lib.hid hst
        clear A hst hhit hq hcc
        go_wp2_with fail
        refine HA1.out.mono ?_; rintro e w1 ⟨rfl, hc1⟩
        have D1 := Lib.hid (D.out.thenSame hc1)
        clear hc1
        go_wp2_with fail
        exact ⟨⟨k + 1, by go_num, by omega, HST, D1⟩, by simp [intOf]; omega⟩
      · rw [hq] at A
        have HA1 := Lib.hid A
        have HH := Lib.hid (hhit hq)
        clear A hst hhit hq hcc
        go_wp2_with fail
        refine HA1.out.mono ?_; rintro e w1 ⟨rfl, hc1⟩
        have D1 := Lib.hid (D.out.thenSame hc1)
        clear hc1
        go_wp2_with fail
        go_ret
        exact ⟨by rw [HH.out]; rfl, D1.out⟩
    · have hks : k = l.length := by omega
      subst hks
      have HE : Hid (R = -1) := Lib.hid (by
        have := HA.out
        rw [List.take_length] at this
        exact HR.out.trans (idx_miss this))
      go_wp2_with fail
      go_ret
      exact ⟨by rw [HE.out]; rfl, D.out⟩
set_option maxHeartbeats 4000000 in
set_option maxRecDepth 100000 in
theorem indexr_any (f : Pl → Bool) (x1 : Value) (a : Option Addr) (c : Nat) (l : List Pl) (w : World) (h : SlIs plC 4 w a l.length l) (hl : l.length ≤ 4096)
    (hp : ∀ (x : Pl), x ∈ l → ∀ w', Chg [] w w' → Calls Try.prog 43 #[plV x, x1] w' fun e w'' => e = .returned (.bool (f x)) ∧ Chg [] w' w'') :
    Calls Try.prog 42 #[.slice a l.length c, .func (.func 43) #[] #[x1]] w fun e w' => e = .returned (.int .i64 (idxOf f l)) ∧ Chg [] w w' := by
  have H := Lib.hid h
  have HP := Lib.hid hp
  obtain ⟨R, hR⟩ : ∃ R, R = idxOf f l := ⟨_, rfl⟩
  rw [← hR]
  have HR := Lib.hid hR
  clear h hp hR
  go_enter Try.func42, Try.ntmps42
  go_wp2_with fail
  go_loopw [8] (fun i wr => ∃ k : Nat, i = .int .i64 k ∧ k ≤ l.length ∧ Hid ((l.take k).any f = false) ∧ Hid (Chg [] w wr)) (fun i _ => l.length - (intOf i).toNat)
  case atStart => exact ⟨0, rfl, Nat.zero_le _, Lib.hid (by simp), Lib.hid (Chg.refl _ _)⟩
  case round =>
    obtain ⟨k, rfl, hkl, HA, D⟩ := hrel
    by_cases hk : k < l.length
    · obtain ⟨g1, o1, rfl, -, hbr1, hcc⟩ := H.out.elem D.out k hk
      have d0 := hcc 0 (by omega)
      have d1 := hcc 1 (by omega)
      have d2 := hcc 2 (by omega)
      have d3 := fun (h : 3 < 4) => hcc 3 h
      have hst := any_step f l k hk
      rw [HA.out, Bool.false_or] at hst
      have hhit := fun h => (HR.out.trans (idx_hit hk HA.out h))
      have hmem := List.getElem_mem hk
      generalize l[k] = x at *
      simp only [plC, List.getElem?_cons_zero, List.getElem?_cons_succ, Nat.add_zero] at d0 d1 d2 d3
      have d3 := d3
      simp at d3
      have hk0 : (0 : Int) ≤ (k : Int) := by omega
      have hk1 : (k : Int) < (l.length : Int) := by omega
      have A := HP.out x hmem wr D.out
      unfold plV at A
      cases hq : f x
      · rw [hq] at A hst
        have HA1 := Lib.hid A
        have HST := Lib.hid hst
        clear A hst hhit hq hcc
        go_wp2_with fail
        refine HA1.out.mono ?_; rintro e w1 ⟨rfl, hc1⟩
        have D1 := Lib.hid (D.out.thenSame hc1)
        clear hc1
        go_wp2_with fail
        exact ⟨⟨k + 1, by go_num, by omega, HST, D1⟩, by simp [intOf]; omega⟩
      · rw [hq] at A
        have HA1 := Lib.hid A
        have HH := Lib.hid (hhit hq)
        clear A hst hhit hq hcc
        go_wp2_with fail
        refine HA1.out.mono ?_; rintro e w1 ⟨rfl, hc1⟩
        have D1 := Lib.hid (D.out.thenSame hc1)
        clear hc1
        go_wp2_with fail
        go_ret
        exact ⟨by rw [HH.out]; rfl, D1.out⟩
    · have hks : k = l.length := by omega
      subst hks
      have HE : Hid (R = -1) := Lib.hid (by
        have := HA.out
        rw [List.take_length] at this
        exact HR.out.trans (idx_miss this))
      go_wp2_with fail
      go_ret
      exact ⟨by rw [HE.out]; rfl, D.out⟩
set_option maxHeartbeats 4000000 in
set_option maxRecDepth 100000 in
theorem indexc_any (f : Wk → Bool) (x1 : Value) (a : Option Addr) (c : Nat) (l : List Wk) (w : World) (h : SlIs wkC 3 w a l.length l) (hl : l.length ≤ 4096)
    (hp : ∀ (x : Wk), x ∈ l → ∀ w', Chg [] w w' → Calls Try.prog 40 #[wkV x, x1] w' fun e w'' => e = .returned (.bool (f x)) ∧ Chg [] w' w'') :
    Calls Try.prog 61 #[.slice a l.length c, .func (.func 40) #[] #[x1]] w fun e w' => e = .returned (.int .i64 (idxOf f l)) ∧ Chg [] w w' := by
  have H := Lib.hid h
  have HP := Lib.hid hp
  obtain ⟨R, hR⟩ : ∃ R, R = idxOf f l := ⟨_, rfl⟩
  rw [← hR]
  have HR := Lib.hid hR
  clear h hp hR
  go_enter Try.func61, Try.ntmps61
  go_wp2_with fail
  go_loopw [8] (fun i wr => ∃ k : Nat, i = .int .i64 k ∧ k ≤ l.length ∧ Hid ((l.take k).any f = false) ∧ Hid (Chg [] w wr)) (fun i _ => l.length - (intOf i).toNat)
  case atStart => exact ⟨0, rfl, Nat.zero_le _, Lib.hid (by simp), Lib.hid (Chg.refl _ _)⟩
  case round =>
    obtain ⟨k, rfl, hkl, HA, D⟩ := hrel
    by_cases hk : k < l.length
    · obtain ⟨g1, o1, rfl, -, hbr1, hcc⟩ := H.out.elem D.out k hk
      have d0 := hcc 0 (by omega)
      have d1 := hcc 1 (by omega)
      have d2 := hcc 2 (by omega)
      have d3 := fun (h : 3 < 3) => hcc 3 h
      have hst := any_step f l k hk
      rw [HA.out, Bool.false_or] at hst
      have hhit := fun h => (HR.out.trans (idx_hit hk HA.out h))
      have hmem := List.getElem_mem hk
      generalize l[k] = x at *
      simp only [wkC, List.getElem?_cons_zero, List.getElem?_cons_succ, Nat.add_zero] at d0 d1 d2 d3
      have d3 := d3
      simp at d3
      have hk0 : (0 : Int) ≤ (k : Int) := by omega
      have hk1 : (k : Int) < (l.length : Int) := by omega
      have A := HP.out x hmem wr D.out
      unfold wkV at A
      cases hq : f x
      · rw [hq] at A hst
        have HA1 := Lib.hid A
        have HST := Lib.hid hst
        clear A hst hhit hq hcc
        go_wp2_with fail
        refine HA1.out.mono ?_; rintro e w1 ⟨rfl, hc1⟩
        have D1 := Lib.hid (D.out.thenSame hc1)
        clear hc1
        go_wp2_with fail
        exact ⟨⟨k + 1, by go_num, by omega, HST, D1⟩, by simp [intOf]; omega⟩
      · rw [hq] at A
        have HA1 := Lib.hid A
        have HH := Lib.hid (hhit hq)
        clear A hst hhit hq hcc
        go_wp2_with fail
        refine HA1.out.mono ?_; rintro e w1 ⟨rfl, hc1⟩
        have D1 := Lib.hid (D.out.thenSame hc1)
        clear hc1
        go_wp2_with fail
        go_ret
        exact ⟨by rw [HH.out]; rfl, D1.out⟩
    · have hks : k = l.length := by omega
      subst hks
      have HE : Hid (R = -1) := Lib.hid (by
        have := HA.out
        rw [List.take_length] at this
        exact HR.out.trans (idx_miss this))
      go_wp2_with fail
      go_ret
      exact ⟨by rw [HE.out]; rfl, D.out⟩
end Go.Proofs.Ytjbnfaapkicejaa
