/- Chapter 30: the program's stream: what lies where; New, made, Shards, Shard, find, First, Next. No condition. -/
import Derived.Test.YtmichbpfmachcaaDoorStmC
import Derived.Test.YtmichbpfmachcaaDoorPair
namespace Go.Proofs.YtmichbpfmachcaaDoor
set_option linter.unusedVariables false
set_option linter.unusedSimpArgs false
open Go.RowKit
structure PRec where
  sh : Int
  sq : Int
  at_ : Int
  e : PEv
/-- A record with the place of its body. -/
structure Rc where
  sh : Int
  sq : Int
  at_ : Int
  e : Ev
def Rc.p (r : Rc) : PRec := ⟨r.sh, r.sq, r.at_, r.e.p⟩
def rcC (r : Rc) : List Value := .int .i64 r.sh :: .int .i64 r.sq :: .int .i64 r.at_ :: evC r.e
theorem rcC_len (r : Rc) : (rcC r).length = 10 := rfl
theorem rcC_one (r : Rc) : ∀ u ∈ rcC r, u.oneCell' = true := by intro u hu; simp [rcC, evC] at hu; rcases hu with rfl | rfl | rfl | rfl | rfl | rfl | rfl | rfl | rfl | rfl <;> rfl
structure Shd where
  first : Int
  recs : List PRec
structure Stm where
  keep : Int
  now : Int
  sh : List Shd
/-- A shard with the place of its records. -/
structure Sd where
  first : Int
  a : Option Addr
  c : Nat
  L : List Rc
def Sd.v (d : Sd) : Value := .slice d.a d.L.length d.c
def sdC (d : Sd) : List Value := [.int .i64 d.first, .slice d.a d.L.length d.c]
def Sd.p (d : Sd) : Shd := ⟨d.first, d.L.map Rc.p⟩
theorem sdC_len (d : Sd) : (sdC d).length = 2 := rfl
/-- A body of the stream's own. -/
def BodyIn (w : World) (f : List Nat) (e : Ev) : Prop := InIs ceC 4 w e.ba e.bc e.p.body ∧ ∀ x, e.ba = some x → x.block ∈ f ∧ ∃ cur, w.heap[x.block]? = some (.cells cur 66 (0, 0))
/-- The parts of the stream at block b: its shards' block g; all its blocks lie in f. -/
structure StmAt (w : World) (b g c : Nat) (D : List Sd) (keep now : Int) (f : List Nat) : Prop where
  head : w.heap[b]? = some (.cells #[.int .i64 keep, .int .i64 now, .slice (some ⟨g, 0, none⟩) D.length c] 61 (0, 0))
  row : RowOf sdC 2 w 0 70 (.slice (some ⟨g, 0, none⟩) D.length c) D
  recs : ∀ d ∈ D, RowOf rcC 10 w 0 55 d.v d.L
  apart : D.Pairwise (fun d d' => ∀ x, d.v.ownBlock = some x → d'.v.ownBlock ≠ some x)
  inb : b ∈ f
  ing : g ∈ f
  inr : ∀ d ∈ D, ∀ x, d.v.ownBlock = some x → x ∈ f
  body : ∀ d ∈ D, ∀ r ∈ d.L, BodyIn w f r.e
  lt : ∀ x ∈ f, x < w.heap.size
def StmIs (w : World) (b : Nat) (st : Stm) (f : List Nat) : Prop := ∃ g c D, st.sh = D.map Sd.p ∧ StmAt w b g c D st.keep st.now f
/-- A bound on a stream's numbers. -/
def Stm.ok (st : Stm) (n : Nat) : Prop := 1 ≤ st.sh.length ∧ st.sh.length ≤ 8 ∧ 1 ≤ st.keep ∧ st.keep ≤ 1073741824 ∧ 0 ≤ st.now ∧ st.now ≤ 1073741824 ∧
  ∀ d ∈ st.sh, 0 ≤ d.first ∧ d.first + (d.recs.length : Int) ≤ n ∧ d.recs.length ≤ 256 ∧ ∀ r ∈ d.recs, 0 ≤ r.at_ ∧ r.at_ ≤ 1073741824 ∧ r.e.body.length ≤ 1048576
theorem rowBlk {α : Type} {cf : α → List Value} {sz : Nat} {w : World} {base : Nat} {e : TypeId} {v : Value} {l : List α} (h : RowOf cf sz w base e v l) {g : Nat} (hg : v.ownBlock = some g) : ∃ cur, w.heap[g]? = some (.cells cur e (0, 0)) := by
  rcases h.2 with ⟨h2, _⟩ | ⟨g', cap, cur, hv, _, hh, _⟩
  · rw [h2] at hg; cases hg
  · rw [hv] at hg
    cases hg
    exact ⟨cur, hh⟩
variable {w w' : World} {b g c n : Nat} {D : List Sd} {keep now : Int} {f S : List Nat} {st : Stm}
theorem BodyIn.kept {e : Ev} (h : BodyIn w f e) (hc : Chg S w w') (hS : ∀ x ∈ f, x ∉ S) : BodyIn w' f e := by
  obtain ⟨⟨⟨h1, h2⟩, h3⟩, h4⟩ := h
  refine ⟨⟨⟨h1, fun k hk => ?_⟩, h3⟩, fun x hx => ?_⟩
  · obtain ⟨q, o, e1, e2, e3⟩ := h2 k hk
    refine ⟨q, o, e1, hc.lt e2, fun j hj => ?_⟩
    rw [← e3 j hj]
    have hq := hc.block q e2 (hS _ (h4 _ e1).1)
    unfold World.cell?
    simp only [hq]
  · exact ⟨(h4 x hx).1, by obtain ⟨cur, hh⟩ := (h4 x hx).2; exact ⟨cur, hc.at (hS _ (h4 x hx).1) hh⟩⟩
theorem BodyIn.more {e : Ev} {f' : List Nat} (h : BodyIn w f e) (hf : ∀ x ∈ f, x ∈ f') : BodyIn w f' e := ⟨h.1, fun x hx => ⟨hf _ (h.2 x hx).1, (h.2 x hx).2⟩⟩
theorem StmAt.kept (h : StmAt w b g c D keep now f) (hc : Chg S w w') (hS : ∀ x ∈ f, x ∉ S) : StmAt w' b g c D keep now f where
  head := hc.at (hS _ h.inb) h.head
  row := h.row.kept hc (fun y hy => by cases hy; exact hS _ h.ing)
  recs := fun d hd => (h.recs d hd).kept hc (fun y hy => hS _ (h.inr d hd y hy))
  apart := h.apart
  inb := h.inb
  ing := h.ing
  inr := h.inr
  body := fun d hd r hr => (h.body d hd r hr).kept hc hS
  lt := fun x hx => hc.lt (h.lt x hx)
theorem StmIs.kept (h : StmIs w b st f) (hc : Chg S w w') (hS : ∀ x ∈ f, x ∉ S) : StmIs w' b st f := by
  obtain ⟨g, c, D, h1, h2⟩ := h
  exact ⟨g, c, D, h1, h2.kept hc hS⟩
theorem StmIs.keptN (h : StmIs w b st f) (hc : Chg [] w w') : StmIs w' b st f := h.kept hc (by simp)
/-- The stream as a side. -/
def JS (b : Nat) (st : Stm) : List Nat → World → Prop := fun f w => StmIs w b st f
theorem stmSide (b : Nat) (st : Stm) : Side (JS b st) := ⟨fun h x hx => by obtain ⟨g, c, D, _, h⟩ := h; exact h.lt x hx, fun h hc hS => h.kept hc hS⟩

def newS (n k : Int) : Stm := ⟨k, 0, List.replicate n.toNat ⟨0, []⟩⟩
theorem shdInfo : (Tryd.prog.info? 70).map (fun i => (i.zero, i.size, i.bytes)) = some (some (.agg #[.int .i64 0, .slice none 0 0]), 2, 32) := by kernel_rfl
set_option maxRecDepth 100000 in
theorem stm_new_ok (n k : Int) (w : World) (h1 : 1 ≤ n) (h2 : n ≤ 8) (h3 : 1 ≤ k) (h4 : k ≤ 1073741824) :
    Calls Tryd.prog 8 #[.int .i64 n, .int .i64 k] w fun e w' => ∃ b f, e = .returned (.tuple #[.pointer (some ⟨b, 0, none⟩), .int .i64 0]) ∧ StmIs w' b (newS n k) f ∧ Chg [] w w' ∧ ∀ x ∈ f, w.heap.size ≤ x := by
  obtain ⟨m, rfl⟩ : ∃ m : Nat, n = m := ⟨n.toNat, by omega⟩
  go_enter Tryd.func8, Tryd.ntmps8
  go_wp2_with (at_make; refine wpl_make (cf := sdC) rfl _ _ 59 rfl 0 70 _ 32 Tryd.underlying59 shdInfo (⟨0, none, 0, []⟩ : Sd) rfl rfl m rfl rfl (by omega) (by unfold maxLen; omega) (Nat.zero_le _) ?_; intro w1 hr hc hlt)
  go_ret2
  have hD : (List.replicate m (⟨0, none, 0, []⟩ : Sd)).length = m := List.length_replicate
  have hm : ∀ d ∈ List.replicate m (⟨0, none, 0, []⟩ : Sd), d = ⟨0, none, 0, []⟩ := fun d hd => List.eq_of_mem_replicate hd
  have hcc : Chg [] w1 (w1.alloc (.cells #[.int .i64 k, .int .i64 0, .slice (some ⟨w.heap.size, 0, none⟩) m m] 61)) := (Chg.refl _ _).alloc _
  refine ⟨w1.heap.size, [w1.heap.size, w.heap.size], rfl, ⟨w.heap.size, m, List.replicate m ⟨0, none, 0, []⟩, ?_, ?_⟩, hc.alloc _, ?_⟩
  · simp [newS, Sd.p]
  · refine ⟨?_, ?_, ?_, ?_, by simp, by simp, ?_, ?_, ?_⟩
    · rw [hD]; exact heap_alloc_new _ _
    · rw [hD]; exact hr.kept hcc (by simp)
    · intro d hd; rw [hm d hd]; exact RowOf.nil _ _ _
    · exact List.pairwise_replicate.2 (.inr (fun x hx => by cases hx))
    · intro d hd x hx; rw [hm d hd] at hx; cases hx
    · intro d hd r hr'; rw [hm d hd] at hr'; cases hr'
    · intro x hx
      simp only [List.mem_cons, List.not_mem_nil, or_false] at hx
      rw [World.size_alloc]
      rcases hx with rfl | rfl <;> omega
  · intro x hx
    simp only [List.mem_cons, List.not_mem_nil, or_false] at hx
    have := hc.size
    rcases hx with rfl | rfl <;> omega
theorem stm_new_bad (n k : Int) (w : World) (h : n < 1 ∨ 8 < n ∨ k < 1 ∨ 1073741824 < k) :
    Calls Tryd.prog 8 #[.int .i64 n, .int .i64 k] w fun e w' => e = .returned (.tuple #[.pointer none, .int .i64 2]) ∧ w = w' := by
  by_cases h1 : n < 1
  · go_enter Tryd.func8, Tryd.ntmps8
    go_wp2
    go_ret2
    exact ⟨rfl, rfl⟩
  by_cases h2 : 8 < n
  · go_enter Tryd.func8, Tryd.ntmps8
    go_wp2
    go_ret2
    exact ⟨rfl, rfl⟩
  by_cases h3 : k < 1
  · go_enter Tryd.func8, Tryd.ntmps8
    go_wp2
    go_ret2
    exact ⟨rfl, rfl⟩
  have h4 : 1073741824 < k := by omega
  clear h
  go_enter Tryd.func8, Tryd.ntmps8
  go_wp2
  go_ret2
  exact ⟨rfl, rfl⟩
theorem newS_ok (n k : Int) (h1 : 1 ≤ n) (h2 : n ≤ 8) (h3 : 1 ≤ k) (h4 : k ≤ 1073741824) : (newS n k).ok 0 := by
  refine ⟨by simp [newS]; omega, by simp [newS]; omega, h3, h4, by simp [newS], by simp [newS], fun d hd => ?_⟩
  have := List.eq_of_mem_replicate hd
  subst this
  simp
theorem stm_made (h : StmIs w b st f) (ho : st.ok n) : Calls Tryd.prog 25 #[.pointer (some ⟨b, 0, none⟩)] w fun e w' => e = .returned (.bool true) ∧ w = w' := by
  obtain ⟨g, c, D, h1, h2⟩ := h
  have c1 := blk_cell h2.head
  have hD : 1 ≤ D.length := by have := ho.1; rw [h1, List.length_map] at this; exact this
  have hD' : 0 < (D.length : Int) := by omega
  clear h1 h2 ho
  generalize D.length = m at *
  go_enter Tryd.func25, Tryd.ntmps25
  go_wp2
  go_ret
  exact ⟨retB (decide_eq_true (by omega)), rfl⟩
theorem stm_shards (h : StmIs w b st f) (ho : st.ok n) : Calls Tryd.prog 16 #[.pointer (some ⟨b, 0, none⟩)] w fun e w' => e = .returned (.int .i64 (st.sh.length : Int)) ∧ w = w' := by
  have A := Lib.hid (stm_made h ho)
  obtain ⟨g, c, D, h1, h2⟩ := h
  have c1 := blk_cell h2.head
  have hD : st.sh.length = D.length := by rw [h1, List.length_map]
  rw [hD]
  clear h1 h2 ho hD
  generalize D.length = m at *
  go_enter Tryd.func16, Tryd.ntmps16
  go_wp2_with fail
  refine A.out.mono ?_; rintro e w1 ⟨rfl, rfl⟩
  go_wp2_with fail
  go_ret
  exact ⟨rfl, rfl⟩
theorem stm_shard (key : ByteArray) (hk : key.size ≤ maxLen) (h : StmIs w b st f) (ho : st.ok n) : Calls Tryd.prog 18 #[.pointer (some ⟨b, 0, none⟩), .string key] w fun e w' => e = .returned (.int .i64 (bucketZ key (st.sh.length : Int))) ∧ w = w' := by
  have A := Lib.hid (stm_made h ho)
  have A2 := Lib.hid (bucket_any key (st.sh.length : Int) w hk (by have := ho.1; omega) (by have := ho.2.1; omega))
  obtain ⟨g, c, D, h1, h2⟩ := h
  have c1 := blk_cell h2.head
  have hD : st.sh.length = D.length := by rw [h1, List.length_map]
  rw [hD] at A2 ⊢
  clear h1 h2 ho hD
  generalize bucketZ key (D.length : Int) = q at *
  generalize D.length = m at *
  go_enter Tryd.func18, Tryd.ntmps18
  go_wp2_with fail
  refine A.out.mono ?_; rintro e w1 ⟨rfl, rfl⟩
  go_wp2_with fail
  refine A2.out.mono ?_; rintro e w1 ⟨rfl, rfl⟩
  go_wp2_with fail
  go_ret
  exact ⟨rfl, rfl⟩
theorem stm_find_bad (k : Int) (h : StmIs w b st f) (ho : st.ok n) (hk : k < 0 ∨ (st.sh.length : Int) ≤ k) : Calls Tryd.prog 29 #[.pointer (some ⟨b, 0, none⟩), .int .i64 k] w fun e w' => e = .returned (.tuple #[.pointer none, .int .i64 2]) ∧ w = w' := by
  have A := Lib.hid (stm_made h ho)
  obtain ⟨g, c, D, h1, h2⟩ := h
  have c1 := blk_cell h2.head
  have hD : st.sh.length = D.length := by rw [h1, List.length_map]
  rw [hD] at hk
  clear h1 h2 ho hD
  generalize D.length = m at *
  by_cases h0 : k < 0
  · clear hk
    go_enter Tryd.func29, Tryd.ntmps29
    go_wp2_with fail
    refine A.out.mono ?_; rintro e w1 ⟨rfl, rfl⟩
    go_wp2_with fail
    go_ret2
    exact ⟨rfl, rfl⟩
  · have hk' : (m : Int) ≤ k := by omega
    clear hk
    go_enter Tryd.func29, Tryd.ntmps29
    go_wp2_with fail
    refine A.out.mono ?_; rintro e w1 ⟨rfl, rfl⟩
    go_wp2_with fail
    go_ret2
    exact ⟨rfl, rfl⟩
theorem stm_find (k : Nat) (h : StmAt w b g c D keep now f) (ho : 1 ≤ D.length) (hk : k < D.length) (A : Calls Tryd.prog 25 #[.pointer (some ⟨b, 0, none⟩)] w fun e w' => e = .returned (.bool true) ∧ w = w') : Calls Tryd.prog 29 #[.pointer (some ⟨b, 0, none⟩), .int .i64 (k : Int)] w fun e w' => e = .returned (.tuple #[.pointer (some ⟨g, k * 2, none⟩), .int .i64 0]) ∧ w = w' := by
  have A := Lib.hid A
  have c1 := blk_cell h.head
  have hk0 : 0 ≤ (k : Int) := by omega
  have hk1 : (k : Int) < (D.length : Int) := by omega
  clear h ho
  generalize D.length = m at *
  go_enter Tryd.func29, Tryd.ntmps29
  go_wp2_with fail
  refine A.out.mono ?_; rintro e w1 ⟨rfl, rfl⟩
  go_wp2_with fail
  go_ret2
  exact ⟨rfl, rfl⟩
end Go.Proofs.YtmichbpfmachcaaDoor
