/- Chapter 19: contracts: Changes, of both. No condition. -/
import Derived.Test.YtmmhcacpehpjdaaAlaE
namespace Go.Proofs.Ytmmhcacpehpjdaa
set_option linter.unusedVariables false
set_option linter.unusedSimpArgs false
open Go.RowKit

theorem pLen (x : Pt) : (pCells x).length = 2 := rfl
theorem pOne (x : Pt) : ∀ u ∈ pCells x, u.oneCell' = true := by intro u hu; simp [pCells] at hu; rcases hu with rfl | rfl <;> rfl
theorem pInfo : (Try.prog.info? 47).map (fun i => (i.zero, i.size, i.bytes)) = some (some (.agg #[.int .i64 0, .int .i64 0]), 2, 16) := by kernel_rfl

theorem at_ok {r : Rd} {l : List Pt} {t : Int} (hr : ruleB r = true) (hl : checkP l = 0) (h0 : 0 ≤ t) (h1 : t ≤ 1073741824) : (atS r l t).2 = 0 := by
  obtain ⟨_, _, ⟨_, _⟩, ⟨_, _⟩, _⟩ := rule_in hr
  have hw : wokB t r.wd r.n = true := by simp [wokB]; omega
  have e : (windowsS l t r.wd r.n).2 = 0 := by unfold windowsS; rw [if_pos hl, if_pos hw]
  unfold atS
  rw [if_pos hr, if_pos e]
  unfold stateS
  rw [if_pos hr]
  split
  · rfl
  · split <;> rfl

def pushC (s : Int → Int) (out : List Pt) (t : Int) : List Pt := if (out = [] ∨ (out.getLast?.map Pt.v) ≠ some (s t)) then out ++ [⟨t, s t⟩] else out
def chgS (s : Int → Int) (lo : Int) : Nat → List Pt
  | 0 => []
  | k + 1 => pushC s (chgS s lo k) (lo + k)
theorem chg_len (s : Int → Int) (lo : Int) (k : Nat) : (chgS s lo k).length ≤ k := by
  induction k with
  | zero => simp [chgS]
  | succ k ih =>
    unfold chgS pushC
    split
    · simp; omega
    · omega
def rngB (lo hi : Int) : Bool := decide (0 ≤ lo) && decide (lo ≤ hi) && decide (hi ≤ 1073741824) && decide (hi - lo ≤ 1000)
def changesS (r : Rd) (l : List Pt) (lo hi : Int) : List Pt × Int :=
  if ruleB r = true then (if checkP l = 0 then (if rngB lo hi = true then (chgS (fun t => (atS r l t).1) lo (hi - lo + 1).toNat, 0) else ([], 2)) else ([], checkP l)) else ([], 2)
def ChPost (w : World) (r : List Pt × Int) (e : Ending) (w' : World) : Prop := ∃ v, e = .returned (.tuple #[v, .int .i64 r.2]) ∧ RowOf pCells 2 w' w.heap.size 47 v r.1 ∧ Chg [] w w'

set_option maxHeartbeats 4000000 in
set_option maxRecDepth 100000 in
theorem changes_any (r : Rd) (a : Option Addr) (len cap : Nat) (l : List Pt) (lo hi : Int) (w : World) (h : SlIs pCells 2 w a len l) (hm : len ≤ maxLen) : Calls Try.prog 23 #[.agg #[.int .i64 r.st, .bool r.ab, .int .i64 r.th, .int .i64 r.wd, .int .i64 r.m, .int .i64 r.n, .bool r.ms], .slice a len cap, .int .i64 lo, .int .i64 hi] w (ChPost w (changesS r l lo hi)) := by
  have Hch := Lib.hid (acheck_any r (w.alloc (.cells #[.int .i64 r.st, .bool r.ab, .int .i64 r.th, .int .i64 r.wd, .int .i64 r.m, .int .i64 r.n, .bool r.ms] 24)))
  have Hblk := Lib.hid (heap_alloc_new w (.cells #[.int .i64 r.st, .bool r.ab, .int .i64 r.th, .int .i64 r.wd, .int .i64 r.m, .int .i64 r.n, .bool r.ms] 24))
  have H := Lib.hid (h.kept (((Chg.refl [] w).alloc (.cells #[.int .i64 r.st, .bool r.ab, .int .i64 r.th, .int .i64 r.wd, .int .i64 r.m, .int .i64 r.n, .bool r.ms] 24))))
  clear h
  by_cases hr : ruleB r = true
  · rw [show checkR r = 0 by unfold checkR; rw [if_pos hr]] at Hch
    have Hmc := Lib.hid (fun w h => mcheck_any a len cap l w h hm)
    by_cases hl : checkP l = 0
    · rw [hl] at Hmc
      by_cases hg : rngB lo hi = true
      · have hs : changesS r l lo hi = (chgS (fun t => (atS r l t).1) lo (hi - lo + 1).toNat, 0) := by unfold changesS; rw [if_pos hr, if_pos hl, if_pos hg]
        rw [hs]
        have hat : ∀ t w', 0 ≤ t → t ≤ 1073741824 → SlIs pCells 2 w' a len l → Calls Try.prog 21 #[.agg #[.int .i64 r.st, .bool r.ab, .int .i64 r.th, .int .i64 r.wd, .int .i64 r.m, .int .i64 r.n, .bool r.ms], .slice a len cap, .int .i64 t] w' (StPost w' ((atS r l t).1, 0)) := by
          intro t w' t0 t1 hsl
          have e := at_ok hr hl t0 t1
          have := at_any r a len cap l t w' hsl hm
          rw [← e]; exact this
        have Hat := Lib.hid hat
        simp only [rngB, Bool.and_eq_true, decide_eq_true_eq] at hg
        obtain ⟨⟨⟨g0, g1⟩, g2⟩, g3⟩ := hg
        obtain ⟨s, hs2⟩ : ∃ s : Int → Int, s = fun t => (atS r l t).1 := ⟨_, rfl⟩
        have hs3 : ∀ t, (atS r l t).1 = s t := by intro t; rw [hs2]
        simp only [hs3] at Hat
        rw [← hs2]
        obtain ⟨n, hn⟩ : ∃ n : Nat, n = (hi - lo + 1).toNat := ⟨_, rfl⟩
        rw [← hn]
        have hn2 : (n : Int) = hi - lo + 1 := by omega
        have Hn := Lib.hid hn2
        have hn3 : (n : Int) ≤ 1001 := by omega
        clear hs hat hr hl hs2 hs3 hn hn2 hm
        go_enter Try.func23, Try.ntmps23
        go_wp2_with fail
        refine Hch.out.mono ?_; rintro e w1 ⟨rfl, hc1⟩
        have H1 := Lib.hid (H.out.kept hc1)
        have Hb1 := Lib.hid (hc1.at (by simp) Hblk.out)
        have Hc1 := Lib.hid (((Chg.refl [] w).alloc _).thenSame hc1)
        clear hc1
        go_wp2_with fail
        refine (Hmc.out _ H1.out).mono ?_; rintro e w2 ⟨rfl, hc2⟩
        have H2 := Lib.hid (H1.out.kept hc2)
        have Hb2 := Lib.hid (hc2.at (by simp) Hb1.out)
        have Hc2 := Lib.hid (Hc1.out.thenSame hc2)
        clear hc2
        go_wp2_with fail
        go_loopw [12, 13] (fun v i wr => ∃ k : Nat, i = .int .i64 (lo + k) ∧ k ≤ n ∧ RowOf pCells 2 wr w2.heap.size 47 v (chgS s lo k) ∧ Chg [] w2 wr) (fun _ i _ => (hi + 1 - intOf i).toNat)
        case atStart => exact ⟨0, by simp, Nat.zero_le _, RowOf.nil _ _ _, Chg.refl _ _⟩
        case round =>
          obtain ⟨k, rfl, hkn, hrow, hch⟩ := hrel
          have Hrow := Lib.hid hrow
          have HC := Lib.hid hch
          have r0 := blk_cell (hch.at (by simp) Hb2.out)
          have hln := chg_len s lo k
          by_cases hk : k < n
          · have hk1 : lo + (k : Int) ≤ hi := by have := Hn.out; omega
            have hk0 : 0 ≤ lo + (k : Int) := by omega
            have Hst : Hid (chgS s lo (k + 1) = pushC s (chgS s lo k) (lo + k)) := rfl
            have Hat2 := Lib.hid (Hat.out (lo + (k : Int)) wr hk0 (by omega) (H2.out.kept hch))
            obtain ⟨L, hL⟩ : ∃ L, L = chgS s lo k := ⟨_, rfl⟩
            rw [← hL] at Hst Hrow hrow hln
            obtain ⟨v, hv⟩ : ∃ v, v = s (lo + (k : Int)) := ⟨_, rfl⟩
            rw [← hv] at Hat2
            have Hv := Lib.hid hv
            have hlk : L.length + 1 ≤ 1001 := by omega
            have Hlk := Lib.hid hlk
            rcases List.eq_nil_or_concat L with hL0 | ⟨L0, p, hL0⟩
            · have Hst2 := Lib.hid (show chgS s lo (k + 1) = L ++ [⟨lo + (k : Int), v⟩] by rw [Hst.out, Hv.out]; unfold pushC; rw [if_pos (.inl hL0)])
              obtain ⟨av, cv, hvs⟩ := RowOf.shape hrow
              subst hvs
              have hz : L.length = 0 := by rw [hL0]; rfl
              rw [hz]
              rw [hz] at Hrow
              clear hrow hch hL hv hL0 hln hlk hz
              go_wp2_with fail
              refine Hat2.out.mono ?_; rintro e w3 ⟨rfl, hc3⟩
              have Hc3 := Lib.hid hc3
              have Hr3 := Lib.hid (RowOf.kept Hrow.out hc3 (by simp))
              have hs3 := (HC.out.thenSame hc3).size
              clear hc3
              go_wp2_with (at_builtin; go_loud (refine wpl_append rfl _ _ 34 rfl w2.heap.size 47 _ 16 Try.underlying34 pInfo rfl (by decide) pLen pOne (.slice av 0 cv) L rfl (RowOf.kept Hr3.out ((Chg.refl [] _).alloc _) (by simp)) w3.heap.size _ ⟨lo + (k : Int), v⟩ _ _ _ rfl (heap_alloc_new w3 _) rfl (by have := Hlk.out; unfold maxLen; omega) (by have := Hlk.out; omega) (by simp; omega) ?_); intro v' w5 hr5 hg5; have Hr5 := Lib.hid hr5; have Hg5 := Lib.hid hg5; clear hr5 hg5)
              refine ⟨⟨k + 1, by go_num, by omega, by rw [Hst2.out]; exact Hr5.out, ((HC.out.thenSame Hc3.out).alloc _).then (Chg.ofRow (v := .slice av 0 cv) Hg5.out) (by intro y hy hl; have h1 := (Hrow.out.block y (by simpa using hy)).1; omega)⟩, by simp [intOf]; omega⟩
            · obtain ⟨j, hj⟩ : ∃ j, L.length = j + 1 := ⟨L0.length, by rw [hL0]; simp⟩
              have hjl : j < L.length := by omega
              have hgl : L.getLast?.map Pt.v = some p.v := by rw [hL0]; simp
              have hlast : L[j] = p := by
                have : L[j]? = some p := by rw [hL0]; have : L0.length = j := by have := congrArg List.length hL0; simp at this; omega
                                            subst this; simp
                rw [List.getElem?_eq_getElem hjl] at this
                exact Option.some.inj this
              obtain ⟨g, cv, hvs, -, -, hcl, -, -, hgw⟩ := (RowOf.at hrow pLen).resolve_left (fun h => by rw [h.2] at hjl; simp at hjl)
              subst hvs
              have q1 := hcl j hjl 1 (by omega)
              rw [hlast] at q1
              simp only [pCells, List.getElem?_cons_zero, List.getElem?_cons_succ] at q1
              rw [hj]
              have hne : L ≠ [] := by rw [hL0]; simp
              rw [hj] at Hrow
              have hj0 : (0 : Int) ≤ (j : Int) := by omega
              have hj1 : (j : Int) ≤ 1001 := by omega
              have hjb : ((j + 1 : Nat) : Int) = (j : Int) + 1 := by omega
              have hjb2 : (((j : Int) + 1) == 0) = false := beq_eq_false_iff_ne.2 (by omega)
              by_cases hpv : p.v = v
              · have Hst2 := Lib.hid (show chgS s lo (k + 1) = L by rw [Hst.out]; unfold pushC; rw [if_neg (by rw [hgl, ← Hv.out, hpv]; simp [hne])])
                rw [hpv] at q1
                clear hrow hch hL hv hL0 hln hlk hj hjl hgl hlast hcl hne hpv hjb
                go_wp2_with fail
                refine Hat2.out.mono ?_; rintro e w3 ⟨rfl, hc3⟩
                have Hc3 := Lib.hid hc3
                have q3 := (World.cell?_of_block (w := wr) (w' := w3) (a := ⟨g, j * 2 + 1, none⟩) (hc3.block g hgw (by simp))).trans q1
                clear hc3
                go_wp2_with fail
                refine ⟨⟨k + 1, by go_num, by omega, by rw [Hst2.out]; exact RowOf.kept Hrow.out Hc3.out (by simp), HC.out.thenSame Hc3.out⟩, by simp [intOf]; omega⟩
              · have Hst2 := Lib.hid (show chgS s lo (k + 1) = L ++ [⟨lo + (k : Int), v⟩] by rw [Hst.out, Hv.out]; unfold pushC; rw [if_pos (.inr (by rw [hgl, ← Hv.out]; simpa using hpv))])
                have hpb : (p.v == v) = false := beq_eq_false_iff_ne.2 hpv
                clear hrow hch hL hv hL0 hln hlk hj hjl hgl hlast hcl hne hpv hjb
                go_wp2_with fail
                refine Hat2.out.mono ?_; rintro e w3 ⟨rfl, hc3⟩
                have Hc3 := Lib.hid hc3
                have q3 := (World.cell?_of_block (w := wr) (w' := w3) (a := ⟨g, j * 2 + 1, none⟩) (hc3.block g hgw (by simp))).trans q1
                have Hr3 := Lib.hid (RowOf.kept Hrow.out hc3 (by simp))
                have hs3 := (HC.out.thenSame hc3).size
                clear hc3
                go_wp2_with (at_builtin; go_loud (refine wpl_append rfl _ _ 34 rfl w2.heap.size 47 _ 16 Try.underlying34 pInfo rfl (by decide) pLen pOne (.slice (some ⟨g, 0, none⟩) (j + 1) cv) L rfl (RowOf.kept Hr3.out ((Chg.refl [] _).alloc _) (by simp)) w3.heap.size _ ⟨lo + (k : Int), v⟩ _ _ _ rfl (heap_alloc_new w3 _) rfl (by have := Hlk.out; unfold maxLen; omega) (by have := Hlk.out; omega) (by simp; omega) ?_); intro v' w5 hr5 hg5; have Hr5 := Lib.hid hr5; have Hg5 := Lib.hid hg5; clear hr5 hg5)
                refine ⟨⟨k + 1, by go_num, by omega, by rw [Hst2.out]; exact Hr5.out, ((HC.out.thenSame Hc3.out).alloc _).then (Chg.ofRow (v := .slice (some ⟨g, 0, none⟩) (j + 1) cv) Hg5.out) (by intro y hy hl; have h1 := (Hrow.out.block y (by simpa using hy)).1; omega)⟩, by simp [intOf]; omega⟩
          · have hx : hi < lo + (k : Int) := by have := Hn.out; omega
            go_wp2_with fail
            go_ret2
            have e : k = n := by omega
            subst e
            exact ⟨_, rfl, RowOf.mono Hrow.out Hc2.out.size, Hc2.out.thenSame HC.out⟩
      · have hs : changesS r l lo hi = ([], 2) := by unfold changesS; rw [if_pos hr, if_pos hl, if_neg hg]
        rw [hs]
        have hg' : lo < 0 ∨ (0 ≤ lo ∧ hi < lo) ∨ (0 ≤ lo ∧ lo ≤ hi ∧ 1073741824 < hi) ∨ (0 ≤ lo ∧ lo ≤ hi ∧ hi ≤ 1073741824 ∧ 1000 < hi - lo) := by
          simp [rngB] at hg; omega
        clear hs hr hl hg hm
        rcases hg' with g0 | ⟨g0, g1⟩ | ⟨g0, g1, g2⟩ | ⟨g0, g1, g2, g3⟩
        all_goals
          go_enter Try.func23, Try.ntmps23
          go_wp2_with fail
          refine Hch.out.mono ?_; rintro e w1 ⟨rfl, hc1⟩
          have H1 := Lib.hid (H.out.kept hc1)
          have Hc1 := Lib.hid (((Chg.refl [] w).alloc _).thenSame hc1)
          clear hc1
          go_wp2_with fail
          refine (Hmc.out _ H1.out).mono ?_; rintro e w2 ⟨rfl, hc2⟩
          have Hc2 := Lib.hid (Hc1.out.thenSame hc2)
          clear hc2
          go_wp2_with fail
          go_ret2
          exact ⟨_, rfl, RowOf.nil _ _ _, Hc2.out⟩
    · have hs : changesS r l lo hi = ([], checkP l) := by unfold changesS; rw [if_pos hr, if_neg hl]
      rw [hs]
      have hb : (checkP l == 0) = false := by simpa using hl
      generalize checkP l = E at *
      clear hs hr hl hm
      go_enter Try.func23, Try.ntmps23
      go_wp2_with fail
      refine Hch.out.mono ?_; rintro e w1 ⟨rfl, hc1⟩
      have H1 := Lib.hid (H.out.kept hc1)
      have Hc1 := Lib.hid (((Chg.refl [] w).alloc _).thenSame hc1)
      clear hc1
      go_wp2_with fail
      refine (Hmc.out _ H1.out).mono ?_; rintro e w2 ⟨rfl, hc2⟩
      have Hc2 := Lib.hid (Hc1.out.thenSame hc2)
      clear hc2
      go_wp2_with fail
      go_ret2
      exact ⟨_, rfl, RowOf.nil _ _ _, Hc2.out⟩
  · have hs : changesS r l lo hi = ([], 2) := by unfold changesS; rw [if_neg hr]
    rw [hs]
    rw [show checkR r = 2 by unfold checkR; rw [if_neg hr]] at Hch
    clear hs hr hm
    go_enter Try.func23, Try.ntmps23
    go_wp2_with fail
    refine Hch.out.mono ?_; rintro e w1 ⟨rfl, hc1⟩
    have Hc1 := Lib.hid (((Chg.refl [] w).alloc _).thenSame hc1)
    clear hc1
    go_wp2_with fail
    go_ret2
    exact ⟨_, rfl, RowOf.nil _ _ _, Hc1.out⟩

set_option maxHeartbeats 4000000 in
set_option maxRecDepth 100000 in
theorem rchanges_any (r : Rd) (a : Option Addr) (len cap : Nat) (l : List Pt) (lo hi : Int) (w : World) (h : SlIs pCells 2 w a len l) (hm : len ≤ maxLen) : Calls Try.prog 24 #[.agg #[.int .i64 r.st, .bool r.ab, .int .i64 r.th, .int .i64 r.wd, .int .i64 r.m, .int .i64 r.n, .bool r.ms], .slice a len cap, .int .i64 lo, .int .i64 hi] w (ChPost w (changesS r l lo hi)) := by
  have Hch := Lib.hid (racheck_any r (w.alloc (.cells #[.int .i64 r.st, .bool r.ab, .int .i64 r.th, .int .i64 r.wd, .int .i64 r.m, .int .i64 r.n, .bool r.ms] 24)))
  have Hblk := Lib.hid (heap_alloc_new w (.cells #[.int .i64 r.st, .bool r.ab, .int .i64 r.th, .int .i64 r.wd, .int .i64 r.m, .int .i64 r.n, .bool r.ms] 24))
  have H := Lib.hid (h.kept (((Chg.refl [] w).alloc (.cells #[.int .i64 r.st, .bool r.ab, .int .i64 r.th, .int .i64 r.wd, .int .i64 r.m, .int .i64 r.n, .bool r.ms] 24))))
  clear h
  by_cases hr : ruleB r = true
  · rw [show checkR r = 0 by unfold checkR; rw [if_pos hr]] at Hch
    have Hmc := Lib.hid (fun w h => rmcheck_any a len cap l w h hm)
    by_cases hl : checkP l = 0
    · rw [hl] at Hmc
      by_cases hg : rngB lo hi = true
      · have hs : changesS r l lo hi = (chgS (fun t => (atS r l t).1) lo (hi - lo + 1).toNat, 0) := by unfold changesS; rw [if_pos hr, if_pos hl, if_pos hg]
        rw [hs]
        have hat : ∀ t w', 0 ≤ t → t ≤ 1073741824 → SlIs pCells 2 w' a len l → Calls Try.prog 22 #[.agg #[.int .i64 r.st, .bool r.ab, .int .i64 r.th, .int .i64 r.wd, .int .i64 r.m, .int .i64 r.n, .bool r.ms], .slice a len cap, .int .i64 t] w' (StPost w' ((atS r l t).1, 0)) := by
          intro t w' t0 t1 hsl
          have e := at_ok hr hl t0 t1
          have := rat_any r a len cap l t w' hsl hm
          rw [← e]; exact this
        have Hat := Lib.hid hat
        simp only [rngB, Bool.and_eq_true, decide_eq_true_eq] at hg
        obtain ⟨⟨⟨g0, g1⟩, g2⟩, g3⟩ := hg
        obtain ⟨s, hs2⟩ : ∃ s : Int → Int, s = fun t => (atS r l t).1 := ⟨_, rfl⟩
        have hs3 : ∀ t, (atS r l t).1 = s t := by intro t; rw [hs2]
        simp only [hs3] at Hat
        rw [← hs2]
        obtain ⟨n, hn⟩ : ∃ n : Nat, n = (hi - lo + 1).toNat := ⟨_, rfl⟩
        rw [← hn]
        have hn2 : (n : Int) = hi - lo + 1 := by omega
        have Hn := Lib.hid hn2
        have hn3 : (n : Int) ≤ 1001 := by omega
        clear hs hat hr hl hs2 hs3 hn hn2 hm
        go_enter Try.func24, Try.ntmps24
        go_wp2_with fail
        refine Hch.out.mono ?_; rintro e w1 ⟨rfl, hc1⟩
        have H1 := Lib.hid (H.out.kept hc1)
        have Hb1 := Lib.hid (hc1.at (by simp) Hblk.out)
        have Hc1 := Lib.hid (((Chg.refl [] w).alloc _).thenSame hc1)
        clear hc1
        go_wp2_with fail
        refine (Hmc.out _ H1.out).mono ?_; rintro e w2 ⟨rfl, hc2⟩
        have H2 := Lib.hid (H1.out.kept hc2)
        have Hb2 := Lib.hid (hc2.at (by simp) Hb1.out)
        have Hc2 := Lib.hid (Hc1.out.thenSame hc2)
        clear hc2
        go_wp2_with fail
        go_loopw [11, 12] (fun v i wr => ∃ k : Nat, i = .int .i64 (lo + k) ∧ k ≤ n ∧ RowOf pCells 2 wr w2.heap.size 47 v (chgS s lo k) ∧ Chg [] w2 wr) (fun _ i _ => (hi + 1 - intOf i).toNat)
        case atStart => exact ⟨0, by simp, Nat.zero_le _, RowOf.nil _ _ _, Chg.refl _ _⟩
        case round =>
          obtain ⟨k, rfl, hkn, hrow, hch⟩ := hrel
          have Hrow := Lib.hid hrow
          have HC := Lib.hid hch
          have r0 := blk_cell (hch.at (by simp) Hb2.out)
          have hln := chg_len s lo k
          by_cases hk : k < n
          · have hk1 : lo + (k : Int) ≤ hi := by have := Hn.out; omega
            have hk0 : 0 ≤ lo + (k : Int) := by omega
            have Hst : Hid (chgS s lo (k + 1) = pushC s (chgS s lo k) (lo + k)) := rfl
            have Hat2 := Lib.hid (Hat.out (lo + (k : Int)) wr hk0 (by omega) (H2.out.kept hch))
            obtain ⟨L, hL⟩ : ∃ L, L = chgS s lo k := ⟨_, rfl⟩
            rw [← hL] at Hst Hrow hrow hln
            obtain ⟨v, hv⟩ : ∃ v, v = s (lo + (k : Int)) := ⟨_, rfl⟩
            rw [← hv] at Hat2
            have Hv := Lib.hid hv
            have hlk : L.length + 1 ≤ 1001 := by omega
            have Hlk := Lib.hid hlk
            rcases List.eq_nil_or_concat L with hL0 | ⟨L0, p, hL0⟩
            · have Hst2 := Lib.hid (show chgS s lo (k + 1) = L ++ [⟨lo + (k : Int), v⟩] by rw [Hst.out, Hv.out]; unfold pushC; rw [if_pos (.inl hL0)])
              obtain ⟨av, cv, hvs⟩ := RowOf.shape hrow
              subst hvs
              have hz : L.length = 0 := by rw [hL0]; rfl
              rw [hz]
              rw [hz] at Hrow
              clear hrow hch hL hv hL0 hln hlk hz
              go_wp2_with fail
              refine Hat2.out.mono ?_; rintro e w3 ⟨rfl, hc3⟩
              have Hc3 := Lib.hid hc3
              have Hr3 := Lib.hid (RowOf.kept Hrow.out hc3 (by simp))
              have hs3 := (HC.out.thenSame hc3).size
              clear hc3
              go_wp2_with (at_builtin; go_loud (refine wpl_append rfl _ _ 34 rfl w2.heap.size 47 _ 16 Try.underlying34 pInfo rfl (by decide) pLen pOne (.slice av 0 cv) L rfl (RowOf.kept Hr3.out ((Chg.refl [] _).alloc _) (by simp)) w3.heap.size _ ⟨lo + (k : Int), v⟩ _ _ _ rfl (heap_alloc_new w3 _) rfl (by have := Hlk.out; unfold maxLen; omega) (by have := Hlk.out; omega) (by simp; omega) ?_); intro v' w5 hr5 hg5; have Hr5 := Lib.hid hr5; have Hg5 := Lib.hid hg5; clear hr5 hg5)
              refine ⟨⟨k + 1, by go_num, by omega, by rw [Hst2.out]; exact Hr5.out, ((HC.out.thenSame Hc3.out).alloc _).then (Chg.ofRow (v := .slice av 0 cv) Hg5.out) (by intro y hy hl; have h1 := (Hrow.out.block y (by simpa using hy)).1; omega)⟩, by simp [intOf]; omega⟩
            · obtain ⟨j, hj⟩ : ∃ j, L.length = j + 1 := ⟨L0.length, by rw [hL0]; simp⟩
              have hjl : j < L.length := by omega
              have hgl : L.getLast?.map Pt.v = some p.v := by rw [hL0]; simp
              have hlast : L[j] = p := by
                have : L[j]? = some p := by rw [hL0]; have : L0.length = j := by have := congrArg List.length hL0; simp at this; omega
                                            subst this; simp
                rw [List.getElem?_eq_getElem hjl] at this
                exact Option.some.inj this
              obtain ⟨g, cv, hvs, -, -, hcl, -, -, hgw⟩ := (RowOf.at hrow pLen).resolve_left (fun h => by rw [h.2] at hjl; simp at hjl)
              subst hvs
              have q1 := hcl j hjl 1 (by omega)
              rw [hlast] at q1
              simp only [pCells, List.getElem?_cons_zero, List.getElem?_cons_succ] at q1
              rw [hj]
              have hne : L ≠ [] := by rw [hL0]; simp
              rw [hj] at Hrow
              have hj0 : (0 : Int) ≤ (j : Int) := by omega
              have hj1 : (j : Int) ≤ 1001 := by omega
              have hjb : ((j + 1 : Nat) : Int) = (j : Int) + 1 := by omega
              have hjb2 : (((j : Int) + 1) == 0) = false := beq_eq_false_iff_ne.2 (by omega)
              by_cases hpv : p.v = v
              · have Hst2 := Lib.hid (show chgS s lo (k + 1) = L by rw [Hst.out]; unfold pushC; rw [if_neg (by rw [hgl, ← Hv.out, hpv]; simp [hne])])
                rw [hpv] at q1
                clear hrow hch hL hv hL0 hln hlk hj hjl hgl hlast hcl hne hpv hjb
                go_wp2_with fail
                refine Hat2.out.mono ?_; rintro e w3 ⟨rfl, hc3⟩
                have Hc3 := Lib.hid hc3
                have q3 := (World.cell?_of_block (w := wr) (w' := w3) (a := ⟨g, j * 2 + 1, none⟩) (hc3.block g hgw (by simp))).trans q1
                clear hc3
                go_wp2_with fail
                refine ⟨⟨k + 1, by go_num, by omega, by rw [Hst2.out]; exact RowOf.kept Hrow.out Hc3.out (by simp), HC.out.thenSame Hc3.out⟩, by simp [intOf]; omega⟩
              · have Hst2 := Lib.hid (show chgS s lo (k + 1) = L ++ [⟨lo + (k : Int), v⟩] by rw [Hst.out, Hv.out]; unfold pushC; rw [if_pos (.inr (by rw [hgl, ← Hv.out]; simpa using hpv))])
                have hpb : (p.v == v) = false := beq_eq_false_iff_ne.2 hpv
                clear hrow hch hL hv hL0 hln hlk hj hjl hgl hlast hcl hne hpv hjb
                go_wp2_with fail
                refine Hat2.out.mono ?_; rintro e w3 ⟨rfl, hc3⟩
                have Hc3 := Lib.hid hc3
                have q3 := (World.cell?_of_block (w := wr) (w' := w3) (a := ⟨g, j * 2 + 1, none⟩) (hc3.block g hgw (by simp))).trans q1
                have Hr3 := Lib.hid (RowOf.kept Hrow.out hc3 (by simp))
                have hs3 := (HC.out.thenSame hc3).size
                clear hc3
                go_wp2_with (at_builtin; go_loud (refine wpl_append rfl _ _ 34 rfl w2.heap.size 47 _ 16 Try.underlying34 pInfo rfl (by decide) pLen pOne (.slice (some ⟨g, 0, none⟩) (j + 1) cv) L rfl (RowOf.kept Hr3.out ((Chg.refl [] _).alloc _) (by simp)) w3.heap.size _ ⟨lo + (k : Int), v⟩ _ _ _ rfl (heap_alloc_new w3 _) rfl (by have := Hlk.out; unfold maxLen; omega) (by have := Hlk.out; omega) (by simp; omega) ?_); intro v' w5 hr5 hg5; have Hr5 := Lib.hid hr5; have Hg5 := Lib.hid hg5; clear hr5 hg5)
                refine ⟨⟨k + 1, by go_num, by omega, by rw [Hst2.out]; exact Hr5.out, ((HC.out.thenSame Hc3.out).alloc _).then (Chg.ofRow (v := .slice (some ⟨g, 0, none⟩) (j + 1) cv) Hg5.out) (by intro y hy hl; have h1 := (Hrow.out.block y (by simpa using hy)).1; omega)⟩, by simp [intOf]; omega⟩
          · have hx : hi < lo + (k : Int) := by have := Hn.out; omega
            go_wp2_with fail
            go_ret2
            have e : k = n := by omega
            subst e
            exact ⟨_, rfl, RowOf.mono Hrow.out Hc2.out.size, Hc2.out.thenSame HC.out⟩
      · have hs : changesS r l lo hi = ([], 2) := by unfold changesS; rw [if_pos hr, if_pos hl, if_neg hg]
        rw [hs]
        have hg' : lo < 0 ∨ (0 ≤ lo ∧ hi < lo) ∨ (0 ≤ lo ∧ lo ≤ hi ∧ 1073741824 < hi) ∨ (0 ≤ lo ∧ lo ≤ hi ∧ hi ≤ 1073741824 ∧ 1000 < hi - lo) := by
          simp [rngB] at hg; omega
        clear hs hr hl hg hm
        rcases hg' with g0 | ⟨g0, g1⟩ | ⟨g0, g1, g2⟩ | ⟨g0, g1, g2, g3⟩
        all_goals
          go_enter Try.func24, Try.ntmps24
          go_wp2_with fail
          refine Hch.out.mono ?_; rintro e w1 ⟨rfl, hc1⟩
          have H1 := Lib.hid (H.out.kept hc1)
          have Hc1 := Lib.hid (((Chg.refl [] w).alloc _).thenSame hc1)
          clear hc1
          go_wp2_with fail
          refine (Hmc.out _ H1.out).mono ?_; rintro e w2 ⟨rfl, hc2⟩
          have Hc2 := Lib.hid (Hc1.out.thenSame hc2)
          clear hc2
          go_wp2_with fail
          go_ret2
          exact ⟨_, rfl, RowOf.nil _ _ _, Hc2.out⟩
    · have hs : changesS r l lo hi = ([], checkP l) := by unfold changesS; rw [if_pos hr, if_neg hl]
      rw [hs]
      have hb : (checkP l == 0) = false := by simpa using hl
      generalize checkP l = E at *
      clear hs hr hl hm
      go_enter Try.func24, Try.ntmps24
      go_wp2_with fail
      refine Hch.out.mono ?_; rintro e w1 ⟨rfl, hc1⟩
      have H1 := Lib.hid (H.out.kept hc1)
      have Hc1 := Lib.hid (((Chg.refl [] w).alloc _).thenSame hc1)
      clear hc1
      go_wp2_with fail
      refine (Hmc.out _ H1.out).mono ?_; rintro e w2 ⟨rfl, hc2⟩
      have Hc2 := Lib.hid (Hc1.out.thenSame hc2)
      clear hc2
      go_wp2_with fail
      go_ret2
      exact ⟨_, rfl, RowOf.nil _ _ _, Hc2.out⟩
  · have hs : changesS r l lo hi = ([], 2) := by unfold changesS; rw [if_neg hr]
    rw [hs]
    rw [show checkR r = 2 by unfold checkR; rw [if_neg hr]] at Hch
    clear hs hr hm
    go_enter Try.func24, Try.ntmps24
    go_wp2_with fail
    refine Hch.out.mono ?_; rintro e w1 ⟨rfl, hc1⟩
    have Hc1 := Lib.hid (((Chg.refl [] w).alloc _).thenSame hc1)
    clear hc1
    go_wp2_with fail
    go_ret2
    exact ⟨_, rfl, RowOf.nil _ _ _, Hc1.out⟩

end Go.Proofs.Ytmmhcacpehpjdaa
