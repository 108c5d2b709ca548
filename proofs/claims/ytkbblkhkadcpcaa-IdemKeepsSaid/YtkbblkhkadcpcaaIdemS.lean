/- Chapter 27: contracts of the reference's table: Begin, open, Finish, Abandon, Sweep, Len. No condition. -/
import Derived.Test.YtkbblkhkadcpcaaIdemR
namespace Go.Proofs.Ytkbblkhkadcpcaa
open Go.RowKit

theorem find_cases (l : List REnt) (key : ByteArray) : (∃ k, ∃ hk : k < l.length, findE l key = (k : Int) ∧ lookL REnt.key l key = some l[k]) ∨ (findE l key = -1 ∧ lookL REnt.key l key = none) := by
  unfold findE
  cases h : l.findIdx? (fun x => x.key == key) with
  | none =>
    refine .inr ⟨rfl, ?_⟩
    rw [List.findIdx?_eq_none_iff] at h
    exact lookL_miss fun x hx => by simpa using h x hx
  | some k =>
    rw [List.findIdx?_eq_some_iff_getElem] at h
    obtain ⟨hk, h1, h2⟩ := h
    refine .inl ⟨k, hk, rfl, lookL_hit (List.getElem?_eq_getElem hk) (by simpa using h1) fun y hy => ?_⟩
    obtain ⟨j, hj, rfl⟩ := List.mem_take_iff_getElem.1 hy
    have := h2 j (by omega)
    simpa using this

def livS (s : RSt) (now : Int) : List REnt := s.l.filter (rlive s.ttl now)

def rbeginS (s : RSt) (key dig : ByteArray) (now : Int) : (Int × ByteArray × Int) × RSt :=
  if idB key = false ∨ idB dig = false then ((0, em, 4), s)
  else if clockE s now ≠ 0 then ((0, em, clockE s now), s)
  else match lookL REnt.key (livS s now) key with
    | none => if s.room ≤ ((livS s now).length : Int) then ((0, em, 3), s) else ((1, em, 0), { s with time := now, l := livS s now ++ [⟨key, dig, em, false, now⟩] })
    | some r => if r.dig ≠ dig then ((0, em, 19), s) else if r.done = true then ((3, r.res, 0), { s with time := now, l := livS s now }) else ((2, em, 0), { s with time := now, l := livS s now })

def RBeginPost (w : World) (rb : Nat) (F : List Nat) (r : (Int × ByteArray × Int) × RSt) (e : Ending) (w' : World) : Prop :=
  e = .returned (.tuple #[.int .i64 r.1.1, .string r.1.2.1, .int .i64 r.1.2.2]) ∧ RTabIs w' rb F r.2 ∧ Chg [rb] w w'

theorem RTabIs.heap {w : World} {rb : Nat} {F : List Nat} {s : RSt} (h : RTabIs w rb F s) : ∃ sv, w.heap[rb]? = some (.cells #[.int .i64 s.room, .int .i64 s.ttl, .int .i64 s.time, sv] 66 (0, 0)) ∧ RowIs w sv s.l := by
  obtain ⟨_, sv, h1, h2, _⟩ := h; exact ⟨sv, h1, h2⟩

/-- The table with another time and a new row. -/
theorem RTabIs.turn {w w1 : World} {rb : Nat} {F : List Nat} {s : RSt} (h : RTabIs w rb F s) (hF : ∀ x ∈ F, x < w.heap.size) (hrb : rb < w.heap.size) {sv : Value} {l : List REnt} {now : Int} (hr : RowOf rCells 5 w1 w.heap.size 70 sv l)
    (hb : w1.heap[rb]? = some (.cells #[.int .i64 s.room, .int .i64 s.ttl, .int .i64 now, sv] 66 (0, 0))) : RTabIs w1 rb F { s with time := now, l := l } :=
  ⟨h.1, sv, hb, hr.mono (Nat.zero_le _), fun g hg => by
    have := (hr.block g hg).1
    exact ⟨fun e => by have := hF g e; omega, by omega⟩⟩

theorem clock_zero (rb : Nat) (s : RSt) (now : Int) (w : World) {sv : Value} (h : w.heap[rb]? = some (.cells #[.int .i64 s.room, .int .i64 s.ttl, .int .i64 s.time, sv] 66 (0, 0))) (h0 : clockE s now = 0) : Calls Try.prog 38 #[.pointer (some ⟨rb, 0, none⟩), .int .i64 now] w fun e w' => e = .returned (.int .i64 0) ∧ w = w' := by
  have := clock_any rb s now w h
  rw [h0] at this; exact this
theorem names_zero (key dig : ByteArray) (w : World) (hk : key.size ≤ maxLen) (hd : dig.size ≤ maxLen) (h1 : idB key = true) (h2 : idB dig = true) : Calls Try.prog 37 #[.string key, .string dig] w fun e w' => e = .returned (.int .i64 0) ∧ w = w' := by
  have := names_any key dig w hk hd
  simp only [namesE, h1, h2] at this; exact this
theorem names_four (key dig : ByteArray) (w : World) (hk : key.size ≤ maxLen) (hd : dig.size ≤ maxLen) (h : idB key = false ∨ idB dig = false) : Calls Try.prog 37 #[.string key, .string dig] w fun e w' => e = .returned (.int .i64 4) ∧ w = w' := by
  have := names_any key dig w hk hd
  simp only [namesE, if_pos h] at this; exact this
theorem clockE_zero {s : RSt} {now : Int} (h0 : clockE s now = 0) : 0 ≤ now ∧ now ≤ 1073741824 ∧ s.time ≤ now := by
  unfold clockE at h0; split at h0
  · omega
  · split at h0 <;> omega

set_option maxHeartbeats 2000000 in
set_option maxRecDepth 100000 in
theorem rbegin_any (rb : Nat) (F : List Nat) (s : RSt) (key dig : ByteArray) (now : Int) (w : World) (h : RTabIs w rb F s) (hok : s.ok) (hF : ∀ x ∈ F, x < w.heap.size) (hk : key.size ≤ maxLen) (hd : dig.size ≤ maxLen) :
    Calls Try.prog 28 #[.pointer (some ⟨rb, 0, none⟩), .string key, .string dig, .int .i64 now] w (RBeginPost w rb F (rbeginS s key dig now)) := by
  obtain ⟨o1, o2, o3, o4, o5, o6, o7, o8⟩ := hok
  obtain ⟨sv, hb, hr⟩ := h.heap
  have hrb := lt_of_heap hb
  have H := Lib.hid h
  have Hb := Lib.hid hb
  have O8 := Lib.hid o8
  have Hr := Lib.hid hr
  clear h o8 hr
  by_cases hid : idB key = false ∨ idB dig = false
  · have HR : Hid (rbeginS s key dig now = ((0, em, 4), s)) := by show _ = _; simp only [rbeginS, if_pos hid]
    rw [HR.out]; clear HR hb
    go_enter Try.func28, Try.ntmps28
    go_wp2_with fail
    refine (names_four _ _ _ hk hd hid).mono ?_; rintro e w1 ⟨rfl, rfl⟩
    clear hid
    go_wp2_with fail
    go_ret3
    exact ⟨rfl, H.out, Chg.refl _ _⟩
  · have h1 : idB key = true := by cases hh : idB key <;> simp_all
    have h2 : idB dig = true := by cases hh : idB dig <;> simp_all
    by_cases h0 : clockE s now = 0
    · obtain ⟨n0, n1, _⟩ := clockE_zero h0
      have H0 := Lib.hid h0
      have hliv : Calls Try.prog 33 #[.pointer (some ⟨rb, 0, none⟩), .int .i64 now] w (LivPost w (livS s now)) := rliving_any rb s sv now w hb Hr.out ⟨by omega, o4⟩ o7 O8.out
      have Hliv := Lib.hid hliv
      have hll : (livS s now).length ≤ 4096 := Nat.le_trans (List.length_filter_le _ _) o7
      have hre : rbeginS s key dig now = match lookL REnt.key (livS s now) key with
          | none => if s.room ≤ ((livS s now).length : Int) then ((0, em, 3), s) else ((1, em, 0), { s with time := now, l := livS s now ++ [⟨key, dig, em, false, now⟩] })
          | some r => if r.dig ≠ dig then ((0, em, 19), s) else if r.done = true then ((3, r.res, 0), { s with time := now, l := livS s now }) else ((2, em, 0), { s with time := now, l := livS s now }) := by
        simp only [rbeginS]; rw [if_neg hid, if_neg (by simp [h0])]
      have Hre := Lib.hid hre
      clear hid h0 hliv hre
      generalize livS s now = L at *
      rcases find_cases L key with ⟨k, hkk, hfe, hlk⟩ | ⟨hfe, hlk⟩
      · have Hfe := Lib.hid hfe
        obtain ⟨X, hX⟩ : ∃ X, X = L[k] := ⟨_, rfl⟩
        rw [← hX] at hlk
        have HX := Lib.hid hX
        clear hX hfe
        by_cases hdg : X.dig = dig
        · have HR : Hid (rbeginS s key dig now = if X.done = true then ((3, X.res, 0), { s with time := now, l := L }) else ((2, em, 0), { s with time := now, l := L })) := by show _ = _; rw [Hre.out, hlk]; simp only [hdg, ne_eq, not_true_eq_false, if_false]
          have hdb : (X.dig.toList == dig.toList) = true := (Lib.bytes_beq_iff _ _).2 hdg
          rw [HR.out]
          clear hlk HR Hre hdg
          by_cases hdn : X.done = true
          all_goals
            first | rw [if_pos hdn] | rw [if_neg hdn]
            go_enter Try.func28, Try.ntmps28
            go_wp2_with fail
            refine (names_zero _ _ _ hk hd h1 h2).mono ?_; rintro e w1 ⟨rfl, rfl⟩
            go_wp2_with fail
            refine (clock_zero rb s now _ Hb.out H0.out).mono ?_; rintro e w2 ⟨rfl, rfl⟩
            go_wp2_with fail
            refine Hliv.out.mono ?_; rintro e w3 ⟨lv, rfl, hrow, hc3⟩
            go_wp2_with fail
            refine (find_any lv L key _ (hrow.mono (Nat.zero_le _)) hll).mono ?_
            rw [Hfe.out]; rintro e w4 ⟨rfl, rfl⟩
            have hb3 := hc3.at (by simp) Hb.out
            have hcb := blk_cell hb3
            have hfb := blk_free hb3
            have hrb3 := hc3.lt hrb
            have Hrow := Lib.hid hrow
            have hgb : Hid (∀ g, lv.ownBlock = some g → g ∉ [rb]) := fun g hg => by have := (hrow.block g hg).1; simp; omega
            rcases hrow.at rLen with ⟨_, hnil⟩ | ⟨g, lc, hlv, hlc, hcm, hcell, _, hgw, hgl⟩
            · rw [hnil] at hkk; simp at hkk
            · have d1 := hcell k hkk 1 (by omega)
              have d2 := hcell k hkk 2 (by omega)
              have d3 := hcell k hkk 3 (by omega)
              rw [← HX.out] at d1 d2 d3
              simp only [rCells, List.getElem?_cons_zero, List.getElem?_cons_succ] at d1 d2 d3
              have hne : g ≠ rb := by omega
              have hk' : (k : Int) < (L.length : Int) := by omega
              have hk0 : (0 : Int) ≤ (k : Int) := by omega
              subst hlv
              clear hrow hcell
              have hb2 := blk_set (blk_set hb3 2 (.int .i64 now)) 3 (.slice (some ⟨g, 0, none⟩) L.length lc)
              have hrow2 := RowOf.kept (S := [rb]) Hrow.out (((Chg.refl _ _).setCell ⟨rb, 2, none⟩ (.int .i64 now) (by simp)).setCell ⟨rb, 3, none⟩ (.slice (some ⟨g, 0, none⟩) L.length lc) (by simp)) hgb.out
              have hc4 := ((hc3.mono (T := [rb]) (by simp)).setCell ⟨rb, 2, none⟩ (.int .i64 now) (by simp)).setCell ⟨rb, 3, none⟩ (.slice (some ⟨g, 0, none⟩) L.length lc) (by simp)
              have HT := Lib.hid (H.out.turn hF hrb hrow2 hb2)
              have Hc4 := Lib.hid hc4
              clear hb2 hrow2 hc4
              go_wp2_with fail
              first
                | (go_ret3; exact ⟨rfl, HT.out, Hc4.out⟩)
                | (go_quiet (fail)
                   go_wp2_with fail
                   go_ret3
                   exact ⟨rfl, HT.out.kept ((Chg.refl [] _).drewN _) (by simp), Hc4.out.drewN _⟩)
        · have hdb : (X.dig.toList == dig.toList) = false := (Lib.bytes_beq_false_iff _ _).2 hdg
          have HR : Hid (rbeginS s key dig now = ((0, em, 19), s)) := by show _ = _; rw [Hre.out, hlk]; simp only [ne_eq, hdg, not_false_eq_true, if_true]
          rw [HR.out]
          clear hlk HR Hre hdg
          go_enter Try.func28, Try.ntmps28
          go_wp2_with fail
          refine (names_zero _ _ _ hk hd h1 h2).mono ?_; rintro e w1 ⟨rfl, rfl⟩
          go_wp2_with fail
          refine (clock_zero rb s now _ Hb.out H0.out).mono ?_; rintro e w2 ⟨rfl, rfl⟩
          go_wp2_with fail
          refine Hliv.out.mono ?_; rintro e w3 ⟨lv, rfl, hrow, hc3⟩
          go_wp2_with fail
          refine (find_any lv L key _ (hrow.mono (Nat.zero_le _)) hll).mono ?_
          rw [Hfe.out]; rintro e w4 ⟨rfl, rfl⟩
          have Hrow := Lib.hid hrow
          rcases hrow.at rLen with ⟨_, hnil⟩ | ⟨g, lc, hlv, hlc, hcm, hcell, _, _, _⟩
          · rw [hnil] at hkk; simp at hkk
          · have d1 := hcell k hkk 1 (by omega)
            rw [← HX.out] at d1
            simp only [rCells, List.getElem?_cons_zero, List.getElem?_cons_succ] at d1
            have hk' : (k : Int) < (L.length : Int) := by omega
            have hk0 : (0 : Int) ≤ (k : Int) := by omega
            subst hlv
            clear hrow hcell
            go_wp2_with fail
            go_ret3
            exact ⟨rfl, H.out.kept hc3 (by simp), hc3.mono (by simp)⟩
      · have Hfe := Lib.hid hfe
        by_cases hlim : s.room ≤ ((L).length : Int)
        · have HR : Hid (rbeginS s key dig now = ((0, em, 3), s)) := by show _ = _; rw [Hre.out, hlk]; simp only [if_pos hlim]
          rw [HR.out]
          clear hfe hlk HR Hre
          go_enter Try.func28, Try.ntmps28
          go_wp2_with fail
          refine (names_zero _ _ _ hk hd h1 h2).mono ?_; rintro e w1 ⟨rfl, rfl⟩
          go_wp2_with fail
          refine (clock_zero rb s now _ Hb.out H0.out).mono ?_; rintro e w2 ⟨rfl, rfl⟩
          go_wp2_with fail
          refine Hliv.out.mono ?_; rintro e w3 ⟨lv, rfl, hrow, hc3⟩
          go_wp2_with fail
          refine (find_any lv (L) key _ (hrow.mono (Nat.zero_le _)) hll).mono ?_
          rw [Hfe.out]; rintro e w4 ⟨rfl, rfl⟩
          obtain ⟨la, lc, rfl⟩ := RowOf.shape hrow
          have hcb := blk_cell (hc3.at (by simp) Hb.out)
          have Hrow := Lib.hid hrow
          clear hrow
          go_wp2_with fail
          go_ret3
          exact ⟨rfl, H.out.kept hc3 (by simp), hc3.mono (by simp)⟩
        · have HR : Hid (rbeginS s key dig now = ((1, em, 0), { s with time := now, l := L ++ [⟨key, dig, em, false, now⟩] })) := by show _ = _; rw [Hre.out, hlk]; simp only [if_neg hlim]
          rw [HR.out]
          clear hfe hlk HR Hre
          go_enter Try.func28, Try.ntmps28
          go_wp2_with fail
          refine (names_zero _ _ _ hk hd h1 h2).mono ?_; rintro e w1 ⟨rfl, rfl⟩
          go_wp2_with fail
          refine (clock_zero rb s now _ Hb.out H0.out).mono ?_; rintro e w2 ⟨rfl, rfl⟩
          go_wp2_with fail
          refine Hliv.out.mono ?_; rintro e w3 ⟨lv, rfl, hrow, hc3⟩
          go_wp2_with fail
          refine (find_any lv (L) key _ (hrow.mono (Nat.zero_le _)) hll).mono ?_
          rw [Hfe.out]; rintro e w4 ⟨rfl, rfl⟩
          obtain ⟨la, lc, hlv⟩ := RowOf.shape hrow
          have hb3 := hc3.at (by simp) Hb.out
          have hcb := blk_cell hb3
          have hfb := blk_free hb3
          have hrb3 := hc3.lt hrb
          have Hrow := Lib.hid hrow
          have hsz := hc3.size
          have hgb : Hid (∀ g, lv.ownBlock = some g → g ∉ [rb]) := fun g hg => by have := (hrow.block g hg).1; simp; omega
          subst hlv
          clear hrow
          go_wp2_with (at_builtin; refine wpl_append rfl _ _ 64 rfl w.heap.size 70 _ 64 Try.underlying64 rInfo rfl (by decide) rLen rOne (.slice la L.length lc) L rfl (RowOf.kept (S := [rb]) Hrow.out ((((Chg.refl _ _).setCell _ _ (by simp)).setCell _ _ (by simp)).alloc _) hgb.out) w3.heap.size _ ⟨key, dig, em, false, now⟩ #[.string key, .string dig, .string em, .bool false, .int .i64 now] 70 (0, 0) rfl (by rw [← setsize w3 ⟨rb, 2, none⟩ (.int .i64 now), ← setsize (w3.setCell ⟨rb, 2, none⟩ (.int .i64 now)) ⟨rb, 3, none⟩ (.slice la L.length lc)]; exact heap_alloc_new _ _) rfl ?c1 ?c2 ?c3 ?_; rotate_left 3; intro v' w1 hrow1 hg1; obtain ⟨a', c', hv'⟩ := RowOf.shape hrow1; have Hrow1 := Lib.hid hrow1; rw [hv']; rw [hv'] at Hrow1; clear hv' hrow1 v'; have hb1 := (Chg.ofRow hg1).at (b := rb) (by intro e; exact hgb.out rb (by simpa using e) (by simp)) (blk_alloc (blk_set (blk_set hb3 2 _) 3 _)); have hcb1 := blk_cell hb1; have hfb1 := blk_free hb1; have Hb1 := Lib.hid hb1; clear hb1)
          case c1 => unfold maxLen; omega
          case c2 => omega
          case c3 => simp; omega
          go_ret3
          have h5 := Hrow1.out
          rw [List.length_append, List.length_singleton] at h5
          have hb2 := blk_set Hb1.out 3 (.slice a' (L.length + 1) c')
          have hrow2 := RowOf.kept (S := [rb]) h5 ((Chg.refl _ _).setCell ⟨rb, 3, none⟩ (.slice a' (L.length + 1) c') (by simp)) (fun g hg => by have := (h5.block g hg).1; simp; omega)
          have hcA : Chg [rb] w w1 := (((((hc3.mono (T := [rb]) (by simp)).setCell ⟨rb, 2, none⟩ (.int .i64 now) (by simp)).setCell ⟨rb, 3, none⟩ (.slice la L.length lc) (by simp)).alloc (.cells #[.string key, .string dig, .string em, .bool false, .int .i64 now] 70)).then (Chg.ofRow hg1) (by
            intro y hy hl
            simp at hy
            have := (Hrow.out.block y hy).1
            omega))
          exact ⟨rfl, H.out.turn hF hrb hrow2 hb2, hcA.setCell _ _ (by simp)⟩
    · have HR : Hid (rbeginS s key dig now = ((0, em, clockE s now), s)) := by show _ = _; simp only [rbeginS]; rw [if_neg hid, if_pos h0]
      rw [HR.out]
      have hb0 : (clockE s now == 0) = false := by simpa using h0
      clear HR h0 hid hb
      go_enter Try.func28, Try.ntmps28
      go_wp2_with fail
      refine (names_zero _ _ _ hk hd h1 h2).mono ?_; rintro e w1 ⟨rfl, rfl⟩
      go_wp2_with fail
      refine (clock_any rb s now _ Hb.out).mono ?_; rintro e w2 ⟨rfl, rfl⟩
      go_wp2_with fail
      go_ret3
      exact ⟨rfl, H.out, Chg.refl _ _⟩
end Go.Proofs.Ytkbblkhkadcpcaa
