/- Chapter 27: contracts of the reference's table: open, Finish, Abandon, Sweep, Len. No condition. -/
import Derived.Test.YtkbblkhkadcpcaaIdemS
import Derived.Test.YtkbblkhkadcpcaaRowk
namespace Go.Proofs.Ytkbblkhkadcpcaa
open Go.RowKit

/-- The index of the busy record of a request and the error, and the table behind the call. -/
def ropenS (s : RSt) (key dig : ByteArray) (now : Int) : (Int × Int) × RSt :=
  match lookL REnt.key (livS s now) key with
  | none => ((0, 5), s)
  | some r => if r.dig ≠ dig then ((0, 19), s) else if r.done = true then ((0, 10), s) else ((findE (livS s now) key, 0), { s with time := now, l := livS s now })

def ROpenPost (w : World) (rb : Nat) (F : List Nat) (r : (Int × Int) × RSt) (e : Ending) (w' : World) : Prop :=
  e = .returned (.tuple #[.int .i64 r.1.1, .int .i64 r.1.2]) ∧ RTabIs w' rb F r.2 ∧ Chg [rb] w w' ∧
    (r.1.2 = 0 → ∃ sv, w'.heap[rb]? = some (.cells #[.int .i64 r.2.room, .int .i64 r.2.ttl, .int .i64 r.2.time, sv] 66 (0, 0)) ∧ RowOf rCells 5 w' w.heap.size 70 sv r.2.l)

set_option maxHeartbeats 2000000 in
set_option maxRecDepth 100000 in
theorem ropen_any (rb : Nat) (F : List Nat) (s : RSt) (key dig : ByteArray) (now : Int) (w : World) (h : RTabIs w rb F s) (hok : s.ok) (hF : ∀ x ∈ F, x < w.heap.size) :
    Calls Try.prog 40 #[.pointer (some ⟨rb, 0, none⟩), .string key, .string dig, .int .i64 now] w (ROpenPost w rb F (ropenS s key dig now)) := by
  obtain ⟨o1, o2, o3, o4, o5, o6, o7, o8⟩ := hok
  obtain ⟨sv, hb, hr⟩ := h.heap
  have hrb := lt_of_heap hb
  have H := Lib.hid h
  have Hb := Lib.hid hb
  have Hr := Lib.hid hr
  have hliv : Calls Try.prog 33 #[.pointer (some ⟨rb, 0, none⟩), .int .i64 now] w (LivPost w (livS s now)) := rliving_any rb s sv now w hb Hr.out ⟨by omega, o4⟩ o7 o8
  have Hliv := Lib.hid hliv
  have hll : (livS s now).length ≤ 4096 := Nat.le_trans (List.length_filter_le _ _) o7
  have hre : ropenS s key dig now = match lookL REnt.key (livS s now) key with
    | none => ((0, 5), s)
    | some r => if r.dig ≠ dig then ((0, 19), s) else if r.done = true then ((0, 10), s) else ((findE (livS s now) key, 0), { s with time := now, l := livS s now }) := rfl
  have Hre := Lib.hid hre
  clear h hliv hre hr o8
  generalize livS s now = L at *
  rcases find_cases L key with ⟨k, hkk, hfe, hlk⟩ | ⟨hfe, hlk⟩
  · have Hfe := Lib.hid hfe
    obtain ⟨X, hX⟩ : ∃ X, X = L[k] := ⟨_, rfl⟩
    rw [← hX] at hlk
    have HX := Lib.hid hX
    clear hX
    by_cases hdg : X.dig = dig
    · have hdb : (X.dig.toList == dig.toList) = true := (Lib.bytes_beq_iff _ _).2 hdg
      by_cases hdn : X.done = true
      · have HR : Hid (ropenS s key dig now = ((0, 10), s)) := by show _ = _; rw [Hre.out, hlk]; simp only [hdg, hdn, ne_eq, not_true_eq_false, if_false, if_true]
        rw [HR.out]
        clear hlk HR Hre hdg hfe
        go_enter Try.func40, Try.ntmps40
        go_wp2_with fail
        refine Hliv.out.mono ?_; rintro e w3 ⟨lv, rfl, hrow, hc3⟩
        go_wp2_with fail
        refine (find_any lv L key _ (hrow.mono (Nat.zero_le _)) hll).mono ?_
        rw [Hfe.out]; rintro e w4 ⟨rfl, rfl⟩
        rcases hrow.at rLen with ⟨_, hnil⟩ | ⟨g, lc, hlv, hlc, hcm, hcell, _, hgw, hgl⟩
        · rw [hnil] at hkk; simp at hkk
        · have d1 := hcell k hkk 1 (by omega)
          have d3 := hcell k hkk 3 (by omega)
          rw [← HX.out] at d1 d3
          simp only [rCells, List.getElem?_cons_zero, List.getElem?_cons_succ] at d1 d3
          have hk' : (k : Int) < (L.length : Int) := by omega
          have hk0 : (0 : Int) ≤ (k : Int) := by omega
          subst hlv
          clear hrow hcell
          go_wp2_with fail
          go_ret2
          exact ⟨rfl, H.out.kept hc3 (by simp), hc3.mono (by simp), fun h => by simp at h⟩
      · have hdn' : X.done = false := by simpa using hdn
        have HR : Hid (ropenS s key dig now = (((k : Int), 0), { s with time := now, l := L })) := by show _ = _; rw [Hre.out, hlk, hfe]; simp only [hdg, hdn', ne_eq, not_true_eq_false, if_false, Bool.false_eq_true]
        rw [HR.out]
        clear hlk HR Hre hdg hfe hdn
        go_enter Try.func40, Try.ntmps40
        go_wp2_with fail
        refine Hliv.out.mono ?_; rintro e w3 ⟨lv, rfl, hrow, hc3⟩
        go_wp2_with fail
        refine (find_any lv L key _ (hrow.mono (Nat.zero_le _)) hll).mono ?_
        rw [Hfe.out]; rintro e w4 ⟨rfl, rfl⟩
        have hb3 := hc3.at (by simp) Hb.out
        have hcb := blk_cell hb3
        have hfb := blk_free hb3
        have hrb3 := hc3.lt hrb
        have Hrow := Lib.hid hrow
        have hgb : Hid (∀ g, lv.ownBlock = some g → g ∉ [rb]) := fun g hg => by have := (hrow.block g hg).1; simp; omega
        rcases hrow.at rLen with ⟨_, hnil⟩ | ⟨g, lc, hlv, hlc, hcm, hcell, _, hgw, hgl⟩
        · rw [hnil] at hkk; simp at hkk
        · have d1 := hcell k hkk 1 (by omega)
          have d3 := hcell k hkk 3 (by omega)
          rw [← HX.out] at d1 d3
          simp only [rCells, List.getElem?_cons_zero, List.getElem?_cons_succ] at d1 d3
          have hne : g ≠ rb := by omega
          have hk' : (k : Int) < (L.length : Int) := by omega
          have hk0 : (0 : Int) ≤ (k : Int) := by omega
          subst hlv
          clear hrow hcell
          have hb2 := blk_set (blk_set hb3 2 (.int .i64 now)) 3 (.slice (some ⟨g, 0, none⟩) L.length lc)
          have hrow2 := RowOf.kept (S := [rb]) Hrow.out (((Chg.refl _ _).setCell ⟨rb, 2, none⟩ (.int .i64 now) (by simp)).setCell ⟨rb, 3, none⟩ (.slice (some ⟨g, 0, none⟩) L.length lc) (by simp)) hgb.out
          have hc4 := ((hc3.mono (T := [rb]) (by simp)).setCell ⟨rb, 2, none⟩ (.int .i64 now) (by simp)).setCell ⟨rb, 3, none⟩ (.slice (some ⟨g, 0, none⟩) L.length lc) (by simp)
          have HT := Lib.hid (H.out.turn hF hrb hrow2 hb2)
          have Hc4 := Lib.hid hc4
          have Hb2 := Lib.hid hb2
          have Hrow2 := Lib.hid hrow2
          clear hb2 hrow2 hc4
          go_wp2_with fail
          go_ret2
          exact ⟨rfl, HT.out, Hc4.out, fun _ => ⟨_, Hb2.out, Hrow2.out⟩⟩
    · have hdb : (X.dig.toList == dig.toList) = false := (Lib.bytes_beq_false_iff _ _).2 hdg
      have HR : Hid (ropenS s key dig now = ((0, 19), s)) := by show _ = _; rw [Hre.out, hlk]; simp only [ne_eq, hdg, not_false_eq_true, if_true]
      rw [HR.out]
      clear hlk HR Hre hdg hfe
      go_enter Try.func40, Try.ntmps40
      go_wp2_with fail
      refine Hliv.out.mono ?_; rintro e w3 ⟨lv, rfl, hrow, hc3⟩
      go_wp2_with fail
      refine (find_any lv L key _ (hrow.mono (Nat.zero_le _)) hll).mono ?_
      rw [Hfe.out]; rintro e w4 ⟨rfl, rfl⟩
      rcases hrow.at rLen with ⟨_, hnil⟩ | ⟨g, lc, hlv, hlc, hcm, hcell, _, hgw, hgl⟩
      · rw [hnil] at hkk; simp at hkk
      · have d1 := hcell k hkk 1 (by omega)
        rw [← HX.out] at d1
        simp only [rCells, List.getElem?_cons_zero, List.getElem?_cons_succ] at d1
        have hk' : (k : Int) < (L.length : Int) := by omega
        have hk0 : (0 : Int) ≤ (k : Int) := by omega
        subst hlv
        clear hrow hcell
        go_wp2_with fail
        go_ret2
        exact ⟨rfl, H.out.kept hc3 (by simp), hc3.mono (by simp), fun h => by simp at h⟩
  · have Hfe := Lib.hid hfe
    have HR : Hid (ropenS s key dig now = ((0, 5), s)) := by show _ = _; rw [Hre.out, hlk]
    rw [HR.out]
    clear hlk HR Hre hfe
    go_enter Try.func40, Try.ntmps40
    go_wp2_with fail
    refine Hliv.out.mono ?_; rintro e w3 ⟨lv, rfl, hrow, hc3⟩
    go_wp2_with fail
    refine (find_any lv L key _ (hrow.mono (Nat.zero_le _)) hll).mono ?_
    rw [Hfe.out]; rintro e w4 ⟨rfl, rfl⟩
    go_wp2_with fail
    go_ret2
    exact ⟨rfl, H.out.kept hc3 (by simp), hc3.mono (by simp), fun h => by simp at h⟩

def RErrPost (w : World) (rb : Nat) (F : List Nat) (r : Int × RSt) (e : Ending) (w' : World) : Prop :=
  e = .returned (.int .i64 r.1) ∧ RTabIs w' rb F r.2 ∧ Chg [rb] w w'

def rfinishS (s : RSt) (key dig res : ByteArray) (now : Int) : Int × RSt :=
  if idB key = false ∨ idB dig = false then (4, s)
  else if 4000 < res.size then (3, s)
  else if clockE s now ≠ 0 then (clockE s now, s)
  else match lookL REnt.key (livS s now) key with
  | none => (5, s)
  | some r => if r.dig ≠ dig then (19, s) else if r.done = true then (10, s) else
      (0, { s with time := now, l := (livS s now).set (findE (livS s now) key).toNat ⟨r.key, r.dig, res, true, now⟩ })

/-- What open answers: an error that leaves the table alone, or the place of the busy record. -/
theorem ropen_cases (s : RSt) (key dig : ByteArray) (now : Int) : (∃ c, c ≠ 0 ∧ ropenS s key dig now = ((0, c), s) ∧ (∀ res, idB key = true → idB dig = true → res.size ≤ 4000 → clockE s now = 0 → rfinishS s key dig res now = (c, s))) ∨
    (∃ k, ∃ hk : k < (livS s now).length, ropenS s key dig now = (((k : Int), 0), { s with time := now, l := livS s now }) ∧ findE (livS s now) key = (k : Int) ∧
      (∀ res, idB key = true → idB dig = true → res.size ≤ 4000 → clockE s now = 0 → rfinishS s key dig res now = (0, { s with time := now, l := (livS s now).set k ⟨(livS s now)[k].key, (livS s now)[k].dig, res, true, now⟩ }))) := by
  unfold ropenS rfinishS
  rcases find_cases (livS s now) key with ⟨k, hkk, hfe, hlk⟩ | ⟨hfe, hlk⟩
  · rw [hlk, hfe]
    by_cases hdg : (livS s now)[k].dig = dig
    · by_cases hdn : (livS s now)[k].done = true
      · refine .inl ⟨10, by decide, by simp [hdg, hdn], fun res h1 h2 h3 h4 => ?_⟩
        rw [if_neg (by simp [h1, h2]), if_neg (by omega), if_neg (by simp [h4])]; simp [hdg, hdn]
      · refine .inr ⟨k, hkk, by simp [hdg, hdn], rfl, fun res h1 h2 h3 h4 => ?_⟩
        rw [if_neg (by simp [h1, h2]), if_neg (by omega), if_neg (by simp [h4])]; simp [hdg, hdn]
    · refine .inl ⟨19, by decide, by simp [hdg], fun res h1 h2 h3 h4 => ?_⟩
      rw [if_neg (by simp [h1, h2]), if_neg (by omega), if_neg (by simp [h4])]; simp [hdg]
  · rw [hlk]
    refine .inl ⟨5, by decide, rfl, fun res h1 h2 h3 h4 => ?_⟩
    rw [if_neg (by simp [h1, h2]), if_neg (by omega), if_neg (by simp [h4])]

set_option maxHeartbeats 2000000 in
set_option maxRecDepth 100000 in
theorem rfinish_any (rb : Nat) (F : List Nat) (s : RSt) (key dig res : ByteArray) (now : Int) (w : World) (h : RTabIs w rb F s) (hok : s.ok) (hF : ∀ x ∈ F, x < w.heap.size) (hk : key.size ≤ maxLen) (hd : dig.size ≤ maxLen) (hrs : res.size ≤ maxLen) :
    Calls Try.prog 29 #[.pointer (some ⟨rb, 0, none⟩), .string key, .string dig, .string res, .int .i64 now] w (RErrPost w rb F (rfinishS s key dig res now)) := by
  obtain ⟨sv, hb, hr⟩ := h.heap
  have hrb := lt_of_heap hb
  have H := Lib.hid h
  have Hb := Lib.hid hb
  have Hok := Lib.hid hok
  unfold maxLen at hrs
  clear h hr hb hok
  by_cases hid : idB key = false ∨ idB dig = false
  · have HR : Hid (rfinishS s key dig res now = (4, s)) := by show _ = _; simp only [rfinishS, if_pos hid]
    rw [HR.out]; clear HR
    go_enter Try.func29, Try.ntmps29
    go_wp2_with fail
    refine (names_four _ _ _ hk hd hid).mono ?_; rintro e w1 ⟨rfl, rfl⟩
    clear hid
    go_wp2_with fail
    go_ret
    exact ⟨rfl, H.out, Chg.refl _ _⟩
  · have h1 : idB key = true := by cases hh : idB key <;> simp_all
    have h2 : idB dig = true := by cases hh : idB dig <;> simp_all
    by_cases h3 : 4000 < res.size
    · have HR : Hid (rfinishS s key dig res now = (3, s)) := by show _ = _; simp only [rfinishS, if_neg hid, if_pos h3]
      rw [HR.out]; clear HR hid
      go_enter Try.func29, Try.ntmps29
      go_wp2_with fail
      refine (names_zero _ _ _ hk hd h1 h2).mono ?_; rintro e w1 ⟨rfl, rfl⟩
      go_wp2_with fail
      go_ret
      exact ⟨rfl, H.out, Chg.refl _ _⟩
    · by_cases h0 : clockE s now = 0
      · have H0 := Lib.hid h0
        have hop := ropen_any rb F s key dig now w H.out Hok.out hF
        rcases ropen_cases s key dig now with ⟨c, hc0, hro, hrf⟩ | ⟨k, hkk, hro, hfe, hrf⟩
        · have HR := Lib.hid (hrf res h1 h2 (by omega) h0)
          rw [HR.out]
          rw [hro] at hop
          have Hop := Lib.hid hop
          have hcb : (c == 0) = false := by simpa using hc0
          clear HR hop hro hrf hid h0
          go_enter Try.func29, Try.ntmps29
          go_wp2_with fail
          refine (names_zero _ _ _ hk hd h1 h2).mono ?_; rintro e w1 ⟨rfl, rfl⟩
          go_wp2_with fail
          refine (clock_zero rb s now _ Hb.out H0.out).mono ?_; rintro e w2 ⟨rfl, rfl⟩
          go_wp2_with fail
          refine Hop.out.mono ?_; rintro e w3 ⟨rfl, ht3, hc3, _⟩
          go_wp2_with fail
          go_ret
          exact ⟨rfl, ht3, hc3⟩
        · have HR := Lib.hid (hrf res h1 h2 (by omega) h0)
          rw [HR.out]
          rw [hro] at hop
          have Hop := Lib.hid hop
          clear HR hop hro hrf hid h0 hfe
          generalize livS s now = L at *
          go_enter Try.func29, Try.ntmps29
          go_wp2_with fail
          refine (names_zero _ _ _ hk hd h1 h2).mono ?_; rintro e w1 ⟨rfl, rfl⟩
          go_wp2_with fail
          refine (clock_zero rb s now _ Hb.out H0.out).mono ?_; rintro e w2 ⟨rfl, rfl⟩
          go_wp2_with fail
          refine Hop.out.mono ?_; rintro e w3 ⟨rfl, ht3, hc3, hrow3⟩
          obtain ⟨sv3, hb3, hrow3⟩ := hrow3 rfl
          simp only at hb3 hrow3 ht3
          rcases RowOf.at hrow3 rLen with ⟨_, hnil⟩ | ⟨g, lc, hlv, hlc, hcm, hcell, hfz, hgw, hgl⟩
          · rw [hnil] at hkk; simp at hkk
          · have hne : g ≠ rb := by omega
            have hne' : rb ≠ g := by omega
            have hk' : (k : Int) < (L.length : Int) := by omega
            have hk0 : (0 : Int) ≤ (k : Int) := by omega
            have d2 := hcell k hkk 2 (by omega)
            have d3 := hcell k hkk 3 (by omega)
            have d4 := hcell k hkk 4 (by omega)
            simp only [rCells, List.getElem?_cons_zero, List.getElem?_cons_succ] at d2 d3 d4
            have hcb := blk_cell hb3
            subst hlv
            have Hrow := Lib.hid hrow3
            have Hb3 := Lib.hid hb3
            have Ht3 := Lib.hid ht3
            clear hrow3 hcell hb3 ht3
            go_wp2_with fail
            go_ret
            have r1 := RowOf.stored Hrow.out rfl rLen k hkk 3 (by omega) (.bool true) ⟨L[k].key, L[k].dig, L[k].res, true, L[k].frm⟩ rfl
            have r2 := RowOf.stored r1 (by simp) rLen k (by simpa using hkk) 2 (by omega) (.string res) ⟨L[k].key, L[k].dig, res, true, L[k].frm⟩ (by simp [rCells])
            have r3 := RowOf.stored r2 (by simp) rLen k (by simpa using hkk) 4 (by omega) (.int .i64 now) ⟨L[k].key, L[k].dig, res, true, now⟩ (by simp [rCells])
            simp only [List.set_set] at r3
            have hcS : Chg [rb] w _ := ((hc3.setCell ⟨g, k * 5 + 3, none⟩ (.bool true) (by simp; omega)).setCell ⟨g, k * 5 + 2, none⟩ (.string res) (by simp; omega)).setCell ⟨g, k * 5 + 4, none⟩ (.int .i64 now) (by simp; omega)
            refine ⟨rfl, H.out.turn hF hrb r3 ?_, hcS⟩
            rw [blk_set_ne _ _ hne', blk_set_ne _ _ hne', blk_set_ne _ _ hne']
            exact Hb3.out

      · have HR : Hid (rfinishS s key dig res now = (clockE s now, s)) := by show _ = _; simp only [rfinishS, if_neg hid, if_neg h3, if_pos h0]
        rw [HR.out]; clear HR hid
        have hb0 : (clockE s now == 0) = false := by simpa using h0
        clear h0
        go_enter Try.func29, Try.ntmps29
        go_wp2_with fail
        refine (names_zero _ _ _ hk hd h1 h2).mono ?_; rintro e w1 ⟨rfl, rfl⟩
        go_wp2_with fail
        refine (clock_any rb s now _ Hb.out).mono ?_; rintro e w2 ⟨rfl, rfl⟩
        go_wp2_with fail
        go_ret
        exact ⟨rfl, H.out, Chg.refl _ _⟩

def rabandonS (s : RSt) (key dig : ByteArray) (now : Int) : Int × RSt :=
  if idB key = false ∨ idB dig = false then (4, s)
  else if clockE s now ≠ 0 then (clockE s now, s)
  else match lookL REnt.key (livS s now) key with
  | none => (5, s)
  | some r => if r.dig ≠ dig then (19, s) else if r.done = true then (10, s) else (0, { s with time := now, l := (livS s now).eraseIdx (findE (livS s now) key).toNat })

theorem rabandon_cases (s : RSt) (key dig : ByteArray) (now : Int) : (∃ c, c ≠ 0 ∧ ropenS s key dig now = ((0, c), s) ∧ (idB key = true → idB dig = true → clockE s now = 0 → rabandonS s key dig now = (c, s))) ∨
    (∃ k, ∃ _ : k < (livS s now).length, ropenS s key dig now = (((k : Int), 0), { s with time := now, l := livS s now }) ∧
      (idB key = true → idB dig = true → clockE s now = 0 → rabandonS s key dig now = (0, { s with time := now, l := (livS s now).eraseIdx k }))) := by
  unfold ropenS rabandonS
  rcases find_cases (livS s now) key with ⟨k, hkk, hfe, hlk⟩ | ⟨hfe, hlk⟩
  · rw [hlk, hfe]
    by_cases hdg : (livS s now)[k].dig = dig
    · by_cases hdn : (livS s now)[k].done = true
      · refine .inl ⟨10, by decide, by simp [hdg, hdn], fun h1 h2 h4 => ?_⟩
        rw [if_neg (by simp [h1, h2]), if_neg (by simp [h4])]; simp [hdg, hdn]
      · refine .inr ⟨k, hkk, by simp [hdg, hdn], fun h1 h2 h4 => ?_⟩
        rw [if_neg (by simp [h1, h2]), if_neg (by simp [h4])]; simp [hdg, hdn]
    · refine .inl ⟨19, by decide, by simp [hdg], fun h1 h2 h4 => ?_⟩
      rw [if_neg (by simp [h1, h2]), if_neg (by simp [h4])]; simp [hdg]
  · rw [hlk]
    refine .inl ⟨5, by decide, rfl, fun h1 h2 h4 => ?_⟩
    rw [if_neg (by simp [h1, h2]), if_neg (by simp [h4])]

theorem erase_take {β : Type} (l : List β) (k i : Nat) (hk : k < l.length) : (l.take (k + 1)).eraseIdx i = if k = i then (l.take k).eraseIdx i else (l.take k).eraseIdx i ++ [l[k]] := by
  rw [List.take_succ_eq_append_getElem hk]
  have hlen : (l.take k).length = k := by rw [List.length_take]; omega
  split
  · rename_i e; subst e
    rw [List.eraseIdx_append_of_length_le (by omega), hlen, Nat.sub_self]
    simp
    rw [List.eraseIdx_of_length_le (by omega)]
  · rename_i e
    by_cases hlt : i < k
    · rw [List.eraseIdx_append_of_lt_length (by omega)]
    · rw [List.eraseIdx_of_length_le (by simp; omega), List.eraseIdx_of_length_le (by omega)]

set_option maxHeartbeats 2000000 in
set_option maxRecDepth 100000 in
theorem rabandon_any (rb : Nat) (F : List Nat) (s : RSt) (key dig : ByteArray) (now : Int) (w : World) (h : RTabIs w rb F s) (hok : s.ok) (hF : ∀ x ∈ F, x < w.heap.size) (hk : key.size ≤ maxLen) (hd : dig.size ≤ maxLen) :
    Calls Try.prog 30 #[.pointer (some ⟨rb, 0, none⟩), .string key, .string dig, .int .i64 now] w (RErrPost w rb F (rabandonS s key dig now)) := by
  obtain ⟨sv, hb, hr⟩ := h.heap
  have hrb := lt_of_heap hb
  have H := Lib.hid h
  have Hb := Lib.hid hb
  have Hok := Lib.hid hok
  have hll : (livS s now).length ≤ 4096 := Nat.le_trans (List.length_filter_le _ _) hok.2.2.2.2.2.2.1
  clear h hr hb hok
  by_cases hid : idB key = false ∨ idB dig = false
  · have HR : Hid (rabandonS s key dig now = (4, s)) := by show _ = _; simp only [rabandonS, if_pos hid]
    rw [HR.out]; clear HR
    go_enter Try.func30, Try.ntmps30
    go_wp2_with fail
    refine (names_four _ _ _ hk hd hid).mono ?_; rintro e w1 ⟨rfl, rfl⟩
    clear hid
    go_wp2_with fail
    go_ret
    exact ⟨rfl, H.out, Chg.refl _ _⟩
  · have h1 : idB key = true := by cases hh : idB key <;> simp_all
    have h2 : idB dig = true := by cases hh : idB dig <;> simp_all
    by_cases h0 : clockE s now = 0
    · have H0 := Lib.hid h0
      have hop := ropen_any rb F s key dig now w H.out Hok.out hF
      rcases rabandon_cases s key dig now with ⟨c, hc0, hro, hrf⟩ | ⟨k, hkk, hro, hrf⟩
      · have HR := Lib.hid (hrf h1 h2 h0)
        rw [HR.out]
        rw [hro] at hop
        have Hop := Lib.hid hop
        have hcb : (c == 0) = false := by simpa using hc0
        clear HR hop hro hrf hid h0
        go_enter Try.func30, Try.ntmps30
        go_wp2_with fail
        refine (names_zero _ _ _ hk hd h1 h2).mono ?_; rintro e w1 ⟨rfl, rfl⟩
        go_wp2_with fail
        refine (clock_zero rb s now _ Hb.out H0.out).mono ?_; rintro e w2 ⟨rfl, rfl⟩
        go_wp2_with fail
        refine Hop.out.mono ?_; rintro e w3 ⟨rfl, ht3, hc3, _⟩
        go_wp2_with fail
        go_ret
        exact ⟨rfl, ht3, hc3⟩
      · have HR := Lib.hid (hrf h1 h2 h0)
        rw [HR.out]
        rw [hro] at hop
        have Hop := Lib.hid hop
        clear HR hop hro hrf hid h0
        generalize livS s now = L at *
        go_enter Try.func30, Try.ntmps30
        go_wp2_with fail
        refine (names_zero _ _ _ hk hd h1 h2).mono ?_; rintro e w1 ⟨rfl, rfl⟩
        go_wp2_with fail
        refine (clock_zero rb s now _ Hb.out H0.out).mono ?_; rintro e w2 ⟨rfl, rfl⟩
        go_wp2_with fail
        refine Hop.out.mono ?_; rintro e w3 ⟨rfl, ht3, hc3, hrow3⟩
        obtain ⟨sv3, hb3, hrow3⟩ := hrow3 rfl
        simp only at hb3 hrow3 ht3
        obtain ⟨a, cap, hsv⟩ := RowOf.shape hrow3
        subst hsv
        have Hrow := Lib.hid hrow3
        have Hb3 := Lib.hid hb3
        have hrb3 := lt_of_heap hb3
        clear hrow3 hb3 ht3
        go_wp2_with fail
        go_loopw [11, 12] (fun o i wr => ∃ j : Nat, i = .int .i64 j ∧ j ≤ L.length ∧ RowOf rCells 5 wr w3.heap.size 70 o ((L.take j).eraseIdx k) ∧ Chg [] w3 wr) (fun _ i _ => L.length - (intOf i).toNat)
        case atStart => exact ⟨0, rfl, Nat.zero_le _, by simpa using RowOf.nil _ _ _, Chg.refl _ _⟩
        case round =>
          obtain ⟨j, rfl, hjl, hrow, hch⟩ := hrel
          have Hrowj := Lib.hid hrow
          have Hch := Lib.hid hch
          have hc := blk_cell (hch.at (by simp) Hb3.out)
          have hfz := blk_free (hch.at (by simp) Hb3.out)
          have Hr' := Lib.hid (RowOf.kept Hrow.out hch (by simp))
          have hj0 : (0 : Int) ≤ (j : Int) := by omega
          clear hrow hch
          by_cases hj : j < L.length
          · rcases RowOf.at Hr'.out rLen with ⟨_, hl⟩ | ⟨g, cap', hv, hlc, hcm, hcell, _, _, hgl⟩
            · rw [hl] at hj; simp at hj
            · cases hv
              have c0 := hcell j hj 0 (by omega)
              have c1 := hcell j hj 1 (by omega)
              have c2 := hcell j hj 2 (by omega)
              have c3 := hcell j hj 3 (by omega)
              have c4 := hcell j hj 4 (by omega)
              simp only [rCells, List.getElem?_cons_zero, List.getElem?_cons_succ, Nat.add_zero] at c0 c1 c2 c3 c4
              obtain ⟨x, hx⟩ : ∃ x, x = L[j] := ⟨_, rfl⟩
              rw [← hx] at c0 c1 c2 c3 c4
              have Hx := Lib.hid hx
              have hlen : ((L.take j).eraseIdx k).length ≤ 4096 := Nat.le_trans (List.length_eraseIdx_le _ _) (by rw [List.length_take]; omega)
              have hws : w3.heap.size ≤ wr.heap.size := Hch.out.size
              have het := Lib.hid (erase_take L j k hj)
              clear hx hcell
              by_cases hjk : j = k
              · subst hjk
                go_wp2_with fail
                rw [if_pos rfl] at het
                refine ⟨⟨j + 1, by go_num, by omega, ?_, Hch.out⟩, by simp [intOf]; omega⟩
                rw [het.out]; exact Hrowj.out
              · have hjk' : ((j : Int) == (k : Int)) = false := by simp; omega
                go_wp2_with (at_builtin; refine wpl_append rfl _ _ 64 rfl w3.heap.size 70 _ 64 Try.underlying64 rInfo rfl (by decide) rLen rOne u11 _ rfl (RowOf.kept Hrowj.out ((Chg.refl [] _).alloc _) (by simp)) wr.heap.size _ x _ _ _ rfl (heap_alloc_new wr _) rfl ?c1 ?c2 ?c3 ?_; rotate_left 3; intro v' w1 hrow1 hg1)
                case c1 => unfold maxLen; omega
                case c2 => omega
                case c3 => simp; omega
                rw [if_neg hjk] at het
                have hch1 : Chg [] w3 w1 := (Hch.out.alloc _).then (Chg.ofRow hg1) (by intro y hy hl; simp at hy; have := (Hrowj.out.block y hy).1; omega)
                refine ⟨⟨j + 1, by go_num, by omega, ?_, hch1⟩, by simp [intOf]; omega⟩
                rw [het.out, ← Hx.out]; exact hrow1
          · have hjL : Hid (L.take j = L) := List.take_of_length_le (by omega)
            have hws : w3.heap.size ≤ wr.heap.size := Hch.out.size
            have hrbw := Hch.out.lt hrb3
            have hsz3 := hc3.size
            rw [hjL.out] at Hrowj
            obtain ⟨oa, oc, ho⟩ := RowOf.shape Hrowj.out
            subst ho
            go_wp2
            go_ret
            have hsS : Chg [rb] w _ := ((hc3.thenSame (Hch.out.mono (T := [rb]) (by simp))).setCell ⟨rb, 3, none⟩ (.slice oa (L.eraseIdx k).length oc) (by simp))
            have hrow2 := RowOf.kept (S := [rb]) Hrowj.out ((Chg.refl _ _).setCell ⟨rb, 3, none⟩ (.slice oa (L.eraseIdx k).length oc) (by simp)) (fun g hg => by have := (Hrowj.out.block g hg).1; simp; omega)
            exact ⟨rfl, H.out.turn hF hrb (hrow2.mono hsz3) (blk_set (Hch.out.at (by simp) Hb3.out) 3 _), hsS⟩
    · have HR : Hid (rabandonS s key dig now = (clockE s now, s)) := by show _ = _; simp only [rabandonS, if_neg hid, if_pos h0]
      rw [HR.out]; clear HR hid
      have hb0 : (clockE s now == 0) = false := by simpa using h0
      clear h0
      go_enter Try.func30, Try.ntmps30
      go_wp2_with fail
      refine (names_zero _ _ _ hk hd h1 h2).mono ?_; rintro e w1 ⟨rfl, rfl⟩
      go_wp2_with fail
      refine (clock_any rb s now _ Hb.out).mono ?_; rintro e w2 ⟨rfl, rfl⟩
      go_wp2_with fail
      go_ret
      exact ⟨rfl, H.out, Chg.refl _ _⟩

def rsweepS (s : RSt) (now : Int) : Int × RSt := if clockE s now ≠ 0 then (0, s) else (((livS s s.time).length : Int) - ((livS s now).length : Int), { s with time := now, l := livS s now })

set_option maxHeartbeats 2000000 in
set_option maxRecDepth 100000 in
theorem rsweep_any (rb : Nat) (F : List Nat) (s : RSt) (now : Int) (w : World) (h : RTabIs w rb F s) (hok : s.ok) (hF : ∀ x ∈ F, x < w.heap.size) :
    Calls Try.prog 31 #[.pointer (some ⟨rb, 0, none⟩), .int .i64 now] w (RErrPost w rb F (rsweepS s now)) := by
  obtain ⟨o1, o2, o3, o4, o5, o6, o7, o8⟩ := hok
  obtain ⟨sv, hb, hr⟩ := h.heap
  have hrb := lt_of_heap hb
  have H := Lib.hid h
  have Hb := Lib.hid hb
  have Hr := Lib.hid hr
  clear h hr
  by_cases h0 : clockE s now = 0
  · have H0 := Lib.hid h0
    have HR : Hid (rsweepS s now = (((livS s s.time).length : Int) - ((livS s now).length : Int), { s with time := now, l := livS s now })) := by show _ = _; simp [rsweepS, h0]
    rw [HR.out]
    have hl1 : (livS s s.time).length ≤ 4096 := Nat.le_trans (List.length_filter_le _ _) o7
    have hl2 : (livS s now).length ≤ 4096 := Nat.le_trans (List.length_filter_le _ _) o7
    have hliv1 : Calls Try.prog 33 #[.pointer (some ⟨rb, 0, none⟩), .int .i64 s.time] w (LivPost w (livS s s.time)) := rliving_any rb s sv s.time w hb Hr.out ⟨by omega, o4⟩ o7 o8
    have Hliv1 := Lib.hid hliv1
    have hc := blk_cell hb
    have hfz := blk_free hb
    generalize livS s s.time = L0 at *
    have O8 := Lib.hid o8
    clear h0 HR hliv1 hb o8
    go_enter Try.func31, Try.ntmps31
    go_wp2_with fail
    refine (clock_zero rb s now _ Hb.out H0.out).mono ?_; rintro e w1 ⟨rfl, rfl⟩
    go_wp2_with fail
    refine Hliv1.out.mono ?_; rintro e w2 ⟨lv, rfl, hrow, hc2⟩
    obtain ⟨la, lc, hlv⟩ := RowOf.shape hrow
    subst hlv
    have hb2 := hc2.at (by simp) Hb.out
    have hcc2 := blk_cell hb2
    have hff2 := blk_free hb2
    have hrb2 := hc2.lt hrb
    have Hr2 := Lib.hid (RowIs.kept Hr.out hc2 (by simp))
    clear hrow
    go_wp2_with fail
    have hb3 := blk_set hb2 2 (.int .i64 now)
    have hgrb : ∀ g, sv.ownBlock = some g → g ∉ [rb] := fun g hg => by
      obtain ⟨_, sv', h2, _, h4⟩ := H.out
      have e : sv' = sv := by have := h2.symm.trans Hb.out; simpa using this
      rw [e] at h4
      simpa using (h4 g hg).2
    have Hr3 := Lib.hid (RowIs.kept (S := [rb]) Hr2.out ((Chg.refl _ _).setCell ⟨rb, 2, none⟩ (.int .i64 now) (by simp)) hgrb)
    have hliv2 := rliving_any rb { s with time := now } sv now _ hb3 Hr3.out ⟨by show 0 ≤ s.ttl; omega, o4⟩ o7 O8.out
    have hliv2' : Calls Try.prog 33 #[.pointer (some ⟨rb, 0, none⟩), .int .i64 now] (w2.setCell ⟨rb, 2, none⟩ (.int .i64 now)) (LivPost (w2.setCell ⟨rb, 2, none⟩ (.int .i64 now)) (livS s now)) := hliv2
    have Hb3 := Lib.hid hb3
    clear hliv2 hb3 hgrb hb2
    generalize livS s now = L at *
    have hrs : (w2.setCell ⟨rb, 2, none⟩ (.int .i64 now)).heap.size = w2.heap.size := by simp [World.setCell]
    refine hliv2'.mono ?_; rintro e w4 ⟨lv4, rfl, hrow4, hc4⟩
    obtain ⟨la4, lc4, hlv4⟩ := RowOf.shape hrow4
    subst hlv4
    have hb4 := hc4.at (by simp) Hb3.out
    have hcc4 := blk_cell hb4
    have hff4 := blk_free hb4
    have hrb4 := lt_of_heap hb4
    have Hrow4 := Lib.hid hrow4
    have Hrs := Lib.hid hrs
    clear hrow4 hrs hliv2'
    go_wp2_with fail
    go_ret
    have hrow5 := RowOf.kept (S := [rb]) Hrow4.out ((Chg.refl _ _).setCell ⟨rb, 3, none⟩ (.slice la4 L.length lc4) (by simp)) (fun g hg => by have h1 := (Hrow4.out.block g hg).1; rw [Hrs.out] at h1; simp; omega)
    rw [Hrs.out] at hrow5
    refine ⟨rfl, H.out.turn hF hrb (hrow5.mono hc2.size) (blk_set hb4 3 _), ?_⟩
    exact (((hc2.mono (T := [rb]) (by simp)).setCell ⟨rb, 2, none⟩ (.int .i64 now) (by simp)).thenSame (hc4.mono (by simp))).setCell ⟨rb, 3, none⟩ _ (by simp)
  · have HR : Hid (rsweepS s now = (0, s)) := by show _ = _; simp [rsweepS, h0]
    rw [HR.out]; clear HR hb
    have hb0 : (clockE s now == 0) = false := by simpa using h0
    clear h0
    go_enter Try.func31, Try.ntmps31
    go_wp2_with fail
    refine (clock_any rb s now _ Hb.out).mono ?_; rintro e w2 ⟨rfl, rfl⟩
    go_wp2_with fail
    go_ret
    exact ⟨rfl, H.out, Chg.refl _ _⟩

theorem rlen_any (rb : Nat) (F : List Nat) (s : RSt) (w : World) (h : RTabIs w rb F s) (hok : s.ok) :
    Calls Try.prog 18 #[.pointer (some ⟨rb, 0, none⟩)] w fun e w' => e = .returned (.int .i64 ((livS s s.time).length : Int)) ∧ Chg [] w w' := by
  obtain ⟨o1, o2, o3, o4, o5, o6, o7, o8⟩ := hok
  obtain ⟨sv, hb, hr⟩ := h.heap
  have hliv1 : Calls Try.prog 33 #[.pointer (some ⟨rb, 0, none⟩), .int .i64 s.time] w (LivPost w (livS s s.time)) := rliving_any rb s sv s.time w hb hr ⟨by omega, o4⟩ o7 o8
  have Hliv1 := Lib.hid hliv1
  have hc := blk_cell hb
  generalize livS s s.time = L0 at *
  clear hliv1 hb hr h o8
  go_enter Try.func18, Try.ntmps18
  go_wp2_with fail
  refine Hliv1.out.mono ?_; rintro e w2 ⟨lv, rfl, hrow, hc2⟩
  obtain ⟨la, lc, hlv⟩ := RowOf.shape hrow
  subst hlv
  clear hrow
  go_wp2_with fail
  go_ret
  exact ⟨rfl, hc2⟩
end Go.Proofs.Ytkbblkhkadcpcaa
