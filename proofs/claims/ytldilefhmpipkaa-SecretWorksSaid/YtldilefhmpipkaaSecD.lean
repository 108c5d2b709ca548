/- Chapter 22: contracts of the program: Put, Bind, Unbind. No condition. -/
import Derived.Test.YtldilefhmpipkaaSecC
namespace Go.Proofs.Ytldilefhmpipkaa
set_option linter.unusedVariables false
set_option linter.unusedSimpArgs false
open Go.RowKit

abbrev em : ByteArray := ⟨#[]⟩
def look (L : List S0) (n : ByteArray) : Option S0 := lookL S0.name L n
def VPost (w : World) (vb mb : Nat) (l : List Sec) (v : Value) (L' : List S0) (e : Ending) (w' : World) : Prop :=
  e = .returned v ∧ ∃ l', l'.map Sec.s = L' ∧ VIs w' vb mb l' ∧ Chg (fp vb mb l) w w' ∧ ∀ b ∈ blks l', b ∈ blks l ∨ w.heap.size ≤ b
theorem VPost.same {w w' : World} {vb mb : Nat} {l : List Sec} {v : Value} {e : Ending} (he : e = .returned v) (h : VIs w vb mb l) (hc : Chg [] w w') : VPost w vb mb l v (l.map Sec.s) e w' :=
  ⟨he, l, rfl, h.keptN hc, hc.mono (by simp), fun b hb => .inl hb⟩
theorem findE_cases (l : List Sec) (name : ByteArray) : (lookL Sec.name l name = none ∧ findE l name = 5) ∨ (∃ x, lookL Sec.name l name = some x ∧ findE l name = 0 ∧ findP l name = .pointer (some ⟨x.eb, 0, none⟩) ∧ x ∈ l ∧ x.name = name) := by
  unfold findE findP
  cases h : lookL Sec.name l name with
  | none => exact .inl ⟨rfl, rfl⟩
  | some x => exact .inr ⟨x, rfl, rfl, rfl, lookL_mem h, lookL_key h⟩

def putE (L : List S0) (name text : ByteArray) : Int := if nameB name = true then (if textB text = true then (if (look L name).isSome = true then 6 else if 256 ≤ L.length then 3 else 0) else 1) else 4
def newS0 (name text : ByteArray) : S0 := ⟨name, text, em, 1, 0, 0, []⟩
def putS (L : List S0) (name text : ByteArray) : List S0 := if putE L name text = 0 then L ++ [newS0 name text] else L

set_option maxHeartbeats 4000000 in
set_option maxRecDepth 100000 in
theorem put_any (vb mb : Nat) (l : List Sec) (name text : ByteArray) (w : World) (h : VIs w vb mb l) (hn : name.size ≤ maxLen) (ht : text.size ≤ maxLen) (hll : l.length ≤ 4096) :
    Calls Try.prog 18 #[.pointer (some ⟨vb, 0, none⟩), .string name, .string text] w (VPost w vb mb l (.int .i64 (putE (l.map Sec.s) name text)) (putS (l.map Sec.s) name text)) := by
  have H := Lib.hid h
  obtain ⟨E, hE⟩ : ∃ E, E = putE (l.map Sec.s) name text := ⟨_, rfl⟩
  obtain ⟨L', hL'⟩ : ∃ L', L' = putS (l.map Sec.s) name text := ⟨_, rfl⟩
  have hLE : ¬ E = 0 → L' = l.map Sec.s := fun hne => by rw [hL', putS, ← hE, if_neg hne]
  have hLz : E = 0 → L' = l.map Sec.s ++ [newS0 name text] := fun hz => by rw [hL', putS, ← hE, if_pos hz]
  rw [← hE, ← hL']
  have HLE := Lib.hid hLE
  have HLz := Lib.hid hLz
  unfold putE look at hE
  rw [look_s] at hE
  have A0 := Lib.hid (fun w h => find_any vb mb l name w h)
  have A1 := name_any name
  have A2 := valid_any text
  obtain ⟨P, hP⟩ : ∃ P, P = findP l name := ⟨_, rfl⟩
  rw [← hP] at A0
  have hcs := findE_cases l name
  rw [← hP] at hcs
  obtain ⟨F, hF⟩ : ∃ F, F = findE l name := ⟨_, rfl⟩
  rw [← hF] at A0 hcs
  have hF10 : (F == 10) = false := by
    rcases hcs with ⟨_, h⟩ | ⟨_, _, h, _⟩ <;> (rw [h]; rfl)
  clear hLE hLz hL' hP hF
  by_cases b1 : nameB name = true
  case neg =>
    rw [if_neg b1] at hE
    subst hE
    have b1' : nameB name = false := by simpa using b1
    have HL := Lib.hid (HLE.out (by decide))
    have A1 := Lib.hid (fun w => b1' ▸ A1 w hn)
    rename_i A10
    clear h b1 b1' A10 hcs HLE HLz A2
    go_enter Try.func18, Try.ntmps18
    go_wp2_with fail
    refine (A0.out _ H.out).mono ?_; rintro e w1 ⟨rfl, rfl⟩
    go_wp2_with fail
    refine (A1.out _).mono ?_; rintro e w2 ⟨rfl, hc2⟩
    have C2 := Lib.hid hc2
    clear hc2
    go_wp2_with fail
    go_ret
    rw [HL.out]
    exact VPost.same rfl H.out C2.out
  rw [if_pos b1] at hE
  have A1 := Lib.hid (fun w => b1 ▸ A1 w hn)
  rename_i A10
  clear A10 b1
  by_cases b2 : textB text = true
  case neg =>
    rw [if_neg b2] at hE
    subst hE
    have b2' : textB text = false := by simpa using b2
    have HL := Lib.hid (HLE.out (by decide))
    have A2 := Lib.hid (fun w => b2' ▸ A2 w ht)
    rename_i A20
    clear h b2 b2' A20 hcs HLE HLz
    go_enter Try.func18, Try.ntmps18
    go_wp2_with fail
    refine (A0.out _ H.out).mono ?_; rintro e w1 ⟨rfl, rfl⟩
    go_wp2_with fail
    refine (A1.out _).mono ?_; rintro e w2 ⟨rfl, hc2⟩
    have C2 := Lib.hid hc2
    clear hc2
    go_wp2_with fail
    refine (A2.out _).mono ?_; rintro e w3 ⟨rfl, hc3⟩
    have C3 := Lib.hid (C2.out.thenSame hc3)
    clear hc3
    go_wp2_with fail
    go_ret
    rw [HL.out]
    exact VPost.same rfl H.out C3.out
  rw [if_pos b2] at hE
  have A2 := Lib.hid (fun w => b2 ▸ A2 w ht)
  rename_i A20
  clear A20 b2
  rcases hcs with ⟨hl, rfl⟩ | ⟨x, hl, rfl, _⟩
  · rw [hl] at hE
    have Hl := Lib.hid hl
    simp only [Option.map_none, Option.isSome_none, Bool.false_eq_true, if_false, List.length_map] at hE
    have hcs : ((256 : Int) ≤ (l.length : Int) ∧ E = 3) ∨ ((l.length : Int) < 256 ∧ E = 0) := by
      by_cases h2 : 256 ≤ l.length
      · exact .inl ⟨by omega, by rw [hE, if_pos h2]⟩
      · exact .inr ⟨by omega, by rw [hE, if_neg h2]⟩
    have hmm := @run_makeMap Try.prog
    clear h hE hl
    rcases hcs with ⟨h2, rfl⟩ | ⟨h2, rfl⟩
    · have HL := Lib.hid (HLE.out (by decide))
      clear HLE HLz
      go_enter Try.func18, Try.ntmps18
      go_wp2_with fail
      refine (A0.out _ H.out).mono ?_; rintro e w1 ⟨rfl, rfl⟩
      go_wp2_with fail
      refine (A1.out _).mono ?_; rintro e w2 ⟨rfl, hc2⟩
      have C2 := Lib.hid hc2
      clear hc2
      go_wp2_with fail
      refine (A2.out _).mono ?_; rintro e w3 ⟨rfl, hc3⟩
      have C3 := Lib.hid (C2.out.thenSame hc3)
      have V3 := Lib.hid (H.out.keptN C3.out)
      have p3 := blk_cell V3.out.1
      clear hc3
      go_wp2_with (at_len; refine wpl_len _ rfl _ 50 rfl 9 61 Try.underlying50 mb l rfl V3.out.2.1 ?_)
      go_ret
      rw [HL.out]
      exact VPost.same rfl H.out C3.out
    · have HL := Lib.hid (HLz.out rfl)
      clear HLE HLz
      go_enter Try.func18, Try.ntmps18
      go_wp2_with fail
      refine (A0.out _ H.out).mono ?_; rintro e w1 ⟨rfl, rfl⟩
      go_wp2_with fail
      refine (A1.out _).mono ?_; rintro e w2 ⟨rfl, hc2⟩
      have C2 := Lib.hid hc2
      clear hc2
      go_wp2_with fail
      refine (A2.out _).mono ?_; rintro e w3 ⟨rfl, hc3⟩
      have C3 := Lib.hid (C2.out.thenSame hc3)
      have V3 := Lib.hid (H.out.keptN C3.out)
      have p3 := blk_cell V3.out.1
      have lt3 := lt_of_heap V3.out.1
      have hc5 : Chg [] w3 ((w3.alloc (.map #[] 0)).alloc (.cells (entC (newS0 name text) w3.heap.size) 64)) := ((Chg.refl _ _).alloc _).alloc _
      have C5 := Lib.hid hc5
      have m5 := Lib.hid ((V3.out.keptN hc5).2.1)
      have b5 := Lib.hid (heap_alloc_new (w3.alloc (.map #[] 0)) (.cells (entC (newS0 name text) w3.heap.size) 64))
      have n5 := Lib.hid ((mapIs_new (kf := id) (vf := tt) w3).same (heap_alloc_old (w3.alloc (.map #[] 0)) (.cells (entC (newS0 name text) w3.heap.size) 64) (by simp)))
      clear hc3 hc5
      simp only [entC, newS0] at C5 m5 b5 n5
      go_wp2_with (first | (at_len; refine wpl_len _ rfl _ 50 rfl 9 61 Try.underlying50 mb l rfl V3.out.2.1 ?_) | (at_mapUpdate; refine wpl_store _ rfl _ _ _ 50 rfl 9 61 Try.underlying50 Try.underlying9 mb l rfl m5.out ⟨newS0 name text, w3.heap.size + 1, w3.heap.size⟩ rfl rfl ?_; intro w6 hm6 hc6 hs6))
      go_ret
      rw [HL.out]
      have e1 : (w3.alloc (.map #[] 0)).heap.size = w3.heap.size + 1 := by simp
      have hmb := V3.out.lt mb (by simp [fp])
      have b6 := hc6.at (b := w3.heap.size + 1) (by simp; omega) (by rw [← e1]; exact b5.out)
      have n6 := n5.out.kept hc6 (by simp; omega)
      have hpn : putL Sec.name l ⟨newS0 name text, w3.heap.size + 1, w3.heap.size⟩ = l ++ [⟨newS0 name text, w3.heap.size + 1, w3.heap.size⟩] := putL_new Hl.out
      rw [hpn] at hm6
      have hc36 : Chg [mb] w3 w6 := (C5.out.mono (T := [mb]) (by simp)).thenSame hc6
      refine ⟨rfl, _, by rw [List.map_append]; rfl, V3.out.add (x := ⟨newS0 name text, w3.heap.size + 1, w3.heap.size⟩) Hl.out (by simp) (Nat.le_refl _) hc36 hm6 ⟨b6, n6⟩, (C3.out.mono (T := fp vb mb l) (by simp)).then hc36 (by intro y hy _; simp at hy; subst hy; simp [fp]), ?_⟩
      intro b hb
      have := C3.out.size
      rw [mem_blks] at hb ⊢
      obtain ⟨y, hy, he⟩ := hb
      rcases List.mem_append.1 hy with hy | hy
      · exact .inl ⟨y, hy, he⟩
      · simp at hy; subst hy; right; simp at he; omega
  · rw [hl] at hE
    simp only [Option.map_some, Option.isSome_some, if_true] at hE
    subst hE
    have HL := Lib.hid (HLE.out (by decide))
    clear h HLE HLz hl
    go_enter Try.func18, Try.ntmps18
    go_wp2_with fail
    refine (A0.out _ H.out).mono ?_; rintro e w1 ⟨rfl, rfl⟩
    go_wp2_with fail
    refine (A1.out _).mono ?_; rintro e w2 ⟨rfl, hc2⟩
    have C2 := Lib.hid hc2
    clear hc2
    go_wp2_with fail
    refine (A2.out _).mono ?_; rintro e w3 ⟨rfl, hc3⟩
    have C3 := Lib.hid (C2.out.thenSame hc3)
    clear hc3
    go_wp2_with fail
    go_ret
    rw [HL.out]
    exact VPost.same rfl H.out C3.out

theorem zeroB (w : World) : (zeroValue 4).run Try.prog w = .ok (.bool false) w := by kernel_rfl
def hasB (x : S0) (fn : ByteArray) : Bool := (lookL id x.bound fn).isSome
theorem look_bool (m : List ByteArray) (fn : ByteArray) : ((lookL id m fn).map tt).getD (.bool false) = .bool (lookL id m fn).isSome := by
  cases lookL id m fn <;> rfl
def bindE (L : List S0) (name fn : ByteArray) : Int := match look L name with | none => 5 | some x => if nameB fn = true then (if hasB x fn = true then 6 else if 32 ≤ x.bound.length then 3 else 0) else 4
def bindS (L : List S0) (name fn : ByteArray) : List S0 := if bindE L name fn = 0 then upd L name (fun y => { y with bound := y.bound ++ [fn] }) else L
def unbindE (L : List S0) (name fn : ByteArray) : Int := match look L name with | none => 5 | some x => if hasB x fn = true then 0 else 5
def unbindS (L : List S0) (name fn : ByteArray) : List S0 := if unbindE L name fn = 0 then upd L name (fun y => { y with bound := delL id y.bound fn }) else L
theorem fp_mem {vb mb : Nat} {l : List Sec} {x : Sec} (hx : x ∈ l) : x.eb ∈ fp vb mb l ∧ x.mb ∈ fp vb mb l := by
  simp only [fp, List.mem_cons]
  exact ⟨.inr (.inr (mem_blks.2 ⟨x, hx, .inl rfl⟩)), .inr (.inr (mem_blks.2 ⟨x, hx, .inr rfl⟩))⟩

set_option maxHeartbeats 4000000 in
set_option maxRecDepth 100000 in
theorem bind_any (vb mb : Nat) (l : List Sec) (name fn : ByteArray) (w : World) (h : VIs w vb mb l) (hn : fn.size ≤ maxLen) (hbl : ∀ x ∈ l, x.s.bound.length ≤ 4096) :
    Calls Try.prog 28 #[.pointer (some ⟨vb, 0, none⟩), .string name, .string fn] w (VPost w vb mb l (.int .i64 (bindE (l.map Sec.s) name fn)) (bindS (l.map Sec.s) name fn)) := by
  have H := Lib.hid h
  obtain ⟨E, hE⟩ : ∃ E, E = bindE (l.map Sec.s) name fn := ⟨_, rfl⟩
  obtain ⟨L', hL'⟩ : ∃ L', L' = bindS (l.map Sec.s) name fn := ⟨_, rfl⟩
  have HLE := Lib.hid (show ¬ E = 0 → L' = l.map Sec.s from fun hne => by rw [hL', bindS, ← hE, if_neg hne])
  have HLz := Lib.hid (show E = 0 → L' = upd (l.map Sec.s) name (fun y => { y with bound := y.bound ++ [fn] }) from fun hz => by rw [hL', bindS, ← hE, if_pos hz])
  rw [← hE, ← hL']
  unfold bindE look at hE
  rw [look_s] at hE
  have A0 := Lib.hid (fun w h => find_any vb mb l name w h)
  have A1 := name_any fn
  have hcs := findE_cases l name
  clear hL'
  rcases hcs with ⟨hl, hF⟩ | ⟨x, hl, hF, hP, hx, rfl⟩
  · rw [hF] at A0
    rw [hl] at hE
    simp only [Option.map_none] at hE
    subst hE
    have HL := Lib.hid (HLE.out (by decide))
    generalize findP l name = P at A0
    clear h hl hF HLE HLz A1
    go_enter Try.func28, Try.ntmps28
    go_wp2_with fail
    refine (A0.out _ H.out).mono ?_; rintro e w1 ⟨rfl, rfl⟩
    go_wp2_with fail
    go_ret
    rw [HL.out]
    exact VPost.same rfl H.out (Chg.refl _ _)
  rw [hF, hP] at A0
  rw [hl] at hE
  simp only [Option.map_some] at hE
  have Hx := Lib.hid hx
  have hbx := hbl x hx
  clear hF hP h hl hx hbl
  by_cases b1 : nameB fn = true
  case neg =>
    rw [if_neg b1] at hE
    subst hE
    have b1' : nameB fn = false := by simpa using b1
    have HL := Lib.hid (HLE.out (by decide))
    have A1 := Lib.hid (fun w => b1' ▸ A1 w hn)
    rename_i A10
    clear b1 b1' A10 HLE HLz
    go_enter Try.func28, Try.ntmps28
    go_wp2_with fail
    refine (A0.out _ H.out).mono ?_; rintro e w1 ⟨rfl, rfl⟩
    go_wp2_with fail
    refine (A1.out _).mono ?_; rintro e w2 ⟨rfl, hc2⟩
    have C2 := Lib.hid hc2
    clear hc2
    go_wp2_with fail
    go_ret
    rw [HL.out]
    exact VPost.same rfl H.out C2.out
  rw [if_pos b1] at hE
  have A1 := Lib.hid (fun w => b1 ▸ A1 w hn)
  rename_i A10
  clear A10 b1
  unfold hasB at hE
  have hlb := look_bool x.s.bound fn
  by_cases b2 : (lookL id x.s.bound fn).isSome = true
  · rw [if_pos b2] at hE
    subst hE
    rw [b2] at hlb
    have HL := Lib.hid (HLE.out (by decide))
    have Hlb := Lib.hid hlb
    clear HLE HLz b2 hlb
    go_enter Try.func28, Try.ntmps28
    go_wp2_with fail
    refine (A0.out _ H.out).mono ?_; rintro e w1 ⟨rfl, rfl⟩
    go_wp2_with fail
    refine (A1.out _).mono ?_; rintro e w2 ⟨rfl, hc2⟩
    have C2 := Lib.hid hc2
    have V2 := Lib.hid (H.out.keptN hc2)
    have p2 := blk_cell (V2.out.2.2.1 x Hx.out).1
    have M2 := Lib.hid (V2.out.2.2.1 x Hx.out).2
    simp only [entC] at p2
    clear hc2
    go_wp2_with (at_lookup; refine wpl_lookup _ rfl _ _ 62 rfl 9 4 Try.underlying62 Try.underlying9 (zeroB _) x.mb x.s.bound rfl M2.out fn rfl ?_; rw [Hlb.out])
    go_ret
    rw [HL.out]
    exact VPost.same rfl H.out C2.out
  · rw [if_neg b2] at hE
    have b2' : (lookL id x.s.bound fn).isSome = false := by simpa using b2
    have Hln := Lib.hid (show lookL id x.s.bound fn = none by simpa using b2)
    rw [b2'] at hlb
    have Hlb := Lib.hid hlb
    have hcs : ((32 : Int) ≤ (x.s.bound.length : Int) ∧ E = 3) ∨ ((x.s.bound.length : Int) < 32 ∧ E = 0) := by
      by_cases h2 : 32 ≤ x.s.bound.length
      · exact .inl ⟨by omega, by rw [hE, if_pos h2]⟩
      · exact .inr ⟨by omega, by rw [hE, if_neg h2]⟩
    clear hE b2 b2' hlb
    rcases hcs with ⟨h2, rfl⟩ | ⟨h2, rfl⟩
    · have HL := Lib.hid (HLE.out (by decide))
      clear HLE HLz
      go_enter Try.func28, Try.ntmps28
      go_wp2_with fail
      refine (A0.out _ H.out).mono ?_; rintro e w1 ⟨rfl, rfl⟩
      go_wp2_with fail
      refine (A1.out _).mono ?_; rintro e w2 ⟨rfl, hc2⟩
      have C2 := Lib.hid hc2
      have V2 := Lib.hid (H.out.keptN hc2)
      have p2 := blk_cell (V2.out.2.2.1 x Hx.out).1
      have M2 := Lib.hid (V2.out.2.2.1 x Hx.out).2
      simp only [entC] at p2
      clear hc2
      go_wp2_with (first | (at_lookup; refine wpl_lookup _ rfl _ _ 62 rfl 9 4 Try.underlying62 Try.underlying9 (zeroB _) x.mb x.s.bound rfl M2.out fn rfl ?_; rw [Hlb.out]) | (at_len; refine wpl_len _ rfl _ 62 rfl 9 4 Try.underlying62 x.mb x.s.bound rfl M2.out ?_))
      go_ret
      rw [HL.out]
      exact VPost.same rfl H.out C2.out
    · have HL := Lib.hid (HLz.out rfl)
      clear HLE HLz
      go_enter Try.func28, Try.ntmps28
      go_wp2_with fail
      refine (A0.out _ H.out).mono ?_; rintro e w1 ⟨rfl, rfl⟩
      go_wp2_with fail
      refine (A1.out _).mono ?_; rintro e w2 ⟨rfl, hc2⟩
      have C2 := Lib.hid hc2
      have V2 := Lib.hid (H.out.keptN hc2)
      have p2 := blk_cell (V2.out.2.2.1 x Hx.out).1
      have M2 := Lib.hid (V2.out.2.2.1 x Hx.out).2
      simp only [entC] at p2
      clear hc2
      go_wp2_with (first | (at_lookup; refine wpl_lookup _ rfl _ _ 62 rfl 9 4 Try.underlying62 Try.underlying9 (zeroB _) x.mb x.s.bound rfl M2.out fn rfl ?_; rw [Hlb.out]) | (at_len; refine wpl_len _ rfl _ 62 rfl 9 4 Try.underlying62 x.mb x.s.bound rfl M2.out ?_) | (at_mapUpdate; refine wpl_store _ rfl _ _ _ 62 rfl 9 4 Try.underlying62 Try.underlying9 x.mb x.s.bound rfl M2.out fn rfl rfl ?_; intro w6 hm6 hc6 hs6))
      go_ret
      rw [HL.out]
      rw [putL_new Hln.out] at hm6
      have ap := V2.out.apart Hx.out
      have he : EntIs w6 { x with s := { x.s with bound := x.s.bound ++ [fn] } } := ⟨hc6.at (by simp; exact ap.2.2.2.2.2.1) (V2.out.2.2.1 x Hx.out).1, hm6⟩
      refine ⟨rfl, _, updB_s _ _ _, V2.out.update Hx.out (fun y => { y with bound := y.bound ++ [fn] }) (fun _ => rfl) (hc6.mono (by simp)) he, (C2.out.mono (T := fp vb mb l) (by simp)).then hc6 (by intro y hy _; simp at hy; subst hy; exact (fp_mem Hx.out).2), ?_⟩
      rw [updB_blks]
      exact fun b hb => .inl hb

set_option maxHeartbeats 4000000 in
set_option maxRecDepth 100000 in
theorem unbind_any (vb mb : Nat) (l : List Sec) (name fn : ByteArray) (w : World) (h : VIs w vb mb l) :
    Calls Try.prog 29 #[.pointer (some ⟨vb, 0, none⟩), .string name, .string fn] w (VPost w vb mb l (.int .i64 (unbindE (l.map Sec.s) name fn)) (unbindS (l.map Sec.s) name fn)) := by
  have H := Lib.hid h
  obtain ⟨E, hE⟩ : ∃ E, E = unbindE (l.map Sec.s) name fn := ⟨_, rfl⟩
  obtain ⟨L', hL'⟩ : ∃ L', L' = unbindS (l.map Sec.s) name fn := ⟨_, rfl⟩
  have HLE := Lib.hid (show ¬ E = 0 → L' = l.map Sec.s from fun hne => by rw [hL', unbindS, ← hE, if_neg hne])
  have HLz := Lib.hid (show E = 0 → L' = upd (l.map Sec.s) name (fun y => { y with bound := delL id y.bound fn }) from fun hz => by rw [hL', unbindS, ← hE, if_pos hz])
  rw [← hE, ← hL']
  unfold unbindE look at hE
  rw [look_s] at hE
  have A0 := Lib.hid (fun w h => find_any vb mb l name w h)
  have hcs := findE_cases l name
  clear hL'
  rcases hcs with ⟨hl, hF⟩ | ⟨x, hl, hF, hP, hx, rfl⟩
  · rw [hF] at A0
    rw [hl] at hE
    simp only [Option.map_none] at hE
    subst hE
    have HL := Lib.hid (HLE.out (by decide))
    generalize findP l name = P at A0
    clear h hl hF HLE HLz
    go_enter Try.func29, Try.ntmps29
    go_wp2_with fail
    refine (A0.out _ H.out).mono ?_; rintro e w1 ⟨rfl, rfl⟩
    go_wp2_with fail
    go_ret
    rw [HL.out]
    exact VPost.same rfl H.out (Chg.refl _ _)
  rw [hF, hP] at A0
  rw [hl] at hE
  simp only [Option.map_some] at hE
  have Hx := Lib.hid hx
  have p2 := blk_cell (h.2.2.1 x hx).1
  have M2 := Lib.hid (h.2.2.1 x hx).2
  simp only [entC] at p2
  clear hF hP h hl hx
  unfold hasB at hE
  have hlb := look_bool x.s.bound fn
  by_cases b2 : (lookL id x.s.bound fn).isSome = true
  · rw [if_pos b2] at hE
    subst hE
    rw [b2] at hlb
    have HL := Lib.hid (HLz.out rfl)
    have Hlb := Lib.hid hlb
    clear HLE HLz b2 hlb
    go_enter Try.func29, Try.ntmps29
    go_wp2_with fail
    refine (A0.out _ H.out).mono ?_; rintro e w1 ⟨rfl, rfl⟩
    go_wp2_with (first | (at_lookup; refine wpl_lookup _ rfl _ _ 62 rfl 9 4 Try.underlying62 Try.underlying9 (zeroB _) x.mb x.s.bound rfl M2.out fn rfl ?_; rw [Hlb.out]) | (at_delete; refine wpl_delete _ rfl _ _ 62 9 rfl 4 Try.underlying62 Try.underlying9 x.mb x.s.bound rfl M2.out fn rfl ?_; intro w6 hm6 hc6 hs6))
    go_ret
    rw [HL.out]
    have ap := H.out.apart Hx.out
    have he : EntIs w6 { x with s := { x.s with bound := delL id x.s.bound fn } } := ⟨hc6.at (by simp; exact ap.2.2.2.2.2.1) (H.out.2.2.1 x Hx.out).1, hm6⟩
    refine ⟨rfl, _, updB_s _ _ _, H.out.update Hx.out (fun y => { y with bound := delL id y.bound fn }) (fun _ => rfl) (hc6.mono (by simp)) he, hc6.mono (by intro y hy _; simp at hy; subst hy; exact (fp_mem Hx.out).2), ?_⟩
    rw [updB_blks]
    exact fun b hb => .inl hb
  · rw [if_neg b2] at hE
    subst hE
    have b2' : (lookL id x.s.bound fn).isSome = false := by simpa using b2
    rw [b2'] at hlb
    have Hlb := Lib.hid hlb
    have HL := Lib.hid (HLE.out (by decide))
    clear HLE HLz b2 b2' hlb
    go_enter Try.func29, Try.ntmps29
    go_wp2_with fail
    refine (A0.out _ H.out).mono ?_; rintro e w1 ⟨rfl, rfl⟩
    go_wp2_with (at_lookup; refine wpl_lookup _ rfl _ _ 62 rfl 9 4 Try.underlying62 Try.underlying9 (zeroB _) x.mb x.s.bound rfl M2.out fn rfl ?_; rw [Hlb.out])
    go_ret
    rw [HL.out]
    exact VPost.same rfl H.out (Chg.refl _ _)
end Go.Proofs.Ytldilefhmpipkaa
