/- Chapter 22: contracts of the program: Read, Accepts, Rotate. No condition. -/
import Derived.Test.YtldilefhmpipkaaSecD
namespace Go.Proofs.Ytldilefhmpipkaa
set_option linter.unusedVariables false
set_option linter.unusedSimpArgs false
open Go.RowKit

def readS (L : List S0) (name fn : ByteArray) : ByteArray × Int × Int := match look L name with | none => (em, 0, 5) | some x => if hasB x fn = true then (x.text, x.ver, 0) else (em, 0, 12)
def accB (L : List S0) (name text : ByteArray) (now : Int) : Bool := match look L name with | none => false | some x => text == x.text || (decide (1 < x.ver) && text == x.before && decide (now ≤ x.til))
def rotE (L : List S0) (name text : ByteArray) (grace now : Int) : Int × Int := match look L name with | none => (0, 5) | some x => if textB text = true then (if timeB grace = true then (if timeB now = true then (if now < x.now then (0, 11) else if 32 ≤ x.ver then (0, 3) else (x.ver + 1, 0)) else (0, 2)) else (0, 2)) else (0, 1)
def rotF (text : ByteArray) (grace now : Int) (y : S0) : S0 := ⟨y.name, text, y.text, y.ver + 1, now + grace, now, y.bound⟩
def rotS (L : List S0) (name text : ByteArray) (grace now : Int) : List S0 := if (rotE L name text grace now).2 = 0 then upd L name (rotF text grace now) else L

set_option maxHeartbeats 4000000 in
set_option maxRecDepth 100000 in
theorem read_any (vb mb : Nat) (l : List Sec) (name fn : ByteArray) (w : World) (h : VIs w vb mb l) :
    Calls Try.prog 22 #[.pointer (some ⟨vb, 0, none⟩), .string name, .string fn] w fun e w' => e = .returned (.tuple #[.string (readS (l.map Sec.s) name fn).1, .int .i64 (readS (l.map Sec.s) name fn).2.1, .int .i64 (readS (l.map Sec.s) name fn).2.2]) ∧ Chg [] w w' := by
  have H := Lib.hid h
  obtain ⟨R, hR⟩ : ∃ R, R = readS (l.map Sec.s) name fn := ⟨_, rfl⟩
  rw [← hR]
  unfold readS look at hR
  rw [look_s] at hR
  have A0 := Lib.hid (fun w h => find_any vb mb l name w h)
  have hcs := findE_cases l name
  rcases hcs with ⟨hl, hF⟩ | ⟨x, hl, hF, hP, hx, rfl⟩
  · rw [hF] at A0
    rw [hl] at hR
    simp only [Option.map_none] at hR
    subst hR
    generalize findP l name = P at A0
    clear h hl hF
    go_enter Try.func22, Try.ntmps22
    go_wp2_with fail
    refine (A0.out _ H.out).mono ?_; rintro e w1 ⟨rfl, rfl⟩
    go_wp2_with fail
    go_ret3
    exact ⟨rfl, Chg.refl _ _⟩
  rw [hF, hP] at A0
  rw [hl] at hR
  simp only [Option.map_some] at hR
  have p2 := blk_cell (h.2.2.1 x hx).1
  have M2 := Lib.hid (h.2.2.1 x hx).2
  simp only [entC] at p2
  clear hF hP h hl hx
  unfold hasB at hR
  have hlb := look_bool x.s.bound fn
  by_cases b2 : (lookL id x.s.bound fn).isSome = true
  · rw [if_pos b2] at hR
    subst hR
    rw [b2] at hlb
    have Hlb := Lib.hid hlb
    clear b2 hlb
    go_enter Try.func22, Try.ntmps22
    go_wp2_with fail
    refine (A0.out _ H.out).mono ?_; rintro e w1 ⟨rfl, rfl⟩
    go_wp2_with (at_lookup; refine wpl_lookup _ rfl _ _ 62 rfl 9 4 Try.underlying62 Try.underlying9 (zeroB _) x.mb x.s.bound rfl M2.out fn rfl ?_; rw [Hlb.out])
    go_quiet (fail)
    go_wp2_with fail
    go_ret3
    exact ⟨rfl, (Chg.refl _ _).drewN _⟩
  · rw [if_neg b2] at hR
    subst hR
    have b2' : (lookL id x.s.bound fn).isSome = false := by simpa using b2
    rw [b2'] at hlb
    have Hlb := Lib.hid hlb
    clear b2 b2' hlb
    go_enter Try.func22, Try.ntmps22
    go_wp2_with fail
    refine (A0.out _ H.out).mono ?_; rintro e w1 ⟨rfl, rfl⟩
    go_wp2_with (at_lookup; refine wpl_lookup _ rfl _ _ 62 rfl 9 4 Try.underlying62 Try.underlying9 (zeroB _) x.mb x.s.bound rfl M2.out fn rfl ?_; rw [Hlb.out])
    go_ret3
    exact ⟨rfl, Chg.refl _ _⟩

set_option maxHeartbeats 4000000 in
set_option maxRecDepth 100000 in
theorem acc_any (vb mb : Nat) (l : List Sec) (name text : ByteArray) (now : Int) (w : World) (h : VIs w vb mb l) :
    Calls Try.prog 16 #[.pointer (some ⟨vb, 0, none⟩), .string name, .string text, .int .i64 now] w fun e w' => e = .returned (.bool (accB (l.map Sec.s) name text now)) ∧ w = w' := by
  have H := Lib.hid h
  obtain ⟨R, hR⟩ : ∃ R, R = accB (l.map Sec.s) name text now := ⟨_, rfl⟩
  rw [← hR]
  unfold accB look at hR
  rw [look_s] at hR
  have A0 := Lib.hid (fun w h => find_any vb mb l name w h)
  have hcs := findE_cases l name
  rcases hcs with ⟨hl, hF⟩ | ⟨x, hl, hF, hP, hx, rfl⟩
  · rw [hF] at A0
    rw [hl] at hR
    simp only [Option.map_none] at hR
    subst hR
    generalize findP l name = P at A0
    clear h hl hF
    go_enter Try.func16, Try.ntmps16
    go_wp2_with fail
    refine (A0.out _ H.out).mono ?_; rintro e w1 ⟨rfl, rfl⟩
    go_wp2_with fail
    go_ret
    exact ⟨rfl, rfl⟩
  rw [hF, hP] at A0
  rw [hl] at hR
  simp only [Option.map_some] at hR
  have p2 := blk_cell (h.2.2.1 x hx).1
  simp only [entC] at p2
  clear hF hP h hl hx
  have hcs : (text = x.s.text ∧ R = true) ∨ ((text.toList == x.s.text.toList) = false ∧ x.s.ver ≤ 1 ∧ R = false) ∨ ((text.toList == x.s.text.toList) = false ∧ 1 < x.s.ver ∧ (text.toList == x.s.before.toList) = false ∧ R = false) ∨ ((text.toList == x.s.text.toList) = false ∧ 1 < x.s.ver ∧ text = x.s.before ∧ now ≤ x.s.til ∧ R = true) ∨ ((text.toList == x.s.text.toList) = false ∧ 1 < x.s.ver ∧ text = x.s.before ∧ x.s.til < now ∧ R = false) := by
    by_cases h1 : text = x.s.text
    · exact .inl ⟨h1, by rw [hR]; simp [h1]⟩
    · right
      have e1 : (text == x.s.text) = false := by simpa using h1
      rw [e1] at hR
      by_cases h2 : 1 < x.s.ver
      · right
        by_cases h3 : text = x.s.before
        · right
          by_cases h4 : now ≤ x.s.til
          · exact .inl ⟨bne_bytes h1, h2, h3, h4, by rw [hR]; simp [h2, h3, h4]⟩
          · exact .inr ⟨bne_bytes h1, h2, h3, by omega, by rw [hR]; simp [h4]⟩
        · exact .inl ⟨bne_bytes h1, h2, bne_bytes h3, by rw [hR]; simp [h3]⟩
      · exact .inl ⟨bne_bytes h1, by omega, by rw [hR]; simp [h2]⟩
  clear hR
  rcases hcs with ⟨rfl, rfl⟩ | ⟨h1, h2, rfl⟩ | ⟨h1, h2, h3, rfl⟩ | ⟨h1, h2, rfl, h4, rfl⟩ | ⟨h1, h2, rfl, h4, rfl⟩
  all_goals
    go_enter Try.func16, Try.ntmps16
    go_wp2_with fail
    refine (A0.out _ H.out).mono ?_; rintro e w1 ⟨rfl, rfl⟩
    go_wp2_with fail
    go_ret
    exact ⟨by first | rfl | (simp; omega), rfl⟩

set_option maxHeartbeats 8000000 in
set_option maxRecDepth 100000 in
theorem rot_any (vb mb : Nat) (l : List Sec) (name text : ByteArray) (grace now : Int) (w : World) (h : VIs w vb mb l) (ht : text.size ≤ maxLen) (hv : ∀ x ∈ l, 0 ≤ x.s.ver) :
    Calls Try.prog 19 #[.pointer (some ⟨vb, 0, none⟩), .string name, .string text, .int .i64 grace, .int .i64 now] w (VPost w vb mb l (.tuple #[.int .i64 (rotE (l.map Sec.s) name text grace now).1, .int .i64 (rotE (l.map Sec.s) name text grace now).2]) (rotS (l.map Sec.s) name text grace now)) := by
  have H := Lib.hid h
  obtain ⟨R, hR⟩ : ∃ R, R = rotE (l.map Sec.s) name text grace now := ⟨_, rfl⟩
  obtain ⟨L', hL'⟩ : ∃ L', L' = rotS (l.map Sec.s) name text grace now := ⟨_, rfl⟩
  have HLE := Lib.hid (show ¬ R.2 = 0 → L' = l.map Sec.s from fun hne => by rw [hL', rotS, ← hR, if_neg hne])
  have HLz := Lib.hid (show R.2 = 0 → L' = upd (l.map Sec.s) name (rotF text grace now) from fun hz => by rw [hL', rotS, ← hR, if_pos hz])
  rw [← hR, ← hL']
  unfold rotE look at hR
  rw [look_s] at hR
  have A0 := Lib.hid (fun w h => find_any vb mb l name w h)
  have A1 := valid_any text
  have hcs := findE_cases l name
  clear hL'
  rcases hcs with ⟨hl, hF⟩ | ⟨x, hl, hF, hP, hx, rfl⟩
  · rw [hF] at A0
    rw [hl] at hR
    simp only [Option.map_none] at hR
    subst hR
    have HL := Lib.hid (HLE.out (by decide))
    generalize findP l name = P at A0
    clear h hl hF A1 HLE HLz
    go_enter Try.func19, Try.ntmps19
    go_wp2_with fail
    refine (A0.out _ H.out).mono ?_; rintro e w1 ⟨rfl, rfl⟩
    go_wp2_with fail
    go_ret2
    rw [HL.out]
    exact VPost.same rfl H.out (Chg.refl _ _)
  rw [hF, hP] at A0
  rw [hl] at hR
  simp only [Option.map_some] at hR
  have Hx := Lib.hid hx
  have hv0 := hv x hx
  clear hF hP h hl hx hv
  by_cases b1 : textB text = true
  case neg =>
    rw [if_neg b1] at hR
    subst hR
    have b1' : textB text = false := by simpa using b1
    have HL := Lib.hid (HLE.out (by decide))
    have A1 := Lib.hid (fun w => b1' ▸ A1 w ht)
    rename_i A10
    clear b1 b1' A10 HLE HLz
    go_enter Try.func19, Try.ntmps19
    go_wp2_with fail
    refine (A0.out _ H.out).mono ?_; rintro e w1 ⟨rfl, rfl⟩
    go_wp2_with fail
    refine (A1.out _).mono ?_; rintro e w2 ⟨rfl, hc2⟩
    have C2 := Lib.hid hc2
    clear hc2
    go_wp2_with fail
    go_ret2
    rw [HL.out]
    exact VPost.same rfl H.out C2.out
  rw [if_pos b1] at hR
  have A1 := Lib.hid (fun w => b1 ▸ A1 w ht)
  rename_i A10
  clear A10 b1
  have A2 := fun w => time_any grace w
  have A3 := fun w => time_any now w
  by_cases b2 : timeB grace = true
  case neg =>
    rw [if_neg b2] at hR
    subst hR
    have b2' : timeB grace = false := by simpa using b2
    rw [b2'] at A2
    have A2 := Lib.hid A2
    rename_i A20
    have HL := Lib.hid (HLE.out (by decide))
    clear b2 b2' A20 A3 HLE HLz
    go_enter Try.func19, Try.ntmps19
    go_wp2_with fail
    refine (A0.out _ H.out).mono ?_; rintro e w1 ⟨rfl, rfl⟩
    go_wp2_with fail
    refine (A1.out _).mono ?_; rintro e w2 ⟨rfl, hc2⟩
    have C2 := Lib.hid hc2
    clear hc2
    go_wp2_with fail
    refine (A2.out _).mono ?_; rintro e w3 ⟨rfl, rfl⟩
    go_wp2_with fail
    go_ret2
    rw [HL.out]
    exact VPost.same rfl H.out C2.out
  rw [if_pos b2] at hR
  rw [b2] at A2
  have A2 := Lib.hid A2
  rename_i A20
  simp only [timeB, Bool.and_eq_true, decide_eq_true_eq] at b2
  obtain ⟨g0, g1⟩ := b2
  clear A20
  by_cases b3 : timeB now = true
  case neg =>
    rw [if_neg b3] at hR
    subst hR
    have b3' : timeB now = false := by simpa using b3
    rw [b3'] at A3
    have A3 := Lib.hid A3
    rename_i A30
    have HL := Lib.hid (HLE.out (by decide))
    clear b3 b3' A30 HLE HLz
    go_enter Try.func19, Try.ntmps19
    go_wp2_with fail
    refine (A0.out _ H.out).mono ?_; rintro e w1 ⟨rfl, rfl⟩
    go_wp2_with fail
    refine (A1.out _).mono ?_; rintro e w2 ⟨rfl, hc2⟩
    have C2 := Lib.hid hc2
    clear hc2
    go_wp2_with fail
    refine (A2.out _).mono ?_; rintro e w3 ⟨rfl, rfl⟩
    go_wp2_with fail
    refine (A3.out _).mono ?_; rintro e w4 ⟨rfl, rfl⟩
    go_wp2_with fail
    go_ret2
    rw [HL.out]
    exact VPost.same rfl H.out C2.out
  rw [if_pos b3] at hR
  rw [b3] at A3
  have A3 := Lib.hid A3
  rename_i A30
  simp only [timeB, Bool.and_eq_true, decide_eq_true_eq] at b3
  obtain ⟨t0, t1⟩ := b3
  clear A30
  have hcs : (now < x.s.now ∧ R = (0, 11)) ∨ (x.s.now ≤ now ∧ 32 ≤ x.s.ver ∧ R = (0, 3)) ∨ (x.s.now ≤ now ∧ x.s.ver < 32 ∧ R = (x.s.ver + 1, 0)) := by
    by_cases c1 : now < x.s.now
    · exact .inl ⟨c1, by rw [hR, if_pos c1]⟩
    · by_cases c2 : 32 ≤ x.s.ver
      · exact .inr (.inl ⟨by omega, c2, by rw [hR, if_neg c1, if_pos c2]⟩)
      · exact .inr (.inr ⟨by omega, by omega, by rw [hR, if_neg c1, if_neg c2]⟩)
  clear hR
  rcases hcs with ⟨c1, rfl⟩ | ⟨c1, c2, rfl⟩ | ⟨c1, c2, rfl⟩
  iterate 2
    · have HL := Lib.hid (HLE.out (by decide))
      clear HLE HLz
      go_enter Try.func19, Try.ntmps19
      go_wp2_with fail
      refine (A0.out _ H.out).mono ?_; rintro e w1 ⟨rfl, rfl⟩
      go_wp2_with fail
      refine (A1.out _).mono ?_; rintro e w2 ⟨rfl, hc2⟩
      have C2 := Lib.hid hc2
      have p2 := blk_cell ((H.out.keptN hc2).2.2.1 x Hx.out).1
      simp only [entC] at p2
      clear hc2
      go_wp2_with fail
      refine (A2.out _).mono ?_; rintro e w3 ⟨rfl, rfl⟩
      go_wp2_with fail
      refine (A3.out _).mono ?_; rintro e w4 ⟨rfl, rfl⟩
      go_wp2_with fail
      go_ret2
      rw [HL.out]
      exact VPost.same rfl H.out C2.out
  · have HL := Lib.hid (HLz.out rfl)
    clear HLE HLz
    go_enter Try.func19, Try.ntmps19
    go_wp2_with fail
    refine (A0.out _ H.out).mono ?_; rintro e w1 ⟨rfl, rfl⟩
    go_wp2_with fail
    refine (A1.out _).mono ?_; rintro e w2 ⟨rfl, hc2⟩
    have C2 := Lib.hid hc2
    have V2 := Lib.hid (H.out.keptN hc2)
    have hb2 := (V2.out.2.2.1 x Hx.out).1
    have M2 := Lib.hid (V2.out.2.2.1 x Hx.out).2
    simp only [entC] at hb2
    have B2 := Lib.hid hb2
    have p2 := blk_cell hb2
    have f2 := blk_free hb2
    have lt2 := lt_of_heap hb2
    clear hc2 hb2
    go_wp2_with fail
    refine (A2.out _).mono ?_; rintro e w3 ⟨rfl, rfl⟩
    go_wp2_with fail
    refine (A3.out _).mono ?_; rintro e w4 ⟨rfl, rfl⟩
    go_wp2_with fail
    go_ret2
    rw [HL.out]
    have hset := blk_set (blk_set (blk_set (blk_set (blk_set B2.out 0 (.string text)) 1 (.string x.s.text)) 3 (.int .i64 (now + grace))) 4 (.int .i64 now)) 2 (.int .i64 (x.s.ver + 1))
    have hcc : Chg [x.eb] w2 (((((w2.setCell ⟨x.eb, 0, none⟩ (.string text)).setCell ⟨x.eb, 1, none⟩ (.string x.s.text)).setCell ⟨x.eb, 3, none⟩ (.int .i64 (now + grace))).setCell ⟨x.eb, 4, none⟩ (.int .i64 now)).setCell ⟨x.eb, 2, none⟩ (.int .i64 (x.s.ver + 1))) :=
      (((((Chg.refl _ _).setCell _ _ (by simp)).setCell _ _ (by simp)).setCell _ _ (by simp)).setCell _ _ (by simp)).setCell _ _ (by simp)
    have ap := V2.out.apart Hx.out
    refine ⟨rfl, _, updB_s _ _ _, V2.out.update Hx.out (rotF text grace now) (fun _ => rfl) (hcc.mono (by simp)) ⟨hset, M2.out.kept hcc (by simp; exact fun e => ap.2.2.2.2.2.1 e.symm)⟩, (C2.out.mono (T := fp vb mb l) (by simp)).then hcc (by intro y hy _; simp at hy; subst hy; exact (fp_mem Hx.out).1), ?_⟩
    rw [updB_blks]
    exact fun b hb => .inl hb
end Go.Proofs.Ytldilefhmpipkaa
