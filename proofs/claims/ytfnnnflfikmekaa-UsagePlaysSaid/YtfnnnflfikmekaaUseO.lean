/- Chapter 52: asked. No condition. -/
import Derived.Test.YtfnnnflfikmekaaUseG
namespace Go.Proofs.Ytfnnnflfikmekaa
set_option linter.unusedVariables false
set_option linter.unusedSimpArgs false
open Go.RowKit
variable {w w' : World} {b mb : Nat} {v : Value} {s : Led}
def askE (ns : List ByteArray) (p : Int) : Int := if ns.all nameB = true then (if p < 0 ∨ 1073741824 < p then 2 else 0) else 4
theorem take_step {α : Type} (l : List α) (k : Nat) (h : k < l.length) (f : α → Bool) : (l.take (k + 1)).all f = ((l.take k).all f && f l[k]) := by
  rw [List.take_succ_eq_append_getElem h, List.all_append]; simp
set_option maxHeartbeats 4000000 in
set_option maxRecDepth 100000 in
theorem asked_any (ns : List ByteArray) (p : Int) (g c : Nat) (h : LIs w b mb v s) (hlt : g < w.heap.size) (hn : ∀ k (hk : k < ns.length), w.cell? ⟨g, k, none⟩ = some (.string ns[k])) (hs : ∀ x ∈ ns, x.size ≤ maxLen) (hl : ns.length ≤ 10) :
    Calls Try.prog 36 #[.pointer (some ⟨b, 0, none⟩), .int .i64 p, .slice (some ⟨g, 0, none⟩) ns.length c] w fun e w' => e = .returned (.int .i64 (askE ns p)) ∧ Chg [] w w' := by
  have H := Lib.hid h
  have HN := Lib.hid hn
  have HS := Lib.hid hs
  obtain ⟨R, hR⟩ : ∃ R, R = askE ns p := ⟨_, rfl⟩
  rw [← hR]
  have HR := Lib.hid hR
  clear h hn hs hR
  go_enter Try.func36, Try.ntmps36
  go_wp2_with fail
  refine (made_any H.out).mono ?_; rintro e w1 ⟨rfl, rfl⟩
  go_wp2_with fail
  go_loopw [14] (fun i wr => ∃ k : Nat, i = .int .i64 k ∧ k ≤ ns.length ∧ Hid ((ns.take k).all nameB = true) ∧ Hid (Chg [] w wr)) (fun i _ => ns.length - (intOf i).toNat)
  case atStart => exact ⟨0, rfl, Nat.zero_le _, Lib.hid (by simp), Lib.hid (Chg.refl _ _)⟩
  case round =>
    obtain ⟨k, rfl, hkl, HA, D⟩ := hrel
    by_cases hk : k < ns.length
    · have c0 : wr.cell? ⟨g, k, none⟩ = some (.string ns[k]) := (World.cell?_of_block (w := w) (a := ⟨g, k, none⟩) (D.out.block g hlt (by simp))).trans (HN.out k hk)
      have hst := take_step ns k hk nameB
      have hsz := HS.out ns[k] (List.getElem_mem _)
      have hbad : nameB ns[k] = false → R = 4 := fun hb => by
        rw [HR.out]; unfold askE
        rw [if_neg]
        intro h
        have := List.all_eq_true.1 h ns[k] (List.getElem_mem _)
        rw [hb] at this; cases this
      generalize ns[k] = x at *
      have A := fun w' => name_any x w' hsz
      have hk0 : (0 : Int) ≤ (k : Int) := by omega
      have hk1 : (k : Int) < (ns.length : Int) := by omega
      cases hb : nameB x
      · rw [hb] at A
        have HA' := Lib.hid A
        have HB := Lib.hid (hbad hb)
        clear A hbad hst hb
        go_wp2_with fail
        refine (HA'.out _).mono ?_; rintro e w2 ⟨rfl, hc2⟩
        have D2 := Lib.hid (D.out.thenSame hc2)
        clear hc2
        go_wp2_with fail
        go_ret
        exact ⟨by rw [HB.out]; rfl, D2.out⟩
      · rw [hb] at A
        have HA' := Lib.hid A
        have HT := Lib.hid (show (ns.take (k + 1)).all nameB = true by rw [hst, HA.out, hb]; rfl)
        clear A hbad hst hb
        go_wp2_with fail
        refine (HA'.out _).mono ?_; rintro e w2 ⟨rfl, hc2⟩
        have D2 := Lib.hid (D.out.thenSame hc2)
        clear hc2
        go_wp2_with fail
        exact ⟨⟨k + 1, by go_num, by omega, HT, D2⟩, by simp [intOf]; omega⟩
    · have hks : k = ns.length := by omega
      subst hks
      have hall := HA.out
      rw [List.take_length] at hall
      have hcs : (p < 0 ∧ Hid (R = 2)) ∨ (0 ≤ p ∧ 1073741824 < p ∧ Hid (R = 2)) ∨ (0 ≤ p ∧ p ≤ 1073741824 ∧ Hid (R = 0)) := by
        by_cases q1 : p < 0
        · exact .inl ⟨q1, Lib.hid (by rw [HR.out]; unfold askE; rw [if_pos hall, if_pos (.inl q1)])⟩
        · by_cases q2 : 1073741824 < p
          · exact .inr (.inl ⟨by omega, q2, Lib.hid (by rw [HR.out]; unfold askE; rw [if_pos hall, if_pos (.inr q2)])⟩)
          · exact .inr (.inr ⟨by omega, by omega, Lib.hid (by rw [HR.out]; unfold askE; rw [if_pos hall, if_neg (by omega)])⟩)
      clear hall
      rcases hcs with ⟨q1, E⟩ | ⟨q1, q2, E⟩ | ⟨q1, q2, E⟩
      all_goals
        go_wp2_with fail
        go_ret
        exact ⟨by rw [E.out]; rfl, D.out⟩
end Go.Proofs.Ytfnnnflfikmekaa
