/- Chapter 22: contract of the reference: Redact. No condition. -/
import Derived.Test.YtldilefhmpipkaaSedC
namespace Go.Proofs.Ytldilefhmpipkaa
set_option linter.unusedVariables false
set_option linter.unusedSimpArgs false
open Go.RowKit

def rredS (L : List R0) (s : ByteArray) : ByteArray := ⟨(red (rtexts L) (byt s)).toArray⟩
theorem byt_app (a b : ByteArray) : byt (a ++ b) = byt a ++ byt b := by unfold byt; simp
theorem byt_one (s : ByteArray) (k : Nat) (h : k < s.size) : byt (s.extract k (k + 1)) = [s[k]] := by
  have h1 : k < s.data.toList.length := by simpa using h
  unfold byt
  rw [ByteArray.data_extract, Array.toList_extract, List.extract_eq_take_drop, Nat.add_sub_cancel_left, List.drop_eq_getElem_cons h1]
  rfl
theorem drop_byt (s : ByteArray) (k : Nat) (h : k < s.size) : (byt s).drop k = s[k] :: (byt s).drop (k + 1) := by
  have h1 : k < (byt s).length := by rw [byt_len]; exact h
  rw [List.drop_eq_getElem_cons h1]; rfl

set_option maxHeartbeats 8000000 in
set_option maxRecDepth 100000 in
theorem rredact_any (rb : Nat) (sv : Value) (l : List RSec) (s : ByteArray) (w : World) (h : RVIs w rb sv l) (hl : l.length ≤ 4096) (hs : s.size ≤ 4096) :
    Calls Try.prog 15 #[.pointer (some ⟨rb, 0, none⟩), .string s] w fun e w' => e = .returned (.string (rredS (l.map RSec.s) s)) ∧ Chg [] w w' := by
  have H := Lib.hid h
  have c0 := blk_cell h.1
  obtain ⟨T, hT⟩ : ∃ T, T = rtexts (l.map RSec.s) := ⟨_, rfl⟩
  have HR := Lib.hid (show rredS (l.map RSec.s) s = ⟨(red T (byt s)).toArray⟩ by rw [hT]; rfl)
  have A := Lib.hid (fun k (w' : World) hk hw => hT ▸ rlong_any rb sv l s k w' hw hl hk hs)
  have HL := Lib.hid (show (red T (byt s)).length ≤ 12288 from by
    have := red_len T _ (byt s) (Nat.le_refl _)
    rw [byt_len] at this; omega)
  clear h hT
  go_enter Try.func15, Try.ntmps15
  go_wp2_with fail
  clear c0
  go_loopw [5, 6] (fun o a wr => ∃ (ob : ByteArray) (k : Nat), o = .string ob ∧ a = .int .i64 k ∧ k ≤ s.size ∧ Chg [] w wr ∧ Hid (byt ob ++ red T ((byt s).drop k) = red T (byt s))) (fun _ a _ => s.size - (intOf a).toNat)
  case atStart => exact ⟨⟨#[]⟩, 0, rfl, rfl, Nat.zero_le _, Chg.refl _ _, Lib.hid rfl⟩
  case round =>
    obtain ⟨ob, k, rfl, rfl, hk, hch, Ho⟩ := hrel
    have hob : ob.size ≤ 12288 := by
      have := congrArg List.length Ho.out
      rw [List.length_append, byt_len] at this
      have := HL.out; omega
    have HC := Lib.hid hch
    have B := Lib.hid (A.out k wr hk (H.out.keptN hch))
    clear hch
    by_cases hks : k < s.size
    · have hd := Lib.hid (drop_byt s k hks)
      have ho := Lib.hid (byt_one s k hks)
      have hle := longest_le T ((byt s).drop k)
      rw [List.length_drop, byt_len] at hle
      have H0 := Lib.hid (show longest T ((byt s).drop k) = 0 → red T ((byt s).drop k) = s[k] :: red T ((byt s).drop (k + 1)) from fun h => red_zero (drop_byt s k hks) h)
      have H1 := Lib.hid (show ¬ longest T ((byt s).drop k) = 0 → red T ((byt s).drop k) = [42, 42, 42] ++ red T (((byt s).drop k).drop (longest T ((byt s).drop k))) from fun h => red_some h)
      generalize longest T ((byt s).drop k) = n at *
      have hk0 : (0 : Int) ≤ (k : Int) := by omega
      by_cases hn : n = 0
      · subst hn
        go_wp2_with fail
        refine (B.out).mono ?_; rintro e w1 ⟨rfl, hc1⟩
        have HC1 := Lib.hid (HC.out.thenSame hc1)
        clear hc1
        go_wp2_with fail
        refine ⟨⟨_, k + 1, rfl, by go_num, by omega, HC1.out, Lib.hid ?_⟩, by simp [intOf]; omega⟩
        rw [byt_app, ho.out, List.append_assoc, ← Ho.out, H0.out trivial]
        rfl
      · go_wp2_with fail
        refine (B.out).mono ?_; rintro e w1 ⟨rfl, hc1⟩
        have HC1 := Lib.hid (HC.out.thenSame hc1)
        clear hc1
        go_wp2_with fail
        refine ⟨⟨_, k + n, rfl, by go_num, by omega, HC1.out, Lib.hid ?_⟩, by simp [intOf]; omega⟩
        rw [byt_app, List.append_assoc, ← Ho.out, H1.out hn, List.drop_drop]
        rfl
    · have hks2 : k = s.size := by omega
      subst hks2
      have E : Hid (rredS (l.map RSec.s) s = ob) := Lib.hid (by
        have := Ho.out
        rw [show (byt s).drop s.size = [] from List.drop_of_length_le (by rw [byt_len]; exact Nat.le_refl _), red_nil, List.append_nil] at this
        rw [HR.out, ← this]; unfold byt; simp)
      go_wp2_with fail
      go_ret
      exact ⟨by rw [E.out]; rfl, HC.out⟩
end Go.Proofs.Ytldilefhmpipkaa
