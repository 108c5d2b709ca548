/- Chapter 52: the example that each statement checks. No condition. -/
import Derived.Test.YtfnnnflfikmekaaUseW
namespace Go.Proofs.Ytfnnnflfikmekaa
set_option linter.unusedVariables false
set_option linter.unusedSimpArgs false
open Go.RowKit
set_option maxRecDepth 100000 in
theorem mkrec_any (id fn : ByteArray) (n : Int) (w : World) : Calls Try.prog 31 #[.string id, .string fn, .int .i64 n] w fun e w' => e = .returned (.agg #[.string id, .string ⟨#[116]⟩, .string fn, .int .i64 0, .int .i64 1, .int .i64 1, .int .i64 1, .int .i64 n, .bool false]) ∧ Chg [] w w' := by
  go_enter Try.func31, Try.ntmps31
  go_wp2_with fail
  exact bodyPost_ret (v := .agg #[.string id, .string ⟨#[116]⟩, .string fn, .int .i64 0, .int .i64 1, .int .i64 1, .int .i64 1, .int .i64 n, .bool false]) (by simp [results, Try.results31, go_sem]) rfl ⟨rfl, (Chg.refl _ _).alloc _⟩
theorem aw_rec1 {W w : World} {b : Nat} (h : Pair W w (JL b as0) NoSide) : Calls Try.prog 14 #[.pointer (some ⟨b, 0, none⟩), .agg #[.string ⟨#[97]⟩, .string ⟨#[116]⟩, .string ⟨#[102]⟩, .int .i64 0, .int .i64 1, .int .i64 1, .int .i64 1, .int .i64 3, .bool false]] w fun e w' => e = .returned (.int .i64 0) ∧ Pair W w' (JL b as1) NoSide := by
  have := p_rec noSide h (awR 97 102 3) awG1 (by decide)
  rw [awE1, awS1] at this
  exact this
theorem aw_rec2 {W w : World} {b : Nat} (h : Pair W w (JL b as1) NoSide) : Calls Try.prog 14 #[.pointer (some ⟨b, 0, none⟩), .agg #[.string ⟨#[98]⟩, .string ⟨#[116]⟩, .string ⟨#[103]⟩, .int .i64 0, .int .i64 1, .int .i64 1, .int .i64 1, .int .i64 4, .bool false]] w fun e w' => e = .returned (.int .i64 0) ∧ Pair W w' (JL b as2) NoSide := by
  have := p_rec noSide h (awR 98 103 4) awG2 (by decide)
  rw [awE2, awS2] at this
  exact this
theorem aw_rec3 {W w : World} {b : Nat} (h : Pair W w (JL b as2) NoSide) : Calls Try.prog 14 #[.pointer (some ⟨b, 0, none⟩), .agg #[.string ⟨#[97]⟩, .string ⟨#[116]⟩, .string ⟨#[102]⟩, .int .i64 0, .int .i64 1, .int .i64 1, .int .i64 1, .int .i64 3, .bool false]] w fun e w' => e = .returned (.int .i64 0) ∧ Pair W w' (JL b as2) NoSide := by
  have := p_rec noSide h (awR 97 102 3) awG1 (by decide)
  rw [awE3, awS3] at this
  exact this
theorem aw_rec4 {W w : World} {b : Nat} (h : Pair W w (JL b as2) NoSide) : Calls Try.prog 14 #[.pointer (some ⟨b, 0, none⟩), .agg #[.string ⟨#[97]⟩, .string ⟨#[116]⟩, .string ⟨#[102]⟩, .int .i64 0, .int .i64 1, .int .i64 1, .int .i64 1, .int .i64 4, .bool false]] w fun e w' => e = .returned (.int .i64 19) ∧ Pair W w' (JL b as2) NoSide := by
  have := p_rec noSide h (awR 97 102 4) awG4 (by decide)
  rw [awE4, awS4] at this
  exact this
theorem aw_total {W w : World} {b : Nat} (h : Pair W w (JL b as2) NoSide) : Calls Try.prog 15 #[.pointer (some ⟨b, 0, none⟩), .string ⟨#[116]⟩, .int .i64 0] w fun e w' => e = .returned (.tuple #[.agg #[.int .i64 2, .int .i64 2, .int .i64 2, .int .i64 7], .int .i64 0]) ∧ Chg [] w w' ∧ Pair W w' (JL b as2) NoSide := by
  have := p_total noSide h ⟨#[116]⟩ 0 (by decide) (by decide)
  rw [awT] at this
  exact this
theorem aw_funcs {W w : World} {b : Nat} (h : Pair W w (JL b as2) NoSide) : Calls Try.prog 18 #[.pointer (some ⟨b, 0, none⟩), .string ⟨#[116]⟩, .int .i64 0] w fun e w' => ∃ a c, e = .returned (.slice a 2 c) ∧ SlIs kc 1 w' a 2 [[102], [103]] ∧ Chg [] w w' ∧ Pair W w' (JL b as2) NoSide := by
  have := p_funcs noSide h ⟨#[116]⟩ 0 (by decide)
  rw [awF] at this
  exact this
theorem aw_close1 {W w : World} {b : Nat} (h : Pair W w (JL b as2) NoSide) : Calls Try.prog 20 #[.pointer (some ⟨b, 0, none⟩), .int .i64 0] w fun e w' => e = .returned (.int .i64 0) ∧ Pair W w' (JL b as3) NoSide := by
  have := p_close noSide h 0
  rw [awC1, awD1] at this
  exact this
theorem aw_close2 {W w : World} {b : Nat} (h : Pair W w (JL b as3) NoSide) : Calls Try.prog 20 #[.pointer (some ⟨b, 0, none⟩), .int .i64 0] w fun e w' => e = .returned (.int .i64 11) ∧ Pair W w' (JL b as3) NoSide := by
  have := p_close noSide h 0
  rw [awC2, awD2] at this
  exact this
theorem aw_len {W w : World} {b : Nat} (h : Pair W w (JL b as2) NoSide) : Calls Try.prog 13 #[.pointer (some ⟨b, 0, none⟩)] w fun e w' => e = .returned (.int .i64 2) ∧ w = w' := p_len h
theorem aw_period {W w : World} {b : Nat} (h : Pair W w (JL b as3) NoSide) : Calls Try.prog 19 #[.pointer (some ⟨b, 0, none⟩)] w fun e w' => e = .returned (.int .i64 1) ∧ w = w' := p_period h
theorem aw_texts (a1 a2 : Option Addr) (c1 c2 : Nat) (w : World) (h1 : SlIs kc 1 w a1 2 [[102], [103]]) (h2 : SlIs kc 1 w a2 2 [[102], [103]]) : Calls Try.prog 17 #[.slice a1 2 c1, .slice a2 2 c2] w fun e w' => e = .returned (.bool true) ∧ Chg [] w w' :=
  texts_any a1 a2 c1 c2 [[102], [103]] w h1 h2 (by decide)
set_option maxHeartbeats 8000000 in
set_option maxRecDepth 100000 in
theorem awake_any (w : World) : Calls Try.prog 10 #[] w fun e w' => e = .returned (.bool true) ∧ Chg [] w w' := by
  go_enter Try.func10, Try.ntmps10
  go_wp2_with fail
  refine (new_first (Chg.refl [] w)).mono ?_; rintro e w1 ⟨b, rfl, hp⟩
  have HP := Lib.hid (show Pair w w1 (JL b as0) NoSide from hp)
  clear hp
  go_wp2_with (first
    | (go_at_call 31; (with_reducible refine (mkrec_any _ _ _ _).mono ?_); rintro e w2 ⟨rfl, hc2⟩; have HP := Lib.hid (HP.out.keptN (sideL _ _) noSide hc2); clear hc2)
    | (go_at_call 14; (with_reducible refine (aw_rec1 HP.out).mono ?_); rintro e w2 ⟨rfl, hp2⟩; have HP := Lib.hid hp2; clear hp2)
    | (go_at_call 14; (with_reducible refine (aw_rec2 HP.out).mono ?_); rintro e w2 ⟨rfl, hp2⟩; have HP := Lib.hid hp2; clear hp2)
    | (go_at_call 14; (with_reducible refine (aw_rec3 HP.out).mono ?_); rintro e w2 ⟨rfl, hp2⟩; have HP := Lib.hid hp2; clear hp2)
    | (go_at_call 14; (with_reducible refine (aw_rec4 HP.out).mono ?_); rintro e w2 ⟨rfl, hp2⟩; have HP := Lib.hid hp2; clear hp2)
    | (go_at_call 15; (with_reducible refine (aw_total HP.out).mono ?_); rintro e w2 ⟨rfl, hc2, hp2⟩; have HP := Lib.hid hp2; clear hc2 hp2))
  refine (aw_funcs (HP.out.keptN (sideL _ _) noSide ((Chg.refl _ _).alloc _))).mono ?_; rintro e w3 ⟨a, c, rfl, hs3, hc3, hp3⟩
  have S3 := Lib.hid hs3
  have HP := Lib.hid hp3
  clear hs3 hc3 hp3
  have T3 := Lib.hid (fun o => S3.out.kept ((Chg.refl [] w3).alloc o))
  have B3 := Lib.hid (SlIs.ofBlock (cf := kc) (sz := 1) ([[102], [103]] : List (List UInt8)) (heap_alloc_new w3 (.cells #[.string ⟨#[102]⟩, .string ⟨#[103]⟩] 9)) kLen rfl)
  go_wp2_with (first
    | (go_at_call 17; (refine (aw_texts a (some ⟨w3.heap.size, 0, none⟩) c 2 _ (T3.out _) B3.out).mono ?_); rintro e w4 ⟨rfl, hc4⟩; have HP := Lib.hid ((HP.out.keptN (sideL _ _) noSide ((Chg.refl _ _).alloc _)).keptN (sideL _ _) noSide hc4); clear hc4)
    | (go_at_call 13; (with_reducible refine (aw_len HP.out).mono ?_); rintro e w5 ⟨rfl, rfl⟩)
    | (go_at_call 20; (with_reducible refine (aw_close1 HP.out).mono ?_); rintro e w6 ⟨rfl, hp6⟩; have HP := Lib.hid hp6; clear hp6)
    | (go_at_call 20; (with_reducible refine (aw_close2 HP.out).mono ?_); rintro e w6 ⟨rfl, hp6⟩; have HP := Lib.hid hp6; clear hp6)
    | (go_at_call 19; (with_reducible refine (aw_period HP.out).mono ?_); rintro e w7 ⟨rfl, rfl⟩))
  go_ret
  exact ⟨rfl, HP.out.chg⟩
end Go.Proofs.Ytfnnnflfikmekaa
