/- Chapter 30: the test of Trim's inner loop in a round. Condition: what lies where. -/
import Derived.Test.YtmichbpfmachcaaDoorStmK
namespace Go.Proofs.YtmichbpfmachcaaDoor
set_option linter.unusedVariables false
set_option linter.unusedSimpArgs false
open Go.RowKit Go.Shelf
attribute [local go_sem] Oper.semAt_some
set_option maxHeartbeats 16000000 in
set_option maxRecDepth 100000 in
theorem trim_r8a {z0 z1 z3 z4 z5 z8 z9 z10 z11 z12 z13 z14 z15 z16 z17 z18 z19 z20 z21 z22 z23 z24 z25 z26 z27 z28 z29 z30 z31 z32 z33 z34 z35 z36 z37 z38 z39 z40 z41 z42 z43 z44 z45 z46 z47 z48 z49 z50 z51 z52 z53 z54 z55 z56 z57 z58 z59 z60 z61 z62 z63 z64 z65 z66 z67 z68 z69 z70 z71 z72 z73 z74 z75 z76 z77 : Value} {l n b2 g x len cc : Nat} {a : Option Addr} {ops : Array Oper} {W : World} (hops : ops = rgnG Tryd.f20 8) (m : Nat) (hml : m = len) (cs : W.cell? ⟨g, x * 2 + 1, none⟩ = some (.slice a len cc)) (Q : Exit → Act → World → Prop)
    (hQ : ∀ y30 y31 y32 y33 y34 y35 y36 y37 y38 y39 y40 y41 y42 y43 y44 y45 y46 y47 y48 y49 y50 y51 y52 nq, Q .normal ⟨#[z0, z1, .pointer (some ⟨b2, 0, none⟩), z3, z4, z5, .pointer (some ⟨g, x * 2, none⟩), .int .i64 (m : Int), z8, z9, z10, z11, z12, z13, z14, z15, z16, z17, z18, z19, z20, z21, z22, z23, z24, z25, z26, z27, z28, z29, y30, y31, y32, y33, y34, y35, y36, y37, y38, y39, y40, y41, y42, y43, y44, y45, y46, y47, y48, y49, y50, y51, y52, .bool false, z54, z55, z56, z57, z58, z59, z60, z61, z62, z63, z64, z65, z66, z67, z68, z69, z70, z71, z72, z73, z74, z75, z76, z77], []⟩ (W.drewN nq)) :
    (Code.region 8 ops true).wpIn (Fence.wide.inRound l) n Tryd.prog Q ⟨#[z0, z1, .pointer (some ⟨b2, 0, none⟩), z3, z4, z5, .pointer (some ⟨g, x * 2, none⟩), .int .i64 (m : Int), z8, z9, z10, z11, z12, z13, z14, z15, z16, z17, z18, z19, z20, z21, z22, z23, z24, z25, z26, z27, z28, z29, z30, z31, z32, z33, z34, z35, z36, z37, z38, z39, z40, z41, z42, z43, z44, z45, z46, z47, z48, z49, z50, z51, z52, z53, z54, z55, z56, z57, z58, z59, z60, z61, z62, z63, z64, z65, z66, z67, z68, z69, z70, z71, z72, z73, z74, z75, z76, z77], []⟩ W := by
  subst hml
  subst hops
  simp only [rgnG, Tryd.f20, Option.bind_some, rgn2, Nat.reduceEqDiff, ↓reduceIte, Option.orElse_some, Option.orElse_none, Option.getD_some, Option.orElse]
  refine wpIn_mono (Q := fun e a w => e = .normal ∧ Q e a w) ?_ (fun e a w h => h.2)
  refine wpIn_region_quiet_round (noDefer_spec (by kernel_rfl)) (by rintro ⟨a, w, h, _⟩; cases h) (by kernel_rfl) (by kernel_rfl) ?_
  repeat (any_goals (first | go_big_quiet_step (fail) | quiet_step (fail)))
  refine wpQuiet_nil ?_
  intro _ hw'
  obtain ⟨nq, hw''⟩ := hw'
  subst hw''
  exact ⟨rfl, hQ _ _ _ _ _ _ _ _ _ _ _ _ _ _ _ _ _ _ _ _ _ _ _ _⟩
set_option maxHeartbeats 16000000 in
set_option maxRecDepth 100000 in
theorem trim_r8b {z0 z1 z4 z5 z8 z9 z10 z11 z12 z13 z14 z15 z16 z17 z18 z19 z20 z21 z22 z23 z24 z25 z26 z27 z28 z29 z30 z31 z32 z33 z34 z35 z36 z37 z38 z39 z40 z41 z42 z43 z44 z45 z46 z47 z48 z49 z50 z51 z52 z53 z54 z55 z56 z57 z58 z59 z60 z61 z62 z63 z64 z65 z66 z67 z68 z69 z70 z71 z72 z73 z74 z75 z76 z77 : Value} {l n b2 b3 b g x m len cc g3 : Nat} {keep now at_ : Int} {ops : Array Oper} {W : World} (hops : ops = rgnG Tryd.f20 8) (cs : W.cell? ⟨g, x * 2 + 1, none⟩ = some (.slice (some ⟨g3, 0, none⟩) len cc)) (c2 : W.cell? ⟨b2, 0, none⟩ = some (.pointer (some ⟨b, 0, none⟩))) (c3 : W.cell? ⟨b3, 0, none⟩ = some (.int .i64 now)) (c0 : W.cell? ⟨b, 0, none⟩ = some (.int .i64 keep))
    (hm : m < len) (ca : W.cell? ⟨g3, m * 10 + 2, none⟩ = some (.int .i64 at_)) (h1 : 0 ≤ at_) (h2 : at_ ≤ 1073741824) (h3 : 1 ≤ keep) (h4 : keep ≤ 1073741824) (Q : Exit → Act → World → Prop)
    (hQ : ∀ y30 y31 y32 y33 y34 y35 y36 y37 y38 y39 y40 y41 y42 y43 y44 y45 y46 y47 y48 y49 y50 y51 y52 nq, Q .normal ⟨#[z0, z1, .pointer (some ⟨b2, 0, none⟩), .pointer (some ⟨b3, 0, none⟩), z4, z5, .pointer (some ⟨g, x * 2, none⟩), .int .i64 (m : Int), z8, z9, z10, z11, z12, z13, z14, z15, z16, z17, z18, z19, z20, z21, z22, z23, z24, z25, z26, z27, z28, z29, y30, y31, y32, y33, y34, y35, y36, y37, y38, y39, y40, y41, y42, y43, y44, y45, y46, y47, y48, y49, y50, y51, y52, .bool (decide (at_ + keep < now)), z54, z55, z56, z57, z58, z59, z60, z61, z62, z63, z64, z65, z66, z67, z68, z69, z70, z71, z72, z73, z74, z75, z76, z77], []⟩ (W.drewN nq)) :
    (Code.region 8 ops true).wpIn (Fence.wide.inRound l) n Tryd.prog Q ⟨#[z0, z1, .pointer (some ⟨b2, 0, none⟩), .pointer (some ⟨b3, 0, none⟩), z4, z5, .pointer (some ⟨g, x * 2, none⟩), .int .i64 (m : Int), z8, z9, z10, z11, z12, z13, z14, z15, z16, z17, z18, z19, z20, z21, z22, z23, z24, z25, z26, z27, z28, z29, z30, z31, z32, z33, z34, z35, z36, z37, z38, z39, z40, z41, z42, z43, z44, z45, z46, z47, z48, z49, z50, z51, z52, z53, z54, z55, z56, z57, z58, z59, z60, z61, z62, z63, z64, z65, z66, z67, z68, z69, z70, z71, z72, z73, z74, z75, z76, z77], []⟩ W := by
  have m0 : 0 ≤ (m : Int) := by omega
  have m1 : (m : Int) < (len : Int) := by omega
  subst hops
  simp only [rgnG, Tryd.f20, Option.bind_some, rgn2, Nat.reduceEqDiff, ↓reduceIte, Option.orElse_some, Option.orElse_none, Option.getD_some, Option.orElse]
  refine wpIn_mono (Q := fun e a w => e = .normal ∧ Q e a w) ?_ (fun e a w h => h.2)
  refine wpIn_region_quiet_round (noDefer_spec (by kernel_rfl)) (by rintro ⟨a, w, h, _⟩; cases h) (by kernel_rfl) (by kernel_rfl) ?_
  repeat (any_goals (first | go_big_quiet_step (fail) | quiet_step (fail)))
  refine wpQuiet_nil ?_
  intro _ hw'
  obtain ⟨nq, hw''⟩ := hw'
  subst hw''
  exact ⟨rfl, hQ _ _ _ _ _ _ _ _ _ _ _ _ _ _ _ _ _ _ _ _ _ _ _ _⟩
end Go.Proofs.YtmichbpfmachcaaDoor
