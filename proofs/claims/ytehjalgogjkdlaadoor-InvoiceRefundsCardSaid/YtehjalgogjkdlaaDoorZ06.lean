/- Over any program with slices.SortStableFunc on ints: contract: the stable sort. Condition: up to a million elements. The library's contracts at this program: laid by the kit (lay-shelf.mjs, lay-plain.mjs), written by the tool for this seat. Chapter 54: contracts: amount, the comparison's closure, weighed. No condition. Chapter 54: contract: weighed. No condition. Chapter 54: contract: slices.Clone of ints that came in. No condition. Plain: the school division that bits.Div64 does. No condition. -/
import Derived.Shelf.Small.Bits
import Derived.Shelf.Small.Wraps
import Derived.Shelf.Strconv.Itoa0
import Derived.Shelf.Strconv.Itoa1
import Derived.Shelf.LaysM
import Derived.Shelf.Strconv.Itoa2
import Derived.Shelf.Strconv.Itoa3
import Derived.Shelf.Sort.Plain
import Derived.Shelf.Bits.Mul64
import Derived.Ground.Names2Prog
import Derived.Shelf.Slices.Clone
import Derived.Shelf.Slices.CompactS
import Derived.Shelf.Slices.SearchI
import Derived.Shelf.Slices.Cells
import Derived.Shelf.Slices.In.SortNone
import Derived.Ground.SlgnProg
import Derived.Shelf.SlicesE.Clone
import Derived.Test.YtehjalgogjkdlaaDoorProg
import Derived.Test.YtehjalgogjkdlaaDoorZ05
import Derived.Test.YtehjalgogjkdlaaDoorZ02
import Derived.Test.YtehjalgogjkdlaaDoorZ01
namespace Go.Proofs.YtehjalgogjkdlaaDoor
set_option linter.unusedVariables false
set_option linter.unusedSimpArgs false
open Go.RowKit
variable {w w' : World} {b : Nat} {l : List Int} {K : Int → Int} {x y : Int}
theorem symm_any (cap N M rb : Nat) (hM : N ≤ 1000000) (n : Nat) : SymmOk K b cap N M rb n := by
  induction n with
  | zero => intro A L V B a m e w hn h ha hm he hN hL hV hI hR hc; omega
  | succ n ih =>
    intro A L V B a m e w hn h ha hm he hN hL hV hI hR hc
    by_cases h1 : L.length = 1
    · obtain ⟨x, rfl⟩ := List.length_eq_one_iff.1 h1
      have hm' : m = a + 1 := by simp at hm; omega
      subst hm'
      exact symm_left A V B x cap a e N M rb h ha he hN hM hI hR hc
    by_cases h2 : V.length = 1
    · obtain ⟨x, rfl⟩ := List.length_eq_one_iff.1 h2
      have he' : e = m + 1 := by simp at he; omega
      subst he'
      exact symm_right A L B x cap a m N M rb h ha hm hN hM (by omega) hI hR hc
    exact symm_step cap N M rb n hM ih A L V B a m e w hn h ha hm he hN (by omega) (by omega) hI hR hc
/-- The blocks that have been sorted, and what is left of the ascending list. -/
structure BlkI (K : Int → Int) (w : World) (b s : Nat) (X : List Int) (a : Nat) (D : List Int) : Prop where
  ib : IB w b (D ++ X.drop a)
  perm : D.Perm (X.take a)
  dn : Dn K s D
theorem asc_low {X : List Int} (h : X.Pairwise (· < ·)) (a : Nat) : Low (X.take a) (X.drop a) := fun x hx y hy => by
  have := (List.pairwise_append.1 (by rw [List.take_append_drop]; exact h : (X.take a ++ X.drop a).Pairwise (· < ·))).2.2
  exact this x hx y hy
/-- Sorted pieces of a length, in a block. -/
def ChkI (K : Int → Int) (w : World) (b s : Nat) (X : List Int) : Prop := ∃ l, IB w b l ∧ l.Perm X ∧ Chk K s l
theorem BlkI.last {X D Y B : List Int} {a s : Nat} (h : BlkI K w b s X a D) (hX : X.Pairwise (· < ·)) (i : IB w' b (D ++ Y ++ B)) (hB : B = []) (p : Y.Perm (X.drop a)) (hs : Srt K Y) (hl : Y.length ≤ s) : ChkI K w' b s X := by
  subst hB
  refine ⟨D ++ Y, by simpa using i, ?_, h.dn Y (Low.perm (asc_low hX a) h.perm p) (.last Y hl hs)⟩
  have := h.perm.append p
  rwa [List.take_append_drop] at this
/-- A round of merges: what is done, and what is left. -/
structure MgI (K : Int → Int) (w : World) (b s : Nat) (X D Z : List Int) : Prop where
  ib : IB w b (D ++ Z)
  perm : (D ++ Z).Perm X
  dn : Dn K (2 * s) D
  chk : Chk K s Z
  low : Low D Z
theorem MgI.next {s : Nat} {X D L R E Y : List Int} (h : MgI K w b s X D (L ++ R ++ E)) (h1 : Low (L ++ R) E) (h2 : Chk K s E) (i : IB w' b (D ++ Y ++ E)) (p : Y.Perm (L ++ R)) (hs : Srt K Y) (hl : (L ++ R).length = 2 * s) : MgI K w' b s X (D ++ Y) E := by
  have hlow := h.low
  obtain ⟨q1, q2⟩ := low_append_r.1 hlow
  refine ⟨i, ?_, h.dn.snoc (by rw [p.length_eq]; exact hl) hs (q1.perm (List.Perm.refl _) p), h2, low_append_l.2 ⟨q2, h1.perm p (List.Perm.refl _)⟩⟩
  have e : D ++ Y ++ E = D ++ (Y ++ E) := by simp
  rw [e]
  exact ((p.append_right E).append_left D).trans h.perm
theorem MgI.last {s : Nat} {X D Z Y : List Int} (h : MgI K w b s X D Z) (i : IB w' b (D ++ Y)) (p : Y.Perm Z) (hs : Srt K Y) (hl : Z.length ≤ 2 * s) : ChkI K w' b (2 * s) X :=
  ⟨D ++ Y, i, (p.append_left D).trans h.perm, h.dn Y (h.low.perm (List.Perm.refl _) p) (.last Y (by rw [p.length_eq]; exact hl) hs)⟩
set_option maxHeartbeats 8000000 in
set_option maxRecDepth 100000 in
theorem stbf_any (X : List Int) (cap N M rb : Nat) (h : IB w b X) (hN : X.length = N) (hM : N ≤ 100000) (hX : X.Pairwise (· < ·)) (hR : InR M X) (hc : CmpOk w b M K rb) :
    Calls Tryd.prog 32 #[.slice (some ⟨b, 0, none⟩) N cap, .int .i64 N, .func (.func 14) #[] #[.pointer (some ⟨rb, 0, none⟩)]] w fun r w' => r = .returned (.tuple #[]) ∧ (∃ Y : List Int, IB w' b Y ∧ Y.Perm X ∧ Srt K Y) ∧ Chg [b] w w' := by
  have HI := Lib.hid h
  have HN := Lib.hid hN
  have HX := Lib.hid hX
  have HR := Lib.hid hR
  have HC := Lib.hid hc
  have hS := fun (w1 : World) (hcw : Chg [b] w w1) (A Z B : List Int) (a e : Nat) (i1 : IB w1 b (A ++ Z ++ B)) (i2 : A.length = a) (i3 : a + Z.length = e) (i4 : e + B.length = N) (i5 : Z.Pairwise (· < ·)) (i6 : InR M Z) =>
    insc_any A Z B cap a e N M rb i1 i2 i3 i4 (by omega) i5 i6 (hc.on hcw)
  have IS := Lib.hid hS
  clear h hN hX hR hc hS
  go_enter Tryd.func32, Tryd.ntmps32
  go_wp2_with fail
  go_loopw [7, 8] (fun av bv wr => ∃ a : Nat, av = .int .i64 a ∧ bv = .int .i64 (a + 20 : Nat) ∧ a ≤ N ∧ Hid (∃ D, BlkI K wr b 20 X a D) ∧ Hid (Chg [b] w wr)) (fun av _ _ => N - (intOf av).toNat)
  case atStart => exact ⟨0, rfl, rfl, by omega, Lib.hid ⟨[], by simpa using HI.out, by simp, Dn.nil⟩, Lib.hid (Chg.refl _ _)⟩
  case round =>
    obtain ⟨a, rfl, rfl, ha, HD, HC1⟩ := hrel
    obtain ⟨D, d1, d2, d3⟩ := HD.out
    by_cases hk : a + 20 ≤ N
    · have e1 : X.drop a = (X.drop a).take 20 ++ X.drop (a + 20) := by rw [← List.drop_drop, List.take_append_drop]
      have F := Lib.hid (IS.out wr HC1.out D ((X.drop a).take 20) (X.drop (a + 20)) a (a + 20) (by rw [List.append_assoc, ← e1]; exact d1) (by rw [d2.length_eq, List.length_take, HN.out]; omega) (by simp [HN.out]; omega) (by simp [HN.out]; omega) ((HX.out.sublist (List.drop_sublist _ _)).sublist (List.take_sublist _ _)) (HR.out.sub fun x hx => List.mem_of_mem_drop (List.mem_of_mem_take hx)))
      have HN2 := Lib.hid (show ∀ (w1 : World), (∃ Y : List Int, IB w1 b (D ++ Y ++ X.drop (a + 20)) ∧ Y.Perm ((X.drop a).take 20) ∧ Srt K Y) → ∃ D, BlkI K w1 b 20 X (a + 20) D from fun w1 ⟨Y, y1, y2, y3⟩ => by
        refine ⟨D ++ Y, by simpa only [List.append_assoc] using y1, ?_, ?_⟩
        · rw [List.take_add]; exact d2.append y2
        · refine d3.snoc (by rw [y2.length_eq]; simp [HN.out]; omega) y3 ?_
          exact fun u hu v hv => asc_low HX.out a u (d2.mem_iff.1 hu) v (List.mem_of_mem_take (y2.mem_iff.1 hv)))
      have hk2 : ((a + 20 : Nat) : Int) ≤ (N : Int) := by omega
      clear d1 d2 d3 e1 HD
      go_wp2_with fail
      refine F.out.mono ?_; rintro r w1 ⟨rfl, h8, h9⟩
      have I2 := Lib.hid (HN2.out w1 h8)
      have C2 := Lib.hid (HC1.out.thenSame h9)
      clear h8 h9 F
      go_wp2_with fail
      exact ⟨⟨a + 20, rfl, by go_num, hk, I2, C2⟩, by simp [intOf]; omega⟩
    · have F := Lib.hid (IS.out wr HC1.out D (X.drop a) [] a N (by simpa using d1) (by rw [d2.length_eq, List.length_take, HN.out]; omega) (by simp [HN.out]; omega) (by simp) (HX.out.sublist (List.drop_sublist _ _)) (HR.out.sub fun x hx => List.mem_of_mem_drop hx))
      have HN2 := Lib.hid (show ∀ (w1 : World), (∃ Y : List Int, IB w1 b (D ++ Y ++ []) ∧ Y.Perm (X.drop a) ∧ Srt K Y) → ChkI K w1 b 20 X from fun w1 ⟨Y, y1, y2, y3⟩ =>
        BlkI.last ⟨d1, d2, d3⟩ HX.out y1 rfl y2 y3 (by rw [y2.length_eq]; simp [HN.out]; omega))
      have hk2 : ¬ ((a + 20 : Nat) : Int) ≤ (N : Int) := by omega
      clear d1 d2 d3 HD
      go_wp2_with fail
      refine F.out.mono ?_; rintro r w1 ⟨rfl, h8, h9⟩
      have I2 := Lib.hid (HN2.out w1 h8)
      have C2 := Lib.hid (HC1.out.thenSame h9)
      clear h8 h9 F HN2 hk hk2 HC1
      go_wp2_with fail
      go_loopw [6] (fun sv wr => ∃ s : Nat, sv = .int .i64 s ∧ 20 ≤ s ∧ s ≤ 200000 ∧ Hid (ChkI K wr b s X) ∧ Hid (Chg [b] w wr)) (fun sv _ => N - (intOf sv).toNat)
      case atStart => exact ⟨20, rfl, by omega, by omega, I2, C2⟩
      case round =>
        obtain ⟨s, rfl, hs1, hs2, HS, HC2⟩ := hrel
        by_cases hsn : s < N
        · have hsn2 : (s : Int) < (N : Int) := by omega
          have M0 := Lib.hid (show ∃ D Z, MgI K wr b s X D Z ∧ D.length = 0 from by
            obtain ⟨l, s1, s2, s3⟩ := HS.out
            exact ⟨[], l, ⟨by simpa using s1, by simpa using s2, Dn.nil, s3, fun _ h => nomatch h⟩, rfl⟩)
          have Z2 := Lib.hid (show (2 : Int) * s = ((2 * s : Nat) : Int) by omega)
          have Z3 := Lib.hid (show (s : Int) * 2 = ((2 * s : Nat) : Int) by omega)
          obtain ⟨s2, es2⟩ : ∃ s2, s2 = 2 * s := ⟨_, rfl⟩
          rw [← es2] at Z2 Z3
          have ES2 := Lib.hid es2
          have hs3 : s2 ≤ 200000 := by omega
          clear es2 HS I2 C2
          go_wp2_with fail
          rw [Z2.out]
          go_loopw [7, 8] (fun av bv wr => ∃ a : Nat, av = .int .i64 a ∧ bv = .int .i64 (a + s2 : Nat) ∧ a ≤ N ∧ Hid (∃ D Z, MgI K wr b s X D Z ∧ D.length = a) ∧ Hid (Chg [b] w wr)) (fun av _ _ => N - (intOf av).toNat)
          case atStart => exact ⟨0, rfl, by simp, by omega, M0, HC2⟩
          case round =>
            obtain ⟨c, rfl, rfl, hcn, HM2, HC3⟩ := hrel
            obtain ⟨D, Z, m1, m2⟩ := HM2.out
            have hlen : c + Z.length = N := by have := m1.perm.length_eq; rw [HN.out] at this; simp at this; omega
            have hmem : ∀ x ∈ Z, 0 ≤ x ∧ x < M := fun x hx => HR.out x (m1.perm.mem_iff.1 (by simp [hx]))
            by_cases hk : c + s2 ≤ N
            · obtain ⟨L, R, E, rfl, l1, l2, l3, l4, l5, l6, l7, l8, -⟩ := m1.chk.two (by have := ES2.out; omega)
              have l8' := l8 (by have := ES2.out; omega)
              simp only [List.length_append] at hlen
              have F := Lib.hid (symm_any cap N M rb (by omega) N D L R E c (c + s) (c + s2) wr (by omega) (by have := m1.ib; simpa only [List.append_assoc] using this) m2 (by omega) (by have := ES2.out; omega) (by have := ES2.out; omega) (by omega) (by omega) ⟨l3, l4, l5⟩ (fun x hx => hmem x (by simp only [List.mem_append] at hx ⊢; exact Or.inl hx)) (HC.out.on HC3.out))
              have HN3 := Lib.hid (show ∀ w1, MrgTo K w1 b D L R E → ∃ D Z, MgI K w1 b s X D Z ∧ D.length = c + s2 from fun w1 ⟨Y, y1, y2, y3⟩ =>
                ⟨D ++ Y, E, m1.next l6 l7 y1 y2 y3 (by simp; omega), by have := y2.length_eq; have := ES2.out; simp at *; omega⟩)
              have hk2 : (c : Int) + (s2 : Int) ≤ (N : Int) := by omega
              simp only [Int.natCast_add] at F
              clear m1 m2 hlen hmem l1 l2 l3 l4 l5 l6 l7 l8 l8' HM2 M0
              go_wp2_with fail
              refine F.out.mono ?_; rintro r w2 ⟨rfl, h8, h9⟩
              have I3 := Lib.hid (HN3.out w2 h8)
              have C3 := Lib.hid (HC3.out.thenSame h9)
              clear h8 h9 F HN3
              go_wp2_with fail
              rw [Z2.out]
              exact ⟨⟨c + s2, by simp, by go_num, by omega, I3, C3⟩, by have := ES2.out; simp [intOf]; omega⟩
            · have hk2 : ¬ (c : Int) + (s2 : Int) ≤ (N : Int) := by omega
              by_cases hm : c + s < N
              · obtain ⟨L, R, E, rfl, l1, l2, l3, l4, l5, l6, l7, -, l9⟩ := m1.chk.two (by omega)
                have hE := l9 (by have := ES2.out; omega)
                subst hE
                simp only [List.length_append, List.length_nil] at hlen
                have F := Lib.hid (symm_any cap N M rb (by omega) N D L R [] c (c + s) N wr (by omega) (by have := m1.ib; simpa only [List.append_assoc] using this) m2 (by omega) (by omega) (by simp) (by omega) (by omega) ⟨l3, l4, l5⟩ (fun x hx => hmem x (by simp only [List.mem_append] at hx ⊢; exact Or.inl hx)) (HC.out.on HC3.out))
                have HN3 := Lib.hid (show ∀ w1, MrgTo K w1 b D L R [] → ChkI K w1 b s2 X from fun w1 ⟨Y, y1, y2, y3⟩ => by
                  rw [ES2.out]
                  exact m1.last (by simpa using y1) (by simpa using y2) y3 (by have := ES2.out; simp; omega))
                have hm2 : (c : Int) + (s : Int) < (N : Int) := by omega
                simp only [Int.natCast_add] at F
                clear m1 m2 hlen hmem l1 l2 l3 l4 l5 l6 l7 l9 HM2 M0
                go_wp2_with fail
                refine F.out.mono ?_; rintro r w2 ⟨rfl, h8, h9⟩
                have I3 := Lib.hid (HN3.out w2 h8)
                have C3 := Lib.hid (HC3.out.thenSame h9)
                clear h8 h9 F HN3
                go_wp2_with fail
                rw [Z3.out]
                exact ⟨⟨s2, rfl, by have := ES2.out; omega, hs3, I3, C3⟩, by have := ES2.out; simp [intOf]; omega⟩
              · have I3 := Lib.hid (show ChkI K wr b s2 X from by
                  rw [ES2.out]
                  exact m1.last m1.ib (List.Perm.refl _) (m1.chk.short (by omega)) (by omega))
                have hm2 : ¬ (c : Int) + (s : Int) < (N : Int) := by omega
                clear m1 m2 hlen hmem HM2 M0 hm hk
                go_wp2_with fail
                rw [Z3.out]
                exact ⟨⟨s2, rfl, by have := ES2.out; omega, hs3, I3, HC3⟩, by have := ES2.out; simp [intOf]; omega⟩
        · have hsn2 : ¬ (s : Int) < (N : Int) := by omega
          have HF := Lib.hid (show ∃ Y : List Int, IB wr b Y ∧ Y.Perm X ∧ Srt K Y from by
            obtain ⟨l, s1, s2, s3⟩ := HS.out
            exact ⟨l, s1, s2, s3.short (by rw [s2.length_eq, HN.out]; omega)⟩)
          clear hsn
          go_wp2_with fail
          go_end0
          exact ⟨rfl, HF.out, HC2.out⟩
set_option maxHeartbeats 2000000 in
theorem sstf_any (X : List Int) (cap N M rb : Nat) (h : IB w b X) (hN : X.length = N) (hM : N ≤ 100000) (hX : X.Pairwise (· < ·)) (hR : InR M X) (hc : CmpOk w b M K rb) :
    Calls Tryd.prog 13 #[.slice (some ⟨b, 0, none⟩) N cap, .func (.func 14) #[] #[.pointer (some ⟨rb, 0, none⟩)]] w fun r w' => r = .returned (.tuple #[]) ∧ (∃ Y : List Int, IB w' b Y ∧ Y.Perm X ∧ Srt K Y) ∧ Chg [b] w w' := by
  have F := Lib.hid (stbf_any X cap N M rb h hN hM hX hR hc)
  clear h hN hX hR hc
  go_enter Tryd.func13, Tryd.ntmps13
  go_wp2_with fail
  refine F.out.mono ?_; rintro r w2 ⟨rfl, h8, h9⟩
  have I3 := Lib.hid h8
  have C3 := Lib.hid h9
  clear h8 h9 F
  go_wp2_with fail
  go_end0
  exact ⟨rfl, I3.out, C3.out⟩
end Go.Proofs.YtehjalgogjkdlaaDoor

/-
  DERIVED: THE SHELF's CONTRACTS AT THIS DUMP, IN PLAIN WORDS (tools/lay-plain.mjs out of 'TrydShelf.lean', which tools/lay-shelf.mjs wrote): THE SAME DECLARATIONS UNDER THE SAME NAMES: 'import', 'namespace', 'open', 'def', 'theorem' AND NOTHING ELSE: no command of the shelf's: FOR A HAND-IN. Each laying: the table of numbers ('.._ren') and one theorem, a field a fact of the dump's own or the kernel's comparison; each contract: ONE APPLICATION.
-/
namespace Go.Proofs
open Go.Shelf
def Tryd.lays128_ren : Go.Shelf.Ren := ⟨fun | 128 => 81 | n => n, fun | 51 => 124 | 3 => 3 | 4 => 4 | 46 => 91 | 5 => 5 | 9 => 9 | n => n, fun | n => n⟩
theorem Tryd.lays128 : Go.Proofs.Lays.n128 Tryd.prog Tryd.lays128_ren := {
  mixed := by kernel_rfl
  f128 := Tryd.func81.trans (congrArg some (by kernel_rfl))
  t3 := Tryd.underlying3
  a3 := Tryd.isAgg3
  z3 := Tryd.sizeOf3
  v3 := Tryd.zeroValue3
  t4 := Tryd.underlying4
  a4 := Tryd.isAgg4
  z4 := Tryd.sizeOf4
  v4 := Tryd.zeroValue4
  t5 := Tryd.underlying5
  a5 := Tryd.isAgg5
  z5 := Tryd.sizeOf5
  v5 := Tryd.zeroValue5
  t9 := Tryd.underlying9
  a9 := Tryd.isAgg9
  z9 := Tryd.sizeOf9
  v9 := Tryd.zeroValue9
  t46 := Tryd.underlying91
  a46 := Tryd.isAgg91
  z46 := Tryd.sizeOf91
  v46 := Tryd.zeroValue91
  t51 := Tryd.underlying124
  a51 := Tryd.isAgg124
  z51 := Tryd.sizeOf124
  v51 := Tryd.zeroValue124 }
/-- bits.Len32: "Len32 returns the minimum number of bits required to represent x; the result is 0 for x == 0.": IT RETURNS 'Lib.bitLen x'; the world is as it was. ('h0', 'h1': x is a uint32.) (LAID: no walk: one application.) -/
theorem Tryd.bits_Len32 (x : Int) (w : World) (h0 : 0 ≤ x) (h1 : x ≤ 4294967295) :
    Calls Tryd.prog 81 #[.int .u32 x] w fun e w' => e = .returned (.int .i64 (Lib.bitLen x.toNat)) ∧ w' = w := Any.bits_Len32 Tryd.lays128 x w h0 h1
def Tryd.lays125_ren : Go.Shelf.Ren := ⟨fun | 125 => 68 | 128 => 81 | 129 => 63 | n => n, fun | 46 => 91 | 3 => 3 | 51 => 124 | 53 => 29 | 4 => 4 | 5 => 5 | 9 => 9 | n => n, fun | n => n⟩
theorem Tryd.lays125 : Go.Proofs.Lays.n125 Tryd.prog Tryd.lays125_ren := {
  mixed := by kernel_rfl
  f125 := Tryd.func68.trans (congrArg some (by kernel_rfl))
  f128 := Tryd.func81.trans (congrArg some (by kernel_rfl))
  f129 := Tryd.func63.trans (congrArg some (by kernel_rfl))
  t3 := Tryd.underlying3
  a3 := Tryd.isAgg3
  z3 := Tryd.sizeOf3
  v3 := Tryd.zeroValue3
  t4 := Tryd.underlying4
  a4 := Tryd.isAgg4
  z4 := Tryd.sizeOf4
  v4 := Tryd.zeroValue4
  t5 := Tryd.underlying5
  a5 := Tryd.isAgg5
  z5 := Tryd.sizeOf5
  v5 := Tryd.zeroValue5
  t9 := Tryd.underlying9
  a9 := Tryd.isAgg9
  z9 := Tryd.sizeOf9
  v9 := Tryd.zeroValue9
  t46 := Tryd.underlying91
  a46 := Tryd.isAgg91
  z46 := Tryd.sizeOf91
  v46 := Tryd.zeroValue91
  t51 := Tryd.underlying124
  a51 := Tryd.isAgg124
  z51 := Tryd.sizeOf124
  v51 := Tryd.zeroValue124
  t53 := Tryd.underlying29
  a53 := Tryd.isAgg29
  z53 := Tryd.sizeOf29
  v53 := Tryd.zeroValue29 }
/-- bits.Len: "Len returns the minimum number of bits required to represent x; the result is 0 for x == 0.": IT RETURNS 'Lib.bitLen x'; the world is as it was. (A uint has 64 bits in the model.) ITS CALLEE bits.Len64 IS MET BY ITS OWN CONTRACT OFF THE SHELF (lay that first). (LAID: no walk: one application.) -/
theorem Tryd.bits_Len (x : Int) (w : World) (h0 : 0 ≤ x) (h1 : x ≤ 18446744073709551615) :
    Calls Tryd.prog 68 #[.int .u64 x] w fun e w' => e = .returned (.int .i64 (Lib.bitLen x.toNat)) ∧ w' = w := Any.bits_Len Tryd.lays125 x w h0 h1
def Tryd.lays134_ren : Go.Shelf.Ren := ⟨fun | 134 => 44 | 129 => 63 | n => n, fun | 53 => 29 | 3 => 3 | 4 => 4 | 46 => 91 | 5 => 5 | 9 => 9 | n => n, fun | n => n⟩
theorem Tryd.lays134 : Go.Proofs.Lays.n134 Tryd.prog Tryd.lays134_ren := {
  mixed := by kernel_rfl
  f129 := Tryd.func63.trans (congrArg some (by kernel_rfl))
  f134 := Tryd.func44.trans (congrArg some (by kernel_rfl))
  t3 := Tryd.underlying3
  a3 := Tryd.isAgg3
  z3 := Tryd.sizeOf3
  v3 := Tryd.zeroValue3
  t4 := Tryd.underlying4
  a4 := Tryd.isAgg4
  z4 := Tryd.sizeOf4
  v4 := Tryd.zeroValue4
  t5 := Tryd.underlying5
  a5 := Tryd.isAgg5
  z5 := Tryd.sizeOf5
  v5 := Tryd.zeroValue5
  t9 := Tryd.underlying9
  a9 := Tryd.isAgg9
  z9 := Tryd.sizeOf9
  v9 := Tryd.zeroValue9
  t46 := Tryd.underlying91
  a46 := Tryd.isAgg91
  z46 := Tryd.sizeOf91
  v46 := Tryd.zeroValue91
  t53 := Tryd.underlying29
  a53 := Tryd.isAgg29
  z53 := Tryd.sizeOf29
  v53 := Tryd.zeroValue29 }
/-- bits.LeadingZeros64: "LeadingZeros64 returns the number of leading zero bits in x; the result is 64 for x == 0.": IT RETURNS '64 - Lib.bitLen x'; the world is as it was. ITS CALLEE bits.Len64 IS MET BY ITS OWN CONTRACT OFF THE SHELF (lay that first): entered in place it sends the kernel out of memory. (LAID: no walk: one application.) -/
theorem Tryd.bits_LeadingZeros64 (x : Int) (w : World) (h0 : 0 ≤ x) (h1 : x ≤ 18446744073709551615) :
    Calls Tryd.prog 44 #[.int .u64 x] w fun e w' => e = .returned (.int .i64 (64 - (Lib.bitLen x.toNat : Int))) ∧ w' = w := Any.bits_LeadingZeros64 Tryd.lays134 x w h0 h1
def Tryd.lays215_ren : Go.Shelf.Ren := ⟨fun | 215 => 33 | n => n, fun | 3 => 3 | 4 => 4 | n => n, fun | n => n⟩
theorem Tryd.lays215 : Go.Proofs.Lays.n215 Tryd.prog Tryd.lays215_ren := {
  mixed := by kernel_rfl
  f215 := Tryd.func33.trans (congrArg some (by kernel_rfl))
  t3 := Tryd.underlying3
  a3 := Tryd.isAgg3
  z3 := Tryd.sizeOf3
  v3 := Tryd.zeroValue3
  t4 := Tryd.underlying4
  a4 := Tryd.isAgg4
  z4 := Tryd.sizeOf4
  v4 := Tryd.zeroValue4 }
open Go.RowKit in
/-- cmp.isNaN at int: 'x != x': false. (LAID: no walk: one application.) -/
theorem Tryd.cmp_isNaN_int (x : Int) (w : World) :
    Calls Tryd.prog 33 #[.int .i64 x] w fun e w' => e = .returned (.bool false) ∧ w' = w := Any.cmp_isNaN_int Tryd.lays215 x w
def Tryd.lays122_ren : Go.Shelf.Ren := ⟨fun | 122 => 15 | 215 => 33 | n => n, fun | 3 => 3 | 4 => 4 | n => n, fun | n => n⟩
theorem Tryd.lays122 : Go.Proofs.Lays.n122 Tryd.prog Tryd.lays122_ren := {
  mixed := by kernel_rfl
  f122 := Tryd.func15.trans (congrArg some (by kernel_rfl))
  f215 := Tryd.func33.trans (congrArg some (by kernel_rfl))
  t3 := Tryd.underlying3
  a3 := Tryd.isAgg3
  z3 := Tryd.sizeOf3
  v3 := Tryd.zeroValue3
  t4 := Tryd.underlying4
  a4 := Tryd.isAgg4
  z4 := Tryd.sizeOf4
  v4 := Tryd.zeroValue4 }
open Go.RowKit in
/-- cmp.Compare at int: "Compare returns -1 if x is less than y, 0 if x equals y, +1 if x is greater than y.": IT RETURNS 'Lib.compareInt x y'; the world is as it was. (LAID: no walk: one application.) -/
theorem Tryd.cmp_Compare_int (x y : Int) (w : World) :
    Calls Tryd.prog 15 #[.int .i64 x, .int .i64 y] w fun e w' => e = .returned (.int .i64 (Lib.compareInt x y)) ∧ w' = w := Any.cmp_Compare_int Tryd.lays122 x y w
def Tryd.lays129_ren : Go.Shelf.Ren := ⟨fun | 129 => 63 | n => n, fun | 53 => 29 | 3 => 3 | 4 => 4 | 46 => 91 | 5 => 5 | 9 => 9 | n => n, fun | n => n⟩
theorem Tryd.lays129 : Go.Proofs.Lays.n129 Tryd.prog Tryd.lays129_ren := {
  mixed := by kernel_rfl
  f129 := Tryd.func63.trans (congrArg some (by kernel_rfl))
  t3 := Tryd.underlying3
  a3 := Tryd.isAgg3
  z3 := Tryd.sizeOf3
  v3 := Tryd.zeroValue3
  t4 := Tryd.underlying4
  a4 := Tryd.isAgg4
  z4 := Tryd.sizeOf4
  v4 := Tryd.zeroValue4
  t5 := Tryd.underlying5
  a5 := Tryd.isAgg5
  z5 := Tryd.sizeOf5
  v5 := Tryd.zeroValue5
  t9 := Tryd.underlying9
  a9 := Tryd.isAgg9
  z9 := Tryd.sizeOf9
  v9 := Tryd.zeroValue9
  t46 := Tryd.underlying91
  a46 := Tryd.isAgg91
  z46 := Tryd.sizeOf91
  v46 := Tryd.zeroValue91
  t53 := Tryd.underlying29
  a53 := Tryd.isAgg29
  z53 := Tryd.sizeOf29
  v53 := Tryd.zeroValue29 }
/-- bits.Len64: "Len64 returns the minimum number of bits required to represent x; the result is 0 for x == 0.": IT RETURNS 'Lib.bitLen x'; the world is as it was. ('h0', 'h1': x is a uint64.) (LAID: no walk: one application.) -/
theorem Tryd.bits_Len64 (x : Int) (w : World) (h0 : 0 ≤ x) (h1 : x ≤ 18446744073709551615) :
    Calls Tryd.prog 63 #[.int .u64 x] w fun e w' => e = .returned (.int .i64 (Lib.bitLen x.toNat)) ∧ w' = w := Any.bits_Len64 Tryd.lays129 x w h0 h1
def Tryd.lays317_ren : Go.Shelf.Ren := ⟨fun | 317 => 94 | n => n, fun | 3 => 3 | 46 => 91 | n => n, fun | n => n⟩
theorem Tryd.lays317 : Go.Proofs.Lays.n317 Tryd.prog Tryd.lays317_ren := {
  mixed := by kernel_rfl
  f317 := Tryd.func94.trans (congrArg some (by kernel_rfl))
  t3 := Tryd.underlying3
  a3 := Tryd.isAgg3
  z3 := Tryd.sizeOf3
  v3 := Tryd.zeroValue3
  t46 := Tryd.underlying91
  a46 := Tryd.isAgg91
  z46 := Tryd.sizeOf91
  v46 := Tryd.zeroValue91 }
open Go.Lib in
/-- internal/strconv.log10Pow2: "log10Pow2(x) returns ⌊log₁₀ 2**x⌋ = ⌊x * log₁₀ 2⌋.": '(x * 78913) >> 18', at an x up to 64 (a length in bits). The world is as it was. (LAID: no walk: one application.) -/
theorem Tryd.internal_strconv_log10Pow2 (x : Nat) (h : x ≤ 64) (w : World) :
    Calls Tryd.prog 94 #[.int .i64 x] w fun e w' => e = .returned (.int .i64 (Lib.l10 x)) ∧ w' = w := Any.internal_strconv_log10Pow2 Tryd.lays317 x h w
def Tryd.lays318_ren : Go.Shelf.Ren := ⟨fun | 318 => 95 | n => n, fun | 3 => 3 | 4 => 4 | n => n, fun | n => n⟩
theorem Tryd.lays318 : Go.Proofs.Lays.n318 Tryd.prog Tryd.lays318_ren := {
  mixed := by kernel_rfl
  f318 := Tryd.func95.trans (congrArg some (by kernel_rfl))
  t3 := Tryd.underlying3
  a3 := Tryd.isAgg3
  z3 := Tryd.sizeOf3
  v3 := Tryd.zeroValue3
  t4 := Tryd.underlying4
  a4 := Tryd.isAgg4
  z4 := Tryd.sizeOf4
  v4 := Tryd.zeroValue4 }
open Go.Lib in
/-- internal/strconv.bool2: "bool2 converts b to an integer: 1 for true, 0 for false." The world is as it was. (LAID: no walk: one application.) -/
theorem Tryd.internal_strconv_bool2_int (b : Bool) (w : World) :
    Calls Tryd.prog 95 #[.bool b] w fun e w' => e = .returned (.int .i64 (if b then 1 else 0)) ∧ w' = w := Any.internal_strconv_bool2_int Tryd.lays318 b w
def Tryd.lays283_ren : Go.Shelf.Ren := ⟨fun | 283 => 89 | n => n, fun | 3 => 3 | 9 => 9 | 4 => 4 | n => n, fun | n => n⟩
theorem Tryd.lays283 : Go.Proofs.Lays.n283 Tryd.prog Tryd.lays283_ren := {
  mixed := by kernel_rfl
  f283 := Tryd.func89.trans (congrArg some (by kernel_rfl))
  t3 := Tryd.underlying3
  a3 := Tryd.isAgg3
  z3 := Tryd.sizeOf3
  v3 := Tryd.zeroValue3
  t4 := Tryd.underlying4
  a4 := Tryd.isAgg4
  z4 := Tryd.sizeOf4
  v4 := Tryd.zeroValue4
  t9 := Tryd.underlying9
  a9 := Tryd.isAgg9
  z9 := Tryd.sizeOf9
  v9 := Tryd.zeroValue9 }
open Go.Lib in
/-- internal/strconv.small: "small returns the string for an i with 0 <= i < nSmalls.": i's decimal numeral. The world is as it was. (LAID: no walk: one application.) -/
theorem Tryd.internal_strconv_small (i : Nat) (h : i < 100) (w : World) :
    Calls Tryd.prog 89 #[.int .i64 i] w fun e w' => e = .returned (.string ⟨(Lib.decDigits i).toArray⟩) ∧ w' = w := Any.internal_strconv_small Tryd.lays283 i h w
def Tryd.laysM284_ren : Go.Shelf.Ren := ⟨fun | 284 => 90 | 129 => 63 | 317 => 94 | 318 => 95 | n => n, fun | 53 => 29 | 3 => 3 | 212 => 142 | 0 => 0 | 4 => 4 | 46 => 91 | 5 => 5 | 9 => 9 | n => n, fun | 17 => 2 | n => n⟩
theorem Tryd.laysM284 : Go.Proofs.LaysM.n284 Tryd.prog Tryd.laysM284_ren := {
  mixed := by kernel_rfl
  f129 := Tryd.func63.trans (congrArg some (by kernel_rfl))
  f284 := Tryd.func90.trans (congrArg some (by kernel_rfl))
  f317 := Tryd.func94.trans (congrArg some (by kernel_rfl))
  f318 := Tryd.func95.trans (congrArg some (by kernel_rfl))
  t0 := Tryd.underlying0
  a0 := Tryd.isAgg0
  z0 := Tryd.sizeOf0
  v0 := Tryd.zeroValue0
  t3 := Tryd.underlying3
  a3 := Tryd.isAgg3
  z3 := Tryd.sizeOf3
  v3 := Tryd.zeroValue3
  t4 := Tryd.underlying4
  a4 := Tryd.isAgg4
  z4 := Tryd.sizeOf4
  v4 := Tryd.zeroValue4
  t5 := Tryd.underlying5
  a5 := Tryd.isAgg5
  z5 := Tryd.sizeOf5
  v5 := Tryd.zeroValue5
  t9 := Tryd.underlying9
  a9 := Tryd.isAgg9
  z9 := Tryd.sizeOf9
  v9 := Tryd.zeroValue9
  t46 := Tryd.underlying91
  a46 := Tryd.isAgg91
  z46 := Tryd.sizeOf91
  v46 := Tryd.zeroValue91
  t53 := Tryd.underlying29
  a53 := Tryd.isAgg29
  z53 := Tryd.sizeOf29
  v53 := Tryd.zeroValue29
  t212 := Tryd.underlying142
  a212 := Tryd.isAgg142
  z212 := Tryd.sizeOf142
  v212 := Tryd.zeroValue142
  g17 := by kernel_rfl
  i0 := by kernel_rfl
  i3 := by kernel_rfl
  i4 := by kernel_rfl
  i5 := by kernel_rfl
  i9 := by kernel_rfl
  i46 := by kernel_rfl
  i53 := by kernel_rfl
  i212 := by kernel_rfl
  m17 := by kernel_rfl }
open Go.Lib in
/-- internal/strconv.numDigits, at a d that is not 0: THE NUMBER OF d's DECIMAL DIGITS. The world is as it was. (LAID: no walk: one application.) -/
theorem Tryd.internal_strconv_numDigits (u : Nat) (h1 : 1 ≤ u) (h2 : u < 18446744073709551616) (w : World) (htab : Lib.TabIs Tryd.prog w "internal/strconv.uint64pow10" .u64 Lib.pow10Tab) :
    Calls Tryd.prog 90 #[.int .u64 u] w fun e w' => e = .returned (.int .i64 (Lib.nDigits u)) ∧ w' = w := Any.internal_strconv_numDigits Tryd.laysM284 u h1 h2 w htab
def Tryd.lays285_ren : Go.Shelf.Ren := ⟨fun | 285 => 91 | n => n, fun | 37 => 134 | 53 => 29 | 3 => 3 | 4 => 4 | 51 => 124 | 9 => 9 | 5 => 5 | 0 => 0 | n => n, fun | n => n⟩
theorem Tryd.lays285 : Go.Proofs.Lays.n285 Tryd.prog Tryd.lays285_ren := {
  mixed := by kernel_rfl
  f285 := Tryd.func91.trans (congrArg some (by kernel_rfl))
  t0 := Tryd.underlying0
  a0 := Tryd.isAgg0
  z0 := Tryd.sizeOf0
  v0 := Tryd.zeroValue0
  t3 := Tryd.underlying3
  a3 := Tryd.isAgg3
  z3 := Tryd.sizeOf3
  v3 := Tryd.zeroValue3
  t4 := Tryd.underlying4
  a4 := Tryd.isAgg4
  z4 := Tryd.sizeOf4
  v4 := Tryd.zeroValue4
  t5 := Tryd.underlying5
  a5 := Tryd.isAgg5
  z5 := Tryd.sizeOf5
  v5 := Tryd.zeroValue5
  t9 := Tryd.underlying9
  a9 := Tryd.isAgg9
  z9 := Tryd.sizeOf9
  v9 := Tryd.zeroValue9
  t37 := Tryd.underlying134
  a37 := Tryd.isAgg134
  z37 := Tryd.sizeOf134
  v37 := Tryd.zeroValue134
  t51 := Tryd.underlying124
  a51 := Tryd.isAgg124
  z51 := Tryd.sizeOf124
  v51 := Tryd.zeroValue124
  t53 := Tryd.underlying29
  a53 := Tryd.isAgg29
  z53 := Tryd.sizeOf29
  v53 := Tryd.zeroValue29 }
open Go.RowKit Go.Sort Go.Lib in
/-- internal/strconv.formatBase10: "formatBase10 formats the decimal representation of u into a. The caller is responsible for ensuring that a is big enough to hold u. If a is too big, leading zeros will be filled in as needed.": THE ROW HOLDS u's DIGITS ('FmtInv .. 0 ..': every place t holds 'dg u (len - 1 - t)'); all else is as it was but for the count of draws. (LAID: no walk: one application.) -/
theorem Tryd.internal_strconv_formatBase10 (blk off cap : Nat) (u : Nat) (d : Array UInt8) (w : World) (hH : Holds (fun (b : UInt8) => Value.int .u8 (b.toNat : Int)) w blk off d) (hu : u < 10 ^ d.size) (hu64 : u < 18446744073709551616) (hsz : d.size < 4611686018427387904) :
    Calls Tryd.prog 91 #[.slice (some ⟨blk, off, none⟩) d.size cap, .int .u64 u] w fun e w' =>
      e = .returned (.tuple #[]) ∧ ∃ (n v' : Nat) (dk : Array UInt8), w' = (putRow (fun (b : UInt8) => Value.int .u8 (b.toNat : Int)) w blk off dk).drewN n ∧ FmtInv d.size u 0 v' dk := Any.internal_strconv_formatBase10 Tryd.lays285 blk off cap u d w hH hu hu64 hsz
def Tryd.laysM246_ren : Go.Shelf.Ren := ⟨fun | 246 => 82 | 283 => 89 | 284 => 90 | 285 => 91 | 286 => 92 | 129 => 63 | 317 => 94 | 318 => 95 | 319 => 96 | 320 => 97 | 337 => 98 | 338 => 99 | n => n, fun | 2 => 2 | 3 => 3 | 9 => 9 | 4 => 4 | 171 => 132 | 0 => 0 | 53 => 29 | 37 => 134 | 5 => 5 | 173 => 135 | 212 => 142 | 51 => 124 | 20 => 20 | 213 => 143 | 46 => 91 | 232 => 144 | 233 => 145 | n => n, fun | 17 => 2 | 18 => 3 | 19 => 4 | n => n⟩
theorem Tryd.laysM246 : Go.Proofs.LaysM.n246 Tryd.prog Tryd.laysM246_ren := {
  mixed := by kernel_rfl
  f129 := Tryd.func63.trans (congrArg some (by kernel_rfl))
  f246 := Tryd.func82.trans (congrArg some (by kernel_rfl))
  f283 := Tryd.func89.trans (congrArg some (by kernel_rfl))
  f284 := Tryd.func90.trans (congrArg some (by kernel_rfl))
  f285 := Tryd.func91.trans (congrArg some (by kernel_rfl))
  f286 := Tryd.func92.trans (congrArg some (by kernel_rfl))
  f317 := Tryd.func94.trans (congrArg some (by kernel_rfl))
  f318 := Tryd.func95.trans (congrArg some (by kernel_rfl))
  f319 := Tryd.func96.trans (congrArg some (by kernel_rfl))
  f320 := Tryd.func97.trans (congrArg some (by kernel_rfl))
  f337 := Tryd.func98.trans (congrArg some (by kernel_rfl))
  f338 := Tryd.func99.trans (congrArg some (by kernel_rfl))
  t0 := Tryd.underlying0
  a0 := Tryd.isAgg0
  z0 := Tryd.sizeOf0
  v0 := Tryd.zeroValue0
  t2 := Tryd.underlying2
  a2 := Tryd.isAgg2
  z2 := Tryd.sizeOf2
  v2 := Tryd.zeroValue2
  t3 := Tryd.underlying3
  a3 := Tryd.isAgg3
  z3 := Tryd.sizeOf3
  v3 := Tryd.zeroValue3
  t4 := Tryd.underlying4
  a4 := Tryd.isAgg4
  z4 := Tryd.sizeOf4
  v4 := Tryd.zeroValue4
  t5 := Tryd.underlying5
  a5 := Tryd.isAgg5
  z5 := Tryd.sizeOf5
  v5 := Tryd.zeroValue5
  t9 := Tryd.underlying9
  a9 := Tryd.isAgg9
  z9 := Tryd.sizeOf9
  v9 := Tryd.zeroValue9
  t20 := Tryd.underlying20
  a20 := Tryd.isAgg20
  z20 := Tryd.sizeOf20
  v20 := Tryd.zeroValue20
  t37 := Tryd.underlying134
  a37 := Tryd.isAgg134
  z37 := Tryd.sizeOf134
  v37 := Tryd.zeroValue134
  t46 := Tryd.underlying91
  a46 := Tryd.isAgg91
  z46 := Tryd.sizeOf91
  v46 := Tryd.zeroValue91
  t51 := Tryd.underlying124
  a51 := Tryd.isAgg124
  z51 := Tryd.sizeOf124
  v51 := Tryd.zeroValue124
  t53 := Tryd.underlying29
  a53 := Tryd.isAgg29
  z53 := Tryd.sizeOf29
  v53 := Tryd.zeroValue29
  t171 := Tryd.underlying132
  a171 := Tryd.isAgg132
  z171 := Tryd.sizeOf132
  v171 := Tryd.zeroValue132
  t173 := Tryd.underlying135
  a173 := Tryd.isAgg135
  z173 := Tryd.sizeOf135
  v173 := Tryd.zeroValue135
  t212 := Tryd.underlying142
  a212 := Tryd.isAgg142
  z212 := Tryd.sizeOf142
  v212 := Tryd.zeroValue142
  t213 := Tryd.underlying143
  a213 := Tryd.isAgg143
  z213 := Tryd.sizeOf143
  t232 := Tryd.underlying144
  a232 := Tryd.isAgg144
  z232 := Tryd.sizeOf144
  v232 := Tryd.zeroValue144
  t233 := Tryd.underlying145
  a233 := Tryd.isAgg145
  z233 := Tryd.sizeOf145
  v233 := Tryd.zeroValue145
  g17 := by kernel_rfl
  g18 := by kernel_rfl
  g19 := by kernel_rfl
  i0 := by kernel_rfl
  i2 := by kernel_rfl
  i3 := by kernel_rfl
  i4 := by kernel_rfl
  i5 := by kernel_rfl
  i9 := by kernel_rfl
  i20 := by kernel_rfl
  i37 := by kernel_rfl
  i46 := by kernel_rfl
  i51 := by kernel_rfl
  i53 := by kernel_rfl
  i171 := by kernel_rfl
  i173 := by kernel_rfl
  i212 := by kernel_rfl
  i232 := by kernel_rfl
  i233 := by kernel_rfl
  m17 := by kernel_rfl
  m18 := by kernel_rfl
  m19 := by kernel_rfl }
open Go.RowKit Go.Sort Go.Lib in
/-- internal/strconv.FormatInt: "FormatInt returns the string representation of i in the given base": AT BASE 10: i's decimal numeral, for every int64. The world behind the call: the world before it, new blocks behind the heap, draws. (LAID: no walk: one application.) -/
theorem Tryd.internal_strconv_FormatInt_10 (n : Int) (h0 : -9223372036854775808 ≤ n) (h1 : n ≤ 9223372036854775807) (w : World) (htab : Lib.TabIs Tryd.prog w "internal/strconv.uint64pow10" .u64 Lib.pow10Tab) :
    Calls Tryd.prog 82 #[.int .i64 n, .int .i64 10] w fun e w' => e = .returned (.string ⟨(Lib.itoa n).toArray⟩) ∧ ∃ k os, w' = grow (w.drewN k) os := Any.internal_strconv_FormatInt_10 Tryd.laysM246 n h0 h1 w htab
def Tryd.lays246_ren : Go.Shelf.Ren := ⟨fun | 246 => 82 | 283 => 89 | 284 => 90 | 285 => 91 | 286 => 92 | 129 => 63 | 317 => 94 | 318 => 95 | 319 => 96 | 320 => 97 | 337 => 98 | 338 => 99 | n => n, fun | 2 => 2 | 3 => 3 | 9 => 9 | 4 => 4 | 171 => 132 | 0 => 0 | 53 => 29 | 37 => 134 | 5 => 5 | 173 => 135 | 212 => 142 | 51 => 124 | 20 => 20 | 213 => 143 | 46 => 91 | 232 => 144 | 233 => 145 | n => n, fun | 17 => 2 | 18 => 3 | 19 => 4 | n => n⟩
theorem Tryd.lays246 : Go.Proofs.Lays.n246 Tryd.prog Tryd.lays246_ren := {
  mixed := by kernel_rfl
  f129 := Tryd.func63.trans (congrArg some (by kernel_rfl))
  f246 := Tryd.func82.trans (congrArg some (by kernel_rfl))
  f283 := Tryd.func89.trans (congrArg some (by kernel_rfl))
  f284 := Tryd.func90.trans (congrArg some (by kernel_rfl))
  f285 := Tryd.func91.trans (congrArg some (by kernel_rfl))
  f286 := Tryd.func92.trans (congrArg some (by kernel_rfl))
  f317 := Tryd.func94.trans (congrArg some (by kernel_rfl))
  f318 := Tryd.func95.trans (congrArg some (by kernel_rfl))
  f319 := Tryd.func96.trans (congrArg some (by kernel_rfl))
  f320 := Tryd.func97.trans (congrArg some (by kernel_rfl))
  f337 := Tryd.func98.trans (congrArg some (by kernel_rfl))
  f338 := Tryd.func99.trans (congrArg some (by kernel_rfl))
  t0 := Tryd.underlying0
  a0 := Tryd.isAgg0
  z0 := Tryd.sizeOf0
  v0 := Tryd.zeroValue0
  t2 := Tryd.underlying2
  a2 := Tryd.isAgg2
  z2 := Tryd.sizeOf2
  v2 := Tryd.zeroValue2
  t3 := Tryd.underlying3
  a3 := Tryd.isAgg3
  z3 := Tryd.sizeOf3
  v3 := Tryd.zeroValue3
  t4 := Tryd.underlying4
  a4 := Tryd.isAgg4
  z4 := Tryd.sizeOf4
  v4 := Tryd.zeroValue4
  t5 := Tryd.underlying5
  a5 := Tryd.isAgg5
  z5 := Tryd.sizeOf5
  v5 := Tryd.zeroValue5
  t9 := Tryd.underlying9
  a9 := Tryd.isAgg9
  z9 := Tryd.sizeOf9
  v9 := Tryd.zeroValue9
  t20 := Tryd.underlying20
  a20 := Tryd.isAgg20
  z20 := Tryd.sizeOf20
  v20 := Tryd.zeroValue20
  t37 := Tryd.underlying134
  a37 := Tryd.isAgg134
  z37 := Tryd.sizeOf134
  v37 := Tryd.zeroValue134
  t46 := Tryd.underlying91
  a46 := Tryd.isAgg91
  z46 := Tryd.sizeOf91
  v46 := Tryd.zeroValue91
  t51 := Tryd.underlying124
  a51 := Tryd.isAgg124
  z51 := Tryd.sizeOf124
  v51 := Tryd.zeroValue124
  t53 := Tryd.underlying29
  a53 := Tryd.isAgg29
  z53 := Tryd.sizeOf29
  v53 := Tryd.zeroValue29
  t171 := Tryd.underlying132
  a171 := Tryd.isAgg132
  z171 := Tryd.sizeOf132
  v171 := Tryd.zeroValue132
  t173 := Tryd.underlying135
  a173 := Tryd.isAgg135
  z173 := Tryd.sizeOf135
  v173 := Tryd.zeroValue135
  t212 := Tryd.underlying142
  a212 := Tryd.isAgg142
  z212 := Tryd.sizeOf142
  v212 := Tryd.zeroValue142
  t213 := Tryd.underlying143
  a213 := Tryd.isAgg143
  z213 := Tryd.sizeOf143
  t232 := Tryd.underlying144
  a232 := Tryd.isAgg144
  z232 := Tryd.sizeOf144
  v232 := Tryd.zeroValue144
  t233 := Tryd.underlying145
  a233 := Tryd.isAgg145
  z233 := Tryd.sizeOf145
  v233 := Tryd.zeroValue145
  g17 := by kernel_rfl
  g18 := by kernel_rfl
  g19 := by kernel_rfl }
open Go.RowKit Go.Sort Go.Lib in
/-- THE ROAD WITHOUT THE TABLE: 0 <= i < 100: two constants are read, nothing is laid: no premise on the world, and the world is as it was. (LAID: no walk: one application.) -/
theorem Tryd.internal_strconv_FormatInt_10_small (i : Nat) (hi : i < 100) (w : World) :
    Calls Tryd.prog 82 #[.int .i64 i, .int .i64 10] w fun e w' => e = .returned (.string ⟨(Lib.decDigits i).toArray⟩) ∧ w' = w := Any.internal_strconv_FormatInt_10_small Tryd.lays246 i hi w
def Tryd.laysM243_ren : Go.Shelf.Ren := ⟨fun | 243 => 69 | 246 => 82 | 283 => 89 | 284 => 90 | 285 => 91 | 286 => 92 | 129 => 63 | 317 => 94 | 318 => 95 | 319 => 96 | 320 => 97 | 337 => 98 | 338 => 99 | n => n, fun | 3 => 3 | 9 => 9 | 2 => 2 | 4 => 4 | 171 => 132 | 0 => 0 | 53 => 29 | 37 => 134 | 5 => 5 | 173 => 135 | 212 => 142 | 51 => 124 | 20 => 20 | 213 => 143 | 46 => 91 | 232 => 144 | 233 => 145 | n => n, fun | 17 => 2 | 18 => 3 | 19 => 4 | n => n⟩
theorem Tryd.laysM243 : Go.Proofs.LaysM.n243 Tryd.prog Tryd.laysM243_ren := {
  mixed := by kernel_rfl
  f129 := Tryd.func63.trans (congrArg some (by kernel_rfl))
  f243 := Tryd.func69.trans (congrArg some (by kernel_rfl))
  f246 := Tryd.func82.trans (congrArg some (by kernel_rfl))
  f283 := Tryd.func89.trans (congrArg some (by kernel_rfl))
  f284 := Tryd.func90.trans (congrArg some (by kernel_rfl))
  f285 := Tryd.func91.trans (congrArg some (by kernel_rfl))
  f286 := Tryd.func92.trans (congrArg some (by kernel_rfl))
  f317 := Tryd.func94.trans (congrArg some (by kernel_rfl))
  f318 := Tryd.func95.trans (congrArg some (by kernel_rfl))
  f319 := Tryd.func96.trans (congrArg some (by kernel_rfl))
  f320 := Tryd.func97.trans (congrArg some (by kernel_rfl))
  f337 := Tryd.func98.trans (congrArg some (by kernel_rfl))
  f338 := Tryd.func99.trans (congrArg some (by kernel_rfl))
  t0 := Tryd.underlying0
  a0 := Tryd.isAgg0
  z0 := Tryd.sizeOf0
  v0 := Tryd.zeroValue0
  t2 := Tryd.underlying2
  a2 := Tryd.isAgg2
  z2 := Tryd.sizeOf2
  v2 := Tryd.zeroValue2
  t3 := Tryd.underlying3
  a3 := Tryd.isAgg3
  z3 := Tryd.sizeOf3
  v3 := Tryd.zeroValue3
  t4 := Tryd.underlying4
  a4 := Tryd.isAgg4
  z4 := Tryd.sizeOf4
  v4 := Tryd.zeroValue4
  t5 := Tryd.underlying5
  a5 := Tryd.isAgg5
  z5 := Tryd.sizeOf5
  v5 := Tryd.zeroValue5
  t9 := Tryd.underlying9
  a9 := Tryd.isAgg9
  z9 := Tryd.sizeOf9
  v9 := Tryd.zeroValue9
  t20 := Tryd.underlying20
  a20 := Tryd.isAgg20
  z20 := Tryd.sizeOf20
  v20 := Tryd.zeroValue20
  t37 := Tryd.underlying134
  a37 := Tryd.isAgg134
  z37 := Tryd.sizeOf134
  v37 := Tryd.zeroValue134
  t46 := Tryd.underlying91
  a46 := Tryd.isAgg91
  z46 := Tryd.sizeOf91
  v46 := Tryd.zeroValue91
  t51 := Tryd.underlying124
  a51 := Tryd.isAgg124
  z51 := Tryd.sizeOf124
  v51 := Tryd.zeroValue124
  t53 := Tryd.underlying29
  a53 := Tryd.isAgg29
  z53 := Tryd.sizeOf29
  v53 := Tryd.zeroValue29
  t171 := Tryd.underlying132
  a171 := Tryd.isAgg132
  z171 := Tryd.sizeOf132
  v171 := Tryd.zeroValue132
  t173 := Tryd.underlying135
  a173 := Tryd.isAgg135
  z173 := Tryd.sizeOf135
  v173 := Tryd.zeroValue135
  t212 := Tryd.underlying142
  a212 := Tryd.isAgg142
  z212 := Tryd.sizeOf142
  v212 := Tryd.zeroValue142
  t213 := Tryd.underlying143
  a213 := Tryd.isAgg143
  z213 := Tryd.sizeOf143
  t232 := Tryd.underlying144
  a232 := Tryd.isAgg144
  z232 := Tryd.sizeOf144
  v232 := Tryd.zeroValue144
  t233 := Tryd.underlying145
  a233 := Tryd.isAgg145
  z233 := Tryd.sizeOf145
  v233 := Tryd.zeroValue145
  g17 := by kernel_rfl
  g18 := by kernel_rfl
  g19 := by kernel_rfl
  i0 := by kernel_rfl
  i2 := by kernel_rfl
  i3 := by kernel_rfl
  i4 := by kernel_rfl
  i5 := by kernel_rfl
  i9 := by kernel_rfl
  i20 := by kernel_rfl
  i37 := by kernel_rfl
  i46 := by kernel_rfl
  i51 := by kernel_rfl
  i53 := by kernel_rfl
  i171 := by kernel_rfl
  i173 := by kernel_rfl
  i212 := by kernel_rfl
  i232 := by kernel_rfl
  i233 := by kernel_rfl
  m17 := by kernel_rfl
  m18 := by kernel_rfl
  m19 := by kernel_rfl }
open Go.RowKit Go.Sort Go.Lib in
/-- internal/strconv.Itoa: "Itoa is equivalent to FormatInt(int64(i), 10).": i's decimal numeral, for every int. (LAID: no walk: one application.) -/
theorem Tryd.internal_strconv_Itoa (n : Int) (h0 : -9223372036854775808 ≤ n) (h1 : n ≤ 9223372036854775807) (w : World) (htab : Lib.TabIs Tryd.prog w "internal/strconv.uint64pow10" .u64 Lib.pow10Tab) :
    Calls Tryd.prog 69 #[.int .i64 n] w fun e w' => e = .returned (.string ⟨(Lib.itoa n).toArray⟩) ∧ ∃ k os, w' = grow (w.drewN k) os := Any.internal_strconv_Itoa Tryd.laysM243 n h0 h1 w htab
def Tryd.lays243_ren : Go.Shelf.Ren := ⟨fun | 243 => 69 | 246 => 82 | 283 => 89 | 284 => 90 | 285 => 91 | 286 => 92 | 129 => 63 | 317 => 94 | 318 => 95 | 319 => 96 | 320 => 97 | 337 => 98 | 338 => 99 | n => n, fun | 3 => 3 | 9 => 9 | 2 => 2 | 4 => 4 | 171 => 132 | 0 => 0 | 53 => 29 | 37 => 134 | 5 => 5 | 173 => 135 | 212 => 142 | 51 => 124 | 20 => 20 | 213 => 143 | 46 => 91 | 232 => 144 | 233 => 145 | n => n, fun | 17 => 2 | 18 => 3 | 19 => 4 | n => n⟩
theorem Tryd.lays243 : Go.Proofs.Lays.n243 Tryd.prog Tryd.lays243_ren := {
  mixed := by kernel_rfl
  f129 := Tryd.func63.trans (congrArg some (by kernel_rfl))
  f243 := Tryd.func69.trans (congrArg some (by kernel_rfl))
  f246 := Tryd.func82.trans (congrArg some (by kernel_rfl))
  f283 := Tryd.func89.trans (congrArg some (by kernel_rfl))
  f284 := Tryd.func90.trans (congrArg some (by kernel_rfl))
  f285 := Tryd.func91.trans (congrArg some (by kernel_rfl))
  f286 := Tryd.func92.trans (congrArg some (by kernel_rfl))
  f317 := Tryd.func94.trans (congrArg some (by kernel_rfl))
  f318 := Tryd.func95.trans (congrArg some (by kernel_rfl))
  f319 := Tryd.func96.trans (congrArg some (by kernel_rfl))
  f320 := Tryd.func97.trans (congrArg some (by kernel_rfl))
  f337 := Tryd.func98.trans (congrArg some (by kernel_rfl))
  f338 := Tryd.func99.trans (congrArg some (by kernel_rfl))
  t0 := Tryd.underlying0
  a0 := Tryd.isAgg0
  z0 := Tryd.sizeOf0
  v0 := Tryd.zeroValue0
  t2 := Tryd.underlying2
  a2 := Tryd.isAgg2
  z2 := Tryd.sizeOf2
  v2 := Tryd.zeroValue2
  t3 := Tryd.underlying3
  a3 := Tryd.isAgg3
  z3 := Tryd.sizeOf3
  v3 := Tryd.zeroValue3
  t4 := Tryd.underlying4
  a4 := Tryd.isAgg4
  z4 := Tryd.sizeOf4
  v4 := Tryd.zeroValue4
  t5 := Tryd.underlying5
  a5 := Tryd.isAgg5
  z5 := Tryd.sizeOf5
  v5 := Tryd.zeroValue5
  t9 := Tryd.underlying9
  a9 := Tryd.isAgg9
  z9 := Tryd.sizeOf9
  v9 := Tryd.zeroValue9
  t20 := Tryd.underlying20
  a20 := Tryd.isAgg20
  z20 := Tryd.sizeOf20
  v20 := Tryd.zeroValue20
  t37 := Tryd.underlying134
  a37 := Tryd.isAgg134
  z37 := Tryd.sizeOf134
  v37 := Tryd.zeroValue134
  t46 := Tryd.underlying91
  a46 := Tryd.isAgg91
  z46 := Tryd.sizeOf91
  v46 := Tryd.zeroValue91
  t51 := Tryd.underlying124
  a51 := Tryd.isAgg124
  z51 := Tryd.sizeOf124
  v51 := Tryd.zeroValue124
  t53 := Tryd.underlying29
  a53 := Tryd.isAgg29
  z53 := Tryd.sizeOf29
  v53 := Tryd.zeroValue29
  t171 := Tryd.underlying132
  a171 := Tryd.isAgg132
  z171 := Tryd.sizeOf132
  v171 := Tryd.zeroValue132
  t173 := Tryd.underlying135
  a173 := Tryd.isAgg135
  z173 := Tryd.sizeOf135
  v173 := Tryd.zeroValue135
  t212 := Tryd.underlying142
  a212 := Tryd.isAgg142
  z212 := Tryd.sizeOf142
  v212 := Tryd.zeroValue142
  t213 := Tryd.underlying143
  a213 := Tryd.isAgg143
  z213 := Tryd.sizeOf143
  t232 := Tryd.underlying144
  a232 := Tryd.isAgg144
  z232 := Tryd.sizeOf144
  v232 := Tryd.zeroValue144
  t233 := Tryd.underlying145
  a233 := Tryd.isAgg145
  z233 := Tryd.sizeOf145
  v233 := Tryd.zeroValue145
  g17 := by kernel_rfl
  g18 := by kernel_rfl
  g19 := by kernel_rfl }
open Go.RowKit Go.Sort Go.Lib in
/-- THE ROAD WITHOUT THE TABLE: 0 <= i < 100. (LAID: no walk: one application.) -/
theorem Tryd.internal_strconv_Itoa_small (i : Nat) (hi : i < 100) (w : World) :
    Calls Tryd.prog 69 #[.int .i64 i] w fun e w' => e = .returned (.string ⟨(Lib.decDigits i).toArray⟩) ∧ w' = w := Any.internal_strconv_Itoa_small Tryd.lays243 i hi w
def Tryd.laysM171_ren : Go.Shelf.Ren := ⟨fun | 171 => 62 | 243 => 69 | 246 => 82 | 283 => 89 | 284 => 90 | 285 => 91 | 286 => 92 | 129 => 63 | 317 => 94 | 318 => 95 | 319 => 96 | 320 => 97 | 337 => 98 | 338 => 99 | n => n, fun | 3 => 3 | 9 => 9 | 2 => 2 | 4 => 4 | 171 => 132 | 0 => 0 | 53 => 29 | 37 => 134 | 5 => 5 | 173 => 135 | 212 => 142 | 51 => 124 | 20 => 20 | 213 => 143 | 46 => 91 | 232 => 144 | 233 => 145 | n => n, fun | 17 => 2 | 18 => 3 | 19 => 4 | n => n⟩
theorem Tryd.laysM171 : Go.Proofs.LaysM.n171 Tryd.prog Tryd.laysM171_ren := {
  mixed := by kernel_rfl
  f129 := Tryd.func63.trans (congrArg some (by kernel_rfl))
  f171 := Tryd.func62.trans (congrArg some (by kernel_rfl))
  f243 := Tryd.func69.trans (congrArg some (by kernel_rfl))
  f246 := Tryd.func82.trans (congrArg some (by kernel_rfl))
  f283 := Tryd.func89.trans (congrArg some (by kernel_rfl))
  f284 := Tryd.func90.trans (congrArg some (by kernel_rfl))
  f285 := Tryd.func91.trans (congrArg some (by kernel_rfl))
  f286 := Tryd.func92.trans (congrArg some (by kernel_rfl))
  f317 := Tryd.func94.trans (congrArg some (by kernel_rfl))
  f318 := Tryd.func95.trans (congrArg some (by kernel_rfl))
  f319 := Tryd.func96.trans (congrArg some (by kernel_rfl))
  f320 := Tryd.func97.trans (congrArg some (by kernel_rfl))
  f337 := Tryd.func98.trans (congrArg some (by kernel_rfl))
  f338 := Tryd.func99.trans (congrArg some (by kernel_rfl))
  t0 := Tryd.underlying0
  a0 := Tryd.isAgg0
  z0 := Tryd.sizeOf0
  v0 := Tryd.zeroValue0
  t2 := Tryd.underlying2
  a2 := Tryd.isAgg2
  z2 := Tryd.sizeOf2
  v2 := Tryd.zeroValue2
  t3 := Tryd.underlying3
  a3 := Tryd.isAgg3
  z3 := Tryd.sizeOf3
  v3 := Tryd.zeroValue3
  t4 := Tryd.underlying4
  a4 := Tryd.isAgg4
  z4 := Tryd.sizeOf4
  v4 := Tryd.zeroValue4
  t5 := Tryd.underlying5
  a5 := Tryd.isAgg5
  z5 := Tryd.sizeOf5
  v5 := Tryd.zeroValue5
  t9 := Tryd.underlying9
  a9 := Tryd.isAgg9
  z9 := Tryd.sizeOf9
  v9 := Tryd.zeroValue9
  t20 := Tryd.underlying20
  a20 := Tryd.isAgg20
  z20 := Tryd.sizeOf20
  v20 := Tryd.zeroValue20
  t37 := Tryd.underlying134
  a37 := Tryd.isAgg134
  z37 := Tryd.sizeOf134
  v37 := Tryd.zeroValue134
  t46 := Tryd.underlying91
  a46 := Tryd.isAgg91
  z46 := Tryd.sizeOf91
  v46 := Tryd.zeroValue91
  t51 := Tryd.underlying124
  a51 := Tryd.isAgg124
  z51 := Tryd.sizeOf124
  v51 := Tryd.zeroValue124
  t53 := Tryd.underlying29
  a53 := Tryd.isAgg29
  z53 := Tryd.sizeOf29
  v53 := Tryd.zeroValue29
  t171 := Tryd.underlying132
  a171 := Tryd.isAgg132
  z171 := Tryd.sizeOf132
  v171 := Tryd.zeroValue132
  t173 := Tryd.underlying135
  a173 := Tryd.isAgg135
  z173 := Tryd.sizeOf135
  v173 := Tryd.zeroValue135
  t212 := Tryd.underlying142
  a212 := Tryd.isAgg142
  z212 := Tryd.sizeOf142
  v212 := Tryd.zeroValue142
  t213 := Tryd.underlying143
  a213 := Tryd.isAgg143
  z213 := Tryd.sizeOf143
  t232 := Tryd.underlying144
  a232 := Tryd.isAgg144
  z232 := Tryd.sizeOf144
  v232 := Tryd.zeroValue144
  t233 := Tryd.underlying145
  a233 := Tryd.isAgg145
  z233 := Tryd.sizeOf145
  v233 := Tryd.zeroValue145
  g17 := by kernel_rfl
  g18 := by kernel_rfl
  g19 := by kernel_rfl
  i0 := by kernel_rfl
  i2 := by kernel_rfl
  i3 := by kernel_rfl
  i4 := by kernel_rfl
  i5 := by kernel_rfl
  i9 := by kernel_rfl
  i20 := by kernel_rfl
  i37 := by kernel_rfl
  i46 := by kernel_rfl
  i51 := by kernel_rfl
  i53 := by kernel_rfl
  i171 := by kernel_rfl
  i173 := by kernel_rfl
  i212 := by kernel_rfl
  i232 := by kernel_rfl
  i233 := by kernel_rfl
  m17 := by kernel_rfl
  m18 := by kernel_rfl
  m19 := by kernel_rfl }
open Go.RowKit Go.Sort Go.Lib in
/-- strconv.Itoa: "Itoa is equivalent to FormatInt(int64(i), 10).": i's DECIMAL NUMERAL ('Lib.itoa': a '-' where i is negative, then the digits), FOR EVERY int. The world behind the call: the world before it, new blocks behind the heap (the library's 'var a [24]byte'), draws. (LAID: no walk: one application.) -/
theorem Tryd.strconv_Itoa (n : Int) (h0 : -9223372036854775808 ≤ n) (h1 : n ≤ 9223372036854775807) (w : World) (htab : Lib.TabIs Tryd.prog w "internal/strconv.uint64pow10" .u64 Lib.pow10Tab) :
    Calls Tryd.prog 62 #[.int .i64 n] w fun e w' => e = .returned (.string ⟨(Lib.itoa n).toArray⟩) ∧ ∃ k os, w' = grow (w.drewN k) os := Any.strconv_Itoa Tryd.laysM171 n h0 h1 w htab
def Tryd.lays171_ren : Go.Shelf.Ren := ⟨fun | 171 => 62 | 243 => 69 | 246 => 82 | 283 => 89 | 284 => 90 | 285 => 91 | 286 => 92 | 129 => 63 | 317 => 94 | 318 => 95 | 319 => 96 | 320 => 97 | 337 => 98 | 338 => 99 | n => n, fun | 3 => 3 | 9 => 9 | 2 => 2 | 4 => 4 | 171 => 132 | 0 => 0 | 53 => 29 | 37 => 134 | 5 => 5 | 173 => 135 | 212 => 142 | 51 => 124 | 20 => 20 | 213 => 143 | 46 => 91 | 232 => 144 | 233 => 145 | n => n, fun | 17 => 2 | 18 => 3 | 19 => 4 | n => n⟩
theorem Tryd.lays171 : Go.Proofs.Lays.n171 Tryd.prog Tryd.lays171_ren := {
  mixed := by kernel_rfl
  f129 := Tryd.func63.trans (congrArg some (by kernel_rfl))
  f171 := Tryd.func62.trans (congrArg some (by kernel_rfl))
  f243 := Tryd.func69.trans (congrArg some (by kernel_rfl))
  f246 := Tryd.func82.trans (congrArg some (by kernel_rfl))
  f283 := Tryd.func89.trans (congrArg some (by kernel_rfl))
  f284 := Tryd.func90.trans (congrArg some (by kernel_rfl))
  f285 := Tryd.func91.trans (congrArg some (by kernel_rfl))
  f286 := Tryd.func92.trans (congrArg some (by kernel_rfl))
  f317 := Tryd.func94.trans (congrArg some (by kernel_rfl))
  f318 := Tryd.func95.trans (congrArg some (by kernel_rfl))
  f319 := Tryd.func96.trans (congrArg some (by kernel_rfl))
  f320 := Tryd.func97.trans (congrArg some (by kernel_rfl))
  f337 := Tryd.func98.trans (congrArg some (by kernel_rfl))
  f338 := Tryd.func99.trans (congrArg some (by kernel_rfl))
  t0 := Tryd.underlying0
  a0 := Tryd.isAgg0
  z0 := Tryd.sizeOf0
  v0 := Tryd.zeroValue0
  t2 := Tryd.underlying2
  a2 := Tryd.isAgg2
  z2 := Tryd.sizeOf2
  v2 := Tryd.zeroValue2
  t3 := Tryd.underlying3
  a3 := Tryd.isAgg3
  z3 := Tryd.sizeOf3
  v3 := Tryd.zeroValue3
  t4 := Tryd.underlying4
  a4 := Tryd.isAgg4
  z4 := Tryd.sizeOf4
  v4 := Tryd.zeroValue4
  t5 := Tryd.underlying5
  a5 := Tryd.isAgg5
  z5 := Tryd.sizeOf5
  v5 := Tryd.zeroValue5
  t9 := Tryd.underlying9
  a9 := Tryd.isAgg9
  z9 := Tryd.sizeOf9
  v9 := Tryd.zeroValue9
  t20 := Tryd.underlying20
  a20 := Tryd.isAgg20
  z20 := Tryd.sizeOf20
  v20 := Tryd.zeroValue20
  t37 := Tryd.underlying134
  a37 := Tryd.isAgg134
  z37 := Tryd.sizeOf134
  v37 := Tryd.zeroValue134
  t46 := Tryd.underlying91
  a46 := Tryd.isAgg91
  z46 := Tryd.sizeOf91
  v46 := Tryd.zeroValue91
  t51 := Tryd.underlying124
  a51 := Tryd.isAgg124
  z51 := Tryd.sizeOf124
  v51 := Tryd.zeroValue124
  t53 := Tryd.underlying29
  a53 := Tryd.isAgg29
  z53 := Tryd.sizeOf29
  v53 := Tryd.zeroValue29
  t171 := Tryd.underlying132
  a171 := Tryd.isAgg132
  z171 := Tryd.sizeOf132
  v171 := Tryd.zeroValue132
  t173 := Tryd.underlying135
  a173 := Tryd.isAgg135
  z173 := Tryd.sizeOf135
  v173 := Tryd.zeroValue135
  t212 := Tryd.underlying142
  a212 := Tryd.isAgg142
  z212 := Tryd.sizeOf142
  v212 := Tryd.zeroValue142
  t213 := Tryd.underlying143
  a213 := Tryd.isAgg143
  z213 := Tryd.sizeOf143
  t232 := Tryd.underlying144
  a232 := Tryd.isAgg144
  z232 := Tryd.sizeOf144
  v232 := Tryd.zeroValue144
  t233 := Tryd.underlying145
  a233 := Tryd.isAgg145
  z233 := Tryd.sizeOf145
  v233 := Tryd.zeroValue145
  g17 := by kernel_rfl
  g18 := by kernel_rfl
  g19 := by kernel_rfl }
open Go.RowKit Go.Sort Go.Lib in
/-- THE ROAD WITHOUT THE TABLE: 0 <= i < 100: NO PREMISE ON THE WORLD, AND THE WORLD IS AS IT WAS: a row that keeps its argument in that range need list no table ('laid = []'). (LAID: no walk: one application.) -/
theorem Tryd.strconv_Itoa_small (i : Nat) (hi : i < 100) (w : World) :
    Calls Tryd.prog 62 #[.int .i64 i] w fun e w' => e = .returned (.string ⟨(Lib.decDigits i).toArray⟩) ∧ w' = w := Any.strconv_Itoa_small Tryd.lays171 i hi w
def Tryd.lays190_ren : Go.Shelf.Ren := ⟨fun | 190 => 58 | 125 => 68 | 258 => 67 | 128 => 81 | 129 => 63 | 302 => 72 | 303 => 73 | 304 => 74 | 305 => 75 | 306 => 76 | 307 => 77 | 308 => 78 | 309 => 79 | 310 => 80 | 333 => 83 | 329 => 84 | 330 => 85 | 334 => 86 | 335 => 87 | 336 => 88 | 344 => 93 | n => n, fun | 31 => 57 | 9 => 9 | 3 => 3 | 46 => 91 | 0 => 0 | 51 => 124 | 53 => 29 | 4 => 4 | 183 => 117 | 182 => 116 | 131 => 80 | 5 => 5 | 218 => 126 | 222 => 130 | 228 => 137 | 229 => 138 | n => n, fun | n => n⟩
theorem Tryd.lays190 : Go.Proofs.Lays.n190 Tryd.prog Tryd.lays190_ren := {
  mixed := by kernel_rfl
  f125 := Tryd.func68.trans (congrArg some (by kernel_rfl))
  f128 := Tryd.func81.trans (congrArg some (by kernel_rfl))
  f129 := Tryd.func63.trans (congrArg some (by kernel_rfl))
  f190 := Tryd.func58.trans (congrArg some (by kernel_rfl))
  f258 := Tryd.func67.trans (congrArg some (by kernel_rfl))
  f302 := Tryd.func72.trans (congrArg some (by kernel_rfl))
  f303 := Tryd.func73.trans (congrArg some (by kernel_rfl))
  f304 := Tryd.func74.trans (congrArg some (by kernel_rfl))
  f305 := Tryd.func75.trans (congrArg some (by kernel_rfl))
  f306 := Tryd.func76.trans (congrArg some (by kernel_rfl))
  f307 := Tryd.func77.trans (congrArg some (by kernel_rfl))
  f308 := Tryd.func78.trans (congrArg some (by kernel_rfl))
  f309 := Tryd.func79.trans (congrArg some (by kernel_rfl))
  f310 := Tryd.func80.trans (congrArg some (by kernel_rfl))
  f329 := Tryd.func84.trans (congrArg some (by kernel_rfl))
  f330 := Tryd.func85.trans (congrArg some (by kernel_rfl))
  f333 := Tryd.func83.trans (congrArg some (by kernel_rfl))
  f334 := Tryd.func86.trans (congrArg some (by kernel_rfl))
  f335 := Tryd.func87.trans (congrArg some (by kernel_rfl))
  f336 := Tryd.func88.trans (congrArg some (by kernel_rfl))
  f344 := Tryd.func93.trans (congrArg some (by kernel_rfl))
  t0 := Tryd.underlying0
  a0 := Tryd.isAgg0
  z0 := Tryd.sizeOf0
  v0 := Tryd.zeroValue0
  t3 := Tryd.underlying3
  a3 := Tryd.isAgg3
  z3 := Tryd.sizeOf3
  v3 := Tryd.zeroValue3
  t4 := Tryd.underlying4
  a4 := Tryd.isAgg4
  z4 := Tryd.sizeOf4
  v4 := Tryd.zeroValue4
  t5 := Tryd.underlying5
  a5 := Tryd.isAgg5
  z5 := Tryd.sizeOf5
  v5 := Tryd.zeroValue5
  t9 := Tryd.underlying9
  a9 := Tryd.isAgg9
  z9 := Tryd.sizeOf9
  v9 := Tryd.zeroValue9
  t31 := Tryd.underlying57
  a31 := Tryd.isAgg57
  z31 := Tryd.sizeOf57
  v31 := Tryd.zeroValue57
  t46 := Tryd.underlying91
  a46 := Tryd.isAgg91
  z46 := Tryd.sizeOf91
  v46 := Tryd.zeroValue91
  t51 := Tryd.underlying124
  a51 := Tryd.isAgg124
  z51 := Tryd.sizeOf124
  v51 := Tryd.zeroValue124
  t53 := Tryd.underlying29
  a53 := Tryd.isAgg29
  z53 := Tryd.sizeOf29
  v53 := Tryd.zeroValue29
  t131 := Tryd.underlying80
  a131 := Tryd.isAgg80
  z131 := Tryd.sizeOf80
  v131 := Tryd.zeroValue80
  t182 := Tryd.underlying116
  a182 := Tryd.isAgg116
  z182 := Tryd.sizeOf116
  v182 := Tryd.zeroValue116
  t183 := Tryd.underlying117
  a183 := Tryd.isAgg117
  z183 := Tryd.sizeOf117
  v183 := Tryd.zeroValue117
  t218 := Tryd.underlying126
  a218 := Tryd.isAgg126
  z218 := Tryd.sizeOf126
  v218 := Tryd.zeroValue126
  t222 := Tryd.underlying130
  a222 := Tryd.isAgg130
  z222 := Tryd.sizeOf130
  v222 := Tryd.zeroValue130
  t228 := Tryd.underlying137
  a228 := Tryd.isAgg137
  z228 := Tryd.sizeOf137
  v228 := Tryd.zeroValue137
  t229 := Tryd.underlying138
  a229 := Tryd.isAgg138
  z229 := Tryd.sizeOf138
  v229 := Tryd.zeroValue138 }
open Go.Sort Go.RowKit in
theorem Tryd.slices_Sort_string (blk off cap : Nat) (ss : List (List UInt8)) (w : World) (hH : Holds encStr w blk off ss.toArray) (hblk : blk < w.heap.size) (hsz : ss.length < 4611686018427387904) :
    Calls Tryd.prog 58 #[.slice (some ⟨blk, off, none⟩) ss.length cap] w fun e w' =>
      e = .returned (.tuple #[]) ∧ ∃ n os, w' = grow (putRow encStr (Sort.ahead w n) blk off (ss.mergeSort fun x y => decide (x ≤ y)).toArray) os := Any.slices_Sort_string Tryd.lays190 blk off cap ss w hH hblk hsz
def Tryd.lays264_ren : Go.Shelf.Ren := ⟨fun | 264 => 24 | n => n, fun | 53 => 29 | 46 => 91 | n => n, fun | n => n⟩
theorem Tryd.lays264 : Go.Proofs.Lays.n264 Tryd.prog Tryd.lays264_ren := {
  mixed := by kernel_rfl
  f264 := Tryd.func24.trans (congrArg some (by kernel_rfl))
  t46 := Tryd.underlying91
  a46 := Tryd.isAgg91
  z46 := Tryd.sizeOf91
  v46 := Tryd.zeroValue91
  t53 := Tryd.underlying29
  a53 := Tryd.isAgg29
  z53 := Tryd.sizeOf29
  v53 := Tryd.zeroValue29 }
open Go.RowKit Go.Lib in
theorem Tryd.bits_Mul64 (x y : Nat) (hx : x < 18446744073709551616) (hy : y < 18446744073709551616) (w : World) :
    Calls Tryd.prog 24 #[.int .u64 x, .int .u64 y] w fun e w' => e = .returned (.tuple #[.int .u64 ((x * y / 18446744073709551616 : Nat) : Int), .int .u64 ((x * y % 18446744073709551616 : Nat) : Int)]) ∧ w' = w := Any.bits_Mul64 Tryd.lays264 x y hx hy w
def Tryd.laysNm215_ren : Go.Shelf.Ren := ⟨fun | 15 => 12 | n => n, fun | 22 => 22 | 3 => 3 | 4 => 4 | n => n, fun | n => n⟩
theorem Tryd.laysNm215 : Go.Proofs.Lays2.n15 Tryd.prog Tryd.laysNm215_ren := {
  mixed := by kernel_rfl
  f15 := Tryd.func12.trans (congrArg some (by kernel_rfl))
  t3 := Tryd.underlying3
  a3 := Tryd.isAgg3
  z3 := Tryd.sizeOf3
  v3 := Tryd.zeroValue3
  t4 := Tryd.underlying4
  a4 := Tryd.isAgg4
  z4 := Tryd.sizeOf4
  v4 := Tryd.zeroValue4
  t22 := Tryd.underlying22
  a22 := Tryd.isAgg22
  z22 := Tryd.sizeOf22
  v22 := Tryd.zeroValue22
  i3 := by kernel_rfl }
open Go.RowKit Go.Lib in
/-- slices.Clone at []int: "Clone returns a copy of the slice. The elements are copied using assignment, so this is a shallow clone. The result may have additional unused capacity. The result preserves the nilness of s.": OF A SLICE THAT IS NOT nil IT RETURNS A SLICE THAT IS NOT nil, OF THE SAME ELEMENTS, IN MEMORY OF THE CALL's OWN: in the how-to's words (6f): 'w'.ownsRow B e 1 v' n cells': v' begins at the head of a row among the blocks from B on (B: the heap's size at the call), not frozen, whose first cells are the elements · 'Below B w w'': below B all is as it was. The capacity is whatever the run-time gives. 'zs': what the cells behind the slice's address hold; 'zs.take n': its elements. (LAID: no walk: one application.) -/
theorem Tryd.slices_Clone_int (b off n c : Nat) (zs : List Int) (w : World) (hz : n ≤ zs.length) (hbig : n * 8 ≤ 140737488355328) (hc : ∀ j, j < zs.length → w.cell? ⟨b, off + j, none⟩ = some (.int .i64 (zs.getD j 0))) :
    Calls Tryd.prog 12 #[.slice (some ⟨b, off, none⟩) n c] w fun e w' => ∃ v', e = .returned v' ∧ w'.ownsRow w.heap.size 3 1 v' n ((zs.take n).map (Value.int .i64)) ∧ v' ≠ .slice none 0 0 ∧ Below w.heap.size w w' := Any.slices_Clone_int Tryd.laysNm215 b off n c zs w hz hbig hc
open Go.RowKit Go.Lib in
/-- The same at nil: nil comes back; the world is as it was. (LAID: no walk: one application.) -/
theorem Tryd.slices_Clone_int_nil (n c : Nat) (w : World) :
    Calls Tryd.prog 12 #[.slice none n c] w fun e w' => e = .returned (.slice none 0 0) ∧ w' = w := Any.slices_Clone_int_nil Tryd.laysNm215 n c w
open Go.RowKit Go.Lib in
/-- The same at a slice of length 0 that is not nil, WHATEVER ITS ADDRESS (no cell is asked for): a slice that is not nil and owns nothing comes back. (LAID: no walk: one application.) -/
theorem Tryd.slices_Clone_int_zero (a : Addr) (c : Nat) (w : World) :
    Calls Tryd.prog 12 #[.slice (some a) 0 c] w fun e w' => ∃ v', e = .returned v' ∧ w'.ownsRow w.heap.size 3 1 v' 0 [] ∧ v' ≠ .slice none 0 0 ∧ Below w.heap.size w w' := Any.slices_Clone_int_zero Tryd.laysNm215 a c w
def Tryd.lays194_ren : Go.Shelf.Ren := ⟨fun | 194 => 59 | n => n, fun | 31 => 57 | 9 => 9 | 3 => 3 | 4 => 4 | 0 => 0 | n => n, fun | n => n⟩
theorem Tryd.lays194 : Go.Proofs.Lays.n194 Tryd.prog Tryd.lays194_ren := {
  mixed := by kernel_rfl
  f194 := Tryd.func59.trans (congrArg some (by kernel_rfl))
  t0 := Tryd.underlying0
  a0 := Tryd.isAgg0
  z0 := Tryd.sizeOf0
  v0 := Tryd.zeroValue0
  t3 := Tryd.underlying3
  a3 := Tryd.isAgg3
  z3 := Tryd.sizeOf3
  v3 := Tryd.zeroValue3
  t4 := Tryd.underlying4
  a4 := Tryd.isAgg4
  z4 := Tryd.sizeOf4
  v4 := Tryd.zeroValue4
  t9 := Tryd.underlying9
  a9 := Tryd.isAgg9
  z9 := Tryd.sizeOf9
  v9 := Tryd.zeroValue9
  t31 := Tryd.underlying57
  a31 := Tryd.isAgg57
  z31 := Tryd.sizeOf57
  v31 := Tryd.zeroValue57 }
open Go.RowKit Go.Lib Go.Sort in
/-- slices.Compact at []string, over an array: the library's two loops are walked. (LAID: no walk: one application.) -/
theorem Tryd.slices_Compact_string_arr (blk off cap : Nat) (d : Array (List UInt8)) (w : World) (hH : Holds encStr w blk off d) (hsz : d.size ≤ 9223372036854775807) (hcap : d.size ≤ cap) :
    Calls Tryd.prog 59 #[.slice (some ⟨blk, off, none⟩) d.size cap] w fun e w' => e = .returned (.slice (some ⟨blk, off, none⟩) (compactUpTo d d.size).length cap) ∧ ∃ q, w' = putRow encStr (Sort.ahead w q) blk off (compactUpTo d d.size ++ List.replicate (d.size - (compactUpTo d d.size).length) []).toArray := Any.slices_Compact_string_arr Tryd.lays194 blk off cap d w hH hsz hcap
open Go.RowKit Go.Lib Go.Sort in
/-- slices.Compact at []string: "Compact replaces consecutive runs of equal elements with a single copy. This is like the uniq command found on Unix. Compact modifies the contents of the slice s and returns the modified slice, which may have a smaller length. Compact zeroes the elements between the new length and the original length. The result preserves the nilness of s.": IT RETURNS THE SLICE CUT TO 'Lib.compact zs'; ITS CELLS HOLD 'Lib.compact zs', THEN ZERO VALUES up to the old length; all else is as it was, but for the count of draws. IN THE WORDS OF slices.Sort's CONTRACT ('Holds', 'putRow'): so the everyday 'slices.Sort(xs); xs = slices.Compact(xs)' goes from the one contract to the other. It asks 'zs.length ≤ cap' (every slice's: the reslicing 's[:k]' looks at it). Length 0, nil: '.._empty'. (LAID: no walk: one application.) -/
theorem Tryd.slices_Compact_string (blk off cap : Nat) (zs : List (List UInt8)) (w : World) (hH : Holds encStr w blk off zs.toArray) (hsz : zs.length ≤ 9223372036854775807) (hcap : zs.length ≤ cap) :
    Calls Tryd.prog 59 #[.slice (some ⟨blk, off, none⟩) zs.length cap] w fun e w' => e = .returned (.slice (some ⟨blk, off, none⟩) (Lib.compact zs).length cap) ∧ ∃ q, w' = putRow encStr (Sort.ahead w q) blk off (Lib.compact zs ++ List.replicate (zs.length - (Lib.compact zs).length) []).toArray := Any.slices_Compact_string Tryd.lays194 blk off cap zs w hH hsz hcap
open Go.RowKit Go.Lib Go.Sort in
/-- The same at a slice of length 0, a nil one too: it comes back as it is. (LAID: no walk: one application.) -/
theorem Tryd.slices_Compact_string_empty (a : Option Addr) (cap : Nat) (w : World) :
    Calls Tryd.prog 59 #[.slice a 0 cap] w fun e w' => e = .returned (.slice a 0 cap) ∧ w' = w := Any.slices_Compact_string_empty Tryd.lays194 a cap w
def Tryd.laysNm237_ren : Go.Shelf.Ren := ⟨fun | 37 => 33 | n => n, fun | 3 => 3 | 4 => 4 | n => n, fun | n => n⟩
theorem Tryd.laysNm237 : Go.Proofs.Lays2.n37 Tryd.prog Tryd.laysNm237_ren := {
  mixed := by kernel_rfl
  f37 := Tryd.func33.trans (congrArg some (by kernel_rfl))
  t3 := Tryd.underlying3
  a3 := Tryd.isAgg3
  z3 := Tryd.sizeOf3
  v3 := Tryd.zeroValue3
  t4 := Tryd.underlying4
  a4 := Tryd.isAgg4
  z4 := Tryd.sizeOf4
  v4 := Tryd.zeroValue4 }
open Go.RowKit Go.Lib in
/-- cmp.isNaN[int]: 'x != x': false. (LAID: no walk: one application.) -/
theorem Tryd.cmp_isNaN_int2 (x : Int) (w : World) :
    Calls Tryd.prog 33 #[.int .i64 x] w fun e w' => e = .returned (.bool false) ∧ w' = w := Any.cmp_isNaN_int2 Tryd.laysNm237 x w
open Go.RowKit Go.Lib Go.Sort in
/-- slices.Compact at []string, of an argument. (LAID: no walk: one application.) -/
theorem Tryd.slices_Compact_string_cells (b off n c : Nat) (Sx : Nat → ByteArray) (w : World) (hbig : n ≤ 9223372036854775807) (hcap : n ≤ c) (hc : ∀ i, i < n → w.cell? ⟨b, off + i, none⟩ = some (.string (Sx i))) (hf : ∀ j, j < n → w.frozen? ⟨b, off + j, none⟩ = false) :
    Calls Tryd.prog 59 #[.slice (some ⟨b, off, none⟩) n c] w fun e w' => e = .returned (.slice (some ⟨b, off, none⟩) (Lib.compact (Lib.strsOf Sx n)).length c) ∧ ∃ q, w' = (w.drewN q).setCells b off ((Lib.compact (Lib.strsOf Sx n) ++ List.replicate (n - (Lib.compact (Lib.strsOf Sx n)).length) []).map encStr) := Any.slices_Compact_string_cells Tryd.lays194 b off n c Sx w hbig hcap hc hf
open Go.RowKit Go.Sort in
/-- .. and plain. (LAID: no walk: one application.) -/
theorem Tryd.slices_Sort_string_none (p : Option Addr) (cap : Nat) (w : World) :
    Calls Tryd.prog 58 #[.slice p 0 cap] w fun e w' => e = .returned (.tuple #[]) ∧ w' = w := Any.slices_Sort_string_none Tryd.lays190 p cap w
def Tryd.laysSlE041_f12_ren : Go.Shelf.Ren := ⟨fun | 41 => 12 | n => n, fun | 22 => 22 | 23 => 3 | 4 => 4 | n => n, fun | n => n⟩
theorem Tryd.laysSlE041_f12 : Go.Proofs.SlLaysE0.n41 Tryd.prog Tryd.laysSlE041_f12_ren := {
  mixed := by kernel_rfl
  f41 := ⟨Tryd.f12.name, by decide, Tryd.func12.trans (congrArg some (by kernel_rfl))⟩
  t4 := Tryd.underlying4
  a4 := Tryd.isAgg4
  z4 := Tryd.sizeOf4
  v4 := Tryd.zeroValue4
  t22 := Tryd.underlying22
  a22 := Tryd.isAgg22
  z22 := Tryd.sizeOf22
  v22 := Tryd.zeroValue22 }
open Go.RowKit Go.Lib in
/-- slices.Clone: "Clone returns a copy of the slice. The elements are copied using assignment, so this is a shallow clone. The result may have additional unused capacity. The result preserves the nilness of s.": OF A SLICE THAT IS NOT nil IT RETURNS A SLICE THAT IS NOT nil, OF THE SAME CELLS, IN MEMORY OF THE CALL's OWN ('ownsRow': the how-to's 6f); below the heap's size at the call all is as it was. (LAID AT THE INSTANCE 'slices.Clone[[]int,int]': no walk: one application.) -/
theorem Tryd.slices_Clone (i0 : TypeInfo) (z : Value) (size bytes : Nat) (hi : Tryd.prog.info? 3 = some i0) (hz0 : i0.zero = some z) (hz1 : i0.size = size) (hz2 : i0.bytes = bytes) (hzs : z.cells.size = size) (hsz : 0 < size) (z23 : ∀ w, (Go.sizeOf 3).run Tryd.prog w = .ok size w) (b off n c : Nat) (news : List Value) (w : World) (hl : news.length = n * size) (hn : n ≤ maxLen) (hbig : n * bytes ≤ 140737488355328) (hc : ∀ j u, news[j]? = some u → w.cell? ⟨b, off + j, none⟩ = some u) (h1 : ∀ u ∈ news, u.oneCell' = true) :
    Calls Tryd.prog 12 #[.slice (some ⟨b, off, none⟩) n c] w fun e w' => ∃ v', e = .returned v' ∧ w'.ownsRow w.heap.size 3 size v' n news ∧ v' ≠ .slice none 0 0 ∧ Below w.heap.size w w' := AnyE.slices_Clone Tryd.laysSlE041_f12 i0 z size bytes hi hz0 hz1 hz2 hzs hsz z23 b off n c news w hl hn hbig hc h1
open Go.RowKit Go.Lib in
/-- The same at nil: nil comes back; the world is as it was; nothing is asked of the element's type. (LAID AT THE INSTANCE 'slices.Clone[[]int,int]': no walk: one application.) -/
theorem Tryd.slices_Clone_nil (n c : Nat) (w : World) :
    Calls Tryd.prog 12 #[.slice none n c] w fun e w' => e = .returned (.slice none 0 0) ∧ w' = w := AnyE.slices_Clone_nil Tryd.laysSlE041_f12 n c w
end Go.Proofs

namespace Go.Proofs.YtehjalgogjkdlaaDoor
set_option linter.unusedVariables false
set_option linter.unusedSimpArgs false
open Go.RowKit
theorem amt_any (n : Int) (w : World) : Calls Tryd.prog 29 #[.int .i64 n] w fun e w' => e = .returned (.bool (amtB n)) ∧ w = w' := by
  by_cases h1 : 0 ≤ n
  · go_enter Tryd.func29, Tryd.ntmps29
    go_wp2
    go_ret
    exact ⟨by simp [amtB, h1], rfl⟩
  · go_enter Tryd.func29, Tryd.ntmps29
    go_wp2
    go_ret
    exact ⟨by simp [amtB]; omega, rfl⟩
theorem cmpi_eq (u v : Int) : Lib.compareInt u v = cmpZ u v := by unfold Lib.compareInt cmpZ; rfl
/-- The comparison: the rests, y's first. -/
theorem cmpf_any (x y : Int) (rb cb cap : Nat) (R : List Int) (w : World) (h : w.cell? ⟨rb, 0, none⟩ = some (.slice (some ⟨cb, 0, none⟩) R.length cap)) (hl : rb < w.heap.size) (hR : IB w cb R) (hx : 0 ≤ x) (hx2 : x < R.length) (hy : 0 ≤ y) (hy2 : y < R.length) :
    Calls Tryd.prog 14 #[.int .i64 x, .int .i64 y, .pointer (some ⟨rb, 0, none⟩)] w fun e w' => e = .returned (.int .i64 (cmpZ (keyOf R y) (keyOf R x))) ∧ Chg [] w w' := by
  have ex : R[x.toNat]? = some (keyOf R x) := by unfold keyOf; rw [List.getD_eq_getElem?_getD, List.getElem?_eq_getElem (by omega)]; rfl
  have ey : R[y.toNat]? = some (keyOf R y) := by unfold keyOf; rw [List.getD_eq_getElem?_getD, List.getElem?_eq_getElem (by omega)]; rfl
  have c1 := hR.cell ex
  have c2 := hR.cell ey
  have lc := hR.lt
  have A := Lib.hid (fun w' => Tryd.cmp_Compare_int (keyOf R y) (keyOf R x) w')
  simp only [cmpi_eq] at A
  generalize keyOf R x = kx at *
  generalize keyOf R y = ky at *
  generalize R.length = n at *
  clear hR ex ey
  go_enter Tryd.func14, Tryd.ntmps14
  go_wp2_with fail
  go_quiet (with_reducible exact Calls.quiet_of_same (A.out _))
  go_wp2_with fail
  go_ret
  exact ⟨rfl, (Chg.refl _ _).drewN _⟩
end Go.Proofs.YtehjalgogjkdlaaDoor

namespace Go.Proofs.YtehjalgogjkdlaaDoor
set_option linter.unusedVariables false
set_option linter.unusedSimpArgs false
open Go.RowKit
theorem weighf_any (n : Int) (w : World) : Calls Tryd.prog 31 #[.int .i64 n] w fun e w' => e = .returned (.bool (!amtB n)) ∧ w = w' := by
  have A := Lib.hid (fun w' => amt_any n w')
  generalize amtB n = q at *
  cases q
  · go_enter Tryd.func31, Tryd.ntmps31
    go_wp2_with fail
    refine (A.out _).mono ?_; rintro e w1 ⟨rfl, rfl⟩
    go_wp2_with fail
    go_ret
    exact ⟨rfl, rfl⟩
  · go_enter Tryd.func31, Tryd.ntmps31
    go_wp2_with fail
    refine (A.out _).mono ?_; rintro e w1 ⟨rfl, rfl⟩
    go_wp2_with fail
    go_ret
    exact ⟨rfl, rfl⟩
theorem idxf_any (a : Option Addr) (cap : Nat) (l : List Int) (w : World) (h : SlIs icI 1 w a l.length l) (hm : l.length ≤ maxLen) : Calls Tryd.prog 47 #[.slice a l.length cap, .func (.func 31) #[] #[]] w fun e w' => (∃ r : Int, e = .returned (.int .i64 r) ∧ decide (0 ≤ r) = !l.all amtB) ∧ w = w' := by
  have H := Lib.hid h
  unfold maxLen at hm
  clear h
  go_enter Tryd.func47, Tryd.ntmps47
  go_wp2_with fail
  go_loopw [8] (fun i wr => ∃ k : Nat, i = .int .i64 k ∧ k ≤ l.length ∧ Hid ((l.take k).all amtB = true) ∧ w = wr) (fun i _ => l.length - (intOf i).toNat)
  case atStart => exact ⟨0, rfl, Nat.zero_le _, Lib.hid (by simp), rfl⟩
  case round =>
    obtain ⟨k, rfl, hkl, HT, rfl⟩ := hrel
    by_cases hk : k < l.length
    · obtain ⟨b, off, rfl, hb, hc⟩ := H.out.2 k hk
      have c0 := hc 0 (by omega)
      have HS := Lib.hid (show (l.take (k + 1)).all amtB = amtB l[k] by rw [List.take_succ_eq_append_getElem hk, List.all_append, HT.out]; simp)
      have HN := Lib.hid (show amtB l[k] = false → l.all amtB = false from fun hv => List.all_eq_false.2 ⟨l[k], List.getElem_mem hk, by rw [hv]; simp⟩)
      generalize l[k] = x at *
      simp only [icI, List.getElem?_cons_zero, Nat.add_zero, Nat.mul_one] at c0
      have A := weighf_any x w
      have hk0 : (0 : Int) ≤ (k : Int) := by omega
      have hk1 : (k : Int) < (l.length : Int) := by omega
      cases hv : amtB x
      · rw [hv] at A
        have A := Lib.hid A
        rename_i A0
        have HE := Lib.hid (HN.out hv)
        clear hc A0 hv
        go_wp2_with fail
        refine A.out.mono ?_; rintro e w1 ⟨rfl, rfl⟩
        go_wp2_with fail
        go_ret
        exact ⟨⟨_, rfl, by rw [HE.out]; simp⟩, rfl⟩
      · rw [hv] at A
        have A := Lib.hid A
        rename_i A0
        have HE := Lib.hid (HS.out.trans hv)
        clear hc A0 hv
        go_wp2_with fail
        refine A.out.mono ?_; rintro e w1 ⟨rfl, rfl⟩
        go_wp2_with fail
        exact ⟨⟨k + 1, by go_num, by omega, HE, trivial⟩, by simp [intOf]; omega⟩
    · have hks : k = l.length := by omega
      have HE := Lib.hid (show l.all amtB = true by have := HT.out; rwa [hks, List.take_of_length_le (Nat.le_refl _)] at this)
      clear hks
      go_wp2_with fail
      go_ret
      exact ⟨⟨_, rfl, by rw [HE.out]; rfl⟩, rfl⟩
theorem contf_any (a : Option Addr) (cap : Nat) (l : List Int) (w : World) (h : SlIs icI 1 w a l.length l) (hm : l.length ≤ maxLen) : Calls Tryd.prog 30 #[.slice a l.length cap, .func (.func 31) #[] #[]] w fun e w' => e = .returned (.bool (!l.all amtB)) ∧ w = w' := by
  have A := Lib.hid (idxf_any a cap l w h hm)
  clear h hm
  generalize (!l.all amtB) = q at *
  go_enter Tryd.func30, Tryd.ntmps30
  go_wp2_with fail
  refine A.out.mono ?_; rintro e w1 ⟨⟨r, rfl, hr⟩, rfl⟩
  have HR := Lib.hid hr
  clear hr A
  go_wp2_with fail
  go_ret
  exact ⟨congrArg (fun b => Ending.returned (Value.bool b)) HR.out, rfl⟩
theorem sum_take {l : List Int} (h : l.all amtB = true) (hl : l.length ≤ 256) (k : Nat) : 0 ≤ (l.take k).sum ∧ (l.take k).sum ≤ 256000000000000 := by
  have h1 : ∀ V : List Int, (∀ x ∈ V, 0 ≤ x ∧ x ≤ 1000000000000) → 0 ≤ V.sum ∧ V.sum ≤ 1000000000000 * V.length := by
    intro V hV
    induction V with
    | nil => simp
    | cons v V ih =>
      have h2 := hV v (by simp)
      have h3 := ih (fun x hx => hV x (by simp [hx]))
      rw [List.sum_cons, List.length_cons]; omega
  have h2 := h1 (l.take k) (fun x hx => amtB_iff.1 (List.all_eq_true.1 h x (List.mem_of_mem_take hx)))
  have h3 : (l.take k).length ≤ 256 := by rw [List.length_take]; omega
  omega
set_option maxHeartbeats 4000000 in
set_option maxRecDepth 100000 in
theorem weigh_any (t : Int) (a : Option Addr) (cap : Nat) (l : List Int) (w : World) (h : SlIs icI 1 w a l.length l) (hm : l.length ≤ maxLen) : Calls Tryd.prog 11 #[.int .i64 t, .slice a l.length cap] w fun e w' => e = .returned (.tuple #[.int .i64 (weighZ t l).1, .int .i64 (weighZ t l).2]) ∧ w = w' := by
  have H := Lib.hid h
  have A := Lib.hid (fun w' => amt_any t w')
  have C := Lib.hid (contf_any a cap l w h hm)
  unfold maxLen at hm
  obtain ⟨Z, hZ⟩ : ∃ Z, Z = weighZ t l := ⟨_, rfl⟩
  rw [← hZ]
  unfold weighZ at hZ
  have HZ := Lib.hid hZ
  clear h hZ
  cases h1 : amtB t
  · have HE := Lib.hid (show Z = (0, 2) by rw [HZ.out, if_pos (Or.inl h1)])
    rw [h1] at A
    rw [HE.out]
    go_enter Tryd.func11, Tryd.ntmps11
    go_wp2_with fail
    refine (A.out _).mono ?_; rintro e w1 ⟨rfl, rfl⟩
    go_wp2_with fail
    go_ret2
    exact ⟨rfl, rfl⟩
  cases h2 : l.all amtB
  · have HE := Lib.hid (show Z = (0, 2) by rw [HZ.out, if_pos (Or.inr h2)])
    rw [h1] at A
    rw [h2] at C
    rw [HE.out]
    go_enter Tryd.func11, Tryd.ntmps11
    go_wp2_with fail
    refine (A.out _).mono ?_; rintro e w1 ⟨rfl, rfl⟩
    go_wp2_with fail
    refine C.out.mono ?_; rintro e w2 ⟨rfl, rfl⟩
    go_wp2_with fail
    go_ret2
    exact ⟨rfl, rfl⟩
  have HZ1 := Lib.hid (HZ.out.trans (if_neg (by rw [h1, h2]; simp)))
  have H2 := Lib.hid h2
  rw [h1] at A
  rw [h2] at C
  clear HZ h1 h2
  by_cases h3 : 256 < l.length
  · have h3' : (256 : Int) < (l.length : Int) := by omega
    have HE := Lib.hid (show Z = (0, 3) by rw [HZ1.out, if_pos h3])
    rw [HE.out]
    go_enter Tryd.func11, Tryd.ntmps11
    go_wp2_with fail
    refine (A.out _).mono ?_; rintro e w1 ⟨rfl, rfl⟩
    go_wp2_with fail
    refine C.out.mono ?_; rintro e w2 ⟨rfl, rfl⟩
    go_wp2_with fail
    go_ret2
    exact ⟨rfl, rfl⟩
  have h3' : ¬ (256 : Int) < (l.length : Int) := by omega
  have HZ2 := Lib.hid (HZ1.out.trans (if_neg h3))
  by_cases h4 : l = [] ∧ t ≠ 0
  · have HE := Lib.hid (show Z = (0, 5) by rw [HZ2.out, if_pos h4])
    have h5 : ((l.length : Int) == 0) = true := by rw [h4.1]; rfl
    have h5' : (l.length : Int) = 0 := by rw [h4.1]; rfl
    have h6 : (t != 0) = true := by rw [bne_iff_ne]; exact h4.2
    have h6' : t ≠ 0 := h4.2
    rw [HE.out]
    generalize l.length = n at *
    clear h4
    go_enter Tryd.func11, Tryd.ntmps11
    go_wp2_with fail
    refine (A.out _).mono ?_; rintro e w1 ⟨rfl, rfl⟩
    go_wp2_with fail
    refine C.out.mono ?_; rintro e w2 ⟨rfl, rfl⟩
    go_wp2_with fail
    go_ret2
    exact ⟨rfl, rfl⟩
  have HZ3 := Lib.hid (HZ2.out.trans (if_neg h4))
  have hcase : (((l.length : Int) == 0) = false) ∨ ((((l.length : Int) == 0) = true) ∧ (t != 0) = false) := by
    by_cases q : l = []
    · refine Or.inr ⟨by rw [q]; rfl, ?_⟩
      rw [bne_eq_false_iff_eq]
      exact Classical.byContradiction fun r => h4 ⟨q, r⟩
    · refine Or.inl ?_
      rw [beq_eq_false_iff_ne]
      have := List.length_pos_iff.2 q
      omega
  clear HZ1 HZ2 h4
  rcases hcase with h5 | ⟨h5, h6⟩
  all_goals
    go_enter Tryd.func11, Tryd.ntmps11
    go_wp2_with fail
    refine (A.out _).mono ?_; rintro e w1 ⟨rfl, rfl⟩
    go_wp2_with fail
    refine C.out.mono ?_; rintro e w2 ⟨rfl, rfl⟩
    go_wp2_with fail
    go_loopw [6, 28] (fun s i wr => ∃ k : Nat, i = .int .i64 k ∧ s = .int .i64 (l.take k).sum ∧ k ≤ l.length ∧ w = wr) (fun _ i _ => l.length - (intOf i).toNat)
    case atStart => exact ⟨0, rfl, rfl, Nat.zero_le _, rfl⟩
    case round =>
      obtain ⟨k, rfl, rfl, hkl, rfl⟩ := hrel
      have hs := sum_take H2.out (by omega) k
      by_cases hk : k < l.length
      · obtain ⟨b, off, rfl, hb, hc⟩ := H.out.2 k hk
        have c0 := hc 0 (by omega)
        have HS := Lib.hid (show (l.take (k + 1)).sum = (l.take k).sum + l[k] by rw [List.take_succ_eq_append_getElem hk, List.sum_append]; simp)
        have hx := amtB_iff.1 (List.all_eq_true.1 H2.out l[k] (List.getElem_mem hk))
        generalize l[k] = x at *
        simp only [icI, List.getElem?_cons_zero, Nat.add_zero, Nat.mul_one] at c0
        generalize (l.take k).sum = S at *
        obtain ⟨s1, s2⟩ := hs
        obtain ⟨x1, x2⟩ := hx
        have hk0 : (0 : Int) ≤ (k : Int) := by omega
        have hk1 : (k : Int) < (l.length : Int) := by omega
        clear hc
        go_wp2_with fail
        exact ⟨⟨k + 1, by go_num, by rw [HS.out], by omega, trivial⟩, by simp [intOf]; omega⟩
      · have hks : k = l.length := by omega
        have HE := Lib.hid (show Z = if 1000000000000 < (l.take k).sum then (0, 8) else ((l.take k).sum, 0) by rw [HZ3.out, hks, List.take_length])
        generalize (l.take k).sum = S at *
        obtain ⟨s1, s2⟩ := hs
        clear hks
        by_cases hS : 1000000000000 < S
        · have HF := Lib.hid (HE.out.trans (if_pos hS))
          go_wp2_with fail
          rw [HF.out]
          go_ret2
          exact ⟨rfl, rfl⟩
        · have HF := Lib.hid (HE.out.trans (if_neg hS))
          go_wp2_with fail
          rw [HF.out]
          go_ret2
          exact ⟨rfl, rfl⟩
end Go.Proofs.YtehjalgogjkdlaaDoor

namespace Go.Proofs.YtehjalgogjkdlaaDoor
set_option linter.unusedVariables false
set_option linter.unusedSimpArgs false
open Go.RowKit
theorem ownI {w : World} {base : Nat} {v : Value} {l : List Int} (h : w.ownsRow base 3 1 v l.length (l.map (Value.int .i64))) : RowOf icI 1 w base 3 v l := by
  unfold RowOf
  rw [flat_icI]; exact h
theorem clone_any (a : Option Addr) (cap : Nat) (l : List Int) (w : World) (h : SlIs icI 1 w a l.length l) (hm : l.length ≤ 1000000) : Calls Tryd.prog 12 #[.slice a l.length cap] w fun e w' => ∃ v, e = .returned v ∧ RowOf icI 1 w' w.heap.size 3 v l ∧ Chg [] w w' := by
  by_cases hl : l = []
  · subst hl
    cases a with
    | none =>
      refine (Tryd.slices_Clone_int_nil 0 cap w).mono ?_
      rintro e w' ⟨rfl, rfl⟩
      exact ⟨_, rfl, RowOf.nil _ _ _, Chg.refl _ _⟩
    | some ad =>
      refine (Tryd.slices_Clone_int_zero ad cap w).mono ?_
      rintro e w' ⟨v, rfl, h1, _, h3⟩
      exact ⟨v, rfl, ownI (l := []) h1, Chg.ofBelow h3⟩
  · obtain ⟨b, off, rfl, hb, -⟩ := h.2 0 (List.length_pos_iff.2 hl)
    refine (Tryd.slices_Clone_int b off l.length cap l w (Nat.le_refl _) (by omega) (fun j hj => ?_)).mono ?_
    · obtain ⟨b', off', e1, _, hc⟩ := h.2 j hj
      cases e1
      have := hc 0 (by omega)
      simp only [Nat.mul_one, Nat.add_zero] at this
      rw [this, List.getD_eq_getElem?_getD, List.getElem?_eq_getElem hj]
      rfl
    · rintro e w' ⟨v, rfl, h1, _, h3⟩
      rw [List.take_length] at h1
      exact ⟨v, rfl, ownI h1, Chg.ofBelow h3⟩
/-- One more place of a row of ints stored. -/
theorem rowI_set {w : World} {base g n c : Nat} {l : List Int} (h : RowOf icI 1 w base 3 (.slice (some ⟨g, 0, none⟩) n c) l) {k : Nat} (hk : k < l.length) (x : Int) : RowOf icI 1 (w.setCell ⟨g, k, none⟩ (.int .i64 x)) base 3 (.slice (some ⟨g, 0, none⟩) n c) (l.set k x) := by
  have := RowOf.putEl h icI_len k hk x
  simpa [storeEl, icI] using this
end Go.Proofs.YtehjalgogjkdlaaDoor

namespace Go.Proofs.YtehjalgogjkdlaaDoor
set_option linter.unusedVariables false
set_option linter.unusedSimpArgs false
open Go.RowKit
/-- A trial digit and its rest. -/
def Tri (U u a b q r : Nat) : Prop := q * a + r = U ∧ (U * 4294967296 + u) / (a * 4294967296 + b) ≤ q
variable {U u a b q r : Nat}
theorem tri_mul (h : q * a + r = U) : q * (a * 4294967296 + b) + r * 4294967296 = U * 4294967296 + q * b := by
  subst h
  rw [Nat.mul_add, ← Nat.mul_assoc, Nat.add_mul]
  omega
theorem tri_start (ha : 0 < a) (hu : u < 4294967296) : Tri U u a b (U / a) (U % a) := by
  refine ⟨by rw [Nat.mul_comm]; exact Nat.div_add_mod U a, ?_⟩
  rw [Nat.le_div_iff_mul_le ha]
  have h1 : (U * 4294967296 + u) / (a * 4294967296 + b) ≤ (U * 4294967296 + u) / (a * 4294967296) := Nat.div_le_div_left (by omega) (by omega)
  have h2 : (U * 4294967296 + u) / (a * 4294967296) = U / a := by
    rw [Nat.mul_comm a, ← Nat.div_div_eq_div_mul]
    congr 1; omega
  rw [h2] at h1
  exact Nat.le_trans (Nat.mul_le_mul_right a h1) (Nat.div_mul_le_self U a)
theorem tri_lt (hU : U < a * 4294967296 + b) (hu : u < 4294967296) : (U * 4294967296 + u) / (a * 4294967296 + b) < 4294967296 := by
  rw [Nat.div_lt_iff_lt_mul (by omega)]; omega
theorem tri_down (h : Tri U u a b q r) (hU : U < a * 4294967296 + b) (hu : u < 4294967296) (ht : 4294967296 ≤ q ∨ 4294967296 * r + u < q * b) : 0 < q ∧ Tri U u a b (q - 1) (r + a) := by
  obtain ⟨h1, h2⟩ := h
  have hlt : (U * 4294967296 + u) / (a * 4294967296 + b) < q := by
    rcases ht with ht | ht
    · exact Nat.lt_of_lt_of_le (tri_lt hU hu) ht
    · rw [Nat.div_lt_iff_lt_mul (by omega)]
      have := tri_mul (b := b) h1
      generalize q * (a * 4294967296 + b) = Z at *
      omega
  have hq : 0 < q := Nat.lt_of_le_of_lt (Nat.zero_le _) hlt
  refine ⟨hq, ?_, Nat.le_sub_one_of_lt hlt⟩
  obtain ⟨p, rfl⟩ : ∃ p, q = p + 1 := ⟨q - 1, by omega⟩
  rw [Nat.add_sub_cancel]
  rw [Nat.add_mul] at h1
  omega
theorem tri_end (h : Tri U u a b q r) (hY : 0 < a * 4294967296 + b) (ht : q * b ≤ 4294967296 * r + u) : q = (U * 4294967296 + u) / (a * 4294967296 + b) := by
  obtain ⟨h1, h2⟩ := h
  refine Nat.le_antisymm ?_ h2
  rw [Nat.le_div_iff_mul_le hY]
  have := tri_mul (b := b) h1
  omega
theorem tri_break (h : Tri U u a b q r) (hY : 0 < a * 4294967296 + b) (hq : q ≤ 4294967296) (hb : b < 4294967296) (hr : 4294967296 ≤ r) : q = (U * 4294967296 + u) / (a * 4294967296 + b) := by
  refine tri_end h hY ?_
  have := Nat.mul_le_mul hq (show b ≤ 4294967295 by omega)
  omega
/-- The first trial digit is at most one too great for the base. -/
theorem tri_top (ha : 2147483648 ≤ a) (hb : b < 4294967296) (hU : U < a * 4294967296 + b) : U / a ≤ 4294967297 := by
  have : U / a < 4294967298 := by rw [Nat.div_lt_iff_lt_mul (by omega)]; omega
  omega
/-- A digit's rest. -/
theorem tri_rest (h : q = (U * 4294967296 + u) / (a * 4294967296 + b)) : U * 4294967296 + u = q * (a * 4294967296 + b) + (U * 4294967296 + u) % (a * 4294967296 + b) := by
  subst h; exact (Nat.div_add_mod' _ _).symm
/-- Two digits make the quotient. -/
theorem div_two {N Y q1 r1 : Nat} (hN : N / 18446744073709551616 * 4294967296 + N % 18446744073709551616 / 4294967296 = q1 * Y + r1) (hr : r1 < Y) : N / Y = q1 * 4294967296 + (r1 * 4294967296 + N % 4294967296) / Y := by
  have e : N = (q1 * Y + r1) * 4294967296 + N % 4294967296 := by rw [← hN]; omega
  have e2 : (q1 * Y + r1) * 4294967296 + N % 4294967296 = Y * (q1 * 4294967296) + (r1 * 4294967296 + N % 4294967296) := by
    rw [Nat.add_mul, Nat.mul_right_comm, Nat.mul_comm (q1 * 4294967296) Y]; omega
  conv => lhs; rw [e, e2]
  rw [Nat.mul_add_div (by omega)]
/-- The shift of both sides leaves the quotient. -/
theorem div_shift (hi lo y s : Nat) (_hy : 0 < y) : ((hi * 18446744073709551616 + lo) * 2 ^ s) / (y * 2 ^ s) = (hi * 18446744073709551616 + lo) / y := Nat.mul_div_mul_right _ _ (Nat.two_pow_pos s)
/-- The dividend, shifted: its upper and lower word. -/
theorem shift_words {hi lo s : Nat} (hs : s ≤ 64) (hl : lo < 18446744073709551616) :
    (hi * 18446744073709551616 + lo) * 2 ^ s / 18446744073709551616 = hi * 2 ^ s + lo / 2 ^ (64 - s) ∧ (hi * 18446744073709551616 + lo) * 2 ^ s % 18446744073709551616 = lo * 2 ^ s % 18446744073709551616 ∧ lo / 2 ^ (64 - s) < 2 ^ s := by
  have e : (hi * 18446744073709551616 + lo) * 2 ^ s = 18446744073709551616 * (hi * 2 ^ s) + lo * 2 ^ s := by
    rw [Nat.add_mul, Nat.mul_right_comm, Nat.mul_comm (hi * 2 ^ s)]
  have ep : (18446744073709551616 : Nat) = 2 ^ (64 - s) * 2 ^ s := by rw [← Nat.pow_add, Nat.sub_add_cancel hs]
  have e2 : lo * 2 ^ s / 18446744073709551616 = lo / 2 ^ (64 - s) := by
    rw [ep, Nat.mul_div_mul_right _ _ (Nat.two_pow_pos s)]
  refine ⟨?_, ?_, ?_⟩
  · rw [e, Nat.mul_add_div (by decide), e2]
  · rw [e, Nat.mul_add_mod]
  · rw [Nat.div_lt_iff_lt_mul (Nat.two_pow_pos _), Nat.mul_comm, ← ep]; exact hl
theorem or_add {x y s : Nat} (h : y < 2 ^ s) : (x * 2 ^ s) ||| y = x * 2 ^ s + y := by
  rw [← Nat.shiftLeft_eq, Nat.shiftLeft_add_eq_or_of_lt h]
end Go.Proofs.YtehjalgogjkdlaaDoor
