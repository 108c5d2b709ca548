/- Over any program with slices.SortStableFunc on ints: contract: the stable sort. Condition: up to a million elements. Plain: the theorem of the stage: shares come to the total, are the exact ones but for less than 1, and follow the weights. No condition. The library's contracts at this program: laid by the kit (lay-shelf.mjs, lay-plain.mjs), written by the tool for this seat. Chapter 54: contracts: amount, the comparison's closure, weighed. No condition. Chapter 54: contract: line of an invoice. No condition. -/
import Derived.Shelf.Small.Bits
import Derived.Shelf.Small.Wraps
import Derived.Shelf.Strconv.Itoa0
import Derived.Shelf.Strconv.Itoa1
import Derived.Shelf.LaysM
import Derived.Shelf.Strconv.Itoa2
import Derived.Shelf.Strconv.Itoa3
import Derived.Shelf.Sort.Plain
import Derived.Shelf.Bits.Mul64
import Derived.Ground.Names2Prog
import Derived.Shelf.Slices.Clone
import Derived.Shelf.Slices.CompactS
import Derived.Shelf.Slices.SearchI
import Derived.Shelf.Slices.Cells
import Derived.Shelf.Slices.In.SortNone
import Derived.Ground.SlgnProg
import Derived.Shelf.SlicesE.Clone
import Derived.Test.YtehjalgogjkdlaaGreatDoorProg
import Derived.Test.YtehjalgogjkdlaaGreatDoorZ06
import Derived.Test.YtehjalgogjkdlaaGreatDoorZ02
import Derived.Test.YtehjalgogjkdlaaGreatDoorZ01
import Derived.Test.YtehjalgogjkdlaaGreatDoorZ03
namespace Go.Proofs.YtehjalgogjkdlaaGreatDoor
set_option linter.unusedVariables false
set_option linter.unusedSimpArgs false
open Go.RowKit
variable {w w' : World} {b : Nat} {l : List Int} {K : Int → Int} {x y : Int}
theorem symm_any (cap N M rb : Nat) (hM : N ≤ 1000000) (n : Nat) : SymmOk K b cap N M rb n := by
  induction n with
  | zero => intro A L V B a m e w hn h ha hm he hN hL hV hI hR hc; omega
  | succ n ih =>
    intro A L V B a m e w hn h ha hm he hN hL hV hI hR hc
    by_cases h1 : L.length = 1
    · obtain ⟨x, rfl⟩ := List.length_eq_one_iff.1 h1
      have hm' : m = a + 1 := by simp at hm; omega
      subst hm'
      exact symm_left A V B x cap a e N M rb h ha he hN hM hI hR hc
    by_cases h2 : V.length = 1
    · obtain ⟨x, rfl⟩ := List.length_eq_one_iff.1 h2
      have he' : e = m + 1 := by simp at he; omega
      subst he'
      exact symm_right A L B x cap a m N M rb h ha hm hN hM (by omega) hI hR hc
    exact symm_step cap N M rb n hM ih A L V B a m e w hn h ha hm he hN (by omega) (by omega) hI hR hc
/-- The blocks that have been sorted, and what is left of the ascending list. -/
structure BlkI (K : Int → Int) (w : World) (b s : Nat) (X : List Int) (a : Nat) (D : List Int) : Prop where
  ib : IB w b (D ++ X.drop a)
  perm : D.Perm (X.take a)
  dn : Dn K s D
theorem asc_low {X : List Int} (h : X.Pairwise (· < ·)) (a : Nat) : Low (X.take a) (X.drop a) := fun x hx y hy => by
  have := (List.pairwise_append.1 (by rw [List.take_append_drop]; exact h : (X.take a ++ X.drop a).Pairwise (· < ·))).2.2
  exact this x hx y hy
/-- Sorted pieces of a length, in a block. -/
def ChkI (K : Int → Int) (w : World) (b s : Nat) (X : List Int) : Prop := ∃ l, IB w b l ∧ l.Perm X ∧ Chk K s l
theorem BlkI.last {X D Y B : List Int} {a s : Nat} (h : BlkI K w b s X a D) (hX : X.Pairwise (· < ·)) (i : IB w' b (D ++ Y ++ B)) (hB : B = []) (p : Y.Perm (X.drop a)) (hs : Srt K Y) (hl : Y.length ≤ s) : ChkI K w' b s X := by
  subst hB
  refine ⟨D ++ Y, by simpa using i, ?_, h.dn Y (Low.perm (asc_low hX a) h.perm p) (.last Y hl hs)⟩
  have := h.perm.append p
  rwa [List.take_append_drop] at this
/-- A round of merges: what is done, and what is left. -/
structure MgI (K : Int → Int) (w : World) (b s : Nat) (X D Z : List Int) : Prop where
  ib : IB w b (D ++ Z)
  perm : (D ++ Z).Perm X
  dn : Dn K (2 * s) D
  chk : Chk K s Z
  low : Low D Z
theorem MgI.next {s : Nat} {X D L R E Y : List Int} (h : MgI K w b s X D (L ++ R ++ E)) (h1 : Low (L ++ R) E) (h2 : Chk K s E) (i : IB w' b (D ++ Y ++ E)) (p : Y.Perm (L ++ R)) (hs : Srt K Y) (hl : (L ++ R).length = 2 * s) : MgI K w' b s X (D ++ Y) E := by
  have hlow := h.low
  obtain ⟨q1, q2⟩ := low_append_r.1 hlow
  refine ⟨i, ?_, h.dn.snoc (by rw [p.length_eq]; exact hl) hs (q1.perm (List.Perm.refl _) p), h2, low_append_l.2 ⟨q2, h1.perm p (List.Perm.refl _)⟩⟩
  have e : D ++ Y ++ E = D ++ (Y ++ E) := by simp
  rw [e]
  exact ((p.append_right E).append_left D).trans h.perm
theorem MgI.last {s : Nat} {X D Z Y : List Int} (h : MgI K w b s X D Z) (i : IB w' b (D ++ Y)) (p : Y.Perm Z) (hs : Srt K Y) (hl : Z.length ≤ 2 * s) : ChkI K w' b (2 * s) X :=
  ⟨D ++ Y, i, (p.append_left D).trans h.perm, h.dn Y (h.low.perm (List.Perm.refl _) p) (.last Y (by rw [p.length_eq]; exact hl) hs)⟩
set_option maxHeartbeats 8000000 in
set_option maxRecDepth 100000 in
theorem stbf_any (X : List Int) (cap N M rb : Nat) (h : IB w b X) (hN : X.length = N) (hM : N ≤ 100000) (hX : X.Pairwise (· < ·)) (hR : InR M X) (hc : CmpOk w b M K rb) :
    Calls Tryz.prog 60 #[.slice (some ⟨b, 0, none⟩) N cap, .int .i64 N, .func (.func 28) #[] #[.pointer (some ⟨rb, 0, none⟩)]] w fun r w' => r = .returned (.tuple #[]) ∧ (∃ Y : List Int, IB w' b Y ∧ Y.Perm X ∧ Srt K Y) ∧ Chg [b] w w' := by
  have HI := Lib.hid h
  have HN := Lib.hid hN
  have HX := Lib.hid hX
  have HR := Lib.hid hR
  have HC := Lib.hid hc
  have hS := fun (w1 : World) (hcw : Chg [b] w w1) (A Z B : List Int) (a e : Nat) (i1 : IB w1 b (A ++ Z ++ B)) (i2 : A.length = a) (i3 : a + Z.length = e) (i4 : e + B.length = N) (i5 : Z.Pairwise (· < ·)) (i6 : InR M Z) =>
    insc_any A Z B cap a e N M rb i1 i2 i3 i4 (by omega) i5 i6 (hc.on hcw)
  have IS := Lib.hid hS
  clear h hN hX hR hc hS
  go_enter Tryz.func60, Tryz.ntmps60
  go_wp2_with fail
  go_loopw [7, 8] (fun av bv wr => ∃ a : Nat, av = .int .i64 a ∧ bv = .int .i64 (a + 20 : Nat) ∧ a ≤ N ∧ Hid (∃ D, BlkI K wr b 20 X a D) ∧ Hid (Chg [b] w wr)) (fun av _ _ => N - (intOf av).toNat)
  case atStart => exact ⟨0, rfl, rfl, by omega, Lib.hid ⟨[], by simpa using HI.out, by simp, Dn.nil⟩, Lib.hid (Chg.refl _ _)⟩
  case round =>
    obtain ⟨a, rfl, rfl, ha, HD, HC1⟩ := hrel
    obtain ⟨D, d1, d2, d3⟩ := HD.out
    by_cases hk : a + 20 ≤ N
    · have e1 : X.drop a = (X.drop a).take 20 ++ X.drop (a + 20) := by rw [← List.drop_drop, List.take_append_drop]
      have F := Lib.hid (IS.out wr HC1.out D ((X.drop a).take 20) (X.drop (a + 20)) a (a + 20) (by rw [List.append_assoc, ← e1]; exact d1) (by rw [d2.length_eq, List.length_take, HN.out]; omega) (by simp [HN.out]; omega) (by simp [HN.out]; omega) ((HX.out.sublist (List.drop_sublist _ _)).sublist (List.take_sublist _ _)) (HR.out.sub fun x hx => List.mem_of_mem_drop (List.mem_of_mem_take hx)))
      have HN2 := Lib.hid (show ∀ (w1 : World), (∃ Y : List Int, IB w1 b (D ++ Y ++ X.drop (a + 20)) ∧ Y.Perm ((X.drop a).take 20) ∧ Srt K Y) → ∃ D, BlkI K w1 b 20 X (a + 20) D from fun w1 ⟨Y, y1, y2, y3⟩ => by
        refine ⟨D ++ Y, by simpa only [List.append_assoc] using y1, ?_, ?_⟩
        · rw [List.take_add]; exact d2.append y2
        · refine d3.snoc (by rw [y2.length_eq]; simp [HN.out]; omega) y3 ?_
          exact fun u hu v hv => asc_low HX.out a u (d2.mem_iff.1 hu) v (List.mem_of_mem_take (y2.mem_iff.1 hv)))
      have hk2 : ((a + 20 : Nat) : Int) ≤ (N : Int) := by omega
      clear d1 d2 d3 e1 HD
      go_wp2_with fail
      refine F.out.mono ?_; rintro r w1 ⟨rfl, h8, h9⟩
      have I2 := Lib.hid (HN2.out w1 h8)
      have C2 := Lib.hid (HC1.out.thenSame h9)
      clear h8 h9 F
      go_wp2_with fail
      exact ⟨⟨a + 20, rfl, by go_num, hk, I2, C2⟩, by simp [intOf]; omega⟩
    · have F := Lib.hid (IS.out wr HC1.out D (X.drop a) [] a N (by simpa using d1) (by rw [d2.length_eq, List.length_take, HN.out]; omega) (by simp [HN.out]; omega) (by simp) (HX.out.sublist (List.drop_sublist _ _)) (HR.out.sub fun x hx => List.mem_of_mem_drop hx))
      have HN2 := Lib.hid (show ∀ (w1 : World), (∃ Y : List Int, IB w1 b (D ++ Y ++ []) ∧ Y.Perm (X.drop a) ∧ Srt K Y) → ChkI K w1 b 20 X from fun w1 ⟨Y, y1, y2, y3⟩ =>
        BlkI.last ⟨d1, d2, d3⟩ HX.out y1 rfl y2 y3 (by rw [y2.length_eq]; simp [HN.out]; omega))
      have hk2 : ¬ ((a + 20 : Nat) : Int) ≤ (N : Int) := by omega
      clear d1 d2 d3 HD
      go_wp2_with fail
      refine F.out.mono ?_; rintro r w1 ⟨rfl, h8, h9⟩
      have I2 := Lib.hid (HN2.out w1 h8)
      have C2 := Lib.hid (HC1.out.thenSame h9)
      clear h8 h9 F HN2 hk hk2 HC1
      go_wp2_with fail
      go_loopw [6] (fun sv wr => ∃ s : Nat, sv = .int .i64 s ∧ 20 ≤ s ∧ s ≤ 200000 ∧ Hid (ChkI K wr b s X) ∧ Hid (Chg [b] w wr)) (fun sv _ => N - (intOf sv).toNat)
      case atStart => exact ⟨20, rfl, by omega, by omega, I2, C2⟩
      case round =>
        obtain ⟨s, rfl, hs1, hs2, HS, HC2⟩ := hrel
        by_cases hsn : s < N
        · have hsn2 : (s : Int) < (N : Int) := by omega
          have M0 := Lib.hid (show ∃ D Z, MgI K wr b s X D Z ∧ D.length = 0 from by
            obtain ⟨l, s1, s2, s3⟩ := HS.out
            exact ⟨[], l, ⟨by simpa using s1, by simpa using s2, Dn.nil, s3, fun _ h => nomatch h⟩, rfl⟩)
          have Z2 := Lib.hid (show (2 : Int) * s = ((2 * s : Nat) : Int) by omega)
          have Z3 := Lib.hid (show (s : Int) * 2 = ((2 * s : Nat) : Int) by omega)
          obtain ⟨s2, es2⟩ : ∃ s2, s2 = 2 * s := ⟨_, rfl⟩
          rw [← es2] at Z2 Z3
          have ES2 := Lib.hid es2
          have hs3 : s2 ≤ 200000 := by omega
          clear es2 HS I2 C2
          go_wp2_with fail
          rw [Z2.out]
          go_loopw [7, 8] (fun av bv wr => ∃ a : Nat, av = .int .i64 a ∧ bv = .int .i64 (a + s2 : Nat) ∧ a ≤ N ∧ Hid (∃ D Z, MgI K wr b s X D Z ∧ D.length = a) ∧ Hid (Chg [b] w wr)) (fun av _ _ => N - (intOf av).toNat)
          case atStart => exact ⟨0, rfl, by simp, by omega, M0, HC2⟩
          case round =>
            obtain ⟨c, rfl, rfl, hcn, HM2, HC3⟩ := hrel
            obtain ⟨D, Z, m1, m2⟩ := HM2.out
            have hlen : c + Z.length = N := by have := m1.perm.length_eq; rw [HN.out] at this; simp at this; omega
            have hmem : ∀ x ∈ Z, 0 ≤ x ∧ x < M := fun x hx => HR.out x (m1.perm.mem_iff.1 (by simp [hx]))
            by_cases hk : c + s2 ≤ N
            · obtain ⟨L, R, E, rfl, l1, l2, l3, l4, l5, l6, l7, l8, -⟩ := m1.chk.two (by have := ES2.out; omega)
              have l8' := l8 (by have := ES2.out; omega)
              simp only [List.length_append] at hlen
              have F := Lib.hid (symm_any cap N M rb (by omega) N D L R E c (c + s) (c + s2) wr (by omega) (by have := m1.ib; simpa only [List.append_assoc] using this) m2 (by omega) (by have := ES2.out; omega) (by have := ES2.out; omega) (by omega) (by omega) ⟨l3, l4, l5⟩ (fun x hx => hmem x (by simp only [List.mem_append] at hx ⊢; exact Or.inl hx)) (HC.out.on HC3.out))
              have HN3 := Lib.hid (show ∀ w1, MrgTo K w1 b D L R E → ∃ D Z, MgI K w1 b s X D Z ∧ D.length = c + s2 from fun w1 ⟨Y, y1, y2, y3⟩ =>
                ⟨D ++ Y, E, m1.next l6 l7 y1 y2 y3 (by simp; omega), by have := y2.length_eq; have := ES2.out; simp at *; omega⟩)
              have hk2 : (c : Int) + (s2 : Int) ≤ (N : Int) := by omega
              simp only [Int.natCast_add] at F
              clear m1 m2 hlen hmem l1 l2 l3 l4 l5 l6 l7 l8 l8' HM2 M0
              go_wp2_with fail
              refine F.out.mono ?_; rintro r w2 ⟨rfl, h8, h9⟩
              have I3 := Lib.hid (HN3.out w2 h8)
              have C3 := Lib.hid (HC3.out.thenSame h9)
              clear h8 h9 F HN3
              go_wp2_with fail
              rw [Z2.out]
              exact ⟨⟨c + s2, by simp, by go_num, by omega, I3, C3⟩, by have := ES2.out; simp [intOf]; omega⟩
            · have hk2 : ¬ (c : Int) + (s2 : Int) ≤ (N : Int) := by omega
              by_cases hm : c + s < N
              · obtain ⟨L, R, E, rfl, l1, l2, l3, l4, l5, l6, l7, -, l9⟩ := m1.chk.two (by omega)
                have hE := l9 (by have := ES2.out; omega)
                subst hE
                simp only [List.length_append, List.length_nil] at hlen
                have F := Lib.hid (symm_any cap N M rb (by omega) N D L R [] c (c + s) N wr (by omega) (by have := m1.ib; simpa only [List.append_assoc] using this) m2 (by omega) (by omega) (by simp) (by omega) (by omega) ⟨l3, l4, l5⟩ (fun x hx => hmem x (by simp only [List.mem_append] at hx ⊢; exact Or.inl hx)) (HC.out.on HC3.out))
                have HN3 := Lib.hid (show ∀ w1, MrgTo K w1 b D L R [] → ChkI K w1 b s2 X from fun w1 ⟨Y, y1, y2, y3⟩ => by
                  rw [ES2.out]
                  exact m1.last (by simpa using y1) (by simpa using y2) y3 (by have := ES2.out; simp; omega))
                have hm2 : (c : Int) + (s : Int) < (N : Int) := by omega
                simp only [Int.natCast_add] at F
                clear m1 m2 hlen hmem l1 l2 l3 l4 l5 l6 l7 l9 HM2 M0
                go_wp2_with fail
                refine F.out.mono ?_; rintro r w2 ⟨rfl, h8, h9⟩
                have I3 := Lib.hid (HN3.out w2 h8)
                have C3 := Lib.hid (HC3.out.thenSame h9)
                clear h8 h9 F HN3
                go_wp2_with fail
                rw [Z3.out]
                exact ⟨⟨s2, rfl, by have := ES2.out; omega, hs3, I3, C3⟩, by have := ES2.out; simp [intOf]; omega⟩
              · have I3 := Lib.hid (show ChkI K wr b s2 X from by
                  rw [ES2.out]
                  exact m1.last m1.ib (List.Perm.refl _) (m1.chk.short (by omega)) (by omega))
                have hm2 : ¬ (c : Int) + (s : Int) < (N : Int) := by omega
                clear m1 m2 hlen hmem HM2 M0 hm hk
                go_wp2_with fail
                rw [Z3.out]
                exact ⟨⟨s2, rfl, by have := ES2.out; omega, hs3, I3, HC3⟩, by have := ES2.out; simp [intOf]; omega⟩
        · have hsn2 : ¬ (s : Int) < (N : Int) := by omega
          have HF := Lib.hid (show ∃ Y : List Int, IB wr b Y ∧ Y.Perm X ∧ Srt K Y from by
            obtain ⟨l, s1, s2, s3⟩ := HS.out
            exact ⟨l, s1, s2, s3.short (by rw [s2.length_eq, HN.out]; omega)⟩)
          clear hsn
          go_wp2_with fail
          go_end0
          exact ⟨rfl, HF.out, HC2.out⟩
set_option maxHeartbeats 2000000 in
theorem sstf_any (X : List Int) (cap N M rb : Nat) (h : IB w b X) (hN : X.length = N) (hM : N ≤ 100000) (hX : X.Pairwise (· < ·)) (hR : InR M X) (hc : CmpOk w b M K rb) :
    Calls Tryz.prog 27 #[.slice (some ⟨b, 0, none⟩) N cap, .func (.func 28) #[] #[.pointer (some ⟨rb, 0, none⟩)]] w fun r w' => r = .returned (.tuple #[]) ∧ (∃ Y : List Int, IB w' b Y ∧ Y.Perm X ∧ Srt K Y) ∧ Chg [b] w w' := by
  have F := Lib.hid (stbf_any X cap N M rb h hN hM hX hR hc)
  clear h hN hX hR hc
  go_enter Tryz.func27, Tryz.ntmps27
  go_wp2_with fail
  refine F.out.mono ?_; rintro r w2 ⟨rfl, h8, h9⟩
  have I3 := Lib.hid h8
  have C3 := Lib.hid h9
  clear h8 h9 F
  go_wp2_with fail
  go_end0
  exact ⟨rfl, I3.out, C3.out⟩
end Go.Proofs.YtehjalgogjkdlaaGreatDoor

namespace Go.Proofs.YtehjalgogjkdlaaGreatDoor
set_option linter.unusedVariables false
set_option linter.unusedSimpArgs false
open Go.RowKit
variable {t S : Int} {W V Q R O : List Int}
theorem sum_set {l : List Int} {i : Nat} (h : i < l.length) (x : Int) : (l.set i x).sum = l.sum + (x - l.getD i 0) := by
  induction l generalizing i with
  | nil => simp at h
  | cons v l ih =>
    cases i with
    | zero => simp only [List.set_cons_zero, List.sum_cons, List.getD_cons_zero]; omega
    | succ i =>
      simp only [List.set_cons_succ, List.sum_cons, List.getD_cons_succ]
      rw [ih (by simpa using h)]; omega
theorem bump_sum (hr : ∀ i ∈ O, 0 ≤ i ∧ i < Q.length) : (bump Q O).sum = Q.sum + O.length := by
  unfold bump
  induction O generalizing Q with
  | nil => simp
  | cons i O ih =>
    have h0 := hr i (by simp)
    rw [List.foldl_cons, ih (fun x hx => by rw [List.length_set]; exact hr x (by simp [hx])), sum_set (by omega)]
    simp only [List.length_cons]; omega
theorem IsOrd.pick (h : IsOrd R O) {m i k : Nat} (hi : i < R.length) (hk : k < R.length) (hp : Prec (keyOf R) (k : Int) (i : Int)) (hm : (i : Int) ∈ O.take m) : (k : Int) ∈ O.take m := by
  obtain ⟨a, ha, ea⟩ := List.mem_iff_getElem.1 (h.mem hi)
  obtain ⟨c, hc, ec⟩ := List.mem_iff_getElem.1 (h.mem hk)
  obtain ⟨a', ha', ea'⟩ := List.mem_iff_getElem.1 hm
  simp only [List.length_take] at ha'
  rw [List.getElem_take] at ea'
  have haa : a = a' := by
    rcases Nat.lt_trichotomy a a' with q | q | q
    · exact (List.pairwise_iff_getElem.1 h.nodup a a' ha (by omega) q (ea.trans ea'.symm)).elim
    · exact q
    · exact (List.pairwise_iff_getElem.1 h.nodup a' a (by omega) ha q (ea'.trans ea.symm)).elim
  subst haa
  have hca : c < a := by
    rcases Nat.lt_trichotomy c a with q | q | q
    · exact q
    · subst q; rw [ec] at ea; have : k = i := by omega
      subst this; exact (hp.asymm hp).elim
    · have := List.pairwise_iff_getElem.1 h.srt a c ha hc q
      rw [ea, ec] at this
      exact (this.asymm hp).elim
  exact List.mem_iff_getElem.2 ⟨c, by simp; omega, by rw [List.getElem_take]; exact ec⟩
theorem key_at {t : Int} {j : Nat} (hj : j < W.length) : keyOf (shR t W) (j : Int) = rst t (effS W) ((effW W).getD j 0) := by
  unfold keyOf shR
  rw [Int.toNat_natCast, List.getD_eq_getElem?_getD, List.getD_eq_getElem?_getD, List.getElem?_map, List.getElem?_eq_getElem (by rw [effW_len]; exact hj)]
  rfl
theorem quo_at {t : Int} {j : Nat} (hj : j < W.length) : (shQ t W).getD j 0 = quo t (effS W) ((effW W).getD j 0) := by
  unfold shQ
  rw [List.getD_eq_getElem?_getD, List.getD_eq_getElem?_getD, List.getElem?_map, List.getElem?_eq_getElem (by rw [effW_len]; exact hj)]
  rfl
theorem eff_at {j : Nat} (hj : j < W.length) : (effW W).getD j 0 = if W.sum = 0 then 1 else W.getD j 0 := by
  unfold effW
  split
  · rw [List.getD_eq_getElem?_getD, List.getElem?_map, List.getElem?_eq_getElem hj]; rfl
  · rfl
theorem shR_pos (hS : 0 < effS W) : ∀ x ∈ shR t W, 0 ≤ x ∧ x < effS W := by
  intro x hx
  obtain ⟨v, _, rfl⟩ := List.mem_map.1 hx
  exact ⟨Int.emod_nonneg _ (by omega), Int.emod_lt_of_pos _ hS⟩
/-- The shares. -/
def shares (t : Int) (W O : List Int) : List Int := bump (shQ t W) (O.take (leftOf t W).toNat)
theorem shares_len : (shares t W O).length = W.length := by unfold shares; rw [bump_len, shQ_len]
theorem IsOrd.shares_at (h : IsOrd (shR t W) O) {j : Nat} (hj : j < W.length) :
    (shares t W O).getD j 0 = quo t (effS W) ((effW W).getD j 0) + (if (j : Int) ∈ O.take (leftOf t W).toNat then 1 else 0) := by
  unfold shares
  rw [bump_at (h.nodup.sublist (List.take_sublist _ _)) (fun i hi => (h.range i (List.mem_of_mem_take hi)).1) j (by rw [shQ_len]; exact hj), quo_at hj]
theorem IsOrd.shares_sum (h : IsOrd (shR t W) O) (hW : ∀ w ∈ W, 0 ≤ w) (hn : W = [] → t = 0) : (shares t W O).sum = t := by
  obtain ⟨h1, h2⟩ := left_bounds hW hn
  unfold shares
  rw [bump_sum (fun i hi => by have := h.range i (List.mem_of_mem_take hi); rw [shR_len] at this; rw [shQ_len]; exact this), List.length_take, h.len, shR_len, Nat.min_eq_left (by omega)]
  unfold leftOf at *
  omega
theorem IsOrd.shares_exact (h : IsOrd (shR t W) O) (hW : ∀ w ∈ W, 0 ≤ w) (hn : W = [] → t = 0) {j : Nat} (hj : j < W.length) (h0 : rst t (effS W) ((effW W).getD j 0) = 0) : ¬ (j : Int) ∈ O.take (leftOf t W).toNat := by
  obtain ⟨h1, h2⟩ := left_bounds hW hn
  have hS := effS_pos hW (by rintro rfl; simp at hj)
  intro hm
  obtain ⟨k, hk, e⟩ := List.mem_iff_getElem.1 hm
  simp only [List.length_take] at hk
  rw [List.getElem_take] at e
  have := h.rest_pos (m := (leftOf t W).toNat) hS (shR_pos hS) (by rw [Int.toNat_of_nonneg h1]; exact left_law) (k := k) (by omega) (by omega)
  rw [e, key_at hj, h0] at this
  exact Int.lt_irrefl _ this
theorem quo_mono {u v : Int} (hS : 0 < S) (ht : 0 ≤ t) (h : u ≤ v) : quo t S u < quo t S v ∨ (quo t S u = quo t S v ∧ rst t S u ≤ rst t S v ∧ (rst t S u = rst t S v → t * u = t * v)) := by
  have h1 : t * u ≤ t * v := Int.mul_le_mul_of_nonneg_left h ht
  have h2 := Int.ediv_le_ediv hS h1
  have a := Int.mul_ediv_add_emod (t * u) S
  have b := Int.mul_ediv_add_emod (t * v) S
  unfold quo rst
  rcases Int.lt_or_eq_of_le h2 with q | q
  · exact Or.inl q
  · rw [q] at a ⊢
    exact Or.inr ⟨rfl, by omega, by omega⟩
/-- A greater weight has no smaller share. -/
theorem IsOrd.shares_mono (h : IsOrd (shR t W) O) (ht : 0 ≤ t) (hW : ∀ w ∈ W, 0 ≤ w) (hn : W = [] → t = 0) {i k : Nat} (hi : i < W.length) (hk : k < W.length) (hw : W.getD i 0 < W.getD k 0 ∨ (W.getD i 0 = W.getD k 0 ∧ k < i)) :
    (shares t W O).getD i 0 ≤ (shares t W O).getD k 0 := by
  have hS := effS_pos hW (by rintro rfl; simp at hi)
  rw [h.shares_at hi, h.shares_at hk]
  have he : (effW W).getD i 0 ≤ (effW W).getD k 0 := by
    rw [eff_at hi, eff_at hk]
    split <;> omega
  rcases quo_mono hS ht he with q | ⟨q1, q2, q3⟩
  · split <;> split <;> omega
  · rw [q1]
    by_cases hp : (i : Int) ∈ O.take (leftOf t W).toNat
    · have hpk : (k : Int) ∈ O.take (leftOf t W).toNat := by
        refine h.pick (i := i) (by rw [shR_len]; exact hi) (by rw [shR_len]; exact hk) ?_ hp
        unfold Prec
        rw [key_at hi, key_at hk]
        by_cases hr : rst t (effS W) ((effW W).getD i 0) = rst t (effS W) ((effW W).getD k 0)
        · right
          refine ⟨hr, ?_⟩
          rcases hw with hw | ⟨_, hw⟩
          · exfalso
            have hsum : W.sum ≠ 0 := by
              intro e
              have hkm : W.getD k 0 ∈ W := by rw [List.getD_eq_getElem?_getD, List.getElem?_eq_getElem hk]; exact List.getElem_mem hk
              have him : W.getD i 0 ∈ W := by rw [List.getD_eq_getElem?_getD, List.getElem?_eq_getElem hi]; exact List.getElem_mem hi
              have h1 := mem_le_sum hW hkm
              have h2 := hW _ him
              omega
            have e := q3 hr
            rw [eff_at hi, eff_at hk, if_neg hsum, if_neg hsum] at e
            have ht0 : t = 0 := by
              refine Int.le_antisymm (Int.not_lt.1 fun hlt => ?_) ht
              have := Int.mul_lt_mul_of_pos_left hw hlt
              omega
            have hl : (leftOf t W).toNat = 0 := by
              have := left_law (t := t) (W := W)
              have hz : (shR t W).sum = 0 := by
                unfold shR
                rw [ht0]
                have : ∀ V : List Int, (V.map (rst 0 (effS W))).sum = 0 := by
                  intro V
                  induction V with
                  | nil => rfl
                  | cons v V ih => simp only [List.map_cons, List.sum_cons, ih, rst]; simp
                exact this _
              rw [hz] at this
              rcases Int.mul_eq_zero.1 this with q | q <;> omega
            rw [hl] at hp
            simp at hp
          · omega
        · left; omega
      rw [if_pos hp, if_pos hpk]
      omega
    · rw [if_neg hp]; split <;> omega
end Go.Proofs.YtehjalgogjkdlaaGreatDoor

/-
  DERIVED: THE SHELF's CONTRACTS AT THIS DUMP, IN PLAIN WORDS (tools/lay-plain.mjs out of 'TryzShelf.lean', which tools/lay-shelf.mjs wrote): THE SAME DECLARATIONS UNDER THE SAME NAMES: 'import', 'namespace', 'open', 'def', 'theorem' AND NOTHING ELSE: no command of the shelf's: FOR A HAND-IN. Each laying: the table of numbers ('.._ren') and one theorem, a field a fact of the dump's own or the kernel's comparison; each contract: ONE APPLICATION.
-/
namespace Go.Proofs
open Go.Shelf
def Tryz.lays128_ren : Go.Shelf.Ren := ⟨fun | 128 => 122 | n => n, fun | 51 => 150 | 3 => 3 | 4 => 4 | 46 => 127 | 5 => 5 | 9 => 9 | n => n, fun | n => n⟩
theorem Tryz.lays128 : Go.Proofs.Lays.n128 Tryz.prog Tryz.lays128_ren := {
  mixed := by kernel_rfl
  f128 := Tryz.func122.trans (congrArg some (by kernel_rfl))
  t3 := Tryz.underlying3
  a3 := Tryz.isAgg3
  z3 := Tryz.sizeOf3
  v3 := Tryz.zeroValue3
  t4 := Tryz.underlying4
  a4 := Tryz.isAgg4
  z4 := Tryz.sizeOf4
  v4 := Tryz.zeroValue4
  t5 := Tryz.underlying5
  a5 := Tryz.isAgg5
  z5 := Tryz.sizeOf5
  v5 := Tryz.zeroValue5
  t9 := Tryz.underlying9
  a9 := Tryz.isAgg9
  z9 := Tryz.sizeOf9
  v9 := Tryz.zeroValue9
  t46 := Tryz.underlying127
  a46 := Tryz.isAgg127
  z46 := Tryz.sizeOf127
  v46 := Tryz.zeroValue127
  t51 := Tryz.underlying150
  a51 := Tryz.isAgg150
  z51 := Tryz.sizeOf150
  v51 := Tryz.zeroValue150 }
/-- bits.Len32: "Len32 returns the minimum number of bits required to represent x; the result is 0 for x == 0.": IT RETURNS 'Lib.bitLen x'; the world is as it was. ('h0', 'h1': x is a uint32.) (LAID: no walk: one application.) -/
theorem Tryz.bits_Len32 (x : Int) (w : World) (h0 : 0 ≤ x) (h1 : x ≤ 4294967295) :
    Calls Tryz.prog 122 #[.int .u32 x] w fun e w' => e = .returned (.int .i64 (Lib.bitLen x.toNat)) ∧ w' = w := Any.bits_Len32 Tryz.lays128 x w h0 h1
def Tryz.lays125_ren : Go.Shelf.Ren := ⟨fun | 125 => 103 | 128 => 122 | 129 => 108 | n => n, fun | 46 => 127 | 3 => 3 | 51 => 150 | 53 => 61 | 4 => 4 | 5 => 5 | 9 => 9 | n => n, fun | n => n⟩
theorem Tryz.lays125 : Go.Proofs.Lays.n125 Tryz.prog Tryz.lays125_ren := {
  mixed := by kernel_rfl
  f125 := Tryz.func103.trans (congrArg some (by kernel_rfl))
  f128 := Tryz.func122.trans (congrArg some (by kernel_rfl))
  f129 := Tryz.func108.trans (congrArg some (by kernel_rfl))
  t3 := Tryz.underlying3
  a3 := Tryz.isAgg3
  z3 := Tryz.sizeOf3
  v3 := Tryz.zeroValue3
  t4 := Tryz.underlying4
  a4 := Tryz.isAgg4
  z4 := Tryz.sizeOf4
  v4 := Tryz.zeroValue4
  t5 := Tryz.underlying5
  a5 := Tryz.isAgg5
  z5 := Tryz.sizeOf5
  v5 := Tryz.zeroValue5
  t9 := Tryz.underlying9
  a9 := Tryz.isAgg9
  z9 := Tryz.sizeOf9
  v9 := Tryz.zeroValue9
  t46 := Tryz.underlying127
  a46 := Tryz.isAgg127
  z46 := Tryz.sizeOf127
  v46 := Tryz.zeroValue127
  t51 := Tryz.underlying150
  a51 := Tryz.isAgg150
  z51 := Tryz.sizeOf150
  v51 := Tryz.zeroValue150
  t53 := Tryz.underlying61
  a53 := Tryz.isAgg61
  z53 := Tryz.sizeOf61
  v53 := Tryz.zeroValue61 }
/-- bits.Len: "Len returns the minimum number of bits required to represent x; the result is 0 for x == 0.": IT RETURNS 'Lib.bitLen x'; the world is as it was. (A uint has 64 bits in the model.) ITS CALLEE bits.Len64 IS MET BY ITS OWN CONTRACT OFF THE SHELF (lay that first). (LAID: no walk: one application.) -/
theorem Tryz.bits_Len (x : Int) (w : World) (h0 : 0 ≤ x) (h1 : x ≤ 18446744073709551615) :
    Calls Tryz.prog 103 #[.int .u64 x] w fun e w' => e = .returned (.int .i64 (Lib.bitLen x.toNat)) ∧ w' = w := Any.bits_Len Tryz.lays125 x w h0 h1
def Tryz.lays134_ren : Go.Shelf.Ren := ⟨fun | 134 => 93 | 129 => 108 | n => n, fun | 53 => 61 | 3 => 3 | 4 => 4 | 46 => 127 | 5 => 5 | 9 => 9 | n => n, fun | n => n⟩
theorem Tryz.lays134 : Go.Proofs.Lays.n134 Tryz.prog Tryz.lays134_ren := {
  mixed := by kernel_rfl
  f129 := Tryz.func108.trans (congrArg some (by kernel_rfl))
  f134 := Tryz.func93.trans (congrArg some (by kernel_rfl))
  t3 := Tryz.underlying3
  a3 := Tryz.isAgg3
  z3 := Tryz.sizeOf3
  v3 := Tryz.zeroValue3
  t4 := Tryz.underlying4
  a4 := Tryz.isAgg4
  z4 := Tryz.sizeOf4
  v4 := Tryz.zeroValue4
  t5 := Tryz.underlying5
  a5 := Tryz.isAgg5
  z5 := Tryz.sizeOf5
  v5 := Tryz.zeroValue5
  t9 := Tryz.underlying9
  a9 := Tryz.isAgg9
  z9 := Tryz.sizeOf9
  v9 := Tryz.zeroValue9
  t46 := Tryz.underlying127
  a46 := Tryz.isAgg127
  z46 := Tryz.sizeOf127
  v46 := Tryz.zeroValue127
  t53 := Tryz.underlying61
  a53 := Tryz.isAgg61
  z53 := Tryz.sizeOf61
  v53 := Tryz.zeroValue61 }
/-- bits.LeadingZeros64: "LeadingZeros64 returns the number of leading zero bits in x; the result is 64 for x == 0.": IT RETURNS '64 - Lib.bitLen x'; the world is as it was. ITS CALLEE bits.Len64 IS MET BY ITS OWN CONTRACT OFF THE SHELF (lay that first): entered in place it sends the kernel out of memory. (LAID: no walk: one application.) -/
theorem Tryz.bits_LeadingZeros64 (x : Int) (w : World) (h0 : 0 ≤ x) (h1 : x ≤ 18446744073709551615) :
    Calls Tryz.prog 93 #[.int .u64 x] w fun e w' => e = .returned (.int .i64 (64 - (Lib.bitLen x.toNat : Int))) ∧ w' = w := Any.bits_LeadingZeros64 Tryz.lays134 x w h0 h1
def Tryz.lays215_ren : Go.Shelf.Ren := ⟨fun | 215 => 61 | n => n, fun | 3 => 3 | 4 => 4 | n => n, fun | n => n⟩
theorem Tryz.lays215 : Go.Proofs.Lays.n215 Tryz.prog Tryz.lays215_ren := {
  mixed := by kernel_rfl
  f215 := Tryz.func61.trans (congrArg some (by kernel_rfl))
  t3 := Tryz.underlying3
  a3 := Tryz.isAgg3
  z3 := Tryz.sizeOf3
  v3 := Tryz.zeroValue3
  t4 := Tryz.underlying4
  a4 := Tryz.isAgg4
  z4 := Tryz.sizeOf4
  v4 := Tryz.zeroValue4 }
open Go.RowKit in
/-- cmp.isNaN at int: 'x != x': false. (LAID: no walk: one application.) -/
theorem Tryz.cmp_isNaN_int (x : Int) (w : World) :
    Calls Tryz.prog 61 #[.int .i64 x] w fun e w' => e = .returned (.bool false) ∧ w' = w := Any.cmp_isNaN_int Tryz.lays215 x w
def Tryz.lays122_ren : Go.Shelf.Ren := ⟨fun | 122 => 29 | 215 => 61 | n => n, fun | 3 => 3 | 4 => 4 | n => n, fun | n => n⟩
theorem Tryz.lays122 : Go.Proofs.Lays.n122 Tryz.prog Tryz.lays122_ren := {
  mixed := by kernel_rfl
  f122 := Tryz.func29.trans (congrArg some (by kernel_rfl))
  f215 := Tryz.func61.trans (congrArg some (by kernel_rfl))
  t3 := Tryz.underlying3
  a3 := Tryz.isAgg3
  z3 := Tryz.sizeOf3
  v3 := Tryz.zeroValue3
  t4 := Tryz.underlying4
  a4 := Tryz.isAgg4
  z4 := Tryz.sizeOf4
  v4 := Tryz.zeroValue4 }
open Go.RowKit in
/-- cmp.Compare at int: "Compare returns -1 if x is less than y, 0 if x equals y, +1 if x is greater than y.": IT RETURNS 'Lib.compareInt x y'; the world is as it was. (LAID: no walk: one application.) -/
theorem Tryz.cmp_Compare_int (x y : Int) (w : World) :
    Calls Tryz.prog 29 #[.int .i64 x, .int .i64 y] w fun e w' => e = .returned (.int .i64 (Lib.compareInt x y)) ∧ w' = w := Any.cmp_Compare_int Tryz.lays122 x y w
def Tryz.lays129_ren : Go.Shelf.Ren := ⟨fun | 129 => 108 | n => n, fun | 53 => 61 | 3 => 3 | 4 => 4 | 46 => 127 | 5 => 5 | 9 => 9 | n => n, fun | n => n⟩
theorem Tryz.lays129 : Go.Proofs.Lays.n129 Tryz.prog Tryz.lays129_ren := {
  mixed := by kernel_rfl
  f129 := Tryz.func108.trans (congrArg some (by kernel_rfl))
  t3 := Tryz.underlying3
  a3 := Tryz.isAgg3
  z3 := Tryz.sizeOf3
  v3 := Tryz.zeroValue3
  t4 := Tryz.underlying4
  a4 := Tryz.isAgg4
  z4 := Tryz.sizeOf4
  v4 := Tryz.zeroValue4
  t5 := Tryz.underlying5
  a5 := Tryz.isAgg5
  z5 := Tryz.sizeOf5
  v5 := Tryz.zeroValue5
  t9 := Tryz.underlying9
  a9 := Tryz.isAgg9
  z9 := Tryz.sizeOf9
  v9 := Tryz.zeroValue9
  t46 := Tryz.underlying127
  a46 := Tryz.isAgg127
  z46 := Tryz.sizeOf127
  v46 := Tryz.zeroValue127
  t53 := Tryz.underlying61
  a53 := Tryz.isAgg61
  z53 := Tryz.sizeOf61
  v53 := Tryz.zeroValue61 }
/-- bits.Len64: "Len64 returns the minimum number of bits required to represent x; the result is 0 for x == 0.": IT RETURNS 'Lib.bitLen x'; the world is as it was. ('h0', 'h1': x is a uint64.) (LAID: no walk: one application.) -/
theorem Tryz.bits_Len64 (x : Int) (w : World) (h0 : 0 ≤ x) (h1 : x ≤ 18446744073709551615) :
    Calls Tryz.prog 108 #[.int .u64 x] w fun e w' => e = .returned (.int .i64 (Lib.bitLen x.toNat)) ∧ w' = w := Any.bits_Len64 Tryz.lays129 x w h0 h1
def Tryz.lays317_ren : Go.Shelf.Ren := ⟨fun | 317 => 136 | n => n, fun | 3 => 3 | 46 => 127 | n => n, fun | n => n⟩
theorem Tryz.lays317 : Go.Proofs.Lays.n317 Tryz.prog Tryz.lays317_ren := {
  mixed := by kernel_rfl
  f317 := Tryz.func136.trans (congrArg some (by kernel_rfl))
  t3 := Tryz.underlying3
  a3 := Tryz.isAgg3
  z3 := Tryz.sizeOf3
  v3 := Tryz.zeroValue3
  t46 := Tryz.underlying127
  a46 := Tryz.isAgg127
  z46 := Tryz.sizeOf127
  v46 := Tryz.zeroValue127 }
open Go.Lib in
/-- internal/strconv.log10Pow2: "log10Pow2(x) returns ⌊log₁₀ 2**x⌋ = ⌊x * log₁₀ 2⌋.": '(x * 78913) >> 18', at an x up to 64 (a length in bits). The world is as it was. (LAID: no walk: one application.) -/
theorem Tryz.internal_strconv_log10Pow2 (x : Nat) (h : x ≤ 64) (w : World) :
    Calls Tryz.prog 136 #[.int .i64 x] w fun e w' => e = .returned (.int .i64 (Lib.l10 x)) ∧ w' = w := Any.internal_strconv_log10Pow2 Tryz.lays317 x h w
def Tryz.lays318_ren : Go.Shelf.Ren := ⟨fun | 318 => 137 | n => n, fun | 3 => 3 | 4 => 4 | n => n, fun | n => n⟩
theorem Tryz.lays318 : Go.Proofs.Lays.n318 Tryz.prog Tryz.lays318_ren := {
  mixed := by kernel_rfl
  f318 := Tryz.func137.trans (congrArg some (by kernel_rfl))
  t3 := Tryz.underlying3
  a3 := Tryz.isAgg3
  z3 := Tryz.sizeOf3
  v3 := Tryz.zeroValue3
  t4 := Tryz.underlying4
  a4 := Tryz.isAgg4
  z4 := Tryz.sizeOf4
  v4 := Tryz.zeroValue4 }
open Go.Lib in
/-- internal/strconv.bool2: "bool2 converts b to an integer: 1 for true, 0 for false." The world is as it was. (LAID: no walk: one application.) -/
theorem Tryz.internal_strconv_bool2_int (b : Bool) (w : World) :
    Calls Tryz.prog 137 #[.bool b] w fun e w' => e = .returned (.int .i64 (if b then 1 else 0)) ∧ w' = w := Any.internal_strconv_bool2_int Tryz.lays318 b w
def Tryz.lays283_ren : Go.Shelf.Ren := ⟨fun | 283 => 126 | n => n, fun | 3 => 3 | 9 => 9 | 4 => 4 | n => n, fun | n => n⟩
theorem Tryz.lays283 : Go.Proofs.Lays.n283 Tryz.prog Tryz.lays283_ren := {
  mixed := by kernel_rfl
  f283 := Tryz.func126.trans (congrArg some (by kernel_rfl))
  t3 := Tryz.underlying3
  a3 := Tryz.isAgg3
  z3 := Tryz.sizeOf3
  v3 := Tryz.zeroValue3
  t4 := Tryz.underlying4
  a4 := Tryz.isAgg4
  z4 := Tryz.sizeOf4
  v4 := Tryz.zeroValue4
  t9 := Tryz.underlying9
  a9 := Tryz.isAgg9
  z9 := Tryz.sizeOf9
  v9 := Tryz.zeroValue9 }
open Go.Lib in
/-- internal/strconv.small: "small returns the string for an i with 0 <= i < nSmalls.": i's decimal numeral. The world is as it was. (LAID: no walk: one application.) -/
theorem Tryz.internal_strconv_small (i : Nat) (h : i < 100) (w : World) :
    Calls Tryz.prog 126 #[.int .i64 i] w fun e w' => e = .returned (.string ⟨(Lib.decDigits i).toArray⟩) ∧ w' = w := Any.internal_strconv_small Tryz.lays283 i h w
def Tryz.laysM284_ren : Go.Shelf.Ren := ⟨fun | 284 => 127 | 129 => 108 | 317 => 136 | 318 => 137 | n => n, fun | 53 => 61 | 3 => 3 | 212 => 164 | 0 => 0 | 4 => 4 | 46 => 127 | 5 => 5 | 9 => 9 | n => n, fun | 17 => 2 | n => n⟩
theorem Tryz.laysM284 : Go.Proofs.LaysM.n284 Tryz.prog Tryz.laysM284_ren := {
  mixed := by kernel_rfl
  f129 := Tryz.func108.trans (congrArg some (by kernel_rfl))
  f284 := Tryz.func127.trans (congrArg some (by kernel_rfl))
  f317 := Tryz.func136.trans (congrArg some (by kernel_rfl))
  f318 := Tryz.func137.trans (congrArg some (by kernel_rfl))
  t0 := Tryz.underlying0
  a0 := Tryz.isAgg0
  z0 := Tryz.sizeOf0
  v0 := Tryz.zeroValue0
  t3 := Tryz.underlying3
  a3 := Tryz.isAgg3
  z3 := Tryz.sizeOf3
  v3 := Tryz.zeroValue3
  t4 := Tryz.underlying4
  a4 := Tryz.isAgg4
  z4 := Tryz.sizeOf4
  v4 := Tryz.zeroValue4
  t5 := Tryz.underlying5
  a5 := Tryz.isAgg5
  z5 := Tryz.sizeOf5
  v5 := Tryz.zeroValue5
  t9 := Tryz.underlying9
  a9 := Tryz.isAgg9
  z9 := Tryz.sizeOf9
  v9 := Tryz.zeroValue9
  t46 := Tryz.underlying127
  a46 := Tryz.isAgg127
  z46 := Tryz.sizeOf127
  v46 := Tryz.zeroValue127
  t53 := Tryz.underlying61
  a53 := Tryz.isAgg61
  z53 := Tryz.sizeOf61
  v53 := Tryz.zeroValue61
  t212 := Tryz.underlying164
  a212 := Tryz.isAgg164
  z212 := Tryz.sizeOf164
  v212 := Tryz.zeroValue164
  g17 := by kernel_rfl
  i0 := by kernel_rfl
  i3 := by kernel_rfl
  i4 := by kernel_rfl
  i5 := by kernel_rfl
  i9 := by kernel_rfl
  i46 := by kernel_rfl
  i53 := by kernel_rfl
  i212 := by kernel_rfl
  m17 := by kernel_rfl }
open Go.Lib in
/-- internal/strconv.numDigits, at a d that is not 0: THE NUMBER OF d's DECIMAL DIGITS. The world is as it was. (LAID: no walk: one application.) -/
theorem Tryz.internal_strconv_numDigits (u : Nat) (h1 : 1 ≤ u) (h2 : u < 18446744073709551616) (w : World) (htab : Lib.TabIs Tryz.prog w "internal/strconv.uint64pow10" .u64 Lib.pow10Tab) :
    Calls Tryz.prog 127 #[.int .u64 u] w fun e w' => e = .returned (.int .i64 (Lib.nDigits u)) ∧ w' = w := Any.internal_strconv_numDigits Tryz.laysM284 u h1 h2 w htab
def Tryz.lays285_ren : Go.Shelf.Ren := ⟨fun | 285 => 128 | n => n, fun | 37 => 154 | 53 => 61 | 3 => 3 | 4 => 4 | 51 => 150 | 9 => 9 | 5 => 5 | 0 => 0 | n => n, fun | n => n⟩
theorem Tryz.lays285 : Go.Proofs.Lays.n285 Tryz.prog Tryz.lays285_ren := {
  mixed := by kernel_rfl
  f285 := Tryz.func128.trans (congrArg some (by kernel_rfl))
  t0 := Tryz.underlying0
  a0 := Tryz.isAgg0
  z0 := Tryz.sizeOf0
  v0 := Tryz.zeroValue0
  t3 := Tryz.underlying3
  a3 := Tryz.isAgg3
  z3 := Tryz.sizeOf3
  v3 := Tryz.zeroValue3
  t4 := Tryz.underlying4
  a4 := Tryz.isAgg4
  z4 := Tryz.sizeOf4
  v4 := Tryz.zeroValue4
  t5 := Tryz.underlying5
  a5 := Tryz.isAgg5
  z5 := Tryz.sizeOf5
  v5 := Tryz.zeroValue5
  t9 := Tryz.underlying9
  a9 := Tryz.isAgg9
  z9 := Tryz.sizeOf9
  v9 := Tryz.zeroValue9
  t37 := Tryz.underlying154
  a37 := Tryz.isAgg154
  z37 := Tryz.sizeOf154
  v37 := Tryz.zeroValue154
  t51 := Tryz.underlying150
  a51 := Tryz.isAgg150
  z51 := Tryz.sizeOf150
  v51 := Tryz.zeroValue150
  t53 := Tryz.underlying61
  a53 := Tryz.isAgg61
  z53 := Tryz.sizeOf61
  v53 := Tryz.zeroValue61 }
open Go.RowKit Go.Sort Go.Lib in
/-- internal/strconv.formatBase10: "formatBase10 formats the decimal representation of u into a. The caller is responsible for ensuring that a is big enough to hold u. If a is too big, leading zeros will be filled in as needed.": THE ROW HOLDS u's DIGITS ('FmtInv .. 0 ..': every place t holds 'dg u (len - 1 - t)'); all else is as it was but for the count of draws. (LAID: no walk: one application.) -/
theorem Tryz.internal_strconv_formatBase10 (blk off cap : Nat) (u : Nat) (d : Array UInt8) (w : World) (hH : Holds (fun (b : UInt8) => Value.int .u8 (b.toNat : Int)) w blk off d) (hu : u < 10 ^ d.size) (hu64 : u < 18446744073709551616) (hsz : d.size < 4611686018427387904) :
    Calls Tryz.prog 128 #[.slice (some ⟨blk, off, none⟩) d.size cap, .int .u64 u] w fun e w' =>
      e = .returned (.tuple #[]) ∧ ∃ (n v' : Nat) (dk : Array UInt8), w' = (putRow (fun (b : UInt8) => Value.int .u8 (b.toNat : Int)) w blk off dk).drewN n ∧ FmtInv d.size u 0 v' dk := Any.internal_strconv_formatBase10 Tryz.lays285 blk off cap u d w hH hu hu64 hsz
def Tryz.laysM246_ren : Go.Shelf.Ren := ⟨fun | 246 => 110 | 283 => 126 | 284 => 127 | 285 => 128 | 286 => 129 | 129 => 108 | 317 => 136 | 318 => 137 | 319 => 138 | 320 => 139 | 337 => 141 | 338 => 142 | n => n, fun | 2 => 2 | 3 => 3 | 9 => 9 | 4 => 4 | 171 => 152 | 0 => 0 | 53 => 61 | 37 => 154 | 5 => 5 | 173 => 155 | 212 => 164 | 51 => 150 | 20 => 20 | 213 => 165 | 46 => 127 | 232 => 168 | 233 => 169 | n => n, fun | 17 => 2 | 18 => 3 | 19 => 4 | n => n⟩
theorem Tryz.laysM246 : Go.Proofs.LaysM.n246 Tryz.prog Tryz.laysM246_ren := {
  mixed := by kernel_rfl
  f129 := Tryz.func108.trans (congrArg some (by kernel_rfl))
  f246 := Tryz.func110.trans (congrArg some (by kernel_rfl))
  f283 := Tryz.func126.trans (congrArg some (by kernel_rfl))
  f284 := Tryz.func127.trans (congrArg some (by kernel_rfl))
  f285 := Tryz.func128.trans (congrArg some (by kernel_rfl))
  f286 := Tryz.func129.trans (congrArg some (by kernel_rfl))
  f317 := Tryz.func136.trans (congrArg some (by kernel_rfl))
  f318 := Tryz.func137.trans (congrArg some (by kernel_rfl))
  f319 := Tryz.func138.trans (congrArg some (by kernel_rfl))
  f320 := Tryz.func139.trans (congrArg some (by kernel_rfl))
  f337 := Tryz.func141.trans (congrArg some (by kernel_rfl))
  f338 := Tryz.func142.trans (congrArg some (by kernel_rfl))
  t0 := Tryz.underlying0
  a0 := Tryz.isAgg0
  z0 := Tryz.sizeOf0
  v0 := Tryz.zeroValue0
  t2 := Tryz.underlying2
  a2 := Tryz.isAgg2
  z2 := Tryz.sizeOf2
  v2 := Tryz.zeroValue2
  t3 := Tryz.underlying3
  a3 := Tryz.isAgg3
  z3 := Tryz.sizeOf3
  v3 := Tryz.zeroValue3
  t4 := Tryz.underlying4
  a4 := Tryz.isAgg4
  z4 := Tryz.sizeOf4
  v4 := Tryz.zeroValue4
  t5 := Tryz.underlying5
  a5 := Tryz.isAgg5
  z5 := Tryz.sizeOf5
  v5 := Tryz.zeroValue5
  t9 := Tryz.underlying9
  a9 := Tryz.isAgg9
  z9 := Tryz.sizeOf9
  v9 := Tryz.zeroValue9
  t20 := Tryz.underlying20
  a20 := Tryz.isAgg20
  z20 := Tryz.sizeOf20
  v20 := Tryz.zeroValue20
  t37 := Tryz.underlying154
  a37 := Tryz.isAgg154
  z37 := Tryz.sizeOf154
  v37 := Tryz.zeroValue154
  t46 := Tryz.underlying127
  a46 := Tryz.isAgg127
  z46 := Tryz.sizeOf127
  v46 := Tryz.zeroValue127
  t51 := Tryz.underlying150
  a51 := Tryz.isAgg150
  z51 := Tryz.sizeOf150
  v51 := Tryz.zeroValue150
  t53 := Tryz.underlying61
  a53 := Tryz.isAgg61
  z53 := Tryz.sizeOf61
  v53 := Tryz.zeroValue61
  t171 := Tryz.underlying152
  a171 := Tryz.isAgg152
  z171 := Tryz.sizeOf152
  v171 := Tryz.zeroValue152
  t173 := Tryz.underlying155
  a173 := Tryz.isAgg155
  z173 := Tryz.sizeOf155
  v173 := Tryz.zeroValue155
  t212 := Tryz.underlying164
  a212 := Tryz.isAgg164
  z212 := Tryz.sizeOf164
  v212 := Tryz.zeroValue164
  t213 := Tryz.underlying165
  a213 := Tryz.isAgg165
  z213 := Tryz.sizeOf165
  t232 := Tryz.underlying168
  a232 := Tryz.isAgg168
  z232 := Tryz.sizeOf168
  v232 := Tryz.zeroValue168
  t233 := Tryz.underlying169
  a233 := Tryz.isAgg169
  z233 := Tryz.sizeOf169
  v233 := Tryz.zeroValue169
  g17 := by kernel_rfl
  g18 := by kernel_rfl
  g19 := by kernel_rfl
  i0 := by kernel_rfl
  i2 := by kernel_rfl
  i3 := by kernel_rfl
  i4 := by kernel_rfl
  i5 := by kernel_rfl
  i9 := by kernel_rfl
  i20 := by kernel_rfl
  i37 := by kernel_rfl
  i46 := by kernel_rfl
  i51 := by kernel_rfl
  i53 := by kernel_rfl
  i171 := by kernel_rfl
  i173 := by kernel_rfl
  i212 := by kernel_rfl
  i232 := by kernel_rfl
  i233 := by kernel_rfl
  m17 := by kernel_rfl
  m18 := by kernel_rfl
  m19 := by kernel_rfl }
open Go.RowKit Go.Sort Go.Lib in
/-- internal/strconv.FormatInt: "FormatInt returns the string representation of i in the given base": AT BASE 10: i's decimal numeral, for every int64. The world behind the call: the world before it, new blocks behind the heap, draws. (LAID: no walk: one application.) -/
theorem Tryz.internal_strconv_FormatInt_10 (n : Int) (h0 : -9223372036854775808 ≤ n) (h1 : n ≤ 9223372036854775807) (w : World) (htab : Lib.TabIs Tryz.prog w "internal/strconv.uint64pow10" .u64 Lib.pow10Tab) :
    Calls Tryz.prog 110 #[.int .i64 n, .int .i64 10] w fun e w' => e = .returned (.string ⟨(Lib.itoa n).toArray⟩) ∧ ∃ k os, w' = grow (w.drewN k) os := Any.internal_strconv_FormatInt_10 Tryz.laysM246 n h0 h1 w htab
def Tryz.lays246_ren : Go.Shelf.Ren := ⟨fun | 246 => 110 | 283 => 126 | 284 => 127 | 285 => 128 | 286 => 129 | 129 => 108 | 317 => 136 | 318 => 137 | 319 => 138 | 320 => 139 | 337 => 141 | 338 => 142 | n => n, fun | 2 => 2 | 3 => 3 | 9 => 9 | 4 => 4 | 171 => 152 | 0 => 0 | 53 => 61 | 37 => 154 | 5 => 5 | 173 => 155 | 212 => 164 | 51 => 150 | 20 => 20 | 213 => 165 | 46 => 127 | 232 => 168 | 233 => 169 | n => n, fun | 17 => 2 | 18 => 3 | 19 => 4 | n => n⟩
theorem Tryz.lays246 : Go.Proofs.Lays.n246 Tryz.prog Tryz.lays246_ren := {
  mixed := by kernel_rfl
  f129 := Tryz.func108.trans (congrArg some (by kernel_rfl))
  f246 := Tryz.func110.trans (congrArg some (by kernel_rfl))
  f283 := Tryz.func126.trans (congrArg some (by kernel_rfl))
  f284 := Tryz.func127.trans (congrArg some (by kernel_rfl))
  f285 := Tryz.func128.trans (congrArg some (by kernel_rfl))
  f286 := Tryz.func129.trans (congrArg some (by kernel_rfl))
  f317 := Tryz.func136.trans (congrArg some (by kernel_rfl))
  f318 := Tryz.func137.trans (congrArg some (by kernel_rfl))
  f319 := Tryz.func138.trans (congrArg some (by kernel_rfl))
  f320 := Tryz.func139.trans (congrArg some (by kernel_rfl))
  f337 := Tryz.func141.trans (congrArg some (by kernel_rfl))
  f338 := Tryz.func142.trans (congrArg some (by kernel_rfl))
  t0 := Tryz.underlying0
  a0 := Tryz.isAgg0
  z0 := Tryz.sizeOf0
  v0 := Tryz.zeroValue0
  t2 := Tryz.underlying2
  a2 := Tryz.isAgg2
  z2 := Tryz.sizeOf2
  v2 := Tryz.zeroValue2
  t3 := Tryz.underlying3
  a3 := Tryz.isAgg3
  z3 := Tryz.sizeOf3
  v3 := Tryz.zeroValue3
  t4 := Tryz.underlying4
  a4 := Tryz.isAgg4
  z4 := Tryz.sizeOf4
  v4 := Tryz.zeroValue4
  t5 := Tryz.underlying5
  a5 := Tryz.isAgg5
  z5 := Tryz.sizeOf5
  v5 := Tryz.zeroValue5
  t9 := Tryz.underlying9
  a9 := Tryz.isAgg9
  z9 := Tryz.sizeOf9
  v9 := Tryz.zeroValue9
  t20 := Tryz.underlying20
  a20 := Tryz.isAgg20
  z20 := Tryz.sizeOf20
  v20 := Tryz.zeroValue20
  t37 := Tryz.underlying154
  a37 := Tryz.isAgg154
  z37 := Tryz.sizeOf154
  v37 := Tryz.zeroValue154
  t46 := Tryz.underlying127
  a46 := Tryz.isAgg127
  z46 := Tryz.sizeOf127
  v46 := Tryz.zeroValue127
  t51 := Tryz.underlying150
  a51 := Tryz.isAgg150
  z51 := Tryz.sizeOf150
  v51 := Tryz.zeroValue150
  t53 := Tryz.underlying61
  a53 := Tryz.isAgg61
  z53 := Tryz.sizeOf61
  v53 := Tryz.zeroValue61
  t171 := Tryz.underlying152
  a171 := Tryz.isAgg152
  z171 := Tryz.sizeOf152
  v171 := Tryz.zeroValue152
  t173 := Tryz.underlying155
  a173 := Tryz.isAgg155
  z173 := Tryz.sizeOf155
  v173 := Tryz.zeroValue155
  t212 := Tryz.underlying164
  a212 := Tryz.isAgg164
  z212 := Tryz.sizeOf164
  v212 := Tryz.zeroValue164
  t213 := Tryz.underlying165
  a213 := Tryz.isAgg165
  z213 := Tryz.sizeOf165
  t232 := Tryz.underlying168
  a232 := Tryz.isAgg168
  z232 := Tryz.sizeOf168
  v232 := Tryz.zeroValue168
  t233 := Tryz.underlying169
  a233 := Tryz.isAgg169
  z233 := Tryz.sizeOf169
  v233 := Tryz.zeroValue169
  g17 := by kernel_rfl
  g18 := by kernel_rfl
  g19 := by kernel_rfl }
open Go.RowKit Go.Sort Go.Lib in
/-- THE ROAD WITHOUT THE TABLE: 0 <= i < 100: two constants are read, nothing is laid: no premise on the world, and the world is as it was. (LAID: no walk: one application.) -/
theorem Tryz.internal_strconv_FormatInt_10_small (i : Nat) (hi : i < 100) (w : World) :
    Calls Tryz.prog 110 #[.int .i64 i, .int .i64 10] w fun e w' => e = .returned (.string ⟨(Lib.decDigits i).toArray⟩) ∧ w' = w := Any.internal_strconv_FormatInt_10_small Tryz.lays246 i hi w
def Tryz.laysM243_ren : Go.Shelf.Ren := ⟨fun | 243 => 98 | 246 => 110 | 283 => 126 | 284 => 127 | 285 => 128 | 286 => 129 | 129 => 108 | 317 => 136 | 318 => 137 | 319 => 138 | 320 => 139 | 337 => 141 | 338 => 142 | n => n, fun | 3 => 3 | 9 => 9 | 2 => 2 | 4 => 4 | 171 => 152 | 0 => 0 | 53 => 61 | 37 => 154 | 5 => 5 | 173 => 155 | 212 => 164 | 51 => 150 | 20 => 20 | 213 => 165 | 46 => 127 | 232 => 168 | 233 => 169 | n => n, fun | 17 => 2 | 18 => 3 | 19 => 4 | n => n⟩
theorem Tryz.laysM243 : Go.Proofs.LaysM.n243 Tryz.prog Tryz.laysM243_ren := {
  mixed := by kernel_rfl
  f129 := Tryz.func108.trans (congrArg some (by kernel_rfl))
  f243 := Tryz.func98.trans (congrArg some (by kernel_rfl))
  f246 := Tryz.func110.trans (congrArg some (by kernel_rfl))
  f283 := Tryz.func126.trans (congrArg some (by kernel_rfl))
  f284 := Tryz.func127.trans (congrArg some (by kernel_rfl))
  f285 := Tryz.func128.trans (congrArg some (by kernel_rfl))
  f286 := Tryz.func129.trans (congrArg some (by kernel_rfl))
  f317 := Tryz.func136.trans (congrArg some (by kernel_rfl))
  f318 := Tryz.func137.trans (congrArg some (by kernel_rfl))
  f319 := Tryz.func138.trans (congrArg some (by kernel_rfl))
  f320 := Tryz.func139.trans (congrArg some (by kernel_rfl))
  f337 := Tryz.func141.trans (congrArg some (by kernel_rfl))
  f338 := Tryz.func142.trans (congrArg some (by kernel_rfl))
  t0 := Tryz.underlying0
  a0 := Tryz.isAgg0
  z0 := Tryz.sizeOf0
  v0 := Tryz.zeroValue0
  t2 := Tryz.underlying2
  a2 := Tryz.isAgg2
  z2 := Tryz.sizeOf2
  v2 := Tryz.zeroValue2
  t3 := Tryz.underlying3
  a3 := Tryz.isAgg3
  z3 := Tryz.sizeOf3
  v3 := Tryz.zeroValue3
  t4 := Tryz.underlying4
  a4 := Tryz.isAgg4
  z4 := Tryz.sizeOf4
  v4 := Tryz.zeroValue4
  t5 := Tryz.underlying5
  a5 := Tryz.isAgg5
  z5 := Tryz.sizeOf5
  v5 := Tryz.zeroValue5
  t9 := Tryz.underlying9
  a9 := Tryz.isAgg9
  z9 := Tryz.sizeOf9
  v9 := Tryz.zeroValue9
  t20 := Tryz.underlying20
  a20 := Tryz.isAgg20
  z20 := Tryz.sizeOf20
  v20 := Tryz.zeroValue20
  t37 := Tryz.underlying154
  a37 := Tryz.isAgg154
  z37 := Tryz.sizeOf154
  v37 := Tryz.zeroValue154
  t46 := Tryz.underlying127
  a46 := Tryz.isAgg127
  z46 := Tryz.sizeOf127
  v46 := Tryz.zeroValue127
  t51 := Tryz.underlying150
  a51 := Tryz.isAgg150
  z51 := Tryz.sizeOf150
  v51 := Tryz.zeroValue150
  t53 := Tryz.underlying61
  a53 := Tryz.isAgg61
  z53 := Tryz.sizeOf61
  v53 := Tryz.zeroValue61
  t171 := Tryz.underlying152
  a171 := Tryz.isAgg152
  z171 := Tryz.sizeOf152
  v171 := Tryz.zeroValue152
  t173 := Tryz.underlying155
  a173 := Tryz.isAgg155
  z173 := Tryz.sizeOf155
  v173 := Tryz.zeroValue155
  t212 := Tryz.underlying164
  a212 := Tryz.isAgg164
  z212 := Tryz.sizeOf164
  v212 := Tryz.zeroValue164
  t213 := Tryz.underlying165
  a213 := Tryz.isAgg165
  z213 := Tryz.sizeOf165
  t232 := Tryz.underlying168
  a232 := Tryz.isAgg168
  z232 := Tryz.sizeOf168
  v232 := Tryz.zeroValue168
  t233 := Tryz.underlying169
  a233 := Tryz.isAgg169
  z233 := Tryz.sizeOf169
  v233 := Tryz.zeroValue169
  g17 := by kernel_rfl
  g18 := by kernel_rfl
  g19 := by kernel_rfl
  i0 := by kernel_rfl
  i2 := by kernel_rfl
  i3 := by kernel_rfl
  i4 := by kernel_rfl
  i5 := by kernel_rfl
  i9 := by kernel_rfl
  i20 := by kernel_rfl
  i37 := by kernel_rfl
  i46 := by kernel_rfl
  i51 := by kernel_rfl
  i53 := by kernel_rfl
  i171 := by kernel_rfl
  i173 := by kernel_rfl
  i212 := by kernel_rfl
  i232 := by kernel_rfl
  i233 := by kernel_rfl
  m17 := by kernel_rfl
  m18 := by kernel_rfl
  m19 := by kernel_rfl }
open Go.RowKit Go.Sort Go.Lib in
/-- internal/strconv.Itoa: "Itoa is equivalent to FormatInt(int64(i), 10).": i's decimal numeral, for every int. (LAID: no walk: one application.) -/
theorem Tryz.internal_strconv_Itoa (n : Int) (h0 : -9223372036854775808 ≤ n) (h1 : n ≤ 9223372036854775807) (w : World) (htab : Lib.TabIs Tryz.prog w "internal/strconv.uint64pow10" .u64 Lib.pow10Tab) :
    Calls Tryz.prog 98 #[.int .i64 n] w fun e w' => e = .returned (.string ⟨(Lib.itoa n).toArray⟩) ∧ ∃ k os, w' = grow (w.drewN k) os := Any.internal_strconv_Itoa Tryz.laysM243 n h0 h1 w htab
def Tryz.lays243_ren : Go.Shelf.Ren := ⟨fun | 243 => 98 | 246 => 110 | 283 => 126 | 284 => 127 | 285 => 128 | 286 => 129 | 129 => 108 | 317 => 136 | 318 => 137 | 319 => 138 | 320 => 139 | 337 => 141 | 338 => 142 | n => n, fun | 3 => 3 | 9 => 9 | 2 => 2 | 4 => 4 | 171 => 152 | 0 => 0 | 53 => 61 | 37 => 154 | 5 => 5 | 173 => 155 | 212 => 164 | 51 => 150 | 20 => 20 | 213 => 165 | 46 => 127 | 232 => 168 | 233 => 169 | n => n, fun | 17 => 2 | 18 => 3 | 19 => 4 | n => n⟩
theorem Tryz.lays243 : Go.Proofs.Lays.n243 Tryz.prog Tryz.lays243_ren := {
  mixed := by kernel_rfl
  f129 := Tryz.func108.trans (congrArg some (by kernel_rfl))
  f243 := Tryz.func98.trans (congrArg some (by kernel_rfl))
  f246 := Tryz.func110.trans (congrArg some (by kernel_rfl))
  f283 := Tryz.func126.trans (congrArg some (by kernel_rfl))
  f284 := Tryz.func127.trans (congrArg some (by kernel_rfl))
  f285 := Tryz.func128.trans (congrArg some (by kernel_rfl))
  f286 := Tryz.func129.trans (congrArg some (by kernel_rfl))
  f317 := Tryz.func136.trans (congrArg some (by kernel_rfl))
  f318 := Tryz.func137.trans (congrArg some (by kernel_rfl))
  f319 := Tryz.func138.trans (congrArg some (by kernel_rfl))
  f320 := Tryz.func139.trans (congrArg some (by kernel_rfl))
  f337 := Tryz.func141.trans (congrArg some (by kernel_rfl))
  f338 := Tryz.func142.trans (congrArg some (by kernel_rfl))
  t0 := Tryz.underlying0
  a0 := Tryz.isAgg0
  z0 := Tryz.sizeOf0
  v0 := Tryz.zeroValue0
  t2 := Tryz.underlying2
  a2 := Tryz.isAgg2
  z2 := Tryz.sizeOf2
  v2 := Tryz.zeroValue2
  t3 := Tryz.underlying3
  a3 := Tryz.isAgg3
  z3 := Tryz.sizeOf3
  v3 := Tryz.zeroValue3
  t4 := Tryz.underlying4
  a4 := Tryz.isAgg4
  z4 := Tryz.sizeOf4
  v4 := Tryz.zeroValue4
  t5 := Tryz.underlying5
  a5 := Tryz.isAgg5
  z5 := Tryz.sizeOf5
  v5 := Tryz.zeroValue5
  t9 := Tryz.underlying9
  a9 := Tryz.isAgg9
  z9 := Tryz.sizeOf9
  v9 := Tryz.zeroValue9
  t20 := Tryz.underlying20
  a20 := Tryz.isAgg20
  z20 := Tryz.sizeOf20
  v20 := Tryz.zeroValue20
  t37 := Tryz.underlying154
  a37 := Tryz.isAgg154
  z37 := Tryz.sizeOf154
  v37 := Tryz.zeroValue154
  t46 := Tryz.underlying127
  a46 := Tryz.isAgg127
  z46 := Tryz.sizeOf127
  v46 := Tryz.zeroValue127
  t51 := Tryz.underlying150
  a51 := Tryz.isAgg150
  z51 := Tryz.sizeOf150
  v51 := Tryz.zeroValue150
  t53 := Tryz.underlying61
  a53 := Tryz.isAgg61
  z53 := Tryz.sizeOf61
  v53 := Tryz.zeroValue61
  t171 := Tryz.underlying152
  a171 := Tryz.isAgg152
  z171 := Tryz.sizeOf152
  v171 := Tryz.zeroValue152
  t173 := Tryz.underlying155
  a173 := Tryz.isAgg155
  z173 := Tryz.sizeOf155
  v173 := Tryz.zeroValue155
  t212 := Tryz.underlying164
  a212 := Tryz.isAgg164
  z212 := Tryz.sizeOf164
  v212 := Tryz.zeroValue164
  t213 := Tryz.underlying165
  a213 := Tryz.isAgg165
  z213 := Tryz.sizeOf165
  t232 := Tryz.underlying168
  a232 := Tryz.isAgg168
  z232 := Tryz.sizeOf168
  v232 := Tryz.zeroValue168
  t233 := Tryz.underlying169
  a233 := Tryz.isAgg169
  z233 := Tryz.sizeOf169
  v233 := Tryz.zeroValue169
  g17 := by kernel_rfl
  g18 := by kernel_rfl
  g19 := by kernel_rfl }
open Go.RowKit Go.Sort Go.Lib in
/-- THE ROAD WITHOUT THE TABLE: 0 <= i < 100. (LAID: no walk: one application.) -/
theorem Tryz.internal_strconv_Itoa_small (i : Nat) (hi : i < 100) (w : World) :
    Calls Tryz.prog 98 #[.int .i64 i] w fun e w' => e = .returned (.string ⟨(Lib.decDigits i).toArray⟩) ∧ w' = w := Any.internal_strconv_Itoa_small Tryz.lays243 i hi w
def Tryz.laysM171_ren : Go.Shelf.Ren := ⟨fun | 171 => 72 | 243 => 98 | 246 => 110 | 283 => 126 | 284 => 127 | 285 => 128 | 286 => 129 | 129 => 108 | 317 => 136 | 318 => 137 | 319 => 138 | 320 => 139 | 337 => 141 | 338 => 142 | n => n, fun | 3 => 3 | 9 => 9 | 2 => 2 | 4 => 4 | 171 => 152 | 0 => 0 | 53 => 61 | 37 => 154 | 5 => 5 | 173 => 155 | 212 => 164 | 51 => 150 | 20 => 20 | 213 => 165 | 46 => 127 | 232 => 168 | 233 => 169 | n => n, fun | 17 => 2 | 18 => 3 | 19 => 4 | n => n⟩
theorem Tryz.laysM171 : Go.Proofs.LaysM.n171 Tryz.prog Tryz.laysM171_ren := {
  mixed := by kernel_rfl
  f129 := Tryz.func108.trans (congrArg some (by kernel_rfl))
  f171 := Tryz.func72.trans (congrArg some (by kernel_rfl))
  f243 := Tryz.func98.trans (congrArg some (by kernel_rfl))
  f246 := Tryz.func110.trans (congrArg some (by kernel_rfl))
  f283 := Tryz.func126.trans (congrArg some (by kernel_rfl))
  f284 := Tryz.func127.trans (congrArg some (by kernel_rfl))
  f285 := Tryz.func128.trans (congrArg some (by kernel_rfl))
  f286 := Tryz.func129.trans (congrArg some (by kernel_rfl))
  f317 := Tryz.func136.trans (congrArg some (by kernel_rfl))
  f318 := Tryz.func137.trans (congrArg some (by kernel_rfl))
  f319 := Tryz.func138.trans (congrArg some (by kernel_rfl))
  f320 := Tryz.func139.trans (congrArg some (by kernel_rfl))
  f337 := Tryz.func141.trans (congrArg some (by kernel_rfl))
  f338 := Tryz.func142.trans (congrArg some (by kernel_rfl))
  t0 := Tryz.underlying0
  a0 := Tryz.isAgg0
  z0 := Tryz.sizeOf0
  v0 := Tryz.zeroValue0
  t2 := Tryz.underlying2
  a2 := Tryz.isAgg2
  z2 := Tryz.sizeOf2
  v2 := Tryz.zeroValue2
  t3 := Tryz.underlying3
  a3 := Tryz.isAgg3
  z3 := Tryz.sizeOf3
  v3 := Tryz.zeroValue3
  t4 := Tryz.underlying4
  a4 := Tryz.isAgg4
  z4 := Tryz.sizeOf4
  v4 := Tryz.zeroValue4
  t5 := Tryz.underlying5
  a5 := Tryz.isAgg5
  z5 := Tryz.sizeOf5
  v5 := Tryz.zeroValue5
  t9 := Tryz.underlying9
  a9 := Tryz.isAgg9
  z9 := Tryz.sizeOf9
  v9 := Tryz.zeroValue9
  t20 := Tryz.underlying20
  a20 := Tryz.isAgg20
  z20 := Tryz.sizeOf20
  v20 := Tryz.zeroValue20
  t37 := Tryz.underlying154
  a37 := Tryz.isAgg154
  z37 := Tryz.sizeOf154
  v37 := Tryz.zeroValue154
  t46 := Tryz.underlying127
  a46 := Tryz.isAgg127
  z46 := Tryz.sizeOf127
  v46 := Tryz.zeroValue127
  t51 := Tryz.underlying150
  a51 := Tryz.isAgg150
  z51 := Tryz.sizeOf150
  v51 := Tryz.zeroValue150
  t53 := Tryz.underlying61
  a53 := Tryz.isAgg61
  z53 := Tryz.sizeOf61
  v53 := Tryz.zeroValue61
  t171 := Tryz.underlying152
  a171 := Tryz.isAgg152
  z171 := Tryz.sizeOf152
  v171 := Tryz.zeroValue152
  t173 := Tryz.underlying155
  a173 := Tryz.isAgg155
  z173 := Tryz.sizeOf155
  v173 := Tryz.zeroValue155
  t212 := Tryz.underlying164
  a212 := Tryz.isAgg164
  z212 := Tryz.sizeOf164
  v212 := Tryz.zeroValue164
  t213 := Tryz.underlying165
  a213 := Tryz.isAgg165
  z213 := Tryz.sizeOf165
  t232 := Tryz.underlying168
  a232 := Tryz.isAgg168
  z232 := Tryz.sizeOf168
  v232 := Tryz.zeroValue168
  t233 := Tryz.underlying169
  a233 := Tryz.isAgg169
  z233 := Tryz.sizeOf169
  v233 := Tryz.zeroValue169
  g17 := by kernel_rfl
  g18 := by kernel_rfl
  g19 := by kernel_rfl
  i0 := by kernel_rfl
  i2 := by kernel_rfl
  i3 := by kernel_rfl
  i4 := by kernel_rfl
  i5 := by kernel_rfl
  i9 := by kernel_rfl
  i20 := by kernel_rfl
  i37 := by kernel_rfl
  i46 := by kernel_rfl
  i51 := by kernel_rfl
  i53 := by kernel_rfl
  i171 := by kernel_rfl
  i173 := by kernel_rfl
  i212 := by kernel_rfl
  i232 := by kernel_rfl
  i233 := by kernel_rfl
  m17 := by kernel_rfl
  m18 := by kernel_rfl
  m19 := by kernel_rfl }
open Go.RowKit Go.Sort Go.Lib in
/-- strconv.Itoa: "Itoa is equivalent to FormatInt(int64(i), 10).": i's DECIMAL NUMERAL ('Lib.itoa': a '-' where i is negative, then the digits), FOR EVERY int. The world behind the call: the world before it, new blocks behind the heap (the library's 'var a [24]byte'), draws. (LAID: no walk: one application.) -/
theorem Tryz.strconv_Itoa (n : Int) (h0 : -9223372036854775808 ≤ n) (h1 : n ≤ 9223372036854775807) (w : World) (htab : Lib.TabIs Tryz.prog w "internal/strconv.uint64pow10" .u64 Lib.pow10Tab) :
    Calls Tryz.prog 72 #[.int .i64 n] w fun e w' => e = .returned (.string ⟨(Lib.itoa n).toArray⟩) ∧ ∃ k os, w' = grow (w.drewN k) os := Any.strconv_Itoa Tryz.laysM171 n h0 h1 w htab
def Tryz.lays171_ren : Go.Shelf.Ren := ⟨fun | 171 => 72 | 243 => 98 | 246 => 110 | 283 => 126 | 284 => 127 | 285 => 128 | 286 => 129 | 129 => 108 | 317 => 136 | 318 => 137 | 319 => 138 | 320 => 139 | 337 => 141 | 338 => 142 | n => n, fun | 3 => 3 | 9 => 9 | 2 => 2 | 4 => 4 | 171 => 152 | 0 => 0 | 53 => 61 | 37 => 154 | 5 => 5 | 173 => 155 | 212 => 164 | 51 => 150 | 20 => 20 | 213 => 165 | 46 => 127 | 232 => 168 | 233 => 169 | n => n, fun | 17 => 2 | 18 => 3 | 19 => 4 | n => n⟩
theorem Tryz.lays171 : Go.Proofs.Lays.n171 Tryz.prog Tryz.lays171_ren := {
  mixed := by kernel_rfl
  f129 := Tryz.func108.trans (congrArg some (by kernel_rfl))
  f171 := Tryz.func72.trans (congrArg some (by kernel_rfl))
  f243 := Tryz.func98.trans (congrArg some (by kernel_rfl))
  f246 := Tryz.func110.trans (congrArg some (by kernel_rfl))
  f283 := Tryz.func126.trans (congrArg some (by kernel_rfl))
  f284 := Tryz.func127.trans (congrArg some (by kernel_rfl))
  f285 := Tryz.func128.trans (congrArg some (by kernel_rfl))
  f286 := Tryz.func129.trans (congrArg some (by kernel_rfl))
  f317 := Tryz.func136.trans (congrArg some (by kernel_rfl))
  f318 := Tryz.func137.trans (congrArg some (by kernel_rfl))
  f319 := Tryz.func138.trans (congrArg some (by kernel_rfl))
  f320 := Tryz.func139.trans (congrArg some (by kernel_rfl))
  f337 := Tryz.func141.trans (congrArg some (by kernel_rfl))
  f338 := Tryz.func142.trans (congrArg some (by kernel_rfl))
  t0 := Tryz.underlying0
  a0 := Tryz.isAgg0
  z0 := Tryz.sizeOf0
  v0 := Tryz.zeroValue0
  t2 := Tryz.underlying2
  a2 := Tryz.isAgg2
  z2 := Tryz.sizeOf2
  v2 := Tryz.zeroValue2
  t3 := Tryz.underlying3
  a3 := Tryz.isAgg3
  z3 := Tryz.sizeOf3
  v3 := Tryz.zeroValue3
  t4 := Tryz.underlying4
  a4 := Tryz.isAgg4
  z4 := Tryz.sizeOf4
  v4 := Tryz.zeroValue4
  t5 := Tryz.underlying5
  a5 := Tryz.isAgg5
  z5 := Tryz.sizeOf5
  v5 := Tryz.zeroValue5
  t9 := Tryz.underlying9
  a9 := Tryz.isAgg9
  z9 := Tryz.sizeOf9
  v9 := Tryz.zeroValue9
  t20 := Tryz.underlying20
  a20 := Tryz.isAgg20
  z20 := Tryz.sizeOf20
  v20 := Tryz.zeroValue20
  t37 := Tryz.underlying154
  a37 := Tryz.isAgg154
  z37 := Tryz.sizeOf154
  v37 := Tryz.zeroValue154
  t46 := Tryz.underlying127
  a46 := Tryz.isAgg127
  z46 := Tryz.sizeOf127
  v46 := Tryz.zeroValue127
  t51 := Tryz.underlying150
  a51 := Tryz.isAgg150
  z51 := Tryz.sizeOf150
  v51 := Tryz.zeroValue150
  t53 := Tryz.underlying61
  a53 := Tryz.isAgg61
  z53 := Tryz.sizeOf61
  v53 := Tryz.zeroValue61
  t171 := Tryz.underlying152
  a171 := Tryz.isAgg152
  z171 := Tryz.sizeOf152
  v171 := Tryz.zeroValue152
  t173 := Tryz.underlying155
  a173 := Tryz.isAgg155
  z173 := Tryz.sizeOf155
  v173 := Tryz.zeroValue155
  t212 := Tryz.underlying164
  a212 := Tryz.isAgg164
  z212 := Tryz.sizeOf164
  v212 := Tryz.zeroValue164
  t213 := Tryz.underlying165
  a213 := Tryz.isAgg165
  z213 := Tryz.sizeOf165
  t232 := Tryz.underlying168
  a232 := Tryz.isAgg168
  z232 := Tryz.sizeOf168
  v232 := Tryz.zeroValue168
  t233 := Tryz.underlying169
  a233 := Tryz.isAgg169
  z233 := Tryz.sizeOf169
  v233 := Tryz.zeroValue169
  g17 := by kernel_rfl
  g18 := by kernel_rfl
  g19 := by kernel_rfl }
open Go.RowKit Go.Sort Go.Lib in
/-- THE ROAD WITHOUT THE TABLE: 0 <= i < 100: NO PREMISE ON THE WORLD, AND THE WORLD IS AS IT WAS: a row that keeps its argument in that range need list no table ('laid = []'). (LAID: no walk: one application.) -/
theorem Tryz.strconv_Itoa_small (i : Nat) (hi : i < 100) (w : World) :
    Calls Tryz.prog 72 #[.int .i64 i] w fun e w' => e = .returned (.string ⟨(Lib.decDigits i).toArray⟩) ∧ w' = w := Any.strconv_Itoa_small Tryz.lays171 i hi w
def Tryz.lays190_ren : Go.Shelf.Ren := ⟨fun | 190 => 80 | 125 => 103 | 258 => 102 | 128 => 122 | 129 => 108 | 302 => 113 | 303 => 114 | 304 => 115 | 305 => 116 | 306 => 117 | 307 => 118 | 308 => 119 | 309 => 120 | 310 => 121 | 333 => 130 | 329 => 131 | 330 => 132 | 334 => 133 | 335 => 134 | 336 => 135 | 344 => 140 | n => n, fun | 31 => 36 | 9 => 9 | 3 => 3 | 46 => 127 | 0 => 0 | 51 => 150 | 53 => 61 | 4 => 4 | 183 => 143 | 182 => 142 | 131 => 101 | 5 => 5 | 218 => 157 | 222 => 161 | 228 => 166 | 229 => 95 | n => n, fun | n => n⟩
theorem Tryz.lays190 : Go.Proofs.Lays.n190 Tryz.prog Tryz.lays190_ren := {
  mixed := by kernel_rfl
  f125 := Tryz.func103.trans (congrArg some (by kernel_rfl))
  f128 := Tryz.func122.trans (congrArg some (by kernel_rfl))
  f129 := Tryz.func108.trans (congrArg some (by kernel_rfl))
  f190 := Tryz.func80.trans (congrArg some (by kernel_rfl))
  f258 := Tryz.func102.trans (congrArg some (by kernel_rfl))
  f302 := Tryz.func113.trans (congrArg some (by kernel_rfl))
  f303 := Tryz.func114.trans (congrArg some (by kernel_rfl))
  f304 := Tryz.func115.trans (congrArg some (by kernel_rfl))
  f305 := Tryz.func116.trans (congrArg some (by kernel_rfl))
  f306 := Tryz.func117.trans (congrArg some (by kernel_rfl))
  f307 := Tryz.func118.trans (congrArg some (by kernel_rfl))
  f308 := Tryz.func119.trans (congrArg some (by kernel_rfl))
  f309 := Tryz.func120.trans (congrArg some (by kernel_rfl))
  f310 := Tryz.func121.trans (congrArg some (by kernel_rfl))
  f329 := Tryz.func131.trans (congrArg some (by kernel_rfl))
  f330 := Tryz.func132.trans (congrArg some (by kernel_rfl))
  f333 := Tryz.func130.trans (congrArg some (by kernel_rfl))
  f334 := Tryz.func133.trans (congrArg some (by kernel_rfl))
  f335 := Tryz.func134.trans (congrArg some (by kernel_rfl))
  f336 := Tryz.func135.trans (congrArg some (by kernel_rfl))
  f344 := Tryz.func140.trans (congrArg some (by kernel_rfl))
  t0 := Tryz.underlying0
  a0 := Tryz.isAgg0
  z0 := Tryz.sizeOf0
  v0 := Tryz.zeroValue0
  t3 := Tryz.underlying3
  a3 := Tryz.isAgg3
  z3 := Tryz.sizeOf3
  v3 := Tryz.zeroValue3
  t4 := Tryz.underlying4
  a4 := Tryz.isAgg4
  z4 := Tryz.sizeOf4
  v4 := Tryz.zeroValue4
  t5 := Tryz.underlying5
  a5 := Tryz.isAgg5
  z5 := Tryz.sizeOf5
  v5 := Tryz.zeroValue5
  t9 := Tryz.underlying9
  a9 := Tryz.isAgg9
  z9 := Tryz.sizeOf9
  v9 := Tryz.zeroValue9
  t31 := Tryz.underlying36
  a31 := Tryz.isAgg36
  z31 := Tryz.sizeOf36
  v31 := Tryz.zeroValue36
  t46 := Tryz.underlying127
  a46 := Tryz.isAgg127
  z46 := Tryz.sizeOf127
  v46 := Tryz.zeroValue127
  t51 := Tryz.underlying150
  a51 := Tryz.isAgg150
  z51 := Tryz.sizeOf150
  v51 := Tryz.zeroValue150
  t53 := Tryz.underlying61
  a53 := Tryz.isAgg61
  z53 := Tryz.sizeOf61
  v53 := Tryz.zeroValue61
  t131 := Tryz.underlying101
  a131 := Tryz.isAgg101
  z131 := Tryz.sizeOf101
  v131 := Tryz.zeroValue101
  t182 := Tryz.underlying142
  a182 := Tryz.isAgg142
  z182 := Tryz.sizeOf142
  v182 := Tryz.zeroValue142
  t183 := Tryz.underlying143
  a183 := Tryz.isAgg143
  z183 := Tryz.sizeOf143
  v183 := Tryz.zeroValue143
  t218 := Tryz.underlying157
  a218 := Tryz.isAgg157
  z218 := Tryz.sizeOf157
  v218 := Tryz.zeroValue157
  t222 := Tryz.underlying161
  a222 := Tryz.isAgg161
  z222 := Tryz.sizeOf161
  v222 := Tryz.zeroValue161
  t228 := Tryz.underlying166
  a228 := Tryz.isAgg166
  z228 := Tryz.sizeOf166
  v228 := Tryz.zeroValue166
  t229 := Tryz.underlying95
  a229 := Tryz.isAgg95
  z229 := Tryz.sizeOf95
  v229 := Tryz.zeroValue95 }
open Go.Sort Go.RowKit in
theorem Tryz.slices_Sort_string (blk off cap : Nat) (ss : List (List UInt8)) (w : World) (hH : Holds encStr w blk off ss.toArray) (hblk : blk < w.heap.size) (hsz : ss.length < 4611686018427387904) :
    Calls Tryz.prog 80 #[.slice (some ⟨blk, off, none⟩) ss.length cap] w fun e w' =>
      e = .returned (.tuple #[]) ∧ ∃ n os, w' = grow (putRow encStr (Sort.ahead w n) blk off (ss.mergeSort fun x y => decide (x ≤ y)).toArray) os := Any.slices_Sort_string Tryz.lays190 blk off cap ss w hH hblk hsz
def Tryz.lays264_ren : Go.Shelf.Ren := ⟨fun | 264 => 58 | n => n, fun | 53 => 61 | 46 => 127 | n => n, fun | n => n⟩
theorem Tryz.lays264 : Go.Proofs.Lays.n264 Tryz.prog Tryz.lays264_ren := {
  mixed := by kernel_rfl
  f264 := Tryz.func58.trans (congrArg some (by kernel_rfl))
  t46 := Tryz.underlying127
  a46 := Tryz.isAgg127
  z46 := Tryz.sizeOf127
  v46 := Tryz.zeroValue127
  t53 := Tryz.underlying61
  a53 := Tryz.isAgg61
  z53 := Tryz.sizeOf61
  v53 := Tryz.zeroValue61 }
open Go.RowKit Go.Lib in
theorem Tryz.bits_Mul64 (x y : Nat) (hx : x < 18446744073709551616) (hy : y < 18446744073709551616) (w : World) :
    Calls Tryz.prog 58 #[.int .u64 x, .int .u64 y] w fun e w' => e = .returned (.tuple #[.int .u64 ((x * y / 18446744073709551616 : Nat) : Int), .int .u64 ((x * y % 18446744073709551616 : Nat) : Int)]) ∧ w' = w := Any.bits_Mul64 Tryz.lays264 x y hx hy w
def Tryz.laysNm215_ren : Go.Shelf.Ren := ⟨fun | 15 => 25 | n => n, fun | 22 => 22 | 3 => 3 | 4 => 4 | n => n, fun | n => n⟩
theorem Tryz.laysNm215 : Go.Proofs.Lays2.n15 Tryz.prog Tryz.laysNm215_ren := {
  mixed := by kernel_rfl
  f15 := Tryz.func25.trans (congrArg some (by kernel_rfl))
  t3 := Tryz.underlying3
  a3 := Tryz.isAgg3
  z3 := Tryz.sizeOf3
  v3 := Tryz.zeroValue3
  t4 := Tryz.underlying4
  a4 := Tryz.isAgg4
  z4 := Tryz.sizeOf4
  v4 := Tryz.zeroValue4
  t22 := Tryz.underlying22
  a22 := Tryz.isAgg22
  z22 := Tryz.sizeOf22
  v22 := Tryz.zeroValue22
  i3 := by kernel_rfl }
open Go.RowKit Go.Lib in
/-- slices.Clone at []int: "Clone returns a copy of the slice. The elements are copied using assignment, so this is a shallow clone. The result may have additional unused capacity. The result preserves the nilness of s.": OF A SLICE THAT IS NOT nil IT RETURNS A SLICE THAT IS NOT nil, OF THE SAME ELEMENTS, IN MEMORY OF THE CALL's OWN: in the how-to's words (6f): 'w'.ownsRow B e 1 v' n cells': v' begins at the head of a row among the blocks from B on (B: the heap's size at the call), not frozen, whose first cells are the elements · 'Below B w w'': below B all is as it was. The capacity is whatever the run-time gives. 'zs': what the cells behind the slice's address hold; 'zs.take n': its elements. (LAID: no walk: one application.) -/
theorem Tryz.slices_Clone_int (b off n c : Nat) (zs : List Int) (w : World) (hz : n ≤ zs.length) (hbig : n * 8 ≤ 140737488355328) (hc : ∀ j, j < zs.length → w.cell? ⟨b, off + j, none⟩ = some (.int .i64 (zs.getD j 0))) :
    Calls Tryz.prog 25 #[.slice (some ⟨b, off, none⟩) n c] w fun e w' => ∃ v', e = .returned v' ∧ w'.ownsRow w.heap.size 3 1 v' n ((zs.take n).map (Value.int .i64)) ∧ v' ≠ .slice none 0 0 ∧ Below w.heap.size w w' := Any.slices_Clone_int Tryz.laysNm215 b off n c zs w hz hbig hc
open Go.RowKit Go.Lib in
/-- The same at nil: nil comes back; the world is as it was. (LAID: no walk: one application.) -/
theorem Tryz.slices_Clone_int_nil (n c : Nat) (w : World) :
    Calls Tryz.prog 25 #[.slice none n c] w fun e w' => e = .returned (.slice none 0 0) ∧ w' = w := Any.slices_Clone_int_nil Tryz.laysNm215 n c w
open Go.RowKit Go.Lib in
/-- The same at a slice of length 0 that is not nil, WHATEVER ITS ADDRESS (no cell is asked for): a slice that is not nil and owns nothing comes back. (LAID: no walk: one application.) -/
theorem Tryz.slices_Clone_int_zero (a : Addr) (c : Nat) (w : World) :
    Calls Tryz.prog 25 #[.slice (some a) 0 c] w fun e w' => ∃ v', e = .returned v' ∧ w'.ownsRow w.heap.size 3 1 v' 0 [] ∧ v' ≠ .slice none 0 0 ∧ Below w.heap.size w w' := Any.slices_Clone_int_zero Tryz.laysNm215 a c w
def Tryz.lays194_ren : Go.Shelf.Ren := ⟨fun | 194 => 81 | n => n, fun | 31 => 36 | 9 => 9 | 3 => 3 | 4 => 4 | 0 => 0 | n => n, fun | n => n⟩
theorem Tryz.lays194 : Go.Proofs.Lays.n194 Tryz.prog Tryz.lays194_ren := {
  mixed := by kernel_rfl
  f194 := Tryz.func81.trans (congrArg some (by kernel_rfl))
  t0 := Tryz.underlying0
  a0 := Tryz.isAgg0
  z0 := Tryz.sizeOf0
  v0 := Tryz.zeroValue0
  t3 := Tryz.underlying3
  a3 := Tryz.isAgg3
  z3 := Tryz.sizeOf3
  v3 := Tryz.zeroValue3
  t4 := Tryz.underlying4
  a4 := Tryz.isAgg4
  z4 := Tryz.sizeOf4
  v4 := Tryz.zeroValue4
  t9 := Tryz.underlying9
  a9 := Tryz.isAgg9
  z9 := Tryz.sizeOf9
  v9 := Tryz.zeroValue9
  t31 := Tryz.underlying36
  a31 := Tryz.isAgg36
  z31 := Tryz.sizeOf36
  v31 := Tryz.zeroValue36 }
open Go.RowKit Go.Lib Go.Sort in
/-- slices.Compact at []string, over an array: the library's two loops are walked. (LAID: no walk: one application.) -/
theorem Tryz.slices_Compact_string_arr (blk off cap : Nat) (d : Array (List UInt8)) (w : World) (hH : Holds encStr w blk off d) (hsz : d.size ≤ 9223372036854775807) (hcap : d.size ≤ cap) :
    Calls Tryz.prog 81 #[.slice (some ⟨blk, off, none⟩) d.size cap] w fun e w' => e = .returned (.slice (some ⟨blk, off, none⟩) (compactUpTo d d.size).length cap) ∧ ∃ q, w' = putRow encStr (Sort.ahead w q) blk off (compactUpTo d d.size ++ List.replicate (d.size - (compactUpTo d d.size).length) []).toArray := Any.slices_Compact_string_arr Tryz.lays194 blk off cap d w hH hsz hcap
open Go.RowKit Go.Lib Go.Sort in
/-- slices.Compact at []string: "Compact replaces consecutive runs of equal elements with a single copy. This is like the uniq command found on Unix. Compact modifies the contents of the slice s and returns the modified slice, which may have a smaller length. Compact zeroes the elements between the new length and the original length. The result preserves the nilness of s.": IT RETURNS THE SLICE CUT TO 'Lib.compact zs'; ITS CELLS HOLD 'Lib.compact zs', THEN ZERO VALUES up to the old length; all else is as it was, but for the count of draws. IN THE WORDS OF slices.Sort's CONTRACT ('Holds', 'putRow'): so the everyday 'slices.Sort(xs); xs = slices.Compact(xs)' goes from the one contract to the other. It asks 'zs.length ≤ cap' (every slice's: the reslicing 's[:k]' looks at it). Length 0, nil: '.._empty'. (LAID: no walk: one application.) -/
theorem Tryz.slices_Compact_string (blk off cap : Nat) (zs : List (List UInt8)) (w : World) (hH : Holds encStr w blk off zs.toArray) (hsz : zs.length ≤ 9223372036854775807) (hcap : zs.length ≤ cap) :
    Calls Tryz.prog 81 #[.slice (some ⟨blk, off, none⟩) zs.length cap] w fun e w' => e = .returned (.slice (some ⟨blk, off, none⟩) (Lib.compact zs).length cap) ∧ ∃ q, w' = putRow encStr (Sort.ahead w q) blk off (Lib.compact zs ++ List.replicate (zs.length - (Lib.compact zs).length) []).toArray := Any.slices_Compact_string Tryz.lays194 blk off cap zs w hH hsz hcap
open Go.RowKit Go.Lib Go.Sort in
/-- The same at a slice of length 0, a nil one too: it comes back as it is. (LAID: no walk: one application.) -/
theorem Tryz.slices_Compact_string_empty (a : Option Addr) (cap : Nat) (w : World) :
    Calls Tryz.prog 81 #[.slice a 0 cap] w fun e w' => e = .returned (.slice a 0 cap) ∧ w' = w := Any.slices_Compact_string_empty Tryz.lays194 a cap w
def Tryz.laysNm237_ren : Go.Shelf.Ren := ⟨fun | 37 => 61 | n => n, fun | 3 => 3 | 4 => 4 | n => n, fun | n => n⟩
theorem Tryz.laysNm237 : Go.Proofs.Lays2.n37 Tryz.prog Tryz.laysNm237_ren := {
  mixed := by kernel_rfl
  f37 := Tryz.func61.trans (congrArg some (by kernel_rfl))
  t3 := Tryz.underlying3
  a3 := Tryz.isAgg3
  z3 := Tryz.sizeOf3
  v3 := Tryz.zeroValue3
  t4 := Tryz.underlying4
  a4 := Tryz.isAgg4
  z4 := Tryz.sizeOf4
  v4 := Tryz.zeroValue4 }
open Go.RowKit Go.Lib in
/-- cmp.isNaN[int]: 'x != x': false. (LAID: no walk: one application.) -/
theorem Tryz.cmp_isNaN_int2 (x : Int) (w : World) :
    Calls Tryz.prog 61 #[.int .i64 x] w fun e w' => e = .returned (.bool false) ∧ w' = w := Any.cmp_isNaN_int2 Tryz.laysNm237 x w
open Go.RowKit Go.Lib Go.Sort in
/-- slices.Compact at []string, of an argument. (LAID: no walk: one application.) -/
theorem Tryz.slices_Compact_string_cells (b off n c : Nat) (Sx : Nat → ByteArray) (w : World) (hbig : n ≤ 9223372036854775807) (hcap : n ≤ c) (hc : ∀ i, i < n → w.cell? ⟨b, off + i, none⟩ = some (.string (Sx i))) (hf : ∀ j, j < n → w.frozen? ⟨b, off + j, none⟩ = false) :
    Calls Tryz.prog 81 #[.slice (some ⟨b, off, none⟩) n c] w fun e w' => e = .returned (.slice (some ⟨b, off, none⟩) (Lib.compact (Lib.strsOf Sx n)).length c) ∧ ∃ q, w' = (w.drewN q).setCells b off ((Lib.compact (Lib.strsOf Sx n) ++ List.replicate (n - (Lib.compact (Lib.strsOf Sx n)).length) []).map encStr) := Any.slices_Compact_string_cells Tryz.lays194 b off n c Sx w hbig hcap hc hf
open Go.RowKit Go.Sort in
/-- .. and plain. (LAID: no walk: one application.) -/
theorem Tryz.slices_Sort_string_none (p : Option Addr) (cap : Nat) (w : World) :
    Calls Tryz.prog 80 #[.slice p 0 cap] w fun e w' => e = .returned (.tuple #[]) ∧ w' = w := Any.slices_Sort_string_none Tryz.lays190 p cap w
def Tryz.laysSlE041_f25_ren : Go.Shelf.Ren := ⟨fun | 41 => 25 | n => n, fun | 22 => 22 | 23 => 3 | 4 => 4 | n => n, fun | n => n⟩
theorem Tryz.laysSlE041_f25 : Go.Proofs.SlLaysE0.n41 Tryz.prog Tryz.laysSlE041_f25_ren := {
  mixed := by kernel_rfl
  f41 := ⟨Tryz.f25.name, by decide, Tryz.func25.trans (congrArg some (by kernel_rfl))⟩
  t4 := Tryz.underlying4
  a4 := Tryz.isAgg4
  z4 := Tryz.sizeOf4
  v4 := Tryz.zeroValue4
  t22 := Tryz.underlying22
  a22 := Tryz.isAgg22
  z22 := Tryz.sizeOf22
  v22 := Tryz.zeroValue22 }
open Go.RowKit Go.Lib in
/-- slices.Clone: "Clone returns a copy of the slice. The elements are copied using assignment, so this is a shallow clone. The result may have additional unused capacity. The result preserves the nilness of s.": OF A SLICE THAT IS NOT nil IT RETURNS A SLICE THAT IS NOT nil, OF THE SAME CELLS, IN MEMORY OF THE CALL's OWN ('ownsRow': the how-to's 6f); below the heap's size at the call all is as it was. (LAID AT THE INSTANCE 'slices.Clone[[]int,int]': no walk: one application.) -/
theorem Tryz.slices_Clone (i0 : TypeInfo) (z : Value) (size bytes : Nat) (hi : Tryz.prog.info? 3 = some i0) (hz0 : i0.zero = some z) (hz1 : i0.size = size) (hz2 : i0.bytes = bytes) (hzs : z.cells.size = size) (hsz : 0 < size) (z23 : ∀ w, (Go.sizeOf 3).run Tryz.prog w = .ok size w) (b off n c : Nat) (news : List Value) (w : World) (hl : news.length = n * size) (hn : n ≤ maxLen) (hbig : n * bytes ≤ 140737488355328) (hc : ∀ j u, news[j]? = some u → w.cell? ⟨b, off + j, none⟩ = some u) (h1 : ∀ u ∈ news, u.oneCell' = true) :
    Calls Tryz.prog 25 #[.slice (some ⟨b, off, none⟩) n c] w fun e w' => ∃ v', e = .returned v' ∧ w'.ownsRow w.heap.size 3 size v' n news ∧ v' ≠ .slice none 0 0 ∧ Below w.heap.size w w' := AnyE.slices_Clone Tryz.laysSlE041_f25 i0 z size bytes hi hz0 hz1 hz2 hzs hsz z23 b off n c news w hl hn hbig hc h1
open Go.RowKit Go.Lib in
/-- The same at nil: nil comes back; the world is as it was; nothing is asked of the element's type. (LAID AT THE INSTANCE 'slices.Clone[[]int,int]': no walk: one application.) -/
theorem Tryz.slices_Clone_nil (n c : Nat) (w : World) :
    Calls Tryz.prog 25 #[.slice none n c] w fun e w' => e = .returned (.slice none 0 0) ∧ w' = w := AnyE.slices_Clone_nil Tryz.laysSlE041_f25 n c w
end Go.Proofs

namespace Go.Proofs.YtehjalgogjkdlaaGreatDoor
set_option linter.unusedVariables false
set_option linter.unusedSimpArgs false
open Go.RowKit
theorem amt_any (n : Int) (w : World) : Calls Tryz.prog 37 #[.int .i64 n] w fun e w' => e = .returned (.bool (amtB n)) ∧ w = w' := by
  by_cases h1 : 0 ≤ n
  · go_enter Tryz.func37, Tryz.ntmps37
    go_wp2
    go_ret
    exact ⟨by simp [amtB, h1], rfl⟩
  · go_enter Tryz.func37, Tryz.ntmps37
    go_wp2
    go_ret
    exact ⟨by simp [amtB]; omega, rfl⟩
theorem ramt54_any (n : Int) (w : World) : Calls Tryz.prog 30 #[.int .i64 n] w fun e w' => e = .returned (.bool (amtB n)) ∧ w = w' := by
  by_cases h1 : 0 ≤ n
  · go_enter Tryz.func30, Tryz.ntmps30
    go_wp2
    go_ret
    exact ⟨by simp [amtB, h1], rfl⟩
  · go_enter Tryz.func30, Tryz.ntmps30
    go_wp2
    go_ret
    exact ⟨by simp [amtB]; omega, rfl⟩
theorem cmpi_eq (u v : Int) : Lib.compareInt u v = cmpZ u v := by unfold Lib.compareInt cmpZ; rfl
/-- The comparison: the rests, y's first. -/
theorem cmpf_any (x y : Int) (rb cb cap : Nat) (R : List Int) (w : World) (h : w.cell? ⟨rb, 0, none⟩ = some (.slice (some ⟨cb, 0, none⟩) R.length cap)) (hl : rb < w.heap.size) (hR : IB w cb R) (hx : 0 ≤ x) (hx2 : x < R.length) (hy : 0 ≤ y) (hy2 : y < R.length) :
    Calls Tryz.prog 28 #[.int .i64 x, .int .i64 y, .pointer (some ⟨rb, 0, none⟩)] w fun e w' => e = .returned (.int .i64 (cmpZ (keyOf R y) (keyOf R x))) ∧ Chg [] w w' := by
  have ex : R[x.toNat]? = some (keyOf R x) := by unfold keyOf; rw [List.getD_eq_getElem?_getD, List.getElem?_eq_getElem (by omega)]; rfl
  have ey : R[y.toNat]? = some (keyOf R y) := by unfold keyOf; rw [List.getD_eq_getElem?_getD, List.getElem?_eq_getElem (by omega)]; rfl
  have c1 := hR.cell ex
  have c2 := hR.cell ey
  have lc := hR.lt
  have A := Lib.hid (fun w' => Tryz.cmp_Compare_int (keyOf R y) (keyOf R x) w')
  simp only [cmpi_eq] at A
  generalize keyOf R x = kx at *
  generalize keyOf R y = ky at *
  generalize R.length = n at *
  clear hR ex ey
  go_enter Tryz.func28, Tryz.ntmps28
  go_wp2_with fail
  go_quiet (with_reducible exact Calls.quiet_of_same (A.out _))
  go_wp2_with fail
  go_ret
  exact ⟨rfl, (Chg.refl _ _).drewN _⟩
end Go.Proofs.YtehjalgogjkdlaaGreatDoor

namespace Go.Proofs.YtehjalgogjkdlaaGreatDoor
set_option linter.unusedVariables false
set_option linter.unusedSimpArgs false
open Go.RowKit
def lnC (x : Ln) : List Value := [.string x.fn, .int .i64 x.us.inv, .int .i64 x.us.steps, .int .i64 x.us.ticks, .int .i64 x.us.units, .int .i64 x.mi]
theorem lnC_len (x : Ln) : (lnC x).length = 6 := rfl
theorem lnC_one (x : Ln) : ∀ u ∈ lnC x, u.oneCell' = true := by
  intro u hu
  simp [lnC] at hu
  rcases hu with rfl | rfl | rfl | rfl | rfl | rfl <;> rfl
def Ln.good (x : Ln) : Prop := x.fn.size ≤ maxLen
def lnO (x : Ln) : Obj := .cells #[.string x.fn, .int .i64 x.us.inv, .int .i64 x.us.steps, .int .i64 x.us.ticks, .int .i64 x.us.units, .int .i64 x.mi] 74
theorem line_cases {l : List Ln} {k : Nat} {x : Ln} (h : l[k]? = some x) :
    (nameB x.fn = false ∧ lineE l k = 4) ∨ (nameB x.fn = true ∧ (∃ m, k = m + 1) ∧ (Op.bytesLess x.fn.toList (fnAt l (k - 1)).toList = true ∨ (Op.bytesLess x.fn.toList (fnAt l (k - 1)).toList = false ∧ (x.fn.toList == (fnAt l (k - 1)).toList) = true)) ∧ lineE l k = 11) ∨
    (nameB x.fn = true ∧ (k = 0 ∨ ((∃ m, k = m + 1) ∧ Op.bytesLess x.fn.toList (fnAt l (k - 1)).toList = false ∧ (x.fn.toList == (fnAt l (k - 1)).toList) = false)) ∧ ((usB x.us = false ∧ lineE l k = 2) ∨ (usB x.us = true ∧ amtB x.mi = false ∧ lineE l k = 2) ∨ (usB x.us = true ∧ amtB x.mi = true ∧ lineE l k = 0))) := by
  unfold lineE leqB
  rw [h]
  simp only
  cases h1 : nameB x.fn
  · exact .inl ⟨rfl, by simp⟩
  have rest : ((usB x.us = false ∧ (if usB x.us = false ∨ amtB x.mi = false then (2 : Int) else 0) = 2) ∨ (usB x.us = true ∧ amtB x.mi = false ∧ (if usB x.us = false ∨ amtB x.mi = false then (2 : Int) else 0) = 2) ∨ (usB x.us = true ∧ amtB x.mi = true ∧ (if usB x.us = false ∨ amtB x.mi = false then (2 : Int) else 0) = 0)) := by
    cases usB x.us <;> cases amtB x.mi <;> simp
  rcases k with _ | m
  · refine .inr (.inr ⟨rfl, .inl rfl, ?_⟩)
    simpa using rest
  · cases h2 : Op.bytesLess x.fn.toList (fnAt l (m + 1 - 1)).toList
    · cases h3 : x.fn.toList == (fnAt l (m + 1 - 1)).toList
      · refine .inr (.inr ⟨rfl, .inr ⟨⟨m, rfl⟩, rfl, rfl⟩, ?_⟩)
        simpa using rest
      · exact .inr (.inl ⟨rfl, ⟨m, rfl⟩, .inr ⟨rfl, rfl⟩, by simp⟩)
    · exact .inr (.inl ⟨rfl, ⟨m, rfl⟩, .inl rfl, by simp⟩)
set_option maxHeartbeats 4000000 in
set_option maxRecDepth 100000 in
theorem line_any (l : List Ln) (k : Nat) (a : Option Addr) (cap : Nat) (w : World) (h : SlIs lnC 6 w a l.length l) (hk : k < l.length) (hm : l.length ≤ maxLen) (hg : ∀ x ∈ l, x.good) : Calls Tryz.prog 36 #[.slice a l.length cap, .int .i64 k] w fun e w' => e = .returned (.int .i64 (lineE l k)) ∧ Chg [] w w' := by
  obtain ⟨g, o, rfl, -, hbr, hcc⟩ := h.elem (Chg.refl _ _) k hk
  obtain ⟨x, hx1⟩ : ∃ x, l[k]? = some x := ⟨l[k], List.getElem?_eq_getElem hk⟩
  have hxe := (List.getElem?_eq_some_iff.1 hx1).2
  have d0 := hcc 0 (by omega)
  have d1 := hcc 1 (by omega)
  have d2 := hcc 2 (by omega)
  have d3 := hcc 3 (by omega)
  have d4 := hcc 4 (by omega)
  have d5 := hcc 5 (by omega)
  rw [hxe] at d0 d1 d2 d3 d4 d5
  have hcs := line_cases hx1
  have hgx := hg x (List.mem_of_getElem? hx1)
  have HP := Lib.hid (fun m (hkm : k = m + 1) => show w.cell? ⟨g, o + m * 6, none⟩ = some (.string (fnAt l (k - 1))) by
    have hm2 : m < l.length := by omega
    obtain ⟨g2, o2, e2, -, -, hcc2⟩ := h.elem (Chg.refl _ _) m hm2
    cases e2
    have := hcc2 0 (by omega)
    rw [Nat.add_zero] at this
    rw [this]
    unfold fnAt
    rw [hkm, Nat.add_sub_cancel, List.getElem?_eq_getElem hm2]
    rfl)
  have A1 := Lib.hid (fun w' => name_any x.fn w' hgx)
  have A2 := Lib.hid (fun w' => mvalid_any x.us w')
  have A3 := Lib.hid (fun w' => amt_any x.mi w')
  obtain ⟨fn, ⟨u1, u2, u3, u4⟩, mi⟩ := x
  simp only [lnC, List.getElem?_cons_zero, List.getElem?_cons_succ, Nat.add_zero] at d0 d1 d2 d3 d4 d5
  unfold usV at A2
  simp only at A1 A2 A3 hcs
  generalize lineE l k = R at *
  generalize fnAt l (k - 1) = pf at *
  generalize nameB fn = nb at *
  generalize usB ⟨u1, u2, u3, u4⟩ = ub at *
  generalize amtB mi = ab at *
  have hk0 : (0 : Int) ≤ (k : Int) := by omega
  have hk1 : (k : Int) < (l.length : Int) := by omega
  have hlm : (l.length : Int) ≤ 9223372036854775807 := by unfold maxLen at hm; omega
  have C1 := Lib.hid (show Chg [] w (w.alloc (.cells #[.string fn, .int .i64 u1, .int .i64 u2, .int .i64 u3, .int .i64 u4, .int .i64 mi] 74)) from (Chg.refl _ _).alloc _)
  have X1 := Lib.hid (heap_alloc_new w (.cells #[.string fn, .int .i64 u1, .int .i64 u2, .int .i64 u3, .int .i64 u4, .int .i64 mi] 74))
  clear h hm hg hcc hx1 hxe hgx hk
  generalize l.length = n at *
  rcases hcs with ⟨h1, rfl⟩ | ⟨h1, ⟨m, hkm⟩, h2, rfl⟩ | ⟨h1, h2, h3⟩
  · go_enter Tryz.func36, Tryz.ntmps36
    go_wp2_with fail
    refine (A1.out _).mono ?_; rintro e w2 ⟨rfl, hc2⟩
    have C2 := Lib.hid (C1.out.thenSame hc2)
    clear hc2
    go_wp2_with fail
    go_ret
    exact ⟨rfl, C2.out⟩
  · have dp := HP.out m hkm
    have e1 : IntKind.i64.wrap ((k : Int) - 1) = (m : Int) := by rw [IntKind.wrap_i64]; omega
    have e2 : (0 : Int) < (k : Int) := by omega
    have e3 : 0 < k := by omega
    have e4 : (m : Int) < (n : Int) := by omega
    clear hkm
    rcases h2 with h2 | ⟨h2, h4⟩
    all_goals
      go_enter Tryz.func36, Tryz.ntmps36
      go_wp2_with fail
      refine (A1.out _).mono ?_; rintro e w2 ⟨rfl, hc2⟩
      have C2 := Lib.hid (C1.out.thenSame hc2)
      have k2 := blk_cell (hc2.at (by simp) X1.out)
      have dp2 := (World.cell?_of_block (w := w) (w' := w2) (a := ⟨g, o + m * 6, none⟩) (C2.out.block g hbr (by simp))).trans dp
      clear hc2
      go_wp2_with fail
      go_quiet (fail)
      go_wp2_with fail
      go_ret
      exact ⟨rfl, C2.out.drewN _⟩
  · rcases h2 with h2 | ⟨⟨m, hkm⟩, h2, h4⟩
    · have e2 : ¬ (0 : Int) < (k : Int) := by omega
      have e3 : ¬ 0 < k := by omega
      clear h2
      rcases h3 with ⟨h5, rfl⟩ | ⟨h5, h6, rfl⟩ | ⟨h5, h6, rfl⟩
      all_goals
        go_enter Tryz.func36, Tryz.ntmps36
        go_wp2_with fail
        refine (A1.out _).mono ?_; rintro e w2 ⟨rfl, hc2⟩
        have C2 := Lib.hid (C1.out.thenSame hc2)
        have X2 := Lib.hid (hc2.at (by simp) X1.out)
        have k2 := blk_cell X2.out
        (try (have dp3 := (World.cell?_of_block (w := w) (w' := w2) (a := ⟨g, o + m * 6, none⟩) (C2.out.block g hbr (by simp))).trans dp))
        clear hc2
        go_wp2_with fail
        go_quiet (fail)
        go_wp2_with fail
        refine (A2.out _).mono ?_; rintro e w3 ⟨rfl, hc3⟩
        have C3 := Lib.hid ((C2.out.drewN _).thenSame hc3)
        have k3 := blk_cell (hc3.at (by simp) X2.out)
        clear hc3 k2
        go_wp2_with (go_at_call 37; (with_reducible refine (A3.out _).mono ?_); rintro e w4 ⟨rfl, rfl⟩)
        go_ret
        exact ⟨rfl, C3.out⟩
    · have dp := HP.out m hkm
      have e1 : IntKind.i64.wrap ((k : Int) - 1) = (m : Int) := by rw [IntKind.wrap_i64]; omega
      have e2 : (0 : Int) < (k : Int) := by omega
      have e3 : 0 < k := by omega
      have e4 : (m : Int) < (n : Int) := by omega
      clear hkm
      rcases h3 with ⟨h5, rfl⟩ | ⟨h5, h6, rfl⟩ | ⟨h5, h6, rfl⟩
      all_goals
        go_enter Tryz.func36, Tryz.ntmps36
        go_wp2_with fail
        refine (A1.out _).mono ?_; rintro e w2 ⟨rfl, hc2⟩
        have C2 := Lib.hid (C1.out.thenSame hc2)
        have X2 := Lib.hid (hc2.at (by simp) X1.out)
        have k2 := blk_cell X2.out
        (try (have dp3 := (World.cell?_of_block (w := w) (w' := w2) (a := ⟨g, o + m * 6, none⟩) (C2.out.block g hbr (by simp))).trans dp))
        clear hc2
        go_wp2_with fail
        go_quiet (fail)
        go_wp2_with fail
        refine (A2.out _).mono ?_; rintro e w3 ⟨rfl, hc3⟩
        have C3 := Lib.hid ((C2.out.drewN _).thenSame hc3)
        have k3 := blk_cell (hc3.at (by simp) X2.out)
        clear hc3 k2
        go_wp2_with (go_at_call 37; (with_reducible refine (A3.out _).mono ?_); rintro e w4 ⟨rfl, rfl⟩)
        go_ret
        exact ⟨rfl, C3.out⟩
end Go.Proofs.YtehjalgogjkdlaaGreatDoor
