/- Chapter 19: contracts: same of equal lists; awake. No condition. -/
import Derived.Test.YtmmhcacpehpjdaaAlaF
namespace Go.Proofs.Ytmmhcacpehpjdaa
set_option linter.unusedVariables false
set_option linter.unusedSimpArgs false
open Go.RowKit

set_option maxHeartbeats 2000000 in
set_option maxRecDepth 100000 in
theorem same_any (a b : Option Addr) (len ca cb : Nat) (l : List Pt) (w : World) (h1 : SlIs pCells 2 w a len l) (h2 : SlIs pCells 2 w b len l) (hm : len ≤ maxLen) : Calls Try.prog 25 #[.slice a len ca, .slice b len cb] w fun e w' => e = .returned (.bool true) ∧ Chg [] w w' := by
  have hl := Lib.hid h1.1
  have H1 := Lib.hid h1
  have H2 := Lib.hid h2
  unfold maxLen at hm
  clear h1 h2
  go_enter Try.func25, Try.ntmps25
  go_wp2_with fail
  go_loopw [13] (fun i wr => ∃ k : Nat, i = .int .i64 k ∧ k ≤ len ∧ Chg [] w wr) (fun i _ => len - (intOf i).toNat)
  case atStart => exact ⟨0, rfl, Nat.zero_le _, Chg.refl _ _⟩
  case round =>
    obtain ⟨k, rfl, hkl, hch⟩ := hrel
    have Hch := Lib.hid hch
    clear hch
    by_cases hk : k < len
    · have hk2 : k < l.length := by rw [hl.out]; exact hk
      obtain ⟨b1, o1, rfl, -, hb1, c1⟩ := H1.out.elem Hch.out k hk2
      obtain ⟨b2, o2, rfl, -, hb2, c2⟩ := H2.out.elem Hch.out k hk2
      obtain ⟨x, hx⟩ : ∃ x, x = l[k] := ⟨_, rfl⟩
      rw [← hx] at c1 c2
      have p0 := c1 0 (by omega)
      have p1 := c1 1 (by omega)
      have q0 := c2 0 (by omega)
      have q1 := c2 1 (by omega)
      simp only [pCells, List.getElem?_cons_zero, List.getElem?_cons_succ, Nat.add_zero] at p0 p1 q0 q1
      have hk0 : (0 : Int) ≤ (k : Int) := by omega
      have hk1 : (k : Int) < (len : Int) := by omega
      clear hx c1 c2
      go_wp2_with fail
      go_quiet (fail)
      go_wp2_with fail
      exact ⟨⟨k + 1, by go_num, by omega, Hch.out.drewN _⟩, by simp [intOf]; omega⟩
    · go_wp2_with fail
      go_ret
      exact ⟨rfl, Hch.out⟩

def exR : Rd := ⟨1, true, 1, 5, 1, 2, false⟩
def exL : List Pt := [⟨7, 0⟩, ⟨8, 0⟩]
def exC : List Pt := [⟨8, 1⟩, ⟨9, 2⟩, ⟨13, 1⟩, ⟨14, 2⟩, ⟨18, 1⟩]
theorem ex1 : atS exR exL 10 = (2, 0) := by kernel_rfl
theorem ex2 : atS exR exL 20 = (1, 0) := by kernel_rfl
theorem ex3 : changesS exR exL 8 19 = (exC, 0) := by kernel_rfl

set_option maxHeartbeats 2000000 in
set_option maxRecDepth 100000 in
theorem awake_any (w : World) : Calls Try.prog 18 #[] w fun e w' => e = .returned (.bool true) ∧ Chg [] w w' := by
  have hb1 := heap_alloc_new w (.cells #[.int .i64 1, .bool true, .int .i64 1, .int .i64 5, .int .i64 1, .int .i64 2, .bool false] 24)
  have hb2 := heap_alloc_new (w.alloc (.cells #[.int .i64 1, .bool true, .int .i64 1, .int .i64 5, .int .i64 1, .int .i64 2, .bool false] 24)) (.cells #[.int .i64 7, .int .i64 0, .int .i64 8, .int .i64 0] 47)
  obtain ⟨w2, hw2⟩ : ∃ w2, w2 = (w.alloc (.cells #[.int .i64 1, .bool true, .int .i64 1, .int .i64 5, .int .i64 1, .int .i64 2, .bool false] 24)).alloc (.cells #[.int .i64 7, .int .i64 0, .int .i64 8, .int .i64 0] 47) := ⟨_, rfl⟩
  have Hc0 : Hid (Chg [] w w2) := by rw [hw2]; exact ((Chg.refl [] w).alloc _).alloc _
  have hb3 := blk_alloc (o' := (.cells #[.int .i64 7, .int .i64 0, .int .i64 8, .int .i64 0] 47)) hb1
  rw [World.size_alloc] at hb2
  rw [← hw2] at hb2 hb3
  have hsl : SlIs pCells 2 w2 (some ⟨w.heap.size + 1, 0, none⟩) 2 exL := SlIs.ofBlock (cf := pCells) exL hb2 pLen rfl
  have Hsl := Lib.hid hsl
  have Hb3 := Lib.hid hb3
  clear hb1 hb2 hb3 hsl
  have A1 := at_any exR (some ⟨w.heap.size + 1, 0, none⟩) 2 2 exL 10 w2 Hsl.out (by decide)
  rw [ex1] at A1
  have A1 := Lib.hid A1
  go_enter Try.func18, Try.ntmps18
  go_wp2_with fail
  rw [← hw2]
  clear hw2
  refine A1.out.mono ?_; rintro e w3 ⟨rfl, hc3⟩
  have p3 := blk_cell (hc3.at (by simp) Hb3.out)
  have A2 := at_any exR (some ⟨w.heap.size + 1, 0, none⟩) 2 2 exL 20 w3 (Hsl.out.kept hc3) (by decide)
  rw [ex2] at A2
  have A2 := Lib.hid A2
  have Hc3 := Lib.hid hc3
  clear hc3
  go_wp2_with fail
  clear p3
  refine A2.out.mono ?_; rintro e w4 ⟨rfl, hc4⟩
  have Hc4 := Lib.hid (Hc3.out.thenSame hc4)
  have p4 := blk_cell (Hc4.out.at (by simp) Hb3.out)
  have A3 := changes_any exR (some ⟨w.heap.size + 1, 0, none⟩) 2 2 exL 8 19 w4 (Hsl.out.kept Hc4.out) (by decide)
  rw [ex3] at A3
  have A3 := Lib.hid A3
  clear hc4
  go_wp2_with fail
  clear p4
  refine A3.out.mono ?_; rintro e w5 ⟨v, rfl, hr5, hc5⟩
  have Hc5 := Lib.hid (Hc4.out.thenSame hc5)
  obtain ⟨av, cv, hv⟩ := RowOf.shape hr5
  subst hv
  have hs5 := (RowOf.sl hr5 pLen).1
  have hb5 := heap_alloc_new w5 (.cells #[.int .i64 8, .int .i64 1, .int .i64 9, .int .i64 2, .int .i64 13, .int .i64 1, .int .i64 14, .int .i64 2, .int .i64 18, .int .i64 1] 47)
  have A4 := Lib.hid (same_any av (some ⟨w5.heap.size, 0, none⟩) 5 cv 5 exC _ (hs5.kept ((Chg.refl [] w5).alloc (.cells #[.int .i64 8, .int .i64 1, .int .i64 9, .int .i64 2, .int .i64 13, .int .i64 1, .int .i64 14, .int .i64 2, .int .i64 18, .int .i64 1] 47))) (SlIs.ofBlock (cf := pCells) exC hb5 pLen rfl) (by decide))
  clear hr5 hc5 hs5 hb5
  go_wp2_with fail
  refine A4.out.mono ?_; rintro e w6 ⟨rfl, hc6⟩
  have Hc6 := Lib.hid hc6
  clear hc6
  go_wp2_with fail
  go_ret
  exact ⟨rfl, Hc0.out.thenSame ((Hc5.out.alloc _).thenSame Hc6.out)⟩
end Go.Proofs.Ytmmhcacpehpjdaa
