/- Chapter 9: a scope of the call's own; contract: (*scope).let. Condition: the slot lies in the row. -/
import Derived.Test.YtolidiafomceiaaGreatDoorStaT
namespace Go.Proofs.YtolidiafomceiaaGreatDoor
set_option linter.unusedVariables false
set_option linter.unusedSimpArgs false
open Go.RowKit
/-- A scope: its block, its map, its two rows. -/
structure ScAt (x : Pr) (B b mb sb eb : Nat) (w : World) (S : ScS) : Prop where
  box : w.heap[b]? = some (scO x mb sb eb S.next)
  map : MapIs Prod.fst arV w mb S.vis
  sl : RowOf icI 1 w B 3 (.slice (some ⟨sb, 0, none⟩) x.nodes.length x.nodes.length) S.slots
  er : RowOf icI 1 w B 28 (.slice (some ⟨eb, 0, none⟩) x.nodes.length x.nodes.length) S.errs
structure Sep (B b mb sb eb : Nat) : Prop where
  l1 : B ≤ b
  l2 : B ≤ mb
  l3 : B ≤ sb
  l4 : B ≤ eb
  n1 : mb ≠ b
  n2 : sb ≠ b
  n3 : eb ≠ b
  n4 : sb ≠ mb
  n5 : eb ≠ mb
  n6 : eb ≠ sb
theorem icI_len1 (x : Int) : (icI x).length = 1 := rfl
section
variable {x : Pr} {B b mb sb eb : Nat} {w w' : World} {S : ScS}
theorem ScAt.kept {T : List Nat} (h : ScAt x B b mb sb eb w S) (hc : Chg T w w') (h1 : b ∉ T) (h2 : mb ∉ T) (h3 : sb ∉ T) (h4 : eb ∉ T) : ScAt x B b mb sb eb w' S :=
  ⟨hc.at h1 h.box, h.map.kept hc h2, h.sl.kept hc (by intro g hg; simp [Value.ownBlock] at hg; subst hg; exact h3), h.er.kept hc (by intro g hg; simp [Value.ownBlock] at hg; subst hg; exact h4)⟩
theorem ScAt.keptN (h : ScAt x B b mb sb eb w S) (hc : Chg [] w w') : ScAt x B b mb sb eb w' S := h.kept hc (by simp) (by simp) (by simp) (by simp)
theorem ScAt.slen (h : ScAt x B b mb sb eb w S) : S.slots.length = x.nodes.length := (RowOf.atS h.sl icI_len1).1.symm
theorem ScAt.elen (h : ScAt x B b mb sb eb w S) : S.errs.length = x.nodes.length := (RowOf.atS h.er icI_len1).1.symm
theorem ScAt.setNext (h : ScAt x B b mb sb eb w S) (hs : Sep B b mb sb eb) (v : Int) : ScAt x B b mb sb eb (w.setCell ⟨b, 3, none⟩ (.int .i64 v)) ⟨S.vis, v, S.slots, S.errs⟩ := by
  have hc : Chg [b] w (w.setCell ⟨b, 3, none⟩ (.int .i64 v)) := (Chg.refl _ _).setCell _ _ (by simp)
  refine ⟨?_, h.map.kept hc (by simp [hs.n1]), h.sl.kept hc (by intro g hg; simp [Value.ownBlock] at hg; subst hg; simp [hs.n2]), h.er.kept hc (by intro g hg; simp [Value.ownBlock] at hg; subst hg; simp [hs.n3])⟩
  have := blk_set h.box 3 (.int .i64 v)
  rw [this]
  rfl
theorem ScAt.setSlot (h : ScAt x B b mb sb eb w S) (hs : Sep B b mb sb eb) (i : Nat) (hi : i < x.nodes.length) (v : Int) : ScAt x B b mb sb eb (w.setCell ⟨sb, i, none⟩ (.int .i64 v)) ⟨S.vis, S.next, S.slots.set i v, S.errs⟩ := by
  have hc : Chg [sb] w (w.setCell ⟨sb, i, none⟩ (.int .i64 v)) := (Chg.refl _ _).setCell _ _ (by simp)
  refine ⟨hc.at (by simp; exact fun e => hs.n2 e.symm) h.box, h.map.kept hc (by simp; exact fun e => hs.n4 e.symm), ?_, h.er.kept hc (by intro g hg; simp [Value.ownBlock] at hg; subst hg; simp [hs.n6])⟩
  have := RowOf.stored h.sl h.slen.symm icI_len1 i (by rw [h.slen]; exact hi) 0 (by omega) (.int .i64 v) v rfl
  simpa using this
theorem ScAt.setErr (h : ScAt x B b mb sb eb w S) (hs : Sep B b mb sb eb) (i : Nat) (hi : i < x.nodes.length) (v : Int) : ScAt x B b mb sb eb (w.setCell ⟨eb, i, none⟩ (.int .i64 v)) ⟨S.vis, S.next, S.slots, S.errs.set i v⟩ := by
  have hc : Chg [eb] w (w.setCell ⟨eb, i, none⟩ (.int .i64 v)) := (Chg.refl _ _).setCell _ _ (by simp)
  refine ⟨hc.at (by simp; exact fun e => hs.n3 e.symm) h.box, h.map.kept hc (by simp; exact fun e => hs.n5 e.symm), h.sl.kept hc (by intro g hg; simp [Value.ownBlock] at hg; subst hg; simp; exact fun e => hs.n6 e.symm), ?_⟩
  have := RowOf.stored h.er h.elen.symm icI_len1 i (by rw [h.elen]; exact hi) 0 (by omega) (.int .i64 v) v rfl
  simpa using this
theorem ScAt.setMap (h : ScAt x B b mb sb eb w S) (hs : Sep B b mb sb eb) {l : List (ByteArray × Int)} (hm : MapIs Prod.fst arV w' mb l) (hc : Chg [mb] w w') : ScAt x B b mb sb eb w' ⟨l, S.next, S.slots, S.errs⟩ :=
  ⟨hc.at (by simp; exact fun e => hs.n1 e.symm) h.box, hm, h.sl.kept hc (by intro g hg; simp [Value.ownBlock] at hg; subst hg; simp [hs.n4]), h.er.kept hc (by intro g hg; simp [Value.ownBlock] at hg; subst hg; simp [hs.n5])⟩
theorem ScAt.slF (h : ScAt x B b mb sb eb w S) (i : Nat) : w.frozen? ⟨sb, i, none⟩ = false := (RowOf.atS h.sl icI_len1).2.2.2.2.1 i
theorem ScAt.erF (h : ScAt x B b mb sb eb w S) (i : Nat) : w.frozen? ⟨eb, i, none⟩ = false := (RowOf.atS h.er icI_len1).2.2.2.2.1 i
theorem ScAt.slC (h : ScAt x B b mb sb eb w S) (i : Nat) (hi : i < x.nodes.length) : w.cell? ⟨sb, i, none⟩ = some (.int .i64 (S.slots[i]'(by rw [h.slen]; exact hi))) := by
  have := (RowOf.atS h.sl icI_len1).2.2.2.1 i (by rw [h.slen]; exact hi) 0 (by omega)
  simpa [icI] using this
theorem ScAt.erC (h : ScAt x B b mb sb eb w S) (i : Nat) (hi : i < x.nodes.length) : w.cell? ⟨eb, i, none⟩ = some (.int .i64 (S.errs[i]'(by rw [h.elen]; exact hi))) := by
  have := (RowOf.atS h.er icI_len1).2.2.2.1 i (by rw [h.elen]; exact hi) 0 (by omega)
  simpa [icI] using this
end
set_option maxHeartbeats 16000000 in
set_option maxRecDepth 100000 in
theorem slet_any {x : Pr} {B b mb sb eb : Nat} {w : World} {S : ScS} (h : ScAt x B b mb sb eb w S) (hs : Sep B b mb sb eb) (i : Nat) (hi : i < x.nodes.length) (s : ByteArray) : Calls Tryz.prog 62 #[.pointer (some ⟨b, 0, none⟩), .int .i64 i, .string s] w fun e w' => e = .returned (.tuple #[]) ∧ ScAt x B b mb sb eb w' (letZ S i s) ∧ Chg [b, mb, sb, eb] w w' := by
  obtain ⟨W1, hW1⟩ : ∃ W1, W1 = w.setCell ⟨b, 3, none⟩ (.int .i64 (wrap64 (S.next + 1))) := ⟨_, rfl⟩
  have A1 := Lib.hid (show ScAt x B b mb sb eb W1 ⟨S.vis, wrap64 (S.next + 1), S.slots, S.errs⟩ by rw [hW1]; exact h.setNext hs _)
  have C1 := Lib.hid (show Chg [b, mb, sb, eb] w W1 by rw [hW1]; exact (Chg.refl _ _).setCell _ _ (by simp))
  obtain ⟨W2, hW2⟩ : ∃ W2, W2 = W1.setCell ⟨sb, i, none⟩ (.int .i64 S.next) := ⟨_, rfl⟩
  have A2 := Lib.hid (show ScAt x B b mb sb eb W2 ⟨S.vis, wrap64 (S.next + 1), S.slots.set i S.next, S.errs⟩ by rw [hW2]; exact A1.out.setSlot hs i hi _)
  have C2 := Lib.hid (show Chg [b, mb, sb, eb] w W2 by rw [hW2]; exact C1.out.setCell _ _ (by simp))
  have b0 := h.box
  have b1 := A1.out.box
  have b2 := A2.out.box
  unfold scO at b0 b1 b2
  have k0 := blk_cell b0
  have k1 := blk_cell b1
  have k2 := blk_cell b2
  have f0 := blk_free b0
  have g1 := fun j => A1.out.slF j
  have g2 := fun j => A2.out.erF j
  have v1 := A1.out.slC i hi
  have v2 := A2.out.erC i hi
  have hi' : (i : Int) < (x.nodes.length : Int) := by omega
  have hi0 : (0 : Int) ≤ (i : Int) := by omega
  obtain ⟨R, hR⟩ : ∃ R, R = letZ S i s := ⟨_, rfl⟩
  rw [← hR]
  unfold letZ at hR
  have HR := Lib.hid hR
  have H := Lib.hid h
  clear b0 b1 b2 hR h
  go_enter Tryz.func62, Tryz.ntmps62
  go_upto_region 2 with fail
  rw [← hW1]
  clear hW1 k0 f0
  go_upto_region 3 with fail
  rw [← hW2]
  clear hW2 k1 g1 v1
  cases hls : (lookL Prod.fst S.vis s).isSome
  · by_cases hn : S.next = 32
    · have HE := Lib.hid (show R = ⟨S.vis, wrap64 (S.next + 1), S.slots.set i S.next, S.errs.set i 3⟩ by rw [HR.out, hls, if_neg (by simp), if_pos hn])
      have A3 := Lib.hid (A2.out.setErr hs i hi 3)
      have C3 := Lib.hid (C2.out.setCell ⟨eb, i, none⟩ (.int .i64 3) (by simp))
      go_wp2_with (at_lookup; refine wpl_lookup_ok _ rfl _ _ 69 rfl 9 3 Tryz.underlying69 Tryz.underlying9 (zeroIS _) mb _ rfl A2.out.map s rfl ?_; rw [hls])
      ((try simp only [Exit.inBlock, Exit.then]); refine bodyPost_ret (results_none rfl _ _ _) rfl ?_)
      exact ⟨rfl, by rw [HE.out]; exact A3.out, C3.out⟩
    · have HE := Lib.hid (show R = ⟨putL Prod.fst S.vis (s, S.next), wrap64 (S.next + 1), S.slots.set i S.next, S.errs⟩ by rw [HR.out, hls, if_neg (by simp), if_neg hn])
      go_wp2_with (first | (at_lookup; refine wpl_lookup_ok _ rfl _ _ 69 rfl 9 3 Tryz.underlying69 Tryz.underlying9 (zeroIS _) mb _ rfl A2.out.map s rfl ?_; rw [hls]) | (refine wpl_store _ rfl _ _ _ 69 rfl 9 3 Tryz.underlying69 Tryz.underlying9 mb _ rfl A2.out.map (s, S.next) rfl rfl ?_; intro w5 hm5 hc5 hz5; have A5 := Lib.hid (A2.out.setMap hs hm5 hc5); have C5 := Lib.hid (C2.out.then hc5 (by simp)); clear hm5 hc5 hz5))
      go_end0
      exact ⟨rfl, by rw [HE.out]; exact A5.out, C5.out⟩
  · have HE := Lib.hid (show R = ⟨S.vis, wrap64 (S.next + 1), S.slots.set i S.next, S.errs.set i 6⟩ by rw [HR.out, hls, if_pos rfl])
    have A3 := Lib.hid (A2.out.setErr hs i hi 6)
    have C3 := Lib.hid (C2.out.setCell ⟨eb, i, none⟩ (.int .i64 6) (by simp))
    go_wp2_with (at_lookup; refine wpl_lookup_ok _ rfl _ _ 69 rfl 9 3 Tryz.underlying69 Tryz.underlying9 (zeroIS _) mb _ rfl A2.out.map s rfl ?_; rw [hls])
    ((try simp only [Exit.inBlock, Exit.then]); refine bodyPost_ret (results_none rfl _ _ _) rfl ?_)
    exact ⟨rfl, by rw [HE.out]; exact A3.out, C3.out⟩
end Go.Proofs.YtolidiafomceiaaGreatDoor
