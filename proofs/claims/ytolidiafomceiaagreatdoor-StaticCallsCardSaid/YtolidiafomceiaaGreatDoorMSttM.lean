/- Chapter 9: contracts: slices.Index, Contains on ints. No condition. Chapter 9: contract: Reachable. Condition: the program came in well; the table of Itoa lies as the program lays it. Chapter 9: contract: small. No condition. Chapter 9: StaticReaches: plain laws: names stand once; marks. No condition. Chapter 9: StaticReaches: the walk. Condition: the table of Itoa lies as the program lays it. -/
import Derived.Test.YtolidiafomceiaaGreatDoorMStaR
import Derived.Test.YtolidiafomceiaaGreatDoorMSttF
import Derived.Test.YtolidiafomceiaaGreatDoorAppL
import Derived.Test.YtolidiafomceiaaGreatDoorSttA
import Derived.Test.YtolidiafomceiaaGreatDoorMSttB
namespace Go.Proofs.YtolidiafomceiaaGreatDoor
set_option linter.unusedVariables false
set_option linter.unusedSimpArgs false
open Go.RowKit
set_option maxHeartbeats 4000000 in
set_option maxRecDepth 100000 in
theorem iindex_any {a : Option Addr} {c : Nat} {l : List Int} (s : Int) {w : World} (h : InIs icI 1 w a c l) :
    Calls Tryz.prog 55 #[.slice a l.length c, .int .i64 s] w fun e w' => e = .returned (.int .i64 (idxFrom (fun x => s == x) l 0)) ∧ Chg [] w w' := by
  obtain ⟨R, hR⟩ : ∃ R, R = idxFrom (fun x => s == x) l 0 := ⟨_, rfl⟩
  rw [← hR]
  have HR := Lib.hid hR
  have H := Lib.hid h
  have hm : (l.length : Int) ≤ 9223372036854775807 := by have h1 := h.2.1; have h2 := h.2.2.1; unfold maxLen at h2; omega
  clear h hR
  go_enter Tryz.func55, Tryz.ntmps55
  go_wp2_with fail
  go_loopw [8] (fun i wr => ∃ k : Nat, i = .int .i64 k ∧ k ≤ l.length ∧ Hid (R = idxFrom (fun x => s == x) (l.drop k) (k : Int)) ∧ Hid (Chg [] w wr)) (fun i _ => l.length - (intOf i).toNat)
  case atStart => exact ⟨0, rfl, Nat.zero_le _, Lib.hid HR.out, Lib.hid (Chg.refl _ _)⟩
  case round =>
    obtain ⟨k, rfl, hkl, HS, D⟩ := hrel
    by_cases hk : k < l.length
    · obtain ⟨b, off, rfl, -, -, hcc⟩ := H.out.1.elem D.out k hk
      have u1 := hcc 0 (by omega)
      simp only [icI, List.getElem?_cons_zero, Nat.add_zero, Nat.mul_one] at u1
      have HS2 := HS.out
      rw [List.drop_eq_getElem_cons hk, idxFrom] at HS2
      generalize l[k] = x at *
      have hk0 : (0 : Int) ≤ (k : Int) := by omega
      have hk1 : (k : Int) < (l.length : Int) := by omega
      clear hcc
      cases hq : (s == x)
      · rw [hq, if_neg (by simp)] at HS2
        have HS3 := Lib.hid HS2
        clear HS2
        go_wp2_with fail
        exact ⟨⟨k + 1, by go_num, by omega, Lib.hid (by rw [HS3.out]; rfl), D⟩, by simp [intOf]; omega⟩
      · rw [hq, if_pos rfl] at HS2
        have HE := Lib.hid HS2
        clear HS2
        go_wp2_with fail
        go_ret
        exact ⟨retI HE.out.symm, D.out⟩
    · have hks : k = l.length := by omega
      have HS2 := HS.out
      rw [hks, List.drop_length, idxFrom] at HS2
      have HE := Lib.hid HS2
      clear hks HS2
      go_wp2_with fail
      go_ret
      exact ⟨retI HE.out.symm, D.out⟩
set_option maxHeartbeats 4000000 in
set_option maxRecDepth 100000 in
theorem icont_any {a : Option Addr} {c : Nat} {l : List Int} (s : Int) {w : World} (h : InIs icI 1 w a c l) :
    Calls Tryz.prog 41 #[.slice a l.length c, .int .i64 s] w fun e w' => e = .returned (.bool (l.any (fun x => s == x))) ∧ Chg [] w w' := by
  have A := Lib.hid (iindex_any s h)
  have hn := idxFrom_any (p := fun x => s == x) (l := l) (Int.le_refl 0)
  generalize l.any (fun x => s == x) = q at *
  generalize idxFrom (fun x => s == x) l 0 = n at *
  have HN := Lib.hid hn
  clear hn
  go_enter Tryz.func41, Tryz.ntmps41
  go_wp2_with (go_at_call 55; (with_reducible refine Calls.mono A.out ?_); rintro e w2 ⟨rfl, hc⟩)
  go_ret
  exact ⟨by rw [← HN.out]; rfl, hc⟩
end Go.Proofs.YtolidiafomceiaaGreatDoor
namespace Go.Proofs.YtolidiafomceiaaGreatDoor
set_option linter.unusedVariables false
set_option linter.unusedSimpArgs false
open Go.RowKit
/-- What Reachable returns: what main reaches, ascending. -/
structure ReachL (p : PPr) (l : List Int) : Prop where
  mem : ∀ f, f ∈ l ↔ ReachZ p f
  nd : l.Nodup
  up : l.Pairwise (· ≤ ·)
  rng : ∀ f ∈ l, ∃ m : Nat, f = (m : Int) ∧ m < p.funcs.length
def ReachPost (p : PPr) (w : World) (e : Ending) (w' : World) : Prop := ∃ l, IntsPost w l e w' ∧ if (studyZ p).2.2.2 = 0 then ReachL p l else l = []
theorem funcsZ_main {x : Pr} (h : (funcsZ x.p).2 = 0) : ∃ m : Nat, idxFrom (fun f : Fn' => f.name == ⟨#[109, 97, 105, 110]⟩) x.funcs 0 = (m : Int) ∧ m < x.funcs.length := by
  refine find_pos ?_
  rw [← find_p]
  unfold funcsZ at h
  cases hg : funcsGo x.p x.p.funcs 0 with
  | some b => rw [hg] at h; exact absurd h (show ¬ ((6 : Int) = 0) by omega)
  | none =>
    rw [hg] at h
    have h2 : (mainZ x.p).2 = 0 := h
    refine Int.not_lt.1 fun hlt => ?_
    unfold mainZ at h2
    rw [if_pos (show idxFrom (fun g : PFn => g.name == mainS) x.p.funcs 0 < 0 from hlt)] at h2
    exact absurd h2 (show ¬ ((5 : Int) = 0) by omega)
theorem Part.start {p : PPr} {m : Nat} (h : idxFrom (fun g : PFn => g.name == mainS) p.funcs 0 = (m : Int)) (hm : m < p.funcs.length) : Part p 0 [(m : Int)] := by
  refine ⟨by simp, ?_, by rw [h]; simp, ?_, fun j _ hj => absurd hj (Nat.not_lt_zero j)⟩
  · intro f hf
    simp at hf
    exact ⟨m, hf, hm⟩
  · intro f hf
    simp at hf
    rw [hf, ← h]
    exact .main
/-- A row of one element in a block. -/
theorem RowOf.one {α : Type} {cf : α → List Value} {sz : Nat} {w : World} {base g : Nat} {e : TypeId} {cur : Array Value} (y : α) (hc : (cf y).length = sz) (hb : base ≤ g) (h : w.heap[g]? = some (.cells cur e (0, 0))) (hl : cur.toList = cf y) : RowOf cf sz w base e (.slice (some ⟨g, 0, none⟩) 1 1) [y] :=
  ⟨by simp [hc], .inr ⟨g, 1, cur, rfl, hb, h, Nat.le_refl _, by unfold maxLen; omega, by rw [← Array.length_toList, hl, hc, Nat.one_mul], by rw [hl]; simp; exact List.take_of_length_le (by rw [hc]; exact Nat.le_refl _)⟩⟩
theorem callsZ_len (x : Pr) (hn : x.nodes.length ≤ 600) (f : Int) : (callsZ x.p f).length ≤ 600 := by
  unfold callsZ
  split
  · rw [List.length_mergeSort]
    unfold callRaw pickZ
    refine Nat.le_trans (List.length_filter_le _ _) ?_
    rw [List.length_map]
    refine Nat.le_trans (textsZ_len _ _) ?_
    rw [List.length_drop, List.length_take, show x.p.nodes.length = x.nodes.length from List.length_map _]
    omega
  · simp
theorem Part.reachL {p : PPr} {i : Nat} {o : List Int} (h : Part p i o) (hi : i = o.length) : ReachL p (o.mergeSort leI) := by
  refine ⟨fun f => ?_, ?_, leI_sorted o, fun f hf => ?_⟩
  · rw [(List.mergeSort_perm _ _).mem_iff]; exact h.all hi f
  · exact (List.mergeSort_perm _ _).nodup_iff.2 h.nd
  · rw [(List.mergeSort_perm _ _).mem_iff] at hf; exact h.rng f hf
set_option maxHeartbeats 16000000 in
set_option maxRecDepth 100000 in
theorem reach_any (x : Pr) (w : World) (h : PrIn w x) (hg : goodPr x) (ht : TabW w) : Calls Tryz.prog 24 #[.agg (prC x).toArray] w (ReachPost x.p w) := by
  obtain ⟨W1, hW1⟩ : ∃ W1, W1 = w.alloc (prO x) := ⟨_, rfl⟩
  have C1 := Lib.hid (show Chg [] w W1 by rw [hW1]; exact (Chg.refl _ _).alloc _)
  have B1 := Lib.hid (show W1.heap[w.heap.size]? = some (prO x) by rw [hW1]; exact heap_alloc_new _ _)
  have A := Lib.hid (check_any x W1 (h.kept C1.out) hg (ht.kept C1.out))
  have FA := Lib.hid (fun w' (hc : Chg [] w w') => find_any x ⟨#[109, 97, 105, 110]⟩ w' (h.kept hc))
  have CA := Lib.hid (fun w' (hc : Chg [] w w') (f : Int) => calls_any x f w' (h.kept hc) hg (ht.kept hc))
  have N := Lib.hid (fun (e : (studyZ x.p).2.2.2 = 0) => And.intro (study_nodes e) (funcsZ_main (study_zero e).2))
  have hfe : x.p.funcs.length = x.funcs.length := List.length_map _
  unfold prO at hW1 B1
  have k1 := blk_cell B1.out
  simp only [prC] at A FA CA ⊢
  unfold ReachPost
  generalize hS : (studyZ x.p).2.2 = S at *
  obtain ⟨ea, er⟩ := S
  simp only at A N ⊢
  clear h hg ht hS
  by_cases he : er = 0
  · obtain ⟨⟨hn6, hf16⟩, m, hm1, hm2⟩ := N.out he
    have hPS := Part.start (p := x.p) (m := m) (by rw [find_p]; exact hm1) (by rw [hfe]; exact hm2)
    rw [hm1] at FA
    simp only [if_pos he]
    have heb : (er != 0) = false := by rw [he]; rfl
    have HFE := Lib.hid hfe
    have HPS := Lib.hid hPS
    clear N he hm1 hfe hPS
    go_enter Tryz.func24, Tryz.ntmps24
    go_upto_region 1 with fail
    rw [← hW1]
    clear hW1
    go_wp2_with (first | (go_at_call 10; (with_reducible refine Calls.mono A.out ?_); rintro e w2 ⟨rfl, hc⟩; have C2 := Lib.hid (C1.out.thenSame hc); have B2 := Lib.hid (hc.at (by simp) B1.out); have k2 := blk_cell B2.out; clear k1 hc) | (go_at_call 38; (with_reducible refine Calls.mono (FA.out _ C2.out) ?_); rintro e w3 ⟨rfl, hc⟩; have C3 := Lib.hid (C2.out.thenSame hc); have B3 := Lib.hid (hc.at (by simp) B2.out); clear k2 hc))
    obtain ⟨W4, hW4⟩ : ∃ W4, W4 = w3.alloc (.cells #[.int .i64 (m : Int)] 3) := ⟨_, rfl⟩
    have N4 := Lib.hid (show Chg [] w3 W4 by rw [hW4]; exact (Chg.refl _ _).alloc _)
    have R4 := Lib.hid (RowOf.one (cf := icI) (sz := 1) (base := w3.heap.size) (m : Int) rfl (Nat.le_refl _) (show W4.heap[w3.heap.size]? = some (.cells #[.int .i64 (m : Int)] 3 (0, 0)) from by rw [hW4]; exact heap_alloc_new _ _) rfl)
    have C4 := Lib.hid (C3.out.thenSame N4.out)
    have B4 := Lib.hid (N4.out.at (by simp) B3.out)
    rw [← hW4]
    clear hW4
    have CL := Lib.hid (fun f => callsZ_len x hn6 f)
    go_loopw [5, 6] (fun u v wi => ∃ (i : Nat) (oa : Option Addr) (oc : Nat) (o : List Int), u = .slice oa o.length oc ∧ v = .int .i64 i ∧ i ≤ o.length ∧ Hid (Part x.p i o) ∧ Hid (RowOf icI 1 wi w3.heap.size 3 (.slice oa o.length oc) o) ∧ Hid (Chg [] w wi) ∧ Hid (wi.heap[w.heap.size]? = some (.cells #[.slice x.na x.nodes.length x.nc, .slice x.fa x.funcs.length x.fc] 25 (0, 0))) ∧ Hid (w3.heap.size ≤ wi.heap.size)) (fun _ v _ => x.funcs.length - (intOf v).toNat)
    case atStart => exact ⟨0, _, 1, [(m : Int)], rfl, rfl, Nat.zero_le _, HPS, R4, C4, B4, Lib.hid N4.out.size⟩
    case round =>
      obtain ⟨i, oa, oc, o, rfl, rfl, hi, HQ, Row, C, B, Zw⟩ := hrel
      have hi0 : (0 : Int) ≤ (i : Int) := by omega
      have hol : o.length ≤ 16 := by have h1 := HQ.out.len; rw [HFE.out] at h1; omega
      by_cases hil : i < o.length
      · have hil' : (i : Int) < (o.length : Int) := by omega
        have hif : i < x.funcs.length := by have h1 := HQ.out.len; rw [HFE.out] at h1; omega
        obtain ⟨b2, o2, rfl, -, hb2, hc2⟩ := (RowOf.sl Row.out icI_len1).1.elem (Chg.refl [] _) i hil
        have u0 := hc2 0 (by omega)
        simp only [icI, List.getElem?_cons_zero, Nat.add_zero, Nat.mul_one] at u0
        have HST := Lib.hid (HQ.out.step hil)
        have qi : IntKind.i64.wrap ((i : Int) + 1) = (i : Int) + 1 := IntWalk.i64_in _ (by omega)
        generalize o[i] = f at *
        have VK := Lib.hid (fun (w' : World) (hc : Chg [] wr w') => show w'.cell? ⟨w.heap.size, 0, none⟩ = some (.slice x.na x.nodes.length x.nc) ∧ w'.cell? ⟨w.heap.size, 1, none⟩ = some (.slice x.fa x.funcs.length x.fc) ∧ w'.cell? ⟨b2, o2 + i, none⟩ = some (.int .i64 f) from by
          have h1 := blk_cell (hc.at (by simp) B.out)
          exact ⟨h1 0, h1 1, (World.cell?_of_block (w := wr) (hc.block b2 hb2 (by simp))).trans u0⟩)
        have CF := Lib.hid (fun w' (hc : Chg [] w w') => CA.out w' hc f)
        have HLL := Lib.hid (CL.out f)
        generalize callsZ x.p f = L at *
        clear hc2 u0
        go_wp2_with fail
        go_region_held3 (fun w' => w'.cell? ⟨w.heap.size, 0, none⟩ = some (.slice x.na x.nodes.length x.nc) ∧ w'.cell? ⟨w.heap.size, 1, none⟩ = some (.slice x.fa x.funcs.length x.fc) ∧ w'.cell? ⟨b2, o2 + i, none⟩ = some (.int .i64 f))
          (first | exact VK.out _ ((Chg.refl _ _).drew) | exact VK.out _ KC.out)
          (first | (go_at_call 22; (with_reducible refine Calls.mono (CF.out _ (C.out.thenSame (Chg.refl _ _).drew)) ?_); rintro e w5 ⟨a, c, rfl, hr, hc⟩; have R5 := Lib.hid hr; have KC := Lib.hid (show Chg [] wr w5 from ((Chg.refl _ _).drew).thenSame hc); clear hr hc) | fail)
        have C5 := Lib.hid (C.out.thenSame KC.out)
        have B5 := Lib.hid (KC.out.at (by simp) B.out)
        have Row5 := Lib.hid (RowOf.kept Row.out KC.out (by simp))
        have HG := Lib.hid (fun g (hg : (Value.slice a L.length c).ownBlock = some g) => (R5.out.block g hg))
        have HO := Lib.hid (fun g (hg : (Value.slice (some ⟨b2, o2, none⟩) o.length oc).ownBlock = some g) => (Row.out.block g hg))
        have hll : L.length ≤ 600 := HLL.out
        have hlli : (L.length : Int) ≤ 600 := by omega
        have Z5 := Lib.hid KC.out.size
        go_wp2_with fail
        go_loopw [5, 32] (fun u v wi => ∃ (k : Nat) (ca : Option Addr) (cc : Nat) (o' : List Int), u = .slice ca o'.length cc ∧ v = .int .i64 k ∧ k ≤ L.length ∧ o'.length ≤ o.length + k ∧ Hid (addAll o L = addAll o' (L.drop k)) ∧ Hid (RowOf icI 1 wi w3.heap.size 3 (.slice ca o'.length cc) o') ∧ Hid (RowOf icI 1 wi wr.heap.size 3 (.slice a L.length c) L) ∧ Hid (Chg [] w wi) ∧ Hid (wi.heap[w.heap.size]? = some (.cells #[.slice x.na x.nodes.length x.nc, .slice x.fa x.funcs.length x.fc] 25 (0, 0))) ∧ Hid (∀ g, g ∈ (Value.slice ca o'.length cc).ownBlock.toList → (Value.slice a L.length c).ownBlock ≠ some g) ∧ Hid (w5.heap.size ≤ wi.heap.size)) (fun _ v _ => L.length - (intOf v).toNat)
        case atStart => exact ⟨0, some ⟨b2, o2, none⟩, oc, o, rfl, rfl, Nat.zero_le _, by omega, Lib.hid rfl, Row5, R5, C5, B5, Lib.hid (fun g hg e => by have h1 := HO.out g (by simpa using hg); have h2 := (HG.out g e).1; simp at h2; omega), Lib.hid (Nat.le_refl _)⟩
        case round =>
          obtain ⟨k, ca, cc, o', rfl, rfl, hk, ho', HV, Oo, Rl, C6, B6, NE, Zi⟩ := hrel
          have hzi : w5.heap.size ≤ wr.heap.size := Zi.out
          have hz3 : w3.heap.size ≤ w5.heap.size := by have h1 := Zw.out; have h2 := Z5.out; omega
          have hk0 : (0 : Int) ≤ (k : Int) := by omega
          by_cases hkl : k < L.length
          · have hkl' : (k : Int) < (L.length : Int) := by omega
            obtain ⟨b4, o4, e4, -, -, hc4⟩ := (RowOf.sl Rl.out icI_len1).1.elem (Chg.refl [] _) k hkl
            have u4 := hc4 0 (by omega)
            simp only [icI, List.getElem?_cons_zero, Nat.add_zero, Nat.mul_one] at u4
            have HV2 := HV.out
            rw [List.drop_eq_getElem_cons hkl, addAll_cons] at HV2
            have qk : IntKind.i64.wrap ((k : Int) + 1) = (k : Int) + 1 := IntWalk.i64_in _ (by omega)
            generalize L[k] = g at *
            have AC := Lib.hid (icont_any g (InIs.ofRow Oo.out icI_len1).2)
            generalize o'.any (fun y => g == y) = q at *
            clear hc4
            rw [e4]
            cases q
            · rw [if_neg (by simp)] at HV2
              have HV3 := Lib.hid HV2
              clear HV2
              go_wp2_with (first | (go_at_call 41; (with_reducible refine Calls.mono AC.out ?_); rintro e w7 ⟨rfl, hc⟩; have D7 := Lib.hid hc; have z7 := hc.size; clear hc) | (at_builtin; refine wpl_appendL rfl _ _ 32 rfl w3.heap.size 3 _ 8 Tryz.underlying32 intInfoS rfl (by decide) icI_len1 icI_one1 (.slice ca o'.length cc) o' rfl (RowOf.kept Oo.out (D7.out.alloc _) (by simp)) w7.heap.size _ g _ _ _ rfl (heap_alloc_new w7 _) rfl (by unfold maxLen; omega) (by omega) (by simp; omega) ?_; intro g9 cap9 w9 hr9 hg9 ho9 hl9; have Hr9 := Lib.hid hr9; have Hg9 := Lib.hid hg9; have Ho9 := Lib.hid ho9; clear ho9 hl9; clear hr9 hg9))
              have hT := Lib.hid (fun g (hg : g ∈ (Value.slice ca o'.length cc).ownBlock.toList) => (Oo.out.block g (by simpa using hg)).1)
              have C9 := Lib.hid (((C6.out.thenSame D7.out).alloc (.cells #[.int .i64 g] 3)).then (Chg.ofRow Hg9.out) (fun y hg hl => by have h1 := hT.out _ hg; have := C3.out.size; omega))
              have B9 := Lib.hid ((Chg.ofRow Hg9.out).at (fun hg => by have h1 := hT.out _ hg; have := lt_of_heap B3.out; omega) (blk_alloc (o' := .cells #[.int .i64 g] 3) (D7.out.at (by simp) B6.out)))
              have R9 := Lib.hid (RowOf.kept (RowOf.kept Rl.out (D7.out.alloc (.cells #[.int .i64 g] 3)) (by simp)) (Chg.ofRow Hg9.out) (fun y hy hm => NE.out y hm hy))
              have hz9 : w5.heap.size ≤ w9.heap.size := by have h1 := (Chg.ofRow Hg9.out).size; simp at h1; omega
              have NE9 := Lib.hid (fun (y : Nat) (hy : y ∈ (Value.slice (some ⟨g9, 0, none⟩) (o' ++ [g]).length cap9).ownBlock.toList) (e : (Value.slice a L.length c).ownBlock = some y) => show False from by
                have hyg : y = g9 := by simpa [Value.ownBlock] using hy
                subst hyg
                rcases Ho9.out with h | h
                · exact NE.out y (by simpa using h) e
                · have h1 := (HG.out y e).2
                  simp at h
                  omega)
              have Hr10 := Lib.hid (by have := Hr9.out; rw [show o'.length + 1 = (o' ++ [g]).length by simp] at this; exact this)
              exact ⟨⟨k + 1, some ⟨g9, 0, none⟩, cap9, o' ++ [g], by simp, rfl, by omega, by simp; omega, HV3, Hr10, (by first | exact R9 | (rw [e4] at R9; exact R9)), C9, B9, (by first | exact NE9 | (rw [e4] at NE9; exact NE9)), Lib.hid hz9⟩, by simp [intOf]; omega⟩
            · rw [if_pos rfl] at HV2
              have HV3 := Lib.hid HV2
              clear HV2
              go_wp2_with (go_at_call 41; (with_reducible refine Calls.mono AC.out ?_); rintro e w7 ⟨rfl, hc⟩; have O7 := Lib.hid (RowOf.kept Oo.out hc (by simp)); have R7 := Lib.hid (RowOf.kept Rl.out hc (by simp)); have C7 := Lib.hid (C6.out.thenSame hc); have B7 := Lib.hid (hc.at (by simp) B6.out); have Z7 := Lib.hid (Nat.le_trans hzi hc.size); clear hc)
              exact ⟨⟨k + 1, ca, cc, o', rfl, rfl, by omega, by omega, HV3, O7, (by first | exact R7 | (rw [e4] at R7; exact R7)), C7, B7, (by first | exact NE | (rw [e4] at NE; exact NE)), Z7⟩, by simp [intOf]; omega⟩
          · have hke : k = L.length := by omega
            have HV2 := HV.out
            rw [hke, List.drop_length, show addAll o' [] = o' from rfl] at HV2
            have HP2 := Lib.hid (by have := HST.out; rw [HV2] at this; exact this)
            have hkl' : ¬ (k : Int) < (L.length : Int) := by omega
            have hpre := Lib.hid (show o.length ≤ o'.length by rw [← HV2]; exact addAll_pre.length_le)
            clear HV2 hke
            go_wp2_with fail
            exact ⟨⟨i + 1, ca, cc, o', rfl, rfl, by have := hpre.out; omega, HP2, Oo, C6, B6, Lib.hid (Nat.le_trans hz3 hzi)⟩, by simp [intOf]; omega⟩
      · have hie : i = o.length := by omega
        have hil' : ¬ (i : Int) < (o.length : Int) := by omega
        have HRL := Lib.hid (HQ.out.reachL hie)
        have AS := Lib.hid (sort_anyI Row.out (by omega))
        clear hie
        go_wp2_with (go_at_call 39; (with_reducible refine Calls.mono AS.out ?_); rintro e w6 ⟨rfl, hr, hc⟩; have C6 := Lib.hid (C.out.then hc (fun g hg hl => by have h1 := (Row.out.block g (by simpa using hg)).1; have := C3.out.size; omega)); have R6 := Lib.hid (RowOf.mono hr C3.out.size); clear hr hc)
        go_ret
        exact ⟨o.mergeSort leI, ⟨oa, oc, by rw [List.length_mergeSort]; rfl, by rw [List.length_mergeSort]; exact R6.out, C6.out⟩, HRL.out⟩
  · simp only [if_neg he]
    have heb : (er != 0) = true := by simpa using he
    clear N he hfe
    go_enter Tryz.func24, Tryz.ntmps24
    go_upto_region 1 with fail
    rw [← hW1]
    clear hW1
    go_wp2_with (go_at_call 10; (with_reducible refine Calls.mono A.out ?_); rintro e w2 ⟨rfl, hc⟩; have C2 := Lib.hid (C1.out.thenSame hc); clear k1 hc)
    go_ret
    exact ⟨[], ints_nil C2.out, rfl⟩
end Go.Proofs.YtolidiafomceiaaGreatDoor
namespace Go.Proofs.YtolidiafomceiaaGreatDoor
set_option linter.unusedVariables false
set_option linter.unusedSimpArgs false
open Go.RowKit
def badNd (d : Nd) : Bool := decide (100 < d.kids.length) || decide (100 < d.keys.length)
def badFn (f : Fn') : Bool := decide (20 < f.params.length)
def smallN (x : Pr) : Bool := if 200 < x.nodes.length ∨ 20 < x.funcs.length then false else !(x.nodes.any badNd) && !(x.funcs.any badFn)
set_option maxHeartbeats 16000000 in
set_option maxRecDepth 100000 in
theorem small_any (x : Pr) (w : World) (h : PrIn w x) : Calls Tryz.prog 8 #[.agg (prC x).toArray] w fun e w' => e = .returned (.bool (smallN x)) ∧ Chg [] w w' := by
  obtain ⟨R, hR⟩ : ∃ R, R = smallN x := ⟨_, rfl⟩
  rw [← hR]
  unfold smallN at hR
  have HN := Lib.hid (fun w' (hc : Chg [] w w') => (h.kept hc).1.1.1)
  have HF := Lib.hid (fun w' (hc : Chg [] w w') => (h.kept hc).2.1.1)
  obtain ⟨W1, hW1⟩ : ∃ W1, W1 = w.alloc (prO x) := ⟨_, rfl⟩
  have C1 := Lib.hid (show Chg [] w W1 by rw [hW1]; exact (Chg.refl _ _).alloc _)
  have B1 := Lib.hid (show W1.heap[w.heap.size]? = some (prO x) by rw [hW1]; exact heap_alloc_new _ _)
  unfold prO at hW1 B1
  have k1 := blk_cell B1.out
  simp only [prC]
  clear h
  by_cases h1 : 200 < x.nodes.length
  · have h1' : (x.nodes.length : Int) > 200 := by omega
    have HE := Lib.hid (show R = false by rw [hR, if_pos (.inl h1)])
    clear hR h1
    go_enter Tryz.func8, Tryz.ntmps8
    go_upto_region 1 with fail
    rw [← hW1]
    clear hW1
    go_wp2_with fail
    go_ret
    exact ⟨by rw [HE.out]; rfl, C1.out⟩
  · have h1' : ¬ (x.nodes.length : Int) > 200 := by omega
    by_cases h2 : 20 < x.funcs.length
    · have h2' : (x.funcs.length : Int) > 20 := by omega
      have HE := Lib.hid (show R = false by rw [hR, if_pos (.inr h2)])
      clear hR h1 h2
      go_enter Tryz.func8, Tryz.ntmps8
      go_upto_region 1 with fail
      rw [← hW1]
      clear hW1
      go_wp2_with fail
      go_ret
      exact ⟨by rw [HE.out]; rfl, C1.out⟩
    · have h2' : ¬ (x.funcs.length : Int) > 20 := by omega
      rw [if_neg (by omega)] at hR
      have HR := Lib.hid hR
      clear hR h1 h2
      go_enter Tryz.func8, Tryz.ntmps8
      go_upto_region 1 with fail
      rw [← hW1]
      clear hW1
      go_wp2_with fail
      clear k1
      go_loopw [18] (fun v wi => ∃ j : Nat, v = .int .i64 j ∧ j ≤ x.nodes.length ∧ Hid (x.nodes.any badNd = (x.nodes.drop j).any badNd) ∧ Hid (Chg [] w wi) ∧ Hid (wi.heap[w.heap.size]? = some (.cells #[.slice x.na x.nodes.length x.nc, .slice x.fa x.funcs.length x.fc] 25 (0, 0)))) (fun v _ => x.nodes.length - (intOf v).toNat)
      case atStart => exact ⟨0, rfl, Nat.zero_le _, Lib.hid rfl, C1, B1⟩
      case round =>
        obtain ⟨j, rfl, hj, HS, C, B⟩ := hrel
        have hj0 : (0 : Int) ≤ (j : Int) := by omega
        by_cases hjl : j < x.nodes.length
        · have hjl' : (j : Int) < (x.nodes.length : Int) := by omega
          obtain ⟨b2, o2, e2, -, -, hc2⟩ := (HN.out _ C.out).elem (Chg.refl [] _) j hjl
          have u3 := hc2 3 (by omega)
          have u4 := hc2 4 (by omega)
          simp only [ndC, List.getElem?_cons_zero, List.getElem?_cons_succ, Nat.add_zero] at u3 u4
          have HS2 := HS.out
          rw [List.drop_eq_getElem_cons hjl, List.any_cons] at HS2
          have qj : IntKind.i64.wrap ((j : Int) + 1) = (j : Int) + 1 := IntWalk.i64_in _ (by omega)
          have k5 := blk_cell (by have := B.out; rw [e2] at this; exact this)
          generalize x.nodes[j] = d at *
          clear hc2
          rw [e2]
          by_cases hk : 100 < d.kids.length
          · have hk' : (d.kids.length : Int) > 100 := by omega
            have HE := Lib.hid (show R = false by rw [HR.out, HS2]; unfold badNd; rw [decide_eq_true hk]; rfl)
            clear HS2 hk
            go_wp2_with fail
            go_ret
            exact ⟨by rw [HE.out]; rfl, C.out⟩
          · have hk' : ¬ (d.kids.length : Int) > 100 := by omega
            by_cases hy : 100 < d.keys.length
            · have hy' : (d.keys.length : Int) > 100 := by omega
              have HE := Lib.hid (show R = false by rw [HR.out, HS2]; unfold badNd; rw [decide_eq_true hy, Bool.or_true]; rfl)
              clear HS2 hk hy
              go_wp2_with fail
              go_ret
              exact ⟨by rw [HE.out]; rfl, C.out⟩
            · have hy' : ¬ (d.keys.length : Int) > 100 := by omega
              have HS3 := Lib.hid (show x.nodes.any badNd = (x.nodes.drop (j + 1)).any badNd by
                rw [HS2]
                rw [show badNd d = false from by unfold badNd; rw [decide_eq_false hk, decide_eq_false hy]; rfl, Bool.false_or])
              clear HS2 hk hy
              go_wp2_with fail
              exact ⟨⟨j + 1, rfl, by omega, HS3, C, (by first | exact B | (rw [e2] at B; exact B))⟩, by simp [intOf]; omega⟩
        · have hje : j = x.nodes.length := by omega
          have HS2 := HS.out
          rw [hje, List.drop_length, List.any_nil] at HS2
          have HR2 := Lib.hid (show R = !(x.funcs.any badFn) by rw [HR.out, HS2]; rfl)
          have hjl' : ¬ (j : Int) < (x.nodes.length : Int) := by omega
          have k6 := blk_cell B.out
          clear HS HS2 hje HR
          go_wp2_with fail
          clear k6
          go_loopw [43] (fun v wi => ∃ j : Nat, v = .int .i64 j ∧ j ≤ x.funcs.length ∧ Hid (x.funcs.any badFn = (x.funcs.drop j).any badFn) ∧ Hid (Chg [] w wi) ∧ Hid (wi.heap[w.heap.size]? = some (.cells #[.slice x.na x.nodes.length x.nc, .slice x.fa x.funcs.length x.fc] 25 (0, 0)))) (fun v _ => x.funcs.length - (intOf v).toNat)
          case atStart => exact ⟨0, rfl, Nat.zero_le _, Lib.hid rfl, C, B⟩
          case round =>
            obtain ⟨i, rfl, hi, HS, C5, B5⟩ := hrel
            have hi0 : (0 : Int) ≤ (i : Int) := by omega
            by_cases hil : i < x.funcs.length
            · have hil' : (i : Int) < (x.funcs.length : Int) := by omega
              obtain ⟨b2, o2, e2, -, -, hc2⟩ := (HF.out _ C5.out).elem (Chg.refl [] _) i hil
              have u1 := hc2 1 (by omega)
              simp only [fnC, List.getElem?_cons_zero, List.getElem?_cons_succ, Nat.add_zero] at u1
              have HS2 := HS.out
              rw [List.drop_eq_getElem_cons hil, List.any_cons] at HS2
              have qi : IntKind.i64.wrap ((i : Int) + 1) = (i : Int) + 1 := IntWalk.i64_in _ (by omega)
              have k5 := blk_cell (by have := B5.out; rw [e2] at this; exact this)
              generalize x.funcs[i] = f at *
              clear hc2
              rw [e2]
              by_cases hk : 20 < f.params.length
              · have hk' : (f.params.length : Int) > 20 := by omega
                have HE := Lib.hid (show R = false by rw [HR2.out, HS2]; unfold badFn; rw [decide_eq_true hk]; rfl)
                clear HS2 hk
                go_wp2_with fail
                go_ret
                exact ⟨by rw [HE.out]; rfl, C5.out⟩
              · have hk' : ¬ (f.params.length : Int) > 20 := by omega
                have HS3 := Lib.hid (show x.funcs.any badFn = (x.funcs.drop (i + 1)).any badFn by
                  rw [HS2]
                  rw [show badFn f = false from by unfold badFn; rw [decide_eq_false hk], Bool.false_or])
                clear HS2 hk
                go_wp2_with fail
                exact ⟨⟨i + 1, rfl, by omega, HS3, C5, (by first | exact B5 | (rw [e2] at B5; exact B5))⟩, by simp [intOf]; omega⟩
            · have hie : i = x.funcs.length := by omega
              have HS2 := HS.out
              rw [hie, List.drop_length, List.any_nil] at HS2
              have HE := Lib.hid (show R = true by rw [HR2.out, HS2]; rfl)
              have hil' : ¬ (i : Int) < (x.funcs.length : Int) := by omega
              clear HS2 hie
              go_wp2_with fail
              go_ret
              exact ⟨by rw [HE.out]; rfl, C5.out⟩
end Go.Proofs.YtolidiafomceiaaGreatDoor
namespace Go.Proofs.YtolidiafomceiaaGreatDoor
set_option linter.unusedVariables false
set_option linter.unusedSimpArgs false
open Go.RowKit
end Go.Proofs.YtolidiafomceiaaGreatDoor
namespace Go.Proofs.YtolidiafomceiaaGreatDoor
set_option linter.unusedVariables false
set_option linter.unusedSimpArgs false
open Go.RowKit
def blC (b : Bool) : List Value := [.bool b]
theorem blC_len (x : Bool) : (blC x).length = 1 := rfl
theorem boolInfoS : (Tryz.prog.info? 4).map (fun i => (i.zero, i.size, i.bytes)) = some (some (.bool false), 1, 1) := by kernel_rfl
end Go.Proofs.YtolidiafomceiaaGreatDoor
