/- Chapter 30: contract of the reference's Read. No condition. Chapter 30: contract of the reference's Trim. No condition. Chapter 30: a stream and the reference's, side by side; contract: the law's step. Condition: the table of Itoa lies as the program lays it. Chapter 30: the walk of StreamPlays. Condition: the table of Itoa lies as the program lays it. -/
import Derived.Test.YtmichbpfmachcaaDoorMRsA
namespace Go.Proofs.YtmichbpfmachcaaDoor
set_option linter.unusedVariables false
set_option linter.unusedSimpArgs false
open Go.RowKit
variable {W w w' : World} {b g n : Nat} {D : List Sr} {keep now : Int} {f S : List Nat} {st : Stm}
theorem readR_two (k from_ most : Int) (h : k < 0 ∨ (st.sh.length : Int) ≤ k ∨ most < 1 ∨ 256 < most ∨ from_ < 0) : readR st k from_ most = ([], 2) := by
  unfold readR
  by_cases h0 : k < 0
  · rw [if_pos h0]
  rw [if_neg h0]
  split
  · rfl
  · rename_i d hd
    obtain ⟨hx, -⟩ := List.getElem?_eq_some_iff.1 hd
    split
    · rfl
    split
    · rfl
    split
    · rfl
    split
    · rfl
    · exfalso; omega
theorem readR_at {k : Nat} {F N : Int} {l : List PRec} (hd : st.sh[k]? = some ⟨F, l⟩) (hN : F + (l.length : Int) = N) (from_ most : Int) (h0 : 0 ≤ from_) (h1 : 1 ≤ most) (h2 : most ≤ 256) : readR st k from_ most = if N < from_ then ([], 2) else if from_ < F then ([], 18) else ((l.drop (from_ - F).toNat).take most.toNat, 0) := by
  subst hN
  unfold readR
  rw [if_neg (by omega), Int.toNat_natCast, hd]
  simp only
  rw [if_neg (by omega), if_neg (show ¬ most < 1 by omega), if_neg (show ¬ 256 < most by omega)]
theorem tk_yes {α : Type} {L : List α} {i o m : Nat} (hi : i < L.length) (ho : o ≤ i) (hm : (((L.take i).drop o).take m).length < m) : ((L.take (i + 1)).drop o).take m = ((L.take i).drop o).take m ++ [L[i]] := by
  have h1 : ((L.take i).drop o).length = i - o := by simp; omega
  have h2 : i - o < m := by rw [List.length_take, h1] at hm; omega
  rw [List.take_succ_eq_append_getElem hi, List.drop_append_of_le_length (by simp; omega), List.take_of_length_le (l := (L.take i).drop o) (by omega)]
  exact List.take_of_length_le (by rw [List.length_append, h1]; simp; omega)
theorem tk_no {α : Type} {L : List α} {i o m : Nat} (hi : i < L.length) (h : i < o ∨ m ≤ (((L.take i).drop o).take m).length) : ((L.take (i + 1)).drop o).take m = ((L.take i).drop o).take m := by
  rcases h with h | h
  · rw [List.drop_eq_nil_of_le (by simp; omega), List.drop_eq_nil_of_le (by simp; omega)]
  · by_cases ho : o ≤ i
    · rw [List.take_succ_eq_append_getElem hi, List.drop_append_of_le_length (by simp; omega), List.take_append_of_le_length (by rw [List.length_take] at h; omega)]
    · rw [List.drop_eq_nil_of_le (by simp; omega), List.drop_eq_nil_of_le (by simp; omega)]
set_option maxHeartbeats 16000000 in
set_option maxRecDepth 100000 in
theorem rread_any (h : RIs W w b st f) (hW : Chg [] W w) (ho : st.ok n) (hn : n ≤ 1048575) (hfine : st.fine) (k from_ most : Int) :
    Calls Tryd.prog 32 #[.pointer (some ⟨b, 0, none⟩), .int .i64 k, .int .i64 from_, .int .i64 most] w fun x w' => ∃ a c M, x = .returned (.tuple #[.slice a M.length c, .int .i64 (readR st k from_ most).2]) ∧ RowOf rcC 10 w' w.heap.size 55 (.slice a M.length c) M ∧ (∀ r ∈ M, InIs ceC 4 W r.e.ba r.e.bc r.e.p.body) ∧ M.map Rc.p = (readR st k from_ most).1 ∧ Chg [] w w' := by
  have HF := Lib.hid (rfirst_any (n := n) k h ho (by omega))
  obtain ⟨g, D, h1, h2⟩ := h
  have c1 := blk_cell h2.head
  have hD : st.sh.length = D.length := by rw [h1, List.length_map]
  have E0 := Lib.hid (show RowOf rcC 10 w w.heap.size 55 (.slice none ([] : List Rc).length 0) [] from RowOf.nil _ _ _)
  by_cases hbad : k < 0 ∨ (st.sh.length : Int) ≤ k ∨ most < 1 ∨ 256 < most ∨ from_ < 0
  · rw [readR_two k from_ most hbad]
    rw [hD] at hbad
    clear h1 h2 hD HF ho hfine
    generalize D.length = m at *
    have hm : (0 : Int) ≤ (m : Int) := by omega
    by_cases k0 : k < 0
    · clear hbad
      go_enter Tryd.func32, Tryd.ntmps32
      go_wp2_with fail
      go_ret2
      exact ⟨none, 0, [], rfl, E0.out, by simp, rfl, Chg.refl _ _⟩
    by_cases k1 : (m : Int) ≤ k
    · clear hbad
      go_enter Tryd.func32, Tryd.ntmps32
      go_wp2_with fail
      go_ret2
      exact ⟨none, 0, [], rfl, E0.out, by simp, rfl, Chg.refl _ _⟩
    by_cases k2 : most < 1
    · clear hbad
      go_enter Tryd.func32, Tryd.ntmps32
      go_wp2_with fail
      go_ret2
      exact ⟨none, 0, [], rfl, E0.out, by simp, rfl, Chg.refl _ _⟩
    by_cases k3 : 256 < most
    · clear hbad
      go_enter Tryd.func32, Tryd.ntmps32
      go_wp2_with fail
      go_ret2
      exact ⟨none, 0, [], rfl, E0.out, by simp, rfl, Chg.refl _ _⟩
    have k4 : from_ < 0 := by omega
    clear hbad
    go_enter Tryd.func32, Tryd.ntmps32
    go_wp2_with fail
    go_ret2
    exact ⟨none, 0, [], rfl, E0.out, by simp, rfl, Chg.refl _ _⟩
  obtain ⟨q, rfl⟩ : ∃ q : Nat, k = (q : Int) := ⟨k.toNat, by omega⟩
  have hq : q < D.length := by omega
  obtain ⟨s1, s2⟩ := h2.shard q hq
  obtain ⟨o1, o2, o3⟩ := rok_at ho h1 q hq
  have hget : st.sh[q]? = some (D[q]).p := by rw [h1, List.getElem?_map, List.getElem?_eq_getElem hq]; rfl
  obtain ⟨F, hF⟩ : ∃ F, F = (D[q]).next - ((D[q]).L.length : Int) := ⟨_, rfl⟩
  have hget : st.sh[q]? = some ⟨F, (D[q]).L.map Rc.p⟩ := by rw [hget, hF]; rfl
  have hrd := readR_at (N := (D[q]).next) hget (by rw [List.length_map]; omega) from_ most (by omega) (by omega) (by omega)
  have hnum := (hfine q _ hget).num
  have hmem : D[q] ∈ D := List.getElem_mem hq
  have HB := Lib.hid (h2.body _ hmem)
  have HRO := Lib.hid (fun w' (hc : Chg [] w w') => (RowOf.sl ((h2.kept hc (by simp)).recs _ hmem) rcC_len).1)
  have HSH := Lib.hid (fun (w' : World) (hc : Chg [] w w') => (h2.kept hc (by simp)).shard q hq)
  have HCC := Lib.hid (fun w' (hc : Chg [] w w') => blk_cell (h2.kept hc (by simp)).head)
  rw [(rat_good h1 q hq).1] at HF
  simp only at hnum
  generalize D[q] = d at *
  obtain ⟨da, dc, dL, dn⟩ := d
  simp only at *
  unfold Sr.v at s1 HSH
  rw [← hF] at HF o1
  have HNUM := Lib.hid (show ∀ (j : Nat) (hj : j < dL.length), (dL[j]).sq = F + (j : Int) from fun j hj => (hnum j (dL[j]).p (by rw [List.getElem?_map, List.getElem?_eq_getElem hj]; rfl)).2)
  obtain ⟨R, hR⟩ : ∃ R, R = readR st q from_ most := ⟨_, rfl⟩
  rw [← hR] at hrd ⊢
  have q0 : (0 : Int) ≤ (q : Int) := by omega
  have q1 : (q : Int) < (D.length : Int) := by omega
  have q2 : 1 ≤ most := by omega
  have q3 : most ≤ 256 := by omega
  have q4 : 0 ≤ from_ := by omega
  clear h1 h2 hD hget hmem hR hbad ho hfine hnum hF
  generalize D.length = m at *
  by_cases q5 : dn < from_
  · rw [if_pos q5] at hrd
    subst hrd
    clear HF
    go_enter Tryd.func32, Tryd.ntmps32
    go_wp2_with fail
    go_ret2
    exact ⟨none, 0, [], rfl, E0.out, by simp, rfl, Chg.refl _ _⟩
  rw [if_neg q5] at hrd
  have q5' : from_ ≤ dn := by omega
  by_cases q6 : from_ < F
  · rw [if_pos q6] at hrd
    subst hrd
    go_enter Tryd.func32, Tryd.ntmps32
    go_wp2_with (go_at_call 34; refine HF.out.mono ?_; rintro e w2 ⟨rfl, hc⟩; have C2 := Lib.hid hc; clear hc)
    go_ret2
    exact ⟨none, 0, [], rfl, RowOf.nil _ _ _, by simp, rfl, C2.out⟩
  rw [if_neg q6] at hrd
  obtain ⟨o, ho⟩ : ∃ o : Nat, from_ = F + (o : Int) := ⟨(from_ - F).toNat, by omega⟩
  have HOO := Lib.hid ho
  obtain ⟨mo, rfl⟩ : ∃ mo : Nat, most = (mo : Int) := ⟨most.toNat, by omega⟩
  rw [Int.toNat_natCast, show (from_ - F).toNat = o by omega] at hrd
  have HR := Lib.hid hrd
  have q6' : F ≤ from_ := by omega
  clear hrd q6 q5 ho
  go_enter Tryd.func32, Tryd.ntmps32
  go_wp2_with (go_at_call 34; refine HF.out.mono ?_; rintro e w2 ⟨rfl, hc⟩; have C2 := Lib.hid hc; obtain ⟨u1, u2⟩ := HSH.out _ C2.out; have u3 := HCC.out _ C2.out; clear hc)
  go_loopw [12, 14] (fun ov t wr => ∃ (i : Nat) (a : Option Addr) (c : Nat), t = .int .i64 i ∧ ov = .slice a (((dL.take i).drop o).take mo).length c ∧ i ≤ dL.length ∧ Hid (RowOf rcC 10 wr w.heap.size 55 (.slice a (((dL.take i).drop o).take mo).length c) (((dL.take i).drop o).take mo)) ∧ Hid (Chg [] w wr)) (fun _ t _ => dL.length - (intOf t).toNat)
  case atStart => exact ⟨0, none, 0, rfl, by simp, Nat.zero_le _, Lib.hid (by simpa using RowOf.nil _ _ _), C2⟩
  case round =>
    obtain ⟨i, a, c, rfl, rfl, hi, HM, D⟩ := hrel
    have i0 : (0 : Int) ≤ (i : Int) := by omega
    by_cases hil : i < dL.length
    · have i1 : (i : Int) < (dL.length : Int) := by omega
      obtain ⟨g3, o3', hda, -, hbr, hcc⟩ := (HRO.out _ D.out).elem (Chg.refl _ _) i hil
      subst hda
      have hsq := HNUM.out i hil
      have HY := Lib.hid (tk_yes (m := mo) (o := o) hil)
      have HNO := Lib.hid (tk_no (m := mo) (o := o) hil)
      generalize dL[i] = x at *
      have d1 := hcc 1 (by omega)
      simp only [rcC, List.getElem?_cons_zero, List.getElem?_cons_succ] at d1
      rw [hsq] at d1
      have ho := HOO.out
      have hlm : (((dL.take i).drop o).take mo).length ≤ mo := by simp; omega
      by_cases r1 : o ≤ i
      · have r1' : from_ ≤ F + (i : Int) := by omega
        clear ho
        by_cases r2 : (((dL.take i).drop o).take mo).length < mo
        · have HE := Lib.hid (HY.out r1 r2)
          have r2' : ((((dL.take i).drop o).take mo).length : Int) < (mo : Int) := by omega
          have hcc2 := hcc
          have d0 := hcc 0 (by omega)
          have d2 := hcc 2 (by omega)
          have d3 := hcc 3 (by omega)
          have d4 := hcc 4 (by omega)
          have d5 := hcc 5 (by omega)
          have d6 := hcc 6 (by omega)
          have d7 := hcc 7 (by omega)
          have d8 := hcc 8 (by omega)
          have d9 := hcc 9 (by omega)
          simp only [rcC, evC, List.getElem?_cons_zero, List.getElem?_cons_succ, Nat.add_zero] at d0 d2 d3 d4 d5 d6 d7 d8 d9
          rw [← hsq] at d1 r1'
          have hm6 : (((dL.take i).drop o).take mo).length ≤ 256 := by omega
          clear hcc hcc2 hsq r2
          generalize ((dL.take i).drop o).take mo = MM at *
          go_wp2_with (at_builtin; refine wpl_append rfl _ _ 36 rfl w.heap.size 55 _ 136 Tryd.underlying36 recInfo rfl (by decide) rcC_len rcC_one (.slice a MM.length c) MM rfl (RowOf.kept HM.out ((Chg.refl [] _).alloc _) (by simp)) wr.heap.size _ x _ _ _ rfl (heap_alloc_new wr _) rfl (by unfold maxLen; omega) (by omega) (by rw [World.size_alloc]; have := D.out.size; omega) ?_; intro v' w1 hrow1 hg1; obtain ⟨a', c', hv'⟩ := RowOf.shape hrow1; subst hv'; have hrow2 := Lib.hid hrow1; have hg2 := Lib.hid hg1; clear hrow1 hg1)
          refine ⟨⟨i + 1, a', c', by go_num, by rw [HE.out, List.length_append]; rfl, by omega, Lib.hid (by rw [HE.out]; exact hrow2.out), Lib.hid ?_⟩, by simp [intOf]; omega⟩
          exact (D.out.alloc _).then (Chg.ofRow (v := .slice a MM.length c) hg2.out) (fun y hy hl => by have := (HM.out.block y (by simpa using hy)).1; omega)
        · have HE := Lib.hid (HNO.out (.inr (by omega)))
          clear hcc
          generalize ((dL.take i).drop o).take mo = MM at *
          go_wp2_with fail
          exact ⟨⟨i + 1, a, c, by go_num, by rw [HE.out], by omega, Lib.hid (by rw [HE.out]; exact HM.out), D⟩, by simp [intOf]; omega⟩
      · have HE := Lib.hid (HNO.out (.inl (by omega)))
        have r1' : ¬ (from_ ≤ F + (i : Int)) := by omega
        clear ho hcc
        generalize ((dL.take i).drop o).take mo = MM at *
        go_wp2_with fail
        exact ⟨⟨i + 1, a, c, by go_num, by rw [HE.out], by omega, Lib.hid (by rw [HE.out]; exact HM.out), D⟩, by simp [intOf]; omega⟩
    · have hin : ¬ ((i : Int) < (dL.length : Int)) := by omega
      have hMM : ((dL.take i).drop o).take mo = (dL.drop o).take mo := by rw [show dL.take i = dL from List.take_of_length_le (by omega)]
      rw [hMM] at HM ⊢
      go_wp2_with fail
      go_ret2
      refine ⟨a, c, _, by rw [HR.out, List.length_take, List.length_drop]; rfl, HM.out, fun r hr => HB.out r (List.mem_of_mem_drop (List.mem_of_mem_take hr)), by rw [HR.out]; simp only [List.map_take, List.map_drop], D.out⟩
end Go.Proofs.YtmichbpfmachcaaDoor
namespace Go.Proofs.YtmichbpfmachcaaDoor
set_option linter.unusedVariables false
set_option linter.unusedSimpArgs false
open Go.RowKit
variable {W w w' : World} {b g n : Nat} {D : List Sr} {keep now : Int} {f S : List Nat} {st : Stm}
def oldB (keep now : Int) (r : Rc) : Bool := decide (r.at_ + keep < now)
theorem old_drop {p : Rc → Bool} : ∀ {L : List Rc}, L.Pairwise (fun x y => p y = true → p x = true) → L.filter (fun r => !p r) = L.drop (L.takeWhile p).length ∧ (L.takeWhile p).length = L.countP p := by
  intro L
  induction L with
  | nil => intro _; exact ⟨rfl, rfl⟩
  | cons x L ih =>
    intro h
    rw [List.pairwise_cons] at h
    cases hp : p x
    · have hall : ∀ y ∈ L, p y = false := fun y hy => by
        cases hpy : p y
        · rfl
        · rw [h.1 y hy hpy] at hp; cases hp
      rw [List.takeWhile_cons_of_neg (by simp [hp]), List.countP_cons_of_neg (by simp [hp])]
      refine ⟨?_, ?_⟩
      · rw [List.length_nil, List.drop_zero, List.filter_eq_self]
        intro y hy
        rcases List.mem_cons.1 hy with rfl | hy
        · simp [hp]
        · simp [hall y hy]
      · symm
        rw [List.length_nil, List.countP_eq_zero]
        intro y hy
        simp [hall y hy]
    · obtain ⟨h1, h2⟩ := ih h.2
      rw [List.takeWhile_cons_of_pos hp, List.countP_cons_of_pos hp]
      refine ⟨?_, by rw [List.length_cons, h2]⟩
      rw [List.filter_cons_of_neg (by simp [hp]), List.length_cons, List.drop_succ_cons, h1]
/-- What a trim keeps and counts of a shard's records. -/
theorem trim_list {L : List Rc} {i : Nat} {F t : Int} (h : Shd.fine ⟨F, L.map Rc.p⟩ i t) (keep now : Int) : (L.filter (fun r => !oldB keep now r)).map Rc.p = (L.map Rc.p).drop (cntD keep now (L.map Rc.p)) ∧ cntD keep now (L.map Rc.p) = L.countP (oldB keep now) := by
  have hs : L.Pairwise (fun x y => oldB keep now y = true → oldB keep now x = true) := by
    have := h.srt
    simp only at this
    rw [List.pairwise_map] at this
    refine this.imp (fun {x y} hxy hy => ?_)
    unfold oldB at hy ⊢
    simp only [decide_eq_true_eq, Rc.p] at hy hxy ⊢
    omega
  obtain ⟨h1, h2⟩ := old_drop hs
  have h3 : cntD keep now (L.map Rc.p) = (L.takeWhile (oldB keep now)).length := by
    unfold cntD
    rw [List.takeWhile_map, List.length_map]
    rfl
  rw [h3, h1, h2]
  exact ⟨by rw [List.map_drop], rfl⟩
theorem RAt.trimmed {wy : World} {k : Nat} {a' : Option Addr} {c' : Nat} {L' : List Rc} {d : Sr} (h : RAt W w b g D keep now f) (hk : k < D.length) (hd : D[k] = d) (hc : Chg [] w wy) (hr : RowOf rcC 10 wy w.heap.size 55 (.slice a' L'.length c') L') (hb : ∀ r ∈ L', r ∈ d.L) :
    ∃ f', RAt W (wy.setCell ⟨g, k * 2, none⟩ (.slice a' L'.length c')) b g (D.set k ⟨a', c', L', d.next⟩) keep now f' ∧ ∀ x ∈ f', x ∈ f ∨ w.heap.size ≤ x := by
  subst hd
  have hmem : D[k] ∈ D := List.getElem_mem hk
  have hc2 : Chg [g] wy (wy.setCell ⟨g, k * 2, none⟩ (.slice a' L'.length c')) := (Chg.refl _ _).setCell _ _ (by simp)
  have hg := h.lt g h.ing
  refine h.put k hk ⟨a', c', L', D[k].next⟩ ((hc.mono (by simp)).then hc2 (fun x hx _ => by simp at hx; simp [hx])) ?_ ?_ (fun x hx => .inr (hr.block x hx).1) (fun r hr' => h.body _ hmem r (hb r hr'))
  · have := RowOf.stored (h.row.kept hc (by simp)) rfl srC_len k hk 0 (by omega) (.slice a' L'.length c') ⟨a', c', L', D[k].next⟩ (by simp [srC])
    simpa using this
  · refine (hr.mono (Nat.zero_le _)).kept hc2 (fun y hy hm => ?_)
    simp at hm
    have := (hr.block y hy).1
    omega
theorem foldK_step {keep now : Int} {S0 : List Shd} {i : Nat} (hi : i < S0.length) : (foldK keep now S0 (List.range i)).1[i]? = some S0[i] ∧ foldK keep now S0 (List.range (i + 1)) = ((foldK keep now S0 (List.range i)).1.set i (trimD keep now S0[i]), (foldK keep now S0 (List.range i)).2 + cntD keep now (S0[i]).recs) := by
  have hg : (foldK keep now S0 (List.range i)).1[i]? = some S0[i] := by
    rw [foldK_range keep now S0 i (by omega)]
    have hl : ((S0.take i).map (trimD keep now)).length = i := by simp; omega
    rw [List.getElem?_append_right (by omega), hl, Nat.sub_self, List.getElem?_drop, Nat.add_zero, List.getElem?_eq_getElem hi]
  refine ⟨hg, ?_⟩
  rw [List.range_succ, foldK_snoc]
  unfold stepK
  rw [hg]
set_option maxHeartbeats 16000000 in
set_option maxRecDepth 100000 in
theorem rtrim_any (h : RIs W w b st f) (ho : st.ok n) (hn : n ≤ 1048575) (hfine : st.fine) (now : Int) :
    Calls Tryd.prog 33 #[.pointer (some ⟨b, 0, none⟩), .int .i64 now] w fun x w' => x = .returned (.int .i64 (trimR st now).1) ∧ RTurned W w w' b (trimR st now).2 f := by
  have H := Lib.hid h
  obtain ⟨g, D, h1, h2⟩ := h
  have c1 := blk_cell h2.head
  have hD : st.sh.length = D.length := by rw [h1, List.length_map]
  have hnow := ho.2.2.2.2.1
  rcases trimR_cases st now with ⟨e1, e2⟩ | ⟨e1, e2, e3⟩
  · rw [e1]
    simp only
    clear h1 h2 hD ho hfine e1
    by_cases k0 : now < 0
    · clear e2
      go_enter Tryd.func33, Tryd.ntmps33
      go_wp2_with fail
      go_ret
      exact ⟨rfl, RTurned.same H.out (Chg.refl _ _)⟩
    by_cases k1 : 1073741824 < now
    · clear e2
      go_enter Tryd.func33, Tryd.ntmps33
      go_wp2_with fail
      go_ret
      exact ⟨rfl, RTurned.same H.out (Chg.refl _ _)⟩
    have k2 : now < st.now := by omega
    clear e2
    go_enter Tryd.func33, Tryd.ntmps33
    go_wp2_with fail
    go_ret
    exact ⟨rfl, RTurned.same H.out (Chg.refl _ _)⟩
  have hfk := foldK_all st.keep now st.sh
  have e4 : (trimR st now) = (((foldK st.keep now st.sh (List.range st.sh.length)).2 : Int), { st with now := now, sh := (foldK st.keep now st.sh (List.range st.sh.length)).1 }) := by rw [e3, hfk]
  have E4 := Lib.hid e4
  have HO := Lib.hid ho
  have HF := Lib.hid hfine
  have H1 := Lib.hid h1
  have HB := Lib.hid h2
  have hm8 : D.length ≤ 8 := by have := ho.2.1; omega
  have HD := Lib.hid hD
  have hkp1 := ho.2.2.1
  have hkp2 := ho.2.2.2.1
  clear h1 h2 ho hfine hfk e4 e3 hD
  go_enter Tryd.func33, Tryd.ntmps33
  go_wp2_with fail
  go_loopw [5, 6] (fun nv t wr => ∃ (i : Nat) (Di : List Sr) (fi : List Nat), t = .int .i64 i ∧ nv = .int .i64 (foldK st.keep now st.sh (List.range i)).2 ∧ i ≤ D.length ∧ Hid (Di.map Sr.p = (foldK st.keep now st.sh (List.range i)).1) ∧ Hid (RAt W wr b g Di st.keep st.now fi) ∧ Hid (Chg f w wr) ∧ Hid (∀ x ∈ fi, x ∈ f ∨ w.heap.size ≤ x)) (fun _ t _ => D.length - (intOf t).toNat)
  case atStart => exact ⟨0, D, f, rfl, rfl, Nat.zero_le _, Lib.hid H1.out.symm, HB, Lib.hid (Chg.refl _ _), Lib.hid (fun x hx => .inl hx)⟩
  case round =>
    obtain ⟨i, Di, fi, rfl, rfl, hi, HM, HA, HC, HFI⟩ := hrel
    obtain ⟨wo, hwo⟩ : ∃ wo, wo = wr := ⟨_, rfl⟩
    subst hwo
    have i0 : (0 : Int) ≤ (i : Int) := by omega
    have hkeep : (⟨st.keep, st.now, st.sh⟩ : Stm).ok n := HO.out
    have HFO := Lib.hid (foldK_ok hkeep now (List.range i))
    have hDl : Di.length = D.length := by
      have h1 := congrArg List.length HM.out
      rw [List.length_map, HFO.out.2.1, HD.out] at h1
      exact h1
    have hcnt : (foldK st.keep now st.sh (List.range i)).2 ≤ 2048 := by have := HFO.out.2.2; rw [List.length_range] at this; omega
    have c2 := blk_cell HA.out.head
    rw [hDl] at c2
    by_cases hil : i < D.length
    · have i1 : (i : Int) < (D.length : Int) := by omega
      have hiD : i < Di.length := by omega
      have his : i < st.sh.length := by have := HD.out; omega
      obtain ⟨g1, g2⟩ := foldK_step (keep := st.keep) (now := now) his
      have hp : (Di[i]).p = st.sh[i] := by
        rw [← HM.out, List.getElem?_map, List.getElem?_eq_getElem hiD] at g1
        exact Option.some.inj g1
      obtain ⟨s1, s2⟩ := HA.out.shard i hiD
      have hfi := HF.out i _ (List.getElem?_eq_getElem his)
      have hbd := HO.out.2.2.2.2.2.2 _ (List.getElem_mem his)
      rw [← hp] at hfi hbd g2
      obtain ⟨t1, t2⟩ := trim_list (F := (Di[i]).next - ((Di[i]).L.length : Int)) (L := (Di[i]).L) hfi st.keep now
      have T1 := Lib.hid t1
      have T2 := Lib.hid t2
      have G2 := Lib.hid g2
      have hlen : (Di[i]).L.length ≤ 256 := by have := hbd.2.2.1; simp only [Sr.p, List.length_map] at this; exact this
      have HAT := Lib.hid (show ∀ r ∈ (Di[i]).L, 0 ≤ r.at_ ∧ r.at_ ≤ 1073741824 from fun r hr => by
        have := hbd.2.2.2 r.p (by simp only [Sr.p]; exact List.mem_map_of_mem hr)
        exact ⟨this.1, this.2.1⟩)
      have HSL := Lib.hid (fun w' (hc : Chg [] wo w') => (RowOf.sl ((HA.out.kept hc (by simp)).recs _ (List.getElem_mem hiD)) rcC_len).1)
      have HKC := Lib.hid (fun w' (hc : Chg [] wo w') => blk_cell (HA.out.kept hc (by simp)).head)
      have HPT := Lib.hid (fun (d : Sr) (hd : Di[i] = d) (wy : World) (hc : Chg [] wo wy) (a' : Option Addr) (c' : Nat) (L' : List Rc) (hr : RowOf rcC 10 wy wo.heap.size 55 (.slice a' L'.length c') L') (hb : ∀ r ∈ L', r ∈ d.L) => RAt.trimmed HA.out hiD hd hc hr hb)
      generalize hdd : Di[i] = d at *
      have HPT2 := Lib.hid (HPT.out d rfl)
      have HDD := Lib.hid hdd
      unfold Sr.v at s1
      clear g1 g2 hp hfi hbd t1 t2 HPT hdd
      obtain ⟨da, dc, dL, dn⟩ := d
      simp only at *
      generalize hN0 : (foldK st.keep now st.sh (List.range i)).2 = N0 at *
      have HN0 := Lib.hid hN0
      clear hN0
      go_wp2_with fail
      go_loopw [5, 7, 9] (fun nv ov t wr => ∃ (k : Nat) (a : Option Addr) (c : Nat), t = .int .i64 k ∧ ov = .slice a ((dL.take k).filter (fun r => !oldB st.keep now r)).length c ∧ nv = .int .i64 ((N0 + (dL.take k).countP (oldB st.keep now) : Nat) : Int) ∧ k ≤ dL.length ∧ Hid (RowOf rcC 10 wr wo.heap.size 55 (.slice a ((dL.take k).filter (fun r => !oldB st.keep now r)).length c) ((dL.take k).filter (fun r => !oldB st.keep now r))) ∧ Hid (Chg [] wo wr)) (fun _ _ t _ => dL.length - (intOf t).toNat)
      case atStart => exact ⟨0, none, 0, rfl, by simp, by simp, Nat.zero_le _, Lib.hid (by simpa using RowOf.nil _ _ _), Lib.hid (Chg.refl _ _)⟩
      case round =>
        obtain ⟨k, a, c, rfl, rfl, rfl, hk, HR, C⟩ := hrel
        have k0 : (0 : Int) ≤ (k : Int) := by omega
        have hcp : (dL.take k).countP (oldB st.keep now) ≤ 256 := Nat.le_trans List.countP_le_length (by simp; omega)
        have hfl : ((dL.take k).filter (fun r => !oldB st.keep now r)).length ≤ 256 := Nat.le_trans (List.length_filter_le _ _) (by simp; omega)
        by_cases hkl : k < dL.length
        · have k1 : (k : Int) < (dL.length : Int) := by omega
          obtain ⟨g3, o3, hda, -, hbr, hcc⟩ := (HSL.out _ C.out).elem (Chg.refl _ _) k hkl
          subst hda
          have hat := HAT.out _ (List.getElem_mem hkl)
          have HCP := Lib.hid (show (dL.take (k + 1)).countP (oldB st.keep now) = (dL.take k).countP (oldB st.keep now) + if oldB st.keep now dL[k] then 1 else 0 by
            rw [List.take_succ_eq_append_getElem hkl, List.countP_append]
            simp [List.countP_cons])
          have HFL := Lib.hid (show (dL.take (k + 1)).filter (fun r => !oldB st.keep now r) = (dL.take k).filter (fun r => !oldB st.keep now r) ++ if oldB st.keep now dL[k] then [] else [dL[k]] by
            rw [List.take_succ_eq_append_getElem hkl, List.filter_append]
            congr 1
            cases h : oldB st.keep now dL[k] <;> simp [h])
          generalize hx : dL[k] = x at *
          have HOB : Hid (oldB st.keep now x = decide (x.at_ + st.keep < now)) := Lib.hid rfl
          have v2 := HKC.out _ C.out
          rw [hDl] at v2
          have d2 := hcc 2 (by omega)
          simp only [rcC, List.getElem?_cons_zero, List.getElem?_cons_succ] at d2
          generalize (dL.take k).countP (oldB st.keep now) = CP at *
          generalize (dL.take k).filter (fun r => !oldB st.keep now r) = MM at *
          by_cases hold : x.at_ + st.keep < now
          · rw [HOB.out, decide_eq_true hold] at HCP HFL
            simp only [if_true, List.append_nil] at HCP HFL
            clear hcc hx
            go_wp2_with (go_quiet (fail))
            exact ⟨⟨k + 1, a, c, by go_num, by rw [HFL.out], by rw [HCP.out]; go_num, by omega, Lib.hid (by rw [HFL.out]; exact HR.out.kept ((Chg.refl [] _).drewN _) (by simp)), Lib.hid (C.out.thenSame ((Chg.refl _ _).drewN _))⟩, by simp [intOf]; omega⟩
          · rw [HOB.out, decide_eq_false hold] at HCP HFL
            simp only [Bool.false_eq_true, if_false, Nat.add_zero] at HCP HFL
            have d0 := hcc 0 (by omega)
            have d1 := hcc 1 (by omega)
            have d3 := hcc 3 (by omega)
            have d4 := hcc 4 (by omega)
            have d5 := hcc 5 (by omega)
            have d6 := hcc 6 (by omega)
            have d7 := hcc 7 (by omega)
            have d8 := hcc 8 (by omega)
            have d9 := hcc 9 (by omega)
            simp only [rcC, evC, List.getElem?_cons_zero, List.getElem?_cons_succ, Nat.add_zero] at d0 d1 d3 d4 d5 d6 d7 d8 d9
            clear hcc hx
            go_wp2_with (first | (at_builtin; refine wpl_append rfl _ _ 36 rfl wo.heap.size 55 _ 136 Tryd.underlying36 recInfo rfl (by decide) rcC_len rcC_one (.slice a MM.length c) MM rfl (RowOf.kept HR.out (((Chg.refl [] _).drewN nq).alloc _) (by simp)) (wr.drewN nq).heap.size _ x _ _ _ rfl (heap_alloc_new (wr.drewN nq) _) rfl (by unfold maxLen; omega) (by omega) (by rw [World.size_alloc]; have := C.out.size; have : (wr.drewN nq).heap.size = wr.heap.size := rfl; omega) ?_; intro v' w1 hrow1 hg1; obtain ⟨a', c', hv'⟩ := RowOf.shape hrow1; subst hv'; have hrow2 := Lib.hid hrow1; have hg2 := Lib.hid hg1; clear hrow1 hg1) | go_quiet (fail))
            refine ⟨⟨k + 1, a', c', by go_num, by rw [HFL.out, List.length_append]; rfl, by rw [HCP.out]; go_num, by omega, Lib.hid (by rw [HFL.out]; exact hrow2.out), Lib.hid ?_⟩, by simp [intOf]; omega⟩
            exact ((C.out.thenSame ((Chg.refl _ _).drewN nq)).alloc _).then (Chg.ofRow (v := .slice a MM.length c) hg2.out) (fun y hy hl => by have := (HR.out.block y (by simpa using hy)).1; omega)
        · have hkn : ¬ ((k : Int) < (dL.length : Int)) := by omega
          have ht : dL.take k = dL := List.take_of_length_le (by omega)
          rw [ht] at HR hcp hfl ⊢
          have hl1 := congrArg List.length T1.out
          simp only [List.length_map, List.length_drop] at hl1
          have hle := cntD_le st.keep now (dL.map Rc.p)
          rw [List.length_map] at hle
          have hcc := T2.out
          rw [← hcc]
          generalize hMM : dL.filter (fun r => !oldB st.keep now r) = MM at *
          generalize hcn : cntD st.keep now (dL.map Rc.p) = cn at *
          have HWR := Lib.hid (HA.out.kept C.out (by simp))
          have v2 := blk_cell HWR.out.head
          rw [hDl] at v2
          obtain ⟨v3, v4⟩ := HWR.out.shard i hiD
          rw [HDD.out] at v3
          unfold Sr.v at v3
          simp only at v3
          have fr := HWR.out.free
          have mg := HWR.out.lt g HWR.out.ing
          obtain ⟨fi2, hp2, hf2⟩ := HPT2.out wr C.out a c MM HR.out (fun r hr => by rw [← hMM] at hr; exact (List.mem_filter.1 hr).1)
          have HP2 := Lib.hid hp2
          have HF2 := Lib.hid hf2
          have HG2 := Lib.hid (show (foldK st.keep now st.sh (List.range (i + 1))).2 = N0 + cn ∧ (Di.set i ⟨a, c, MM, dn⟩).map Sr.p = (foldK st.keep now st.sh (List.range (i + 1))).1 from by
            rw [G2.out]
            refine ⟨by show N0 + cntD st.keep now (dL.map Rc.p) = N0 + cn; rw [hcn], ?_⟩
            simp only [List.map_set, HM.out]
            congr 1
            simp only [Sr.p, trimD, hcn, T1.out]
            congr 1
            omega)
          have HCH := Lib.hid (show Chg f w (wr.setCell ⟨g, i * 2, none⟩ (.slice a MM.length c)) from (HC.out.then C.out (by simp)).then ((Chg.refl [g] wr).setCell _ _ (by simp)) (fun x hx hl => by
            simp at hx; subst hx
            rcases HFI.out _ HA.out.ing with h | h
            · exact h
            · omega))
          have HFF := Lib.hid (show ∀ x ∈ fi2, x ∈ f ∨ w.heap.size ≤ x from fun x hx => by
            rcases HF2.out x hx with h | h
            · exact HFI.out x h
            · exact .inr (Nat.le_trans HC.out.size h))
          clear hp2 hf2 hMM hcn hl1 hcc ht hkl
          go_wp2_with fail
          exact ⟨⟨i + 1, _, fi2, by go_num, by rw [HG2.out.1], by omega, Lib.hid HG2.out.2, HP2, HCH, HFF⟩, by simp [intOf]; omega⟩
    · have his : i = D.length := by omega
      have hin : ¬ ((i : Int) < (D.length : Int)) := by omega
      have hsl : List.range i = List.range st.sh.length := by rw [his, HD.out]
      rw [hsl] at HM ⊢
      have HE := Lib.hid E4.out
      generalize foldK st.keep now st.sh (List.range st.sh.length) = FK at *
      have frb := blk_free HA.out.head
      have mb := HA.out.lt b HA.out.inb
      have HS := Lib.hid (HA.out.setHead 1 (.int .i64 now) st.keep now (by simp))
      have HCH := Lib.hid (show Chg f w (wo.setCell ⟨b, 1, none⟩ (.int .i64 now)) from HC.out.then ((Chg.refl [b] wo).setCell _ _ (by simp)) (fun x hx hl => by
        simp at hx; subst hx
        rcases HFI.out _ HA.out.inb with h | h
        · exact h
        · omega))
      clear his hsl hil
      go_wp2_with fail
      go_ret
      rw [HE.out]
      exact ⟨rfl, fi, ⟨g, Di, HM.out.symm, HS.out⟩, HCH.out, HFI.out⟩
end Go.Proofs.YtmichbpfmachcaaDoor
namespace Go.Proofs.YtmichbpfmachcaaDoor
set_option linter.unusedVariables false
set_option linter.unusedSimpArgs false
open Go.RowKit
variable {W w w' : World} {b rb n : Nat} {st : Stm} {K : List Nat → World → Prop}
def opB (x : OpS) : Obj := .cells #[.int .i64 x.kind, .string x.e.p.id, .string x.e.p.tn, .string x.e.p.src, .string x.e.p.key, .int .i64 x.e.p.at_, .string x.e.p.cause, .slice x.e.ba x.e.p.body.length x.e.bc, .int .i64 x.now, .int .i64 x.shard, .int .i64 x.from_, .int .i64 x.most] 27
theorem pair_rturned {st' : Stm} (sK : Side K) (h : Pair W w (JRs W b st) K) (ht : ∀ f, RIs W w b st f → RTurned W w w' b st' f) : Pair W w' (JRs W b st') K :=
  h.turn sK (fun f hf _ => ht f hf)
theorem p_ris {J : List Nat → World → Prop} (h : Pair W w (JRs W b st) J) : ∃ f, RIs W w b st f ∧ ∀ x ∈ f, W.heap.size ≤ x := by obtain ⟨f, k, h1, -, h3, -⟩ := h; exact ⟨f, h1, h3⟩
theorem p_rapp (sK : Side K) (h : Pair W w (JRs W b st) K) (ho : st.ok n) (hn : n ≤ 1048575) (ht : TabW W) (e : Ev) (hi : InIs ceC 4 W e.ba e.bc e.p.body) (hg : e.p.good) (now : Int) :
    Calls Tryd.prog 31 #[.pointer (some ⟨b, 0, none⟩), .agg (evC e).toArray, .int .i64 now] w fun x w' => x = .returned (.tuple #[.int .i64 (appR st e.p now).1.1, .int .i64 (appR st e.p now).1.2.1, .int .i64 (appR st e.p now).1.2.2]) ∧ Pair W w' (JRs W b (appR st e.p now).2) K := by
  obtain ⟨f, k, h1, h2, h3, h4, h5, h6⟩ := h
  refine (rapp_any h1 h6 h3 ho hn e hi hg (ht.kept h6) now).mono ?_
  rintro x w' ⟨rfl, hT⟩
  refine ⟨rfl, ?_⟩
  obtain ⟨f', q1, q2, q3⟩ := hT
  refine ⟨f', k, q1, sK.kept h2 q2 (fun x hx hy => h5 x hy hx), fun x hx => ?_, h4, fun x hx hy => ?_, h6.then q2 (fun y hy hl => by have := h3 y hy; omega)⟩
  · rcases q3 x hx with h | h
    · exact h3 x h
    · exact Nat.le_trans h6.size h
  · rcases q3 x hx with h | h
    · exact h5 x h hy
    · have := sK.lt h2 x hy; omega
theorem p_rtrim (sK : Side K) (h : Pair W w (JRs W b st) K) (ho : st.ok n) (hn : n ≤ 1048575) (hf : st.fine) (now : Int) :
    Calls Tryd.prog 33 #[.pointer (some ⟨b, 0, none⟩), .int .i64 now] w fun x w' => x = .returned (.int .i64 (trimR st now).1) ∧ Pair W w' (JRs W b (trimR st now).2) K := by
  obtain ⟨f, k, h1, h2, h3, h4, h5, h6⟩ := h
  refine (rtrim_any h1 ho hn hf now).mono ?_
  rintro x w' ⟨rfl, f', q1, q2, q3⟩
  refine ⟨rfl, f', k, q1, sK.kept h2 q2 (fun x hx hy => h5 x hy hx), fun x hx => ?_, h4, fun x hx hy => ?_, h6.then q2 (fun y hy hl => by have := h3 y hy; omega)⟩
  · rcases q3 x hx with h | h
    · exact h3 x h
    · exact Nat.le_trans h6.size h
  · rcases q3 x hx with h | h
    · exact h5 x h hy
    · have := sK.lt h2 x hy; omega
theorem p_rread (sK : Side K) (h : Pair W w (JRs W b st) K) (ho : st.ok n) (hn : n ≤ 1048575) (hf : st.fine) (k from_ most : Int) :
    Calls Tryd.prog 32 #[.pointer (some ⟨b, 0, none⟩), .int .i64 k, .int .i64 from_, .int .i64 most] w fun x w' => ∃ a c M, x = .returned (.tuple #[.slice a M.length c, .int .i64 (readR st k from_ most).2]) ∧ M.map Rc.p = (readR st k from_ most).1 ∧ RecsIn w' a M ∧ Chg [] w w' := by
  obtain ⟨f, hf1, -⟩ := p_ris h
  have hc0 := h.chg
  refine (rread_any hf1 hc0 ho hn hf k from_ most).mono ?_
  rintro x w' ⟨a, c, M, rfl, h1, h2, h3, h4⟩
  exact ⟨a, c, M, rfl, h3, ⟨(RowOf.sl h1 rcC_len).1, fun r hr => (h2 r hr).kept (hc0.thenSame h4)⟩, h4⟩
/-- The state behind an operation. -/
def stepR (st : Stm) (x : OpS) : Stm := if x.kind = 0 then (appR st x.e.p x.now).2 else if x.kind = 2 then (trimR st x.now).2 else st
theorem stepR_ok (ho : st.ok n) (hf : st.fine) (x : OpS) (hb : x.e.p.body.length ≤ 1048576) : (stepR st x).ok (n + 1) ∧ (stepR st x).fine ∧ (stepR st x).sh.length = st.sh.length := by
  unfold stepR
  split
  · exact ⟨appR_ok ho _ hb _, appR_fine hf (fun key => (bucketZ_bounds key (by have := ho.1; omega)).1) _ _, appR_len _ _ _⟩
  split
  · exact ⟨(trimR_ok ho _).mono (by omega), trimR_fine hf _, trimR_len _ _⟩
  · exact ⟨ho.mono (by omega), hf, rfl⟩
set_option maxHeartbeats 16000000 in
set_option maxRecDepth 100000 in
theorem step_any (h : Pair W w (JS b st) (JRs W rb st)) (ho : st.ok n) (hn : n ≤ 1000) (hf : st.fine) (ht : TabW W) (x : OpS) (hx : x.good W) (hs : smallE x.e.p = true) :
    Calls Tryd.prog 17 #[.pointer (some ⟨b, 0, none⟩), .pointer (some ⟨rb, 0, none⟩), .agg (opC x).toArray] w fun e w' => e = .returned (.bool true) ∧ Pair W w' (JS b (stepR st x)) (JRs W rb (stepR st x)) := by
  have hgx := good_of hx hs
  have hix := hx.2
  have HLW := Lib.hid (show ∀ y, x.e.ba = some y → 0 < x.e.p.body.length → y.block < W.heap.size from fun y hy h => by
    obtain ⟨q, o, e1, e2, _⟩ := hix.1.2 0 h
    rw [hy] at e1
    cases e1
    exact e2)
  have P1 := Lib.hid (Pair.box (stmSide b st) (rstmSide W rb st) h (opB x))
  obtain ⟨W1, hW1⟩ : ∃ W1, W1 = w.alloc (opB x) := ⟨_, rfl⟩
  rw [← hW1] at P1
  have X1 := Lib.hid (Pair.boxAt P1.out)
  have x1 := blk_cell X1.out
  unfold opB at hW1 x1
  simp only [opC, evC, List.cons_append, List.nil_append]
  have HW1 := Lib.hid hW1
  have HO := Lib.hid ho
  have HF := Lib.hid hf
  have HT := Lib.hid ht
  have sB := Lib.hid (boxSide w.heap.size (opB x))
  have SA := Lib.hid (fun s => stmSide b s)
  have SR := Lib.hid (fun s => rstmSide W rb s)
  clear hW1 h ho hf ht hx hs
  go_enter Tryd.func17, Tryd.ntmps17
  go_upto_region 1 with fail
  rw [← HW1.out]
  by_cases k0 : x.kind = 0
  · have A := Lib.hid (p_append (n := n) (andSide (SR.out st) sB.out) P1.out (Chg.refl _ _) HO.out (by omega) HT.out x.e (hix.kept P1.out.chg) hgx (fun y hy hl => .inl (HLW.out y hy hl)) x.now)
    have HS : Hid (stepR st x = (appR st x.e.p x.now).2) := Lib.hid (by unfold stepR; rw [if_pos k0])
    simp only [evC] at A
    go_wp2_with fail
    refine A.out.mono ?_; rintro y w2 ⟨rfl, hP⟩
    have P2 := Lib.hid hP.swap
    clear hP A
    have X2 := Lib.hid (Pair.boxAt P2.out)
    have x2 := blk_cell X2.out
    unfold opB at x2
    have A := Lib.hid (p_rapp (n := n) (andSide (SA.out _) sB.out) P2.out HO.out (by omega) HT.out x.e hix hgx x.now)
    simp only [evC] at A
    generalize hR : appR st x.e.p x.now = R at *
    obtain ⟨⟨r1, r2, r3⟩, S2⟩ := R
    simp only at *
    go_wp2_with fail
    refine A.out.mono ?_; rintro y w3 ⟨rfl, hP⟩
    have P3 := Lib.hid (Pair.dropR hP.swap)
    clear hP A
    go_wp2_with fail
    go_ret
    rw [HS.out]
    exact ⟨rfl, P3.out⟩
  by_cases k2 : x.kind = 2
  · have HS : Hid (stepR st x = (trimR st x.now).2) := Lib.hid (by unfold stepR; rw [if_neg k0, if_pos k2])
    have PD := Lib.hid (Pair.keptN (SA.out st) (andSide (SR.out st) sB.out) P1.out ((Chg.refl [] W1).drew))
    have A := Lib.hid (p_trim (n := n) (andSide (SR.out st) sB.out) PD.out HO.out (by omega) x.now)
    have HX := Lib.hid (show W1.drew.cell? ⟨w.heap.size, 8, none⟩ = some (.int .i64 x.now) from x1 8)
    go_wp2_with fail
    go_region_held3 (fun w' => w'.cell? ⟨w.heap.size, 8, none⟩ = some (.int .i64 x.now))
      (first | exact x3 | exact x2 | exact HX.out)
      (first | (go_at_call 20; refine A.out.mono ?_; rintro y w2 ⟨rfl, hP⟩; have P2 := Lib.hid hP.swap; have x2 : w2.cell? ⟨w.heap.size, 8, none⟩ = some (.int .i64 x.now) := blk_cell (Pair.boxAt P2.out) 8; clear hP) | (go_at_call 33; refine (p_rtrim (n := n) (andSide (SA.out _) sB.out) P2.out HO.out (by omega) HF.out x.now).mono ?_; rintro y w3 ⟨rfl, hP⟩; have P3 := Lib.hid hP.swap; have x3 : w3.cell? ⟨w.heap.size, 8, none⟩ = some (.int .i64 x.now) := blk_cell (Pair.boxAt P3.out) 8; clear hP))
    go_wp2_with fail
    go_ret
    rw [HS.out]
    exact ⟨rfl, Pair.dropR P3.out⟩
  have HS : Hid (stepR st x = st) := Lib.hid (by unfold stepR; rw [if_neg k0, if_neg k2])
  by_cases k1 : x.kind = 1
  · have A := Lib.hid (p_read (n := n) (andSide (SR.out st) sB.out) P1.out HO.out (by omega) x.shard x.from_ x.most)
    have HRB := Lib.hid (readR_bodies HO.out x.shard x.from_ x.most)
    go_wp2_with fail
    refine A.out.mono ?_; rintro y w2 ⟨a1, c1, M1, rfl, hM1, hP⟩
    have P2 := Lib.hid hP
    have X2 := Lib.hid (Pair.boxAt (Pair.dropR P2.out))
    have x2 := blk_cell X2.out
    unfold opB at x2
    have PR := Lib.hid (Pair.swap (Pair.dropR P2.out))
    have A2 := Lib.hid (p_rread (n := n) (andSide (SA.out st) sB.out) PR.out HO.out (by omega) HF.out x.shard x.from_ x.most)
    have HM1 := Lib.hid hM1
    clear hP hM1 A
    generalize hR : readR st x.shard x.from_ x.most = R at *
    obtain ⟨R1, R2⟩ := R
    simp only at *
    have hl1 : M1.length = R1.length := by rw [← HM1.out, List.length_map]
    clear x1
    go_wp2_with fail
    refine A2.out.mono ?_; rintro y w3 ⟨a2, c2, M2, rfl, hM2, hRI, hc⟩
    have HM2 := Lib.hid hM2
    have hl2 : M2.length = R1.length := by rw [← HM2.out, List.length_map]
    have PQ := Lib.hid (Pair.keptN (SA.out st) (andSide (andSide (SR.out st) sB.out) (recSide a1 M1)) P2.out hc)
    have RS := Lib.hid (rsame_any a1 c1 M1 a2 c2 M2 w3 (pair_recs PQ.out) hRI (fun r hr => HRB.out.1 r.p (by rw [← HM1.out]; exact List.mem_map_of_mem hr)) (fun r hr => HRB.out.1 r.p (by rw [← HM2.out]; exact List.mem_map_of_mem hr)) (by have := HRB.out.2; omega) (by have := HRB.out.2; omega))
    rw [same_of_map (HM1.out.trans HM2.out.symm), hl1, hl2] at RS
    rw [hl2]
    clear hM2 hRI hc A2
    go_wp2_with fail
    refine RS.out.mono ?_; rintro y w4 ⟨rfl, hc⟩
    have PZ := Lib.hid (Pair.keptN (SA.out st) (andSide (SR.out st) sB.out) (Pair.dropR PQ.out) hc)
    clear hc RS
    go_wp2_with fail
    go_ret
    rw [HS.out]
    exact ⟨rfl, Pair.dropR PZ.out⟩
  by_cases k3 : x.kind = 3
  · obtain ⟨f1, hf1⟩ := p_is P1.out
    have A1 := Lib.hid (stm_first x.shard hf1 HO.out)
    obtain ⟨f2, hf2, -⟩ := p_ris P1.out.swap
    have A2 := Lib.hid (rfirst_any (n := n) x.shard hf2 HO.out (by omega))
    have e1 : (x.kind == 1) = false := by simpa using k1
    generalize hz1 : firstZ st x.shard = Z1 at *
    obtain ⟨z1, z2⟩ := Z1
    simp only at A1 A2
    clear hf1 hf2
    go_wp2_with fail
    refine A1.out.mono ?_; rintro y w2 ⟨rfl, rfl⟩
    go_wp2_with fail
    refine A2.out.mono ?_; rintro y w3 ⟨rfl, hc⟩
    have P3 := Lib.hid (Pair.keptN (SA.out st) (andSide (SR.out st) sB.out) P1.out hc)
    have x3 := blk_cell (Pair.boxAt P3.out)
    unfold opB at x3
    obtain ⟨f1, hf1⟩ := p_is P3.out
    have A3 := Lib.hid (stm_next (n := n) x.shard hf1 HO.out (by omega))
    generalize hz2 : nextZ st x.shard = Z2 at *
    obtain ⟨z3, z4⟩ := Z2
    simp only at A3
    clear hf1 hc x1
    go_wp2_with fail
    refine A3.out.mono ?_; rintro y w4 ⟨rfl, hc⟩
    have P4 := Lib.hid (Pair.keptN (SA.out st) (andSide (SR.out st) sB.out) P3.out hc)
    have x4 := blk_cell (Pair.boxAt P4.out)
    unfold opB at x4
    obtain ⟨f2, hf2, -⟩ := p_ris P4.out.swap
    have A4 := Lib.hid (rnext_any (n := n) x.shard hf2 HO.out (by omega))
    rw [hz2] at A4
    simp only at A4
    clear hf2 hc x3
    go_wp2_with fail
    refine A4.out.mono ?_; rintro y w5 ⟨rfl, hc⟩
    have P5 := Lib.hid (Pair.keptN (SA.out st) (andSide (SR.out st) sB.out) P4.out hc)
    clear hc
    go_wp2_with fail
    go_ret
    rw [HS.out]
    exact ⟨rfl, Pair.dropR P5.out⟩
  · have e0 : (x.kind == 0) = false := by simpa using k0
    have e1 : (x.kind == 1) = false := by simpa using k1
    have e2 : (x.kind == 2) = false := by simpa using k2
    have e3 : (x.kind == 3) = false := by simpa using k3
    clear k0 k1 k2 k3
    go_wp2_with fail
    go_ret
    rw [HS.out]
    exact ⟨rfl, Pair.dropR P1.out⟩
end Go.Proofs.YtmichbpfmachcaaDoor
namespace Go.Proofs.YtmichbpfmachcaaDoor
set_option linter.unusedVariables false
set_option linter.unusedSimpArgs false
open Go.RowKit
/-- An operation's cells. -/
def OpAt (w' : World) (g o : Nat) (x : OpS) : Prop := w'.cell? ⟨g, o, none⟩ = some (.int .i64 x.kind) ∧ w'.cell? ⟨g, o + 1, none⟩ = some (.string x.e.p.id) ∧ w'.cell? ⟨g, o + 2, none⟩ = some (.string x.e.p.tn) ∧ w'.cell? ⟨g, o + 3, none⟩ = some (.string x.e.p.src) ∧ w'.cell? ⟨g, o + 4, none⟩ = some (.string x.e.p.key) ∧ w'.cell? ⟨g, o + 5, none⟩ = some (.int .i64 x.e.p.at_) ∧ w'.cell? ⟨g, o + 6, none⟩ = some (.string x.e.p.cause) ∧ w'.cell? ⟨g, o + 7, none⟩ = some (.slice x.e.ba x.e.p.body.length x.e.bc) ∧ w'.cell? ⟨g, o + 8, none⟩ = some (.int .i64 x.now) ∧ w'.cell? ⟨g, o + 9, none⟩ = some (.int .i64 x.shard) ∧ w'.cell? ⟨g, o + 10, none⟩ = some (.int .i64 x.from_) ∧ w'.cell? ⟨g, o + 11, none⟩ = some (.int .i64 x.most)
theorem opCells12 {w : World} {g o : Nat} (x : OpS) (h : ∀ w', Chg [] w w' → ∀ j, j < 12 → w'.cell? ⟨g, o + j, none⟩ = (opC x)[j]?) : ∀ w', Chg [] w w' → OpAt w' g o x :=
  fun w' hc => ⟨h w' hc 0 (by omega), h w' hc 1 (by omega), h w' hc 2 (by omega), h w' hc 3 (by omega), h w' hc 4 (by omega), h w' hc 5 (by omega), h w' hc 6 (by omega), h w' hc 7 (by omega), h w' hc 8 (by omega), h w' hc 9 (by omega), h w' hc 10 (by omega), h w' hc 11 (by omega)⟩
set_option maxHeartbeats 16000000 in
set_option maxRecDepth 100000 in
theorem plays_walk (a0 : Int) (a1 : Int) (a2 : Option Addr) (len2 cap2 : Nat) (l2 : List OpS) (w : World) (w0 : (Lit.int .i64 a0).wf = true) (w1 : (Lit.int .i64 a1).wf = true) (w2 : SlIs opC 12 w a2 len2 l2 ∧ (∀ x ∈ l2, x.good w) ∧ len2 ≤ maxLen ∧ len2 ≤ cap2) (ht : TabW w) :
    Calls Tryd.prog 4 #[.int .i64 a0, .int .i64 a1, .slice a2 len2 cap2] w fun e w' => e = .returned (.bool true) ∧ Below w.heap.size w w' := by
  obtain ⟨hs2, hg2, -, -⟩ := w2
  have hl2 : l2.length = len2 := hs2.1
  subst hl2
  have AW := Lib.hid (fun w' (hc : Chg [] w w') => awake_any w' (ht.kept hc))
  have SM := Lib.hid (fun w' (hc : Chg [] w w') => smallOps_any a2 cap2 l2 w' ⟨hs2.kept hc, fun x hx => (hg2 x hx).2.kept hc⟩)
  have HT := Lib.hid ht
  clear w0 w1 ht
  by_cases hbad : a0 < 1 ∨ 8 < a0 ∨ a1 < 1 ∨ 1073741824 < a1
  · have A := Lib.hid (stm_new_bad a0 a1 w hbad)
    have B := Lib.hid (rnew_bad a0 a1 w hbad)
    clear hbad
    go_enter Tryd.func4, Tryd.ntmps4
    go_wp2_with fail
    refine A.out.mono ?_; rintro y w3 ⟨rfl, rfl⟩
    go_wp2_with fail
    refine B.out.mono ?_; rintro y w4 ⟨p, rfl, hc⟩
    have C4 := Lib.hid hc
    clear hc A B
    go_wp2_with (go_at_call 10; refine (AW.out w4 C4.out).mono ?_; rintro x w5 ⟨rfl, hc4⟩; have C5 := Lib.hid (C4.out.thenSame hc4); clear hc4)
    go_ret
    exact ⟨rfl, C5.out.toBelow (Nat.le_refl _) (by simp)⟩
  have b1 : 1 ≤ a0 := by omega
  have b2 : a0 ≤ 8 := by omega
  have b3 : 1 ≤ a1 := by omega
  have b4 : a1 ≤ 1073741824 := by omega
  clear hbad
  have O := Lib.hid (newS_ok a0 a1 b1 b2 b3 b4)
  have SR := Lib.hid (fun rb s => rstmSide w rb s)
  go_enter Tryd.func4, Tryd.ntmps4
  go_wp2_with fail
  refine (stm_new_ok a0 a1 w b1 b2 b3 b4).mono ?_; rintro y w3 ⟨b, f, rfl, hS, hc, hf⟩
  have P0 := Lib.hid (Pair.first (W := w) (w := w) (w' := w3) (J' := JS b (newS a0 a1)) (Chg.refl _ _) ⟨f, hS, hc, hf⟩)
  clear hS hc hf
  go_wp2_with fail
  refine (rnew_ok w a0 a1 w3 b1 b2 b3 b4).mono ?_; rintro y w4 ⟨rb, f2, rfl, hS, hc, hf⟩
  have P1 := Lib.hid (Pair.start (J' := JRs w rb (newS a0 a1)) (stmSide b _) P0.out ⟨f2, hS, hc, hf⟩).symm
  have C4 := Lib.hid P1.out.chg
  clear hS hc hf
  go_wp2_with fail
  refine (SM.out w4 C4.out).mono ?_; rintro y w5 ⟨rfl, hc⟩
  have P2 := Lib.hid (Pair.keptN (stmSide b _) (SR.out rb _) P1.out hc)
  have C5 := Lib.hid P2.out.chg
  clear hc
  cases hsm : smallOps l2
  · go_wp2_with (go_at_call 10; refine (AW.out w5 C5.out).mono ?_; rintro x w6 ⟨rfl, hc4⟩; have C6 := Lib.hid (C5.out.thenSame hc4); clear hc4)
    go_ret
    exact ⟨rfl, C6.out.toBelow (Nat.le_refl _) (by simp)⟩
  have hll : l2.length ≤ 60 ∧ ∀ x ∈ l2, smallE x.e.p = true := by
    unfold smallOps at hsm
    simpa using hsm
  have HSM := Lib.hid hll.2
  have HGD := Lib.hid hg2
  have HSL := Lib.hid hs2
  have hl60 := hll.1
  have A := Lib.hid (show Calls Tryd.prog 16 #[.pointer (some ⟨b, 0, none⟩)] w5 fun e w' => e = .returned (.int .i64 a0) ∧ w5 = w' from by
    obtain ⟨f, hf⟩ := p_is P2.out
    have := stm_shards hf O.out
    rw [show ((newS a0 a1).sh.length : Int) = a0 by simp [newS]; omega] at this
    exact this)
  clear hll hg2 hs2 hsm
  go_wp2_with fail
  refine A.out.mono ?_; rintro y w6 ⟨rfl, rfl⟩
  clear A
  go_wp2_with fail
  go_loopw [41] (fun t wr => ∃ (k : Nat) (S : Stm), t = .int .i64 k ∧ k ≤ l2.length ∧ Hid (S.ok k ∧ S.fine) ∧ Hid (Pair w wr (JS b S) (JRs w rb S))) (fun t _ => l2.length - (intOf t).toNat)
  case atStart => exact ⟨0, newS a0 a1, rfl, Nat.zero_le _, Lib.hid ⟨O.out, newS_fine _ _⟩, P2⟩
  case round =>
    obtain ⟨k, S, rfl, hk, HO, P⟩ := hrel
    have k0 : (0 : Int) ≤ (k : Int) := by omega
    have C := Lib.hid P.out.chg
    by_cases hlt : k < l2.length
    · have k1 : (k : Int) < (l2.length : Int) := by omega
      have HE2 := Lib.hid (fun w' (hc : Chg [] w w') => HSL.out.elem hc k hlt)
      obtain ⟨g1, o1, rfl, -, hbr, -⟩ := HSL.out.elem C.out k hlt
      have hgx := HGD.out _ (List.getElem_mem hlt)
      have hsx := HSM.out _ (List.getElem_mem hlt)
      generalize l2[k] = x at *
      have HSS := Lib.hid (opCells12 x (fun w' (hc : Chg [] w w') => by
        obtain ⟨g2, o2, e2, -, -, hcc⟩ := HE2.out w' hc
        cases e2
        exact hcc))
      have hkey : x.e.p.key.size ≤ maxLen := hgx.1.2.2.2.1
      have hbody : x.e.p.body.length ≤ 1048576 := (good_of hgx hsx).2.2.2.2.2.1
      have PD := Lib.hid (Pair.keptN (stmSide b S) (SR.out rb S) P.out ((Chg.refl [] wr).drew))
      have A := Lib.hid (step_any (n := k) PD.out HO.out.1 (by omega) HO.out.2 HT.out x hgx hsx)
      have HOK := Lib.hid (stepR_ok HO.out.1 HO.out.2 x hbody)
      simp only [opC, evC, List.cons_append, List.nil_append] at A
      generalize stepR S x = S2 at *
      go_wp2_with fail
      go_region_held3 (fun w' => w'.cell? ⟨g1, o1 + k * 12, none⟩ = some (.int .i64 x.kind) ∧ w'.cell? ⟨g1, o1 + k * 12 + 1, none⟩ = some (.string x.e.p.id) ∧ w'.cell? ⟨g1, o1 + k * 12 + 2, none⟩ = some (.string x.e.p.tn) ∧ w'.cell? ⟨g1, o1 + k * 12 + 3, none⟩ = some (.string x.e.p.src) ∧ w'.cell? ⟨g1, o1 + k * 12 + 4, none⟩ = some (.string x.e.p.key) ∧ w'.cell? ⟨g1, o1 + k * 12 + 5, none⟩ = some (.int .i64 x.e.p.at_) ∧ w'.cell? ⟨g1, o1 + k * 12 + 6, none⟩ = some (.string x.e.p.cause) ∧ w'.cell? ⟨g1, o1 + k * 12 + 7, none⟩ = some (.slice x.e.ba x.e.p.body.length x.e.bc) ∧ w'.cell? ⟨g1, o1 + k * 12 + 8, none⟩ = some (.int .i64 x.now) ∧ w'.cell? ⟨g1, o1 + k * 12 + 9, none⟩ = some (.int .i64 x.shard) ∧ w'.cell? ⟨g1, o1 + k * 12 + 10, none⟩ = some (.int .i64 x.from_) ∧ w'.cell? ⟨g1, o1 + k * 12 + 11, none⟩ = some (.int .i64 x.most))
        (first | exact HSS.out _ D6.out | exact HSS.out _ (C.out.thenSame ((Chg.refl [] wr).drew)))
        (first | (go_at_call 17; refine A.out.mono ?_; rintro y w7 ⟨rfl, hP⟩; have P6 := Lib.hid hP; have D6 := Lib.hid P6.out.chg; have SH := Lib.hid (stm_shard x.e.p.key hkey (Classical.choose_spec (p_is P6.out)) HOK.out.1); have RH := Lib.hid (rshard_any x.e.p.key hkey (Classical.choose_spec (p_ris P6.out.symm)).1 HOK.out.1); clear hP A) | (go_at_call 18; refine SH.out.mono ?_; rintro y w8 ⟨rfl, rfl⟩) | (go_at_call 19; refine RH.out.mono ?_; rintro y w8 ⟨rfl, rfl⟩))
      go_wp2_with fail
      exact ⟨⟨k + 1, S2, by go_num, by omega, Lib.hid ⟨HOK.out.1, HOK.out.2.1⟩, P6⟩, by simp [intOf]; omega⟩
    · have hkn : ¬ ((k : Int) < (l2.length : Int)) := by omega
      go_wp2_with (go_at_call 10; refine (AW.out _ C.out).mono ?_; rintro x w7 ⟨rfl, hc4⟩; have C7 := Lib.hid (C.out.thenSame hc4); clear hc4)
      go_ret
      exact ⟨rfl, C7.out.toBelow (Nat.le_refl _) (by simp)⟩
end Go.Proofs.YtmichbpfmachcaaDoor
