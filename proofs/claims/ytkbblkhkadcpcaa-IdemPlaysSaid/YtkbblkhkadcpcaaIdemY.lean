/- Chapter 27: the invariant of both tables; IdemPlays: a table under any calls has the results, the length and the keys of the reference. No condition. -/
import Derived.Test.YtkbblkhkadcpcaaIdemQ
namespace Go.Proofs.Ytkbblkhkadcpcaa
open Go.RowKit

/-- What becomes of the reference's table. -/
def Turned (r r' : RSt) : Prop := r' = r ∨ ∃ now L, clockE r now = 0 ∧ r' = { r with time := now, l := L } ∧ ∀ x ∈ L, x ∈ livS r now ∨ x.frm = now

theorem turned_begin (r : RSt) (key dig : ByteArray) (now : Int) : Turned r (rbeginS r key dig now).2 := by
  unfold rbeginS
  split
  · exact .inl rfl
  split
  · exact .inl rfl
  rename_i h0
  have h0' : clockE r now = 0 := Classical.not_not.1 h0
  split
  · split
    · exact .inl rfl
    · refine .inr ⟨now, _, h0', rfl, fun x hx => ?_⟩
      rcases List.mem_append.1 hx with h | h
      · exact .inl h
      · simp at h; subst h; exact .inr rfl
  · split
    · exact .inl rfl
    · split
      · exact .inr ⟨now, _, h0', rfl, fun x hx => .inl hx⟩
      · exact .inr ⟨now, _, h0', rfl, fun x hx => .inl hx⟩
theorem turned_finish (r : RSt) (key dig res : ByteArray) (now : Int) : Turned r (rfinishS r key dig res now).2 := by
  unfold rfinishS
  split
  · exact .inl rfl
  split
  · exact .inl rfl
  split
  · exact .inl rfl
  rename_i h0
  have h0' : clockE r now = 0 := Classical.not_not.1 h0
  split
  · exact .inl rfl
  · split
    · exact .inl rfl
    · split
      · exact .inl rfl
      · refine .inr ⟨now, _, h0', rfl, fun x hx => ?_⟩
        rcases List.mem_or_eq_of_mem_set hx with h | h
        · exact .inl h
        · subst h; exact .inr rfl
theorem turned_abandon (r : RSt) (key dig : ByteArray) (now : Int) : Turned r (rabandonS r key dig now).2 := by
  unfold rabandonS
  split
  · exact .inl rfl
  split
  · exact .inl rfl
  rename_i h0
  have h0' : clockE r now = 0 := Classical.not_not.1 h0
  split
  · exact .inl rfl
  · split
    · exact .inl rfl
    · split
      · exact .inl rfl
      · exact .inr ⟨now, _, h0', rfl, fun x hx => .inl (List.mem_of_mem_eraseIdx hx)⟩
theorem turned_sweep (r : RSt) (now : Int) : Turned r (rsweepS r now).2 := by
  unfold rsweepS
  split
  · exact .inl rfl
  rename_i h0
  exact .inr ⟨now, _, Classical.not_not.1 h0, rfl, fun x hx => .inl hx⟩
theorem turned_step (r : RSt) (x : OpD) : Turned r (stepR r x) := by
  unfold stepR
  split
  · exact turned_begin _ _ _ _
  · split
    · exact turned_finish _ _ _ _ _
    · split
      · exact turned_abandon _ _ _ _
      · split
        · exact turned_sweep _ _
        · exact .inl rfl

/-- Of the reference's table: the program's, which it stands for, keeps its bounds; each record lives; each time is one. -/
def Inv (r : RSt) : Prop := (toSt r).ok ∧ allLive r ∧ frmIn r

theorem inv_new {a b : Int} (h1 : 1 ≤ a) (h2 : a ≤ 256) (h3 : 1 ≤ b) (h4 : b ≤ 1073741824) : Inv ⟨a, b, 0, []⟩ :=
  ⟨by simp [St.ok, toSt]; omega, by simp [allLive], by simp [frmIn]⟩

theorem turned_inv {r r' : RSt} (h : Turned r r') (hi : Inv r) : allLive r' ∧ frmIn r' ∧ r'.room = r.room ∧ r'.ttl = r.ttl := by
  obtain ⟨hok, ha, hf⟩ := hi
  have ht : 1 ≤ r.ttl := hok.2.2.1
  rcases h with rfl | ⟨now, L, h0, rfl, hL⟩
  · exact ⟨ha, hf, rfl, rfl⟩
  · obtain ⟨n0, n1, _⟩ := clockE_zero h0
    refine ⟨fun x hx => ?_, fun x hx => ?_, rfl, rfl⟩
    · show now < x.frm + r.ttl
      rcases hL x hx with h | h
      · have := (List.mem_filter.1 h).2
        simpa [rlive] using this
      · omega
    · rcases hL x hx with h | h
      · exact hf x (List.mem_filter.1 h).1
      · omega

theorem step_sim (r : RSt) (x : OpD) (hn : (toSt r).nd) (ha : allLive r) : stepP (toSt r) x = toSt (stepR r x) ∧ stepB (toSt r) r x = true := by
  unfold stepP stepR stepB
  by_cases k0 : x.kind = 0
  · obtain ⟨h1, h2⟩ := begin_sim r x.key x.dig x.now hn
    simp only [if_pos k0]; exact ⟨h2, by simpa using h1⟩
  by_cases k1 : x.kind = 1
  · obtain ⟨h1, h2⟩ := finish_sim r x.key x.dig x.res x.now hn
    simp only [if_neg k0, if_pos k1]; exact ⟨h2, by simpa using h1⟩
  by_cases k2 : x.kind = 2
  · obtain ⟨h1, h2⟩ := abandon_sim r x.key x.dig x.now hn
    simp only [if_neg k0, if_neg k1, if_pos k2]; exact ⟨h2, by simpa using h1⟩
  by_cases k3 : x.kind = 3
  · obtain ⟨h1, h2⟩ := sweep_sim r x.now ha
    simp only [if_neg k0, if_neg k1, if_neg k2, if_pos k3]; exact ⟨h2, by simpa using h1⟩
  · simp only [if_neg k0, if_neg k1, if_neg k2, if_neg k3]; exact ⟨trivial, trivial⟩

theorem step_inv {r : RSt} {x : OpD} (hi : Inv r) (hn : (toSt r).nd) : Inv (stepR r x) := by
  obtain ⟨h1, h2, _, _⟩ := turned_inv (turned_step r x) hi
  refine ⟨?_, h1, h2⟩
  rw [← (step_sim r x hn hi.2.1).1]
  exact stepP_ok hi.1 hn

theorem keys_same {r : RSt} (hi : Inv r) (hn : (toSt r).nd) : keysS (toSt r) = rkeysS r := by
  have hd : (r.l.map fun x => bs x.key).Nodup := by
    have := nd_ent hn
    have e : (r.l.map fun x => bs x.key) = (r.l.map REnt.key).map bs := by rw [List.map_map]; rfl
    rw [e]
    exact List.Pairwise.map bs (fun a b h e => h (bs_inj e)) this
  unfold keysS rkeysS
  rw [liv_all hi.2.1, sorted_merge _ hd]
  simp only [toSt, List.map_map]
  rfl

def PlayStep (w : World) (tb mb rb : Nat) (r : RSt) (e : Ending) (w' : World) : Prop := e = .returned (.bool true) ∧ TabIs w' tb mb (toSt r) ∧ RTabIs w' rb [tb, mb] r ∧ Chg [tb, mb, rb] w w'

set_option maxHeartbeats 4000000 in
set_option maxRecDepth 100000 in
theorem plays_walk (a0 a1 : Int) (a2 : Option Addr) (len2 cap2 : Nat) (l : List OpD) (w : World) (_w0 : (Lit.int .i64 a0).wf = true) (_w1 : (Lit.int .i64 a1).wf = true) (w2 : SlIs oCells 5 w a2 len2 l ∧ (∀ x ∈ l, x.good) ∧ len2 ≤ maxLen) :
    Calls Try.prog 5 #[.int .i64 a0, .int .i64 a1, .slice a2 len2 cap2] w fun e w' => e = .returned (.bool true) ∧ Below w.heap.size w w' := by
  obtain ⟨hsl, hgd, hml⟩ := w2
  have Hsl := Lib.hid hsl
  have Hgd := Lib.hid hgd
  have hml' := hml
  unfold maxLen at hml'
  clear hsl hgd
  by_cases hbad : a0 < 1 ∨ 256 < a0 ∨ a1 < 1 ∨ 1073741824 < a1
  · have Hbad := Lib.hid hbad
    clear hbad
    go_enter Try.func5, Try.ntmps5
    go_wp2_with fail
    refine (new_bad a0 a1 w Hbad.out).mono ?_
    rintro e w1 ⟨rfl, rfl⟩
    go_wp2_with fail
    refine (rnew_bad a0 a1 w Hbad.out).mono ?_
    rintro e w1 ⟨rfl, hc1⟩
    go_wp2_with fail
    refine (awake_any _).mono ?_; rintro e w4 ⟨rfl, hb4⟩
    go_wp2_with fail
    go_ret
    exact ⟨rfl, (hc1.toBelow (Nat.le_refl _) (by simp)).trans (hb4.mono hc1.size)⟩
  · have hr1 : 1 ≤ a0 := by omega
    have hr2 : a0 ≤ 256 := by omega
    have ht1 : 1 ≤ a1 := by omega
    have ht2 : a1 ≤ 1073741824 := by omega
    clear hbad
    go_enter Try.func5, Try.ntmps5
    go_wp2_with fail
    refine (new_ok a0 a1 w hr1 hr2 ht1 ht2).mono ?_
    rintro e w1 ⟨tb, mb, rfl, ht1', htb, hmb, hc1⟩
    have htl := lt_of_heap ht1'.1
    have hml2 := ht1'.2.lt
    have Ht1 := Lib.hid ht1'
    clear ht1'
    go_wp2_with fail
    refine (rnew_ok a0 a1 [tb, mb] w1 (by simp; omega) hr1 hr2 ht1 ht2).mono ?_
    rintro e w2 ⟨rb, rfl, hrt, hrb, hc2⟩
    have Hrt := Lib.hid hrt
    have hc12 := hc1.thenSame hc2
    have Hc12 := Lib.hid hc12
    clear hrt hc12
    by_cases hsm : smallL l = true
    · have Hs1 := Lib.hid (smallF_any a2 len2 cap2 l w2 (Hsl.out.kept Hc12.out) Hgd.out hml)
      rw [hsm] at Hs1
      go_wp2_with fail
      refine Hs1.out.mono ?_; rintro e w3 ⟨rfl, rfl⟩
      have HB1 : Hid (Below w.heap.size w w2) := Hc12.out.toBelow (Nat.le_refl _) (by simp)
      have htb2 := Ht1.out.kept hc2 (by simp) (by simp)
      have Ht2 := Lib.hid htb2
      have hsz2 := hc2.size
      clear htb2 hc1 hc2
      go_wp2_with fail
      go_loopw [37] (fun i wr => ∃ (k : Nat) (r : RSt), i = .int .i64 k ∧ k ≤ len2 ∧ TabIs wr tb mb (toSt r) ∧ RTabIs wr rb [tb, mb] r ∧ Inv r ∧ r.room = a0 ∧ Below w.heap.size w wr) (fun i _ => len2 - (intOf i).toNat)
      case atStart => exact ⟨0, ⟨a0, a1, 0, []⟩, rfl, Nat.zero_le _, Ht2.out, Hrt.out, inv_new hr1 hr2 ht1 ht2, rfl, HB1.out⟩
      case round =>
        obtain ⟨k, r, rfl, hkl, ht, hr, hinv, hroom, hbl⟩ := hrel
        by_cases hlt : k < len2
        · have hk2 : k < l.length := by rw [Hsl.out.1]; exact hlt
          obtain ⟨b, off, rfl, hb, hcc⟩ := (Hsl.out.below hbl).2 k hk2
          have hxg := Hgd.out l[k] (List.getElem_mem hk2)
          obtain ⟨x, hx⟩ : ∃ x, x = l[k] := ⟨_, rfl⟩
          rw [← hx] at hcc hxg
          clear hx
          have d0 := hcc 0 (by omega)
          have d1 := hcc 1 (by omega)
          have d2 := hcc 2 (by omega)
          have d3 := hcc 3 (by omega)
          have d4 := hcc 4 (by omega)
          simp only [oCells, List.getElem?_cons_zero, List.getElem?_cons_succ, Nat.add_zero] at d0 d1 d2 d3 d4
          have htl := lt_of_heap ht.1
          have hmbl := ht.2.lt
          have hnd := ht.nd
          have hi2 := step_inv (x := x) hinv hnd
          obtain ⟨hs1, hs2⟩ := step_sim r x hnd hinv.2.1
          have hst := step_any tb mb rb (toSt r) r x wr ht hr hinv.1 (r_ok hinv.1 hinv.2.2) hxg
          rw [hs1, hs2] at hst
          have hrm := (turned_inv (turned_step r x) hinv).2.2.1
          rw [hroom] at hrm
          have hk0 : (0 : Int) ≤ (k : Int) := by omega
          have hk1 : (k : Int) < (len2 : Int) := by omega
          have Hst := Lib.hid hst
          have Hbl := Lib.hid hbl
          have Hi2 := Lib.hid hi2
          obtain ⟨kd, ky, dg, rs, nw⟩ := x
          simp only at d0 d1 d2 d3 d4
          generalize stepR r ⟨kd, ky, dg, rs, nw⟩ = r' at *
          clear hst hbl hi2 hs1 hs2 hnd hinv hr ht hcc hxg
          go_wp2_with fail
          refine Hst.out.mono ?_; rintro e w4 ⟨rfl, ht4, hr4, hc4⟩
          have Ht4 := Lib.hid ht4
          have Hr4 := Lib.hid hr4
          have HB4 : Hid (Below w.heap.size w w4) := Hbl.out.trans (hc4.toBelow Hbl.out.size (by simp; omega))
          have hnd4 := ht4.nd
          have hlr : (livS r' r'.time).length = (toSt r').l.length := by rw [liv_all Hi2.out.2.1]; simp [toSt]
          have Hks := Lib.hid (keys_same Hi2.out hnd4)
          have hok4 := r_ok Hi2.out.1 Hi2.out.2.2
          have hle4 : ((toSt r').l.length : Int) ≤ a0 := by have := Hi2.out.1.2.2.2.2.2.2; rw [show (toSt r').room = a0 from hrm] at this; exact this
          have hl4 : (toSt r').l.length ≤ 4096 := by omega
          have hkl1 : (keysS (toSt r')).length ≤ 4096 := by simp only [keysS, List.length_mergeSort, List.length_map]; exact hl4
          have Hrm := Lib.hid hrm
          have Hlen := Lib.hid (fun w' (h : TabIs w' tb mb (toSt r')) => len_any tb mb (toSt r') w' h)
          have Hrlen := Lib.hid (fun w' (h : RTabIs w' rb [tb, mb] r') => rlen_any rb [tb, mb] r' w' h hok4)
          have Hkeys := Lib.hid (fun w' (h : TabIs w' tb mb (toSt r')) => keys_any tb mb (toSt r') w' h hl4)
          have Hrkeys := Lib.hid (fun w' (h : RTabIs w' rb [tb, mb] r') => rkeys_any rb [tb, mb] r' w' h hok4)
          rw [hlr] at Hrlen
          rw [← Hks.out] at Hrkeys
          generalize keysS (toSt r') = K at *
          generalize (toSt r').l.length = N at *
          clear ht4 hr4 hc4 hnd4 hlr hok4 hrm
          go_wp2_with fail
          refine (Hlen.out _ Ht4.out).mono ?_; rintro e w5 ⟨rfl, rfl⟩
          go_wp2_with fail
          refine (Hrlen.out _ Hr4.out).mono ?_; rintro e w5 ⟨rfl, hc5⟩
          have Ht5 := Lib.hid (Ht4.out.kept hc5 (by simp) (by simp))
          have Hr5 := Lib.hid (Hr4.out.kept hc5 (by simp))
          have Hc5 := Lib.hid hc5
          clear hc5
          go_wp2_with fail
          refine (Hlen.out _ Ht5.out).mono ?_; rintro e w6 ⟨rfl, rfl⟩
          go_wp2_with fail
          refine (Hkeys.out _ Ht5.out).mono ?_; rintro e w6 ⟨v6, rfl, hrow6, hc6⟩
          have Hr6 := Lib.hid (Hr5.out.kept hc6 (by simp))
          have Ht6 := Lib.hid (Ht5.out.kept hc6 (by simp) (by simp))
          have Hrow6 := Lib.hid hrow6
          have Hc6 := Lib.hid hc6
          clear hc6 hrow6
          go_wp2_with fail
          refine (Hrkeys.out _ Hr6.out).mono ?_; rintro e w7 ⟨v7, rfl, hrow7, hc7⟩
          have Ht7 := Lib.hid (Ht6.out.kept hc7 (by simp) (by simp))
          have Hr7 := Lib.hid (Hr6.out.kept hc7 (by simp))
          have Hx7 := Lib.hid (texts_any (Hrow6.out.kept hc7 (by simp)) hrow7 hkl1 hkl1)
          rw [decide_eq_true (rfl : K = K)] at Hx7
          have Hc7 := Lib.hid hc7
          clear hc7 hrow7
          go_wp2_with fail
          refine Hx7.out.mono ?_; rintro e w8 ⟨rfl, hc8⟩
          have Hc8 := Lib.hid hc8
          clear hc8
          go_wp2_with fail
          have hc48 : Chg [] w4 w8 := ((Hc5.out.thenSame Hc6.out).thenSame Hc7.out).thenSame Hc8.out
          exact ⟨⟨k + 1, r', by go_num, by omega, Ht7.out.kept Hc8.out (by simp) (by simp), Hr7.out.kept Hc8.out (by simp), Hi2.out, Hrm.out, HB4.out.trans (hc48.toBelow HB4.out.size (by simp))⟩, by simp [intOf]; omega⟩
        · have HblH := Lib.hid hbl
          clear hbl ht hr hinv
          go_wp2_with fail
          refine (awake_any _).mono ?_; rintro e w4 ⟨rfl, hb4⟩
          go_wp2_with fail
          go_ret
          exact ⟨rfl, HblH.out.trans (hb4.mono HblH.out.size)⟩
    · have hsm' : smallL l = false := by simpa using hsm
      have Hs1 := Lib.hid (smallF_any a2 len2 cap2 l w2 (Hsl.out.kept Hc12.out) Hgd.out hml)
      rw [hsm'] at Hs1
      clear hsm hsm' hc1 hc2
      go_wp2_with fail
      refine Hs1.out.mono ?_; rintro e w3 ⟨rfl, rfl⟩
      go_wp2_with fail
      refine (awake_any _).mono ?_; rintro e w4 ⟨rfl, hb4⟩
      go_wp2_with fail
      go_ret
      exact ⟨rfl, (Hc12.out.toBelow (Nat.le_refl _) (by simp)).trans (hb4.mono Hc12.out.size)⟩
end Go.Proofs.Ytkbblkhkadcpcaa
