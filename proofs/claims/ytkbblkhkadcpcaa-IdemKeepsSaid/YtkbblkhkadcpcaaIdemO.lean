/- Chapter 27: IdemOnce: between a Begin of the key a that returns IdFresh and the end of its life no other Begin of it does; after Finish each Begin with its digest has the result. No condition. -/
import Derived.Test.YtkbblkhkadcpcaaIdemP
namespace Go.Proofs.Ytkbblkhkadcpcaa
open Go.RowKit

theorem cA_list : cA.toList = [97] := by rw [ByteArray.toList_eq]

theorem rok1 : RSt.ok ⟨1, 1, 0, []⟩ := by simp [RSt.ok]

set_option maxHeartbeats 8000000 in
set_option maxRecDepth 100000 in
theorem once_walk (a0 : Int) (a1 : Option Addr) (len1 cap1 : Nat) (l : List OpD) (w : World) (w0 : (Lit.int .u8 a0).wf = true) (w1 : SlIs oCells 5 w a1 len1 l ∧ (∀ x ∈ l, x.good) ∧ len1 ≤ maxLen) :
    Calls Try.prog 4 #[.int .u8 a0, .slice a1 len1 cap1] w fun e w' => e = .returned (.bool true) ∧ Below w.heap.size w w' := by
  obtain ⟨b0, b0'⟩ := bounds_u8 w0
  obtain ⟨hsl, hgd, hml⟩ := w1
  clear w0
  have g00 : 0 ≤ a0 % 100 := by omega
  have g01 : a0 % 100 < 100 := by omega
  have Hsl := Lib.hid hsl
  have Hgd := Lib.hid hgd
  have hml' := hml
  unfold maxLen at hml'
  clear hsl hgd
  by_cases hsm : smallL l = true
  · have Hsm := Lib.hid hsm
    go_enter Try.func4, Try.ntmps4
    go_wp2_with fail
    refine (new_ok 5 (1 + a0 % 100) w (by omega) (by omega) (by omega) (by omega)).mono ?_
    rintro e w1 ⟨tb, mb, rfl, ht1, htb, hmb, hc1⟩
    have hne1 := ht1.ne
    go_wp2_with fail
    have hs1 := smallF_any a1 len1 cap1 l w1 (Hsl.out.kept hc1) Hgd.out hml
    rw [hsm] at hs1
    refine hs1.mono ?_
    rintro e w2 ⟨rfl, rfl⟩
    have hB1 : Below w.heap.size w w1 := hc1.toBelow (Nat.le_refl _) (by simp)
    have HB1 := Lib.hid hB1
    have Ht1 := Lib.hid ht1
    clear hs1 hsm hB1 ht1 hc1
    generalize hlife : 1 + a0 % 100 = life at *
    have hlife1 : 1 ≤ life ∧ life ≤ 100 := by omega
    obtain ⟨lf1, lf2⟩ := hlife1
    clear hlife g00 g01
    go_wp2_with fail
    go_loopw [4, 8, 9, 10, 11, 41] (fun r f d rs dn i wr => ∃ (k : Nat) (s : St) (frm : Int) (dig res : ByteArray) (done : Bool), r = .bool false ∧ f = .int .i64 frm ∧ d = .string dig ∧ rs = .string res ∧ dn = .bool done ∧ i = .int .i64 k ∧ k ≤ len1 ∧ TabIs wr tb mb s ∧ OnceInv life s frm dig res done ∧ Below w.heap.size w wr)
      (fun _ _ _ _ _ i _ => len1 - (intOf i).toNat)
    case atStart =>
      refine ⟨0, _, -1, em, em, false, rfl, rfl, rfl, rfl, rfl, rfl, Nat.zero_le _, Ht1.out, ⟨by simp [St.ok]; omega, rfl, by omega, by omega, .inl ⟨rfl, .inl rfl⟩⟩, HB1.out⟩
    case round =>
      obtain ⟨k, s, frm, dig, res, done, rfl, rfl, rfl, rfl, rfl, rfl, hkl, ht, hinv, hbl⟩ := hrel
      by_cases hlt : k < len1
      · have hk2 : k < l.length := by rw [Hsl.out.1]; exact hlt
        obtain ⟨b, off, rfl, hb, hcc⟩ := (Hsl.out.below hbl).2 k hk2
        have hxg := Hgd.out l[k] (List.getElem_mem hk2)
        obtain ⟨x, hx⟩ : ∃ x, x = l[k] := ⟨_, rfl⟩
        rw [← hx] at hcc hxg
        clear hx
        have d0 := hcc 0 (by omega)
        have d1 := hcc 1 (by omega)
        have d2 := hcc 2 (by omega)
        have d3 := hcc 3 (by omega)
        have d4 := hcc 4 (by omega)
        simp only [oCells, List.getElem?_cons_zero, List.getElem?_cons_succ, Nat.add_zero] at d0 d1 d2 d3 d4
        have htl := lt_of_heap ht.1
        have hmbl := ht.2.lt
        have hws := hbl.size
        have Hbl := Lib.hid hbl
        have Ht := Lib.hid ht
        have Hinv := Lib.hid hinv
        have Hxg := Lib.hid hxg
        have i3 := hinv.2.2.1
        have i4 := hinv.2.2.2.1
        have hsok := hinv.1
        have Hsok := Lib.hid hsok
        have hk0 : (0 : Int) ≤ (k : Int) := by omega
        have hk1 : (k : Int) < (len1 : Int) := by omega
        have hnd := ht.nd
        obtain ⟨kd, ky, dg, rs, nw⟩ := x
        obtain ⟨_, q1, q2, q3, _⟩ := hxg
        simp only at q1 q2 q3 d0 d1 d2 d3 d4
        have hlen4 : s.l.length ≤ 4096 := by obtain ⟨_, h2, _, _, _, _, h7⟩ := hsok; omega
        have Hta : Hid (∀ X, TabIs (wr.alloc X) tb mb s) := fun X => ht.kept (S := []) ((Chg.refl _ _).alloc _) (by simp) (by simp)
        clear hcc hbl ht hkl hsok
        by_cases hka : ky = cA
        · have hkb : (ky.toList == [97]) = true := by rw [hka, cA_list]; rfl
          by_cases k2 : kd = 2
          · subst k2
            have Hka := Lib.hid hka
            clear hka hinv hnd
            go_wp2_with fail
            refine ⟨⟨k + 1, s, frm, dig, res, done, rfl, rfl, rfl, rfl, rfl, by go_num, by omega, Hta.out _, Hinv.out, Hbl.out.alloc (by omega) _⟩, by simp [intOf]; omega⟩
          · have b2 : (kd == 2) = false := by simpa using k2
            by_cases k0 : kd = 0
            · subst k0
              have cb := fun w' (h : TabIs w' tb mb s) => begin_any tb mb s ky dg nw w' h Hsok.out q1 q2
              have ob := once_begin (d := dg) (now := nw) hinv hnd
              rw [← hka] at ob
              generalize beginS s ky dg nw = P at *
              obtain ⟨⟨pa, ps, pe⟩, s'⟩ := P
              simp only at ob
              have Cb := Lib.hid cb
              clear cb hka hinv hnd k2
              have hBA : Below w.heap.size w (wr.alloc (.cells #[.int .i64 0, .string ky, .string dg, .string rs, .int .i64 nw] 35)) := Hbl.out.alloc (by omega) _
              rcases ob with ⟨hpe, hi⟩ | ⟨hpe, hpa, hnl, hi⟩ | ⟨hpe, hpa, ⟨hl0, hl1⟩, hdg, hdn, hrs, hi⟩
              · have hpb : (pe == 0) = false := by simpa using hpe
                have Hi := Lib.hid hi
                clear hpe hi
                go_wp2_with (go_at_call 9; refine (Cb.out _ (Hta.out _)).mono ?_; rintro e w4 ⟨rfl, ht4, hc4⟩; have hb4 := hc4.at (b := wr.heap.size) (by simp; omega) (heap_alloc_new wr _); have hcx4 := blk_cell hb4; have hB4 := hBA.trans (hc4.toBelow (by simp; omega) (by simp; omega)); have Ht4 := Lib.hid ht4; have HB4 := Lib.hid hB4; clear hb4 ht4 hc4 hB4)
                all_goals exact ⟨⟨k + 1, s', frm, dig, res, done, rfl, rfl, rfl, rfl, rfl, by go_num, by omega, Ht4.out, Hi.out, HB4.out⟩, by simp [intOf]; omega⟩
              · subst hpe hpa
                have Hi := Lib.hid hi
                clear hi
                go_wp2_with (go_at_call 9; refine (Cb.out _ (Hta.out _)).mono ?_; rintro e w4 ⟨rfl, ht4, hc4⟩; have hb4 := hc4.at (b := wr.heap.size) (by simp; omega) (heap_alloc_new wr _); have hcx4 := blk_cell hb4; have hB4 := hBA.trans (hc4.toBelow (by simp; omega) (by simp; omega)); have Ht4 := Lib.hid ht4; have HB4 := Lib.hid hB4; clear hb4 ht4 hc4 hB4)
                all_goals
                  go_quiet (fail)
                  go_wp2_with fail
                  exact ⟨⟨k + 1, s', nw, dg, res, false, rfl, rfl, rfl, rfl, rfl, by go_num, by omega, Ht4.out.kept ((Chg.refl [] _).drewN _) (by simp) (by simp), Hi.out, HB4.out.trans ⟨rfl, rfl, rfl, Nat.le_refl _, fun _ _ => rfl⟩⟩, by simp [intOf]; omega⟩
              · subst hpe hdg
                have Hi := Lib.hid hi
                have hpb : (pa == 1) = false := by simpa using hpa
                have hdb : (pa == 3) = done := by rw [hdn]; rfl
                clear hi hpa hdn
                cases done
                · go_wp2_with (go_at_call 9; refine (Cb.out _ (Hta.out _)).mono ?_; rintro e w4 ⟨rfl, ht4, hc4⟩; have hb4 := hc4.at (b := wr.heap.size) (by simp; omega) (heap_alloc_new wr _); have hcx4 := blk_cell hb4; have hB4 := hBA.trans (hc4.toBelow (by simp; omega) (by simp; omega)); have Ht4 := Lib.hid ht4; have HB4 := Lib.hid hB4; clear hb4 ht4 hc4 hB4)
                  all_goals exact ⟨⟨k + 1, s', frm, dg, res, false, rfl, rfl, rfl, rfl, rfl, by go_num, by omega, Ht4.out, Hi.out, HB4.out⟩, by simp [intOf]; omega⟩
                · have hrs' := hrs rfl
                  subst hrs'
                  clear hrs
                  go_wp2_with (go_at_call 9; refine (Cb.out _ (Hta.out _)).mono ?_; rintro e w4 ⟨rfl, ht4, hc4⟩; have hb4 := hc4.at (b := wr.heap.size) (by simp; omega) (heap_alloc_new wr _); have hcx4 := blk_cell hb4; have hB4 := hBA.trans (hc4.toBelow (by simp; omega) (by simp; omega)); have Ht4 := Lib.hid ht4; have HB4 := Lib.hid hB4; clear hb4 ht4 hc4 hB4)
                  all_goals exact ⟨⟨k + 1, s', frm, dg, ps, true, rfl, rfl, rfl, rfl, rfl, by go_num, by omega, Ht4.out, Hi.out, HB4.out⟩, by simp [intOf]; omega⟩
            · have b0 : (kd == 0) = false := by simpa using k0
              by_cases k1 : kd = 1
              · subst k1
                have cb := fun w' (h : TabIs w' tb mb s) => finish_any tb mb s ky dg rs nw w' h Hsok.out q1 q2 q3
                have ob := once_finish (d := dg) (rs := rs) (now := nw) hinv hnd
                rw [← hka] at ob
                generalize finishS s ky dg rs nw = P at *
                obtain ⟨pe, s'⟩ := P
                simp only at ob
                have Cb := Lib.hid cb
                clear cb hka hinv hnd k2 k0
                have hBA : Below w.heap.size w (wr.alloc (.cells #[.int .i64 1, .string ky, .string dg, .string rs, .int .i64 nw] 35)) := Hbl.out.alloc (by omega) _
                rcases ob with ⟨hpe, hi⟩ | ⟨hpe, ⟨hl0, hl1⟩, hdn, hdg, hi⟩
                · have hpb : (pe == 0) = false := by simpa using hpe
                  have Hi := Lib.hid hi
                  clear hpe hi
                  go_wp2_with (go_at_call 14; refine (Cb.out _ (Hta.out _)).mono ?_; rintro e w4 ⟨rfl, ht4, hc4⟩; have hb4 := hc4.at (b := wr.heap.size) (by simp; omega) (heap_alloc_new wr _); have hcx4 := blk_cell hb4; have hB4 := hBA.trans (hc4.toBelow (by simp; omega) (by simp; omega)); have Ht4 := Lib.hid ht4; have HB4 := Lib.hid hB4; clear hb4 ht4 hc4 hB4)
                  all_goals exact ⟨⟨k + 1, s', frm, dig, res, done, rfl, rfl, rfl, rfl, rfl, by go_num, by omega, Ht4.out, Hi.out, HB4.out⟩, by simp [intOf]; omega⟩
                · subst hpe hdg hdn
                  have Hi := Lib.hid hi
                  clear hi
                  go_wp2_with (go_at_call 14; refine (Cb.out _ (Hta.out _)).mono ?_; rintro e w4 ⟨rfl, ht4, hc4⟩; have hb4 := hc4.at (b := wr.heap.size) (by simp; omega) (heap_alloc_new wr _); have hcx4 := blk_cell hb4; have hB4 := hBA.trans (hc4.toBelow (by simp; omega) (by simp; omega)); have Ht4 := Lib.hid ht4; have HB4 := Lib.hid hB4; clear hb4 ht4 hc4 hB4)
                  all_goals
                    go_quiet (fail)
                    go_wp2_with fail
                    exact ⟨⟨k + 1, s', nw, dg, rs, true, rfl, rfl, rfl, rfl, rfl, by go_num, by omega, Ht4.out.kept ((Chg.refl [] _).drewN _) (by simp) (by simp), Hi.out, HB4.out.trans ⟨rfl, rfl, rfl, Nat.le_refl _, fun _ _ => rfl⟩⟩, by simp [intOf]; omega⟩
              · have b1 : (kd == 1) = false := by simpa using k1
                by_cases k3 : kd = 3
                · subst k3
                  have hop : OnceInv life (stepP s ⟨3, ky, dg, rs, nw⟩) frm dig res done := once_passed hinv (passed_step hnd (.inr rfl)) (stepP_ok Hsok.out hnd)
                  have Hop := Lib.hid hop
                  have hsw : stepP s ⟨3, ky, dg, rs, nw⟩ = (sweepS s nw).2 := by simp [stepP]
                  rw [hsw] at Hop
                  have cb := fun w' (h : TabIs w' tb mb s) => sweep_any tb mb s nw w' h hlen4
                  generalize sweepS s nw = P at *
                  obtain ⟨pe, s'⟩ := P
                  simp only at Hop
                  have Cb := Lib.hid cb
                  have hBA : Below w.heap.size w (wr.alloc (.cells #[.int .i64 3, .string ky, .string dg, .string rs, .int .i64 nw] 35)) := Hbl.out.alloc (by omega) _
                  clear cb hka hinv hnd k2 k0 k1 hop hsw
                  go_wp2_with (go_at_call 15; refine (Cb.out _ (Hta.out _)).mono ?_; rintro e w4 ⟨rfl, ht4, hc4⟩; have hB4 := hBA.trans (hc4.toBelow (by simp; omega) (by simp; omega)); have Ht4 := Lib.hid ht4; have HB4 := Lib.hid hB4; clear ht4 hc4 hB4)
                  all_goals exact ⟨⟨k + 1, s', frm, dig, res, done, rfl, rfl, rfl, rfl, rfl, by go_num, by omega, Ht4.out, Hop.out, HB4.out⟩, by simp [intOf]; omega⟩
                · have b3 : (kd == 3) = false := by simpa using k3
                  clear hka hinv hnd k2 k0 k1 k3
                  go_wp2_with fail
                  all_goals exact ⟨⟨k + 1, s, frm, dig, res, done, rfl, rfl, rfl, rfl, rfl, by go_num, by omega, Hta.out _, Hinv.out, Hbl.out.alloc (by omega) _⟩, by simp [intOf]; omega⟩
        · have hkb : (ky.toList == [97]) = false := by
            have : (ky.toList == cA.toList) = false := (Lib.bytes_beq_false_iff _ _).2 hka
            rw [cA_list] at this; exact this
          have hst := fun r w' rb (h1 : TabIs w' tb mb s) (h2 : RTabIs w' rb [tb, mb] r) (h3 : r.ok) => step_any tb mb rb s r ⟨kd, ky, dg, rs, nw⟩ w' h1 h2 Hsok.out h3 Hxg.out
          have hop : OnceInv life (stepP s ⟨kd, ky, dg, rs, nw⟩) frm dig res done := once_passed hinv (passed_step hnd (.inl hka)) (stepP_ok Hsok.out hnd)
          have Hst := Lib.hid hst
          have Hop := Lib.hid hop
          clear hst hop hka hinv hnd
          generalize stepP s ⟨kd, ky, dg, rs, nw⟩ = s' at *
          go_wp2_with fail
          go_region_held3 (fun w' => w'.cell? ⟨wr.heap.size, 0, none⟩ = some (.int .i64 kd) ∧ w'.cell? ⟨wr.heap.size, 1, none⟩ = some (.string ky) ∧ w'.cell? ⟨wr.heap.size, 2, none⟩ = some (.string dg) ∧ w'.cell? ⟨wr.heap.size, 3, none⟩ = some (.string rs) ∧ w'.cell? ⟨wr.heap.size, 4, none⟩ = some (.int .i64 nw))
            (first | go_keep | (refine ⟨?_, ?_, ?_, ?_, ?_⟩ <;> (rw [hkp2]; rfl)) | (refine ⟨?_, ?_, ?_, ?_, ?_⟩ <;> (rw [hkp1]; rfl)))
            (first
              | (go_at_call 13; refine (mirror_any [tb, mb] _ (by simp; omega)).mono ?_; rintro e w1 ⟨rb, rfl, hr1, hrb1, hc1⟩; have hkp1 := blk_cell (hc1.at (b := wr.heap.size) (by simp) (heap_alloc_new wr _)); have hsz1 := hc1.size; simp only [heap_drew, World.size_alloc] at hsz1 hrb1; have ht1 := (Hta.out (.cells #[.int .i64 kd, .string ky, .string dg, .string rs, .int .i64 nw] 35)).kept (((Chg.refl [] _).drew).thenSame hc1) (by simp) (by simp); have hB1 : Below w.heap.size w w1 := (Hbl.out.alloc (by omega) (.cells #[.int .i64 kd, .string ky, .string dg, .string rs, .int .i64 nw] 35)).drew.trans (hc1.toBelow (by simp; omega) (by simp)))
              | (go_at_call 12; refine (Hst.out _ _ _ ht1 hr1 rok1).mono ?_; rintro e w2 ⟨rfl, ht2, _, hc2⟩; have hkp2 : ∀ i, w2.cell? ⟨wr.heap.size, i, none⟩ = w1.cell? ⟨wr.heap.size, i, none⟩ := fun i => World.cell?_of_block (w := w1) (a := ⟨wr.heap.size, i, none⟩) (hc2.block wr.heap.size (by omega) (by simp; omega)); simp only [hkp1] at hkp2; have hB2 : Below w.heap.size w w2 := hB1.trans (hc2.toBelow (by omega) (by simp; omega))))
          go_wp2_with fail
          refine ⟨⟨k + 1, s', frm, dig, res, done, rfl, rfl, rfl, rfl, rfl, by go_num, by omega, ht2, Hop.out, hB2⟩, by simp [intOf]; omega⟩
      · have HblH := Lib.hid hbl
        clear hbl ht hinv
        go_wp2_with fail
        refine (awake_any _).mono ?_; rintro e w4 ⟨rfl, hb4⟩
        go_wp2_with fail
        go_ret
        exact ⟨rfl, HblH.out.trans (hb4.mono HblH.out.size)⟩
  · have hsm' : smallL l = false := by simpa using hsm
    go_enter Try.func4, Try.ntmps4
    go_wp2_with fail
    refine (new_ok 5 (1 + a0 % 100) w (by omega) (by omega) (by omega) (by omega)).mono ?_
    rintro e w1 ⟨tb, mb, rfl, ht1, htb, hmb, hc1⟩
    go_wp2_with fail
    have hs1 := smallF_any a1 len1 cap1 l w1 (Hsl.out.kept hc1) Hgd.out hml
    rw [hsm'] at hs1
    refine hs1.mono ?_
    rintro e w2 ⟨rfl, rfl⟩
    clear hs1 hsm hsm'
    go_wp2_with fail
    refine (awake_any _).mono ?_; rintro e w4 ⟨rfl, hb4⟩
    go_wp2_with fail
    go_ret
    exact ⟨rfl, (hc1.toBelow (Nat.le_refl _) (by simp)).trans (hb4.mono hc1.size)⟩
end Go.Proofs.Ytkbblkhkadcpcaa
