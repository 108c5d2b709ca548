/- Chapter 52: the ledger's Record, of a new identifier. No condition but those that the statements name. -/
import Derived.Test.YtmofknmeljdodaaGreatDoorZB14
import Derived.Test.YtmofknmeljdodaaGreatDoorZS01
set_option maxHeartbeats 100000000
set_option maxRecDepth 100000
set_option linter.unusedVariables false
set_option linter.unusedSimpArgs false
open List renaming getElem_toArray→gTA,getElem_cons_zero→gCZ,getElem_cons_succ→gCS,setIfInBounds_toArray→sTA,set_cons_zero→sCZ,set_cons_succ→sCS
namespace Go.Proofs.YtmofknmeljdodaaGreatDoor
section
open Go.RowKit
variable {w w':World} {b mb:Nat} {v:Value} {s:Led}
theorem rec_new (r:UR) (hg:r.good) (h:LIs w b mb v s) (hn:(idB r.id&&nameB r.tn&&nameB r.fn)=true) (q1:0≤r.per) (q2:r.per≤1073741824) (h4:usB r.us=true) (hf:findC s.l r.id=none) (hl:s.l.length<4000):Calls Tryz.prog 23 #[.pointer (some ⟨b,0,none⟩),urV r] w (RecPost w b mb v 0 ⟨s.l++[⟨r,max r.per s.p⟩],s.p⟩):=by
 obtain⟨a,cap,rfl⟩:=RowOf.shape h.2.2
 have Hl:=LH (idx_none s.l 0 r.id hf)
 have hL:=fun w' (hc:Chg [] w w')=>blk_cell (h.keptN hc).1
 have H:=LH h
 have HL:=LH hL
 clear h hL hf
 have hbx:=LH (heap_alloc_new w (urO r))
 have hC0:=LH (show Chg [] w (w.alloc (urO r))from(Chg.refl _ _).alloc _)
 obtain⟨W1,hW1⟩:∃W1,W1=w.alloc (urO r):=⟨_,rfl⟩
 have k1:=blk_cell hbx.out
 rw[←hW1]at hbx hC0 k1
 unfold urO at hW1 hbx
 have HW1:=LH hW1
 have A1:=LH (fun w'=>ID_any r.id w' hg.1)
 have A2:=LH (fun w'=>name_any r.tn w' hg.2.1)
 have A3:=LH (fun w'=>name_any r.fn w' hg.2.2.1)
 have M1:=LH (fun w' (hc:Chg [] w w')=>made_any (H.out.keptN hc))
 clear hW1
 have A4:=LH (fun w'=>mvalid_any r.us w')
 unfold usV at A4
 simp only[Bool.and_eq_true]at hn
 obtain⟨⟨h1,h2⟩,h3⟩:=hn
 clear hg
 unfold urV
 have hl0:((s.l.length:Int)==4000)=false:=by simp;omega
 go_enter Tryz.func23,Tryz.ntmps23
 go_wp2_with (first|(rw[←HW1.out];(go_at_call 66;(with_reducible refine(M1.out _ hC0.out).mono ?_);rintro e w1 ⟨rfl,rfl⟩))|(go_at_call 67;(with_reducible refine(A1.out _).mono ?_);rw[h1];rintro e w2 ⟨rfl,hc2⟩;have C2:=LH (hC0.out.thenSame (Chg.ofBelow hc2));have B2:=LH ((Chg.ofBelow (S:=[]) hc2).at (by simp) hbx.out);have k2:=blk_cell B2.out;clear hc2)|(go_at_call 68;(with_reducible refine(A2.out _).mono ?_);rw[h2];rintro e w3 ⟨rfl,hc3⟩;have C3:=LH (C2.out.thenSame hc3);have B3:=LH (hc3.at (by simp) B2.out);have k3:=blk_cell B3.out;clear hc3)|(go_at_call 68;(with_reducible refine(A3.out _).mono ?_);rw[h3];rintro e w4 ⟨rfl,hc4⟩;have C4:=LH (C3.out.thenSame hc4);have B4:=LH (hc4.at (by simp) B3.out);have k4:=blk_cell B4.out;clear hc4)|(go_at_call 69;(with_reducible refine(A4.out _).mono ?_);rw[h4];rintro e w5 ⟨rfl,hc5⟩;have C5:=LH (C4.out.thenSame hc5);have B5:=LH (hc5.at (by simp) B4.out);have k5:=blk_cell B5.out;have c5:=HL.out _ C5.out;have L5:=LH (H.out.keptN C5.out);clear k2 k3 k4 B2 B3 B4 C2 C3 C4;clear hc5)|fail)
 have lk5:=fun n=>miss_run (L5.out.keptN ((Chg.refl [] _).drewN n)) r.id Hl.out
 go_wp2_with fail
 go_quiet (fail)
 clear lk5
 have C6:=LH (C5.out.drewN nq)
 have c6:=HL.out _ C6.out
 have L6:=LH (H.out.keptN C6.out)
 have B6:=LH (((Chg.refl [] w5).drewN nq).at (by simp) B5.out)
 have k6:=blk_cell B6.out
 clear c5 k5 B5 L5
 generalize w5.drewN nq=w6 at*
 go_wp2_with fail
 go_still_tail 11,(by kernel_rfl)
 change wpList _ _ _ _ _ w6.drew
 have hm6:MapIs Prod.fst plV w6.drew mb (idxFrom 0 s.l):=L6.out.2.1.kept (S:=[]) (Chg.refl _ _).drew (by simp)
 refine wpl_store _ rfl _ _ _ 195 rfl 9 3 Tryz.underlying195 Tryz.underlying9 mb _ rfl hm6 (r.id,(s.l.length:Int)) rfl rfl ?_
 intro w7 hm7 hc7 hs7
 rw[putL_new Hl.out]at hm7
 have hix:=idx_snoc s.l 0 ⟨r,max r.per s.p⟩
 simp only[Nat.zero_add]at hix
 rw[hix]at hm7
 have hap:=L6.out.apart
 have C7':Chg [mb] w6 w7:=(((Chg.refl [] w6).drew).mono (by simp)).thenSame hc7
 have hb7:=C7'.at (b:=b) (by simpa using hap.1) L6.out.1
 have hr7:=L6.out.2.2.kept C7' (fun g hg e=>hap.2.2 (by rw[hg];simpa using e))
 have hx7:=C7'.at (by simp;have:=H.out.2.1.lt;omega) B6.out
 have C7:=LH ((C6.out.mono (T:=[mb]) (by simp)).thenSame C7')
 have b7:=blk_cell hb7
 have f7:=blk_free hb7
 have k7:=blk_cell hx7
 have Hb7:=LH hb7
 have Hx7:=LH hx7
 have Hm7:=LH hm7
 have Hr7:=LH hr7
 have HA:=LH hap
 clear hs7 hm6 hm7 hc7 hix hap C7' hb7 hr7 hx7 k6 B6 c6
 go_wp2_with fail
 have hl7:Hid (w7.heap.size=w7.drew.heap.size):=LH rfl
 have HR:=LH (fun o=>RowOf.kept (S:=[]) Hr7.out (((Chg.refl [] w7).drew).alloc o) (by simp))
 have HB:=LH (fun o=>Chg.at (((Chg.refl [] w7).drew).alloc o) (by simp) Hb7.out)
 have hlt7:=lt_of_heap Hb7.out
 have hltx:=lt_of_heap Hx7.out
 go_region_law (
  (refine step_appendR rfl _ _ 196 rfl 0 205 _ 104 Tryz.underlying196 crInfo rfl (by decide) crLen crOne (.slice a s.l.length cap) s.l rfl (HR.out _) w7.heap.size 1 ⟨r,max r.per s.p⟩ _ 205 (0,0) rfl (heap_alloc_new w7.drew _) rfl (by unfold maxLen;omega) (by omega) (Nat.zero_le _) ?_;intro g8 cap8 w8 hr8 hg8 ho8 hlt8;have hb8:=(Chg.ofRow hg8).at (b:=b) (by intro e;exact HA.out.2.1 (by simpa using e)) (HB.out _);have b8:=blk_cell hb8;have f8:=blk_free hb8;have Hb8:=LH hb8;have Hr8:=LH hr8;have Hg8:=LH hg8;have Ho8:=LH ho8;clear hr8 hg8 hb8 ho8))
 all_goals go_wp2_with fail
 all_goals go_ret
 all_goals exact rec_fin HA.out C7.out Hb7.out Hm7.out Hr8.out Hg8.out Ho8.out
end
end Go.Proofs.YtmofknmeljdodaaGreatDoor
