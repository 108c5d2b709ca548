/- Chapter 48: contract: Do where it has a step (3, 4). No condition but those that the statements name. -/
import Derived.Test.YtmofknmeljdodaaGreatDoorZS01
import Derived.Test.YtmofknmeljdodaaGreatDoorZA01
set_option maxHeartbeats 100000000
set_option maxRecDepth 100000
set_option linter.unusedVariables false
set_option linter.unusedSimpArgs false
open List renaming getElem_toArray→gTA,getElem_cons_zero→gCZ,getElem_cons_succ→gCS,setIfInBounds_toArray→sTA,set_cons_zero→sCZ,set_cons_succ→sCS
namespace Go.Proofs.YtmofknmeljdodaaGreatDoor
section
open Go.RowKit
theorem do_ok3 (sa:Option Addr) (sc:Nat) (st:List Ce) (o:EOp) (r:List Ce×Int×List Ce) (w:World) (h:InIs ceC 4 w sa sc st) (hg:goodL st) (ha:ArgsIn w o.aa o.ac o.args) (hog:o.good) (ht:TabW w) (h1:chkZ o.p=0) (h2:checkZ st=0) (hl:st.length≤1048576)
 (hf:lookL Prod.fst stL o.op=some (o.op,191))
 (F:∀w' (_:Chg [] w w') a c,InIs ceC 4 w' a c st→Calls Tryz.prog 191 #[.slice a st.length c, .slice o.aa o.args.length o.ac] w' (StepP w' a r)):
 Calls Tryz.prog 53 #[.slice sa st.length sc, .agg (eoC o).toArray] w (DoP w (0,r)):=by
 have A:=LH (fun w' (hc:Chg [] w w')=>echk_any o w' (ha.kept hc) hog (ht.kept hc))
 have A2:=LH (fun w' (hc:Chg [] w w')=>vcheck_any sa sc st w' (h.1.kept hc) hg.1 hg.2 (ht.kept hc))
 have H:=LH h
 have HF:=LH hf
 have F:=LH F
 have HL:=LH hl
 rename_i F0
 rw[h1]at A
 rw[h2]at A2
 obtain⟨ent,id,op,aa,ac,args⟩:=o
 simp only[eoC]
 simp only at F HF
 clear ha hog ht hg h1 h h2 F0 hf hl
 have C1:=LH (((Chg.refl [] w).alloc (eoO ⟨ent,id,op,aa,ac,args⟩)).alloc (.cells #[.int .i64 0, .slice none 0 0] 69))
 have B1:=LH (blk_alloc (o':= .cells #[.int .i64 0, .slice none 0 0] 69) (heap_alloc_new w (eoO ⟨ent,id,op,aa,ac,args⟩)))
 have B5:=LH (heap_alloc_new (w.alloc (eoO ⟨ent,id,op,aa,ac,args⟩)) (.cells #[.int .i64 0, .slice none 0 0] 69))
 rw[World.size_alloc]at B5
 obtain⟨W1,hW1⟩:∃W1,W1=(w.alloc (eoO ⟨ent,id,op,aa,ac,args⟩)).alloc (.cells #[.int .i64 0, .slice none 0 0] 69):=⟨_,rfl⟩
 have hs:W1.heap.size=w.heap.size+2:=by rw[hW1,World.size_alloc,World.size_alloc]
 rw[←hW1]at C1 B1 B5
 unfold eoO at hW1 B1
 have k:=blk_cell B1.out
 have HS:=LH hs
 have HW1:=LH hW1
 clear hW1 hs
 go_enter Tryz.func53,Tryz.ntmps53
 go_upto_region 1 with fail
 rw[←HW1.out]
 go_wp2_with fail
 refine(A.out _ C1.out).mono ?_;rintro e w2 ⟨rfl,hc⟩
 have C2:=LH (C1.out.thenSame hc)
 have E1:=LH (hc.at (by simp) B1.out)
 have E5:=LH (hc.at (by simp) B5.out)
 clear hc k
 go_wp2_with fail
 refine(A2.out _ C2.out).mono ?_;rintro e w3 ⟨rfl,hc⟩
 have CC0:=LH (C2.out.thenSame hc)
 have PP0:=LH (hc.at (by simp) E1.out)
 have QQ0:=LH (hc.at (by simp) E5.out)
 have C3:=LH ((C2.out.thenSame hc).drew)
 have F1:=LH (((Chg.refl [] w3).drew).at (by simp) (hc.at (by simp) E1.out))
 have F5:=LH (((Chg.refl [] w3).drew).at (by simp) (hc.at (by simp) E5.out))
 clear hc
 have PP:=F1
 have QQ:=F5
 have CC:=C3
 have CL:=LH (fun w' (hc:Chg [] w w')=>clonec_in sa sc st w' (H.out.kept hc) (Nat.le_trans HL.out (by decide)))
 go_upto_region 7 with fail
 go_cut [9,10] (fun x9 x10 wx=>Hid (D7 w r (w.heap.size+1) x9 x10 wx))
 case first=>
  go_region_held3 (fun w'=>w'.cell? ⟨w.heap.size,2,none⟩=some (.string op)∧w'.cell? ⟨w.heap.size,3,none⟩=some (.slice aa args.length ac))
   (with_reducible first|exact two_cells PP.out|exact two_cells (blk_alloc PP.out)|exact two_cells (((Chg.refl [] _).drew).at (by simp) (blk_alloc PP0.out))|exact two_far PP.out TT.out|exact two_far (blk_alloc PP.out) (heap_alloc_new _ _))
   (first
     |(go_at_call 104;(with_reducible refine Calls.mono (steps_any _) ?_);rintro e w4 ⟨rfl,hm,hc⟩;have TT:=LH (hc.at (by simp) TT.out);have CC:=LH (CC.out.thenSame hc);have PP:=LH (hc.at (by simp) PP.out);have QQ:=LH (hc.at (by simp) QQ.out);have k10:=blk_cell TT.out;have f10:=blk_free TT.out;have MM:=LH hm;have l1:=lk_of MM.out HF.out;have l2:=lk_of (MM.out.al (.cells #[.int .i64 0, .slice none 0 0] 69)) HF.out;(try simp only[World.size_alloc,size_drew]at l1 l2);clear hm hc)
     |(go_at_call 104;(with_reducible refine Calls.mono (steps_any _) ?_);rintro e w4 ⟨rfl,hm,hc⟩;have CC:=LH (CC.out.thenSame hc);have PP:=LH (hc.at (by simp) PP.out);have QQ:=LH (hc.at (by simp) QQ.out);have MM:=LH hm;have l1:=lk_of MM.out HF.out;have l2:=lk_of (MM.out.al (.cells #[.int .i64 0, .slice none 0 0] 69)) HF.out;(try simp only[World.size_alloc,size_drew]at l1 l2);clear hm hc)
     |(go_at_call 104;(with_reducible refine Calls.mono (steps_any _) ?_);rintro e w4 ⟨rfl,hm,hc⟩;have LT:=LH (lt_of_heap QQ.out);have TT:=LH (hc.at (by simp) (heap_alloc_new _ (.cells #[.int .i64 0, .slice none 0 0] 69)));have CC:=LH ((CC.out.alloc _).thenSame hc);have PP:=LH (hc.at (by simp) (blk_alloc PP.out));have QQ:=LH (hc.at (by simp) (blk_alloc QQ.out));have k10:=blk_cell TT.out;have f10:=blk_free TT.out;have MM:=LH hm;have l1:=lk_of MM.out HF.out;have l2:=lk_of (MM.out.al (.cells #[.int .i64 0, .slice none 0 0] 69)) HF.out;(try simp only[World.size_alloc,size_drew]at l1 l2);clear hm hc)
     |(go_at_call 104;(with_reducible refine Calls.mono (steps_any _) ?_);rintro e w4 ⟨rfl,hm,hc⟩;have LT:=LH (lt_of_heap QQ0.out);have TT:=LH (hc.at (by simp) (((Chg.refl [] _).drew).at (by simp) (heap_alloc_new w3 (.cells #[.int .i64 0, .slice none 0 0] 69))));have CC:=LH (((CC0.out.alloc _).drew).thenSame hc);have PP:=LH (hc.at (by simp) (((Chg.refl [] _).drew).at (by simp) (blk_alloc PP0.out)));have QQ:=LH (hc.at (by simp) (((Chg.refl [] _).drew).at (by simp) (blk_alloc QQ0.out)));have k10:=blk_cell TT.out;have f10:=blk_free TT.out;have MM:=LH hm;have l1:=lk_of MM.out HF.out;have l2:=lk_of (MM.out.al (.cells #[.int .i64 0, .slice none 0 0] 69)) HF.out;(try simp only[World.size_alloc,size_drew]at l1 l2);clear hm hc)
     |(go_at_call 43;(with_reducible refine Calls.mono (CL.out _ CC.out) ?_);rintro e w5 ⟨ca,cc,rfl,hi,hb,hc⟩;have HCB:=LH (fun x hx=>Nat.le_trans CC.out.size (hb x hx));have TT:=LH (hc.at (by simp) TT.out);have CC:=LH (CC.out.thenSame hc);have PP:=LH (hc.at (by simp) PP.out);have QQ:=LH (hc.at (by simp) QQ.out);have k10:=blk_cell TT.out;have f10:=blk_free TT.out;have MM:=LH (MM.out.kept hc (by simp));have l1:=lk_of MM.out HF.out;have l2:=lk_of (MM.out.al (.cells #[.int .i64 0, .slice none 0 0] 69)) HF.out;(try simp only[World.size_alloc,size_drew]at l1 l2);have II:=LH hi;clear hi hb hc)
     |(go_at_call 43;(with_reducible refine Calls.mono (CL.out _ CC.out) ?_);rintro e w5 ⟨ca,cc,rfl,hi,hb,hc⟩;have HCB:=LH (fun x hx=>Nat.le_trans CC.out.size (hb x hx));have CC:=LH (CC.out.thenSame hc);have PP:=LH (hc.at (by simp) PP.out);have QQ:=LH (hc.at (by simp) QQ.out);have MM:=LH (MM.out.kept hc (by simp));have l1:=lk_of MM.out HF.out;have l2:=lk_of (MM.out.al (.cells #[.int .i64 0, .slice none 0 0] 69)) HF.out;(try simp only[World.size_alloc,size_drew]at l1 l2);have II:=LH hi;clear hi hb hc)
     |(go_at_call 43;(with_reducible refine Calls.mono (CL.out _ (CC.out.alloc _)) ?_);rintro e w5 ⟨ca,cc,rfl,hi,hb,hc⟩;have HCB:=LH (fun x hx=>Nat.le_trans (CC.out.alloc (.cells #[.int .i64 0, .slice none 0 0] 69)).size (hb x hx));have LT:=LH (lt_of_heap QQ.out);have TT:=LH (hc.at (by simp) (heap_alloc_new _ (.cells #[.int .i64 0, .slice none 0 0] 69)));have CC:=LH ((CC.out.alloc _).thenSame hc);have PP:=LH (hc.at (by simp) (blk_alloc PP.out));have QQ:=LH (hc.at (by simp) (blk_alloc QQ.out));have k10:=blk_cell TT.out;have f10:=blk_free TT.out;have MM:=LH ((MM.out.al _).kept hc (by simp));have l1:=lk_of MM.out HF.out;have l2:=lk_of (MM.out.al (.cells #[.int .i64 0, .slice none 0 0] 69)) HF.out;(try simp only[World.size_alloc,size_drew]at l1 l2);have II:=LH hi;clear hi hb hc)
     |((with_reducible refine Calls.mono (F.out _ CC.out _ _ II.out) ?_);rintro e w6 ⟨na,nc,va,vc,rfl,hn,hv,hfr,hc⟩;have HFR:=LH (fun x (hx:na=some x∨va=some x)=>hx.elim (fun hx=>((hfr x).1 hx).elim (fun e=>HCB.out x e) (fun e=>Nat.le_trans CC.out.size e)) (fun hx=>Nat.le_trans CC.out.size ((hfr x).2 hx)));have TT:=LH (hc.at (by simp) TT.out);have CC:=LH (CC.out.thenSame hc);have PP:=LH (hc.at (by simp) PP.out);have QQ:=LH (hc.at (by simp) QQ.out);have k10:=blk_cell TT.out;have f10:=blk_free TT.out;have HN:=LH hn;have HV:=LH hv;clear hn hv hfr hc)
     |((with_reducible refine Calls.mono (F.out _ CC.out _ _ II.out) ?_);rintro e w6 ⟨na,nc,va,vc,rfl,hn,hv,hfr,hc⟩;have HFR:=LH (fun x (hx:na=some x∨va=some x)=>hx.elim (fun hx=>((hfr x).1 hx).elim (fun e=>HCB.out x e) (fun e=>Nat.le_trans CC.out.size e)) (fun hx=>Nat.le_trans CC.out.size ((hfr x).2 hx)));have CC:=LH (CC.out.thenSame hc);have PP:=LH (hc.at (by simp) PP.out);have QQ:=LH (hc.at (by simp) QQ.out);have HN:=LH hn;have HV:=LH hv;clear hn hv hfr hc)
     |((with_reducible refine Calls.mono (F.out _ (CC.out.alloc _) _ _ (II.out.kept ((Chg.refl [] _).alloc _))) ?_);rintro e w6 ⟨na,nc,va,vc,rfl,hn,hv,hfr,hc⟩;have HFR:=LH (fun x (hx:na=some x∨va=some x)=>hx.elim (fun hx=>((hfr x).1 hx).elim (fun e=>HCB.out x e) (fun e=>Nat.le_trans (CC.out.alloc (.cells #[.int .i64 0, .slice none 0 0] 69)).size e)) (fun hx=>Nat.le_trans (CC.out.alloc (.cells #[.int .i64 0, .slice none 0 0] 69)).size ((hfr x).2 hx)));have LT:=LH (lt_of_heap QQ.out);have TT:=LH (hc.at (by simp) (heap_alloc_new _ (.cells #[.int .i64 0, .slice none 0 0] 69)));have CC:=LH ((CC.out.alloc _).thenSame hc);have PP:=LH (hc.at (by simp) (blk_alloc PP.out));have QQ:=LH (hc.at (by simp) (blk_alloc QQ.out));have k10:=blk_cell TT.out;have f10:=blk_free TT.out;have HN:=LH hn;have HV:=LH hv;clear hn hv hfr hc))
  all_goals go_wp2_with fail
  all_goals go_meet
  all_goals first
   |(with_reducible exact LH (d7_a QQ.out CC.out HN.out HV.out HFR.out))
   |(with_reducible exact LH (d7_b QQ.out CC.out HN.out HV.out HFR.out))
   |(have hlb:=LT.out;(try simp only[size_drew]at hlb);have hlc:=Nat.le_of_succ_le (Nat.le_of_lt hlb);with_reducible exact LH (d7_c TT.out QQ.out hlb hlc CC.out HN.out HV.out HFR.out))
 case rest=>
  obtain⟨na,nc,va,vc,b10,rfl,rfl,h10,hne,h5,hn,hv,hfr,hcc⟩:=hcut.out
  have K10:=LH h10
  have K5:=LH h5
  have HN:=LH hn
  have HV:=LH hv
  have HC:=LH hcc
  have HFR:=LH hfr
  have k10:=blk_cell h10
  have k5:=blk_cell h5
  have f5:=blk_free h5
  clear hcut h10 h5 hn hv hfr hcc
  go_upto_region 8 with fail
  go_region_law (fail)
  all_goals go_wp2_with fail
  all_goals
   have r1:=blk_cell (ans_two K5.out r.2.1 va r.2.2.length vc).1
   unfold ansW at r1
   refine bodyPost_ret (v:= .tuple #[.slice na r.1.length nc, .agg #[.int .i64 r.2.1, .slice va r.2.2.length vc], .int .i64 0]) (by simp[results,Tryz.results53,go_sem,r1]) rfl ?_
   exact(doP_end (r:=(0,r)) HFR.out K5.out (by omega) HC.out (fun h2=>HN.out.keptAns K5.out h2) (fun h2=>HV.out.keptAns K5.out h2)).drew
theorem do_ok4 (sa:Option Addr) (sc:Nat) (st:List Ce) (o:EOp) (r:List Ce×Int×List Ce) (w:World) (h:InIs ceC 4 w sa sc st) (hg:goodL st) (ha:ArgsIn w o.aa o.ac o.args) (hog:o.good) (ht:TabW w) (h1:chkZ o.p=0) (h2:checkZ st=0) (hl:st.length≤1048576)
 (hf:lookL Prod.fst stL o.op=some (o.op,192))
 (F:∀w' (_:Chg [] w w') a c,InIs ceC 4 w' a c st→Calls Tryz.prog 192 #[.slice a st.length c, .slice o.aa o.args.length o.ac] w' (StepP w' a r)):
 Calls Tryz.prog 53 #[.slice sa st.length sc, .agg (eoC o).toArray] w (DoP w (0,r)):=by
 have A:=LH (fun w' (hc:Chg [] w w')=>echk_any o w' (ha.kept hc) hog (ht.kept hc))
 have A2:=LH (fun w' (hc:Chg [] w w')=>vcheck_any sa sc st w' (h.1.kept hc) hg.1 hg.2 (ht.kept hc))
 have H:=LH h
 have HF:=LH hf
 have F:=LH F
 have HL:=LH hl
 rename_i F0
 rw[h1]at A
 rw[h2]at A2
 obtain⟨ent,id,op,aa,ac,args⟩:=o
 simp only[eoC]
 simp only at F HF
 clear ha hog ht hg h1 h h2 F0 hf hl
 have C1:=LH (((Chg.refl [] w).alloc (eoO ⟨ent,id,op,aa,ac,args⟩)).alloc (.cells #[.int .i64 0, .slice none 0 0] 69))
 have B1:=LH (blk_alloc (o':= .cells #[.int .i64 0, .slice none 0 0] 69) (heap_alloc_new w (eoO ⟨ent,id,op,aa,ac,args⟩)))
 have B5:=LH (heap_alloc_new (w.alloc (eoO ⟨ent,id,op,aa,ac,args⟩)) (.cells #[.int .i64 0, .slice none 0 0] 69))
 rw[World.size_alloc]at B5
 obtain⟨W1,hW1⟩:∃W1,W1=(w.alloc (eoO ⟨ent,id,op,aa,ac,args⟩)).alloc (.cells #[.int .i64 0, .slice none 0 0] 69):=⟨_,rfl⟩
 have hs:W1.heap.size=w.heap.size+2:=by rw[hW1,World.size_alloc,World.size_alloc]
 rw[←hW1]at C1 B1 B5
 unfold eoO at hW1 B1
 have k:=blk_cell B1.out
 have HS:=LH hs
 have HW1:=LH hW1
 clear hW1 hs
 go_enter Tryz.func53,Tryz.ntmps53
 go_upto_region 1 with fail
 rw[←HW1.out]
 go_wp2_with fail
 refine(A.out _ C1.out).mono ?_;rintro e w2 ⟨rfl,hc⟩
 have C2:=LH (C1.out.thenSame hc)
 have E1:=LH (hc.at (by simp) B1.out)
 have E5:=LH (hc.at (by simp) B5.out)
 clear hc k
 go_wp2_with fail
 refine(A2.out _ C2.out).mono ?_;rintro e w3 ⟨rfl,hc⟩
 have CC0:=LH (C2.out.thenSame hc)
 have PP0:=LH (hc.at (by simp) E1.out)
 have QQ0:=LH (hc.at (by simp) E5.out)
 have C3:=LH ((C2.out.thenSame hc).drew)
 have F1:=LH (((Chg.refl [] w3).drew).at (by simp) (hc.at (by simp) E1.out))
 have F5:=LH (((Chg.refl [] w3).drew).at (by simp) (hc.at (by simp) E5.out))
 clear hc
 have PP:=F1
 have QQ:=F5
 have CC:=C3
 have CL:=LH (fun w' (hc:Chg [] w w')=>clonec_in sa sc st w' (H.out.kept hc) (Nat.le_trans HL.out (by decide)))
 go_upto_region 7 with fail
 go_cut [9,10] (fun x9 x10 wx=>Hid (D7 w r (w.heap.size+1) x9 x10 wx))
 case first=>
  go_region_held3 (fun w'=>w'.cell? ⟨w.heap.size,2,none⟩=some (.string op)∧w'.cell? ⟨w.heap.size,3,none⟩=some (.slice aa args.length ac))
   (with_reducible first|exact two_cells PP.out|exact two_cells (blk_alloc PP.out)|exact two_cells (((Chg.refl [] _).drew).at (by simp) (blk_alloc PP0.out))|exact two_far PP.out TT.out|exact two_far (blk_alloc PP.out) (heap_alloc_new _ _))
   (first
     |(go_at_call 104;(with_reducible refine Calls.mono (steps_any _) ?_);rintro e w4 ⟨rfl,hm,hc⟩;have TT:=LH (hc.at (by simp) TT.out);have CC:=LH (CC.out.thenSame hc);have PP:=LH (hc.at (by simp) PP.out);have QQ:=LH (hc.at (by simp) QQ.out);have k10:=blk_cell TT.out;have f10:=blk_free TT.out;have MM:=LH hm;have l1:=lk_of MM.out HF.out;have l2:=lk_of (MM.out.al (.cells #[.int .i64 0, .slice none 0 0] 69)) HF.out;(try simp only[World.size_alloc,size_drew]at l1 l2);clear hm hc)
     |(go_at_call 104;(with_reducible refine Calls.mono (steps_any _) ?_);rintro e w4 ⟨rfl,hm,hc⟩;have CC:=LH (CC.out.thenSame hc);have PP:=LH (hc.at (by simp) PP.out);have QQ:=LH (hc.at (by simp) QQ.out);have MM:=LH hm;have l1:=lk_of MM.out HF.out;have l2:=lk_of (MM.out.al (.cells #[.int .i64 0, .slice none 0 0] 69)) HF.out;(try simp only[World.size_alloc,size_drew]at l1 l2);clear hm hc)
     |(go_at_call 104;(with_reducible refine Calls.mono (steps_any _) ?_);rintro e w4 ⟨rfl,hm,hc⟩;have LT:=LH (lt_of_heap QQ.out);have TT:=LH (hc.at (by simp) (heap_alloc_new _ (.cells #[.int .i64 0, .slice none 0 0] 69)));have CC:=LH ((CC.out.alloc _).thenSame hc);have PP:=LH (hc.at (by simp) (blk_alloc PP.out));have QQ:=LH (hc.at (by simp) (blk_alloc QQ.out));have k10:=blk_cell TT.out;have f10:=blk_free TT.out;have MM:=LH hm;have l1:=lk_of MM.out HF.out;have l2:=lk_of (MM.out.al (.cells #[.int .i64 0, .slice none 0 0] 69)) HF.out;(try simp only[World.size_alloc,size_drew]at l1 l2);clear hm hc)
     |(go_at_call 104;(with_reducible refine Calls.mono (steps_any _) ?_);rintro e w4 ⟨rfl,hm,hc⟩;have LT:=LH (lt_of_heap QQ0.out);have TT:=LH (hc.at (by simp) (((Chg.refl [] _).drew).at (by simp) (heap_alloc_new w3 (.cells #[.int .i64 0, .slice none 0 0] 69))));have CC:=LH (((CC0.out.alloc _).drew).thenSame hc);have PP:=LH (hc.at (by simp) (((Chg.refl [] _).drew).at (by simp) (blk_alloc PP0.out)));have QQ:=LH (hc.at (by simp) (((Chg.refl [] _).drew).at (by simp) (blk_alloc QQ0.out)));have k10:=blk_cell TT.out;have f10:=blk_free TT.out;have MM:=LH hm;have l1:=lk_of MM.out HF.out;have l2:=lk_of (MM.out.al (.cells #[.int .i64 0, .slice none 0 0] 69)) HF.out;(try simp only[World.size_alloc,size_drew]at l1 l2);clear hm hc)
     |(go_at_call 43;(with_reducible refine Calls.mono (CL.out _ CC.out) ?_);rintro e w5 ⟨ca,cc,rfl,hi,hb,hc⟩;have HCB:=LH (fun x hx=>Nat.le_trans CC.out.size (hb x hx));have TT:=LH (hc.at (by simp) TT.out);have CC:=LH (CC.out.thenSame hc);have PP:=LH (hc.at (by simp) PP.out);have QQ:=LH (hc.at (by simp) QQ.out);have k10:=blk_cell TT.out;have f10:=blk_free TT.out;have MM:=LH (MM.out.kept hc (by simp));have l1:=lk_of MM.out HF.out;have l2:=lk_of (MM.out.al (.cells #[.int .i64 0, .slice none 0 0] 69)) HF.out;(try simp only[World.size_alloc,size_drew]at l1 l2);have II:=LH hi;clear hi hb hc)
     |(go_at_call 43;(with_reducible refine Calls.mono (CL.out _ CC.out) ?_);rintro e w5 ⟨ca,cc,rfl,hi,hb,hc⟩;have HCB:=LH (fun x hx=>Nat.le_trans CC.out.size (hb x hx));have CC:=LH (CC.out.thenSame hc);have PP:=LH (hc.at (by simp) PP.out);have QQ:=LH (hc.at (by simp) QQ.out);have MM:=LH (MM.out.kept hc (by simp));have l1:=lk_of MM.out HF.out;have l2:=lk_of (MM.out.al (.cells #[.int .i64 0, .slice none 0 0] 69)) HF.out;(try simp only[World.size_alloc,size_drew]at l1 l2);have II:=LH hi;clear hi hb hc)
     |(go_at_call 43;(with_reducible refine Calls.mono (CL.out _ (CC.out.alloc _)) ?_);rintro e w5 ⟨ca,cc,rfl,hi,hb,hc⟩;have HCB:=LH (fun x hx=>Nat.le_trans (CC.out.alloc (.cells #[.int .i64 0, .slice none 0 0] 69)).size (hb x hx));have LT:=LH (lt_of_heap QQ.out);have TT:=LH (hc.at (by simp) (heap_alloc_new _ (.cells #[.int .i64 0, .slice none 0 0] 69)));have CC:=LH ((CC.out.alloc _).thenSame hc);have PP:=LH (hc.at (by simp) (blk_alloc PP.out));have QQ:=LH (hc.at (by simp) (blk_alloc QQ.out));have k10:=blk_cell TT.out;have f10:=blk_free TT.out;have MM:=LH ((MM.out.al _).kept hc (by simp));have l1:=lk_of MM.out HF.out;have l2:=lk_of (MM.out.al (.cells #[.int .i64 0, .slice none 0 0] 69)) HF.out;(try simp only[World.size_alloc,size_drew]at l1 l2);have II:=LH hi;clear hi hb hc)
     |((with_reducible refine Calls.mono (F.out _ CC.out _ _ II.out) ?_);rintro e w6 ⟨na,nc,va,vc,rfl,hn,hv,hfr,hc⟩;have HFR:=LH (fun x (hx:na=some x∨va=some x)=>hx.elim (fun hx=>((hfr x).1 hx).elim (fun e=>HCB.out x e) (fun e=>Nat.le_trans CC.out.size e)) (fun hx=>Nat.le_trans CC.out.size ((hfr x).2 hx)));have TT:=LH (hc.at (by simp) TT.out);have CC:=LH (CC.out.thenSame hc);have PP:=LH (hc.at (by simp) PP.out);have QQ:=LH (hc.at (by simp) QQ.out);have k10:=blk_cell TT.out;have f10:=blk_free TT.out;have HN:=LH hn;have HV:=LH hv;clear hn hv hfr hc)
     |((with_reducible refine Calls.mono (F.out _ CC.out _ _ II.out) ?_);rintro e w6 ⟨na,nc,va,vc,rfl,hn,hv,hfr,hc⟩;have HFR:=LH (fun x (hx:na=some x∨va=some x)=>hx.elim (fun hx=>((hfr x).1 hx).elim (fun e=>HCB.out x e) (fun e=>Nat.le_trans CC.out.size e)) (fun hx=>Nat.le_trans CC.out.size ((hfr x).2 hx)));have CC:=LH (CC.out.thenSame hc);have PP:=LH (hc.at (by simp) PP.out);have QQ:=LH (hc.at (by simp) QQ.out);have HN:=LH hn;have HV:=LH hv;clear hn hv hfr hc)
     |((with_reducible refine Calls.mono (F.out _ (CC.out.alloc _) _ _ (II.out.kept ((Chg.refl [] _).alloc _))) ?_);rintro e w6 ⟨na,nc,va,vc,rfl,hn,hv,hfr,hc⟩;have HFR:=LH (fun x (hx:na=some x∨va=some x)=>hx.elim (fun hx=>((hfr x).1 hx).elim (fun e=>HCB.out x e) (fun e=>Nat.le_trans (CC.out.alloc (.cells #[.int .i64 0, .slice none 0 0] 69)).size e)) (fun hx=>Nat.le_trans (CC.out.alloc (.cells #[.int .i64 0, .slice none 0 0] 69)).size ((hfr x).2 hx)));have LT:=LH (lt_of_heap QQ.out);have TT:=LH (hc.at (by simp) (heap_alloc_new _ (.cells #[.int .i64 0, .slice none 0 0] 69)));have CC:=LH ((CC.out.alloc _).thenSame hc);have PP:=LH (hc.at (by simp) (blk_alloc PP.out));have QQ:=LH (hc.at (by simp) (blk_alloc QQ.out));have k10:=blk_cell TT.out;have f10:=blk_free TT.out;have HN:=LH hn;have HV:=LH hv;clear hn hv hfr hc))
  all_goals go_wp2_with fail
  all_goals go_meet
  all_goals first
   |(with_reducible exact LH (d7_a QQ.out CC.out HN.out HV.out HFR.out))
   |(with_reducible exact LH (d7_b QQ.out CC.out HN.out HV.out HFR.out))
   |(have hlb:=LT.out;(try simp only[size_drew]at hlb);have hlc:=Nat.le_of_succ_le (Nat.le_of_lt hlb);with_reducible exact LH (d7_c TT.out QQ.out hlb hlc CC.out HN.out HV.out HFR.out))
 case rest=>
  obtain⟨na,nc,va,vc,b10,rfl,rfl,h10,hne,h5,hn,hv,hfr,hcc⟩:=hcut.out
  have K10:=LH h10
  have K5:=LH h5
  have HN:=LH hn
  have HV:=LH hv
  have HC:=LH hcc
  have HFR:=LH hfr
  have k10:=blk_cell h10
  have k5:=blk_cell h5
  have f5:=blk_free h5
  clear hcut h10 h5 hn hv hfr hcc
  go_upto_region 8 with fail
  go_region_law (fail)
  all_goals go_wp2_with fail
  all_goals
   have r1:=blk_cell (ans_two K5.out r.2.1 va r.2.2.length vc).1
   unfold ansW at r1
   refine bodyPost_ret (v:= .tuple #[.slice na r.1.length nc, .agg #[.int .i64 r.2.1, .slice va r.2.2.length vc], .int .i64 0]) (by simp[results,Tryz.results53,go_sem,r1]) rfl ?_
   exact(doP_end (r:=(0,r)) HFR.out K5.out (by omega) HC.out (fun h2=>HN.out.keptAns K5.out h2) (fun h2=>HV.out.keptAns K5.out h2)).drew
end
section
open Go.RowKit
theorem lookR_pos:∀(l:List Ce) (len i:Nat) (s:Sh) (st:List Opn),(lookR len l i s st).2.2=true→l≠[]:=by
 intro l len i s st h e
 subst e
 rw[look_nil]at h
 simp at h
theorem check_zero {l:List Ce} (h:checkZ l=0):l≠[]∧l.length≤200:=by
 unfold checkZ checkQ at h
 split at h
 ·simp at h
 ·rename_i h1
  refine⟨lookR_pos l l.length 0 sh0 [] (by unfold lookS at h1;simpa using h1), ?_⟩
  split at h
  ·simp at h
  ·split at h
   ·simp at h
   ·split at h
    ·simp at h
    ·split at h
     ·simp at h
     ·omega
theorem chk_zero {o:POp} (h:chkZ o=0):opN o.op≠0∧o.args.length=ariN (opN o.op)∧∀v∈o.args,checkZ v=0:=by
 unfold chkZ at h
 split at h
 ·simp at h
 ·split at h
  ·simp at h
  ·rename_i h2
   split at h
   ·simp at h
   ·rename_i h3
    exact⟨h2,by omega,firstE_zero h⟩
theorem do_any (sa:Option Addr) (sc:Nat) (st:List Ce) (o:EOp) (w:World) (h:InIs ceC 4 w sa sc st) (hg:goodL st) (ha:ArgsIn w o.aa o.ac o.args) (hog:o.good) (ht:TabW w):
 Calls Tryz.prog 53 #[.slice sa st.length sc, .agg (eoC o).toArray] w (DoP w (doZ st o.p)):=by
 by_cases h1:chkZ o.p=0
 case neg=>exact do_err sa sc st o w h hg ha hog ht (.inl h1)
 by_cases h2:checkZ st=0
 case neg=>exact do_err sa sc st o w h hg ha hog ht (.inr h2)
 have hz:doZ st o.p=(0,doF (opN o.op) st o.p.args):=by unfold doZ;rw[if_neg (by simp[h1]),if_neg (by simp[h2])];rfl
 rw[hz]
 obtain⟨hs1,hs2⟩:=check_zero h2
 obtain⟨k0,k1,k2⟩:=chk_zero h1
 obtain⟨ent,id,op,aa,ac,args⟩:=o
 simp only[EOp.p,List.length_map]at k0 k1 k2⊢
 simp only at ha
 have hv:∀d∈args,checkZ d.L=0:=fun d hd=>k2 _ (List.mem_map_of_mem hd)
 rcases opN_cases op with ⟨rfl,e⟩|⟨rfl,e⟩|⟨rfl,e⟩|⟨rfl,e⟩|⟨_,e⟩
 ·rw[e]
  exact do_ok1 sa sc st ⟨ent,id,opRead,aa,ac,args⟩ (st,0,st) w h hg ha hog ht h1 h2 (by omega) rfl (fun w' hc a c hi=>step1_any a c st _ w' hi (by omega))
 ·rw[e]at k1⊢
  obtain⟨d,rfl⟩:∃d,args=[d]:=List.length_eq_one_iff.1 k1
  have hd:=check_zero (hv d (by simp))
  exact do_ok2 sa sc st ⟨ent,id,opWrite,aa,ac,[d]⟩ (d.L,0,[nullC]) w h hg ha hog ht h1 h2 (by omega) rfl (fun w' hc a c hi=>step2_any a _ aa ac d w' (ha.kept hc) (by omega))
 ·rw[e]at k1⊢
  obtain⟨d,rfl⟩:∃d,args=[d]:=List.length_eq_one_iff.1 k1
  obtain⟨da,dc,dL⟩:=d
  have hd:=check_zero (hv ⟨da,dc,dL⟩ (by simp))
  simp only at hd
  cases dL with
  |nil=>exact absurd rfl hd.1
  |cons x rx=>
   cases st with
   |nil=>exact absurd rfl hs1
   |cons s r=>
    exact do_ok3 sa sc (s::r) ⟨ent,id,opAdd,aa,ac,[⟨da,dc,x::rx⟩]⟩ (addF (s::r) (x::rx)) w h hg ha hog ht h1 h2 (by omega) rfl (fun w' hc a c hi=>step3_any a c s r aa ac da dc x rx w' hi (ha.kept hc))
 ·rw[e]at k1⊢
  obtain⟨d,d2,rfl⟩:∃d d2,args=[d,d2]:=by
   match args,k1 with
   |[d,d2],_=>exact⟨d,d2,rfl⟩
  have hd:=check_zero (hv d2 (by simp))
  exact do_ok4 sa sc st ⟨ent,id,opCas,aa,ac,[d,d2]⟩ (if sameB ceE st d.L then(d2.L,0,[boolC true])else(st,0,[boolC false])) w h hg ha hog ht h1 h2 (by omega) rfl (fun w' hc a c hi=>step4_any a c st aa ac d d2 w' hi (ha.kept hc) (by omega) (by omega))
 ·exact absurd e k0
end
end Go.Proofs.YtmofknmeljdodaaGreatDoor
