/- Chapter 48: contracts: Submit where the entity is there. No condition but those that the statements name. -/
import Derived.Laws.BytesArg
import Derived.Test.YtmofknmeljdodaaGreatDoorZS01
import Derived.Test.YtmofknmeljdodaaGreatDoorZA05
set_option maxHeartbeats 100000000
set_option maxRecDepth 100000
set_option linter.unusedVariables false
set_option linter.unusedSimpArgs false
open List renaming getElem_toArray→gTA,getElem_cons_zero→gCZ,getElem_cons_succ→gCS,setIfInBounds_toArray→sTA,set_cons_zero→sCZ,set_cons_succ→sCS
namespace Go.Proofs.YtmofknmeljdodaaGreatDoor
section
open Go.RowKit
variable {w w0 w1 w2 w3 w4 w':World} {B d me mc eb cb:Nat} {L L' E S:List Nat} {rv rv':Value} {sa:Option Addr} {sc:Nat} {st:List Ce} {xs:List (Nat×Cl)} {y:Cl} {done:Nat} {now:Int}
theorem wf_small {t:Int} (h0:0≤t) (h1:t≤1073741824):(Lit.int .i64 t).wf=true:=by
 simp only[Lit.wf,IntKind.min,IntKind.max,IntKind.signed,IntKind.bits,Bool.and_eq_true,decide_eq_true_eq,if_true]
 omega
theorem al2 (w:World) (o1 o2:Obj):((w.alloc o1).alloc o2).heap[w.heap.size+1]? =some o2:=by have h:=heap_alloc_new (w.alloc o1) o2;rw[World.size_alloc]at h;exact h
theorem zeroEnt (w:World):(zeroValue 171).run Tryz.prog w= .ok (.pointer none) w:=by kernel_rfl
theorem zeroCall (w:World):(zeroValue 176).run Tryz.prog w= .ok (.pointer none) w:=by kernel_rfl
theorem look_ent (h:MapIs (fun _=>entX) ptV w me [eb]) (n:Nat):Sem.run Tryz.prog (Instr.lookup 166 (.map (some me)) (.string entX) true) (w.drewN n)=Result.ok (.tuple #[.pointer (some ⟨eb,0,none⟩), .bool true]) (w.drewN n):=
 (MapIs.lookup (h.kept ((Chg.refl [] w).drewN n) (by simp)) Tryz.underlying166 Tryz.underlying9 (zeroEnt _) entX true).trans (by simp[lookL,ptV])
theorem look_ent0 (h:MapIs (fun _=>entX) ptV w me []) (n:Nat):Sem.run Tryz.prog (Instr.lookup 166 (.map (some me)) (.string entX) true) (w.drewN n)=Result.ok (.tuple #[.pointer none, .bool false]) (w.drewN n):=
 (MapIs.lookup (h.kept ((Chg.refl [] w).drewN n) (by simp)) Tryz.underlying166 Tryz.underlying9 (zeroEnt _) entX true).trans (by simp[lookL])
theorem look_no (h:MapIs (fun x:Nat×Cl=>x.2.o.id) (fun x=>ptV x.1) w mc xs) {id:ByteArray} (hid:∀x∈xs,x.2.o.id≠id) (n:Nat):Sem.run Tryz.prog (Instr.lookup 167 (.map (some mc)) (.string id) true) (w.drewN n)=Result.ok (.tuple #[.pointer none, .bool false]) (w.drewN n):=
 (MapIs.lookup (h.kept ((Chg.refl [] w).drewN n) (by simp)) Tryz.underlying167 Tryz.underlying9 (zeroCall _) id true).trans (by rw[lookL_miss hid];rfl)
theorem dsubmit_yes (h:DrAt w B L d me mc [eb] rv sa sc st xs done now) (hst:0<st.length) (o:EOp) (ha:ArgsIn w o.aa o.ac o.args) (hg:o.good) (hz:chkZ o.p=0) (he:o.ent=entX) (hid:∀x∈xs,x.2.o.id≠o.id) (h8:xs.length<8) (hal:∀v∈o.args,v.L.length≤3518437208780) (han:o.args.length≤1048576) (hao:∀ad,o.aa=some ad→ad.block∉L) (hao2:∀v∈o.args,∀ad,v.a=some ad→ad.block∉L) (ht:TabW w) {t:Int} (t0:0≤t) (t1:t≤1073741824) (t2:now≤t) (hB:B≤w.heap.size):
 Calls Tryz.prog 17 #[.pointer (some ⟨d,0,none⟩), .agg (eoC o).toArray, .int .i64 t] w fun e w'=>e= .returned (.int .i64 0)∧∃L' rv' cb y,DrAt w' B L' d me mc [eb] rv' sa sc st (xs++[(cb,y)]) done t∧Tr L w L' w'∧y.p=⟨o.p,0,[],t, -1⟩:=by
 have hnn:o.args.length≤9223372036854775806:=by omega
 obtain⟨ra,rc,rfl⟩:=RowOf.shape h.row
 obtain⟨ent,id,op,aa,ac,args⟩:=o
 simp only at he hid hal han ha hao hao2
 subst he
 have C1:Hid (Chg [] w (w.alloc (.cells #[.string entX, .string id, .string op, .slice aa args.length ac] 67 (0,0)))):=LH ((Chg.refl _ _).alloc _)
 have MD:=LH (dmade_any (h.kept C1.out))
 have CK:=LH (echk_any ⟨entX,id,op,aa,ac,args⟩ (w.alloc (.cells #[.string entX, .string id, .string op, .slice aa args.length ac] 67 (0,0))) (ha.kept C1.out) hg (ht.kept C1.out))
 rw[hz]at CK
 simp only[eoC]at CK
 have H:=LH h
 have HA:=LH ha
 have LK:=LH (fun w' (hc:Chg [] w w')=>look_no (h.kept hc).cm hid)
 have LE:=LH (fun w' (hc:Chg [] w w')=>look_ent (h.kept hc).em)
 have hd1:=h.lt d (by rw[h.own];simp)
 have hdL:d∈L:=by rw[h.own];simp
 have HAL:=LH hal
 have HID:=LH hid
 have HG:=LH hg
 have hoL:Hid (w.heap.size∉L):=LH (fun hm=>by have:=h.lt _ hm;omega)
 have HAN:=LH han
 have HA0:=LH (fun L2 w' (hc:Tr L w L2 w') (t:Int)=>(ha.keptA hc.chg hao hao2).keptA (S:=[d]) ((Chg.refl [d] w').setCell ⟨d,0,none⟩ (.int .i64 t) (fun _=>by simp)) (fun ad had hm=>hao ad had (by simp at hm;rw[hm];exact hdL)) (fun x hx ad had hm=>hao2 x hx ad had (by simp at hm;rw[hm];exact hdL)))
 clear h ha hz hid ht hal han hg hao hao2
 simp only[eoC]
 go_enter Tryz.func17,Tryz.ntmps17
 go_wp2_with (first
  |(go_at_call 52;(with_reducible refine Calls.mono MD.out ?_);rintro e w2 ⟨rfl,rfl⟩)
  |(go_at_call 55;(with_reducible refine Calls.mono CK.out ?_);rintro e w3 ⟨rfl,hc3⟩;have C3:=LH (C1.out.thenSame hc3);have kb3:=blk_cell ((H.out.kept (C1.out.thenSame hc3)).blk);have lb3:=lt_of_heap ((H.out.kept (C1.out.thenSame hc3)).blk);have ko3:=blk_cell (hc3.at (by simp) (heap_alloc_new w _));have lo3:=lt_of_heap (hc3.at (by simp) (heap_alloc_new w _));have O3:=LH (hc3.at (by simp) (heap_alloc_new w _));clear hc3)
  |fail)
 have r10:=LK.out w3 C3.out
 go_quiet (fail)
 go_wp2_with fail
 generalize hW:w3.drewN _=W
 have CW:=LH (show Chg [] w W by rw[←hW];exact C3.out.drewN _)
 have HW:=LH (H.out.kept CW.out)
 have ew:∀p,w3.cell? p=W.cell? p:=fun p=>by rw[←hW];rfl
 simp only[ew]at kb3 ko3
 rw[show w3.heap.size=W.heap.size by rw[←hW];rfl]at lb3 lo3
 have O4:Hid (W.heap[w.heap.size]? =some (.cells #[.string entX, .string id, .string op, .slice aa args.length ac] 67 (0,0))):=LH (by rw[←hW];exact O3.out)
 clear r10 hW ew O3
 have r16:=LE.out W CW.out
 have h256:((xs.length:Int)==256)=false:=beq_eq_false_iff_ne.2 (by omega)
 go_quiet (fail)
 generalize hW2:W.drewN _=W2
 have CX:=LH (show Chg [] w W2 by rw[←hW2];exact CW.out.drewN _)
 have HX:=LH (H.out.kept CX.out)
 have O5:W2.heap[w.heap.size]? =some (.cells #[.string entX, .string id, .string op, .slice aa args.length ac] 67 (0,0)):=by rw[←hW2];exact O4.out
 clear r16 hW2 kb3 ko3 lo3 lb3 O4
 have r17:Sem.run Tryz.prog (Builtin.len_ #[167] 3 #[.map (some mc)]) W2=Result.ok (.int .i64 (xs.length:Int)) W2:=MapIs.len HX.out.cm Tryz.underlying167 3
 have TX:=LH ((Tr.refl L w).same CX.out)
 have hoL2:=hoL
 have kb4:=blk_cell HX.out.blk
 have fb4:=blk_free HX.out.blk
 have lb4:=lt_of_heap HX.out.blk
 have ko4:=blk_cell O5
 have lo4:=lt_of_heap O5
 have O5:=LH O5
 rename_i O50
 clear O50
 have hdo:d≠w.heap.size:=by omega
 have hdo2:w.heap.size≠d:=by omega
 obtain⟨HN,TN⟩:=HX.out.setNow t
 have HN:=LH HN
 have TN:=LH TN
 have CL:=LH (eclone_any ⟨entX,id,op,aa,ac,args⟩ (W2.setCell ⟨d,0,none⟩ (.int .i64 t)) (HA0.out _ _ TX.out t) HAL.out HAN.out)
 simp only[eoC]at CL
 rename_i HN0 TN0
 clear HN0 TN0
 have hxl:xs.length≤8:=by omega
 have EN:Hid (eb∉(Value.slice ra xs.length rc).ownBlock.toList∧d∉(Value.slice ra xs.length rc).ownBlock.toList∧eb≠d∧mc≠d∧mc≠eb∧mc∉(Value.slice ra xs.length rc).ownBlock.toList):=LH (by
  have nd:=HX.out.nd
  rw[HX.out.own]at nd
  simp only[List.cons_append,List.nil_append,List.nodup_cons,List.mem_cons,List.mem_append,not_or]at nd
  exact⟨nd.2.2.2.1.1,nd.1.2.2.2.1,fun e=>nd.1.2.2.1 e.symm,fun e=>nd.1.2.1 e.symm,nd.2.2.1.1,nd.2.2.1.2.1⟩)
 go_wp2_with (first
  |(go_at_call 58;(with_reducible refine Calls.mono CL.out ?_);rintro e w5 ⟨y,rfl,hp,hy,hb1,hb2,hc5⟩;obtain⟨ye,yi,yo,ya,yc,yr⟩:=y;simp only[EOp.p,POp.mk.injEq]at hp hy hb1 hb2;obtain⟨rfl,rfl,rfl,hpa⟩:=hp;have P5:=LH hpa;have Y5:=LH hy;have N1:=LH hb1;have N2:=LH hb2;have C5:=LH hc5;have H5:=LH (HN.out.kept hc5);have ke5:=blk_cell ((HN.out.kept hc5).en eb (by simp));have fe5:=blk_free ((HN.out.kept hc5).en eb (by simp));have le5:=lt_of_heap ((HN.out.kept hc5).en eb (by simp));clear hpa hy hb1 hb2 hc5)
  |(at_builtin;go_loud (refine wpl_appendsB rfl _ _ 173 rfl B 176 _ 8 Tryz.underlying173 pcInfo rfl (by decide) pcC_len pcC_one (.slice ra xs.length rc) xs rfl (RowOf.kept H5.out.row (((Chg.refl [] w5).alloc (clO ⟨⟨entX,yi,yo,ya,yc,yr⟩,0,none,0,[],t, -1⟩)).alloc (.cells #[.pointer (some ⟨w5.heap.size,0,none⟩)] 176)) (by simp)) _ 1 1 [(w5.heap.size,⟨⟨entX,yi,yo,ya,yc,yr⟩,0,none,0,[],t, -1⟩)] _ _ _ rfl (al2 _ _ _) rfl rfl (by omega) (by unfold maxLen;omega) (by omega) (by have:=C5.out.size;have:=TX.out.chg.size;simp only[World.size_alloc,World.size_setCell]at*;omega) ?_;intro g8 c8 w8 hr8 hg8 ho8 hl8;have R8:=LH hr8;have G8:=LH (Chg.ofRow hg8);have O8:=LH ho8;have DC:=LH (show Chg [] w5 ((w5.alloc (clO ⟨⟨entX,yi,yo,ya,yc,yr⟩,0,none,0,[],t, -1⟩)).alloc (.cells #[.pointer (some ⟨w5.heap.size,0,none⟩)] 176))from((Chg.refl [] w5).alloc _).alloc _);have E8:=LH ((Chg.ofRow hg8).at EN.out.1 (DC.out.at (by simp) (H5.out.en eb (by simp))));have ke8:=blk_cell E8.out;have fe8:=blk_free E8.out;have le8:=lt_of_heap E8.out;clear hr8 hg8 ho8))
  |fail)
 generalize hW9:w8.setCell ⟨eb,1,none⟩ (.slice (some ⟨g8,0,none⟩) (xs.length+1) c8)=W9
 have ebL:eb∈L:=by rw[HX.out.own];simp
 have hne:eb≠w.heap.size:=fun e=>hoL2.out (e▸ebL)
 have hrvL:w.heap.size∉(Value.slice ra xs.length rc).ownBlock.toList:=fun hm=>hoL2.out (by rw[HX.out.own];simp only[List.mem_cons,List.mem_append];exact .inr (.inr (.inr (.inr (.inl hm)))))
 have c9:Chg [eb] w8 W9:=by rw[←hW9];exact(Chg.refl _ _).setCell _ _ (fun _=>by simp)
 have kd9:=blk_cell (c9.at (by simpa using fun e=>EN.out.2.2.1 e.symm) (G8.out.at EN.out.2.1 (DC.out.at (by simp) H5.out.blk)))
 have ld9:=lt_of_heap (c9.at (by simpa using fun e=>EN.out.2.2.1 e.symm) (G8.out.at EN.out.2.1 (DC.out.at (by simp) H5.out.blk)))
 have o9:=c9.at (by simpa using fun e=>hne e.symm) (G8.out.at hrvL (DC.out.at (by simp) (C5.out.at (by simp) (((Chg.refl [d] W2).setCell ⟨d,0,none⟩ (.int .i64 t) (fun _=>by simp)).at (by simpa using hdo2) O5.out))))
 have ko9:=blk_cell o9
 have lo9:=lt_of_heap o9
 have M9:=LH (((H5.out.cm.kept DC.out (by simp)).kept G8.out EN.out.2.2.2.2.2).kept c9 (by simpa using EN.out.2.2.2.2.1))
 have M9d:=LH (M9.out.kept ((Chg.refl [] W9).drew) (by simp))
 have kd9:W9.cell? ⟨d,2,none⟩=some (.map (some mc)):=kd9 2
 have ko9:W9.cell? ⟨w.heap.size,1,none⟩=some (.string yi):=ko9 1
 clear ke5 fe5 le5 ke8 fe8 le8 ko4 lo4 kb4 fb4 lb4 o9
 go_still_tail 7,(by kernel_rfl)
 change wpList _ _ _ _ _ W9.drew
 refine wpl_store _ rfl _ _ _ 167 rfl 9 176 Tryz.underlying167 Tryz.underlying9 mc _ rfl M9d.out (w5.heap.size,⟨⟨entX,yi,yo,ya,yc,yr⟩,0,none,0,[],t, -1⟩) rfl rfl ?_
 intro w10 hm10 hc10 hz10
 go_wp2_with fail
 go_ret
 have hput:putL (fun x:Nat×Cl=>x.2.o.id) xs (w5.heap.size,⟨⟨entX,yi,yo,ya,yc,yr⟩,0,none,0,[],t, -1⟩)=xs++[(w5.heap.size,⟨⟨entX,yi,yo,ya,yc,yr⟩,0,none,0,[],t, -1⟩)]:=by
  unfold putL
  rw[if_neg]
  simp only[List.any_eq_true,beq_iff_eq,not_exists,not_and]
  exact fun x hx=>HID.out x hx
 rw[hput]at hm10
 have z5:=C5.out.size
 simp only[World.size_setCell]at z5
 have hgood:goodCl ⟨⟨entX,yi,yo,ya,yc,yr⟩,0,none,0,[],t, -1⟩:=by
  obtain⟨q1,q2,q3,q4,q5⟩:=HG.out
  have hl:yr.length=args.length:=by have:=congrArg List.length P5.out;simpa using this
  refine⟨⟨q1,q2,q3,by simp only at q4⊢;omega,fun v hv=> ?_⟩,(show(Lit.int .i64 0).wf=true by decide),wf_small t0 t1,(show(Lit.int .i64 (-1)).wf=true by decide)⟩
  have hm:v.L∈yr.map Rr.L:=List.mem_map_of_mem hv
  rw[P5.out]at hm
  obtain⟨u,hu,e⟩:=List.mem_map.1 hm
  rw[←e]
  exact q5 u hu
 have hN:∀b,(⟨⟨entX,yi,yo,ya,yc,yr⟩,0,none,0,[],t, -1⟩:Cl).at' b→W2.heap.size≤b∧b<w5.heap.size:=by
  intro b hb
  rcases hb with ⟨ad,h1,h2,rfl⟩|⟨ad,h1,h2,rfl⟩|⟨v,hv,ad,h1,h2,rfl⟩
  ·have:=N1.out ad h1;simpa using this
  ·cases h1
  ·have:=N2.out v hv ad h1;simpa using this
 obtain⟨L',h9,t9⟩:=HN.out.addCall hst (C5.out.thenSame DC.out) (blk_alloc (heap_alloc_new w5 _)) (by simpa using z5) ⟨Y5.out.kept DC.out,⟨⟨rfl,fun k hk=>by simp at hk⟩,Nat.le_refl _,Nat.zero_le _,fun _=>rfl⟩⟩ hgood (fun b hb=>⟨fun hm=>by have:=(hN b hb).1;have:=HX.out.lt b hm;omega,fun e=>by have:=(hN b hb).2;omega⟩) G8.out R8.out (fun g hgg=>by
  simp only[Value.ownBlock,Option.some.injEq]at hgg
  subst hgg
  rcases O8.out with e|e
  ·exact .inl e
  ·exact .inr (by rw[e];exact Nat.le_refl _)) hm10 (by rw[hW9];exact(((Chg.refl [] W9).drew).mono (T:=[mc]) (by simp)).thenSame hc10) (by have:=TX.out.chg.size;simp only[World.size_setCell];omega)
 exact⟨rfl,L',_,_,_,h9,((TX.out.trans TN.out).trans t9),by simp[Cl.p,EOp.p,P5.out]⟩
theorem dsubmit_no (h:DrAt w B L d me mc [] rv sa sc st xs done now) (o:EOp) (ha:ArgsIn w o.aa o.ac o.args) (hg:o.good) (hz:chkZ o.p=0) (he:o.ent=entX) (hal:∀v∈o.args,v.L.length≤3518437208780) (han:o.args.length≤1048576) (hao:∀ad,o.aa=some ad→ad.block∉L) (hao2:∀v∈o.args,∀ad,v.a=some ad→ad.block∉L) (ht:TabW w) {t:Int} (t0:0≤t) (t1:t≤1073741824) (t2:now≤t) (hB:B≤w.heap.size):
 Calls Tryz.prog 17 #[.pointer (some ⟨d,0,none⟩), .agg (eoC o).toArray, .int .i64 t] w fun e w'=>e= .returned (.int .i64 0)∧∃L' eb rv' sa' sc' cb y,DrAt w' B L' d me mc [eb] rv' sa' sc' [nullC] [(cb,y)] 0 t∧Tr L w L' w'∧y.p=⟨o.p,0,[],t, -1⟩:=by
 have hnn:o.args.length≤9223372036854775806:=by omega
 have hno:=h.no rfl
 obtain⟨rfl,rfl,rfl,rfl⟩:=hno
 obtain⟨ent,id,op,aa,ac,args⟩:=o
 simp only at he hal han ha hao hao2
 subst he
 have C1:Hid (Chg [] w (w.alloc (.cells #[.string entX, .string id, .string op, .slice aa args.length ac] 67 (0,0)))):=LH ((Chg.refl _ _).alloc _)
 have MD:=LH (dmade_any (h.kept C1.out))
 have CK:=LH (echk_any ⟨entX,id,op,aa,ac,args⟩ (w.alloc (.cells #[.string entX, .string id, .string op, .slice aa args.length ac] 67 (0,0))) (ha.kept C1.out) hg (ht.kept C1.out))
 rw[hz]at CK
 simp only[eoC]at CK
 have H:=LH h
 have HA:=LH ha
 have LK:=LH (fun w' (hc:Chg [] w w')=>look_no (h.kept hc).cm (id:=id) (by simp))
 have LE:=LH (fun w' (hc:Chg [] w w')=>look_ent0 (h.kept hc).em)
 have hd1:=h.lt d (by rw[h.own];simp)
 have hdL:d∈L:=by rw[h.own];simp
 have HAL:=LH hal
 have HG:=LH hg
 have hoL:Hid (w.heap.size∉L):=LH (fun hm=>by have:=h.lt _ hm;omega)
 have HAN:=LH han
 have HA0:=LH (fun L2 w' (hc:Tr L w L2 w') (t:Int)=>(ha.keptA hc.chg hao hao2).keptA (S:=[d]) ((Chg.refl [d] w').setCell ⟨d,0,none⟩ (.int .i64 t) (fun _=>by simp)) (fun ad had hm=>hao ad had (by simp at hm;rw[hm];exact hdL)) (fun x hx ad had hm=>hao2 x hx ad had (by simp at hm;rw[hm];exact hdL)))
 clear h ha hz ht hal han hg hao hao2
 simp only[eoC]
 go_enter Tryz.func17,Tryz.ntmps17
 go_wp2_with (first
  |(go_at_call 52;(with_reducible refine Calls.mono MD.out ?_);rintro e w2 ⟨rfl,rfl⟩)
  |(go_at_call 55;(with_reducible refine Calls.mono CK.out ?_);rintro e w3 ⟨rfl,hc3⟩;have C3:=LH (C1.out.thenSame hc3);have kb3:=blk_cell ((H.out.kept (C1.out.thenSame hc3)).blk);have lb3:=lt_of_heap ((H.out.kept (C1.out.thenSame hc3)).blk);have ko3:=blk_cell (hc3.at (by simp) (heap_alloc_new w _));have lo3:=lt_of_heap (hc3.at (by simp) (heap_alloc_new w _));have O3:=LH (hc3.at (by simp) (heap_alloc_new w _));clear hc3)
  |fail)
 have r10:=LK.out w3 C3.out
 go_quiet (fail)
 go_wp2_with fail
 generalize hW:w3.drewN _=W
 have CW:=LH (show Chg [] w W by rw[←hW];exact C3.out.drewN _)
 have HW:=LH (H.out.kept CW.out)
 have ew:∀p,w3.cell? p=W.cell? p:=fun p=>by rw[←hW];rfl
 simp only[ew]at kb3 ko3
 rw[show w3.heap.size=W.heap.size by rw[←hW];rfl]at lb3 lo3
 have O4:Hid (W.heap[w.heap.size]? =some (.cells #[.string entX, .string id, .string op, .slice aa args.length ac] 67 (0,0))):=LH (by rw[←hW];exact O3.out)
 clear r10 hW ew O3
 have r16:=LE.out W CW.out
 go_quiet (fail)
 generalize hWA:W.drewN _=WA
 have CX:=LH (show Chg [] w WA by rw[←hWA];exact CW.out.drewN _)
 have HXA:=LH (H.out.kept CX.out)
 have O5A:WA.heap[w.heap.size]? =some (.cells #[.string entX, .string id, .string op, .slice aa args.length ac] 67 (0,0)):=by rw[←hWA];exact O4.out
 clear r16 hWA kb3 ko3 lo3 lb3 O4
 have r17:Sem.run Tryz.prog (Builtin.len_ #[167] 3 #[.map (some mc)]) WA=Result.ok (.int .i64 0) WA:=MapIs.len HXA.out.cm Tryz.underlying167 3
 have r18:Sem.run Tryz.prog (Builtin.len_ #[166] 3 #[.map (some me)]) WA=Result.ok (.int .i64 0) WA:=MapIs.len HXA.out.em Tryz.underlying166 3
 have kbA:=blk_cell HXA.out.blk
 have lbA:=lt_of_heap HXA.out.blk
 have NL:=LH (vnull_any WA)
 go_wp2_with (first
  |(go_at_call 57;(with_reducible refine Calls.mono NL.out ?_);rintro e wn ⟨na,nc,rfl,hni,hnf,hcn⟩;have NI:=LH hni;have NF:=LH hnf;have CN:=LH hcn;clear hni hnf hcn)
  |fail)
 generalize hWe:wn.alloc (.cells #[.slice na 1 nc, .slice none 0 0, .int .i64 0] 175 (0,0))=We
 have CE:=LH (show Chg [] WA We by rw[←hWe];exact CN.out.alloc _)
 have EE:=LH (show We.heap[wn.heap.size]? =some (.cells #[.slice na 1 nc, .slice none 0 0, .int .i64 0] 175 (0,0)) by rw[←hWe];exact heap_alloc_new _ _)
 have NIe:=LH (show InIs ceC 4 We na nc [nullC] by rw[←hWe];exact NI.out.kept ((Chg.refl _ _).alloc _))
 have HXe:=LH (HXA.out.kept CE.out)
 have OE:=LH (CE.out.at (by simp) O5A)
 have kde:We.cell? ⟨d,1,none⟩=some (.map (some me)):=blk_cell HXe.out.blk 1
 have lde:=lt_of_heap HXe.out.blk
 have koe:We.cell? ⟨w.heap.size,0,none⟩=some (.string entX):=blk_cell OE.out 0
 have loe:=lt_of_heap OE.out
 have lA:=lt_of_heap O5A
 have MEd:=LH (HXe.out.em.kept ((Chg.refl [] We).drew) (by simp))
 have zA:=CX.out.size
 have zN:=CN.out.size
 have hNA:=LH (fun z (hz:na=some z)=>(⟨NF.out z hz,in_lt NI.out hz (by simp)⟩:WA.heap.size≤z.block∧z.block<wn.heap.size))
 clear r17 r18 kbA lbA hWe O5A
 go_still_tail 7,(by kernel_rfl)
 change wpList _ _ _ _ _ We.drew
 refine wpl_store _ rfl _ _ _ 166 rfl 9 171 Tryz.underlying166 Tryz.underlying9 me _ rfl MEd.out wn.heap.size rfl rfl ?_
 intro W2 hmW hcW hzW
 have hput0:putL (fun _:Nat=>entX) [] wn.heap.size=[wn.heap.size]:=rfl
 rw[hput0]at hmW
 obtain⟨L2,hx2,tx2⟩:=HXA.out.newEnt (CE.out.thenSame (Chg.refl _ _).drew) (by omega) (show We.drew.heap[wn.heap.size]? =_ from EE.out) (NIe.out.kept (Chg.refl _ _).drew) (fun z hz=>⟨(hNA.out z hz).1,by have:=(hNA.out z hz).2;omega⟩) hmW hcW (by omega)
 have hmeo:w.heap.size∉[me]:=fun hm=>by simp at hm;exact hoL.out (by rw[H.out.own];simp[hm])
 have O5:W2.heap[w.heap.size]? =some (.cells #[.string entX, .string id, .string op, .slice aa args.length ac] 67 (0,0)):=hcW.at hmeo (show We.drew.heap[w.heap.size]? =_ from OE.out)
 have TX:=LH (((Tr.refl L w).same CX.out).trans tx2)
 have hoL2:Hid (w.heap.size∉L2):=LH (fun hm=>by
  rcases tx2.own _ hm with e|e
  ·exact hoL.out e
  ·omega)
 have HX:=LH hx2
 obtain⟨xs,hxs⟩:∃xs:List (Nat×Cl),xs=[]:=⟨[],rfl⟩
 obtain⟨ra,hra⟩:∃ra:Option Addr,ra=none:=⟨none,rfl⟩
 obtain⟨rc,hrc⟩:∃rc:Nat,rc=0:=⟨0,rfl⟩
 have HX:Hid (DrAt W2 B L2 d me mc [wn.heap.size] (.slice ra xs.length rc) na nc [nullC] xs 0 now):=LH (by subst hxs;subst hra;subst hrc;exact hx2)
 have HID:Hid (∀x∈xs,x.2.o.id≠id):=LH (by subst hxs;simp)
 have h8:xs.length<8:=by subst hxs;simp
 have hst:0<[nullC].length:=by simp
 have HXS:=LH hxs
 obtain⟨eb,heb⟩:∃eb,eb=wn.heap.size:=⟨_,rfl⟩
 rw[←heb]at HX⊢
 rename_i HX0
 clear HX0 hxs hra hrc hx2 tx2 kde lde koe loe heb
 have kb4:=blk_cell HX.out.blk
 have fb4:=blk_free HX.out.blk
 have lb4:=lt_of_heap HX.out.blk
 have ko4:=blk_cell O5
 have lo4:=lt_of_heap O5
 have O5:=LH O5
 rename_i O50
 clear O50
 have hdo:d≠w.heap.size:=by omega
 have hdo2:w.heap.size≠d:=by omega
 obtain⟨HN,TN⟩:=HX.out.setNow t
 have HN:=LH HN
 have TN:=LH TN
 have CL:=LH (eclone_any ⟨entX,id,op,aa,ac,args⟩ (W2.setCell ⟨d,0,none⟩ (.int .i64 t)) (HA0.out _ _ TX.out t) HAL.out HAN.out)
 simp only[eoC]at CL
 rename_i HN0 TN0
 clear HN0 TN0
 have hxl:xs.length≤8:=by omega
 have EN:Hid (eb∉(Value.slice ra xs.length rc).ownBlock.toList∧d∉(Value.slice ra xs.length rc).ownBlock.toList∧eb≠d∧mc≠d∧mc≠eb∧mc∉(Value.slice ra xs.length rc).ownBlock.toList):=LH (by
  have nd:=HX.out.nd
  rw[HX.out.own]at nd
  simp only[List.cons_append,List.nil_append,List.nodup_cons,List.mem_cons,List.mem_append,not_or]at nd
  exact⟨nd.2.2.2.1.1,nd.1.2.2.2.1,fun e=>nd.1.2.2.1 e.symm,fun e=>nd.1.2.1 e.symm,nd.2.2.1.1,nd.2.2.1.2.1⟩)
 go_wp2_with (first
  |(go_at_call 58;(with_reducible refine Calls.mono CL.out ?_);rintro e w5 ⟨y,rfl,hp,hy,hb1,hb2,hc5⟩;obtain⟨ye,yi,yo,ya,yc,yr⟩:=y;simp only[EOp.p,POp.mk.injEq]at hp hy hb1 hb2;obtain⟨rfl,rfl,rfl,hpa⟩:=hp;have P5:=LH hpa;have Y5:=LH hy;have N1:=LH hb1;have N2:=LH hb2;have C5:=LH hc5;have H5:=LH (HN.out.kept hc5);have ke5:=blk_cell ((HN.out.kept hc5).en eb (by simp));have fe5:=blk_free ((HN.out.kept hc5).en eb (by simp));have le5:=lt_of_heap ((HN.out.kept hc5).en eb (by simp));clear hpa hy hb1 hb2 hc5)
  |(at_builtin;go_loud (refine wpl_appendsB rfl _ _ 173 rfl B 176 _ 8 Tryz.underlying173 pcInfo rfl (by decide) pcC_len pcC_one (.slice ra xs.length rc) xs rfl (RowOf.kept H5.out.row (((Chg.refl [] w5).alloc (clO ⟨⟨entX,yi,yo,ya,yc,yr⟩,0,none,0,[],t, -1⟩)).alloc (.cells #[.pointer (some ⟨w5.heap.size,0,none⟩)] 176)) (by simp)) _ 1 1 [(w5.heap.size,⟨⟨entX,yi,yo,ya,yc,yr⟩,0,none,0,[],t, -1⟩)] _ _ _ rfl (al2 _ _ _) rfl rfl (by omega) (by unfold maxLen;omega) (by omega) (by have:=C5.out.size;have:=TX.out.chg.size;simp only[World.size_alloc,World.size_setCell]at*;omega) ?_;intro g8 c8 w8 hr8 hg8 ho8 hl8;have R8:=LH hr8;have G8:=LH (Chg.ofRow hg8);have O8:=LH ho8;have DC:=LH (show Chg [] w5 ((w5.alloc (clO ⟨⟨entX,yi,yo,ya,yc,yr⟩,0,none,0,[],t, -1⟩)).alloc (.cells #[.pointer (some ⟨w5.heap.size,0,none⟩)] 176))from((Chg.refl [] w5).alloc _).alloc _);have E8:=LH ((Chg.ofRow hg8).at EN.out.1 (DC.out.at (by simp) (H5.out.en eb (by simp))));have ke8:=blk_cell E8.out;have fe8:=blk_free E8.out;have le8:=lt_of_heap E8.out;clear hr8 hg8 ho8))
  |fail)
 generalize hW9:w8.setCell ⟨eb,1,none⟩ (.slice (some ⟨g8,0,none⟩) (xs.length+1) c8)=W9
 have ebL:eb∈L2:=by rw[HX.out.own];simp
 have hne:eb≠w.heap.size:=fun e=>hoL2.out (e▸ebL)
 have hrvL:w.heap.size∉(Value.slice ra xs.length rc).ownBlock.toList:=fun hm=>hoL2.out (by rw[HX.out.own];simp only[List.mem_cons,List.mem_append];exact .inr (.inr (.inr (.inr (.inl hm)))))
 have c9:Chg [eb] w8 W9:=by rw[←hW9];exact(Chg.refl _ _).setCell _ _ (fun _=>by simp)
 have kd9:=blk_cell (c9.at (by simpa using fun e=>EN.out.2.2.1 e.symm) (G8.out.at EN.out.2.1 (DC.out.at (by simp) H5.out.blk)))
 have ld9:=lt_of_heap (c9.at (by simpa using fun e=>EN.out.2.2.1 e.symm) (G8.out.at EN.out.2.1 (DC.out.at (by simp) H5.out.blk)))
 have o9:=c9.at (by simpa using fun e=>hne e.symm) (G8.out.at hrvL (DC.out.at (by simp) (C5.out.at (by simp) (((Chg.refl [d] W2).setCell ⟨d,0,none⟩ (.int .i64 t) (fun _=>by simp)).at (by simpa using hdo2) O5.out))))
 have ko9:=blk_cell o9
 have lo9:=lt_of_heap o9
 have M9:=LH (((H5.out.cm.kept DC.out (by simp)).kept G8.out EN.out.2.2.2.2.2).kept c9 (by simpa using EN.out.2.2.2.2.1))
 have M9d:=LH (M9.out.kept ((Chg.refl [] W9).drew) (by simp))
 have kd9:W9.cell? ⟨d,2,none⟩=some (.map (some mc)):=kd9 2
 have ko9:W9.cell? ⟨w.heap.size,1,none⟩=some (.string yi):=ko9 1
 clear ke5 fe5 le5 ke8 fe8 le8 ko4 lo4 kb4 fb4 lb4 o9
 go_still_tail 7,(by kernel_rfl)
 change wpList _ _ _ _ _ W9.drew
 refine wpl_store _ rfl _ _ _ 167 rfl 9 176 Tryz.underlying167 Tryz.underlying9 mc _ rfl M9d.out (w5.heap.size,⟨⟨entX,yi,yo,ya,yc,yr⟩,0,none,0,[],t, -1⟩) rfl rfl ?_
 intro w10 hm10 hc10 hz10
 go_wp2_with fail
 go_ret
 have hput:putL (fun x:Nat×Cl=>x.2.o.id) xs (w5.heap.size,⟨⟨entX,yi,yo,ya,yc,yr⟩,0,none,0,[],t, -1⟩)=xs++[(w5.heap.size,⟨⟨entX,yi,yo,ya,yc,yr⟩,0,none,0,[],t, -1⟩)]:=by
  unfold putL
  rw[if_neg]
  simp only[List.any_eq_true,beq_iff_eq,not_exists,not_and]
  exact fun x hx=>HID.out x hx
 rw[hput]at hm10
 have z5:=C5.out.size
 simp only[World.size_setCell]at z5
 have hgood:goodCl ⟨⟨entX,yi,yo,ya,yc,yr⟩,0,none,0,[],t, -1⟩:=by
  obtain⟨q1,q2,q3,q4,q5⟩:=HG.out
  have hl:yr.length=args.length:=by have:=congrArg List.length P5.out;simpa using this
  refine⟨⟨q1,q2,q3,by simp only at q4⊢;omega,fun v hv=> ?_⟩,(show(Lit.int .i64 0).wf=true by decide),wf_small t0 t1,(show(Lit.int .i64 (-1)).wf=true by decide)⟩
  have hm:v.L∈yr.map Rr.L:=List.mem_map_of_mem hv
  rw[P5.out]at hm
  obtain⟨u,hu,e⟩:=List.mem_map.1 hm
  rw[←e]
  exact q5 u hu
 have hN:∀b,(⟨⟨entX,yi,yo,ya,yc,yr⟩,0,none,0,[],t, -1⟩:Cl).at' b→W2.heap.size≤b∧b<w5.heap.size:=by
  intro b hb
  rcases hb with ⟨ad,h1,h2,rfl⟩|⟨ad,h1,h2,rfl⟩|⟨v,hv,ad,h1,h2,rfl⟩
  ·have:=N1.out ad h1;simpa using this
  ·cases h1
  ·have:=N2.out v hv ad h1;simpa using this
 obtain⟨L',h9,t9⟩:=HN.out.addCall hst (C5.out.thenSame DC.out) (blk_alloc (heap_alloc_new w5 _)) (by simpa using z5) ⟨Y5.out.kept DC.out,⟨⟨rfl,fun k hk=>by simp at hk⟩,Nat.le_refl _,Nat.zero_le _,fun _=>rfl⟩⟩ hgood (fun b hb=>⟨fun hm=>by have:=(hN b hb).1;have:=HX.out.lt b hm;omega,fun e=>by have:=(hN b hb).2;omega⟩) G8.out R8.out (fun g hgg=>by
  simp only[Value.ownBlock,Option.some.injEq]at hgg
  subst hgg
  rcases O8.out with e|e
  ·exact .inl e
  ·exact .inr (by rw[e];exact Nat.le_refl _)) hm10 (by rw[hW9];exact(((Chg.refl [] W9).drew).mono (T:=[mc]) (by simp)).thenSame hc10) (by have:=TX.out.chg.size;simp only[World.size_setCell];omega)
 exact⟨rfl,L',_,_,_,_,_,_,by have e9:=HXS.out;rw[e9]at h9;exact h9,((TX.out.trans TN.out).trans t9),by simp[Cl.p,EOp.p,P5.out]⟩
end
section
open Go.RowKit
variable {w w':World} {B d done:Nat} {L:List Nat} {now t:Int} {calls:List PCl}
theorem dsubmit_any (h:DrIs w B L d calls done now) (hk:TlOk calls done t) (o:EOp) (ha:ArgsIn w o.aa o.ac o.args) (hg:o.good) (hz:chkZ o.p=0) (he:o.ent=entX) (hi:o.id=nmT calls.length) (h8:calls.length<8) (hal:∀v∈o.args,v.L.length≤3518437208780) (han:o.args.length≤1048576) (hao:∀ad,o.aa=some ad→ad.block∉L) (hao2:∀v∈o.args,∀ad,v.a=some ad→ad.block∉L) (ht:TabW w) (t0:0≤t) (t1:t≤1073741824) (t2:now≤t) (hB:B≤w.heap.size):
 Calls Tryz.prog 17 #[.pointer (some ⟨d,0,none⟩), .agg (eoC o).toArray, .int .i64 t] w fun e w'=>e= .returned (.int .i64 0)∧∃L',DrIs w' B L' d (calls++[⟨o.p,0,[],t, -1⟩]) done t∧Tr L w L' w':=by
 obtain⟨me,mc,E,rv,sa,sc,xs,h,hx⟩:=h
 have hl:xs.length=calls.length:=by rw[←hx];simp
 have hid:∀x∈xs,x.2.o.id≠o.id:=by
  intro x hxm e
  obtain⟨k,hk2,rfl⟩:=List.getElem_of_mem hxm
  have e1:calls[k]? =some (xs[k].2.p):=by rw[←hx];simp[hk2]
  have:=(hk.ops k _ e1).2.1
  have e2:(xs[k].2.p).o.id=xs[k].2.o.id:=rfl
  rw[e2,e,hi]at this
  have:=nmT_inj h8 (by omega) this
  omega
 match E,h with
 |[],h=>
  obtain⟨q1,q2,q3,q4⟩:=h.no rfl
  refine(dsubmit_no h o ha hg hz he hal han hao hao2 ht t0 t1 t2 hB).mono ?_
  rintro e w' ⟨rfl,L',eb,rv',sa',sc',cb,y,h9,t9,hy⟩
  refine⟨rfl,L',⟨me,mc,[eb],rv',sa',sc',[(cb,y)], ?_, ?_⟩,t9⟩
  ·subst q3
   exact h9
  ·subst q1
   rw[←hx]
   simp[hy]
 |[eb],h=>
  have hst:0<(stO (calls.map PCl.o) done).length:=by
   have:=(check_zero (stO_check hk.chk done (by have:=hk.dn;simp;omega))).1
   exact List.length_pos_iff.2 this
  refine(dsubmit_yes h hst o ha hg hz he hid (by omega) hal han hao hao2 ht t0 t1 t2 hB).mono ?_
  rintro e w' ⟨rfl,L',rv',cb,y,h9,t9,hy⟩
  refine⟨rfl,L',⟨me,mc,[eb],rv',sa,sc,xs++[(cb,y)], ?_, ?_⟩,t9⟩
  ·have e9:stO ((calls++([⟨o.p,0,[],t, -1⟩]:List PCl)).map PCl.o) done=stO (calls.map PCl.o) done:=by
    rw[List.map_append,List.map_cons,List.map_nil,stO_app (by have:=hk.dn;simp;omega)]
   rw[e9]
   exact h9
  ·rw[List.map_append,hx]
   simp[hy]
 |a::b::l,h=>
  exfalso
  have:=h.em.nodup
  simp at this
theorem cv_name (w:World) (i:Nat) (x:Int) (hx:strOfNums [101,x,48]=nmT i):(convert 170 9 (.slice (some ⟨w.heap.size,0,none⟩) 3 3)).run Tryz.prog (w.alloc (.cells #[.int .u8 101, .int .u8 x, .int .u8 48] 5))= .ok (.string (nmT i)) (w.alloc (.cells #[.int .u8 101, .int .u8 x, .int .u8 48] 5)):=by
 rw[←hx]
 refine run_convert_bytes_arg _ 170 5 Tryz.underlying170 Tryz.underlying5 w.heap.size 0 3 3 [101,x,48] rfl (fun j hj=> ?_) 9 Tryz.underlying9
 rw[Nat.zero_add,blk_cell (heap_alloc_new w _)]
 have:j=0∨j=1∨j=2:=by omega
 rcases this with rfl|rfl|rfl<;>rfl
theorem tname_any (i:Nat) (hi:i≤8) (w:World):Calls Tryz.prog 15 #[.int .i64 i] w fun e w'=>e= .returned (.string (nmT i))∧Chg [] w w':=by
 have h:i=0∨i=1∨i=2∨i=3∨i=4∨i=5∨i=6∨i=7∨i=8:=by omega
 rcases h with rfl|rfl|rfl|rfl|rfl|rfl|rfl|rfl|rfl
 ·have hcv:=cv_name w 0 65 rfl
  show Calls Tryz.prog 15 #[.int .i64 0] w _
  generalize nmT 0=s at*
  go_enter Tryz.func15,Tryz.ntmps15
  go_wp2_with fail
  go_ret
  exact⟨rfl,(Chg.refl _ _).alloc _⟩
 ·have hcv:=cv_name w 1 66 rfl
  show Calls Tryz.prog 15 #[.int .i64 1] w _
  generalize nmT 1=s at*
  go_enter Tryz.func15,Tryz.ntmps15
  go_wp2_with fail
  go_ret
  exact⟨rfl,(Chg.refl _ _).alloc _⟩
 ·have hcv:=cv_name w 2 67 rfl
  show Calls Tryz.prog 15 #[.int .i64 2] w _
  generalize nmT 2=s at*
  go_enter Tryz.func15,Tryz.ntmps15
  go_wp2_with fail
  go_ret
  exact⟨rfl,(Chg.refl _ _).alloc _⟩
 ·have hcv:=cv_name w 3 68 rfl
  show Calls Tryz.prog 15 #[.int .i64 3] w _
  generalize nmT 3=s at*
  go_enter Tryz.func15,Tryz.ntmps15
  go_wp2_with fail
  go_ret
  exact⟨rfl,(Chg.refl _ _).alloc _⟩
 ·have hcv:=cv_name w 4 69 rfl
  show Calls Tryz.prog 15 #[.int .i64 4] w _
  generalize nmT 4=s at*
  go_enter Tryz.func15,Tryz.ntmps15
  go_wp2_with fail
  go_ret
  exact⟨rfl,(Chg.refl _ _).alloc _⟩
 ·have hcv:=cv_name w 5 70 rfl
  show Calls Tryz.prog 15 #[.int .i64 5] w _
  generalize nmT 5=s at*
  go_enter Tryz.func15,Tryz.ntmps15
  go_wp2_with fail
  go_ret
  exact⟨rfl,(Chg.refl _ _).alloc _⟩
 ·have hcv:=cv_name w 6 71 rfl
  show Calls Tryz.prog 15 #[.int .i64 6] w _
  generalize nmT 6=s at*
  go_enter Tryz.func15,Tryz.ntmps15
  go_wp2_with fail
  go_ret
  exact⟨rfl,(Chg.refl _ _).alloc _⟩
 ·have hcv:=cv_name w 7 72 rfl
  show Calls Tryz.prog 15 #[.int .i64 7] w _
  generalize nmT 7=s at*
  go_enter Tryz.func15,Tryz.ntmps15
  go_wp2_with fail
  go_ret
  exact⟨rfl,(Chg.refl _ _).alloc _⟩
 ·have hcv:=cv_name w 8 73 rfl
  show Calls Tryz.prog 15 #[.int .i64 8] w _
  generalize nmT 8=s at*
  go_enter Tryz.func15,Tryz.ntmps15
  go_wp2_with fail
  go_ret
  exact⟨rfl,(Chg.refl _ _).alloc _⟩
end
section
open Go.RowKit
variable {w w0 w1 w2 w3 w4 w':World} {B d me mc eb cb:Nat} {L L' E S:List Nat} {rv rv':Value} {sa na va:Option Addr} {sc nc vc:Nat} {st st' ans:List Ce} {xs:List (Nat×Cl)} {x y:Cl} {done:Nat} {now t err:Int}
theorem map_set_same {α β:Type} (f:α→β):∀(l:List α) (k:Nat) (a b:α),l[k]? =some a→f b=f a→(l.set k b).map f=l.map f
 |[],k,_,_,h,_=>by simp at h
 |z::l,0,a,b,h,e=>by simp at h;subst h;simp[e]
 |z::l,k+1,a,b,h,e=>by simp at h;simp[map_set_same f l k a b h e]
def pfC (x:Cl) (err:Int) (va:Option Addr) (vc:Nat) (ans:List Ce) (t:Int):Cl:=⟨x.o,err,va,vc,ans,x.from_,t⟩
theorem mem_set_of {α:Type} {l:List α} {k:Nat} {b z:α} (h:z∈l.set k b):z=b∨∃i,i≠k∧l[i]? =some z:=by
 obtain⟨i,hi,e⟩:=List.getElem_of_mem h
 rw[List.getElem_set]at e
 split at e
 ·exact .inl e.symm
 ·rename_i hne
  refine .inr ⟨i,fun e2=>hne e2.symm, ?_⟩
  rw[←e]
  exact List.getElem?_eq_getElem _
theorem DrAt.performed (h:DrAt w0 B L d me mc [eb] rv sa sc st xs done now) (hk:xs[done]? =some (cb,x)) (hc:Chg [] w0 w1) (hS:Chg [eb,d,cb] w1 w2)
 (he:w2.heap[eb]? =some (.cells #[.slice na st'.length nc,rv, .int .i64 ((done+1:Nat):Int)] 175 (0,0))) (hd:w2.heap[d]? =some (.cells #[.int .i64 t, .map (some me), .map (some mc)] 169 (0,0))) (hcb:w2.heap[cb]? =some (clO (pfC x err va vc ans t)))
 (hn:InIs ceC 4 w1 na nc st') (hnf:∀z,na=some z→w0.heap.size≤z.block) (hv:InIs ceC 4 w1 va vc ans) (hvf:∀z,va=some z→w0.heap.size≤z.block) (hg:goodCl (pfC x err va vc ans t)):
 DrAt w2 B L d me mc [eb] rv na nc st' (xs.set done (cb,pfC x err va vc ans t)) (done+1) t∧Tr L w0 L w2:=by
 have eL:=h.own
 have nd:=h.nd
 rw[eL]at nd
 have hlt:=h.lt
 have hx:(cb,x)∈xs:=List.mem_of_getElem? hk
 have e1:(xs.set done (cb,pfC x err va vc ans t)).map Prod.fst=xs.map Prod.fst:=map_set_same _ xs done (cb,x) (cb,pfC x err va vc ans t) hk rfl
 have hSL:∀z∈[eb,d,cb],z∈L:=fun z hz=>by
  rw[eL]
  have hcm:cb∈xs.map Prod.fst:=List.mem_map_of_mem hx
  simp only[List.mem_cons,List.mem_append,List.not_mem_nil,or_false]at hz⊢
  rcases hz with e|e|e
  ·exact .inr (.inr (.inr (.inl e)))
  ·exact .inl e
  ·exact .inr (.inr (.inr (.inr (.inr (e▸hcm)))))
 have h1:=h.kept hc
 have hcm:cb∈xs.map Prod.fst:=List.mem_map_of_mem hx
 simp only[List.cons_append,List.nil_append,List.nodup_cons,List.mem_cons,List.mem_append,List.nodup_append,not_or]at nd
 obtain⟨⟨d1,d2,d3,d4,d5⟩,⟨m1,m2,m3,m4⟩,⟨c1,c2,c3⟩,⟨f1,f2⟩,n1,n2,n3⟩:=nd
 have far:∀z,z∉L→z∉[eb,d,cb]:=fun z hz hs=>hz (hSL z hs)
 have hme:me∉[eb,d,cb]:=by
  simp only[List.mem_cons,List.not_mem_nil,or_false,not_or]
  exact⟨m2,fun e=>d1 e.symm,fun e=>m4 (e▸hcm)⟩
 have hmc:mc∉[eb,d,cb]:=by
  simp only[List.mem_cons,List.not_mem_nil,or_false,not_or]
  exact⟨c1,fun e=>d2 e.symm,fun e=>c3 (e▸hcm)⟩
 have hrv:∀g,rv.ownBlock=some g→g∉[eb,d,cb]:=fun g hg hs=>by
  have hg':g∈rv.ownBlock.toList:=by simp[hg]
  simp only[List.mem_cons,List.not_mem_nil,or_false]at hs
  rcases hs with e|e|e
  ·exact f1 (e▸hg')
  ·exact d4 (e▸hg')
  ·exact n3 g hg' cb hcm e
 have hcm2:MapIs (fun x:Nat×Cl=>x.2.o.id) (fun x=>ptV x.1) w2 mc (xs.set done (cb,pfC x err va vc ans t)):=by
  obtain⟨es,ck,hb,q1,q2,q3,q4⟩:=h1.cm.kept hS hmc
  refine⟨es,ck,hb, ?_,q2,q3, ?_⟩
  ·rw[q1]
   exact(map_set_same _ xs done (cb,x) (cb,pfC x err va vc ans t) hk rfl).symm
  ·rw[map_set_same (fun x:Nat×Cl=>x.2.o.id) xs done (cb,x) (cb,pfC x err va vc ans t) hk rfl]
   exact q4
 have hrow:RowOf pcC 1 w2 B 176 rv (xs.set done (cb,pfC x err va vc ans t)):=by
  have hr:=h1.row.kept hS hrv
  have e2:(xs.set done (cb,pfC x err va vc ans t)).flatMap pcC=xs.flatMap pcC:=by
   rw[List.flatMap_def,List.flatMap_def,map_set_same pcC xs done (cb,x) (cb,pfC x err va vc ans t) hk rfl]
  unfold RowOf at hr⊢
  rw[List.length_set,e2]
  exact hr
 have hxne:∀(i:Nat) z,i≠done→xs[i]? =some z→z.1≠cb:=fun i z hi hz e=>by
  have a1:(xs.map Prod.fst)[i]? =some cb:=by simp[hz,e]
  have a2:(xs.map Prod.fst)[done]? =some cb:=by simp[hk]
  exact hi ((List.getElem?_inj (List.getElem?_eq_some_iff.1 a1).1 n2).1 (a1.trans a2.symm))
 refine⟨⟨hd,h1.em.kept hS hme,hcm2,(fun e he'=>by simp at he';subst he';exact he),(fun he'=>by cases he'),hrow,fun z hz=> ?_,fun z hz=> ?_,fun _=>⟨hn.keptN hS (fun z hz=>far _ (fun hm=>by have:=hlt _ hm;have:=hnf z hz;omega)),fun z hz hm=>by have:=hlt _ hm;have:=hnf z hz;omega⟩,by rw[e1];exact eL,h.nd,h.lo⟩,⟨(hc.mono (T:=L) (by simp)).then hS (fun z hz _=>hSL z hz),fun z hz=> .inl hz⟩⟩
 ·rcases mem_set_of hz with rfl|⟨i,hi,hz2⟩
  ·exact hcb
  ·have hzm:=List.mem_of_getElem? hz2
   have hzf:z.1∈xs.map Prod.fst:=List.mem_map_of_mem hzm
   refine hS.at ?_ (h1.cb z hzm)
   simp only[List.mem_cons,List.not_mem_nil,or_false,not_or]
   exact⟨fun e=>f2 (e▸hzf),fun e=>d5 (e▸hzf),hxne i z hi hz2⟩
 ·rcases mem_set_of hz with rfl|⟨i,hi,hz2⟩
  ·obtain⟨q1,q2,q3⟩:=h1.ci _ hx
   refine⟨⟨⟨?_, ?_⟩,hv.keptN hS (fun z hz=>far _ (fun hm=>by have:=hlt _ hm;have:=hvf z hz;omega))⟩,hg,fun b hb hm=> ?_⟩
   ·exact(q1.keptT hS (fun b hb=>far b (q3 b hb))).1.1
   ·exact(q1.keptT hS (fun b hb=>far b (q3 b hb))).1.2
   ·rcases hb with ⟨ad,h1,h2,rfl⟩|⟨ad,h1,h2,rfl⟩|⟨dd,hd,ad,h1,h2,rfl⟩
    ·exact q3 _ (.inl ⟨ad,h1,h2,rfl⟩) hm
    ·have:=hvf ad h1;have:=hlt _ hm;omega
    ·exact q3 _ (.inr (.inr ⟨dd,hd,ad,h1,h2,rfl⟩)) hm
  ·obtain⟨q1,q2,q3⟩:=h1.ci z (List.mem_of_getElem? hz2)
   exact⟨q1.keptT hS (fun b hb=>far b (q3 b hb)),q2,q3⟩
end
section
open Go.RowKit
variable {w w':World} {B d me mc eb:Nat} {L E:List Nat} {rv:Value} {sa:Option Addr} {sc:Nat} {st:List Ce} {xs:List (Nat×Cl)} {done:Nat} {now t:Int}
theorem dstep_none (h:DrAt w B L d me mc [] rv sa sc st xs done now) (t1:t≤1073741824) (t2:now≤t):
 Calls Tryz.prog 16 #[.pointer (some ⟨d,0,none⟩), .string entX, .int .i64 t] w fun e w'=>(∃v,e= .returned v)∧Chg [] w w':=by
 have C1:Hid (Chg [] w (w.alloc clZ)):=LH ((Chg.refl _ _).alloc _)
 have H:=LH (h.kept C1.out)
 have MD:=LH (dmade_any H.out)
 have B1:=heap_alloc_new w clZ
 unfold clZ at B1 C1 H MD
 have kb:=blk_cell H.out.blk
 have lb:=lt_of_heap H.out.blk
 have k1:=blk_cell B1
 have f1:=blk_free B1
 have B1:=LH B1
 rename_i B10
 clear B10 h
 obtain⟨W,hW⟩:∃W,W=w.alloc (.cells #[.string ⟨#[]⟩, .string ⟨#[]⟩, .string ⟨#[]⟩, .slice none 0 0, .int .i64 0, .slice none 0 0, .int .i64 0, .int .i64 0] 71 (0,0)):=⟨_,rfl⟩
 rw[←hW]at H kb lb k1 f1 B1 C1 MD
 have r3:Sem.run Tryz.prog (Instr.lookup 166 (.map (some me)) (.string entX) true) W=Result.ok (.tuple #[.pointer none, .bool false]) W:=(MapIs.lookup H.out.em Tryz.underlying166 Tryz.underlying9 (zeroEnt _) entX true).trans (by simp[lookL])
 have lx:=lt_of_heap B1.out
 have HW:=LH hW
 clear hW
 go_enter Tryz.func16,Tryz.ntmps16
 go_upto_region 1 with fail
 rw[←HW.out]
 go_wp2_with (first
  |(go_at_call 52;(with_reducible refine Calls.mono MD.out ?_);rintro e w2 ⟨rfl,rfl⟩)
  |fail)
 go_quiet (fail)
 generalize hW2:w2.drewN _=W2
 have CX:=LH (show Chg [] w W2 by rw[←hW2];exact C1.out.drewN _)
 have BX:Hid (W2.heap[w.heap.size]? =some (.cells #[.string ⟨#[]⟩, .string ⟨#[]⟩, .string ⟨#[]⟩, .slice none 0 0, .int .i64 0, .slice none 0 0, .int .i64 0, .int .i64 0] 71 (0,0))):=LH (by rw[←hW2];exact B1.out)
 clear hW2 B1 C1 k1 f1 kb lb r3
 have k1:=blk_cell BX.out
 have f1:=blk_free BX.out
 go_wp2_with fail
 have o3:=st8_at (.string ⟨#[]⟩) (.string ⟨#[]⟩) (.string ⟨#[]⟩) (.slice none 0 0) (.int .i64 0) (.slice none 0 0) (.int .i64 0) (.int .i64 0) BX.out
 have r1:=blk_cell o3
 exact bodyPost_ret (v:= .tuple #[.agg #[.string ⟨#[]⟩, .string ⟨#[]⟩, .string ⟨#[]⟩, .slice none 0 0, .int .i64 0, .slice none 0 0, .int .i64 0, .int .i64 0], .bool false]) (by simp[results,Tryz.results16,go_sem,r1]) rfl ⟨⟨_,rfl⟩,(CX.out.then (st8_self (b:=w.heap.size) (.string ⟨#[]⟩) (.string ⟨#[]⟩) (.string ⟨#[]⟩) (.slice none 0 0) (.int .i64 0) (.slice none 0 0) (.int .i64 0) (.int .i64 0)) (fun z hz hl=>by simp at hz;omega))⟩
theorem dstep_idle (h:DrAt w B L d me mc [eb] rv sa sc st xs xs.length now) (h8:xs.length≤8) (t1:t≤1073741824) (t2:now≤t):
 Calls Tryz.prog 16 #[.pointer (some ⟨d,0,none⟩), .string entX, .int .i64 t] w fun e w'=>(∃v,e= .returned v)∧Chg [] w w':=by
 obtain⟨ra,rc,rfl⟩:=RowOf.shape h.row
 have C1:Hid (Chg [] w (w.alloc clZ)):=LH ((Chg.refl _ _).alloc _)
 have H:=LH (h.kept C1.out)
 have MD:=LH (dmade_any H.out)
 have B1:=heap_alloc_new w clZ
 unfold clZ at B1 C1 H MD
 have kb:=blk_cell H.out.blk
 have lb:=lt_of_heap H.out.blk
 have ke:=blk_cell (H.out.en eb (by simp))
 have le:=lt_of_heap (H.out.en eb (by simp))
 have k1:=blk_cell B1
 have f1:=blk_free B1
 have B1:=LH B1
 rename_i B10
 clear B10 h
 obtain⟨W,hW⟩:∃W,W=w.alloc (.cells #[.string ⟨#[]⟩, .string ⟨#[]⟩, .string ⟨#[]⟩, .slice none 0 0, .int .i64 0, .slice none 0 0, .int .i64 0, .int .i64 0] 71 (0,0)):=⟨_,rfl⟩
 rw[←hW]at H kb lb ke le k1 f1 B1 C1 MD
 have r3:Sem.run Tryz.prog (Instr.lookup 166 (.map (some me)) (.string entX) true) W=Result.ok (.tuple #[.pointer (some ⟨eb,0,none⟩), .bool true]) W:=(MapIs.lookup H.out.em Tryz.underlying166 Tryz.underlying9 (zeroEnt _) entX true).trans (by simp[lookL,ptV])
 have hbeq:((xs.length:Int)==(xs.length:Int))=true:=beq_self_eq_true _
 have lx:=lt_of_heap B1.out
 have HW:=LH hW
 clear hW
 go_enter Tryz.func16,Tryz.ntmps16
 go_upto_region 1 with fail
 rw[←HW.out]
 go_wp2_with (first
  |(go_at_call 52;(with_reducible refine Calls.mono MD.out ?_);rintro e w2 ⟨rfl,rfl⟩)
  |fail)
 go_quiet (fail)
 generalize hW2:w2.drewN _=W2
 have CX:=LH (show Chg [] w W2 by rw[←hW2];exact C1.out.drewN _)
 have BX:Hid (W2.heap[w.heap.size]? =some (.cells #[.string ⟨#[]⟩, .string ⟨#[]⟩, .string ⟨#[]⟩, .slice none 0 0, .int .i64 0, .slice none 0 0, .int .i64 0, .int .i64 0] 71 (0,0))):=LH (by rw[←hW2];exact B1.out)
 clear hW2 B1 C1 k1 f1 kb lb ke le r3
 have k1:=blk_cell BX.out
 have f1:=blk_free BX.out
 go_wp2_with fail
 have o3:=st8_at (.string ⟨#[]⟩) (.string ⟨#[]⟩) (.string ⟨#[]⟩) (.slice none 0 0) (.int .i64 0) (.slice none 0 0) (.int .i64 0) (.int .i64 0) BX.out
 have r1:=blk_cell o3
 exact bodyPost_ret (v:= .tuple #[.agg #[.string ⟨#[]⟩, .string ⟨#[]⟩, .string ⟨#[]⟩, .slice none 0 0, .int .i64 0, .slice none 0 0, .int .i64 0, .int .i64 0], .bool false]) (by simp[results,Tryz.results16,go_sem,r1]) rfl ⟨⟨_,rfl⟩,(CX.out.then (st8_self (b:=w.heap.size) (.string ⟨#[]⟩) (.string ⟨#[]⟩) (.string ⟨#[]⟩) (.slice none 0 0) (.int .i64 0) (.slice none 0 0) (.int .i64 0) (.int .i64 0)) (fun z hz hl=>by simp at hz;omega))⟩
end
end Go.Proofs.YtmofknmeljdodaaGreatDoor
