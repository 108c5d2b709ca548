/- Layer 13: contracts: machine.Run, of machines without requests. No condition but those that the statements name. -/
import Derived.Test.YtmofknmeljdodaaGreatDoorZS01
import Derived.Test.YtmofknmeljdodaaGreatDoorZS18
import Derived.Test.YtmofknmeljdodaaGreatDoorZS06
set_option maxHeartbeats 100000000
set_option maxRecDepth 100000
set_option linter.unusedVariables false
set_option linter.unusedSimpArgs false
open List renaming getElem_toArray→gTA,getElem_cons_zero→gCZ,getElem_cons_succ→gCS,setIfInBounds_toArray→sTA,set_cons_zero→sCZ,set_cons_succ→sCS
namespace Go.Proofs.YtmofknmeljdodaaGreatDoor
section
open Go.RowKit
variable {w w0 w1 w2 w3 w5 w':World} {S L L':List Nat} {B b fb n fc:Nat} {cv iv fv rv:Value} {val val':Vp} {f f':Fr'} {Fr F:List Fr'} {R:List Rq'} {M M':PMa} {pf pf2:PFr} {pfs:List PFr}
theorem MvE.fin {x B':Nat} (h:MvE w B [x] L fv rv val F R M) (hc:Chg [x] w w') (hx:x<B) (hB:B'≤B):MvAt w' B' L fv rv val F R M:=by
 have hm:Mv [x] ([x]++L) L w w':=⟨hc,fun y hy=>List.mem_append_left _ hy,fun y hy=> .inl (List.mem_append_right _ hy)⟩
 have hL:=h.mv.lt
 have hs:∀y∈L,y∉[x]:=fun y hy hs=>by have:=(hL y hy).1;simp at hs;omega
 have e:=h.own
 have q1:∀g,fv.ownBlock=some g→g∈L:=fun g hg=>by rw[e];simp[maV,hg]
 have q2:∀g,rv.ownBlock=some g→g∈L:=fun g hg=>by rw[e];simp[maV,hg]
 have q3:∀f∈F,∀y∈frB f,y∈L:=fun f hf y hy=>by rw[e];exact List.mem_append_left _ (List.mem_flatMap.2 ⟨f,hf,hy⟩)
 have q4:∀r∈R,∀y∈rqB r,y∈L:=fun f hf y hy=>by rw[e];exact List.mem_append_right _ (List.mem_append_right _ (List.mem_append_right _ (List.mem_flatMap.2 ⟨f,hf,hy⟩)))
 have lo:∀{u:Value} {vs:List Vl},RvIs w' B L u vs→RvIs w' B' L u vs:=fun k=>k.low hB (fun _ h=>h)
 exact⟨h.val.mv hm,(h.frs.kept hc (fun g hg=>hs g (q1 g hg))).mono hB,h.fra.mono (fun f _ hf k=>by have k2:=k.mv hm (fun y hy=>hs y (q3 f hf y hy));exact⟨k2.fn,k2.pc,lo k2.lo,lo k2.st⟩),(h.rqs.kept hc (fun g hg=>hs g (q2 g hg))).mono hB,h.rqa.mono (fun r _ hr k=>by have k2:=k.mv hm (fun y hy=>hs y (q4 r hr y hy));exact⟨k2.op,lo k2.args⟩),h.own,h.nd⟩
theorem runZ_stop {stp:PMa→PMa} {k:Nat} (h:M.st≠1):runZ stp k M=M:=by
 cases k with
 |zero=>rfl
 |succ k=>rw[runZ,if_neg h]
theorem TaIs.low {tb:Nat} (h:TaIs w [] tb) (hn:tb∉L):TaIs w L tb:=⟨h.lt,hn,h.at'⟩
theorem mrun_any {ca ia ra:Option Addr} {cn cc inn ic rc:Nat} {stp:PMa→PMa} {Ok:PMa→Prop} (hS:StepOk w0 (.slice ca cn cc) (.slice ia inn ic) stp Ok) (hOk:∀M,Ok M→smF M.fr∧M.val.length≤1048576∧M.rq=[])
 (h:MvAt w B L fv (.slice ra 0 rc) val F [] M) (hM:Ok M) (n:Nat) (hn:n≤1048576) (h0:Chg [] w0 w):
 Calls Tryz.prog 48 #[.agg #[.slice ca cn cc, .slice ia inn ic],mvV fv (.slice ra 0 rc) val M, .int .i64 n] w fun e w'=>∃fv' val' F' L',e= .returned (mvV fv' (.slice none 0 0) val' (runZ stp n M))∧MvAt w' w.heap.size L' fv' (.slice none 0 0) val' F' [] (runZ stp n M)∧Chg [] w w':=by
 obtain⟨fa,fcap,rfl⟩:=RowOf.shape h.frs
 have H:=LH (fun w' (hc:Chg [] w w')=>h.kept hc)
 have HS:=LH hS
 have HO:=LH hOk
 have HM:=LH hM
 have C0:=LH h0
 clear hS hOk hM h0 h
 generalize F.reverse.length=fl at*
 unfold mvV at*
 go_enter Tryz.func48,Tryz.ntmps48
 go_wp2_with fail
 generalize hW:World.alloc _ _=W
 have CW:Hid (Chg [] w W):=LH (by rw[←hW];exact(((Chg.refl _ _).alloc _).alloc _).alloc _)
 have B1:W.heap[w.heap.size]? =some (.cells #[.slice ca cn cc, .slice ia inn ic] 35 (0,0)):=by rw[←hW];exact blk_alloc (blk_alloc (heap_alloc_new _ _))
 have B2:W.heap[w.heap.size+1]? =some (.cells #[.int .i64 M.st, .int .i64 M.er, .slice val.a val.n val.c, .slice fa fl fcap, .slice ra 0 rc, .int .i64 M.ls, .int .i64 M.lm, .int .i64 M.steps, .int .i64 M.peak] 48 (0,0)):=by rw[←hW];exact blk_alloc (by have h:=heap_alloc_new (w.alloc (.cells #[.slice ca cn cc, .slice ia inn ic] 35 (0,0))) (.cells #[.int .i64 M.st, .int .i64 M.er, .slice val.a val.n val.c, .slice fa fl fcap, .slice ra 0 rc, .int .i64 M.ls, .int .i64 M.lm, .int .i64 M.steps, .int .i64 M.peak] 48 (0,0));rw[World.size_alloc]at h;exact h)
 have B3:W.heap[w.heap.size+2]? =some (.cells #[.int .i64 0, .int .i64 0, .slice none 0 0, .slice none 0 0, .slice none 0 0, .int .i64 0, .int .i64 0, .int .i64 0, .int .i64 0] 48 (0,0)):=by rw[←hW];have h:=heap_alloc_new ((w.alloc (.cells #[.slice ca cn cc, .slice ia inn ic] 35 (0,0))).alloc (.cells #[.int .i64 M.st, .int .i64 M.er, .slice val.a val.n val.c, .slice fa fl fcap, .slice ra 0 rc, .int .i64 M.ls, .int .i64 M.lm, .int .i64 M.steps, .int .i64 M.peak] 48 (0,0))) (.cells #[.int .i64 0, .int .i64 0, .slice none 0 0, .slice none 0 0, .slice none 0 0, .int .i64 0, .int .i64 0, .int .i64 0, .int .i64 0] 48 (0,0));rw[World.size_alloc,World.size_alloc]at h;exact h
 have ZW:w.heap.size+3≤W.heap.size:=by have:=lt_of_heap B3;omega
 have B3:=LH B3
 rename_i B30
 clear hW B30
 refine run_r1 (by kernel_rfl) B1 B2 (H.out _ CW.out) (HO.out _ HM.out).1 (HO.out _ HM.out).2.1 _ ?_
 intro b y9 y10 y11 y12 wz L5 HZ CZ
 clear B1 B2
 go_wp2_with (first
  |(go_at_call 100;(with_reducible refine Calls.mono (macts_any _) ?_);rintro e w2 ⟨tb,rfl,hT,hT2,hc2⟩;have T2:=LH (hT.low (L:=L5) (fun hm=>by have:=HZ.out.lt tb hm;omega));have C2:=LH hc2;clear hT hT2 hc2))
 go_loopw [2] (fun u wr=>∃(k:Nat) (M1:PMa) (L1:List Nat),u= .int .i64 k∧k≤n∧Hid (runZ stp k M1=runZ stp n M)∧Hid (Ok M1)∧Hid (MaIs wr W.heap.size b L1 (.slice ca cn cc) (.slice ia inn ic) M1)∧Hid (TaIs wr L1 tb)∧Hid (Chg [] W wr)) (fun u _=>(intOf u).toNat)
 case atStart=>exact⟨n,M,L5,rfl,Nat.le_refl _,LH rfl,HM,LH (HZ.out.kept C2.out),T2,LH (CZ.out.thenSame C2.out)⟩
 case round=>
  clear HZ CZ T2 C2 HM H
  obtain⟨k,M1,L1,rfl,hk,HR,HM,HZ,HT,CZ⟩:=hrel
  by_cases hst:M1.st=1
  case neg=>
   have HE:Hid (runZ stp n M=M1):=LH (HR.out.symm.trans (runZ_stop hst))
   have hs1:(M1.st==1)=false:=beq_eq_false_iff_ne.2 hst
   clear hst
   obtain⟨fv1,rv1,val1,F1,R1,hm1⟩:=HZ.out
   have hR:R1=[]:=List.eq_nil_of_length_eq_zero (by rw[hm1.rqa.len,(HO.out M1 HM.out).2.2];rfl)
   subst hR
   obtain⟨ra1,rc1,rfl⟩:=RowOf.shape hm1.rqs
   obtain⟨fa1,fc1,rfl⟩:=RowOf.shape hm1.frs
   rw[List.length_reverse]at hm1
   rw[List.length_nil]at hm1
   have kb:=blk_cell hm1.blk
   have lb:=lt_of_heap hm1.blk
   have BX:=LH (CZ.out.at (by simp) B3.out)
   have OW:=LH (mown_any (E:=[w.heap.size+2]) (fun y hy=>by simp at hy;subst hy;exact lt_of_heap BX.out) hm1.toMv (HO.out M1 HM.out).1 (HO.out M1 HM.out).2.1)
   unfold mvV at OW
   clear hm1
   by_cases hk0:k=0
   ·subst hk0
    go_wp2_with (first
     |(go_at_call 51;go_loud (with_reducible refine Calls.mono OW.out ?_);rintro e w3 ⟨fv3,val3,F3,L3,rfl,hm3,hc3⟩;obtain⟨fa3,fc3,rfl⟩:=RowOf.shape hm3.frs;rw[List.length_reverse]at hm3;have M3:=LH hm3;have C3:=LH hc3;have kx:=blk_cell (hc3.at (by simp) BX.out);have fx:=blk_free (hc3.at (by simp) BX.out);have lx:=lt_of_heap (hc3.at (by simp) BX.out);have BY:=LH (hc3.at (by simp) BX.out);clear hm3 hc3))
    have o3:=st9_at (.int .i64 M1.st) (.int .i64 M1.er) (.slice val3.a val3.n val3.c) (.slice fa3 F3.length fc3) (.slice none 0 0) (.int .i64 M1.ls) (.int .i64 M1.lm) (.int .i64 M1.steps) (.int .i64 M1.peak) BY.out
    have r1:=blk_cell o3
    have hc9:=st9_self (w:=w3) (b:=w.heap.size+2) (.int .i64 M1.st) (.int .i64 M1.er) (.slice val3.a val3.n val3.c) (.slice fa3 F3.length fc3) (.slice none 0 0) (.int .i64 M1.ls) (.int .i64 M1.lm) (.int .i64 M1.steps) (.int .i64 M1.peak)
    have zz:=CZ.out.size
    have h9:=M3.out.fin (B':=w.heap.size) hc9 (by omega) (by omega)
    rw[HE.out]
    exact bodyPost_ret (v:= .agg #[.int .i64 M1.st, .int .i64 M1.er, .slice val3.a val3.n val3.c, .slice fa3 F3.length fc3, .slice none 0 0, .int .i64 M1.ls, .int .i64 M1.lm, .int .i64 M1.steps, .int .i64 M1.peak]) (by simp[results,Tryz.results48,go_sem,r1]) rfl ⟨_,_,_,L3,rfl,h9,((CW.out.thenSame CZ.out).thenSame C3.out).then hc9 (fun y hy hl=>by simp at hy;omega)⟩
   ·have hk1:(0:Int)<(k:Int):=by omega
    clear hk0
    go_wp2_with (first
     |(go_at_call 51;go_loud (with_reducible refine Calls.mono OW.out ?_);rintro e w3 ⟨fv3,val3,F3,L3,rfl,hm3,hc3⟩;obtain⟨fa3,fc3,rfl⟩:=RowOf.shape hm3.frs;rw[List.length_reverse]at hm3;have M3:=LH hm3;have C3:=LH hc3;have kx:=blk_cell (hc3.at (by simp) BX.out);have fx:=blk_free (hc3.at (by simp) BX.out);have lx:=lt_of_heap (hc3.at (by simp) BX.out);have BY:=LH (hc3.at (by simp) BX.out);clear hm3 hc3))
    have o3:=st9_at (.int .i64 M1.st) (.int .i64 M1.er) (.slice val3.a val3.n val3.c) (.slice fa3 F3.length fc3) (.slice none 0 0) (.int .i64 M1.ls) (.int .i64 M1.lm) (.int .i64 M1.steps) (.int .i64 M1.peak) BY.out
    have r1:=blk_cell o3
    have hc9:=st9_self (w:=w3) (b:=w.heap.size+2) (.int .i64 M1.st) (.int .i64 M1.er) (.slice val3.a val3.n val3.c) (.slice fa3 F3.length fc3) (.slice none 0 0) (.int .i64 M1.ls) (.int .i64 M1.lm) (.int .i64 M1.steps) (.int .i64 M1.peak)
    have zz:=CZ.out.size
    have h9:=M3.out.fin (B':=w.heap.size) hc9 (by omega) (by omega)
    rw[HE.out]
    exact bodyPost_ret (v:= .agg #[.int .i64 M1.st, .int .i64 M1.er, .slice val3.a val3.n val3.c, .slice fa3 F3.length fc3, .slice none 0 0, .int .i64 M1.ls, .int .i64 M1.lm, .int .i64 M1.steps, .int .i64 M1.peak]) (by simp[results,Tryz.results48,go_sem,r1]) rfl ⟨_,_,_,L3,rfl,h9,((CW.out.thenSame CZ.out).thenSame C3.out).then hc9 (fun y hy hl=>by simp at hy;omega)⟩
  case pos=>
   by_cases hk0:k=0
   ·subst hk0
    have HE:Hid (runZ stp n M=M1):=LH HR.out.symm
    clear hst
    obtain⟨fv1,rv1,val1,F1,R1,hm1⟩:=HZ.out
    have hR:R1=[]:=List.eq_nil_of_length_eq_zero (by rw[hm1.rqa.len,(HO.out M1 HM.out).2.2];rfl)
    subst hR
    obtain⟨ra1,rc1,rfl⟩:=RowOf.shape hm1.rqs
    obtain⟨fa1,fc1,rfl⟩:=RowOf.shape hm1.frs
    rw[List.length_reverse]at hm1
    rw[List.length_nil]at hm1
    have kb:=blk_cell hm1.blk
    have lb:=lt_of_heap hm1.blk
    have BX:=LH (CZ.out.at (by simp) B3.out)
    have OW:=LH (mown_any (E:=[w.heap.size+2]) (fun y hy=>by simp at hy;subst hy;exact lt_of_heap BX.out) hm1.toMv (HO.out M1 HM.out).1 (HO.out M1 HM.out).2.1)
    unfold mvV at OW
    clear hm1
    go_wp2_with (first
     |(go_at_call 51;go_loud (with_reducible refine Calls.mono OW.out ?_);rintro e w3 ⟨fv3,val3,F3,L3,rfl,hm3,hc3⟩;obtain⟨fa3,fc3,rfl⟩:=RowOf.shape hm3.frs;rw[List.length_reverse]at hm3;have M3:=LH hm3;have C3:=LH hc3;have kx:=blk_cell (hc3.at (by simp) BX.out);have fx:=blk_free (hc3.at (by simp) BX.out);have lx:=lt_of_heap (hc3.at (by simp) BX.out);have BY:=LH (hc3.at (by simp) BX.out);clear hm3 hc3))
    have o3:=st9_at (.int .i64 M1.st) (.int .i64 M1.er) (.slice val3.a val3.n val3.c) (.slice fa3 F3.length fc3) (.slice none 0 0) (.int .i64 M1.ls) (.int .i64 M1.lm) (.int .i64 M1.steps) (.int .i64 M1.peak) BY.out
    have r1:=blk_cell o3
    have hc9:=st9_self (w:=w3) (b:=w.heap.size+2) (.int .i64 M1.st) (.int .i64 M1.er) (.slice val3.a val3.n val3.c) (.slice fa3 F3.length fc3) (.slice none 0 0) (.int .i64 M1.ls) (.int .i64 M1.lm) (.int .i64 M1.steps) (.int .i64 M1.peak)
    have zz:=CZ.out.size
    have h9:=M3.out.fin (B':=w.heap.size) hc9 (by omega) (by omega)
    rw[HE.out]
    exact bodyPost_ret (v:= .agg #[.int .i64 M1.st, .int .i64 M1.er, .slice val3.a val3.n val3.c, .slice fa3 F3.length fc3, .slice none 0 0, .int .i64 M1.ls, .int .i64 M1.lm, .int .i64 M1.steps, .int .i64 M1.peak]) (by simp[results,Tryz.results48,go_sem,r1]) rfl ⟨_,_,_,L3,rfl,h9,((CW.out.thenSame CZ.out).thenSame C3.out).then hc9 (fun y hy hl=>by simp at hy;omega)⟩
   ·have hk1:(0:Int)<(k:Int):=by omega
    have hs1:(M1.st==1)=true:=by rw[hst];rfl
    obtain⟨hok,hstp⟩:=HS.out M1 HM.out hst
    have HOK:=LH hok
    have ST:=LH (hstp wr W.heap.size b L1 tb ((C0.out.thenSame CW.out).thenSame CZ.out) (C0.out.thenSame CW.out).size HZ.out HT.out)
    have HE:Hid (runZ stp (k-1) (stp M1)=runZ stp n M):=LH (by
     rw[←HR.out]
     cases k with
     |zero=>exact absurd rfl hk0
     |succ k=>rw[runZ,if_pos hst];rfl)
    obtain⟨fv1,rv1,val1,F1,R1,hm1⟩:=HZ.out
    have kb:=blk_cell hm1.blk
    have lb:=lt_of_heap hm1.blk
    have GE:=LH HZ.out.ge
    have hk2:(k:Int)≤1048576:=by omega
    clear hst hok hstp hk0 hm1
    go_wp2_with (first
     |(go_at_call 101;(with_reducible refine Calls.mono ST.out ?_);rintro e w3 ⟨rfl,L3,hm3,ht3⟩;have M3:=LH hm3;have T3:=LH ht3;clear hm3 ht3))
    exact⟨⟨k-1,_,L3,by first|rfl|(simp;omega),by omega,HE,HOK,M3,LH (HT.out.tr T3.out),LH (CZ.out.then T3.out.chg (fun y hy hl=>by have:=GE.out y hy;omega))⟩,by simp[intOf];omega⟩
end
section
open Go.RowKit
variable {w w0 w1 w2 w3 w5 w':World} {S L L':List Nat} {B b fb n fc:Nat} {cv iv fv fv' rv:Value} {val val':Vp} {f f':Fr'} {Fr F:List Fr'} {R:List Rq'} {M M':PMa} {pf pf2:PFr} {pfs:List PFr} {vs:List Vl}
theorem VaIs.offTy {p:Vp} {v:Vl} {g:Nat} {T:TypeId} {D:Array Value} {fr:Nat×Nat} (h:VaIs w L p v) (hg:w.heap[g]? =some (.cells D T fr)) (hne:T≠63):VaIs w (g::L) p v:=by
 refine⟨h.ins,h.len,fun ad ha=>⟨fun hm=> ?_,(h.off ad ha).2⟩,h.ty⟩
 rcases List.mem_cons.1 hm with e|hm
 ·obtain⟨D',fr',e2⟩:=h.ty ad ha
  rw[e,hg]at e2
  cases e2
  exact hne rfl
 ·exact(h.off ad ha).1 hm
theorem VaIs.offRow {p:Vp} {v:Vl} {u:Value} {ps:List Vp} (h:VaIs w L p v) (hr:RowOf vpC 1 w B 22 u ps):VaIs w (u.ownBlock.toList++L) p v:=by
 rcases hr.2 with ⟨rfl, -⟩|⟨g,cap,cur,rfl, -,hh, -⟩
 ·exact h
 ·exact h.offTy hh (by decide)
theorem nd_enter {A X G G' T:List Nat} {b z:Nat} (nd:(X++(b::(G++T))).Nodup) (nA:A.Nodup) (nG:G'.Nodup) (hA:∀y∈A,y∉X++(b::(G++T))∧y<z) (hG:∀y∈G',y∈G∨z≤y) (hz:∀y∈X++(b::(G++T)),y<z):((A++X)++(b::(G'++T))).Nodup:=by
 obtain⟨n1,n2,n3⟩:=List.nodup_append.1 nd
 obtain⟨n4,n5⟩:=List.nodup_cons.1 n2
 obtain⟨n6,n7,n8⟩:=List.nodup_append.1 n5
 simp only[List.mem_append,List.mem_cons,not_or]at hA hz n4
 refine List.nodup_append.2 ⟨List.nodup_append.2 ⟨nA,n1,fun x hx y hy e=>(hA x hx).1.1 (e▸hy)⟩,List.nodup_cons.2 ⟨?_,List.nodup_append.2 ⟨nG,n7, ?_⟩⟩, ?_⟩
 ·intro hm
  rcases List.mem_append.1 hm with hm|hm
  ·rcases hG b hm with e|e
   ·exact n4.1 e
   ·have:=hz b (.inr (.inl rfl));omega
  ·exact n4.2 hm
 ·intro x hx y hy e
  subst e
  rcases hG x hx with e|e
  ·exact n8 x e x hy rfl
  ·have:=hz x (.inr (.inr (.inr hy)));omega
 ·intro x hx y hy e
  subst e
  rcases List.mem_append.1 hx with hx|hx
  ·have h1:=hA x hx
   rcases List.mem_cons.1 hy with rfl|hy
   ·exact h1.1.2.1 rfl
   ·rcases List.mem_append.1 hy with hy|hy
    ·rcases hG x hy with e|e
     ·exact h1.1.2.2.1 e
     ·omega
    ·exact h1.1.2.2.2 hy
  ·rcases List.mem_cons.1 hy with rfl|hy
   ·exact n3 _ hx _ (List.mem_cons_self) rfl
   ·rcases List.mem_append.1 hy with hy|hy
    ·rcases hG x hy with e|e
     ·exact n3 x hx x (List.mem_cons_of_mem _ (List.mem_append_left _ e)) rfl
     ·have:=hz x (.inl hx);omega
    ·exact n3 x hx x (List.mem_cons_of_mem _ (List.mem_append_right _ hy)) rfl
theorem MaAt.enterFr (h:MaAt w B b L cv iv fv rv val F R M) (hp:PoIs w B L f'.lv vs) (hsv:f'.sv= .slice none 0 0) (hc:Chg fv.ownBlock.toList w w5) (hr:RowOf frC 4 w5 B 251 fv' (F.reverse++[f'])) (ho:∀g,fv'.ownBlock=some g→fv.ownBlock=some g∨w.heap.size≤g):
 ∃L',MaAt (w5.setCell ⟨b,5,none⟩ fv') B b L' cv iv fv' rv val (f'::F) R {M with fr:=⟨f'.fn,f'.pc,vs,[]⟩::M.fr}∧Chg (b::fv.ownBlock.toList) w (w5.setCell ⟨b,5,none⟩ fv')∧∀y∈L',y∈L∨y∈f'.lv.ownBlock.toList∨w.heap.size≤y:=by
 have nd:=h.nd
 have hlt:=h.rvLt
 have eL:=h.own
 rw[eL,maB]at nd
 obtain⟨⟨ps,pr,pa⟩,poff⟩:=hp
 have hG:∀y∈fv'.ownBlock.toList,y∈fv.ownBlock.toList∨w.heap.size≤y:=fun y hy=>by
  rcases ho y (by simpa using hy)with e|e
  ·exact .inl (ownMem e)
  ·exact .inr e
 have hbL:b∉fv.ownBlock.toList:=fun hm=>by
  have n2:=(List.nodup_cons.1 (List.nodup_append.1 nd).2.1).1
  exact n2 (List.mem_append_left _ hm)
 have hc9:Chg [b] w5 (w5.setCell ⟨b,5,none⟩ fv'):=(Chg.refl _ _).setCell _ _ (fun _=>by simp)
 have hC:Chg (b::fv.ownBlock.toList) w (w5.setCell ⟨b,5,none⟩ fv'):=hc.trans hc9 (fun y hy _=>List.mem_cons_of_mem _ hy) (fun y hy _=>by simp at hy;simp[hy])
 have hS:∀y∈b::fv.ownBlock.toList,y∈L:=fun y hy=>by
  rw[eL,maB]
  rcases List.mem_cons.1 hy with rfl|hy
  ·simp
  ·simp only[List.mem_append,List.mem_cons];exact .inr (.inr (.inl hy))
 have ema:maB b fv' rv (f'::F) R=(f'.lv.ownBlock.toList++F.flatMap frB)++(b::(fv'.ownBlock.toList++(rv.ownBlock.toList++R.flatMap rqB))):=by
  rw[maB,List.flatMap_cons,frB,hsv]
  rfl
 have hown:∀y∈maB b fv' rv (f'::F) R,y∈f'.lv.ownBlock.toList++L∨w.heap.size≤y:=by
  intro y hy
  rw[ema]at hy
  rw[eL,maB]
  simp only[List.mem_append,List.mem_cons]at hy⊢
  rcases hy with (h|h)|h|h|h|h
  ·exact .inl (.inl h)
  ·exact .inl (.inr (.inl h))
  ·exact .inl (.inr (.inr (.inl h)))
  ·rcases hG y h with e|e
   ·exact .inl (.inr (.inr (.inr (.inl e))))
   ·exact .inr e
  ·exact .inl (.inr (.inr (.inr (.inr (.inl h)))))
  ·exact .inl (.inr (.inr (.inr (.inr (.inr h)))))
 have hmv:Mv (b::fv.ownBlock.toList) (f'.lv.ownBlock.toList++L) (maB b fv' rv (f'::F) R) w (w5.setCell ⟨b,5,none⟩ fv'):=⟨hC,fun y hy=>List.mem_append_right _ (hS y hy),hown⟩
 have va:∀{p:Vp} {v:Vl},VaIs w L p v→VaIs (w5.setCell ⟨b,5,none⟩ fv') (maB b fv' rv (f'::F) R) p v:=fun k=>(k.offRow pr).mv hmv
 --the other blocks are apart from what changes
 have apart:∀y∈L,y∉b::fv.ownBlock.toList→y<w.heap.size:=fun y hy _=>hlt y hy
 have far:∀y,y∈F.flatMap frB∨y∈rv.ownBlock.toList++R.flatMap rqB→y∉b::fv.ownBlock.toList:=by
  intro y hy hs
  obtain⟨n1,n2,n3⟩:=List.nodup_append.1 nd
  obtain⟨n4,n5⟩:=List.nodup_cons.1 n2
  obtain⟨n6,n7,n8⟩:=List.nodup_append.1 n5
  rcases hy with hy|hy
  ·rcases List.mem_cons.1 hs with rfl|hs
   ·exact n3 _ hy _ (List.mem_cons_self) rfl
   ·exact n3 y hy y (List.mem_cons_of_mem _ (List.mem_append_left _ hs)) rfl
  ·rcases List.mem_cons.1 hs with rfl|hs
   ·exact n4 (List.mem_append_right _ hy)
   ·exact n8 y hs y hy rfl
 have rvm:∀{u:Value} {l:List Vl},RvIs w B L u l→(∀g,u.ownBlock=some g→g∈F.flatMap frB∨g∈rv.ownBlock.toList++R.flatMap rqB)→RvIs (w5.setCell ⟨b,5,none⟩ fv') B (maB b fv' rv (f'::F) R) u l:=fun⟨qs,q1,q2⟩ hn=>⟨qs,q1.kept hC (fun g hg=>far g (hn g hg)),q2.mono (fun _ _ _ k=>va k)⟩
 have lvo:∀g,f'.lv.ownBlock=some g→g∉b::fv.ownBlock.toList:=fun g hg hs=>poff g hg (hS g hs)
 refine⟨_,⟨blk_set (hc.at hbL h.blk) 5 fv',va h.val, ?_,⟨⟨rfl,rfl,⟨ps,pr.kept hC lvo,pa.mono (fun _ _ _ k=>va k)⟩, ?_⟩, ?_⟩,h.rqs.kept hC (fun g hg=>far g (.inr (List.mem_append_left _ (ownMem hg)))), ?_,rfl, ?_,h.lo⟩,hC,fun y hy=> ?_⟩
 ·rw[List.reverse_cons]
  exact hr.kept hc9 (fun g hg hs=>by
   simp at hs
   subst hs
   rcases hG g (ownMem hg)with e|e
   ·exact hbL e
   ·have:=lt_of_heap h.blk;omega)
 ·rw[hsv]
  exact⟨[],RowOf.nil _ _ _,trivial⟩
 ·exact h.fra.mono (fun a _ ha k=>⟨k.fn,k.pc,rvm k.lo (fun g hg=> .inl (List.mem_flatMap.2 ⟨a,ha,by simp[frB,hg]⟩)),rvm k.st (fun g hg=> .inl (List.mem_flatMap.2 ⟨a,ha,by simp[frB,hg]⟩))⟩)
 ·exact h.rqa.mono (fun a _ ha k=>⟨k.op,rvm k.args (fun g hg=> .inr (List.mem_append_right _ (List.mem_flatMap.2 ⟨a,ha,by simp[rqB,hg]⟩)))⟩)
 ·rw[ema]
  refine nd_enter nd (toList_nodup _) (toList_nodup _) (fun y hy=>⟨fun hm=>poff y (by simpa using hy) (by rw[eL,maB];exact hm),(pr.block y (by simpa using hy)).2⟩) hG (fun y hy=>hlt y (by rw[eL,maB];exact hy))
 ·rcases hown y hy with e|e
  ·rcases List.mem_append.1 e with e|e
   ·exact .inr (.inl e)
   ·exact .inl e
  ·exact .inr (.inr e)
end
section
open Go.RowKit
variable {w w0 w1 w2 w3 w5 w':World} {S L L':List Nat} {B b fb n fc:Nat} {cv iv fv fv' rv:Value} {val val':Vp} {f f':Fr'} {Fr F:List Fr'} {R:List Rq'} {M M':PMa} {pf pf2:PFr} {pfs:List PFr} {vs:List Vl}
theorem menter_eq {g o k nF fcap an ac:Nat} {aa:Option Addr} {nm:ByteArray} {pa en ed:Int} (h:MaIs w B b L (.slice (some ⟨g,o,none⟩) nF fcap) iv M) (hp:PoIs w B L (.slice aa an ac) vs) (hk:k<nF) (hn:nF≤1048576)
 (c0:w.cell? ⟨g,o+k*5,none⟩=some (.string nm)) (c1:w.cell? ⟨g,o+k*5+1,none⟩=some (.int .i64 pa)) (c2:w.cell? ⟨g,o+k*5+2,none⟩=some (.int .i64 vs.length)) (c3:w.cell? ⟨g,o+k*5+3,none⟩=some (.int .i64 en)) (c4:w.cell? ⟨g,o+k*5+4,none⟩=some (.int .i64 ed)) (lg:g<w.heap.size)
 (hv:vs.length≤1048576) (hf:M.fr.length≤1024):
 Calls Tryz.prog 46 #[.pointer (some ⟨b,0,none⟩), .int .i64 k, .slice aa an ac] w fun e w'=>e= .returned (.tuple #[])∧∃L',MaIs w' B b L' (.slice (some ⟨g,o,none⟩) nF fcap) iv {M with fr:=⟨k,en,vs,[]⟩::M.fr}∧Chg L w w'∧∀y∈L',y∈L∨y∈(Value.slice aa an ac).ownBlock.toList∨w.heap.size≤y:=by
 have han:an=vs.length:=by
  obtain⟨ps,pr,pa⟩:=hp.row
  rw[←pa.len]
  exact(RowOf.sl pr vpC_len).1.1.symm
 obtain⟨fv,rv,val,F,R,h⟩:=h
 obtain⟨fa,ff,rfl⟩:=RowOf.shape h.frs
 rw[List.length_reverse]at h
 have hF:F.length≤1024:=by rw[h.fra.len];exact hf
 have H:=LH h
 have HP:=LH hp
 have kb:=blk_cell h.blk
 have lb:=lt_of_heap h.blk
 have hb2:(vs.length:Int)≤1048576:=by omega
 have hk0:(0:Int)≤(k:Int):=by omega
 have hk1:(k:Int)<(nF:Int):=by omega
 have hk2:(nF:Int)≤1048576:=by omega
 subst han
 have hll: ¬((vs.length:Int)<(vs.length:Int)):=by omega
 clear h hp hv hf hn
 go_enter Tryz.func46,Tryz.ntmps46
 go_wp2_with fail
 generalize hW:World.alloc _ _=W
 have CW:=LH (show Chg [] w W by rw[←hW];exact(Chg.refl _ _).alloc _)
 have B1:W.heap[w.heap.size]? =some (.cells #[.string nm, .int .i64 pa, .int .i64 vs.length, .int .i64 en, .int .i64 ed] 135 (0,0)):=by rw[←hW];exact heap_alloc_new _ _
 have k1:=blk_cell B1
 have l1:=lt_of_heap B1
 have HW:=LH (H.out.kept CW.out)
 have kb2:=blk_cell HW.out.blk
 have fb2:=blk_free HW.out.blk
 have lb2:=lt_of_heap HW.out.blk
 clear hW B1 kb lb c0 c1 c2 c3 c4 lg
 go_loopw [7] (fun u wr=>u= .slice aa vs.length ac∧wr=W) (fun _ _=>0)
 case atStart=>exact⟨rfl,rfl⟩
 case round=>
  obtain⟨rfl,rfl⟩:=hrel
  go_wp2_with fail
  have NB:Hid (b∉(Value.slice fa F.length ff).ownBlock.toList):=LH (fun hm=>by
   have nd:=HW.out.nd
   rw[HW.out.own,maB]at nd
   exact(List.nodup_cons.1 (List.nodup_append.1 nd).2.1).1 (List.mem_append_left _ hm))
  go_region_law (first
   |(show(if _ then Oper.wp _ ⟨_,Op.call ⟨Callee.builtin Builtin.append,_,_⟩,_,_,_,_⟩ _ _ _ _ else _);refine step_appendR rfl _ _ 44 rfl B 251 _ 64 Tryz.underlying44 frInfo rfl (by decide) frC_len frC_one (.slice fa F.length ff) F.reverse rfl (HW.out.frs.kept (((Chg.refl [] wr).alloc (.cells (frC ⟨k,en,aa,vs.length,ac,none,0,0⟩).toArray 251)).drew) (by simp)) wr.heap.size 1 ⟨k,en,aa,vs.length,ac,none,0,0⟩ _ 251 (0,0) rfl (heap_alloc_new wr _) rfl (by rw[List.length_reverse];unfold maxLen;omega) (by rw[List.length_reverse];omega) (by have:=HW.out.lo;simp only[heap_drew,World.size_alloc];omega) ?_;intro q8 c8 w8 hr8 hg8 ho8 hl8;rw[List.length_reverse]at hr8⊢;have R8:=LH hr8;have G8:=LH (Chg.ofRow hg8);have O8:=LH ho8;have D8:=LH ((HW.out.kept (((Chg.refl [] wr).alloc (.cells (frC ⟨k,en,aa,vs.length,ac,none,0,0⟩).toArray 251)).drew)));have kb8:=blk_cell ((Chg.ofRow hg8).at NB.out D8.out.blk);have fb8:=blk_free ((Chg.ofRow hg8).at NB.out D8.out.blk);have lb8:=lt_of_heap ((Chg.ofRow hg8).at NB.out D8.out.blk);clear hr8 hg8 ho8)
   |fail)
  all_goals go_wp2_with fail
  all_goals go_end0
  all_goals (
   have CX:Chg [] w (World.drew (World.alloc wr (.cells (frC ⟨k,en,aa,vs.length,ac,none,0,0⟩).toArray 251))):=(CW.out.alloc _).drew
   obtain⟨L',h9,hC,hL⟩:=D8.out.enterFr (w5:=w8) (f':=⟨k,en,aa,vs.length,ac,none,0,0⟩) (HP.out.tr ((Tr.refl L w).same CX)) rfl G8.out R8.out (fun g hg=>by
    simp only[Value.ownBlock,Option.some.injEq]at hg
    subst hg
    rcases O8.out with e|e
    ·exact .inl e
    ·exact .inr (by rw[e];exact Nat.le_refl _))
   refine⟨rfl,L',⟨_,_,_,_,_,h9⟩,(CX.mono (T:=L) (by simp)).then hC (fun y hy hl=> ?_),fun y hy=> ?_⟩
   ·have e:=HW.out.own
    rw[e,maB]
    rcases List.mem_cons.1 hy with rfl|hy
    ·simp
    ·simp only[List.mem_append,List.mem_cons];exact .inr (.inr (.inl hy))
   ·rcases hL y hy with e|e|e
    ·exact .inl e
    ·exact .inr (.inl e)
    ·exact .inr (.inr (Nat.le_trans CX.size e)))
end
section
open Go.RowKit
variable {w w0 w1 w':World} {S L L':List Nat} {B b fb n fc:Nat} {cv iv fv rv:Value} {val val':Vp} {f f':Fr'} {Fr F:List Fr'} {R:List Rq'} {M M':PMa} {pf pf2:PFr} {pfs:List PFr}
theorem mstep_bin {gi oi nI ic k tb:Nat} {a:Int} {s:ByteArray} {ka:Option Addr} {kn kc:Nat} {M2:PMa} (h:MaIs w B b L cv (.slice (some ⟨gi,oi,none⟩) nI ic) M) (hM:M.fr=pf::pfs) (hpc:pf.pc=(k:Int)) (hk:k<nI) (hn:nI≤1048576)
 (hi:InsAt w0 gi oi k 9 a s (.slice ka kn kc)) (h0:Chg [] w0 w) (hb:w0.heap.size≤B) (hs:M.steps<M.ls) (hs0:0≤M.steps) (hs1:M.ls≤1048576) (ht:TaIs w L tb)
 (hA:∀w' L',MaIs w' B b L' cv (.slice (some ⟨gi,oi,none⟩) nI ic) (preM M pf pfs)→Chg [] w0 w'→Calls Tryz.prog 181 #[.pointer (some ⟨b,0,none⟩),insV 9 a s (.slice ka kn kc)] w' fun e w''=>e= .returned (.int .i64 0)∧∃L'',MaIs w'' B b L'' cv (.slice (some ⟨gi,oi,none⟩) nI ic) M2∧Tr L' w' L'' w'')
 (hs2:smF M2.fr):
 Calls Tryz.prog 101 #[.pointer (some ⟨b,0,none⟩), .slice (some ⟨tb,0,none⟩) 21 21] w fun e w'=>e= .returned (.tuple #[])∧∃L',MaIs w' B b L' cv (.slice (some ⟨gi,oi,none⟩) nI ic) (countM M2)∧Tr L w L' w':=by
 have HL:=LH (show ∀y∈L,w0.heap.size≤y from fun y hy=>Nat.le_trans hb (h.ge y hy))
 have LT:=LH h.lt
 obtain⟨fv,rv,val,F,R,h⟩:=h
 obtain⟨f,Fr,rfl⟩:=h.fr2 hM
 obtain⟨fb,fc,rfl⟩:=h.shape
 have hfpc:f.pc=(k:Int):=by
  obtain⟨pf',pfs',e,ht, -⟩:=h.fr1
  rw[hM]at e
  cases e
  rw[ht.pc,hpc]
 have H:=LH h
 have HMM:=LH hM
 have A:=LH (fun w' (hc:Chg [] w w')=>mframe_any (h.kept hc))
 obtain⟨-,hcells,lf⟩:=h.cells
 rw[hfpc]at hcells
 have HC:=LH hcells
 have HI:=LH hi
 have C0:=LH h0
 have HT:=LH ht
 have HP:Hid (preM M pf pfs={{M with steps:=M.steps+1} with fr:={pf with pc:=(k:Int)+1}::pfs}):=LH (by unfold preM;rw[hpc])
 have BL:Hid (b∈L∧fb∈L):=LH (by rw[h.own];simp[maB,Value.ownBlock])
 unfold insV at hA
 have HA:=LH hA
 have HCO:=LH (fun w' L' (h:MaIs w' B b L' cv (.slice (some ⟨gi,oi,none⟩) nI ic) M2)=>mcount_any h hs2)
 have kb:=blk_cell h.blk
 have lb:=lt_of_heap h.blk
 have k0:(0:Int)≤(k:Int):=by omega
 have k1:(k:Int)<(nI:Int):=by omega
 have k2:(nI:Int)≤1048576:=by omega
 have k3: ¬M.ls≤M.steps:=by omega
 have k4:((((Fr.length+1:Nat):Int))==0)=false:=beq_eq_false_iff_ne.2 (by omega)
 clear h hcells hi h0 ht hA hs2 hM hpc hn hfpc hb
 go_enter Tryz.func101,Tryz.ntmps101
 go_wp2_with fail
 go_quiet (fail)
 go_wp2_with (first
  |(go_at_call 188;(with_reducible refine Calls.mono (A.out _ ((Chg.refl _ _).drewN _)) ?_);rintro e w2 ⟨rfl,hc2⟩;have C2:=LH (((Chg.refl [] w).drewN _).thenSame hc2);clear hc2))
 have c1:=(HC.out w2 (C2.out.block _ lf (by simp))).2.1
 have kb2:=blk_cell (C2.out.at (by simp) H.out.blk)
 have lb2:=C2.out.lt lb
 have lf2:=C2.out.lt lf
 have i2:=HI.out.kept (C0.out.thenSame C2.out)
 have x0:=i2.c0
 have x1:=i2.c1
 have x2:=i2.c2
 have x3:=i2.c3
 have x4:=i2.lt
 clear i2 kb
 go_quiet (fail)
 go_wp2_with fail
 generalize hW:w2.drewN _=W
 have C3:=LH (show Chg [] w W by rw[←hW];exact C2.out.drewN _)
 have e2:∀p,w2.cell? p=W.cell? p:=fun p=>by rw[←hW];rfl
 rw[e2]at c1 x0 x1 x2 x3
 simp only[e2]at kb2
 have y1:W.cell? ⟨b,1,none⟩=some (.slice (some ⟨gi,oi,none⟩) nI ic):=kb2 1
 rw[show w2.heap.size=W.heap.size by rw[←hW];rfl]at lb2 lf2 x4
 clear hW e2 kb2
 go_region_held3 (fun w'=>w'.cell? ⟨b,1,none⟩=some (.slice (some ⟨gi,oi,none⟩) nI ic)∧w'.cell? ⟨fb,Fr.length*4+1,none⟩=some (.int .i64 k)∧w'.cell? ⟨gi,oi+k*4,none⟩=some (.int .i64 9)∧w'.cell? ⟨gi,oi+k*4+1,none⟩=some (.int .i64 a)∧w'.cell? ⟨gi,oi+k*4+2,none⟩=some (.string s)∧w'.cell? ⟨gi,oi+k*4+3,none⟩=some (.slice ka kn kc))
  (first|go_keep)
  (fail)
 clear c1 x0 x1 x2 x3 y1
 generalize hW2:(W.alloc (Obj.cells #[.int .i64 9, .int .i64 a, .string s, .slice ka kn kc] 235)).drew=W2
 have C4:=LH (show Chg [] w W2 by rw[←hW2];exact(C3.out.alloc _).drew)
 have Q4:W2.heap[W.heap.size]? =some (.cells #[.int .i64 9, .int .i64 a, .string s, .slice ka kn kc] 235 (0,0)):=by rw[←hW2];exact heap_alloc_new W _
 have QL:Hid (W.heap.size∉L):=LH (fun hm=>by have:=LT.out _ hm;have:=C3.out.size;omega)
 clear hW2 lb2 lf2 x4
 generalize W.heap.size=q at*
 have H4:=H.out.kept C4.out
 have HO:=H4.offs
 have hne:b≠fb:=HO.2.2.2.2.1
 have hne2:fb≠b:=fun e=>hne e.symm
 have c4:=(HC.out W2 (C4.out.block _ lf (by simp))).2.1
 have f4:=(HC.out W2 (C4.out.block _ lf (by simp))).2.2.2.2
 have l4:=C4.out.lt lf
 have kb4:=blk_cell H4.blk
 have fb4:=blk_free H4.blk
 have lb4:=lt_of_heap H4.blk
 obtain⟨H5,T5⟩:=H4.setB (M':={M with steps:=M.steps+1}) ((Chg.refl [b] _).setCell ⟨b,9,none⟩ (.int .i64 (M.steps+1)) (fun _=>by simp)) (blk_set H4.blk 9 (.int .i64 (M.steps+1))) H4.val rfl rfl
 obtain⟨H6,T6⟩:=H5.setPc HMM.out ((k:Int)+1)
 have TT:=LH ((((Tr.refl L w).same C4.out).trans T5).trans T6)
 have H6:=LH H6
 rename_i H60
 clear H60 H5 T5 T6 H4 HO
 have Q4:=LH Q4
 rename_i Q40
 clear Q40
 have hs3:M.steps≤1048576:=by omega
 go_wp2_with fail
 generalize hW4:(W2.setCell ⟨b,9,none⟩ (.int .i64 (M.steps+1))).setCell ⟨fb,Fr.length*4+1,none⟩ (.int .i64 ((k:Int)+1))=W4
 rw[hW4]at H6 TT
 have hc4:Chg [b,fb] W2 W4:=by rw[←hW4];exact((Chg.refl _ _).setCell _ _ (fun _=>by simp)).setCell _ _ (fun _=>by simp)
 have qn:q∉[b,fb]:=fun hm=>by
  simp only[List.mem_cons,List.not_mem_nil,or_false]at hm
  rcases hm with e|e
  ·exact QL.out (by rw[e];exact BL.out.1)
  ·exact QL.out (by rw[e];exact BL.out.2)
 have Q5:=hc4.at qn Q4.out
 have kq:=blk_cell Q5
 have lq:=lt_of_heap Q5
 have tc:W4.cell? ⟨tb,9,none⟩=some (.func (.func 181) #[] #[]):=(HT.out.tr TT.out).at' 9 (by decide) (by decide)
 have tl:=(HT.out.tr TT.out).lt
 have D4:=LH (C0.out.then TT.out.chg (fun y hy hl=>by have:=HL.out y hy;omega))
 have H7:Hid (MaIs W4.drew B b L cv (.slice (some ⟨gi,oi,none⟩) nI ic) (preM M pf pfs)):=LH (by rw[HP.out];exact⟨_,_,_,_,_,H6.out.kept (Chg.refl _ _).drew⟩)
 clear hW4 hc4 Q5 qn c4 f4 l4 kb4 fb4 lb4
 go_still_tail 7,(by kernel_rfl)
 change wpList _ _ _ _ _ W4.drew
 go_wp2_with (first
  |(go_at_call 181;(with_reducible refine Calls.mono (HA.out _ L H7.out D4.out.drew) ?_);rintro e w5 ⟨rfl,L5,hm5,ht5⟩;have M5:=LH hm5;have T5:=LH ht5;clear hm5 ht5)
  |(go_at_call 47;(with_reducible refine Calls.mono (HCO.out _ L5 M5.out) ?_);rintro e w6 ⟨rfl,L6,hm6,ht6⟩;have M6:=LH hm6;have T6:=LH ht6;clear hm6 ht6))
 go_end0
 exact⟨rfl,L6,M6.out,((TT.out.same (Chg.refl _ _).drew).trans T5.out).trans T6.out⟩
end
section
open Go.RowKit
variable {w w0 w1 w':World} {S L L':List Nat} {B b fb n fc:Nat} {cv iv fv rv:Value} {val val':Vp} {f f':Fr'} {Fr F:List Fr'} {R:List Rq'} {M M':PMa} {pf pf2:PFr} {pfs:List PFr}
theorem mstep_back {gi oi nI ic k tb:Nat} {a:Int} {s:ByteArray} {ka:Option Addr} {kn kc:Nat} {M2:PMa} (h:MaIs w B b L cv (.slice (some ⟨gi,oi,none⟩) nI ic) M) (hM:M.fr=pf::pfs) (hpc:pf.pc=(k:Int)) (hk:k<nI) (hn:nI≤1048576)
 (hi:InsAt w0 gi oi k 20 a s (.slice ka kn kc)) (h0:Chg [] w0 w) (hb:w0.heap.size≤B) (hs:M.steps<M.ls) (hs0:0≤M.steps) (hs1:M.ls≤1048576) (ht:TaIs w L tb)
 (hA:∀w' L',MaIs w' B b L' cv (.slice (some ⟨gi,oi,none⟩) nI ic) (preM M pf pfs)→Chg [] w0 w'→Calls Tryz.prog 187 #[.pointer (some ⟨b,0,none⟩),insV 20 a s (.slice ka kn kc)] w' fun e w''=>e= .returned (.int .i64 0)∧∃L'',MaIs w'' B b L'' cv (.slice (some ⟨gi,oi,none⟩) nI ic) M2∧Tr L' w' L'' w'')
 (hs2:smF M2.fr):
 Calls Tryz.prog 101 #[.pointer (some ⟨b,0,none⟩), .slice (some ⟨tb,0,none⟩) 21 21] w fun e w'=>e= .returned (.tuple #[])∧∃L',MaIs w' B b L' cv (.slice (some ⟨gi,oi,none⟩) nI ic) (countM M2)∧Tr L w L' w':=by
 have HL:=LH (show ∀y∈L,w0.heap.size≤y from fun y hy=>Nat.le_trans hb (h.ge y hy))
 have LT:=LH h.lt
 obtain⟨fv,rv,val,F,R,h⟩:=h
 obtain⟨f,Fr,rfl⟩:=h.fr2 hM
 obtain⟨fb,fc,rfl⟩:=h.shape
 have hfpc:f.pc=(k:Int):=by
  obtain⟨pf',pfs',e,ht, -⟩:=h.fr1
  rw[hM]at e
  cases e
  rw[ht.pc,hpc]
 have H:=LH h
 have HMM:=LH hM
 have A:=LH (fun w' (hc:Chg [] w w')=>mframe_any (h.kept hc))
 obtain⟨-,hcells,lf⟩:=h.cells
 rw[hfpc]at hcells
 have HC:=LH hcells
 have HI:=LH hi
 have C0:=LH h0
 have HT:=LH ht
 have HP:Hid (preM M pf pfs={{M with steps:=M.steps+1} with fr:={pf with pc:=(k:Int)+1}::pfs}):=LH (by unfold preM;rw[hpc])
 have BL:Hid (b∈L∧fb∈L):=LH (by rw[h.own];simp[maB,Value.ownBlock])
 unfold insV at hA
 have HA:=LH hA
 have HCO:=LH (fun w' L' (h:MaIs w' B b L' cv (.slice (some ⟨gi,oi,none⟩) nI ic) M2)=>mcount_any h hs2)
 have kb:=blk_cell h.blk
 have lb:=lt_of_heap h.blk
 have k0:(0:Int)≤(k:Int):=by omega
 have k1:(k:Int)<(nI:Int):=by omega
 have k2:(nI:Int)≤1048576:=by omega
 have k3: ¬M.ls≤M.steps:=by omega
 have k4:((((Fr.length+1:Nat):Int))==0)=false:=beq_eq_false_iff_ne.2 (by omega)
 clear h hcells hi h0 ht hA hs2 hM hpc hn hfpc hb
 go_enter Tryz.func101,Tryz.ntmps101
 go_wp2_with fail
 go_quiet (fail)
 go_wp2_with (first
  |(go_at_call 188;(with_reducible refine Calls.mono (A.out _ ((Chg.refl _ _).drewN _)) ?_);rintro e w2 ⟨rfl,hc2⟩;have C2:=LH (((Chg.refl [] w).drewN _).thenSame hc2);clear hc2))
 have c1:=(HC.out w2 (C2.out.block _ lf (by simp))).2.1
 have kb2:=blk_cell (C2.out.at (by simp) H.out.blk)
 have lb2:=C2.out.lt lb
 have lf2:=C2.out.lt lf
 have i2:=HI.out.kept (C0.out.thenSame C2.out)
 have x0:=i2.c0
 have x1:=i2.c1
 have x2:=i2.c2
 have x3:=i2.c3
 have x4:=i2.lt
 clear i2 kb
 go_quiet (fail)
 go_wp2_with fail
 generalize hW:w2.drewN _=W
 have C3:=LH (show Chg [] w W by rw[←hW];exact C2.out.drewN _)
 have e2:∀p,w2.cell? p=W.cell? p:=fun p=>by rw[←hW];rfl
 rw[e2]at c1 x0 x1 x2 x3
 simp only[e2]at kb2
 have y1:W.cell? ⟨b,1,none⟩=some (.slice (some ⟨gi,oi,none⟩) nI ic):=kb2 1
 rw[show w2.heap.size=W.heap.size by rw[←hW];rfl]at lb2 lf2 x4
 clear hW e2 kb2
 go_region_held3 (fun w'=>w'.cell? ⟨b,1,none⟩=some (.slice (some ⟨gi,oi,none⟩) nI ic)∧w'.cell? ⟨fb,Fr.length*4+1,none⟩=some (.int .i64 k)∧w'.cell? ⟨gi,oi+k*4,none⟩=some (.int .i64 20)∧w'.cell? ⟨gi,oi+k*4+1,none⟩=some (.int .i64 a)∧w'.cell? ⟨gi,oi+k*4+2,none⟩=some (.string s)∧w'.cell? ⟨gi,oi+k*4+3,none⟩=some (.slice ka kn kc))
  (first|go_keep)
  (fail)
 clear c1 x0 x1 x2 x3 y1
 generalize hW2:(W.alloc (Obj.cells #[.int .i64 20, .int .i64 a, .string s, .slice ka kn kc] 235)).drew=W2
 have C4:=LH (show Chg [] w W2 by rw[←hW2];exact(C3.out.alloc _).drew)
 have Q4:W2.heap[W.heap.size]? =some (.cells #[.int .i64 20, .int .i64 a, .string s, .slice ka kn kc] 235 (0,0)):=by rw[←hW2];exact heap_alloc_new W _
 have QL:Hid (W.heap.size∉L):=LH (fun hm=>by have:=LT.out _ hm;have:=C3.out.size;omega)
 clear hW2 lb2 lf2 x4
 generalize W.heap.size=q at*
 have H4:=H.out.kept C4.out
 have HO:=H4.offs
 have hne:b≠fb:=HO.2.2.2.2.1
 have hne2:fb≠b:=fun e=>hne e.symm
 have c4:=(HC.out W2 (C4.out.block _ lf (by simp))).2.1
 have f4:=(HC.out W2 (C4.out.block _ lf (by simp))).2.2.2.2
 have l4:=C4.out.lt lf
 have kb4:=blk_cell H4.blk
 have fb4:=blk_free H4.blk
 have lb4:=lt_of_heap H4.blk
 obtain⟨H5,T5⟩:=H4.setB (M':={M with steps:=M.steps+1}) ((Chg.refl [b] _).setCell ⟨b,9,none⟩ (.int .i64 (M.steps+1)) (fun _=>by simp)) (blk_set H4.blk 9 (.int .i64 (M.steps+1))) H4.val rfl rfl
 obtain⟨H6,T6⟩:=H5.setPc HMM.out ((k:Int)+1)
 have TT:=LH ((((Tr.refl L w).same C4.out).trans T5).trans T6)
 have H6:=LH H6
 rename_i H60
 clear H60 H5 T5 T6 H4 HO
 have Q4:=LH Q4
 rename_i Q40
 clear Q40
 have hs3:M.steps≤1048576:=by omega
 go_wp2_with fail
 generalize hW4:(W2.setCell ⟨b,9,none⟩ (.int .i64 (M.steps+1))).setCell ⟨fb,Fr.length*4+1,none⟩ (.int .i64 ((k:Int)+1))=W4
 rw[hW4]at H6 TT
 have hc4:Chg [b,fb] W2 W4:=by rw[←hW4];exact((Chg.refl _ _).setCell _ _ (fun _=>by simp)).setCell _ _ (fun _=>by simp)
 have qn:q∉[b,fb]:=fun hm=>by
  simp only[List.mem_cons,List.not_mem_nil,or_false]at hm
  rcases hm with e|e
  ·exact QL.out (by rw[e];exact BL.out.1)
  ·exact QL.out (by rw[e];exact BL.out.2)
 have Q5:=hc4.at qn Q4.out
 have kq:=blk_cell Q5
 have lq:=lt_of_heap Q5
 have tc:W4.cell? ⟨tb,20,none⟩=some (.func (.func 187) #[] #[]):=(HT.out.tr TT.out).at' 20 (by decide) (by decide)
 have tl:=(HT.out.tr TT.out).lt
 have D4:=LH (C0.out.then TT.out.chg (fun y hy hl=>by have:=HL.out y hy;omega))
 have H7:Hid (MaIs W4.drew B b L cv (.slice (some ⟨gi,oi,none⟩) nI ic) (preM M pf pfs)):=LH (by rw[HP.out];exact⟨_,_,_,_,_,H6.out.kept (Chg.refl _ _).drew⟩)
 clear hW4 hc4 Q5 qn c4 f4 l4 kb4 fb4 lb4
 go_still_tail 7,(by kernel_rfl)
 change wpList _ _ _ _ _ W4.drew
 go_wp2_with (first
  |(go_at_call 187;(with_reducible refine Calls.mono (HA.out _ L H7.out D4.out.drew) ?_);rintro e w5 ⟨rfl,L5,hm5,ht5⟩;have M5:=LH hm5;have T5:=LH ht5;clear hm5 ht5)
  |(go_at_call 47;(with_reducible refine Calls.mono (HCO.out _ L5 M5.out) ?_);rintro e w6 ⟨rfl,L6,hm6,ht6⟩;have M6:=LH hm6;have T6:=LH ht6;clear hm6 ht6))
 go_end0
 exact⟨rfl,L6,M6.out,((TT.out.same (Chg.refl _ _).drew).trans T5.out).trans T6.out⟩
end
end Go.Proofs.YtmofknmeljdodaaGreatDoor
