/- Chapter 55: the walk of TopBills. No condition but those that the statements name. -/
import Derived.Test.YtmofknmeljdodaaGreatDoorZS01
import Derived.Test.YtmofknmeljdodaaGreatDoorZB22
import Derived.Test.YtmofknmeljdodaaGreatDoorZB16
import Derived.Test.YtmofknmeljdodaaGreatDoorZB21
import Derived.Test.YtmofknmeljdodaaGreatDoorZB11
import Derived.Test.YtmofknmeljdodaaGreatDoorZB07
set_option maxHeartbeats 100000000
set_option maxRecDepth 100000
set_option linter.unusedVariables false
set_option linter.unusedSimpArgs false
open List renaming getElem_toArray→gTA,getElem_cons_zero→gCZ,getElem_cons_succ→gCS,setIfInBounds_toArray→sTA,set_cons_zero→sCZ,set_cons_succ→sCS
namespace Go.Proofs.YtmofknmeljdodaaGreatDoor
section
open Go.RowKit
theorem four_selfT {w:World} {b:Nat} (x0 x1 x2 x3:Value):Chg [b] w ((((w.setCell ⟨b,0,none⟩ x0).setCell ⟨b,1,none⟩ x1).setCell ⟨b,2,none⟩ x2).setCell ⟨b,3,none⟩ x3):=
 ((((Chg.refl [b] w).setCell _ _ (fun _=>by simp)).setCell _ _ (fun _=>by simp)).setCell _ _ (fun _=>by simp)).setCell _ _ (fun _=>by simp)
theorem names_at {w:World} {nb:Nat} (h:w.heap[nb]? =some (.cells #[.string ⟨#[102]⟩, .string ⟨#[103]⟩, .string ⟨#[104]⟩] 9 (0,0))) (f:Int) (j:Nat) (hj:(j:Int)=f%3):w.cell? ⟨nb,j,none⟩=some (.string (fnT f)):=by
 rw[blk_cell h]
 have:j=0∨j=1∨j=2:=by omega
 unfold fnT
 rcases this with rfl|rfl|rfl
 ·rw[if_pos (by omega)];rfl
 ·rw[if_neg (by omega),if_pos (by omega)];rfl
 ·rw[if_neg (by omega),if_neg (by omega)];rfl
structure BlI (W5 wr:World) (b mb ub:Nat) (v:Value) (l lt:List Ud):Prop where
 led:LIs wr b mb v (ledT l)
 tot:wr.heap[ub]? =some (usO (totT lt))
 own:∀g,v.ownBlock=some g→W5.heap.size≤g∧g≠ub
 chg:Chg [] W5 wr
 lo:W5.heap.size≤b∧W5.heap.size≤mb∧W5.heap.size≤ub∧b≠ub∧mb≠ub
theorem BlI.kept {W5 wr w':World} {b mb ub:Nat} {v:Value} {l lt:List Ud} (h:BlI W5 wr b mb ub v l lt) (hc:Chg [] wr w'):BlI W5 w' b mb ub v l lt:=
 ⟨h.led.keptN hc,hc.at (by simp) h.tot,h.own,h.chg.thenSame hc,h.lo⟩
theorem BlI.nin {W5 wr:World} {b mb ub:Nat} {v:Value} {l lt:List Ud} (h:BlI W5 wr b mb ub v l lt):ub∉lfp b mb v:=fun hm=>by
 rcases mem_lfp.1 hm with e|e|e
 ·exact h.lo.2.2.2.1 e.symm
 ·exact h.lo.2.2.2.2 e.symm
 ·exact(h.own _ e).2 rfl
theorem BlI.recd {W5 wr w':World} {b mb ub:Nat} {v v':Value} {l l' lt:List Ud} (h:BlI W5 wr b mb ub v l lt) (hL:LIs w' b mb v' (ledT l')) (ho:∀g,v'.ownBlock=some g→v.ownBlock=some g∨wr.heap.size≤g) (hc:Chg (lfp b mb v) wr w'):BlI W5 w' b mb ub v' l' lt:=by
 have hub:=lt_of_heap h.tot
 refine⟨hL,hc.at h.nin h.tot,fun g hg=> ?_,h.chg.then hc (fun z hz hl=> ?_),h.lo⟩
 ·rcases ho g hg with e|e
  ·exact h.own g e
  ·have:=h.chg.size
   exact⟨by omega,by omega⟩
 ·rcases mem_lfp.1 hz with rfl|rfl|e
  ·have:=h.lo.1;omega
  ·have:=h.lo.2.1;omega
  ·have:=(h.own z e).1;omega
theorem BlI.sum {W5 wr w':World} {b mb ub:Nat} {v:Value} {l lt lt':List Ud} (h:BlI W5 wr b mb ub v l lt) (hc:Chg [ub] wr w') (hb:w'.heap[ub]? =some (usO (totT lt'))):BlI W5 w' b mb ub v l lt':=
 ⟨h.led.kept hc (fun x hx hm=>h.nin (by simp at hm;exact hm▸hx)),hb,h.own,h.chg.then hc (fun z hz hl=>by have:=h.lo.2.2.1;simp at hz;omega),h.lo⟩
theorem nin_lfp {wr:World} {b mb z:Nat} {v:Value} {s:Led} (h:LIs wr b mb v s) (hz:wr.heap.size≤z):z∉lfp b mb v:=fun hm=>by have:=h.lt z hm;omega
theorem nin_rec {wr w0:World} {b mb z:Nat} {v v':Value} {s:Led} (h:LIs wr b mb v s) (hz:wr.heap.size≤z) (hz2:z<w0.heap.size) (ho:∀g,v'.ownBlock=some g→v.ownBlock=some g∨w0.heap.size≤g):z∉lfp b mb v':=fun hm=>by
 rcases mem_lfp.1 hm with e|e|e
 ·exact nin_lfp h hz (mem_lfp.2 (.inl e))
 ·exact nin_lfp h hz (mem_lfp.2 (.inr (.inl e)))
 ·rcases ho z e with q|q
  ·exact nin_lfp h hz (mem_lfp.2 (.inr (.inr q)))
  ·omega
theorem us_goodT {m:Int} {s:Int} (h:smU m (usOf (s%1000))) (hm:m=1000:=by rfl):(usOf (s%1000)).good:=by
 obtain⟨h1,h2,h3,h4⟩:=h
 subst hm
 have w:∀n:Int,0≤n∧n≤1000→(Lit.int .i64 n).wf=true:=fun n hn=>(Lit.wf_int_iff _ _).2 (by simp[IntKind.min,IntKind.max,IntKind.bits,IntKind.signed];omega)
 exact⟨w _ h1,w _ h2,w _ h3,w _ h4⟩
theorem make_bills {w:World} {b mb tb:Nat} {v:Value} {l:List Ud} {free m0 m1:Int} (hl:l.length≤30) (h:LIs w b mb v (ledT l)) (f0:0≤free∧free≤255) (z0:0≤m0∧m0≤255) (z1:0≤m1∧m1≤255) (hp:SlIs trC 2 w (some ⟨tb,0,none⟩) 2 (pcT free m0 m1).ts):
 Calls Tryz.prog 25 #[.pointer (some ⟨b,0,none⟩), .agg #[.int .i64 0, .int .i64 free, .int .i64 3, .slice (some ⟨tb,0,none⟩) 2 2], .string ⟨#[116]⟩, .int .i64 0] w fun e w'=>∃(iv:Inv) (va:Option Addr) (vc:Nat),e= .returned (.tuple #[.agg #[.string iv.tn, .int .i64 iv.per, .slice va iv.ls.length vc, .int .i64 iv.gr, .int .i64 iv.re, .int .i64 iv.nt], .int .i64 0])∧SlIs lnC 6 w' va iv.ls.length iv.ls∧iv.ls.length≤30∧invZ iv=0∧iv.gr=(amtZ (pcT free m0 m1) (totT l)).1∧iv.nt=(amtZ (pcT free m0 m1) (totT l)).1∧(iv.ls.map fun x=>x.us.units).sum=(totT l).units∧sumMi iv.ls=(amtZ (pcT free m0 m1) (totT l)).1∧Chg [] w w':=by
 have hll:(ledT l).l.length≤4000:=by
  have:(ledT l).l.length=l.length:=crsT_len _ 0
  omega
 have MK:Calls Tryz.prog 25 #[.pointer (some ⟨b,0,none⟩), .agg #[.int .i64 0, .int .i64 free, .int .i64 3, .slice (some ⟨tb,0,none⟩) 2 2], .string ⟨#[116]⟩, .int .i64 0] w (MkePost w (ledT l) (pcT free m0 m1) tnT 0):=make_any h hll (pcT free m0 m1) (some ⟨tb,0,none⟩) 2 hp (by show 2≤maxLen;unfold maxLen;omega) tnT (by show 1≤maxLen;unfold maxLen;omega) 0 fns_small (by have:=fns_few hl;omega)
 refine MK.mono ?_
 rintro e w' ⟨O,v',hO,rfl,hrow,hc⟩
 obtain⟨b1,b2,b3,b4,b5,b6,b7⟩:=bills hl f0.1 f0.2 z0.1 z0.2 z1.1 z1.2 hO
 obtain⟨va,vc,rfl⟩:=RowOf.shape hrow
 rw[b1]
 refine⟨_,va,vc,rfl,(RowOf.sl hrow lnC_len).1,Nat.le_trans make_lenT (fns_few hl),b2,b4,b5,b6,b7,hc⟩
theorem rec_old' {l:List Ud} (h:l.length<30) (u:Ud):recE (ledT (l++[u])) (urT l.length u)=0∧recS (ledT (l++[u])) (urT l.length u)=ledT (l++[u]):=recT_old h u
theorem bills_walk0 (a0:Int) (a1:Int×Int) (a2:Option Addr) (len2 cap2:Nat) (l2:List Ud) (w:World) (h0:(Lit.int .u8 a0).wf=true) (h1:(Lit.int .u8 a1.1).wf=true∧(Lit.int .u8 a1.2).wf=true) (h2:SlIs udC 3 w a2 len2 l2∧(∀x∈l2,x.good)∧len2≤maxLen∧len2≤cap2) (DB0:∀w',Chg [] w w'→Calls Tryz.prog 7 #[] w' fun e w''=>e= .returned (.bool true)∧Chg [] w' w''):
 Calls Tryz.prog 5 #[.int .u8 a0, .agg #[.int .u8 a1.1, .int .u8 a1.2], .slice a2 len2 cap2] w fun e w'=>e= .returned (.bool true)∧Below w.heap.size w w':=by
 obtain⟨hl,hgd, -, -⟩:=h2
 obtain rfl:l2.length=len2:=hl.1
 obtain⟨m0,m1⟩:=a1
 simp only at h1⊢
 have hz0:=wf_u8S h0
 have hz1:=wf_u8S h1.1
 have hz2:=wf_u8S h1.2
 refine Calls.mono (R:=fun e w'=>e= .returned (.bool true)∧Chg [] w w') ?_ (fun e w' h=>⟨h.1,h.2.toBelow (Nat.le_refl _) (by simp)⟩)
 have DB:=LH DB0
 by_cases h30:30<l2.length
 ·have h30':(30:Int)<(l2.length:Int):=by omega
  have DBC:=LH (DB.out (w.alloc (.cells #[.int .u8 m0, .int .u8 m1] 83 (0,0))) ((Chg.refl _ _).alloc _))
  clear hl hgd DB0 h30 DB h0 h1
  go_enter Tryz.func5,Tryz.ntmps5
  go_wp2_with (first
   |(go_at_call 7;(with_reducible refine Calls.mono DBC.out ?_);rintro e w2 ⟨rfl,hc⟩;have C2:=LH (((Chg.refl [] w).alloc _).thenSame hc);clear hc)
   |fail)
  go_ret
  exact⟨rfl,C2.out⟩
 have h30':(l2.length:Int)≤30:=by omega
 have hl30:l2.length≤30:=by omega
 have HL:=LH hl
 have HGD:=LH hgd
 have c0:IntKind.i64.wrap a0=a0:=IntWalk.i64_in _ (by omega)
 have c1:IntKind.i64.wrap m0=m0:=IntWalk.i64_in _ (by omega)
 have c2:IntKind.i64.wrap m1=m1:=IntWalk.i64_in _ (by omega)
 clear hl hgd DB0 h30 h0 h1
 go_enter Tryz.func5,Tryz.ntmps5
 go_upto_region 6 with fail
 obtain⟨W5,hW5⟩:∃W5,W5=((((w.alloc (.cells #[.int .u8 m0, .int .u8 m1] 83 (0,0))).alloc (.cells #[.int .i64 50, .int .i64 m0, .int .i64 0, .int .i64 m1] 86 (0,0))).alloc (.cells #[.int .i64 0, .int .i64 a0, .int .i64 3, .slice (some ⟨w.heap.size+1,0,none⟩) 2 2] 89 (0,0))).alloc (.cells #[.int .i64 10, .int .i64 7] 91 (0,0))).alloc (.cells #[.string ⟨#[102]⟩, .string ⟨#[103]⟩, .string ⟨#[104]⟩] 9 (0,0)):=⟨_,rfl⟩
 have C5:=LH (show Chg [] w W5 by rw[hW5];exact(((((Chg.refl _ _).alloc _).alloc _).alloc _).alloc _).alloc _)
 have S5:W5.heap.size=w.heap.size+5:=by rw[hW5];simp only[World.size_alloc]
 have PT:=LH (show W5.heap[w.heap.size+1]? =some (.cells #[.int .i64 50, .int .i64 m0, .int .i64 0, .int .i64 m1] 86 (0,0)) by rw[hW5];exact blk_alloc (blk_alloc (blk_alloc (alloc_atK (by simp only[World.size_alloc])))))
 have PP:=LH (show W5.heap[w.heap.size+1+1]? =some (.cells #[.int .i64 0, .int .i64 a0, .int .i64 3, .slice (some ⟨w.heap.size+1,0,none⟩) 2 2] 89 (0,0)) by rw[hW5];exact blk_alloc (blk_alloc (alloc_atK (by simp only[World.size_alloc]))))
 have PM:=LH (show W5.heap[w.heap.size+1+1+1]? =some (.cells #[.int .i64 10, .int .i64 7] 91 (0,0)) by rw[hW5];exact blk_alloc (alloc_atK (by simp only[World.size_alloc])))
 have PN:=LH (show W5.heap[w.heap.size+1+1+1+1]? =some (.cells #[.string ⟨#[102]⟩, .string ⟨#[103]⟩, .string ⟨#[104]⟩] 9 (0,0)) by rw[hW5];exact alloc_atK (by simp only[World.size_alloc]))
 have HTS:=LH (show SlIs trC 2 W5 (some ⟨w.heap.size+1,0,none⟩) 2 (pcT a0 m0 m1).ts from SlIs.ofBlock (cf:=trC) [⟨50,m0⟩,⟨0,m1⟩] PT.out (fun _=>rfl) rfl)
 rw[←hW5]
 have S5:=LH S5
 rename_i S50
 clear hW5 S50 PT
 obtain⟨tb,htb⟩:∃tb,tb=w.heap.size+1:=⟨_,rfl⟩
 rw[←htb]
 rw[←htb]at PP PM PN HTS
 obtain⟨pb,hpb⟩:∃pb,pb=tb+1:=⟨_,rfl⟩
 rw[←hpb]
 rw[←hpb]at PP PM PN
 obtain⟨pm,hpm⟩:∃pm,pm=pb+1:=⟨_,rfl⟩
 rw[←hpm]
 rw[←hpm]at PM PN
 obtain⟨nb,hnb⟩:∃nb,nb=pm+1:=⟨_,rfl⟩
 rw[←hnb]
 rw[←hnb]at PN
 clear htb hpb hpm hnb
 go_wp2_with (first
  |(go_at_call 21;(with_reducible refine Calls.mono (new_any W5) ?_);rintro e w6 ⟨b,mb,rfl,hL6,hb6,hm6,hc6⟩;have L6:=LH hL6;have C6:=LH hc6;have B6:=LH hb6;have M6:=LH hm6;clear hL6 hb6 hm6 hc6)
  |fail)
 generalize hW7:w6.alloc (.cells #[.int .i64 0, .int .i64 0, .int .i64 0, .int .i64 0] 96 (0,0))=W7
 have I7:Hid (BlI W5 W7 b mb w6.heap.size (.slice none 0 0) [] []):=LH (by
  rw[←hW7]
  have h1:=L6.out.lt b (mem_lfp.2 (.inl rfl))
  have h2:=L6.out.lt mb (mem_lfp.2 (.inr (.inl rfl)))
  exact⟨L6.out.keptN ((Chg.refl _ _).alloc _),heap_alloc_new _ _,(fun g hg=>by cases hg),C6.out.alloc _,B6.out,M6.out,C6.out.size,by omega,by omega⟩)
 clear hW7 L6 C6 B6 M6
 obtain⟨ub,hub⟩:∃ub,ub=w6.heap.size:=⟨_,rfl⟩
 rw[←hub]
 rw[←hub]at I7
 clear hub
 go_loopw [12] (fun i wr=>∃(k:Nat) (v:Value),i= .int .i64 k∧k≤l2.length∧Hid (BlI W5 wr b mb ub v (l2.take k) (l2.take k))) (fun i _=>l2.length-(intOf i).toNat)
 case atStart=>exact⟨0,_,rfl,Nat.zero_le _,I7⟩
 case round=>
  clear I7
  obtain⟨k,v,rfl,hk,BI⟩:=hrel
  have hk0:(0:Int)≤(k:Int):=by omega
  by_cases hkl:k<l2.length
  ·have hk1:(k:Int)<(l2.length:Int):=by omega
   have hk30:k<30:=by omega
   have CW:=LH (C5.out.thenSame BI.out.chg)
   obtain⟨lb,lo,rfl,hlb, -,hcc0⟩:=HL.out.elem CW.out k hkl
   have hops:∀w',Chg [] w w'→∀j,j<3→w'.cell? ⟨lb,lo+k*3+j,none⟩=(udC l2[k])[j]? :=by
    intro w' hc
    obtain⟨g',o',e, -,_,hcc'⟩:=HL.out.elem hc k hkl
    cases e
    exact hcc'
   have hgx:=HGD.out _ (List.getElem_mem hkl)
   have htk:l2.take (k+1)=l2.take k++[l2[k]]:=List.take_succ_eq_append_getElem hkl
   have hlk:(l2.take k).length=k:=by rw[List.length_take];omega
   have RN:=recT_new (l:=l2.take k) (by omega) l2[k]
   have RO:=rec_old' (l:=l2.take k) (by omega) l2[k]
   have TS:=totT_step (l:=l2.take k) (by omega) l2[k]
   rw[hlk]at RN RO
   rw[←htk]at RN RO TS
   clear hcc0
   generalize l2[k]=x at*
   have hq:=wf_u8S hgx.1
   have hs:=wf_u16S hgx.2
   have V:=LH (show ∀w',Chg [] w w'→w'.cell? ⟨lb,lo+k*3,none⟩=some (.int .u8 x.f)∧w'.cell? ⟨lb,lo+k*3+1,none⟩=some (.int .u16 x.s)∧w'.cell? ⟨lb,lo+k*3+2,none⟩=some (.bool x.fl)from fun w' hc=>⟨hops w' hc 0 (by omega),hops w' hc 1 (by omega),hops w' hc 2 (by omega)⟩)
   have RN:=LH RN
   have RO:=LH RO
   have TS:=LH TS
   rename_i RN0 RO0 TS0
   have HTK:=LH htk
   have HLK:=LH hlk
   clear hops hgx htk hlk RN0 RO0 TS0
   have hlw:=CW.out.lt hlb
   go_upto_region 11 with fail
   refine bills_r11 (by kernel_rfl) (BI.out.chg.at (by simp) PM.out) (V.out _ CW.out).2.1 hlw hk0 hk1 hs.1 hs.2 _ (fun ub2 y50 y51 y52 y53 y54 y55 y56 y57 y58 y59 y60 y61 wz BU CZ LB=> ?_)
   have hux:usOf (x.s%1000)=⟨1,x.s%1000,tkB (x.s%1000),unB (x.s%1000)⟩:=rfl
   obtain⟨j,hj⟩:∃j:Nat,(j:Int)=x.f%3:=⟨(x.f%3).toNat,by omega⟩
   have hur:urV (urT k x)= .agg #[.string (nmT k), .string ⟨#[116]⟩, .string (fnT x.f), .int .i64 0, .int .i64 1, .int .i64 (x.s%1000), .int .i64 (tkB (x.s%1000)), .int .i64 (unB (x.s%1000)), .bool x.fl]:=rfl
   have hgr:(urT k x).good:=⟨show(nmT k).size≤maxLen from by show 3≤maxLen;unfold maxLen;omega,show(1:Nat)≤maxLen from by unfold maxLen;omega,name_smallT (fnT_name x.f),rfl,us_goodT (smU_of x.s)⟩
   have HGR:=LH hgr
   have HUR:=LH hur
   rw[hux]at BU TS
   unfold usO at BU
   simp only at BU
   have HUR:=LH hur
   have IZ:=LH (BI.out.kept CZ.out)
   obtain⟨sx,hsx⟩:∃sx,sx=x.s%1000:=⟨_,rfl⟩
   obtain⟨tk,htk⟩:∃tk,tk=tkB sx:=⟨_,rfl⟩
   obtain⟨un,hun⟩:∃un,un=unB sx:=⟨_,rfl⟩
   rw[←hsx,←htk,←hun]at BU TS HUR
   have KZ:=LH (show ∀w',Chg [] wz w'→w'.cell? ⟨nb,j,none⟩=some (.string (fnT x.f))∧w'.cell? ⟨lb,lo+k*3,none⟩=some (.int .u8 x.f)∧w'.cell? ⟨lb,lo+k*3+2,none⟩=some (.bool x.fl)∧w'.cell? ⟨ub2,0,none⟩=some (.int .i64 1)∧w'.cell? ⟨ub2,1,none⟩=some (.int .i64 sx)∧w'.cell? ⟨ub2,2,none⟩=some (.int .i64 tk)∧w'.cell? ⟨ub2,3,none⟩=some (.int .i64 un)from fun w' hc=>
    have b13:=hc.at (S:=[]) (by simp) BU.out
    have cw:=(CW.out.thenSame CZ.out).thenSame hc
    ⟨names_at (((BI.out.chg.thenSame CZ.out).thenSame hc).at (by simp) PN.out) x.f j hj,(V.out w' cw).1,(V.out w' cw).2.2,blk_cell b13 (i:=0),blk_cell b13 (i:=1),blk_cell b13 (i:=2),blk_cell b13 (i:=3)⟩)
   have hu2:=lt_of_heap BU.out
   have hl2:=CZ.out.lt hlw
   have hn2:=(BI.out.chg.thenSame CZ.out).lt (lt_of_heap PN.out)
   have HJ:=LH hj
   clear hur hgr hux hsx htk hun hj
   go_upto_region 14 with fail
   refine bills_r14 (by kernel_rfl) KZ.out hu2 hl2 hn2 hk0 hk1 hk30 HJ.out hq.1 hq.2 _ (fun b2 q64 q65 q66 q67 q68 q69 q70 q71 q72 q73 q74 q75 q76 q77 q78 q79 q80 q81 wy BR CY LR=> ?_)
   have IY:=LH (IZ.out.kept CY.out)
   have hL0:=IY.out.led
   have hll:(ledT (l2.take k)).l.length≤4000:=by
    have:(ledT (l2.take k)).l.length=(l2.take k).length:=crsT_len _ 0
    rw[this,HLK.out];omega
   have hll2:(ledT (l2.take (k+1))).l.length≤4000:=by
    have:(ledT (l2.take (k+1))).l.length=(l2.take (k+1)).length:=crsT_len _ 0
    rw[this,List.length_take];omega
   have A1:=rec_any (urT k x) HGR.out hL0 hll
   rw[RN.out.1,RN.out.2,HUR.out]at A1
   have A2:=fun w1 v1 (h:LIs w1 b mb v1 (ledT (l2.take (k+1))))=>rec_any (urT k x) HGR.out h hll2
   rw[RO.out.1,RO.out.2,HUR.out]at A2
   have A1:=LH A1
   have A2:=LH A2
   rename_i A10 A20
   have NU:=LH (nin_lfp BI.out.led LB.out)
   have NR:=LH (nin_lfp IZ.out.led LR.out)
   have UY:=LH (CY.out.at (S:=[]) (by simp) BU.out)
   have V3:=LH (show ∀w',Chg [] W5 w'→w'.cell? ⟨lb,lo+k*3+2,none⟩=some (.bool x.fl)from fun w' hc=>(V.out w' (C5.out.thenSame hc)).2.2)
   have kr:=blk_cell BR.out
   have lr:=lt_of_heap BR.out
   clear A10 A20 hL0 hll hll2 KZ HUR HGR HJ
   obtain⟨xf,xs,fl⟩:=x
   simp only at hq hs V V3 RN RO TS
   cases fl
   ·have T1:=TS.out.1
    have A30:=fun w'=>madd_any (totT (l2.take k)) ⟨1,sx,tk,un⟩ w'
    rw[TS.out.2]at A30
    rw[if_neg (by simp)]at T1
    rw[←T1]at A30
    unfold usV at A30
    simp only at A30
    obtain⟨⟨n1,n2,n3,n4⟩,hN⟩:∃U,U=totT (l2.take (k+1)):=⟨_,rfl⟩
    rw[←hN]at A30
    simp only at A30
    have HN:=LH hN
    have A3:=LH A30
    clear T1 A30 hN
    go_wp2_with (first
     |(go_at_call 23;(with_reducible refine Calls.mono A1.out ?_);rintro e w1 ⟨rfl,v1,hL1,ho1,hc1⟩;have I1:=LH (IY.out.recd hL1 ho1 hc1);have O1:=LH ho1;have kr1:=blk_cell (hc1.at NR.out BR.out);have lr1:=lt_of_heap (hc1.at NR.out BR.out);have U1:=LH (hc1.at NU.out UY.out);clear hL1 ho1 hc1)
     |(go_at_call 23;(with_reducible refine Calls.mono (A2.out _ _ I1.out.led) ?_);rintro e w2 ⟨rfl,v2,hL2,ho2,hc2⟩;have I2:=LH (I1.out.recd hL2 ho2 hc2);have U2:=LH (hc2.at (nin_rec BI.out.led LB.out (lt_of_heap UY.out) O1.out) U1.out);have kv2:=V3.out w2 I2.out.chg;have lv2:=(C5.out.thenSame I2.out.chg).lt hlb;have ku2:=blk_cell U2.out;have lu2:=lt_of_heap U2.out;have ks2:=blk_cell I2.out.tot;have ls2:=lt_of_heap I2.out.tot;clear hL2 ho2 hc2)
     |(go_at_call 24;(with_reducible refine Calls.mono (A3.out _) ?_);rintro e w3 ⟨rfl,hc3⟩;have C3:=LH hc3;have I3:=LH (I2.out.kept hc3);have ks3:=blk_cell I3.out.tot;have fs3:=blk_free I3.out.tot;have ls3:=lt_of_heap I3.out.tot;clear hc3)
     |fail)
    have q4:w3.heap[ub]? =some (.cells #[.int .i64 (totT (l2.take k)).inv, .int .i64 (totT (l2.take k)).steps, .int .i64 (totT (l2.take k)).ticks, .int .i64 (totT (l2.take k)).units] 96 (0,0)):=I3.out.tot
    have q5:=four_atT (.int .i64 n1) (.int .i64 n2) (.int .i64 n3) (.int .i64 n4) q4
    have I4:=I3.out.sum (lt':=l2.take (k+1)) (four_selfT (.int .i64 n1) (.int .i64 n2) (.int .i64 n3) (.int .i64 n4)) (by rw[←HN.out];exact q5)
    have I5:=I4.kept ((Chg.refl [] _).alloc (.cells #[.int .i64 n1, .int .i64 n2, .int .i64 n3, .int .i64 n4] 96 (0,0)))
    exact⟨⟨k+1,v2,by go_num,by omega,LH I5⟩,by simp[intOf];omega⟩
   ·have T1:=TS.out.1
    rw[if_pos rfl]at T1
    have HT1:=LH T1
    clear T1
    go_wp2_with (first
     |(go_at_call 23;(with_reducible refine Calls.mono A1.out ?_);rintro e w1 ⟨rfl,v1,hL1,ho1,hc1⟩;have I1:=LH (IY.out.recd hL1 ho1 hc1);have O1:=LH ho1;have kr1:=blk_cell (hc1.at NR.out BR.out);have lr1:=lt_of_heap (hc1.at NR.out BR.out);have U1:=LH (hc1.at NU.out UY.out);clear hL1 ho1 hc1)
     |(go_at_call 23;(with_reducible refine Calls.mono (A2.out _ _ I1.out.led) ?_);rintro e w2 ⟨rfl,v2,hL2,ho2,hc2⟩;have I2:=LH (I1.out.recd hL2 ho2 hc2);have U2:=LH (hc2.at (nin_rec BI.out.led LB.out (lt_of_heap UY.out) O1.out) U1.out);have kv2:=V3.out w2 I2.out.chg;have lv2:=(C5.out.thenSame I2.out.chg).lt hlb;have ku2:=blk_cell U2.out;have lu2:=lt_of_heap U2.out;have ks2:=blk_cell I2.out.tot;have ls2:=lt_of_heap I2.out.tot;clear hL2 ho2 hc2)
     |fail)
    exact⟨⟨k+1,v2,by go_num,by omega,LH ⟨I2.out.led,by rw[HT1.out];exact I2.out.tot,I2.out.own,I2.out.chg,I2.out.lo⟩⟩,by simp[intOf];omega⟩
  ·have hke:k=l2.length:=by omega
   subst hke
   rw[List.take_length]at BI
   have MK:=LH (make_bills hl30 BI.out.led hz0 hz1 hz2 (HTS.out.kept BI.out.chg))
   have PA0:=fun w' (hc:Chg [] W5 w')=>pamt_any (pcT a0 m0 m1) (totT l2) (some ⟨tb,0,none⟩) 2 w' (HTS.out.kept hc) (by show 2≤maxLen;unfold maxLen;omega)
   obtain⟨g1,g2,g3, -⟩:=amt_ok hz0.1 hz0.2 hz1.1 hz1.2 hz2.1 hz2.2 (totT_sm l2 hl30)
   rw[g1]at PA0
   have tsm:=(totT_sm l2 hl30).2.2.2
   obtain⟨G,hG⟩:∃G,G=(amtZ (pcT a0 m0 m1) (totT l2)).1:=⟨_,rfl⟩
   rw[←hG]at MK PA0 g2 g3
   have PA1:∀w',Chg [] W5 w'→Calls Tryz.prog 27 #[.agg #[.int .i64 0, .int .i64 a0, .int .i64 3, .slice (some ⟨tb,0,none⟩) 2 2], .agg #[.int .i64 (totT l2).inv, .int .i64 (totT l2).steps, .int .i64 (totT l2).ticks, .int .i64 (totT l2).units]] w' fun e w''=>e= .returned (.tuple #[.int .i64 G, .int .i64 0])∧Chg [] w' w'':=PA0
   have PA:=LH PA1
   have kt:=blk_cell BI.out.tot
   have lt:=lt_of_heap BI.out.tot
   have kp:=blk_cell (BI.out.chg.at (by simp) PP.out)
   have lp:=lt_of_heap (BI.out.chg.at (by simp) PP.out)
   have CW:=LH (C5.out.thenSame BI.out.chg)
   clear PA0 PA1 hG g1
   go_wp2_with (first
    |(go_at_call 25;(with_reducible refine Calls.mono MK.out ?_);rintro e w3 ⟨⟨tn,per,ls,gr,re,nt⟩,va,vc,rfl,hsl,hll,hiz,hgr,hnt,hun,hmi,hc3⟩;simp only at hgr hnt hun hmi hsl hll;(have hgr2:=hgr.symm;have hnt2:=hnt.symm;clear hgr hnt;subst hgr2;subst hnt2);have SL3:=LH hsl;have IZ3:=LH hiz;have UN3:=LH hun;have MI3:=LH hmi;have C3:=LH hc3;have CK0:=fun w' (hc:Chg [] w3 w')=>check_any ⟨tn,per,ls,G,re,G⟩ va vc w' (hsl.kept hc) (inv_goodT hiz (by simp only;unfold maxLen;omega));rw[hiz]at CK0;unfold ivV at CK0;simp only at CK0;have CK:=LH CK0;have T3:=LH (BI.out.kept hc3);clear hsl hiz hun hmi hc3 CK0)
    |(go_at_call 26;(with_reducible refine Calls.mono (CK.out _ ((Chg.refl _ _).alloc _)) ?_);rintro e w4 ⟨rfl,hc4⟩;have C4:=LH (((Chg.refl [] w3).alloc (.cells #[.string tn, .int .i64 per, .slice va ls.length vc, .int .i64 G, .int .i64 re, .int .i64 G] 108 (0,0))).thenSame hc4);have K4:=LH (hc4.at (by simp) (heap_alloc_new w3 (.cells #[.string tn, .int .i64 per, .slice va ls.length vc, .int .i64 G, .int .i64 re, .int .i64 G] 108 (0,0))));have D4:=LH (T3.out.chg.thenSame C4.out);have kp4:=blk_cell (D4.out.at (by simp) PP.out);have lp4:=lt_of_heap (D4.out.at (by simp) PP.out);have kt4:=blk_cell (C4.out.at (by simp) T3.out.tot);have lt4:=lt_of_heap (C4.out.at (by simp) T3.out.tot);clear hc4)
    |(go_at_call 27;(with_reducible refine Calls.mono (PA.out _ D4.out) ?_);rintro e w5 ⟨rfl,hc5⟩;have C5':=LH (C4.out.thenSame hc5);have K5:=LH (hc5.at (by simp) K4.out);have k5:=blk_cell K5.out;have l5:=lt_of_heap K5.out;have T5:=LH (T3.out.kept C5'.out);have kt5:=blk_cell T5.out.tot;have lt5:=lt_of_heap T5.out.tot;clear hc5)
    |fail)
   have SL5:=LH (SL3.out.kept C5'.out)
   have D5:=LH (C5.out.thenSame T5.out.chg)
   have IN:=lines_mi (inv_ok IZ3.out).2.2.1
   simp only at IN
   have NU:=LH (show ∀y∈ls.map (fun x=>x.us.units),0≤y from fun y hy=>by
    obtain⟨z,hz,rfl⟩:=List.mem_map.1 hy
    exact(usB_bounds (IN z hz).2.1).2.2.2.1)
   have NM:=LH (show ∀y∈ls.map Ln.mi,0≤y from fun y hy=>by
    obtain⟨z,hz,rfl⟩:=List.mem_map.1 hy
    exact(IN z hz).2.2.1)
   have TB:=LH tsm
   have GB:=LH g3
   have ltw:=T5.out.chg.size
   clear IN MK PA BI T3 D4 CK SL3 C3 C4 K4 kp4 lp4 kt4 lt4 CW tsm
   go_loopw [21,22,23] (fun u s i wr'=>∃m:Nat,u= .int .i64 ((ls.map (fun x=>x.us.units)).take m).sum∧s= .int .i64 ((ls.map Ln.mi).take m).sum∧i= .int .i64 m∧m≤ls.length∧wr'=w5) (fun _ _ i _=>ls.length-(intOf i).toNat)
   case atStart=>exact⟨0,rfl,rfl,rfl,Nat.zero_le _,rfl⟩
   case round=>
    obtain⟨m,rfl,rfl,rfl,hm,rfl⟩:=hrel
    have hm0:(0:Int)≤(m:Int):=by omega
    by_cases hml:m<ls.length
    ·have hm1:(m:Int)<(ls.length:Int):=by omega
     obtain⟨g,o,rfl, -,hg,hcc⟩:=SL5.out.elem (Chg.refl [] _) m hml
     have d4:=hcc 4 (by omega)
     have d5:=hcc 5 (by omega)
     have e1:(ls.map (fun x=>x.us.units))[m]? =some ls[m].us.units:=by simp[hml]
     have e2:(ls.map Ln.mi)[m]? =some ls[m].mi:=by simp[hml]
     have s1:=sumT_step e1
     have s2:=sumT_step e2
     have n1:=sumT_take NU.out (m+1)
     have n2:=sumT_take NM.out (m+1)
     generalize ls[m]=y at*
     simp only[lnC,List.getElem?_cons_zero,List.getElem?_cons_succ]at d4 d5
     rw[UN3.out]at n1
     rw[show(ls.map Ln.mi).sum=G from MI3.out]at n2
     have q1:IntKind.i64.wrap (((ls.map (fun x=>x.us.units)).take m).sum+y.us.units)=((ls.map (fun x=>x.us.units)).take (m+1)).sum:=by rw[←s1];exact IntWalk.i64_in _ (by have:=TB.out;omega)
     have q2:IntKind.i64.wrap (((ls.map Ln.mi).take m).sum+y.mi)=((ls.map Ln.mi).take (m+1)).sum:=by rw[←s2];exact IntWalk.i64_in _ (by have:=GB.out;omega)
     obtain⟨u2,hu2⟩:∃u2,u2=((ls.map (fun x=>x.us.units)).take (m+1)).sum:=⟨_,rfl⟩
     obtain⟨v2,hv2⟩:∃v2,v2=((ls.map Ln.mi).take (m+1)).sum:=⟨_,rfl⟩
     rw[←hu2]at q1
     rw[←hv2]at q2
     have HU2:=LH hu2
     have HV2:=LH hv2
     clear hcc e1 e2 s1 s2 n1 n2 hu2 hv2
     generalize ((ls.map (fun x=>x.us.units)).take m).sum=u1 at*
     generalize ((ls.map Ln.mi).take m).sum=v1 at*
     go_wp2_with fail
     exact⟨⟨m+1,by rw[←HU2.out],by rw[←HV2.out],by go_num,by omega,by first|rfl|trivial⟩,by simp[intOf];omega⟩
    ·have hme:m=ls.length:=by omega
     subst hme
     have hU:((ls.map (fun x=>x.us.units)).take ls.length).sum=(totT l2).units:=by rw[List.take_of_length_le (by simp)];exact UN3.out
     have hM:((ls.map Ln.mi).take ls.length).sum=G:=by rw[List.take_of_length_le (by simp)];exact MI3.out
     rw[hU,hM]
     have hb1:((totT l2).units==(totT l2).units)=true:=beq_self_eq_true _
     have hb2:(G==G)=true:=beq_self_eq_true _
     have DBX:=LH (DB.out _ D5.out)
     clear hU hM
     go_wp2_with (first
      |(go_at_call 7;(with_reducible refine Calls.mono DBX.out ?_);rintro e w9 ⟨rfl,hc9⟩;have C9:=LH (D5.out.thenSame hc9);clear hc9)
      |fail)
     go_ret
     exact⟨rfl,C9.out⟩
end
end Go.Proofs.YtmofknmeljdodaaGreatDoor
