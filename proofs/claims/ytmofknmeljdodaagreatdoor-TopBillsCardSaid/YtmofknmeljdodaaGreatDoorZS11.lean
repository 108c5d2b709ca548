/- Chapter 9: contract: (*scope).block, given walk of the parts. No condition but those that the statements name. -/
import Derived.Test.YtmofknmeljdodaaGreatDoorZS01
import Derived.Test.YtmofknmeljdodaaGreatDoorZS10
set_option maxHeartbeats 100000000
set_option maxRecDepth 100000
set_option linter.unusedVariables false
set_option linter.unusedSimpArgs false
open List renaming getElem_toArray→gTA,getElem_cons_zero→gCZ,getElem_cons_succ→gCS,setIfInBounds_toArray→sTA,set_cons_zero→sCZ,set_cons_succ→sCS
namespace Go.Proofs.YtmofknmeljdodaaGreatDoor
section
open Go.RowKit
theorem firstGo_count {F:Nat→Int} {l:List PNd} {x:PNd} (hF:∀i,F i≤i):∀{k:Nat} {a:Int},0≤firstGo F l x k a→(k:Int)≤a:=by
 intro k
 induction k with
 |zero=>intro a h;rw[firstGo]at h;omega
 |succ k ih=>
  intro a h
  rw[firstGo]at h
  split at h
  ·omega
  ·split at h
   ·omega
   ·split at h
    ·omega
    ·split at h
     ·omega
     ·split at h
      ·omega
      ·have:=ih h
       have:=hF (a-1).toNat
       omega
theorem firstF_count {l:List PNd} {n i:Nat} {x:PNd} (hx:l[i]? =some x) (h:0≤firstF l (n+1) i):x.kids.length≤i:=by
 rw[firstF,hx]at h
 simp only at h
 split at h
 ·have:=firstGo_count (fun j=>firstF_le n j) h
  omega
 ·omega
theorem skC_lenS (x:ByteArray):(skC x).length=1:=rfl
theorem skInfo:(Tryz.prog.info? 9).map (fun i=>(i.zero,i.size,i.bytes))=some (some (.string ⟨#[]⟩),1,16):=by kernel_rfl
theorem nodes_p_at {x:Pr} {m:Nat} (h:m<x.nodes.length):x.p.nodes[m]? =some (x.nodes[m]).p:=by
 show(x.nodes.map Nd.p)[m]? =_
 rw[List.getElem?_map,List.getElem?_eq_getElem h]
 rfl
theorem decl_yes {x:Pr} {S:ScS} {d:List ByteArray} {m:Nat} (hm:m<x.nodes.length) (h1:(x.nodes[m].kind==13)=true) (h2:S.errs[m]? =some 0):declZ x.p S d m=d++[x.nodes[m].text]:=by
 unfold declZ
 rw[nodes_p_at hm]
 exact if_pos ⟨(by simpa using h1:x.nodes[m].kind=13),h2⟩
theorem decl_no {x:Pr} {S:ScS} {d:List ByteArray} {m:Nat} (hm:m<x.nodes.length) (h: ¬((x.nodes[m].kind==13)=true∧S.errs[m]? =some 0)):declZ x.p S d m=d:=by
 unfold declZ
 rw[nodes_p_at hm]
 exact if_neg (fun e=>h ⟨by have e1:x.nodes[m].kind=13:=e.1;simpa using e1,e.2⟩)
def WalkOk (x:Pr) (w0:World) (B b mb sb eb n:Nat):Prop:=∀(w:World) (S:ScS) (i:Nat),Chg [] w0 w→ScAt x B b mb sb eb w S→i<n→i<x.nodes.length→0≤firstF (x.nodes.map Nd.p) n i→
 Calls Tryz.prog 157 #[.pointer (some ⟨b,0,none⟩), .int .i64 i] w fun e w'=>e= .returned (.tuple #[])∧ScAt x B b mb sb eb w' (walkZ x.p n S i)∧Chg [b,mb,sb,eb] w w'
theorem Sep.nil {B b mb sb eb:Nat} {w0 w w':World} (hs:Sep B b mb sb eb) (hB:w0.heap.size≤B) (h0:Chg [] w0 w) (hc:Chg [b,mb,sb,eb] w w'):Chg [] w0 w':=
 h0.then hc (by
  intro y hy hl
  have h1:=hs.l1
  have h2:=hs.l2
  have h3:=hs.l3
  have h4:=hs.l4
  simp only[List.mem_cons,List.not_mem_nil,or_false]at hy
  omega)
theorem ScAt.below {x:Pr} {B b mb sb eb:Nat} {w:World} {S:ScS} (h:ScAt x B b mb sb eb w S):∀y∈[b,mb,sb,eb],y<w.heap.size:=by
 intro y hy
 simp only[List.mem_cons,List.not_mem_nil,or_false]at hy
 rcases hy with rfl|rfl|rfl|rfl
 ·exact lt_of_heap h.box
 ·exact h.map.lt
 ·exact(RowOf.atS h.sl icI_len1).2.2.2.2.2.2
 ·exact(RowOf.atS h.er icI_len1).2.2.2.2.2.2
theorem sblock_any {x:Pr} {w0:World} {B b mb sb eb n:Nat} (hs:Sep B b mb sb eb) (hB:w0.heap.size≤B) (hp:PrIn w0 x) (IH:WalkOk x w0 B b mb sb eb n) (d:Nd) (hd:NdIn w0 d) (hkl:d.kids.length≤600)
 (hk:∀kk,kk<d.kids.length→∃m:Nat,d.kids[kk]? =some (m:Int)∧m<n∧m<x.nodes.length∧0≤firstF (x.nodes.map Nd.p) n m) {w:World} {S:ScS} (h0:Chg [] w0 w) (h:ScAt x B b mb sb eb w S):
 Calls Tryz.prog 229 #[.pointer (some ⟨b,0,none⟩), .agg (ndC d).toArray] w fun e w'=>e= .returned (.tuple #[])∧ScAt x B b mb sb eb w' (dropV (d.kids.foldl (stmZ x.p (walkZ x.p n)) (S,[])).1 (d.kids.foldl (stmZ x.p (walkZ x.p n)) (S,[])).2)∧Chg [b,mb,sb,eb] w w':=by
 obtain⟨R,hR⟩:∃R,R=d.kids.foldl (stmZ x.p (walkZ x.p n)) (S,[]):=⟨_,rfl⟩
 rw[←hR]
 have HR:=LH hR
 have HD:=LH (fun w' (hc:Chg [] w0 w')=>show InIs icI 1 w' d.da d.dc d.kids from(hd.kept hc).2)
 have HNn:=LH (fun w' (hc:Chg [] w0 w')=>(hp.kept hc).1.1.1)
 have HK:=LH hk
 have HIH:=LH IH
 have HS:=LH hs
 have HB:=LH hB
 have HLT:=LH h.below
 obtain⟨W1,hW1⟩:∃W1,W1=w.alloc (ndO d):=⟨_,rfl⟩
 have C1:=LH (show Chg [b,mb,sb,eb] w W1 by rw[hW1];exact(Chg.refl _ _).alloc _)
 have A1:=LH (show ScAt x B b mb sb eb W1 S by rw[hW1];exact h.keptN ((Chg.refl _ _).alloc _))
 have B1:=LH (show W1.heap[w.heap.size]? =some (ndO d) by rw[hW1];exact heap_alloc_new _ _)
 have H0:=LH h0
 unfold ndO at hW1 B1
 have k1:=blk_cell B1.out
 simp only[ndC]
 clear hR hd hp hk IH hs hB h h0
 have hkli:(d.kids.length:Int)≤600:=by omega
 generalize d.kids=ks at*
 generalize d.da=da at*
 generalize d.dc=dc at*
 go_enter Tryz.func229,Tryz.ntmps229
 go_upto_region 1 with fail
 rw[←hW1]
 clear hW1
 go_wp2_with fail
 clear k1
 go_loopw [4,13] (fun u v wi=>∃(j:Nat) (av:Option Addr) (cv:Nat) (dl:List ByteArray) (S':ScS),u= .slice av dl.length cv∧v= .int .i64 j∧j≤ks.length∧dl.length≤j∧Hid (R=(ks.drop j).foldl (stmZ x.p (walkZ x.p n)) (S',dl))∧Hid (RowOf skC 1 wi w.heap.size 9 (.slice av dl.length cv) dl)∧Hid (ScAt x B b mb sb eb wi S')∧Hid (Chg [b,mb,sb,eb] w wi)) (fun _ v _=>ks.length-(intOf v).toNat)
 case atStart=>exact⟨0,none,0,[],S,rfl,rfl,Nat.zero_le _,Nat.zero_le _,LH HR.out,LH ⟨rfl, .inl ⟨rfl,rfl⟩⟩,A1,C1⟩
 case round=>
  obtain⟨j,av,cv,dl,S',rfl,rfl,hj,hdl,HF,Row,A,C⟩:=hrel
  have hj0:(0:Int)≤(j:Int):=by omega
  have H1:=LH (HS.out.nil HB.out H0.out C.out)
  by_cases hjl:j<ks.length
  ·have hjl':(j:Int)<(ks.length:Int):=by omega
   obtain⟨b2,o2,rfl, -, -,hc2⟩:=(HD.out _ H1.out).1.elem (Chg.refl [] _) j hjl
   obtain⟨m,hm1,hm2,hm3,hm4⟩:=HK.out j hjl
   rw[List.getElem?_eq_getElem hjl]at hm1
   injection hm1 with hm1
   have u1:=hc2 0 (by omega)
   simp only[icI,List.getElem?_cons_zero,Nat.add_zero,Nat.mul_one]at u1
   rw[hm1]at u1
   have HF2:=HF.out
   rw[List.drop_eq_getElem_cons hjl,List.foldl_cons,hm1,stmZ,Int.toNat_natCast]at HF2
   have AW:=LH (HIH.out _ S' m H1.out A.out hm2 hm3 hm4)
   have HF3:=LH HF2
   have qj:IntKind.i64.wrap ((j:Int)+1)=(j:Int)+1:=IntWalk.i64_in _ (by omega)
   have hm0:(0:Int)≤(m:Int):=by omega
   have hm':(m:Int)<(x.nodes.length:Int):=by omega
   clear hc2 hm1 HF2
   generalize hS:walkZ x.p n S' m=S2 at*
   go_upto_region 6 with (go_at_call 157;(with_reducible refine Calls.mono AW.out ?_);rintro e w5 ⟨rfl,ha,hc⟩;have A5:=LH ha;have C5:=LH (C.out.thenSame hc);have R5:=LH (RowOf.kept Row.out hc (fun g hg hm=>absurd (HLT.out g hm) (by have:=(Row.out.block g hg).1;omega)));clear ha hc u1)
   have H5:=LH (HS.out.nil HB.out H0.out C5.out)
   obtain⟨b3,o3,e3, -, -,hc3⟩:=(HNn.out _ H5.out).elem (Chg.refl [] _) m hm3
   have y0:=hc3 0 (by omega)
   have y1:=hc3 1 (by omega)
   have y2:=hc3 2 (by omega)
   have y3:=hc3 3 (by omega)
   have y4:=hc3 4 (by omega)
   simp only[ndC,List.getElem?_cons_zero,List.getElem?_cons_succ,Nat.add_zero]at y0 y1 y2 y3 y4
   have DY:=LH (decl_yes (S:=S2) (d:=dl) hm3)
   have DN:=LH (decl_no (S:=S2) (d:=dl) hm3)
   have k5:=blk_cell (by have:=A5.out.box;unfold scO at this;rw[e3]at this;exact this)
   generalize x.nodes[m]=y at*
   obtain⟨W6,hW6⟩:∃W6,W6=w5.alloc (ndO y):=⟨_,rfl⟩
   have N6:=LH (show Chg [] w5 W6 by rw[hW6];exact(Chg.refl _ _).alloc _)
   have C6:=LH (C5.out.then N6.out (by simp))
   have A6:=LH (A5.out.keptN N6.out)
   have R6:=LH (RowOf.kept R5.out N6.out (by simp))
   have B6:=LH (show W6.heap[w5.heap.size]? =some (ndO y) by rw[hW6];exact heap_alloc_new _ _)
   unfold ndO at hW6 B6
   have n6:=blk_cell B6.out
   have k6:=blk_cell (by have:=A6.out.box;unfold scO at this;rw[e3]at this;exact this)
   have e6:=A6.out.erC m hm3
   have hee:S2.errs[m]? =some (S2.errs[m]'(by rw[A6.out.elen];exact hm3)):=List.getElem?_eq_getElem _
   have hwz:w.heap.size≤W6.heap.size:=C6.out.size
   generalize S2.errs[m]'(by rw[A6.out.elen];exact hm3)=ev at*
   clear hc3 A R5 Row
   go_upto_region 7 with fail
   rw[←hW6]
   clear hW6 y0 y1 y2 y3 y4 k5
   cases hq:(y.kind==13)
   ·have HF4:=LH (by have:=HF3.out;rw[DN.out (by rw[hq];simp)]at this;exact this)
    clear HF3 hee
    go_wp2_with fail
    exact⟨⟨j+1,av,cv,dl,S2,rfl,rfl,by omega,by omega,HF4,R6,A6,C6⟩,by simp[intOf];omega⟩
   ·cases hq2:(ev==0)
    ·have HF4:=LH (by have:=HF3.out;rw[DN.out (by rw[hee];intro e;have e1:=e.2;simp at e1;simp[e1]at hq2)]at this;exact this)
     clear HF3 hee
     go_wp2_with fail
     exact⟨⟨j+1,av,cv,dl,S2,rfl,rfl,by omega,by omega,HF4,R6,A6,C6⟩,by simp[intOf];omega⟩
    ·have HF4:=LH (by have:=HF3.out;rw[DY.out hq (by rw[hee,eq_of_beq hq2])]at this;exact this)
     clear HF3 hee
     go_wp2_with (at_builtin;refine wpl_append rfl _ _ 92 rfl w.heap.size 9 _ 16 Tryz.underlying92 skInfo rfl (by decide) skC_lenS skC_one (.slice av dl.length cv) dl rfl (RowOf.kept R6.out ((Chg.refl [] _).alloc _) (by simp)) W6.heap.size _ y.text _ _ _ rfl (heap_alloc_new W6 _) rfl (by unfold maxLen;omega) (by omega) (by simp;omega) ?_;intro v' w7 hr7 hg7;have Hr7:=LH hr7;have Hg7:=LH hg7;clear hr7 hg7)
     have hT:=LH (fun g (hg:g∈(Value.slice av dl.length cv).ownBlock.toList)=>show w.heap.size≤g from(R6.out.block g (by simpa using hg)).1)
     have C7:=LH ((C6.out.alloc (.cells #[.string y.text] 9)).then (Chg.ofRow Hg7.out) (fun g hg hl=>absurd (hT.out g hg) (by omega)))
     have A7:=LH ((A6.out.keptN ((Chg.refl _ _).alloc (.cells #[.string y.text] 9))).kept (Chg.ofRow Hg7.out) (fun hg=>absurd (hT.out _ hg) (by have:=HLT.out b (by simp);omega)) (fun hg=>absurd (hT.out _ hg) (by have:=HLT.out mb (by simp);omega)) (fun hg=>absurd (hT.out _ hg) (by have:=HLT.out sb (by simp);omega)) (fun hg=>absurd (hT.out _ hg) (by have:=HLT.out eb (by simp);omega)))
     obtain⟨a',c',rfl⟩:=RowOf.shape Hr7.out
     exact⟨⟨j+1,a',c',dl++[y.text],S2,rfl,rfl,by omega,by simp;omega,HF4,Hr7,A7,C7⟩,by simp[intOf];omega⟩
  ·have hje:j=ks.length:=by omega
   have HF2:=HF.out
   rw[hje,List.drop_length,List.foldl_nil]at HF2
   have hjl': ¬(j:Int)<(ks.length:Int):=by omega
   subst HF2
   clear HF HR hje
   go_wp2_with fail
   go_loopw [49] (fun v wi=>∃(q:Nat) (vs:List (ByteArray×Int)),v= .int .i64 q∧q≤dl.length∧Hid ((dropV S' dl).vis=(dl.drop q).foldl (delL Prod.fst) vs)∧Hid (RowOf skC 1 wi w.heap.size 9 (.slice av dl.length cv) dl)∧Hid (ScAt x B b mb sb eb wi ⟨vs,S'.next,S'.slots,S'.errs⟩)∧Hid (Chg [b,mb,sb,eb] w wi)) (fun v _=>dl.length-(intOf v).toNat)
   case atStart=>exact⟨0,S'.vis,rfl,Nat.zero_le _,LH rfl,Row,A,C⟩
   case round=>
    obtain⟨q,vs,rfl,hq,HV,Row2,A2,C2⟩:=hrel
    have hq0:(0:Int)≤(q:Int):=by omega
    by_cases hql:q<dl.length
    ·have hql':(q:Int)<(dl.length:Int):=by omega
     have HV2:=HV.out
     rw[List.drop_eq_getElem_cons hql,List.foldl_cons]at HV2
     have HV3:=LH HV2
     obtain⟨b4,o4,rfl, -, -,hc4⟩:=(RowOf.sl Row2.out skC_lenS).1.elem (Chg.refl [] _) q hql
     have u4:=hc4 0 (by omega)
     simp only[skC,List.getElem?_cons_zero,Nat.add_zero,Nat.mul_one]at u4
     have k2:=blk_cell (by have:=A2.out.box;unfold scO at this;exact this)
     have hdli:(dl.length:Int)≤600:=by omega
     have qq:IntKind.i64.wrap ((q:Int)+1)=(q:Int)+1:=IntWalk.i64_in _ (by omega)
     generalize dl[q]=nm at*
     clear HV2 hc4
     go_wp2_with (refine wpl_delete _ rfl _ _ 195 9 rfl _ Tryz.underlying195 Tryz.underlying9 mb _ rfl A2.out.map nm rfl ?_;intro w8 hm8 hc8 hz8;have A8:=LH (A2.out.setMap HS.out hm8 hc8);have C8:=LH (C2.out.then hc8 (by simp));have R8:=LH (RowOf.kept Row2.out hc8 (fun g hg hm=>absurd (HLT.out mb (by simp)) (by have:=(Row2.out.block g hg).1;simp at hm;omega)));clear hm8 hc8 hz8)
     exact⟨⟨q+1,_,rfl,by omega,HV3,R8,A8,C8⟩,by simp[intOf];omega⟩
    ·have hqe:q=dl.length:=by omega
     have hql': ¬(q:Int)<(dl.length:Int):=by omega
     have HV2:=HV.out
     rw[hqe,List.drop_length,List.foldl_nil]at HV2
     have HV3:=LH HV2
     clear HV2 hqe
     go_wp2_with fail
     go_end0
     exact⟨rfl,by have:=A2.out;rw[←HV3.out]at this;exact this,C2.out⟩
end
section
open Go.RowKit
theorem walkZ_block {x:Pr} {n i:Nat} {S:ScS} (h:i<x.nodes.length) (hb:(x.nodes[i].kind==19)=true):walkZ x.p (n+1) S i=dropV (x.nodes[i].kids.foldl (stmZ x.p (walkZ x.p n)) (S,[])).1 (x.nodes[i].kids.foldl (stmZ x.p (walkZ x.p n)) (S,[])).2:=by
 rw[walkZ,nodes_p_at h]
 exact if_pos (by simpa using hb:x.nodes[i].kind=19)
theorem walkZ_other {x:Pr} {n i:Nat} {S:ScS} (h:i<x.nodes.length) (hb:(x.nodes[i].kind==19)=false):walkZ x.p (n+1) S i=endZ x.p (x.nodes[i].kids.foldl (fun q k=>walkZ x.p n q k.toNat) S) i x.nodes[i].p:=by
 rw[walkZ,nodes_p_at h]
 exact if_neg (by simpa using hb: ¬x.nodes[i].kind=19)
theorem endZ_var {p:PPr} {S:ScS} {i:Nat} (d:Nd) (h:d.kind=5∨d.kind=14):endZ p S i d.p=match lookL Prod.fst S.vis d.text with
 |none=>⟨S.vis,S.next,S.slots,S.errs.set i 4⟩
 |some x=>⟨S.vis,S.next,S.slots.set i x.2,S.errs⟩:=if_pos h
theorem endZ_letN {p:PPr} {S:ScS} {i:Nat} (d:PNd) (h:d.kind=13):endZ p S i d=letZ S i d.text:=by
 unfold endZ
 rw[if_neg (by omega),if_pos h]
theorem endZ_let {p:PPr} {S:ScS} {i:Nat} (d:Nd) (h:d.kind=13):endZ p S i d.p=letZ S i d.text:=endZ_letN d.p h
theorem endZ_callN {p:PPr} {S:ScS} {i:Nat} (d:PNd) (h:d.kind=11):endZ p S i d=⟨S.vis,S.next,S.slots,S.errs.set i (callZ p d)⟩:=by
 unfold endZ
 rw[if_neg (by omega),if_neg (by omega),if_pos h]
theorem endZ_call {p:PPr} {S:ScS} {i:Nat} (d:Nd) (h:d.kind=11):endZ p S i d.p=⟨S.vis,S.next,S.slots,S.errs.set i (callZ p d.p)⟩:=endZ_callN d.p h
theorem endZ_hostN {p:PPr} {S:ScS} {i:Nat} (d:PNd) (h:d.kind=12):endZ p S i d=if(lkZ hoL d.text).2=true then(if(lkZ hoL d.text).1=(d.kids.length:Int)then S else⟨S.vis,S.next,S.slots,S.errs.set i 7⟩)else⟨S.vis,S.next,S.slots,S.errs.set i 4⟩:=by
 unfold endZ
 rw[if_neg (by omega),if_neg (by omega),if_neg (by omega),if_pos h]
theorem endZ_host {p:PPr} {S:ScS} {i:Nat} (d:Nd) (h:d.kind=12):endZ p S i d.p=if(lkZ hoL d.text).2=true then(if(lkZ hoL d.text).1=(d.kids.length:Int)then S else⟨S.vis,S.next,S.slots,S.errs.set i 7⟩)else⟨S.vis,S.next,S.slots,S.errs.set i 4⟩:=endZ_hostN d.p h
theorem endZ_noneN {p:PPr} {S:ScS} {i:Nat} (d:PNd) (h: ¬(d.kind=5∨d.kind=14)) (h1: ¬d.kind=13) (h2: ¬d.kind=11) (h3: ¬d.kind=12):endZ p S i d=S:=by
 unfold endZ
 rw[if_neg h,if_neg h1,if_neg h2,if_neg h3]
theorem endZ_none {p:PPr} {S:ScS} {i:Nat} (d:Nd) (h: ¬(d.kind=5∨d.kind=14)) (h1: ¬d.kind=13) (h2: ¬d.kind=11) (h3: ¬d.kind=12):endZ p S i d.p=S:=endZ_noneN d.p h h1 h2 h3
theorem swalk_all {x:Pr} {w0:World} {B b mb sb eb:Nat} (hs:Sep B b mb sb eb) (hB:w0.heap.size≤B) (hp:PrIn w0 x) (hN:x.nodes.length≤600):∀n,WalkOk x w0 B b mb sb eb n:=by
 intro n
 induction n with
 |zero=>intro w S i _ _ hi;omega
 |succ n ih=>
  intro w S i h0 h hi hil hf
  have hxe:(x.nodes.map Nd.p)[i]? =some (x.nodes[i]).p:=by rw[List.getElem?_map,List.getElem?_eq_getElem hil];rfl
  have hkk:=firstF_kids hxe hf
  have hkc:=firstF_count hxe hf
  have hkids:(x.nodes[i]).p.kids=(x.nodes[i]).kids:=rfl
  rw[hkids]at hkk hkc
  have hkk:∀kk,kk<(x.nodes[i]).kids.length→∃m:Nat,(x.nodes[i]).kids[kk]? =some (m:Int)∧m<n∧m<x.nodes.length∧0≤firstF (x.nodes.map Nd.p) n m:=fun kk hk=>by
   obtain⟨m,h1,h2,h3,h4⟩:=hkk kk hk
   rw[List.length_map]at h3
   exact⟨m,h1,by omega,h3,h4⟩
  have hkl:(x.nodes[i]).kids.length≤600:=by omega
  have hdi:=(hp.1.2 _ (List.getElem_mem hil))
  obtain⟨b3,o3,e3, -, -,hc3⟩:=(hp.kept h0).1.1.1.elem (Chg.refl [] _) i hil
  have y0:=hc3 0 (by omega)
  have y1:=hc3 1 (by omega)
  have y2:=hc3 2 (by omega)
  have y3:=hc3 3 (by omega)
  have y4:=hc3 4 (by omega)
  simp only[ndC,List.getElem?_cons_zero,List.getElem?_cons_succ,Nat.add_zero]at y0 y1 y2 y3 y4
  have WB:=LH (walkZ_block (n:=n) (S:=S) hil)
  have WO:=LH (walkZ_other (n:=n) (S:=S) hil)
  have HBL:=LH (fun(w:World) (S:ScS) (h1:Chg [] w0 w) (h2:ScAt x B b mb sb eb w S)=>sblock_any hs hB hp ih (x.nodes[i]) hdi hkl hkk h1 h2)
  have hi0:(0:Int)≤(i:Int):=by omega
  have hi':(i:Int)<(x.nodes.length:Int):=by omega
  generalize hd:x.nodes[i]=d at*
  obtain⟨R,hR⟩:∃R,R=walkZ x.p (n+1) S i:=⟨_,rfl⟩
  rw[←hR]
  have HR:=LH hR
  obtain⟨W1,hW1⟩:∃W1,W1=w.alloc (ndO d):=⟨_,rfl⟩
  have N1:=LH (show Chg [] w W1 by rw[hW1];exact(Chg.refl _ _).alloc _)
  have H1:=LH (h0.thenSame N1.out)
  have A1:=LH (h.keptN N1.out)
  have B1:=LH (show W1.heap[w.heap.size]? =some (ndO d) by rw[hW1];exact heap_alloc_new _ _)
  have k0:=blk_cell (by have:=h.box;unfold scO at this;rw[e3]at this;exact this)
  unfold ndO at hW1 B1
  have n1:=blk_cell B1.out
  have C1:=LH (show Chg [b,mb,sb,eb] w W1 from N1.out.mono (by simp))
  have HLT:=LH h.below
  have HS:=LH hs
  have HB:=LH hB
  have HK:=LH hkk
  have HD:=LH (fun w' (hc:Chg [] w0 w')=>show InIs icI 1 w' d.da d.dc d.kids from(hdi.kept hc).2)
  have HIH:=LH ih
  have HP:=LH hp
  have H0:=LH h0
  clear hc3 hR hkk hkids hdi h ih hf hs hB hd hxe hp h0
  cases hq:(d.kind==19)
  ·have HE:=LH (HR.out.trans (WO.out hq))
   have hkli:(d.kids.length:Int)≤600:=by omega
   clear HR WB WO HBL
   go_enter Tryz.func157,Tryz.ntmps157
   go_upto_region 1 with fail
   rw[←hW1]
   clear hW1 y0 y1 y2 y3 y4 k0
   go_wp2_with fail
   clear n1
   go_loopw [28] (fun v wi=>∃(j:Nat) (S':ScS),v= .int .i64 j∧j≤d.kids.length∧Hid (R=endZ x.p ((d.kids.drop j).foldl (fun q k=>walkZ x.p n q k.toNat) S') i d.p)∧Hid (ScAt x B b mb sb eb wi S')∧Hid (Chg [b,mb,sb,eb] w wi)∧Hid (wi.heap[w.heap.size]? =some (.cells #[.int .i64 d.kind, .string d.text, .int .i64 d.n, .slice d.ka d.keys.length d.kc, .slice d.da d.kids.length d.dc] 297 (0,0)))) (fun v _=>d.kids.length-(intOf v).toNat)
   case atStart=>exact⟨0,S,rfl,Nat.zero_le _,LH HE.out,A1,C1,B1⟩
   case round=>
    obtain⟨j,S',rfl,hj,HF,A,C,N⟩:=hrel
    have hj0:(0:Int)≤(j:Int):=by omega
    have H1:=LH (HS.out.nil HB.out H0.out C.out)
    by_cases hjl:j<d.kids.length
    ·have hjl':(j:Int)<(d.kids.length:Int):=by omega
     obtain⟨b2,o2,e2, -, -,hc2⟩:=(HD.out _ H1.out).1.elem (Chg.refl [] _) j hjl
     obtain⟨m,hm1,hm2,hm3,hm4⟩:=HK.out j hjl
     rw[List.getElem?_eq_getElem hjl]at hm1
     injection hm1 with hm1
     have u1:=hc2 0 (by omega)
     simp only[icI,List.getElem?_cons_zero,Nat.add_zero,Nat.mul_one]at u1
     rw[hm1]at u1
     have HF2:=HF.out
     rw[List.drop_eq_getElem_cons hjl,List.foldl_cons,hm1,Int.toNat_natCast]at HF2
     have AW:=LH (HIH.out _ S' m H1.out A.out hm2 hm3 hm4)
     have HF3:=LH HF2
     have qj:IntKind.i64.wrap ((j:Int)+1)=(j:Int)+1:=IntWalk.i64_in _ (by omega)
     clear hc2 hm1 HF2
     rw[e2]
     go_wp2_with (go_at_call 157;(with_reducible refine Calls.mono AW.out ?_);rintro e w5 ⟨rfl,ha,hc⟩;have A5:=LH ha;have C5:=LH (C.out.thenSame hc);have N5:=LH (hc.at (fun hg=>absurd (HLT.out _ hg) (by omega)) N.out);clear ha hc u1)
     exact⟨⟨j+1,_,rfl,by omega,HF3,A5,C5,(by first|exact N5|(rw[e2]at N5;exact N5))⟩,by simp[intOf];omega⟩
    ·have hje:j=d.kids.length:=by omega
     have HF2:=HF.out
     rw[hje,List.drop_length,List.foldl_nil]at HF2
     have HF3:=LH HF2
     have hjl': ¬(j:Int)<(d.kids.length:Int):=by omega
     have n1:=blk_cell N.out
     clear HF HF2 hje HE
     cases q5:(d.kind==5)
     ·cases q14:(d.kind==14)
      ·have h514: ¬(d.kind=5∨d.kind=14):=by simp at q5 q14;omega
       cases q13:(d.kind==13)
       ·cases q11:(d.kind==11)
        ·cases q12:(d.kind==12)
         ·have HE:=LH (HF3.out.trans (endZ_none d h514 (by simpa using q13) (by simpa using q11) (by simpa using q12)))
          clear HF3 h514
          go_wp2_with fail
          go_end0
          exact⟨rfl,by rw[HE.out];exact A.out,C.out⟩
         ·have HE:=LH (HF3.out.trans (endZ_host d (eq_of_beq q12)))
          have AH:=LH (fun w'=>hostop_any d.text w')
          have HEq:=HE.out
          generalize lkZ hoL d.text=hq at*
          obtain⟨hn,hb⟩:=hq
          clear HF3 h514 HE
          cases hb
          ·have HE:=LH (show R=⟨S'.vis,S'.next,S'.slots,S'.errs.set i 4⟩from HEq)
           clear HEq
           go_upto_region 21 with (go_at_call 232;(with_reducible refine Calls.mono (AH.out _) ?_);rintro e w5 ⟨rfl,hc⟩;have A5:=LH (A.out.keptN hc);have C5:=LH (C.out.then hc (by simp));have N5:=LH (hc.at (by simp) N.out);have n5:=blk_cell N5.out;clear n1 hc)
           have k7:=blk_cell (by have:=A5.out.box;unfold scO at this;exact this)
           obtain⟨ev,e7⟩:∃v,w5.cell? ⟨eb,i,none⟩=some v:=⟨_,A5.out.erC i hil⟩
           have g7:=fun q=>A5.out.erF q
           have A8:=LH (A5.out.setErr HS.out i hil 4)
           have C8:=LH (C5.out.setCell ⟨eb,i,none⟩ (.int .i64 4) (by simp))
           go_wp2_with fail
           go_end0
           exact⟨rfl,by rw[HE.out];exact A8.out,C8.out⟩
          ·by_cases hne:hn=(d.kids.length:Int)
           ·have HE:=LH (show R=S' by rw[HEq];exact(if_pos rfl).trans (if_pos hne))
            have hnq:(hn !=(d.kids.length:Int))=false:=by rw[hne];simp
            clear HEq hne
            go_wp2_with (go_at_call 232;(with_reducible refine Calls.mono (AH.out _) ?_);rintro e w5 ⟨rfl,hc⟩;have A5:=LH (A.out.keptN hc);have C5:=LH (C.out.then hc (by simp));have N5:=LH (hc.at (by simp) N.out);have n5:=blk_cell N5.out;clear n1 hc)
            go_end0
            exact⟨rfl,by rw[HE.out];exact A5.out,C5.out⟩
           ·have HE:=LH (show R=⟨S'.vis,S'.next,S'.slots,S'.errs.set i 7⟩ by rw[HEq];exact(if_pos rfl).trans (if_neg hne))
            have hnq:(hn !=(d.kids.length:Int))=true:=by simpa using hne
            clear HEq hne
            go_upto_region 21 with (go_at_call 232;(with_reducible refine Calls.mono (AH.out _) ?_);rintro e w5 ⟨rfl,hc⟩;have A5:=LH (A.out.keptN hc);have C5:=LH (C.out.then hc (by simp));have N5:=LH (hc.at (by simp) N.out);have n5:=blk_cell N5.out;clear n1 hc)
            have k7:=blk_cell (by have:=A5.out.box;unfold scO at this;exact this)
            obtain⟨ev,e7⟩:∃v,w5.cell? ⟨eb,i,none⟩=some v:=⟨_,A5.out.erC i hil⟩
            have g7:=fun q=>A5.out.erF q
            have A8:=LH (A5.out.setErr HS.out i hil 7)
            have C8:=LH (C5.out.setCell ⟨eb,i,none⟩ (.int .i64 7) (by simp))
            go_wp2_with fail
            go_end0
            exact⟨rfl,by rw[HE.out];exact A8.out,C8.out⟩
        ·have HE:=LH (HF3.out.trans (endZ_call d (eq_of_beq q11)))
         have AC:=LH (fun(w':World) (h1:Chg [] wr w')=>scall_any x d b mb sb eb S'.next w' (HP.out.kept (H1.out.thenSame h1)) (A.out.keptN h1).box)
         unfold ndC at AC
         generalize callZ x.p d.p=cv at*
         clear HF3 h514
         have k5:=blk_cell (by have:=A.out.box;unfold scO at this;exact this)
         go_upto_region 18 with fail
         have VK:=LH (fun(w':World) (hc:Chg [eb] wr w')=>show w'.cell? ⟨b,5,none⟩=some (.slice (some ⟨eb,0,none⟩) x.nodes.length x.nodes.length)∧w'.cell? ⟨w.heap.size,0,none⟩=some (.int .i64 d.kind)∧w'.cell? ⟨w.heap.size,1,none⟩=some (.string d.text)∧w'.cell? ⟨w.heap.size,2,none⟩=some (.int .i64 d.n)∧w'.cell? ⟨w.heap.size,3,none⟩=some (.slice d.ka d.keys.length d.kc)∧w'.cell? ⟨w.heap.size,4,none⟩=some (.slice d.da d.kids.length d.dc)from by
          have h1:=blk_cell (by have:=hc.at (by simp;exact fun e=>HS.out.n3 e.symm) A.out.box;unfold scO at this;exact this)
          have h2:=blk_cell (hc.at (by simp;have:=HLT.out eb (by simp);omega) N.out)
          exact⟨h1 5,h2 0,h2 1,h2 2,h2 3,h2 4⟩)
         clear n1 k5
         go_region_held3 (fun w'=>w'.cell? ⟨b,5,none⟩=some (.slice (some ⟨eb,0,none⟩) x.nodes.length x.nodes.length)∧w'.cell? ⟨w.heap.size,0,none⟩=some (.int .i64 d.kind)∧w'.cell? ⟨w.heap.size,1,none⟩=some (.string d.text)∧w'.cell? ⟨w.heap.size,2,none⟩=some (.int .i64 d.n)∧w'.cell? ⟨w.heap.size,3,none⟩=some (.slice d.ka d.keys.length d.kc)∧w'.cell? ⟨w.heap.size,4,none⟩=some (.slice d.da d.kids.length d.dc))
          (first|exact VK.out _ ((Chg.refl _ _).drew)|exact VK.out _ KC.out|exact VK.out _ (KC.out.setCell _ _ (by simp)))
          (first|(go_at_call 231;(with_reducible refine Calls.mono (AC.out _ ((Chg.refl _ _).drew)) ?_);rintro e w5 ⟨rfl,hc⟩;have A5:=LH ((A.out.keptN (Chg.refl [] wr).drew).keptN hc);have C5:=LH (C.out.drew.then hc (by simp));have KC:=LH (show Chg [eb] wr w5 from((Chg.refl _ _).drew).then hc (by simp));have g7:=(fun q=>A5.out.erF q);obtain⟨ev,e7⟩:∃v,w5.cell? ⟨eb,i,none⟩=some v:=⟨_,A5.out.erC i hil⟩;clear hc)|fail)
         go_wp2_with fail
         go_end0
         exact⟨rfl,by rw[HE.out];exact A5.out.setErr HS.out i hil cv,C5.out.setCell _ _ (by simp)⟩
       ·have HE:=LH (HF3.out.trans (endZ_let d (eq_of_beq q13)))
        have AL:=LH (slet_any A.out HS.out i hil d.text)
        clear HF3 h514
        go_wp2_with (go_at_call 230;(with_reducible refine Calls.mono AL.out ?_);rintro e w5 ⟨rfl,ha,hc⟩;have A5:=LH ha;have C5:=LH (C.out.thenSame hc);clear ha hc)
        go_end0
        exact⟨rfl,by rw[HE.out];exact A5.out,C5.out⟩
      ·go_upto_region 11 with fail
       have HV:=HF3.out.trans (endZ_var d (by first|exact .inl (eq_of_beq q5)|exact .inr (eq_of_beq q14)))
       have f5:=LH (fun n=>A.out.keptN ((Chg.refl [] wr).drewN n))
       have c5:=LH (fun n=>C.out.drewN n)
       have k5:=blk_cell (by have:=A.out.box;unfold scO at this;exact this)
       cases hl:lookL Prod.fst S'.vis d.text with
       |none=>
        have hrun:∀n,(Sem.run Tryz.prog (Instr.lookup 195 (.map (some mb)) (.string d.text) true) (wr.drewN n))=Result.ok (.tuple #[.int .i64 0, .bool false]) (wr.drewN n):=fun n=>by
         have:=(f5.out n).map.lookup Tryz.underlying195 Tryz.underlying9 (zeroIS _) d.text true
         rw[hl]at this
         exact this
        rw[hl]at HV
        have HE:=LH HV
        clear HF3 HV hl
        go_quiet (fail)
        have A7:=LH (f5.out nq)
        have C7:=LH (c5.out nq)
        clear hrun f5 c5 k5
        generalize wr.drewN nq=W7 at*
        have k7:=blk_cell (by have:=A7.out.box;unfold scO at this;exact this)
        obtain⟨ev,e7⟩:∃v,W7.cell? ⟨eb,i,none⟩=some v:=⟨_,A7.out.erC i hil⟩
        have g7:=fun q=>A7.out.erF q
        have A8:=LH (A7.out.setErr HS.out i hil 4)
        have C8:=LH (C7.out.setCell ⟨eb,i,none⟩ (.int .i64 4) (by simp))
        go_wp2_with fail
        ((try simp only[Exit.inBlock,Exit.then]);refine bodyPost_ret (results_none rfl _ _ _) rfl ?_)
        exact⟨rfl,by rw[HE.out];exact A8.out,C8.out⟩
       |some y=>
        have hrun:∀n,(Sem.run Tryz.prog (Instr.lookup 195 (.map (some mb)) (.string d.text) true) (wr.drewN n))=Result.ok (.tuple #[.int .i64 y.2, .bool true]) (wr.drewN n):=fun n=>by
         have:=(f5.out n).map.lookup Tryz.underlying195 Tryz.underlying9 (zeroIS _) d.text true
         rw[hl]at this
         exact this
        rw[hl]at HV
        have HE:=LH HV
        clear HF3 HV hl
        go_quiet (fail)
        have A7:=LH (f5.out nq)
        have C7:=LH (c5.out nq)
        clear hrun f5 c5 k5
        generalize wr.drewN nq=W7 at*
        have k7:=blk_cell (by have:=A7.out.box;unfold scO at this;exact this)
        obtain⟨ev,e7⟩:∃v,W7.cell? ⟨sb,i,none⟩=some v:=⟨_,A7.out.slC i hil⟩
        have g7:=fun q=>A7.out.slF q
        have A8:=LH (A7.out.setSlot HS.out i hil y.2)
        have C8:=LH (C7.out.setCell ⟨sb,i,none⟩ (.int .i64 y.2) (by simp))
        go_wp2_with fail
        go_end0
        exact⟨rfl,by rw[HE.out];exact A8.out,C8.out⟩
     ·go_upto_region 11 with fail
      have HV:=HF3.out.trans (endZ_var d (by first|exact .inl (eq_of_beq q5)|exact .inr (eq_of_beq q14)))
      have f5:=LH (fun n=>A.out.keptN ((Chg.refl [] wr).drewN n))
      have c5:=LH (fun n=>C.out.drewN n)
      have k5:=blk_cell (by have:=A.out.box;unfold scO at this;exact this)
      cases hl:lookL Prod.fst S'.vis d.text with
      |none=>
       have hrun:∀n,(Sem.run Tryz.prog (Instr.lookup 195 (.map (some mb)) (.string d.text) true) (wr.drewN n))=Result.ok (.tuple #[.int .i64 0, .bool false]) (wr.drewN n):=fun n=>by
        have:=(f5.out n).map.lookup Tryz.underlying195 Tryz.underlying9 (zeroIS _) d.text true
        rw[hl]at this
        exact this
       rw[hl]at HV
       have HE:=LH HV
       clear HF3 HV hl
       go_quiet (fail)
       have A7:=LH (f5.out nq)
       have C7:=LH (c5.out nq)
       clear hrun f5 c5 k5
       generalize wr.drewN nq=W7 at*
       have k7:=blk_cell (by have:=A7.out.box;unfold scO at this;exact this)
       obtain⟨ev,e7⟩:∃v,W7.cell? ⟨eb,i,none⟩=some v:=⟨_,A7.out.erC i hil⟩
       have g7:=fun q=>A7.out.erF q
       have A8:=LH (A7.out.setErr HS.out i hil 4)
       have C8:=LH (C7.out.setCell ⟨eb,i,none⟩ (.int .i64 4) (by simp))
       go_wp2_with fail
       ((try simp only[Exit.inBlock,Exit.then]);refine bodyPost_ret (results_none rfl _ _ _) rfl ?_)
       exact⟨rfl,by rw[HE.out];exact A8.out,C8.out⟩
      |some y=>
       have hrun:∀n,(Sem.run Tryz.prog (Instr.lookup 195 (.map (some mb)) (.string d.text) true) (wr.drewN n))=Result.ok (.tuple #[.int .i64 y.2, .bool true]) (wr.drewN n):=fun n=>by
        have:=(f5.out n).map.lookup Tryz.underlying195 Tryz.underlying9 (zeroIS _) d.text true
        rw[hl]at this
        exact this
       rw[hl]at HV
       have HE:=LH HV
       clear HF3 HV hl
       go_quiet (fail)
       have A7:=LH (f5.out nq)
       have C7:=LH (c5.out nq)
       clear hrun f5 c5 k5
       generalize wr.drewN nq=W7 at*
       have k7:=blk_cell (by have:=A7.out.box;unfold scO at this;exact this)
       obtain⟨ev,e7⟩:∃v,W7.cell? ⟨sb,i,none⟩=some v:=⟨_,A7.out.slC i hil⟩
       have g7:=fun q=>A7.out.slF q
       have A8:=LH (A7.out.setSlot HS.out i hil y.2)
       have C8:=LH (C7.out.setCell ⟨sb,i,none⟩ (.int .i64 y.2) (by simp))
       go_wp2_with fail
       go_end0
       exact⟨rfl,by rw[HE.out];exact A8.out,C8.out⟩
  ·have AB:=LH (HBL.out _ _ H1.out A1.out)
   have HE:=LH (HR.out.trans (WB.out hq))
   unfold ndC at AB
   go_enter Tryz.func157,Tryz.ntmps157
   go_upto_region 1 with fail
   rw[←hW1]
   clear hW1 y0 y1 y2 y3 y4 k0
   go_wp2_with (go_at_call 229;(with_reducible refine Calls.mono AB.out ?_);rintro e w5 ⟨rfl,ha,hc⟩;have A5:=LH ha;have C5:=LH (C1.out.thenSame hc);clear ha hc)
   ((try simp only[Exit.inBlock,Exit.then]);refine bodyPost_ret (results_none rfl _ _ _) rfl ?_)
   exact⟨rfl,by rw[HE.out];exact A5.out,C5.out⟩
end
section
open Go.RowKit
theorem intInfoS:(Tryz.prog.info? 3).map (fun i=>(i.zero,i.size,i.bytes))=some (some (.int .i64 0),1,8):=by kernel_rfl
theorem errInfoS:(Tryz.prog.info? 28).map (fun i=>(i.zero,i.size,i.bytes))=some (some (.int .i64 0),1,8):=by kernel_rfl
theorem icI_one1 (x:Int):∀u∈icI x,u.oneCell'=true:=by intro u hu;simp[icI]at hu;subst hu;rfl
theorem results_tmp4 {fn:Func} {s t u v:Tmp} (h:fn.results= #[.tmp s, .tmp t, .tmp u, .tmp v]) (tmps:Array Value) (P:Program) (w:World):
 (results fn tmps).run P w= .ok (.tuple #[tmps[s]?.getD undef,tmps[t]?.getD undef,tmps[u]?.getD undef,tmps[v]?.getD undef]) w:=by
 simp[results,h,go_sem]
def StudyPost (w:World) (R:List Int×List Int×Int×Int) (e:Ending) (w':World):Prop:=∃(sa:Option Addr) (sc:Nat) (la:Option Addr) (lc:Nat),e= .returned (.tuple #[.slice sa R.1.length sc, .slice la R.2.1.length lc, .int .i64 R.2.2.1, .int .i64 R.2.2.2])∧
 RowOf icI 1 w' w.heap.size 3 (.slice sa R.1.length sc) R.1∧RowOf icI 1 w' w.heap.size 3 (.slice la R.2.1.length lc) R.2.1∧Chg [] w w'
theorem study_nil {w w':World} {R:List Int×List Int×Int×Int} {a b:Int} (h:R=([],[],a,b)) (hc:Chg [] w w'):StudyPost w R (.returned (.tuple #[.slice none 0 0, .slice none 0 0, .int .i64 a, .int .i64 b])) w':=by
 subst h
 exact⟨none,0,none,0,rfl,⟨rfl, .inl ⟨rfl,rfl⟩⟩,⟨rfl, .inl ⟨rfl,rfl⟩⟩,hc⟩
theorem study_ok {w w':World} {R:List Int×List Int×Int×Int} {s l:List Int} {sa la:Option Addr} {N sc lc B2:Nat} (h:R=(s,l,0,0)) (hs:RowOf icI 1 w' w.heap.size 3 (.slice sa N sc) s) (hN:N=s.length) (hl:RowOf icI 1 w' B2 3 (.slice la l.length lc) l) (hB:w.heap.size≤B2) (hc:Chg [] w w'):StudyPost w R (.returned (.tuple #[.slice sa N sc, .slice la l.length lc, .int .i64 0, .int .i64 0])) w':=by
 subst h
 subst hN
 exact⟨sa,sc,la,lc,rfl,hs,hl.mono hB,hc⟩
theorem scheckZ_ok {p:PPr} (h:scheckZ p=0):p.nodes.length≤600∧p.funcs.length≤16∧ordB p=true:=by
 unfold scheckZ at h
 split at h
 ·omega
 ·split at h
  ·omega
  ·split at h
   ·omega
   ·rename_i h1 h2 h3
    exact⟨by omega,by omega,by simpa using h3⟩
theorem wpl_makeMap {P:Program} (w:World) {ops:Array Oper} {rest:List Oper} {o:Oper} {a:Act} {Q:Exit→Act→World→Prop} (hg:o.guard=none) (t:TypeId) (hop:o.op=Op.makeMap t none)
 (hK:wpList P ops Q rest (a.put o.dst (.map (some w.heap.size))) (w.alloc (.map #[] 0))):wpList P ops Q (o::rest) a w:=by
 refine wpList_plain hg fun K' hK'=> ?_
 unfold Oper.wp
 simp[execOp,hop,run_makeMap,Result.andThen]
 exact hK' _ _ hK
theorem bodies_ok {x:Pr} (h:ordB x.p=true):∀j (hj:j<x.funcs.length),∃m:Nat,(x.funcs[j]).body=(m:Int)∧m<x.nodes.length∧0≤firstF (x.nodes.map Nd.p) x.nodes.length m:=by
 intro j hj
 obtain⟨m,h1,h2,h3⟩:=ordGo_ok (Int.le_refl 0) h (x.funcs[j]).p (List.mem_map_of_mem (List.getElem_mem hj))
 have e:x.p.nodes=x.nodes.map Nd.p:=rfl
 rw[e]at h2 h3
 rw[List.length_map]at h2 h3
 exact⟨m,h1,h2,h3⟩
theorem rep_setD {j n:Nat} (h:j<n):(List.replicate j (-1:Int)++List.replicate (n-j) 0).set j (-1)=List.replicate (j+1) (-1)++List.replicate (n-(j+1)) 0:=by
 rw[List.set_append_right _ _ (by simp),List.length_replicate,Nat.sub_self,show n-j=(n-(j+1))+1 by omega,List.replicate_succ,sCZ,List.replicate_succ']
 simp
theorem study_any (x:Pr) (w:World) (h:PrIn w x) (hg:goodPr x) (ht:TabW w):Calls Tryz.prog 92 #[.agg (prC x).toArray] w (StudyPost w (studyZ x.p)):=by
 obtain⟨R,hR⟩:∃R,R=studyZ x.p:=⟨_,rfl⟩
 rw[←hR]
 unfold studyZ at hR
 obtain⟨W1,hW1⟩:∃W1,W1=w.alloc (prOd x):=⟨_,rfl⟩
 have C1:=LH (show Chg [] w W1 by rw[hW1];exact(Chg.refl _ _).alloc _)
 have B1:=LH (show W1.heap[w.heap.size]? =some (prOd x) by rw[hW1];exact heap_alloc_new _ _)
 have AS:=LH (scheck_any x W1 (h.kept C1.out) hg (ht.kept C1.out))
 have AF:=LH (fun w' (hc:Chg [] w w')=>functions_any x w' (h.kept hc))
 have H:=LH h
 have OK:=LH (fun(e:scheckZ x.p=0)=>scheckZ_ok e)
 unfold prOd at hW1 B1
 have k1:=blk_cell B1.out
 simp only[prC]at AS AF⊢
 generalize scheckZ x.p=ce at*
 clear h hg ht
 by_cases hce:ce=0
 ·rw[if_pos hce]at hR
  have hceb:(ce !=0)=false:=by rw[hce];rfl
  by_cases hfe:(funcsZ x.p).2=0
  ·rw[if_pos hfe]at hR
   obtain⟨hn6,hf16,hord⟩:=OK.out hce
   have BO:=LH (bodies_ok hord)
   have hnl:x.nodes.length≤600:=by rw[show x.p.nodes.length=x.nodes.length from List.length_map _]at hn6;exact hn6
   have hfl:x.funcs.length≤16:=by rw[show x.p.funcs.length=x.funcs.length from List.length_map _]at hf16;exact hf16
   have hZ:allZ x.p=runsZ x.p (x.funcs.map Fn'.p) (List.replicate x.nodes.length (-1),List.replicate x.nodes.length 0,[]):=by
    unfold allZ
    rw[show x.p.nodes.length=x.nodes.length from List.length_map _]
    rfl
   have HZ:=LH hZ
   have HR:=LH hR
   generalize allZ x.p=Z at*
   generalize funcsZ x.p=fe at*
   obtain⟨fa,fb⟩:=fe
   have hfeb:(fb !=0)=false:=by simp only at hfe;rw[hfe];rfl
   have hnli:(x.nodes.length:Int)≤600:=by omega
   have hfli:(x.funcs.length:Int)≤16:=by omega
   clear hR hce hfe hn6 hf16 hord hZ
   go_enter Tryz.func92,Tryz.ntmps92
   go_upto_region 1 with fail
   rw[←hW1]
   clear hW1
   go_wp2_with (first|(go_at_call 31;(with_reducible refine Calls.mono AS.out ?_);rintro e w2 ⟨rfl,hc⟩;have C2:=LH (C1.out.thenSame hc);have B2:=LH (hc.at (by simp) B1.out);have k2:=blk_cell B2.out;clear k1 hc)|(go_at_call 156;(with_reducible refine Calls.mono (AF.out _ C2.out) ?_);rintro e w3 ⟨rfl,hc⟩;have C3:=LH (C2.out.thenSame hc);have B3:=LH (hc.at (by simp) B2.out);have k3:=blk_cell B3.out;clear k2 hc)|(at_make;(refine wpl_make (cf:=icI) rfl _ _ 77 rfl w.heap.size 3 _ 8 Tryz.underlying77 intInfoS 0 rfl rfl x.nodes.length rfl rfl (by omega) (by unfold maxLen;omega) C3.out.size ?_);intro w4 hr4 hc4 hl4;have R4:=LH hr4;have C4:=LH (C3.out.thenSame hc4);have B4:=LH (hc4.at (by simp) B3.out);have Z3:=LH (lt_of_heap B3.out);clear k3 hr4 hc4 hl4))
   generalize w3.heap.size=sb at*
   go_loopw [40] (fun v wi=>∃j:Nat,v= .int .i64 j∧j≤x.nodes.length∧Hid (RowOf icI 1 wi w.heap.size 3 (.slice (some ⟨sb,0,none⟩) x.nodes.length x.nodes.length) (List.replicate j (-1)++List.replicate (x.nodes.length-j) 0))∧Hid (Chg [] w wi)∧Hid (wi.heap[w.heap.size]? =some (.cells #[.slice x.na x.nodes.length x.nc, .slice x.fa x.funcs.length x.fc] 27 (0,0)))) (fun v _=>x.nodes.length-(intOf v).toNat)
   case atStart=>exact⟨0,rfl,Nat.zero_le _,LH (by have:=R4.out;simpa using this),C4,B4⟩
   case round=>
    obtain⟨j,rfl,hj,Row,C,B⟩:=hrel
    have hj0:(0:Int)≤(j:Int):=by omega
    by_cases hjl:j<x.nodes.length
    ·have hjl':(j:Int)<(x.nodes.length:Int):=by omega
     have qj:IntKind.i64.wrap ((j:Int)+1)=(j:Int)+1:=IntWalk.i64_in _ (by omega)
     have hlen:(List.replicate j (-1:Int)++List.replicate (x.nodes.length-j) 0).length=x.nodes.length:=by simp;omega
     obtain⟨-, -, -,hcl,hfr,hbs,hbl⟩:=RowOf.atS Row.out icI_len1
     obtain⟨ev,e7⟩:∃v,wr.cell? ⟨sb,j,none⟩=some v:=by have:=hcl j (by omega) 0 (by omega);simp[icI]at this;exact⟨_,this⟩
     have hst:=RowOf.stored Row.out hlen.symm icI_len1 j (by omega) 0 (by omega) (.int .i64 (-1)) (-1) rfl
     rw[rep_setD hjl]at hst
     have R8:=LH (by simpa using hst:RowOf icI 1 (wr.setCell ⟨sb,j,none⟩ (.int .i64 (-1))) w.heap.size 3 (.slice (some ⟨sb,0,none⟩) x.nodes.length x.nodes.length) (List.replicate (j+1) (-1)++List.replicate (x.nodes.length-(j+1)) 0))
     have hbs2:w.heap.size≤sb:=hbs
     have C8:=LH (C.out.setCell ⟨sb,j,none⟩ (.int .i64 (-1)) (fun e=>by simp at e;omega))
     clear hst hcl hlen
     have B8:=LH ((blk_set_ne j (.int .i64 (-1)) (by have:=Z3.out;omega:w.heap.size≠sb)).trans B.out)
     go_wp2_with fail
     exact⟨⟨j+1,rfl,by omega,R8,C8,B8⟩,by simp[intOf];omega⟩
    ·have hje:j=x.nodes.length:=by omega
     have hjl': ¬(j:Int)<(x.nodes.length:Int):=by omega
     have Row2:=LH (by have:=Row.out;rw[hje,Nat.sub_self,List.replicate_zero,List.append_nil]at this;exact this)
     have k4:=blk_cell B.out
     clear Row hje R4 C4 B4 B3 C3 C2 B2
     go_wp2_with (at_make;(refine wpl_make (cf:=icI) rfl _ _ 304 rfl w.heap.size 28 _ 8 Tryz.underlying304 errInfoS 0 rfl rfl x.nodes.length rfl rfl (by omega) (by unfold maxLen;omega) C.out.size ?_);intro w6 hr6 hc6 hl6;have R6:=LH hr6;have Row6:=LH (RowOf.kept Row2.out hc6 (by simp));have C6:=LH (C.out.thenSame hc6);have B6:=LH (hc6.at (by simp) B.out);have Z6:=LH (And.intro (lt_of_heap B.out) (RowOf.atS Row2.out icI_len1).2.2.2.2.2.2);have L6:=LH hl6;have k6:=blk_cell B6.out;clear k4 hr6 hc6 hl6)
     generalize wr.heap.size=eb at*
     clear k6 Row2
     go_loopw [12,54] (fun u v wi=>∃(j:Nat) (s e l:List Int) (la:Option Addr) (lc:Nat),u= .slice la l.length lc∧v= .int .i64 j∧j≤x.funcs.length∧l.length=j∧Hid (Z=runsZ x.p ((x.funcs.drop j).map Fn'.p) (s,e,l))∧Hid (RowOf icI 1 wi w.heap.size 3 (.slice (some ⟨sb,0,none⟩) x.nodes.length x.nodes.length) s)∧Hid (RowOf icI 1 wi w.heap.size 28 (.slice (some ⟨eb,0,none⟩) x.nodes.length x.nodes.length) e)∧Hid (RowOf icI 1 wi w6.heap.size 3 (.slice la l.length lc) l)∧Hid (Chg [] w wi)∧Hid (w6.heap.size≤wi.heap.size)∧Hid (wi.heap[w.heap.size]? =some (.cells #[.slice x.na x.nodes.length x.nc, .slice x.fa x.funcs.length x.fc] 27 (0,0)))) (fun _ v _=>x.funcs.length-(intOf v).toNat)
     case atStart=>
      exact⟨0,_,_,[],none,0,rfl,rfl,Nat.zero_le _,rfl,LH HZ.out,Row6,R6,LH ⟨rfl, .inl ⟨rfl,rfl⟩⟩,C6,LH (Nat.le_refl _),B6⟩
     case round=>
      obtain⟨j,s,e,l,la,lc,rfl,rfl,hj,hl,HQ,Rs,Re,Rl,C,Zw,B⟩:=hrel
      have HL:=LH hl
      clear hl
      have hj0:(0:Int)≤(j:Int):=by omega
      by_cases hjl:j<x.funcs.length
      ·have hjl':(j:Int)<(x.funcs.length:Int):=by omega
       obtain⟨b2,o2,e2, -, -,hc2⟩:=(H.out.kept C.out).2.1.1.elem (Chg.refl [] _) j hjl
       have u0:=hc2 0 (by omega)
       have u1:=hc2 1 (by omega)
       have u2:=hc2 2 (by omega)
       simp only[fnC,List.getElem?_cons_zero,List.getElem?_cons_succ,Nat.add_zero]at u0 u1 u2
       obtain⟨m,hm1,hm2,hm3⟩:=BO.out j hjl
       have HQ2:=HQ.out
       rw[List.drop_eq_getElem_cons hjl,List.map_cons,runsZ]at HQ2
       have HPF:=LH (fun w' (hc:Chg [] w w')=>show InIs skC 1 w' (x.funcs[j]).pa (x.funcs[j]).pc (x.funcs[j]).params from(H.out.kept hc).2.2 _ (List.getElem_mem hjl))
       generalize hfe:x.funcs[j]=f at*
       rw[show f.p.params=f.params from rfl,show f.p.body=f.body from rfl,hm1,Int.toNat_natCast,show x.p.nodes.length=x.nodes.length from List.length_map _]at HQ2
       have HQ3:=LH HQ2
       rw[hm1]at u2
       have hpl:(f.params.length:Int)≤9223372036854775807:=by have h0:=HPF.out _ C.out;have h1:=h0.2.1;have h2:=h0.2.2.1;unfold maxLen at h2;omega
       have qj:IntKind.i64.wrap ((j:Int)+1)=(j:Int)+1:=IntWalk.i64_in _ (by omega)
       obtain⟨W2,hW2⟩:∃W2,W2=wr.alloc (.cells #[.string f.name, .slice f.pa f.params.length f.pc, .int .i64 (m:Int)] 130):=⟨_,rfl⟩
       have N2:=LH (show Chg [] wr W2 by rw[hW2];exact(Chg.refl _ _).alloc _)
       have G2:=LH (show W2.heap[wr.heap.size]? =some (.cells #[.string f.name, .slice f.pa f.params.length f.pc, .int .i64 (m:Int)] 130 (0,0))from by rw[hW2];exact heap_alloc_new _ _)
       have g2:=blk_cell G2.out
       have P2:=LH (N2.out.at (by simp) B.out)
       have p2:=blk_cell P2.out
       have s2:W2.heap.size=wr.heap.size+1:=by rw[hW2];exact Array.size_push _
       have S2:=LH s2
       clear hc2 HQ2 hfe hm1 s2
       rw[e2]
       go_upto_region 18 with fail
       rw[←hW2]
       clear hW2 u0 u1 u2
       obtain⟨W3,hW3⟩:∃W3,W3=W2.alloc (.map #[] 0):=⟨_,rfl⟩
       have N3:=LH (show Chg [] W2 W3 by rw[hW3];exact(Chg.refl _ _).alloc _)
       have M3:=LH (show MapIs Prod.fst arVd W3 W2.heap.size ([]:List (ByteArray×Int)) by rw[hW3];exact mapIs_new _)
       have s3:W3.heap.size=W2.heap.size+1:=by rw[hW3];exact Array.size_push _
       have G3:=LH (N3.out.at (by simp) G2.out)
       have g3:=blk_cell G3.out
       obtain⟨W4,hW4⟩:∃W4,W4=W3.alloc (.cells #[.slice x.na x.nodes.length x.nc, .slice (some ⟨b2,o2,none⟩) x.funcs.length x.fc, .map (some W2.heap.size), .int .i64 (f.params.length:Int), .slice (some ⟨sb,0,none⟩) x.nodes.length x.nodes.length, .slice (some ⟨eb,0,none⟩) x.nodes.length x.nodes.length] 307):=⟨_,rfl⟩
       have N4:=LH (show Chg [] W3 W4 by rw[hW4];exact(Chg.refl _ _).alloc _)
       have G4:=LH (N4.out.at (by simp) G3.out)
       have g4:=blk_cell G4.out
       have D4:=LH ((N2.out.thenSame N3.out).thenSame N4.out)
       have A4:=LH (show ScAt x w.heap.size (W2.heap.size+1) W2.heap.size sb eb W4 ⟨[],(f.params.length:Int),s,e⟩from⟨by rw[hW4,←s3];unfold scO;rw[e2];exact heap_alloc_new _ _,M3.out.kept N4.out (by simp),RowOf.kept Rs.out D4.out (by simp),RowOf.kept Re.out D4.out (by simp)⟩)
       have S3:=LH s3
       have SEP:=LH (show Sep w.heap.size (W2.heap.size+1) W2.heap.size sb eb from by
        have z3:=Z3.out
        have z6:=Z6.out
        have l6:=L6.out
        have zw:=Zw.out
        have y2:=S2.out
        have y3:=S3.out
        constructor<;>omega)
       have g3':∀i,(W2.alloc (.map #[] 0)).cell? ⟨wr.heap.size,i,none⟩=(#[.string f.name, .slice f.pa f.params.length f.pc, .int .i64 (m:Int)]:Array Value)[i]? :=fun i=>(by rw[←hW3];exact g3 i)
       have p3':∀i,(W2.alloc (.map #[] 0)).cell? ⟨w.heap.size,i,none⟩=(#[.slice x.na x.nodes.length x.nc, .slice x.fa x.funcs.length x.fc]:Array Value)[i]? :=fun i=>(by rw[←hW3];exact blk_cell (N3.out.at (by simp) P2.out) i)
       clear s3 g3
       go_upto_region 19 with (refine wpl_makeMap _ rfl 195 rfl ?_)
       rw[←hW3]
       rw[←hW4]
       clear hW3 hW4 g2 g3' p2 p3'
       have ZM:=LH (show wr.heap.size<W2.heap.size by have:=S2.out;omega)
       have C4:=LH (C.out.thenSame D4.out)
       have B4:=LH (D4.out.at (by simp) B.out)
       have Rl4:=LH (RowOf.kept Rl.out D4.out (by simp))
       have HG:=LH (fun g (hg:(Value.slice la l.length lc).ownBlock=some g)=>And.intro (Rl.out.block g hg).1 (Rl.out.block g hg).2)
       clear S2 S3 M3 C B Rl D4 N2 N3 N4 G2 G3 P2 Rs Re
       generalize W2.heap.size=mb at*
       generalize wr.heap.size=zr at*
       go_wp2_with fail
       clear g4
       go_loopw [70] (fun u wi=>∃(k:Nat) (v:List (ByteArray×Int)),u= .int .i64 k∧k≤f.params.length∧Hid (parV f.params 0 []=parV (f.params.drop k) (k:Int) v)∧Hid (ScAt x w.heap.size (mb+1) mb sb eb wi ⟨v,(f.params.length:Int),s,e⟩)∧Hid (Chg [mb] W4 wi)) (fun u _=>f.params.length-(intOf u).toNat)
       case atStart=>exact⟨0,[],rfl,Nat.zero_le _,LH rfl,A4,LH (Chg.refl _ _)⟩
       case round=>
        obtain⟨k,v,rfl,hk,HV,A5,D5⟩:=hrel
        have hk0:(0:Int)≤(k:Int):=by omega
        have C5:=LH (show Chg [] w wr from C4.out.then D5.out (by intro y hy hl;have:=SEP.out.l2;simp at hy;omega))
        by_cases hkl:k<f.params.length
        ·have hkl':(k:Int)<(f.params.length:Int):=by omega
         obtain⟨b3,o3,e3, -, -,hc3⟩:=(HPF.out _ C5.out).1.elem (Chg.refl [] _) k hkl
         have c5:=hc3 0 (by omega)
         simp only[skC,List.getElem?_cons_zero,Nat.add_zero,Nat.mul_one]at c5
         have HV2:=HV.out
         rw[List.drop_eq_getElem_cons hkl,parV]at HV2
         have HV3:=LH HV2
         have qk:IntKind.i64.wrap ((k:Int)+1)=(k:Int)+1:=IntWalk.i64_in _ (by omega)
         have k5:=blk_cell (by have:=A5.out.box;unfold scO at this;exact this)
         generalize f.params[k]=nm at*
         clear hc3 HV2
         rw[e3]
         go_wp2_with (refine wpl_store _ rfl _ _ _ 195 rfl 9 3 Tryz.underlying195 Tryz.underlying9 mb _ rfl A5.out.map (nm,(k:Int)) rfl rfl ?_;intro w7 hm7 hc7 hz7;have A7:=LH (A5.out.setMap SEP.out hm7 hc7);have D7:=LH (D5.out.thenSame hc7);clear hm7 hc7 hz7)
         exact⟨⟨k+1,_,rfl,by omega,HV3,A7,D7⟩,by simp[intOf];omega⟩
        ·have hke:k=f.params.length:=by omega
         have HV2:=HV.out
         rw[hke,List.drop_length,parV]at HV2
         have A6:=LH (by have:=A5.out;rw[←HV2]at this;exact this)
         have hkl': ¬(k:Int)<(f.params.length:Int):=by omega
         have AW:=LH (swalk_all SEP.out (Nat.le_refl _) H.out hnl x.nodes.length _ _ m C5.out A6.out hm2 hm2 hm3)
         have g5:=blk_cell (D5.out.at (by simp;have:=ZM.out;omega) G4.out)
         obtain⟨S8,hS8⟩:∃S8,S8=walkZ x.p x.nodes.length ⟨parV f.params 0 [],(f.params.length:Int),s,e⟩ m:=⟨_,rfl⟩
         have AW2:=LH (by have:=AW.out;rw[←hS8]at this;exact this)
         have HQ4:=LH (by have:=HQ3.out;rw[←hS8]at this;exact this)
         clear HV HV2 A5 hke AW HQ3 hS8
         have NR:=LH (fun g (hg:(Value.slice la l.length lc).ownBlock=some g)=>show g∉[mb+1,mb,sb,eb]from by
          have h1:=HG.out g hg
          have h2:=ZM.out
          have h3:=Z6.out
          have h4:=L6.out
          simp only[List.mem_cons,List.not_mem_nil,or_false]
          omega)
         have NRm:=LH (fun g (hg:(Value.slice la l.length lc).ownBlock=some g)=>show g∉[mb]from fun e=>NR.out g hg (by simp at e;simp[e]))
         have Rl5:=LH (RowOf.kept Rl4.out D5.out NRm.out)
         have B5:=LH (D5.out.at (by simp;have:=ZM.out;have:=Z3.out;have:=Zw.out;have:=L6.out;have:=Z6.out;omega) B4.out)
         have hlj:l.length≤16:=by have:=HL.out;omega
         have hz6:w6.heap.size≤wr.heap.size:=by have h1:=A6.out.map.lt;have h2:=ZM.out;have h3:=Zw.out;omega
         go_wp2_with (first|(go_at_call 157;(with_reducible refine Calls.mono AW2.out ?_);rintro e8 w8 ⟨rfl,ha,hc⟩;have A8:=LH ha;have D8:=LH hc;have k8:=blk_cell (by have:=A8.out.box;unfold scO at this;exact this);have hz8:=hc.size;clear ha hc g5)|(at_builtin;refine wpl_append rfl _ _ 77 rfl w6.heap.size 3 _ 8 Tryz.underlying77 intInfoS rfl (by decide) icI_len1 icI_one1 (.slice la l.length lc) l rfl (RowOf.kept (RowOf.kept Rl5.out D8.out NR.out) ((Chg.refl [] _).alloc _) (by simp)) w8.heap.size _ S8.next _ _ _ rfl (heap_alloc_new w8 _) rfl (by unfold maxLen;omega) (by omega) (by simp;omega) ?_;intro v' w9 hr9 hg9;have Hr9:=LH hr9;have Hg9:=LH hg9;clear hr9 hg9))
         have hT:=LH (fun g (hg:g∈(Value.slice la l.length lc).ownBlock.toList)=>HG.out g (by simpa using hg))
         have A9:=LH ((A8.out.keptN ((Chg.refl _ _).alloc (.cells #[.int .i64 S8.next] 3))).kept (Chg.ofRow Hg9.out) (fun hg=>by have h1:=hT.out _ hg;have:=ZM.out;omega) (fun hg=>by have h1:=hT.out _ hg;have:=ZM.out;omega) (fun hg=>by have h1:=hT.out _ hg;have:=Z6.out;have:=L6.out;omega) (fun hg=>by have h1:=hT.out _ hg;have:=Z6.out;have:=L6.out;omega))
         have C9:=LH (((SEP.out.nil (Nat.le_refl _) C5.out D8.out).alloc (.cells #[.int .i64 S8.next] 3)).then (Chg.ofRow Hg9.out) (fun g hg hl=>by have h1:=hT.out _ hg;have:=C6.out.size;omega))
         have hz9:w6.heap.size≤w9.heap.size:=by have:=(Chg.ofRow Hg9.out).size;simp at this;omega
         have B9:=LH ((Chg.ofRow Hg9.out).at (fun hg=>by have h1:=hT.out _ hg;have:=Z6.out;have:=L6.out;omega) (blk_alloc (o':= .cells #[.int .i64 S8.next] 3) (D8.out.at (by have h1:=ZM.out;have h2:=Z6.out;have h3:=L6.out;have h4:=Z3.out;have h5:=Zw.out;simp only[List.mem_cons,List.not_mem_nil,or_false];omega) B5.out)))
         obtain⟨a',c',rfl⟩:=RowOf.shape Hr9.out
         exact⟨⟨j+1,S8.slots,S8.errs,l++[S8.next],a',c',rfl,rfl,by omega,by simp[HL.out],HQ4,LH A9.out.sl,LH A9.out.er,Hr9,C9,LH hz9,(by first|exact B9|(rw[e2]at B9;exact B9))⟩,by simp[intOf];omega⟩
      ·have hje:j=x.funcs.length:=by omega
       have HQ2:=HQ.out
       rw[hje,List.drop_length,List.map_nil,runsZ]at HQ2
       have hjl': ¬(j:Int)<(x.funcs.length:Int):=by omega
       have HR2:=HR.out
       rw[HQ2]at HR2
       have HR3:=LH (show R=match errAt e 0 with|some (k,e)=>([],[],k,e)|none=>(s,l,0,0)from HR2)
       have hel:=(RowOf.atS Re.out icI_len1).1
       have HEL:=LH hel
       clear HQ HQ2 HR2 HR HZ hje hel
       go_wp2_with fail
       go_loopw [96] (fun v wi=>∃k:Nat,v= .int .i64 k∧k≤x.nodes.length∧Hid (errAt e 0=errAt (e.drop k) (k:Int))∧wi=wr) (fun v _=>x.nodes.length-(intOf v).toNat)
       case atStart=>exact⟨0,rfl,Nat.zero_le _,LH rfl,rfl⟩
       case round=>
        obtain⟨k,rfl,hk,HV,rfl⟩:=hrel
        have hk0:(0:Int)≤(k:Int):=by omega
        by_cases hkl:k<x.nodes.length
        ·have hkl':(k:Int)<(x.nodes.length:Int):=by omega
         have hke:k<e.length:=by rw[←HEL.out];exact hkl
         obtain⟨-, -, -,hcl, -, -, -⟩:=RowOf.atS Re.out icI_len1
         have e7:=hcl k hke 0 (by omega)
         simp only[icI,List.getElem?_cons_zero,Nat.add_zero,Nat.mul_one]at e7
         have HV2:=HV.out
         rw[List.drop_eq_getElem_cons hke,errAt]at HV2
         have qk:IntKind.i64.wrap ((k:Int)+1)=(k:Int)+1:=IntWalk.i64_in _ (by omega)
         generalize e[k]=ev at*
         clear hcl
         by_cases hev:ev=0
         ·rw[if_pos hev]at HV2
          have HV3:=LH HV2
          have hevb:(ev !=0)=false:=by rw[hev];rfl
          clear HV2 hev
          go_wp2_with fail
          exact⟨⟨k+1,rfl,by omega,HV3,by trivial⟩,by simp[intOf];omega⟩
         ·rw[if_neg hev]at HV2
          have HE:=LH (by have:=HR3.out;rw[HV2]at this;exact this)
          have hevb:(ev !=0)=true:=by simpa using hev
          clear HV2 hev
          go_wp2_with fail
          ((try simp only[Exit.inBlock,Exit.then]);refine bodyPost_ret (results_tmp4 rfl _ _ _) rfl ?_)
          exact study_nil HE.out C.out
        ·have hke:k=e.length:=by have:=HEL.out;omega
         have HV2:=HV.out
         rw[hke,List.drop_length,errAt]at HV2
         have HE:=LH (show R=(s,l,0,0) by have:=HR3.out;rw[HV2]at this;exact this)
         have hkl': ¬(k:Int)<(x.nodes.length:Int):=by omega
         clear HV2 hke
         go_wp2_with fail
         ((try simp only[Exit.inBlock,Exit.then]);refine bodyPost_ret (results_tmp4 rfl _ _ _) rfl ?_)
         exact study_ok HE.out Rs.out (RowOf.atS Rs.out icI_len1).1 Rl.out C6.out.size C.out
  ·rw[if_neg hfe]at hR
   have HE:=LH hR
   generalize funcsZ x.p=fe at*
   obtain⟨fa,fb⟩:=fe
   have hfeb:(fb !=0)=true:=by simpa using hfe
   clear hR hce hfe
   go_enter Tryz.func92,Tryz.ntmps92
   go_upto_region 1 with fail
   rw[←hW1]
   clear hW1
   go_wp2_with (first|(go_at_call 31;(with_reducible refine Calls.mono AS.out ?_);rintro e w2 ⟨rfl,hc⟩;have C2:=LH (C1.out.thenSame hc);have B2:=LH (hc.at (by simp) B1.out);have k2:=blk_cell B2.out;clear k1 hc)|(go_at_call 156;(with_reducible refine Calls.mono (AF.out _ C2.out) ?_);rintro e w3 ⟨rfl,hc⟩;have C3:=LH (C2.out.thenSame hc);clear k2 hc))
   ((try simp only[Exit.inBlock,Exit.then]);refine bodyPost_ret (results_tmp4 rfl _ _ _) rfl ?_)
   exact study_nil HE.out C3.out
 ·rw[if_neg hce]at hR
  have HE:=LH hR
  have hceb:(ce !=0)=true:=by simpa using hce
  clear hR hce
  go_enter Tryz.func92,Tryz.ntmps92
  go_upto_region 1 with fail
  rw[←hW1]
  clear hW1
  go_wp2_with (first|(go_at_call 31;(with_reducible refine Calls.mono AS.out ?_);rintro e w2 ⟨rfl,hc⟩;have C2:=LH (C1.out.thenSame hc);clear k1 hc))
  ((try simp only[Exit.inBlock,Exit.then]);refine bodyPost_ret (results_tmp4 rfl _ _ _) rfl ?_)
  exact study_nil HE.out C2.out
end
section
open Go.RowKit
def SlotsPost (w:World) (R:List Int×Int) (e:Ending) (w':World):Prop:=∃(sa:Option Addr) (sc:Nat),e= .returned (.tuple #[.slice sa R.1.length sc, .int .i64 R.2])∧RowOf icI 1 w' w.heap.size 3 (.slice sa R.1.length sc) R.1∧Chg [] w w'
theorem slots_any (x:Pr) (w:World) (h:PrIn w x) (hg:goodPr x) (ht:TabW w):Calls Tryz.prog 39 #[.agg (prC x).toArray] w (SlotsPost w ((studyZ x.p).1,(studyZ x.p).2.2.2)):=by
 obtain⟨W1,hW1⟩:∃W1,W1=w.alloc (prOd x):=⟨_,rfl⟩
 have C1:=LH (show Chg [] w W1 by rw[hW1];exact(Chg.refl _ _).alloc _)
 have B1:=LH (show W1.heap[w.heap.size]? =some (prOd x) by rw[hW1];exact heap_alloc_new _ _)
 have A:=LH (study_any x W1 (h.kept C1.out) hg (ht.kept C1.out))
 unfold prOd at hW1 B1
 have k1:=blk_cell B1.out
 simp only[prC]at A⊢
 generalize studyZ x.p=R at*
 clear h hg ht
 go_enter Tryz.func39,Tryz.ntmps39
 go_upto_region 1 with fail
 rw[←hW1]
 clear hW1
 go_wp2_with (go_at_call 92;(with_reducible refine Calls.mono A.out ?_);rintro e w2 ⟨sa,sc,la,lc,rfl,hs,hl,hc⟩;have C2:=LH (C1.out.thenSame hc);have S2:=LH (hs.mono C1.out.size);clear k1 hc hs hl)
 go_ret2
 exact⟨_,_,rfl,S2.out,C2.out⟩
def localsZ (p:PPr) (f:Int):Int×Int:=if(studyZ p).2.2.2=0 then(if 0≤f∧f.toNat<(studyZ p).2.1.length then(((studyZ p).2.1[f.toNat]?).getD 0,0)else(0,2))else(0,(studyZ p).2.2.2)
theorem locals_any (x:Pr) (f:Int) (w:World) (h:PrIn w x) (hg:goodPr x) (ht:TabW w):Calls Tryz.prog 35 #[.agg (prC x).toArray, .int .i64 f] w fun e w'=>e= .returned (.tuple #[.int .i64 (localsZ x.p f).1, .int .i64 (localsZ x.p f).2])∧Chg [] w w':=by
 obtain⟨R2,hR2⟩:∃R2,R2=localsZ x.p f:=⟨_,rfl⟩
 rw[←hR2]
 unfold localsZ at hR2
 obtain⟨W1,hW1⟩:∃W1,W1=w.alloc (prOd x):=⟨_,rfl⟩
 have C1:=LH (show Chg [] w W1 by rw[hW1];exact(Chg.refl _ _).alloc _)
 have B1:=LH (show W1.heap[w.heap.size]? =some (prOd x) by rw[hW1];exact heap_alloc_new _ _)
 have A:=LH (study_any x W1 (h.kept C1.out) hg (ht.kept C1.out))
 unfold prOd at hW1 B1
 have k1:=blk_cell B1.out
 simp only[prC]at A⊢
 generalize studyZ x.p=R at*
 obtain⟨sl,lo,at',er⟩:=R
 simp only at hR2
 clear h hg ht
 by_cases he:er=0
 ·rw[if_pos he]at hR2
  have heb:(er !=0)=false:=by rw[he];rfl
  by_cases hf:0≤f∧f.toNat<lo.length
  ·rw[if_pos hf]at hR2
   obtain⟨m,rfl⟩:∃m:Nat,f=(m:Int):=⟨f.toNat,by omega⟩
   obtain⟨hf0,hf1⟩:=hf
   rw[Int.toNat_natCast]at hR2 hf1
   rw[List.getElem?_eq_getElem hf1]at hR2
   have HE:=LH hR2
   have hf2: ¬(m:Int)≥(lo.length:Int):=by omega
   have hf2b:decide ((lo.length:Int)≤(m:Int))=false:=by simp;omega
   have hf3:(m:Int)<(lo.length:Int):=by omega
   have hf4: ¬(m:Int)<0:=by omega
   clear hR2 he
   go_enter Tryz.func35,Tryz.ntmps35
   go_upto_region 1 with fail
   rw[←hW1]
   clear hW1
   go_wp2_with (go_at_call 92;(with_reducible refine Calls.mono A.out ?_);rintro e w2 ⟨sa,sc,la,lc,rfl,hs,hl,hc⟩;have C2:=LH (C1.out.thenSame hc);obtain⟨b3,o3,rfl, -, -,hc3⟩:=(RowOf.sl hl icI_len1).1.elem (Chg.refl [] _) m hf1;have c5:=hc3 0 (by omega);simp only[icI,List.getElem?_cons_zero,Nat.add_zero,Nat.mul_one]at c5;clear k1 hc hs hl hc3)
   go_ret2
   exact⟨ret2P HE.out,C2.out⟩
  ·rw[if_neg hf]at hR2
   have HE:=LH hR2
   clear hR2 he
   by_cases hf0:f<0
   ·go_enter Tryz.func35,Tryz.ntmps35
    go_upto_region 1 with fail
    rw[←hW1]
    clear hW1
    go_wp2_with (go_at_call 92;(with_reducible refine Calls.mono A.out ?_);rintro e w2 ⟨sa,sc,la,lc,rfl,hs,hl,hc⟩;have C2:=LH (C1.out.thenSame hc);clear k1 hc hs hl)
    go_ret2
    exact⟨ret2P HE.out,C2.out⟩
   ·have hf3:(lo.length:Int)≤f:=by omega
    clear hf
    go_enter Tryz.func35,Tryz.ntmps35
    go_upto_region 1 with fail
    rw[←hW1]
    clear hW1
    go_wp2_with (go_at_call 92;(with_reducible refine Calls.mono A.out ?_);rintro e w2 ⟨sa,sc,la,lc,rfl,hs,hl,hc⟩;have C2:=LH (C1.out.thenSame hc);clear k1 hc hs hl)
    go_ret2
    exact⟨ret2P HE.out,C2.out⟩
 ·rw[if_neg he]at hR2
  have HE:=LH hR2
  have heb:(er !=0)=true:=by simpa using he
  clear hR2 he
  go_enter Tryz.func35,Tryz.ntmps35
  go_upto_region 1 with fail
  rw[←hW1]
  clear hW1
  go_wp2_with (go_at_call 92;(with_reducible refine Calls.mono A.out ?_);rintro e w2 ⟨sa,sc,la,lc,rfl,hs,hl,hc⟩;have C2:=LH (C1.out.thenSame hc);clear k1 hc hs hl)
  go_ret2
  exact⟨ret2P HE.out,C2.out⟩
end
section
open Go.RowKit
def exE:ByteArray:=⟨#[101]⟩
def exX:ByteArray:=⟨#[120]⟩
def exZ:ByteArray:=⟨#[]⟩
def exPr (z:Nat) (s:ByteArray):Pr:=⟨some ⟨z+4,0,none⟩,5,[⟨5,exE,0,none,0,[],none,0,[]⟩,⟨13,exX,0,none,0,[],some ⟨z+1,0,none⟩,1,[0]⟩,⟨5,s,0,none,0,[],none,0,[]⟩,⟨17,exZ,0,none,0,[],some ⟨z+2,0,none⟩,1,[2]⟩,⟨19,exZ,0,none,0,[],some ⟨z+3,0,none⟩,2,[1,3]⟩],
 some ⟨z+6,0,none⟩,1,[⟨mainS,some ⟨z+5,0,none⟩,1,[exE],4⟩]⟩
structure ExAt (w:World) (z:Nat) (s:ByteArray):Prop where
 o1:w.heap[z+1]? =some (.cells #[.int .i64 0] 3 (0,0))
 o2:w.heap[z+2]? =some (.cells #[.int .i64 2] 3 (0,0))
 o3:w.heap[z+3]? =some (.cells #[.int .i64 1, .int .i64 3] 3 (0,0))
 o4:w.heap[z+4]? =some (.cells #[.int .i64 5, .string exE, .int .i64 0, .slice none 0 0, .slice none 0 0, .int .i64 13, .string exX, .int .i64 0, .slice none 0 0, .slice (some ⟨z+1,0,none⟩) 1 1, .int .i64 5, .string s, .int .i64 0, .slice none 0 0, .slice none 0 0, .int .i64 17, .string exZ, .int .i64 0, .slice none 0 0, .slice (some ⟨z+2,0,none⟩) 1 1, .int .i64 19, .string exZ, .int .i64 0, .slice none 0 0, .slice (some ⟨z+3,0,none⟩) 2 2] 297 (0,0))
 o5:w.heap[z+5]? =some (.cells #[.string exE] 9 (0,0))
 o6:w.heap[z+6]? =some (.cells #[.string mainS, .slice (some ⟨z+5,0,none⟩) 1 1, .int .i64 4] 130 (0,0))
theorem ExAt.kept {w w':World} {z:Nat} {s:ByteArray} (h:ExAt w z s) (hc:Chg [] w w'):ExAt w' z s:=
 ⟨hc.at (by simp) h.o1,hc.at (by simp) h.o2,hc.at (by simp) h.o3,hc.at (by simp) h.o4,hc.at (by simp) h.o5,hc.at (by simp) h.o6⟩
theorem inIs_nil {α:Type} {cf:α→List Value} {sz:Nat} {w:World}:InIs cf sz w none 0 ([]:List α):=⟨⟨rfl,fun k hk=>by simp at hk⟩,Nat.le_refl _,by unfold maxLen;omega,fun _=>rfl⟩
theorem inIs_blk {α:Type} {cf:α→List Value} {sz:Nat} {w:World} {b n:Nat} {cur:Array Value} {t:TypeId} {fr:Nat×Nat} (l:List α) (h:w.heap[b]? =some (.cells cur t fr)) (hc:∀x,(cf x).length=sz) (hl:cur.toList=l.flatMap cf) (hn:l.length≤n) (hm:n≤maxLen):InIs cf sz w (some ⟨b,0,none⟩) n l:=
 ⟨SlIs.ofBlock l h hc hl,hn,hm,fun e=>by cases e⟩
theorem ExAt.pr {w:World} {z:Nat} {s:ByteArray} (h:ExAt w z s):PrIn w (exPr z s):=by
 refine⟨⟨inIs_blk _ h.o4 ndC_len rfl (Nat.le_refl 5) (show 5≤maxLen by unfold maxLen;omega), ?_⟩,⟨inIs_blk _ h.o6 fnC_len rfl (Nat.le_refl 1) (show 1≤maxLen by unfold maxLen;omega), ?_⟩⟩
 ·intro d hd
  simp only[exPr,List.mem_cons,List.not_mem_nil,or_false]at hd
  rcases hd with rfl|rfl|rfl|rfl|rfl
  ·exact⟨inIs_nil,inIs_nil⟩
  ·exact⟨inIs_nil,inIs_blk _ h.o1 icI_len1 rfl (Nat.le_refl 1) (show 1≤maxLen by unfold maxLen;omega)⟩
  ·exact⟨inIs_nil,inIs_nil⟩
  ·exact⟨inIs_nil,inIs_blk _ h.o2 icI_len1 rfl (Nat.le_refl 1) (show 1≤maxLen by unfold maxLen;omega)⟩
  ·exact⟨inIs_nil,inIs_blk _ h.o3 icI_len1 rfl (Nat.le_refl 2) (show 2≤maxLen by unfold maxLen;omega)⟩
 ·intro d hd
  simp only[exPr,List.mem_cons,List.not_mem_nil,or_false]at hd
  subst hd
  exact inIs_blk _ h.o5 skC_lenS rfl (Nat.le_refl 1) (show 1≤maxLen by unfold maxLen;omega)
theorem ExAt.set {w:World} {z:Nat} {s:ByteArray} (h:ExAt w z s) (s':ByteArray):ExAt (w.setCell ⟨z+4,11,none⟩ (.string s')) z s':=by
 have hc:Chg [z+4] w (w.setCell ⟨z+4,11,none⟩ (.string s')):=(Chg.refl _ _).setCell _ _ (by simp)
 exact⟨hc.at (by simp) h.o1,hc.at (by simp) h.o2,hc.at (by simp) h.o3,blk_set h.o4 11 _,hc.at (by simp) h.o5,hc.at (by simp) h.o6⟩
end
end Go.Proofs.YtmofknmeljdodaaGreatDoor
