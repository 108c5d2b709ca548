/- Chapters 48, 55: contracts: Step, Calls at the plain history; plain: the law's operations. No condition but those that the statements name. -/
import Derived.DataShut
import Derived.Deep.DeepCutAuto
import Derived.Deep.CutBlock
import Derived.Test.YtmofknmeljdodaaGreatDoorZS01
import Derived.Test.YtmofknmeljdodaaGreatDoorZA07
import Derived.Test.YtmofknmeljdodaaGreatDoorZS03
import Derived.Test.YtmofknmeljdodaaGreatDoorZA04
import Derived.Test.YtmofknmeljdodaaGreatDoorZS12
set_option maxHeartbeats 100000000
set_option maxRecDepth 100000
set_option linter.unusedVariables false
set_option linter.unusedSimpArgs false
open List renaming getElem_toArray→gTA,getElem_cons_zero→gCZ,getElem_cons_succ→gCS,setIfInBounds_toArray→sTA,set_cons_zero→sCZ,set_cons_succ→sCS
namespace Go.Proofs.YtmofknmeljdodaaGreatDoor
section
open Go.RowKit
section
variable {w w':World} {B d done:Nat} {L:List Nat} {now t:Int} {calls:List PCl}
theorem addZ_errT (a b:Int):(addZ a b).2=0∨(addZ a b).2=8∨(addZ a b).2=2:=by
 unfold addZ
 split
 ·split
  ·exact .inl rfl
  ·exact .inr (.inl rfl)
 ·exact .inr (.inr rfl)
theorem addF_errT (s a:List Ce):(addF s a).2.1=0∨(addF s a).2.1=8∨(addF s a).2.1=2∨(addF s a).2.1=7:=by
 cases s with
 |nil=>exact .inr (.inr (.inr rfl))
 |cons x r=>
  cases a with
  |nil=>exact .inr (.inr (.inr rfl))
  |cons y q=>
   simp only[addF]
   by_cases h1:x.kind=3∨x.kind=1
   ·rw[if_pos h1]
    by_cases h2:y.kind=3
    ·rw[if_pos h2]
     by_cases h3:(addZ (if x.kind=3 then x.n else 0) y.n).2=0
     ·rw[if_pos h3];exact .inl rfl
     ·rw[if_neg h3]
      rcases addZ_errT (if x.kind=3 then x.n else 0) y.n with h|h|h
      ·exact .inl h
      ·exact .inr (.inl h)
      ·exact .inr (.inr (.inl h))
    ·rw[if_neg h2];exact .inr (.inr (.inr rfl))
   ·rw[if_neg h1];exact .inr (.inr (.inr rfl))
theorem doZ_errT (st:List Ce) (o:POp):(Lit.int .i64 (doZ st o).2.2.1).wf=true:=by
 unfold doZ
 split
 ·rfl
 ·split
  ·rfl
  ·simp only
   unfold doF
   split
   ·rfl
   ·split
    ·rfl
    ·split
     ·rcases addF_errT st (o.args.headD [])with h|h|h|h<;>(rw[h];rfl)
     ·split<;>rfl
theorem null_goodL:goodL [nullC]:=⟨by simp,fun x hx=>by
 simp at hx
 subst hx
 exact⟨(by decide:(Lit.int .i64 1).wf=true),(by decide:(Lit.int .i64 0).wf=true),(show(⟨#[]⟩:ByteArray).size≤maxLen from Nat.zero_le _),(by decide:(Lit.int .i64 0).wf=true)⟩⟩
theorem stO_good {os:List EOp} (h:∀o∈os,o.good) (hc:∀o∈os.map EOp.p,chkZ o=0):∀k,k≤os.length→goodL (stO (os.map EOp.p) k)
 |0,_=>null_goodL
 |k+1,hk=>by
  have hx:(os.map EOp.p)[k]? =some (os[k]'(by omega)).p:=by simp[show k<os.length by omega]
  rw[stO_succ hx]
  exact doZ_good (doZ_one (hc _ (List.mem_of_getElem? hx)) (stO_check hc k (by simp;omega))) (stO_good h hc k (by omega)) (h _ (List.getElem_mem _))
def AnsS (calls:List PCl):Prop:=∀x∈calls,x.ans.length≤200
theorem args_small {o:POp} (h:chkZ o=0):o.args.length≤1048576:=by
 obtain⟨-,p2, -⟩:=chk_zero h
 rw[p2]
 rcases opN_cases o.op with ⟨_,e⟩|⟨_,e⟩|⟨_,e⟩|⟨_,e⟩|⟨_,e⟩<;>rw[e]<;>decide
theorem dr_sizes {me mc:Nat} {E:List Nat} {rv:Value} {sa:Option Addr} {sc:Nat} {st:List Ce} {xs:List (Nat×Cl)} (h:DrAt w B L d me mc E rv sa sc st xs done now) (hk:TlOk (xs.map fun x=>x.2.p) done t) (ha:AnsS (xs.map fun x=>x.2.p)):∀x∈xs,(∀v∈x.2.o.args,v.L.length≤3518437208780)∧x.2.ans.length≤3518437208780∧x.2.o.args.length≤1048576:=by
 intro x hx
 obtain⟨-,hg, -⟩:=h.ci x hx
 refine⟨fun v hv=>(hg.1.2.2.2.2 v hv).1, ?_, ?_⟩
 ·have:=ha x.2.p (List.mem_map.2 ⟨x,hx,rfl⟩)
  have e:x.2.p.ans=x.2.ans:=rfl
  rw[e]at this
  omega
 ·obtain⟨k,hk2,e⟩:=List.getElem_of_mem hx
  have hz:=(hk.ops k x.2.p (by simp[hk2,e])).2.2
  have:=args_small hz
  have e2:x.2.p.o.args.length=x.2.o.args.length:=by simp[Cl.p,EOp.p]
  omega
theorem dstep_any (h:DrIs w B L d calls done now) (hk:TlOk calls done t) (ha:AnsS calls) (ht:TabW w) (t0:0≤t) (t1:t≤1073741824) (t2:now≤t):
 Calls Tryz.prog 16 #[.pointer (some ⟨d,0,none⟩), .string entX, .int .i64 t] w fun e w'=>(∃v,e= .returned v)∧∃calls' done' now',DrIs w' B L d calls' done' now'∧TlOk calls' done' (t+1)∧AnsS calls'∧now'≤t∧calls'.length=calls.length∧Tr L w L w':=by
 obtain⟨me,mc,E,rv,sa,sc,xs,h,hx⟩:=h
 match E,h with
 |[],h=>
  refine(dstep_none h t1 t2).mono ?_
  rintro e w' ⟨hv,hc⟩
  exact⟨hv,calls,done,now,⟨me,mc,[],rv,sa,sc,xs,h.kept hc,hx⟩,hk.later (by omega),ha,t2,rfl,(Tr.refl L w).same hc⟩
 |[eb],h=>
  have h8:xs.length≤8:=by have:=hk.len;rw[←hx]at this;simpa using this
  by_cases hd:done=xs.length
  ·subst hd
   refine(dstep_idle h h8 t1 t2).mono ?_
   rintro e w' ⟨hv,hc⟩
   exact⟨hv,calls,xs.length,now,⟨me,mc,[eb],rv,sa,sc,xs,h.kept hc,hx⟩,hk.later (by omega),ha,t2,rfl,(Tr.refl L w).same hc⟩
  ·have hdl:done<xs.length:=by have:=hk.dn;rw[←hx]at this;simp at this;omega
   have hsz:=dr_sizes h (by rw[hx];exact hk) (by rw[hx];exact ha)
   have hxd:xs[done]? =some (xs[done].1,xs[done].2):=List.getElem?_eq_getElem hdl
   have hxm:=List.mem_of_getElem? hxd
   have hcd:calls[done]? =some xs[done].2.p:=by rw[←hx];simp[hdl]
   have hops:=hk.ops done _ hcd
   have hso:∀k,stO (calls.map PCl.o) k=stO ((xs.map fun x=>x.2.o).map EOp.p) k:=fun k=>by rw[←hx];simp only[List.map_map];rfl
   have hst:=stO_check hk.chk done (by have:=hk.dn;simp;exact this)
   have hgl:goodL (stO (calls.map PCl.o) done):=by
    rw[hso]
    refine stO_good (fun o ho=> ?_) (fun o ho=> ?_) done (by simp;omega)
    ·obtain⟨z,hz,rfl⟩:=List.mem_map.1 ho
     exact(h.ci z hz).2.1.1
    ·refine hk.chk o ?_
     rw[←hx]
     simp only[List.map_map,List.mem_map]at ho⊢
     obtain⟨z,hz,rfl⟩:=ho
     exact⟨z,hz,rfl⟩
   have hz1:=doZ_one hops.2.2 hst
   have hz:doZ (stO (calls.map PCl.o) done) xs[done].2.o.p=(0,(doZ (stO (calls.map PCl.o) done) xs[done].2.o.p).2.1,(doZ (stO (calls.map PCl.o) done) xs[done].2.o.p).2.2.1,(doZ (stO (calls.map PCl.o) done) xs[done].2.o.p).2.2.2):=Prod.ext hz1 rfl
   have hs:=hsz _ hxm
   refine(dstep_yes h hxd h8 hgl hz (doZ_errT _ _) ht t0 t1 t2 hs.1 (by have:=doZ_ans hz1;show(doZ (stO (calls.map PCl.o) done) xs[done].2.p.o).2.2.2.length≤_;omega) hs.2.2).mono ?_
   rintro e w' ⟨hv,na,nc,va,vc,h9,t9⟩
   have e9:(xs.set done (xs[done].1,pfC xs[done].2 (doZ (stO (calls.map PCl.o) done) xs[done].2.o.p).2.2.1 va vc (doZ (stO (calls.map PCl.o) done) xs[done].2.o.p).2.2.2 t)).map (fun x=>x.2.p)=perf calls done t xs[done].2.p:=by
    unfold perf
    rw[List.map_set,hx]
    rfl
   refine⟨hv,perf calls done t xs[done].2.p,done+1,t,⟨me,mc,[eb],rv,na,nc,_, ?_,e9⟩,hk.step t0 hcd, ?_,Int.le_refl _,by simp[perf],t9⟩
   ·rw[perf_ops hcd,stO_succ (o:=xs[done].2.p.o) (by simp[hcd])]
    exact h9
   ·intro y hy
    obtain⟨i,hi,rfl⟩:=List.getElem_of_mem hy
    rcases perf_at hcd (List.getElem?_eq_getElem hi)with ⟨-,q⟩|⟨-,q⟩
    ·exact ha _ (List.mem_of_getElem? q)
    ·rw[q]
     exact doZ_ans hz1
 |a::b::l,h=>
  exfalso
  have:=h.em.nodup
  simp at this
theorem dcalls_any (h:DrIs w B L d calls done now) (hk:TlOk calls done t) (ha:AnsS calls):
 Calls Tryz.prog 18 #[.pointer (some ⟨d,0,none⟩), .string entX] w (CallsP w calls):=by
 obtain⟨me,mc,E,rv,sa,sc,xs,h,hx⟩:=h
 match E,h with
 |[],h=>
  obtain⟨q1, -⟩:=h.no rfl
  subst q1
  rw[←hx]
  exact dcalls_none h
 |[eb],h=>
  have h8:xs.length≤8:=by have:=hk.len;rw[←hx]at this;simpa using this
  have:=dcalls_yes h h8 (dr_sizes h (by rw[hx];exact hk) (by rw[hx];exact ha))
  rw[hx]at this
  exact this
 |a::b::l,h=>
  exfalso
  have:=h.em.nodup
  simp at this
end
def tlOp (q:Int):ByteArray:=if q=1 then opWrite else if q=2 then opAdd else if q=3 then opCas else opRead
def tlA (q m:Int):List (List Ce):=if q=1 then[[intC m]]else if q=2 then[[intC m]]else if q=3 then[[nullC],[intC m]]else[]
def tlP (q m:Int) (id:ByteArray):POp:=⟨entX,id,tlOp q,tlA q m⟩
theorem tlP_chk {q m:Int} {id:ByteArray} (hq:q=0∨q=1∨q=2∨q=3) (hm:validB m=true) (hid:idB id=true):chkZ (tlP q m id)=0:=by
 unfold chkZ tlP
 simp only
 rw[entX_id,hid,if_neg (by simp)]
 rcases hq with rfl|rfl|rfl|rfl
 ·have:opN (tlOp 0)=1:=by kernel_rfl
  rw[this]
  simp[tlA,ariN,firstE]
 ·have:opN (tlOp 1)=2:=by kernel_rfl
  rw[this]
  simp[tlA,ariN,firstE,check_int hm]
 ·have:opN (tlOp 2)=3:=by kernel_rfl
  rw[this]
  simp[tlA,ariN,firstE,check_int hm]
 ·have:opN (tlOp 3)=4:=by kernel_rfl
  rw[this]
  simp[tlA,ariN,firstE,check_int hm,check_null]
theorem small_validT {n:Int} (h: -128≤n∧n≤127):validB n=true:=validB_iff.2 (by omega)
theorem tlE_good {s:ByteArray} {q m:Int} {aa:Option Addr} {ac:Nat} {args:List (Rr Ce)} (hs:s.size≤maxLen) (he:args.map Rr.L=tlA q m) (hv:validB m=true):EOp.good ⟨entX,s,tlOp q,aa,ac,args⟩:=by
 have hin:∀d∈args,d.L∈tlA q m:=fun d hd=>by rw[←he];exact List.mem_map_of_mem hd
 have hl:args.length=(tlA q m).length:=by rw[←he,List.length_map]
 have h2:(tlA q m).length≤2:=by unfold tlA;split;simp;split;simp;split<;>simp
 refine⟨of_decide_eq_true (by kernel_rfl),hs, ?_,by simp only;omega,fun d hd=> ?_⟩
 ·simp only[tlOp]
  split
  ·exact of_decide_eq_true (by kernel_rfl)
  ·split
   ·exact of_decide_eq_true (by kernel_rfl)
   ·split<;>exact of_decide_eq_true (by kernel_rfl)
 ·have:=hin d hd
  unfold tlA at this
  split at this
  ·simp at this;rw[this];exact intC_goodL hv
  ·split at this
   ·simp at this;rw[this];exact intC_goodL hv
   ·split at this
    ·simp at this
     rcases this with h|h<;>rw[h]
     ·exact null_goodL
     ·exact intC_goodL hv
    ·simp at this
theorem nmT_size (i:Nat):(nmT i).size≤maxLen:=by
 have:(nmT i).size=3:=rfl
 rw[this]
 unfold maxLen
 omega
structure Cli where
 k:Int
 n:Int
def cliC (x:Cli):List Value:=[.int .u8 x.k, .int .i8 x.n]
def Cli.good (x:Cli):Prop:=(Lit.int .u8 x.k).wf=true∧(Lit.int .i8 x.n).wf=true
end
section
open Go.RowKit
theorem wf_u8T {n:Int} (h:(Lit.int .u8 n).wf=true):0≤n∧n≤255:=by
 have:=(Lit.wf_int_iff _ _).1 h
 simpa[IntKind.min,IntKind.max,IntKind.bits,IntKind.signed]using this
theorem wf_i8T {n:Int} (h:(Lit.int .i8 n).wf=true): -128≤n∧n≤127:=by
 have:=(Lit.wf_int_iff _ _).1 h
 simpa[IntKind.min,IntKind.max,IntKind.bits,IntKind.signed]using this
theorem intInfoT:(Tryz.prog.info? 3).map (fun i=>(i.zero,i.size,i.bytes))=some (some (.int .i64 0),1,8):=by kernel_rfl
theorem intsF_app:∀(m k:Nat),intsF k (m+1)=intsF k m++[((k+m:Nat):Int)]
 |0,k=>rfl
 |m+1,k=>by
  rw[intsF,intsF_app m (k+1),intsF,List.cons_append,show k+1+m=k+(m+1) by omega]
theorem intsF_len:∀(m k:Nat),(intsF k m).length=m
 |0,_=>rfl
 |m+1,k=>by rw[intsF,List.length_cons,intsF_len m]
section
variable {w w':World} {b d:Nat} {t:TypeId} {B:Nat} {L:List Nat} {calls:List PCl} {done:Nat} {now:Int}
theorem cell_new (w:World) (x:Ce):InIs ceC 4 (w.alloc (.cells #[.int .i64 x.kind, .int .i64 x.n, .string x.str, .int .i64 x.cn] 63 (0,0))) (some ⟨w.heap.size,0,none⟩) 1 [x]:=
 (InIs.ofRow (row_blk (base:=0) [x] (Nat.zero_le _) (heap_alloc_new w _) ceC_len rfl (by unfold maxLen;simp)) ceC_len).2
theorem one_rrT {d:Rr Ce} (h:w.heap[b]? =some (.cells #[.slice d.a d.L.length d.c] t (0,0))):InIs rrC 1 w (some ⟨b,0,none⟩) 1 [d]:=
 ⟨SlIs.ofBlock (cf:=rrC) [d] h rrC_len rfl,Nat.le_refl _,by unfold maxLen;simp,fun h=>by cases h⟩
theorem two_rrT {d d2:Rr Ce} (h:w.heap[b]? =some (.cells #[.slice d.a d.L.length d.c, .slice d2.a d2.L.length d2.c] t (0,0))):InIs rrC 1 w (some ⟨b,0,none⟩) 2 [d,d2]:=
 ⟨SlIs.ofBlock (cf:=rrC) [d,d2] h rrC_len rfl,Nat.le_refl _,by unfold maxLen;simp,fun h=>by cases h⟩
theorem nilAT {α:Type} {cf:α→List Value} {sz:Nat}:InIs cf sz w none 0 ([]:List α):=⟨⟨rfl,fun k hk=>by simp at hk⟩,Nat.le_refl _,Nat.zero_le _,fun _=>rfl⟩
theorem DrIs.lt (h:DrIs w B L d calls done now):∀y∈L,y<w.heap.size:=by
 obtain⟨_,_,_,_,_,_,_,h, -⟩:=h
 exact h.lt
theorem DrIs.lo (h:DrIs w B L d calls done now):∀y∈L,B≤y:=by
 obtain⟨_,_,_,_,_,_,_,h, -⟩:=h
 exact h.lo
structure SwT (wr wx:World) (eb:Nat) (q m:Int) (n:Nat) (id op:ByteArray) (aa:Option Addr) (ac:Nat) (args:List (Rr Ce)):Prop where
 blk:wx.heap[eb]? =some (.cells #[.string entX, .string id, .string op, .slice aa args.length ac] 67 (0,0))
 yes:q≤3→id=nmT n∧op=tlOp q∧ArgsIn wx aa ac args∧args.map Rr.L=tlA q m∧(∀y,aa=some y→wr.heap.size≤y.block)∧∀d∈args,∀y,d.a=some y→wr.heap.size≤y.block
 no:3<q→id=⟨#[]⟩
 chg:Chg [] wr wx
theorem sw_one {wr W:World} {eb xb n:Nat} {q m:Int} {c2 c3:Value} {op:ByteArray} (h3:q≤3) (hop:op=tlOp q) (hta:tlA q m=[[intC m]]) (hb:W.heap[eb]? =some (.cells #[.string entX, .string (nmT n),c2,c3] 67 (0,0))) (hx:InIs ceC 4 W (some ⟨xb,0,none⟩) 1 [intC m]) (hne:xb≠eb) (hxl:wr.heap.size≤xb) (hel:wr.heap.size≤eb) (hc:Chg [] wr W):
 SwT wr (((W.setCell ⟨eb,2,none⟩ (.string op)).setCell ⟨eb,3,none⟩ (.slice (some ⟨W.heap.size,0,none⟩) 1 1)).alloc (.cells #[.slice (some ⟨xb,0,none⟩) 1 1] 22 (0,0))) eb q m n (nmT n) op (some ⟨W.heap.size,0,none⟩) 1 [⟨some ⟨xb,0,none⟩,1,[intC m]⟩]:=by
 have b1:(W.setCell ⟨eb,2,none⟩ (.string op)).heap[eb]? =some (.cells #[.string entX, .string (nmT n), .string op,c3] 67 (0,0)):=blk_set hb 2 _
 have b2:((W.setCell ⟨eb,2,none⟩ (.string op)).setCell ⟨eb,3,none⟩ (.slice (some ⟨W.heap.size,0,none⟩) 1 1)).heap[eb]? =some (.cells #[.string entX, .string (nmT n), .string op, .slice (some ⟨W.heap.size,0,none⟩) 1 1] 67 (0,0)):=blk_set b1 3 _
 have c1:Chg [eb] W ((W.setCell ⟨eb,2,none⟩ (.string op)).setCell ⟨eb,3,none⟩ (.slice (some ⟨W.heap.size,0,none⟩) 1 1)):=((Chg.refl [eb] W).setCell _ _ (fun _=>by simp)).setCell _ _ (fun _=>by simp)
 have z1:((W.setCell ⟨eb,2,none⟩ (.string op)).setCell ⟨eb,3,none⟩ (.slice (some ⟨W.heap.size,0,none⟩) 1 1)).heap.size=W.heap.size:=by simp only[World.size_setCell]
 generalize (W.setCell ⟨eb,2,none⟩ (.string op)).setCell ⟨eb,3,none⟩ (.slice (some ⟨W.heap.size,0,none⟩) 1 1)=W1 at*
 have a1:=heap_alloc_new W1 (.cells #[.slice (some ⟨xb,0,none⟩) 1 1] 22 (0,0))
 rw[z1]at a1
 have c2:Chg [eb] W (W1.alloc (.cells #[.slice (some ⟨xb,0,none⟩) 1 1] 22 (0,0))):=c1.alloc _
 refine⟨blk_alloc b2,fun _=>⟨rfl,hop,⟨one_rrT (d:=⟨some ⟨xb,0,none⟩,1,[intC m]⟩) a1,fun d hd=> ?_⟩,hta.symm,fun y hy=> ?_,fun d hd y hy=> ?_⟩,fun h=>absurd h3 (by omega),hc.then c2 (fun z hz hl=>by simp at hz;omega)⟩
 ·simp at hd
  subst hd
  exact InIs.keptN (S:=[eb]) hx c2 (fun y hy=>by cases hy;simpa using hne)
 ·cases hy
  exact hc.size
 ·simp at hd
  subst hd
  cases hy
  exact hxl
theorem sw_two {wr W:World} {eb xb n:Nat} {m:Int} {c2 c3:Value} (hb:W.heap[eb]? =some (.cells #[.string entX, .string (nmT n),c2,c3] 67 (0,0))) (hx:InIs ceC 4 W (some ⟨xb,0,none⟩) 1 [intC m]) (hne:xb≠eb) (hxl:wr.heap.size≤xb) (hel:wr.heap.size≤eb) (hc:Chg [] wr W):
 SwT wr ((((W.setCell ⟨eb,2,none⟩ (.string opCas)).setCell ⟨eb,3,none⟩ (.slice (some ⟨W.heap.size+1,0,none⟩) 2 2)).alloc (.cells #[.int .i64 1, .int .i64 0, .string ⟨#[]⟩, .int .i64 0] 63 (0,0))).alloc (.cells #[.slice (some ⟨W.heap.size,0,none⟩) 1 1, .slice (some ⟨xb,0,none⟩) 1 1] 22 (0,0))) eb 3 m n (nmT n) opCas (some ⟨W.heap.size+1,0,none⟩) 2 [⟨some ⟨W.heap.size,0,none⟩,1,[nullC]⟩,⟨some ⟨xb,0,none⟩,1,[intC m]⟩]:=by
 have b1:(W.setCell ⟨eb,2,none⟩ (.string opCas)).heap[eb]? =some (.cells #[.string entX, .string (nmT n), .string opCas,c3] 67 (0,0)):=blk_set hb 2 _
 have b2:((W.setCell ⟨eb,2,none⟩ (.string opCas)).setCell ⟨eb,3,none⟩ (.slice (some ⟨W.heap.size+1,0,none⟩) 2 2)).heap[eb]? =some (.cells #[.string entX, .string (nmT n), .string opCas, .slice (some ⟨W.heap.size+1,0,none⟩) 2 2] 67 (0,0)):=blk_set b1 3 _
 have c1:Chg [eb] W ((W.setCell ⟨eb,2,none⟩ (.string opCas)).setCell ⟨eb,3,none⟩ (.slice (some ⟨W.heap.size+1,0,none⟩) 2 2)):=((Chg.refl [eb] W).setCell _ _ (fun _=>by simp)).setCell _ _ (fun _=>by simp)
 have z1:((W.setCell ⟨eb,2,none⟩ (.string opCas)).setCell ⟨eb,3,none⟩ (.slice (some ⟨W.heap.size+1,0,none⟩) 2 2)).heap.size=W.heap.size:=by simp only[World.size_setCell]
 generalize (W.setCell ⟨eb,2,none⟩ (.string opCas)).setCell ⟨eb,3,none⟩ (.slice (some ⟨W.heap.size+1,0,none⟩) 2 2)=W1 at*
 have i1:InIs ceC 4 (W1.alloc (.cells #[.int .i64 1, .int .i64 0, .string ⟨#[]⟩, .int .i64 0] 63 (0,0))) (some ⟨W.heap.size,0,none⟩) 1 [nullC]:=by
  have h:=cell_new W1 nullC
  rw[z1]at h
  exact h
 have a1:=heap_alloc_new (W1.alloc (.cells #[.int .i64 1, .int .i64 0, .string ⟨#[]⟩, .int .i64 0] 63 (0,0))) (.cells #[.slice (some ⟨W.heap.size,0,none⟩) 1 1, .slice (some ⟨xb,0,none⟩) 1 1] 22 (0,0))
 rw[World.size_alloc,z1]at a1
 have c2:Chg [eb] W ((W1.alloc (.cells #[.int .i64 1, .int .i64 0, .string ⟨#[]⟩, .int .i64 0] 63 (0,0))).alloc (.cells #[.slice (some ⟨W.heap.size,0,none⟩) 1 1, .slice (some ⟨xb,0,none⟩) 1 1] 22 (0,0))):=(c1.alloc _).alloc _
 refine⟨blk_alloc (blk_alloc b2),fun _=>⟨rfl,rfl,⟨two_rrT (d:=⟨some ⟨W.heap.size,0,none⟩,1,[nullC]⟩) (d2:=⟨some ⟨xb,0,none⟩,1,[intC m]⟩) a1,fun d hd=> ?_⟩,rfl,fun y hy=> ?_,fun d hd y hy=> ?_⟩,fun h=>absurd h (by omega),hc.then c2 (fun z hz hl=>by simp at hz;omega)⟩
 ·simp at hd
  rcases hd with rfl|rfl
  ·exact i1.kept ((Chg.refl [] _).alloc _)
  ·exact InIs.keptN (S:=[eb]) hx c2 (fun y hy=>by cases hy;simpa using hne)
 ·cases hy
  have:=hc.size
  simp only
  omega
 ·have:=hc.size
  simp at hd
  rcases hd with rfl|rfl
  ·cases hy
   exact this
  ·cases hy
   exact hxl
theorem sw_none {wr W:World} {eb n:Nat} {m:Int} (hb:W.heap[eb]? =some (.cells #[.string entX, .string (nmT n), .string opRead, .slice none 0 0] 67 (0,0))) (hc:Chg [] wr W):SwT wr W eb 0 m n (nmT n) opRead none 0 []:=
 ⟨hb,fun _=>⟨rfl,rfl,⟨nilAT,fun d hd=>by cases hd⟩,rfl,(fun y hy=>by cases hy),fun d hd=>by cases hd⟩,fun h=>absurd h (by omega),hc⟩
theorem sw_step {wr W:World} {eb n:Nat} {q m:Int} {c1:Value} (hq:3<q) {op:ByteArray} (hb:W.heap[eb]? =some (.cells #[.string entX,c1, .string op, .slice none 0 0] 67 (0,0))) (hel:wr.heap.size≤eb) (hc:Chg [] wr W):SwT wr (W.setCell ⟨eb,1,none⟩ (.string ⟨#[]⟩)) eb q m n ⟨#[]⟩ op none 0 []:=by
 have b1:(W.setCell ⟨eb,1,none⟩ (.string ⟨#[]⟩)).heap[eb]? =some (.cells #[.string entX, .string ⟨#[]⟩, .string op, .slice none 0 0] 67 (0,0)):=blk_set hb 1 _
 exact⟨b1,fun h=>absurd hq (by omega),fun _=>rfl,hc.setCell _ _ (fun h=>absurd h (by simp;omega))⟩
end
end
section
open Go.RowKit
theorem linearizes_walk0 (a0:Option Addr) (len0 cap0:Nat) (l0:List Cli) (w:World) (h0:SlIs cliC 2 w a0 len0 l0∧(∀x∈l0,x.good)∧len0≤maxLen∧len0≤cap0) (ht:TabW w) (DB0:∀w',Chg [] w w'→Calls Tryz.prog 7 #[] w' fun e w''=>e= .returned (.bool true)∧Chg [] w' w''):
 Calls Tryz.prog 4 #[.slice a0 len0 cap0] w fun e w'=>e= .returned (.bool true)∧Below w.heap.size w w':=by
 obtain⟨hl,hgd, -, -⟩:=h0
 obtain rfl:l0.length=len0:=hl.1
 refine Calls.mono (R:=fun e w'=>e= .returned (.bool true)∧Chg [] w w') ?_ (fun e w' h=>⟨h.1,h.2.toBelow (Nat.le_refl _) (by simp)⟩)
 have DB:=LH DB0
 by_cases h40:40<l0.length
 ·have h40':(40:Int)<(l0.length:Int):=by omega
  have DBC:=LH (DB.out w (Chg.refl _ _))
  clear hl hgd ht DB0 h40 DB
  go_enter Tryz.func4,Tryz.ntmps4
  go_wp2_with (first
   |(go_at_call 7;(with_reducible refine Calls.mono DBC.out ?_);rintro e w2 ⟨rfl,hc⟩;have C2:=LH hc;clear hc)
   |fail)
  go_ret
  exact⟨rfl,C2.out⟩
 have h40':(l0.length:Int)≤40:=by omega
 have hl40:l0.length≤40:=by omega
 have HL:=LH hl
 have HGD:=LH hgd
 have HT:=LH ht
 have NW0:=dnew_any w
 unfold ptV at NW0
 have NW:=LH NW0
 have hmt:∀w',(Chg [] w w')→TabW w':=fun w' hc=>ht.kept hc
 have HTK:=LH hmt
 clear hl hgd ht DB0 h40 NW0 hmt
 go_enter Tryz.func4,Tryz.ntmps4
 go_wp2_with (first
  |(go_at_call 14;(with_reducible refine Calls.mono NW.out ?_);rintro e w1 ⟨d,L1,rfl,hdr,hc1⟩;have D1:=LH hdr;have C1:=LH hc1;clear hdr hc1)
  |fail)
 go_loopw [4,5] (fun n i wr=>∃(k:Nat) (L:List Nat) (calls:List PCl) (done:Nat) (now:Int),n= .int .i64 calls.length∧i= .int .i64 k∧k≤l0.length∧calls.length≤8∧Hid (DrIs wr w.heap.size L d calls done now)∧Hid (TlOk calls done k)∧Hid (AnsS calls)∧Hid (now≤k)∧Hid (Chg [] w wr)) (fun _ i _=>l0.length-(intOf i).toNat)
 case atStart=>exact⟨0,L1,[],0,0,rfl,rfl,Nat.zero_le _,Nat.zero_le _,D1,LH TlOk.start,LH (fun x hx=>by cases hx),LH (Int.le_refl _),C1⟩
 case round=>
  clear D1 C1
  obtain⟨k,L,calls,done,now,rfl,rfl,hk,h8,DR,TK,AS,NN,CW⟩:=hrel
  have hk0:(0:Int)≤(k:Int):=by omega
  by_cases hkl:k<l0.length
  ·have hk1:(k:Int)<(l0.length:Int):=by omega
   obtain⟨b1,o1,rfl,hb1,hbr,hcc0⟩:=HL.out.elem CW.out k hkl
   have hops:∀w',Chg [] w w'→∀j,j<2→w'.cell? ⟨b1,o1+k*2+j,none⟩=(cliC l0[k])[j]? :=by
    intro w' hc
    obtain⟨g',o',e, -,_,hcc'⟩:=HL.out.elem hc k hkl
    cases e
    exact hcc'
   have hgx:=HGD.out _ (List.getElem_mem hkl)
   clear hcc0
   generalize l0[k]=x at*
   obtain⟨q0,m⟩:=x
   have hq:=wf_u8T hgx.1
   have hm:=wf_i8T hgx.2
   simp only at hq hm
   have V:=LH (show ∀w',Chg [] w w'→w'.cell? ⟨b1,o1+k*2,none⟩=some (.int .u8 q0)∧w'.cell? ⟨b1,o1+k*2+1,none⟩=some (.int .i8 m)from fun w' hc=>⟨hops w' hc 0 (by omega),hops w' hc 1 (by omega)⟩)
   obtain⟨u0,u1⟩:=V.out wr CW.out
   have q2:IntKind.i64.wrap m=m:=IntWalk.i64_in _ (by omega)
   have TN:=LH (fun w'=>tname_any calls.length h8 w')
   clear hops hgx
   go_upto_block 2 with (first
    |(go_at_call 15;(with_reducible refine Calls.mono (TN.out _) ?_);rintro e w5 ⟨rfl,hc⟩;have C5:=LH hc;have CW5:=LH ((CW.out.alloc _).thenSame hc);obtain⟨u0,u1⟩:=V.out w5 CW5.out;have hb5:=CW5.out.lt hb1;clear hc)
    |fail)
   have XI:=LH ((cell_new wr (intC m)).kept C5.out)
   have z5:=C5.out.size
   simp only[World.size_alloc]at z5
   obtain⟨W5,hW5⟩:∃W5,W5=w5.alloc (.cells #[.string ⟨#[120]⟩, .string (nmT calls.length), .string ⟨#[114,101,97,100]⟩, .slice none 0 0] 67 (0,0)):=⟨_,rfl⟩
   have D5:=LH (show Chg [] w5 W5 by rw[hW5];exact(Chg.refl _ _).alloc _)
   have B5:=LH (show W5.heap[w5.heap.size]? =some (.cells #[.string ⟨#[120]⟩, .string (nmT calls.length), .string ⟨#[114,101,97,100]⟩, .slice none 0 0] 67 (0,0)) by rw[hW5];exact heap_alloc_new _ _)
   have E5:=LH (show Chg [] wr W5 from(((Chg.refl [] wr).alloc _).thenSame C5.out).thenSame D5.out)
   have S5:=LH (show W5.heap.size=w5.heap.size+1 by rw[hW5,World.size_alloc])
   rw[←hW5]
   clear hW5 u0 u1 hb5
   obtain⟨u0, -⟩:=V.out W5 (CW5.out.thenSame D5.out)
   have hb6:=(CW5.out.thenSame D5.out).lt hb1
   obtain⟨q,hq6⟩:∃q,q=q0%6:=⟨_,rfl⟩
   have hq7:q=0∨q=1∨q=2∨q=3∨q=4∨q=5:=by omega
   have HQ7:=LH hq7
   have HQ6:=LH hq6
   clear hq6 hq7
   go_cut [] (fun wx=>∃(id op:ByteArray) (aa:Option Addr) (ac:Nat) (args:List (Rr Ce)),Hid (SwT wr wx w5.heap.size q m calls.length id op aa ac args))
   case first=>
    have k5:=blk_cell B5.out
    have f5:=blk_free B5.out
    have l5:=lt_of_heap B5.out
    have XJ:=LH (XI.out.kept D5.out)
    have hxl:wr.heap.size≠w5.heap.size:=by omega
    have hel:wr.heap.size≤w5.heap.size:=by omega
    rcases HQ7.out with h|h|h|h|h|h
    ·have e1:(q0%6==1)=false:=by rw[←HQ6.out,h];rfl
     have e2:(q0%6==2)=false:=by rw[←HQ6.out,h];rfl
     have e3:(q0%6==3)=false:=by rw[←HQ6.out,h];rfl
     have e4:(q0%6==4)=false:=by rw[←HQ6.out,h];rfl
     have e5:(q0%6==5)=false:=by rw[←HQ6.out,h];rfl
     have HQ:=LH h
     clear h
     go_wp2_with fail
     go_meet
     exact⟨_,_,_,_,_,LH (by rw[HQ.out];exact sw_none B5.out E5.out)⟩
    ·have e1:(q0%6==1)=true:=by rw[←HQ6.out,h];rfl
     have HQ:=LH h
     clear h
     go_wp2_with fail
     go_meet
     exact⟨_,_,_,_,_,LH (by rw[HQ.out];exact sw_one (op:=opWrite) (q:=1) (m:=m) (by omega) rfl rfl B5.out XJ.out hxl (Nat.le_refl _) hel E5.out)⟩
    ·have e1:(q0%6==1)=false:=by rw[←HQ6.out,h];rfl
     have e2:(q0%6==2)=true:=by rw[←HQ6.out,h];rfl
     have HQ:=LH h
     clear h
     go_wp2_with fail
     go_meet
     exact⟨_,_,_,_,_,LH (by rw[HQ.out];exact sw_one (op:=opAdd) (q:=2) (m:=m) (by omega) rfl rfl B5.out XJ.out hxl (Nat.le_refl _) hel E5.out)⟩
    ·have e1:(q0%6==1)=false:=by rw[←HQ6.out,h];rfl
     have e2:(q0%6==2)=false:=by rw[←HQ6.out,h];rfl
     have e3:(q0%6==3)=true:=by rw[←HQ6.out,h];rfl
     have HQ:=LH h
     clear h
     go_wp2_with fail
     go_meet
     exact⟨_,_,_,_,_,LH (by rw[HQ.out];exact sw_two B5.out XJ.out hxl (Nat.le_refl _) hel E5.out)⟩
    ·have e1:(q0%6==1)=false:=by rw[←HQ6.out,h];rfl
     have e2:(q0%6==2)=false:=by rw[←HQ6.out,h];rfl
     have e3:(q0%6==3)=false:=by rw[←HQ6.out,h];rfl
     have e4:(q0%6==4)=true:=by rw[←HQ6.out,h];rfl
     have HQ:=LH (show 3<q by omega)
     clear h
     go_wp2_with fail
     go_meet
     exact⟨_,_,_,_,_,LH (sw_step HQ.out B5.out hel E5.out)⟩
    ·have e1:(q0%6==1)=false:=by rw[←HQ6.out,h];rfl
     have e2:(q0%6==2)=false:=by rw[←HQ6.out,h];rfl
     have e3:(q0%6==3)=false:=by rw[←HQ6.out,h];rfl
     have e4:(q0%6==4)=false:=by rw[←HQ6.out,h];rfl
     have e5:(q0%6==5)=true:=by rw[←HQ6.out,h];rfl
     have HQ:=LH (show 3<q by omega)
     clear h
     go_wp2_with fail
     go_meet
     exact⟨_,_,_,_,_,LH (sw_step HQ.out B5.out hel E5.out)⟩
   case rest=>
    obtain⟨id,op,aa,ac,args,SW⟩:=hcut
    clear B5 D5 E5 XI u0 hb6 C5 CW5
    have K:=LH (show wc.heap[w5.heap.size]? =some (.cells #[.string ⟨#[120]⟩, .string id, .string op, .slice aa args.length ac] 67 (0,0))from SW.out.blk)
    have k5:=blk_cell K.out
    have l5:=lt_of_heap K.out
    have DX:=LH (DR.out.kept SW.out.chg)
    have CX:=LH (CW.out.thenSame SW.out.chg)
    by_cases hq3:q≤3
    ·obtain⟨y1,y2,y3,y4,y5,y6⟩:=SW.out.yes hq3
     have hne:(nmT calls.length).size≠0:=by rw[show(nmT calls.length).size=3 from rfl];decide
     have hid:(id.toList==[])=false:=by
      rw[y1,beq_eq_false_iff_ne]
      intro e
      rw[ByteArray.toList_eq]at e
      have:=congrArg List.length e
      simp[nmT]at this
     have hid2:id.toList.isEmpty=false:=by
      rw[y1,ByteArray.toList_eq]
      rfl
     by_cases h7:calls.length<8
     ·have h7':(calls.length:Int)<8:=by omega
      have hq4:q=0∨q=1∨q=2∨q=3:=by rcases HQ7.out with h|h|h|h|h|h<;>omega
      have hv:=small_validT (n:=m) hm
      have hop:EOp.p ⟨entX,id,op,aa,ac,args⟩=tlP q m (nmT calls.length):=by simp only[EOp.p,tlP,y4,y1,y2]
      have hgo:EOp.good ⟨entX,id,op,aa,ac,args⟩:=by
       have:=tlE_good (s:=nmT calls.length) (q:=q) (m:=m) (aa:=aa) (ac:=ac) (args:=args) (nmT_size _) y4 hv
       rwa[←y1,←y2]at this
      have hch:chkZ (EOp.p ⟨entX,id,op,aa,ac,args⟩)=0:=by rw[hop];exact tlP_chk hq4 hv (nmT_id _ h7)
      have SB:=dsubmit_any DX.out TK.out ⟨entX,id,op,aa,ac,args⟩ y3 hgo hch rfl y1 h7 (fun v hv=>(hgo.2.2.2.2 v hv).1) (by have:=args_small hch;simpa[EOp.p]using this) (fun ad had hm=>by have:=y5 ad had;have:=DR.out.lt _ hm;omega) (fun v hv ad had hm=>by have:=y6 v hv ad had;have:=DR.out.lt _ hm;omega) (HTK.out _ CX.out) (by omega) (by omega) NN.out CX.out.size
      simp only[eoC]at SB
      unfold entX at SB
      have SB:=LH SB
      rename_i SB0
      have TK2:=LH (TK.out.submit (by omega) h7 (o:=EOp.p ⟨entX,id,op,aa,ac,args⟩) rfl y1 hch)
      have AS2:Hid (AnsS (calls++[⟨EOp.p ⟨entX,id,op,aa,ac,args⟩,0,[],(k:Int), -1⟩])):=LH (fun x hx=>by
       rcases List.mem_append.1 hx with hx|hx
       ·exact AS.out x hx
       ·simp at hx;subst hx;simp)
      clear y1 y2 y3 y4 y5 y6 hch hgo hop SB0 hv hq4 hne
      go_wp2_with (first
       |(go_at_call 17;(with_reducible refine Calls.mono SB.out ?_);rintro e w7 ⟨rfl,L7,hd7,ht7⟩;have D7:=LH hd7;have T7:=LH ht7;clear hd7 ht7)
       |fail)
      exact⟨⟨k+1,L7,_,done,(k:Int),by simp,by go_num,by omega,by simp;omega,D7,TK2,AS2,LH (by omega),LH (CX.out.then T7.out.chg (fun y hy hl=>by have:=DR.out.lo y hy;omega))⟩,by simp[intOf];omega⟩
     ·have h7': ¬(calls.length:Int)<8:=by omega
      clear y1 y2 y3 y4 y5 y6 hne
      go_wp2_with fail
      exact⟨⟨k+1,L,calls,done,now,rfl,by go_num,by omega,h8,DX,LH (TK.out.later (by omega)),AS,LH (by have:=NN.out;omega),CX⟩,by simp[intOf];omega⟩
    ·have hidE:=SW.out.no (by omega)
     subst hidE
     have SP:=dstep_any (t:=(k:Int)) DX.out TK.out AS.out (HTK.out _ CX.out) (by omega) (by omega) NN.out
     unfold entX at SP
     have SP:=LH SP
     rename_i SP0
     clear SP0
     go_wp2_with (first
      |(go_at_call 16;(with_reducible refine Calls.mono SP.out ?_);rintro e w7 ⟨⟨v7,rfl⟩,calls7,done7,now7,hd7,htk7,has7,hn7,hlen7,ht7⟩;have D7:=LH hd7;have TK7:=LH htk7;have AS7:=LH has7;have N7:=LH hn7;have T7:=LH ht7;have LN7:=LH hlen7;clear hd7 htk7 has7 hn7 ht7 hlen7)
      |fail)
     exact⟨⟨k+1,L,calls7,done7,now7,by rw[LN7.out],by go_num,by omega,by rw[LN7.out];exact h8,D7,TK7,AS7,LH (by have:=N7.out;omega),LH (CX.out.then T7.out.chg (fun y hy hl=>by have:=DR.out.lo y hy;omega))⟩,by simp[intOf];omega⟩
  ·have hke:k=l0.length:=by omega
   have LG:=LH (TK.out.legal (by omega))
   have CA:=dcalls_any DR.out TK.out AS.out
   unfold entX at CA
   have CA:=LH CA
   rename_i CA0
   clear CA0
   go_wp2_with (first
    |(go_at_call 18;(with_reducible refine Calls.mono CA.out ?_);rintro e w2 ⟨oa,oc,D,rfl,hDp,hLI,hGC,hc2⟩;have DP:=LH hDp;have LI:=LH hLI;have GC:=LH hGC;have C2:=LH (CW.out.thenSame hc2);have hDl:D.length=calls.length:=(by have:=congrArg List.length hDp;simpa using this);have hDn:((D.length:Int)!=(calls.length:Int))=false:=(by simp[hDl]);have FD:=lfind_any (LI.out.kept ((Chg.refl [] w2).alloc (.cells #[.int .i64 1, .int .i64 0, .string ⟨#[]⟩, .int .i64 0] 63 (0,0)))) GC.out (cell_new w2 nullC) null_goodL (HTK.out _ (C2.out.alloc _));rw[DP.out]at FD;have hfz:=LG.out.2;generalize findZ [nullC] calls=fz at FD hfz;obtain⟨f1,f2⟩:=fz;simp only[List.length_cons,List.length_nil,Nat.zero_add]at FD hfz;subst hfz;have FD2:=LH FD;have HDL:=LH hDl;clear hDp hLI hGC hc2 FD hDl)
    |(go_at_call 19;(with_reducible refine Calls.mono FD2.out ?_);rintro e w4 ⟨fa,fc,rfl, -, -,hc4⟩;have C4:=LH (((Chg.refl [] w2).alloc (.cells #[.int .i64 1, .int .i64 0, .string ⟨#[]⟩, .int .i64 0] 63 (0,0))).thenSame hc4);clear hc4)
    |fail)
   have CW4:=LH (C2.out.thenSame C4.out)
   clear CA FD2
   go_loopw [11,12] (fun u i wr'=>∃(m:Nat) (a:Option Addr) (c:Nat),u= .slice a m c∧i= .int .i64 m∧m≤calls.length∧Hid (RowOf icI 1 wr' w4.heap.size 3 (.slice a m c) (intsF 0 m))∧Hid (Chg [] w4 wr')) (fun _ i _=>calls.length-(intOf i).toNat)
   case atStart=>exact⟨0,none,0,rfl,rfl,Nat.zero_le _,LH (RowOf.nil _ _ _),LH (Chg.refl _ _)⟩
   case round=>
    obtain⟨m,a,c,rfl,rfl,hm,RW,CM⟩:=hrel
    have hm0:(0:Int)≤(m:Int):=by omega
    by_cases hml:m<calls.length
    ·have hm1:(m:Int)<(calls.length:Int):=by omega
     have zs:=CM.out.size
     go_wp2_with (first
      |(at_builtin;go_loud (refine wpl_appendL rfl _ _ 77 rfl w4.heap.size 3 _ 8 Tryz.underlying77 intInfoT rfl (by decide) icI_len icI_one (.slice a m c) (intsF 0 m) rfl (RW.out.kept ((Chg.refl [] wr).alloc (.cells #[.int .i64 (m:Int)] 3 (0,0))) (by simp)) wr.heap.size 1 (m:Int) _ _ _ rfl (heap_alloc_new wr _) rfl (by rw[intsF_len];unfold maxLen;omega) (by rw[intsF_len];omega) (by rw[World.size_alloc];omega) ?_);intro g8 c8 w8 hr8 hg8 ho8 hl8;rw[intsF_len]at hr8;have R8:=LH hr8;have G8:=LH (Chg.ofRow (v:= .slice a m c) hg8);clear hr8 hg8 ho8)
      |fail)
     have ea:=intsF_app m 0
     rw[Nat.zero_add]at ea
     exact⟨⟨m+1,some ⟨g8,0,none⟩,c8,by rw[intsF_len],by go_num,by omega,LH (by rw[ea];exact R8.out),LH ((CM.out.alloc _).then G8.out (fun x hx hl=>by have:=(RW.out.block x (by simpa using hx)).1;omega))⟩,by simp[intOf];omega⟩
    ·have hme:m=calls.length:=by omega
     subst hme
     have LX:=legal_any (ia:=a) (ic:=c) (order:=intsF 0 calls.length) (((LI.out.kept C4.out).kept CM.out).kept ((Chg.refl [] wr).alloc (.cells #[.int .i64 1, .int .i64 0, .string ⟨#[]⟩, .int .i64 0] 63 (0,0)))) GC.out (cell_new wr nullC) null_goodL (HTK.out _ ((CW4.out.thenSame CM.out).alloc _)) (by
      have h:=(InIs.ofRow RW.out icI_len).2
      exact h.kept ((Chg.refl [] wr).alloc (.cells #[.int .i64 1, .int .i64 0, .string ⟨#[]⟩, .int .i64 0] 63 (0,0)))) (by rw[intsF_len];omega)
     rw[DP.out,LG.out.1]at LX
     simp only[intsF_len,List.length_cons,List.length_nil,Nat.zero_add]at LX
     have LX2:=LH LX
     have hbq:((calls.length:Int)==(calls.length:Int))=true:=beq_self_eq_true _
     clear LX
     go_wp2_with (first
      |(go_at_call 20;(with_reducible refine Calls.mono LX2.out ?_);rintro e w7 ⟨rfl,hc7⟩;have C7:=LH (((CW4.out.thenSame CM.out).alloc _).thenSame hc7);have DBX:=LH (DB.out w7 C7.out);clear hc7)
      |(go_at_call 7;(with_reducible refine Calls.mono DBX.out ?_);rintro e w9 ⟨rfl,hc9⟩;have C9:=LH (C7.out.thenSame hc9);clear hc9)
      |fail)
     go_ret
     exact⟨rfl,C9.out⟩
end
end Go.Proofs.YtmofknmeljdodaaGreatDoor
