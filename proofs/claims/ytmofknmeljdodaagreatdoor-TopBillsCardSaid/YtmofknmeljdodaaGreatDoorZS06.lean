/- Layer 13: contracts: the machine's pop; slices.Clone of values. No condition but those that the statements name. -/
import Derived.Lib.MinMax
import Derived.Lib.SliceRun
import Derived.SizedLaws
import Derived.Test.YtmofknmeljdodaaGreatDoorProg
import Derived.Test.YtmofknmeljdodaaGreatDoorZS05
import Derived.Test.YtmofknmeljdodaaGreatDoorZS03
import Derived.Test.YtmofknmeljdodaaGreatDoorZS02
import Derived.Test.YtmofknmeljdodaaGreatDoorZS01
set_option maxHeartbeats 100000000
set_option maxRecDepth 100000
set_option linter.unusedVariables false
set_option linter.unusedSimpArgs false
open List renaming getElem_toArray→gTA,getElem_cons_zero→gCZ,getElem_cons_succ→gCS,setIfInBounds_toArray→sTA,set_cons_zero→sCZ,set_cons_succ→sCS
namespace Go.Proofs.YtmofknmeljdodaaGreatDoor
section
open Go.RowKit
theorem ownBlock_slice (a:Option Addr) (n c n' c':Nat):(Value.slice a n c).ownBlock=(Value.slice a n' c').ownBlock:=by cases a<;>rfl
theorem elemCss:Tryz.prog.underlying 65=some (.slice (Tryz.prog.elem 65)):=by kernel_rfl
theorem sizeCss (w:World):(sizeOf (Tryz.prog.elem 65)).run Tryz.prog w= .ok 1 w:=by kernel_rfl
theorem Tr.mv {w w':World} {L L':List Nat} (h:Tr L w L' w'):Mv L L L' w w':=⟨h.chg,fun _ hy=>hy,h.own⟩
theorem clonecs_any (v:Value) (l:List Vp) (w:World) (h:SrcIs vpC 1 w v l) (hl:l.length≤1048576):
 Calls Tryz.prog 307 #[v] w fun e w'=>∃v',e= .returned v'∧RowOf vpC 1 w' w.heap.size 22 v' l∧Chg [] w w':=by
 have qn:∀(w:World) (a:Option Addr) (n c n' c':Nat),(binOp .eql 65 (.slice a n c) (.slice none n' c')).run Tryz.prog w= .ok (.bool a.isNone) w:=fun w a n c n' c'=>Lib.run_eql_slice_nil w _ _ a n c n' c' Tryz.underlying65
 rcases id h with ⟨rfl,rfl⟩|⟨g,off,c,rfl, -⟩
 ·clear h
  go_enter Tryz.func307,Tryz.ntmps307
  go_wp2_with fail
  go_ret
  exact⟨_,rfl,RowOf.nil _ _ _,Chg.refl _ _⟩
 ·have H:=LH h
  clear h
  go_enter Tryz.func307,Tryz.ntmps307
  go_wp2_with (at_builtin;go_loud (refine wpl_appendsX rfl _ _ 65 rfl w.heap.size 22 _ 24 Tryz.underlying65 vpInfo rfl (by decide) vpC_len vpC_one (.slice (some ⟨w.heap.size,0,none⟩) 0 0) [] rfl (RowOf.empty (g:=w.heap.size) (Nat.le_refl _) (heap_alloc_new _ _) rfl) (.slice (some ⟨g,off,none⟩) l.length c) l rfl (H.out.kept ((Chg.refl _ _).alloc _)) (by unfold maxLen;simp;omega) (by simp;omega) (by simp) ?_;intro v1 w1 hr1 hc1;have R1:=LH hr1;have K1:=LH (Chg.then ((Chg.refl [] w).alloc (.cells #[] 22)) hc1 (by intro y hy hl;simp[Value.ownBlock]at hy;omega));clear hr1 hc1))
  go_ret
  exact⟨_,rfl,R1.out,K1.out⟩
variable {w w1 w':World} {S L L':List Nat} {B b fb n fc:Nat} {cv iv fv rv:Value} {val val':Vp} {f f':Fr'} {Fr F:List Fr'} {R:List Rq'} {M M':PMa} {pf:PFr} {pfs:List PFr}
structure PoIs (w:World) (B:Nat) (L:List Nat) (v:Value) (vs:List Vl):Prop where
 row:RvIs w B L v vs
 off:∀g,v.ownBlock=some g→g∉L
theorem PoIs.tr {v:Value} {vs:List Vl} (h:PoIs w B L v vs) (t:Tr L w L' w'):PoIs w' B L' v vs:=by
 refine⟨h.row.mv t.mv h.off,fun g hg hm=> ?_⟩
 obtain⟨ps,h1, -⟩:=h.row
 rcases t.own g hm with e|e
 ·exact h.off g hg e
 ·have:=(h1.block g hg).2;omega
theorem mpop_ok (h:MaIs w B b L cv iv M) (hM:M.fr=pf::pfs) {k m:Nat} (hk:pf.st.length=m+k) (hl:pf.st.length≤1048576):
 Calls Tryz.prog 253 #[.pointer (some ⟨b,0,none⟩), .int .i64 k] w fun e w'=>∃v L',e= .returned (.tuple #[v, .int .i64 0])∧MaIs w' B b L' cv iv {M with fr:={pf with st:=pf.st.take m}::pfs}∧PoIs w' B L' v (pf.st.drop m)∧Tr L w L' w':=by
 obtain⟨fv,rv,val,F,R,h⟩:=h
 obtain⟨f,Fr,rfl⟩:=h.fr2 hM
 obtain⟨fb,fc,rfl⟩:=h.shape
 obtain⟨pf',pfs',e,ht, -⟩:=h.fr1
 rw[hM]at e
 cases e
 obtain⟨ps,hrow,hall⟩:=ht.st
 have hps:ps.length=m+k:=by rw[hall.len];exact hk
 have hm:m≤ps.length:=by omega
 have hm2:m+k≤1048576:=by omega
 have hB:B≤w.heap.size:=by have:=lt_of_heap h.blk;have:=h.lo;omega
 have H:=LH h
 have HMM:=LH hM
 have HA:=LH hall
 have hrow':RowOf vpC 1 w B 22 (.slice f.sa f.sn f.sc) ps:=hrow
 have hsn:f.sn=m+k:=by rw[←hps];exact(RowOf.sl hrow' vpC_len).1.1.symm
 rw[hsn]at hrow'
 have HR:=LH hrow'
 have A:=LH (mframe_any h)
 obtain⟨-,hcells,lf⟩:=h.cells
 rw[hsn]at hcells
 have HC:=LH hcells
 have B0:=h.lo
 have QB:=lt_of_heap h.blk
 have QF:=h.offs.1
 unfold Fr'.sv at QF
 have HM:=LH hm
 have HPS:=LH hps
 have HSN:=LH hsn
 have hb1:(m:Int)≤1048576:=by omega
 have hb2:(k:Int)≤1048576:=by omega
 have hb3:(0:Int)≤(m:Int):=by omega
 have hb4:(0:Int)≤(k:Int):=by omega
 clear h hcells ht hall hrow hrow' hM hl hps hk hm hsn hm2
 go_enter Tryz.func253,Tryz.ntmps253
 go_wp2_with (first
  |(go_at_call 188;(with_reducible refine Calls.mono A.out ?_);rintro e w2 ⟨rfl,hc2⟩;have C2:=LH hc2;obtain⟨-, -, -,c3, -⟩:=HC.out w2 (hc2.block _ lf (by simp));have l2:=hc2.lt lf;have S2:=hc2.size;clear hc2)
  |(refine wpl_slice_lX rfl _ _ 65 rfl elemCss (sizeCss _) (.slice f.sa (m+k) f.sc) ps m rfl (RowOf.src (HR.out.kept C2.out (by simp)) vpC_len) rfl HM.out ?_;intro v3 hs3;have S3:=LH hs3;clear hs3)
  |(go_at_call 307;(with_reducible refine Calls.mono (clonecs_any v3 _ _ S3.out (by have:=HPS.out;simp;omega)) ?_);rintro e w3 ⟨v4,rfl,hr4,hc4⟩;have R4:=LH hr4;have C4:=LH (C2.out.thenSame hc4);have Z4:=hc4.size;obtain⟨-, -, -,c4s,f4⟩:=HC.out w3 ((C2.out.thenSame hc4).block _ lf (by simp));have l4:=(C2.out.thenSame hc4).lt lf;clear hr4 hc4)
  |(refine wpl_slice_hR rfl _ _ 65 rfl elemCss (sizeCss _) B 22 (.slice f.sa (m+k) f.sc) ps m rfl (HR.out.kept C4.out (by simp)) vpC_len rfl HM.out ?_;intro v5 hr5 ho5;obtain⟨a5,c5,rfl⟩:=RowOf.shape hr5;have e5:(ps.take m).length=m:=by rw[List.length_take];have:=HM.out;omega
    rw[e5]at hr5 ho5⊢;clear e5;have R5:=LH hr5;have O5:=LH ho5;clear hr5 ho5))
 go_ret2
 obtain⟨L',h9,t9⟩:=(H.out.kept C4.out).newStack HMM.out (w1:=w3) (f':={f with sa:=a5,sn:=m,sc:=c5}) ⟨rfl,rfl,rfl⟩ (Chg.refl _ _) R5.out ((HA.out.mono (fun _ _ _ k=>k.mv (.none C4.out))).take m) (fun g hg=>by
  left
  have:=O5.out.symm.trans (show(Value.slice a5 m c5).ownBlock=some g from hg)
  rw[←this]
  exact ownBlock_slice _ _ _ _ _)
 have hp:PoIs w3 B L v4 (pf.st.drop m):=by
  refine⟨⟨ps.drop m,R4.out.mono (by omega),(HA.out.mono (fun _ _ _ k=>k.mv (.none C4.out))).drop m⟩,fun g hg hm=> ?_⟩
  have h1:=(R4.out.block g hg).1
  have h2:=H.out.rvLt g hm
  omega
 exact⟨v4,L',rfl,⟨_,_,_,_,_,h9⟩,hp.tr t9,(Tr.refl L w).same C4.out|>.trans t9⟩
end
section
open Go.RowKit
variable {w w1 w':World} {S L L':List Nat} {B b fb n fc:Nat} {cv iv fv rv:Value} {val val':Vp} {f f':Fr'} {Fr F:List Fr'} {R:List Rq'} {M M':PMa} {pf:PFr} {pfs:List PFr}
def cellsN (vs:List Vl):Nat:=(vs.map List.length).sum
def smL (vs:List Vl):Prop:=vs.length≤1048576∧∀v∈vs,v.length≤1048576
theorem cellsN_le {k m:Nat}:∀{vs:List Vl},vs.length≤k→(∀v∈vs,v.length≤m)→cellsN vs≤k*m
 |[],_,_=>by simp[cellsN]
 |v::vs,h1,h2=>by
  cases k with
  |zero=>simp at h1
  |succ k=>
   have ih:=cellsN_le (k:=k) (vs:=vs) (by simpa using h1) (fun v hv=>h2 v (by simp[hv]))
   have:=h2 v (by simp)
   simp only[cellsN,List.map_cons,List.sum_cons]at ih⊢
   rw[Nat.add_mul]
   omega
theorem smL.le {vs:List Vl} (h:smL vs):cellsN vs≤1099511627776:=cellsN_le h.1 h.2
def memN (l:List PFr):Nat:=(l.map (fun p=>cellsN p.lo+cellsN p.st)).sum
def smF (l:List PFr):Prop:=l.length≤1024∧∀p∈l,smL p.lo∧smL p.st
theorem memN_le {k:Nat}:∀{l:List PFr},l.length≤k→(∀p∈l,smL p.lo∧smL p.st)→memN l≤k*2199023255552
 |[],_,_=>by simp[memN]
 |p::l,h1,h2=>by
  cases k with
  |zero=>simp at h1
  |succ k=>
   have ih:=memN_le (k:=k) (l:=l) (by simpa using h1) (fun v hv=>h2 v (by simp[hv]))
   have h3:=(h2 p (by simp)).1.le
   have h4:=(h2 p (by simp)).2.le
   simp only[memN,List.map_cons,List.sum_cons]at ih⊢
   rw[Nat.add_mul]
   omega
theorem smF.le {l:List PFr} (h:smF l):memN l≤2251799813685248:=memN_le h.1 h.2
theorem memN_rev (l:List PFr):memN l.reverse=memN l:=by simp[memN]
theorem mcells_any {u:Value} {vs:List Vl} (h:RvIs w B L u vs) (hs:smL vs):Calls Tryz.prog 175 #[u] w fun e w'=>e= .returned (.int .i64 (cellsN vs:Int))∧w'=w:=by
 obtain⟨ps,hr,ha⟩:=h
 obtain⟨a,c,rfl⟩:=RowOf.shape hr
 have HS:=(RowOf.sl hr vpC_len).1
 have hlen:=ha.len
 have HA:=LH ha
 have HR:=LH HS
 have HL:=LH hlen
 have hN:=hs.le
 have HM:=LH hs
 have hb:(ps.length:Int)≤1048576:=by have:=hs.1;omega
 obtain⟨N,hNN⟩:∃N,N=cellsN vs:=⟨_,rfl⟩
 rw[←hNN]at hN⊢
 have HN:=LH hNN
 clear hr ha HS hlen hs hNN
 go_enter Tryz.func175,Tryz.ntmps175
 go_wp2_with fail
 go_loopw [3,8] (fun uv i wr=>∃(k s:Nat),i= .int .i64 k∧uv= .int .i64 s∧k≤ps.length∧Hid (s+cellsN (vs.drop k)=N)∧wr=w) (fun _ i _=>ps.length-(intOf i).toNat)
 case atStart=>exact⟨0,0,rfl,rfl,Nat.zero_le _,LH (by rw[List.drop_zero,Nat.zero_add];exact HN.out.symm),rfl⟩
 case round=>
  obtain⟨k,s,rfl,rfl,hk,HQ,rfl⟩:=hrel
  by_cases hlt:k<ps.length
  ·obtain⟨g,off,rfl, -, -,hcc⟩:=HR.out.elem (Chg.refl _ _) k hlt
   have u1:=hcc 0 (by omega)
   simp only[vpC,List.getElem?_cons_zero,Nat.add_zero,Nat.mul_one]at u1
   have hv:=HA.out.at k hlt (by rw[←HL.out];exact hlt)
   have hq:=HQ.out
   rw[List.drop_eq_getElem_cons (by rw[←HL.out];exact hlt)]at hq
   simp only[cellsN,List.map_cons,List.sum_cons]at hq
   rw[←hv.len]at hq
   have hn1:(ps[k].n:Int)≤1099511627776:=by omega
   have hn2:(s:Int)≤1099511627776:=by omega
   have hk0:(0:Int)≤(k:Int):=by omega
   have hk1:(k:Int)<(ps.length:Int):=by omega
   have HQ2:=LH hq
   clear hq hcc hv HQ
   go_wp2_with fail
   exact⟨⟨k+1,s+ps[k].n,by go_num,by go_num,by omega,LH (by have:=HQ2.out;simp only[cellsN];omega),by first|rfl|trivial⟩,by simp[intOf];omega⟩
  ·have hq:=HQ.out
   rw[List.drop_eq_nil_of_le (by have:=HL.out;omega)]at hq
   simp only[cellsN,List.map_nil,List.sum_nil,Nat.add_zero]at hq
   have hke:k=ps.length:=by omega
   subst hke
   have HQ2:=LH hq
   clear hq HQ
   go_wp2_with fail
   go_ret
   exact⟨retI (by rw[HQ2.out]),rfl⟩
theorem All2.rev {α β:Type} {R:α→β→Prop} {l:List α} {m:List β} (h:All2 R l m):All2 R l.reverse m.reverse:=
 .of (by simp[h.len]) (fun k hk hk'=>by
  have hl:=h.len
  rw[List.length_reverse]at hk hk'
  have:=h.at (l.length-1-k) (by omega) (by omega)
  simpa[List.getElem_reverse,hl]using this)
def mvV (fv rv:Value) (val:Vp) (M:PMa):Value:= .agg #[.int .i64 M.st, .int .i64 M.er, .slice val.a val.n val.c,fv,rv, .int .i64 M.ls, .int .i64 M.lm, .int .i64 M.steps, .int .i64 M.peak]
def mvO (fv rv:Value) (val:Vp) (M:PMa):Obj:= .cells #[.int .i64 M.st, .int .i64 M.er, .slice val.a val.n val.c,fv,rv, .int .i64 M.ls, .int .i64 M.lm, .int .i64 M.steps, .int .i64 M.peak] 48 (0,0)
theorem mmem_any (hr:RowOf frC 4 w B 251 fv F.reverse) (ha:All2 (FrIs w B L) F M.fr) (hs:smF M.fr):Calls Tryz.prog 98 #[mvV fv rv val M] w fun e w'=>e= .returned (.int .i64 (memN M.fr:Int))∧Chg [] w w':=by
 obtain⟨a,c,rfl⟩:=RowOf.shape hr
 have HS:=(RowOf.sl hr frC_len).1
 have hlen:=ha.rev.len
 have HA:=LH ha.rev
 have hN:=hs.le
 have hsm:∀p∈M.fr.reverse,smL p.lo∧smL p.st:=fun p hp=>hs.2 p (by simpa using hp)
 have HM:=LH hsm
 have hb:(F.reverse.length:Int)≤1024:=by have:=hs.1;rw[hlen];simp;omega
 have hN2:memN M.fr.reverse=memN M.fr:=memN_rev _
 obtain⟨N,hNN⟩:∃N,N=memN M.fr:=⟨_,rfl⟩
 rw[←hNN]at hN hN2⊢
 clear hNN
 generalize F.reverse=X at*
 generalize M.fr.reverse=Y at*
 have HN:=LH hN2
 have HR:=LH HS
 have HL:=LH hlen
 have K0:Hid (Chg [] w (w.alloc (mvO (.slice a X.length c) rv val M))):=LH ((Chg.refl _ _).alloc _)
 have kb:=blk_cell (heap_alloc_new w (mvO (.slice a X.length c) rv val M))
 clear hr ha HS hlen hs hN2 hsm
 unfold mvV
 unfold mvO at K0 kb
 go_enter Tryz.func98,Tryz.ntmps98
 go_wp2_with fail
 go_loopw [3,9] (fun uv i wr=>∃(k s:Nat),i= .int .i64 k∧uv= .int .i64 s∧k≤X.length∧Hid (s+memN (Y.drop k)=N)∧Hid (Chg [] w wr)) (fun _ i _=>X.length-(intOf i).toNat)
 case atStart=>exact⟨0,0,rfl,rfl,Nat.zero_le _,LH (by rw[List.drop_zero,Nat.zero_add];exact HN.out),K0⟩
 case round=>
  obtain⟨k,s,rfl,rfl,hk,HQ,C⟩:=hrel
  clear kb
  by_cases hlt:k<X.length
  ·obtain⟨g,off,rfl, -,gl,hcc⟩:=HR.out.elem C.out k hlt
   have u0:=hcc 0 (by omega)
   have u1:=hcc 1 (by omega)
   have u2:=hcc 2 (by omega)
   have u3:=hcc 3 (by omega)
   simp only[frC,List.getElem?_cons_zero,List.getElem?_cons_succ,Nat.add_zero]at u0 u1 u2 u3
   have hv:=HA.out.at k hlt (by rw[←HL.out];exact hlt)
   have hsz:=HM.out _ (List.getElem_mem (h:=by rw[←HL.out];exact hlt))
   have hq:=HQ.out
   rw[List.drop_eq_getElem_cons (by rw[←HL.out];exact hlt)]at hq
   simp only[memN,List.map_cons,List.sum_cons]at hq
   have hW:=LH (fun w' (hc:Chg [] w w')=>mcells_any (hv.lo.mv (.none hc) (by simp)) hsz.1)
   have hX:=LH (fun w' (hc:Chg [] w w')=>mcells_any (hv.st.mv (.none hc) (by simp)) hsz.2)
   have hn3:=hsz.1.le
   have hn4:=hsz.2.le
   generalize X[k]=fr at*
   obtain⟨n1,hn1⟩:∃n,n=cellsN (Y[k]'(by rw[←HL.out];exact hlt)).lo:=⟨_,rfl⟩
   obtain⟨n2,hn2⟩:∃n,n=cellsN (Y[k]'(by rw[←HL.out];exact hlt)).st:=⟨_,rfl⟩
   rw[←hn1]at hq hW hn3
   rw[←hn2]at hq hX hn4
   have hk0:(0:Int)≤(k:Int):=by omega
   have hk1:(k:Int)<(X.length:Int):=by omega
   have hs1:IntKind.i64.wrap ((n1:Int)+(n2:Int))=(n1:Int)+(n2:Int):=by rw[IntKind.wrap_i64];omega
   have hs2:IntKind.i64.wrap ((s:Int)+((n1:Int)+(n2:Int)))=(s:Int)+((n1:Int)+(n2:Int)):=by rw[IntKind.wrap_i64];omega
   have HQ2:=LH hq
   have HK:=LH hlt
   have C1:=LH (C.out.alloc (.cells #[.int .i64 fr.fn, .int .i64 fr.pc, .slice fr.la fr.ln fr.lc, .slice fr.sa fr.sn fr.sc] 251 (0,0)))
   unfold Fr'.lv at hW
   unfold Fr'.sv at hX
   clear hq hcc hv HQ hsz hn1 hn2 hn3 hn4 hlt
   go_wp2_with fail
   go_quiet (first|with_reducible exact Calls.quiet_of_same (hW.out _ (C1.out.drewN _))|with_reducible exact Calls.quiet_of_same (hX.out _ (C1.out.drewN _))|go_loud (with_reducible exact Calls.quiet_of_same (hX.out _ (C1.out))))
   go_wp2_with fail
   exact⟨⟨k+1,s+(n1+n2),by go_num,by go_num,by have:=HK.out;omega,LH (by have:=HQ2.out;simp only[memN];omega),LH (C1.out.drewN _)⟩,by simp[intOf];have:=HK.out;omega⟩
  ·have hq:=HQ.out
   rw[List.drop_eq_nil_of_le (by have:=HL.out;omega)]at hq
   simp only[memN,List.map_nil,List.sum_nil,Nat.add_zero]at hq
   have hke:k=X.length:=by omega
   subst hke
   have HQ2:=LH hq
   clear hq HQ
   go_wp2_with fail
   go_ret
   exact⟨retI (by rw[HQ2.out]),C.out⟩
end
section
open Go.RowKit
variable {w w1 w':World} {S L L':List Nat} {B b fb n fc:Nat} {cv iv fv rv:Value} {val val':Vp} {f f':Fr'} {Fr F:List Fr'} {R:List Rq'} {M M':PMa} {pf:PFr} {pfs:List PFr}
def failM (M:PMa) (e:Int):PMa:={M with st:=4,er:=e,val:=[],fr:=[]}
theorem mfail_any (h:MaIs w B b L cv iv M) (e:Int):Calls Tryz.prog 99 #[.pointer (some ⟨b,0,none⟩), .int .i64 e] w fun r w'=>r= .returned (.tuple #[])∧∃L',MaIs w' B b L' cv iv (failM M e)∧Tr L w L' w':=by
 obtain⟨fv,rv,val,F,R,h⟩:=h
 have H:=LH h
 have kb:=blk_cell h.blk
 have fb:=blk_free h.blk
 have lb:=lt_of_heap h.blk
 clear h
 go_enter Tryz.func99,Tryz.ntmps99
 go_wp2_with fail
 go_end0
 have hb:=blk_set (blk_set (blk_set (blk_set H.out.blk 2 (.int .i64 4)) 3 (.int .i64 e)) 4 (.slice none 0 0)) 5 (.slice none 0 0)
 obtain⟨L',h9,t9⟩:=H.out.noFr (M':=failM M e) (val':=⟨none,0,0⟩) ((((((Chg.refl [b] w).setCell _ _ (fun _=>by simp)).setCell _ _ (fun _=>by simp)).setCell _ _ (fun _=>by simp)).setCell _ _ (fun _=>by simp))) hb VaIs.nil rfl rfl
 exact⟨rfl,L',⟨_,_,_,_,_,h9⟩,t9⟩
def countM (M:PMa):PMa:=
 if M.st=1∨M.st=2 then
  if(memN M.fr:Int)>M.lm then failM {M with peak:=max M.peak (memN M.fr)} 16 else {M with peak:=max M.peak (memN M.fr)}
 else M
theorem mcount_no (h:MaIs w B b L cv iv M) (h1:M.st≠1) (h2:M.st≠2):Calls Tryz.prog 47 #[.pointer (some ⟨b,0,none⟩)] w fun r w'=>r= .returned (.tuple #[])∧Chg [] w w':=by
 obtain⟨fv,rv,val,F,R,h⟩:=h
 have kb:=blk_cell h.blk
 have fb:=blk_free h.blk
 have lb:=lt_of_heap h.blk
 have q1:(M.st !=1)=true:=by simpa using h1
 have q2:(M.st !=2)=true:=by simpa using h2
 clear h h1 h2
 go_enter Tryz.func47,Tryz.ntmps47
 go_wp2_with fail
 exact bodyPost_ret (results_none rfl _ _ _) rfl ⟨rfl,Chg.refl _ _⟩
theorem mcount_yes (h:MaIs w B b L cv iv M) (h1:M.st=1∨M.st=2) (hs:smF M.fr):Calls Tryz.prog 47 #[.pointer (some ⟨b,0,none⟩)] w fun r w'=>r= .returned (.tuple #[])∧∃L',MaIs w' B b L' cv iv (countM M)∧Tr L w L' w':=by
 obtain⟨fv,rv,val,F,R,h⟩:=h
 have H:=LH h
 have kb:=blk_cell h.blk
 have fb:=blk_free h.blk
 have lb:=lt_of_heap h.blk
 have A:=LH (mmem_any (rv:=rv) (val:=val) h.frs h.fra hs)
 obtain⟨m,hm⟩:∃m,m=memN M.fr:=⟨_,rfl⟩
 rw[←hm]at A
 unfold mvV at A
 have E:Hid (countM M=if(m:Int)>M.lm then failM {M with peak:=max M.peak m} 16 else {M with peak:=max M.peak m}):=LH (by rw[countM,if_pos h1,hm])
 have h1':=h1
 clear h hs hm
 rw[E.out]
 clear E
 have AF:=LH (fun(w':World) (M':PMa) (h:MaIs w' B b L cv iv M')=>mfail_any h 16)
 have P:=LH (fun(w':World) (hc:Chg [] w w') (x:Int)=>(H.out.kept hc).setB (M':={M with peak:=x}) ((Chg.refl [b] _).setCell ⟨b,10,none⟩ (.int .i64 x) (fun _=>by simp)) (blk_set (hc.at (by simp) H.out.blk) 10 (.int .i64 x)) (H.out.kept hc).val rfl rfl)
 have KB:=LH (fun(w':World) (hc:Chg [] w w')=>(⟨blk_cell (hc.at (by simp) H.out.blk),blk_free (hc.at (by simp) H.out.blk),lt_of_heap (hc.at (by simp) H.out.blk)⟩:_∧_∧_))
 have KL:=LH (fun(w':World) (hc:Chg [] w w')=>(blk_cell (blk_set (hc.at (by simp) H.out.blk) 10 (.int .i64 (max M.peak (m:Int))))))
 by_cases hgt:(m:Int)>M.lm
 ·rw[if_pos hgt]
  rcases h1 with h1|h1
  ·have q1:(M.st !=1)=false:=by rw[h1];rfl
   clear h1
   go_enter Tryz.func47,Tryz.ntmps47
   go_wp2_with (first
    |(go_at_call 98;(with_reducible refine Calls.mono A.out ?_);rintro e w2 ⟨rfl,hc2⟩;have C2:=LH hc2;obtain⟨kb2,fb2,lb2⟩:=KB.out _ hc2;have kp:=KL.out _ hc2;clear hc2)
    |(go_at_call 99;go_loud (refine Calls.mono (AF.out _ {M with peak:=max M.peak (m:Int)} ⟨_,_,_,_,_,(P.out _ C2.out _).1⟩) ?_);rintro e w3 ⟨rfl,L',hm3,ht3⟩;have M3:=LH hm3;have T3:=LH ht3;clear hm3 ht3))
   go_end0
   exact⟨rfl,L',M3.out,(((Tr.refl L w).same C2.out).trans (P.out _ C2.out _).2).trans T3.out⟩
  ·have q1:(M.st !=1)=true:=by rw[h1];rfl
   have q2:(M.st !=2)=false:=by rw[h1];rfl
   clear h1
   go_enter Tryz.func47,Tryz.ntmps47
   go_wp2_with (first
    |(go_at_call 98;(with_reducible refine Calls.mono A.out ?_);rintro e w2 ⟨rfl,hc2⟩;have C2:=LH hc2;obtain⟨kb2,fb2,lb2⟩:=KB.out _ hc2;have kp:=KL.out _ hc2;clear hc2)
    |(go_at_call 99;go_loud (refine Calls.mono (AF.out _ {M with peak:=max M.peak (m:Int)} ⟨_,_,_,_,_,(P.out _ C2.out _).1⟩) ?_);rintro e w3 ⟨rfl,L',hm3,ht3⟩;have M3:=LH hm3;have T3:=LH ht3;clear hm3 ht3))
   go_end0
   exact⟨rfl,L',M3.out,(((Tr.refl L w).same C2.out).trans (P.out _ C2.out _).2).trans T3.out⟩
 ·rw[if_neg hgt]
  have hle:(m:Int)≤M.lm:=by omega
  clear hgt
  rcases h1 with h1|h1
  ·have q1:(M.st !=1)=false:=by rw[h1];rfl
   clear h1
   go_enter Tryz.func47,Tryz.ntmps47
   go_wp2_with (first
    |(go_at_call 98;(with_reducible refine Calls.mono A.out ?_);rintro e w2 ⟨rfl,hc2⟩;have C2:=LH hc2;obtain⟨kb2,fb2,lb2⟩:=KB.out _ hc2;have kp:=KL.out _ hc2;clear hc2)
    |(go_at_call 99;go_loud (refine Calls.mono (AF.out _ {M with peak:=max M.peak (m:Int)} ⟨_,_,_,_,_,(P.out _ C2.out _).1⟩) ?_);rintro e w3 ⟨rfl,L',hm3,ht3⟩;have M3:=LH hm3;have T3:=LH ht3;clear hm3 ht3))
   go_end0
   exact⟨rfl,L,⟨_,_,_,_,_,(P.out _ C2.out _).1⟩,((Tr.refl L w).same C2.out).trans (P.out _ C2.out _).2⟩
  ·have q1:(M.st !=1)=true:=by rw[h1];rfl
   have q2:(M.st !=2)=false:=by rw[h1];rfl
   clear h1
   go_enter Tryz.func47,Tryz.ntmps47
   go_wp2_with (first
    |(go_at_call 98;(with_reducible refine Calls.mono A.out ?_);rintro e w2 ⟨rfl,hc2⟩;have C2:=LH hc2;obtain⟨kb2,fb2,lb2⟩:=KB.out _ hc2;have kp:=KL.out _ hc2;clear hc2)
    |(go_at_call 99;go_loud (refine Calls.mono (AF.out _ {M with peak:=max M.peak (m:Int)} ⟨_,_,_,_,_,(P.out _ C2.out _).1⟩) ?_);rintro e w3 ⟨rfl,L',hm3,ht3⟩;have M3:=LH hm3;have T3:=LH ht3;clear hm3 ht3))
   go_end0
   exact⟨rfl,L,⟨_,_,_,_,_,(P.out _ C2.out _).1⟩,((Tr.refl L w).same C2.out).trans (P.out _ C2.out _).2⟩
theorem mcount_any (h:MaIs w B b L cv iv M) (hs:smF M.fr):Calls Tryz.prog 47 #[.pointer (some ⟨b,0,none⟩)] w fun r w'=>r= .returned (.tuple #[])∧∃L',MaIs w' B b L' cv iv (countM M)∧Tr L w L' w':=by
 by_cases h1:M.st=1∨M.st=2
 ·exact mcount_yes h h1 hs
 ·refine(mcount_no h (fun e=>h1 (.inl e)) (fun e=>h1 (.inr e))).mono ?_
  rintro r w' ⟨rfl,hc⟩
  rw[countM,if_neg h1]
  exact⟨rfl,L,h.kept hc,(Tr.refl L w).same hc⟩
end
section
open Go.RowKit
variable {w w1 w':World} {S L L':List Nat} {B b fb n fc:Nat} {cv iv fv rv:Value} {val val':Vp} {f f':Fr'} {Fr F:List Fr'} {R:List Rq'} {M M':PMa} {pf:PFr} {pfs:List PFr}
def insV (op a:Int) (s:ByteArray) (kv:Value):Value:= .agg #[.int .i64 op, .int .i64 a, .string s,kv]
def insO (op a:Int) (s:ByteArray) (kv:Value):Obj:= .cells #[.int .i64 op, .int .i64 a, .string s,kv] 235 (0,0)
theorem MaAt.lvar (h:MaAt w B b L cv iv (.slice (some ⟨fb,0,none⟩) n fc) rv val (f::Fr) R M) (hM:M.fr=pf::pfs) {k:Nat} {v:Vl} (hkv:pf.lo[k]? =some v):
 ∃g lc p,f.lv= .slice (some ⟨g,0,none⟩) pf.lo.length lc∧VaIs w L p v∧(∀w2:World,w2.heap[g]? =w.heap[g]?→w2.cell? ⟨g,k,none⟩=some (.slice p.a p.n p.c))∧g<w.heap.size:=by
 obtain⟨hk,rfl⟩:=List.getElem?_eq_some_iff.1 hkv
 obtain⟨pf',pfs',e,ht, -⟩:=h.fr1
 rw[hM]at e
 cases e
 obtain⟨ps,hr,ha⟩:=ht.lo
 have hl:=ha.len
 rcases id hr.2 with ⟨h2,h3⟩|⟨g,cap,cur,hv,hg,hh,h4,h5,h6,h7⟩
 ·rw[←hl,h3]at hk;omega
 refine⟨g,cap,ps[k]'(by omega),by rw[hv,hl],ha.at k (by omega) hk,fun w2 hw=> ?_,lt_of_heap hh⟩
 have hr2:RowOf vpC 1 w2 B 22 (.slice (some ⟨g,0,none⟩) ps.length cap) ps:=⟨hr.1, .inr ⟨g,cap,cur,rfl,hg,hw.trans hh,h4,h5,h6,h7⟩⟩
 obtain⟨-, -, -,hc, -⟩:=RowOf.atS hr2 vpC_len
 have:=hc k (by omega) 0 (by omega)
 simpa[vpC]using this
theorem mresult_ok (h:MaIs w B b L cv iv M) (hM:M.fr=pf::pfs) {p:Vp} {v:Vl} (hv:VaIs w L p v) (hl:pf.st.length≤1048576):
 Calls Tryz.prog 252 #[.pointer (some ⟨b,0,none⟩), .slice p.a p.n p.c, .int .i64 0] w fun e w'=>e= .returned (.int .i64 0)∧∃L',MaIs w' B b L' cv iv {M with fr:={pf with st:=pf.st++[v]}::pfs}∧Tr L w L' w':=by
 have A:=LH (mpush_any h hM hv hl)
 clear h hM hv hl
 go_enter Tryz.func252,Tryz.ntmps252
 go_wp2_with (first|(go_at_call 102;(with_reducible refine Calls.mono A.out ?_);rintro e w2 ⟨rfl,h2⟩;have H2:=LH h2;clear h2))
 go_ret
 exact⟨rfl,H2.out⟩
theorem mload_ok (h:MaIs w B b L cv iv M) (hM:M.fr=pf::pfs) {k:Nat} {v:Vl} (hk:pf.lo[k]? =some v) (hl:pf.st.length≤1048576) (hl2:pf.lo.length≤1048576) (op:Int) (s:ByteArray) (kv:Value):
 Calls Tryz.prog 177 #[.pointer (some ⟨b,0,none⟩),insV op k s kv] w fun e w'=>e= .returned (.int .i64 0)∧∃L',MaIs w' B b L' cv iv {M with fr:={pf with st:=pf.st++[v]}::pfs}∧Tr L w L' w':=by
 have HI:=LH h
 obtain⟨fv,rv,val,F,R,h⟩:=h
 obtain⟨f,Fr,rfl⟩:=h.fr2 hM
 obtain⟨fb,fc,rfl⟩:=h.shape
 obtain⟨g,lc,p,hlv,hp,hcl,lg⟩:=h.lvar hM hk
 have C1:Hid (Chg [] w (w.alloc (insO op k s kv))):=LH ((Chg.refl _ _).alloc _)
 have A:=LH (mframe_any (h.kept C1.out))
 obtain⟨-,hcells,lf⟩:=h.cells
 have hcells2:∀w2:World,w2.heap[fb]? =w.heap[fb]?→w2.cell? ⟨fb,Fr.length*4+2,none⟩=some (.slice (some ⟨g,0,none⟩) pf.lo.length lc):=fun w2 hw=>by
  rw[(hcells w2 hw).2.2.1]
  exact congrArg some hlv
 have HC:=LH hcells2
 have HP:=LH hp
 have HL:=LH hcl
 have PU:=LH (fun w' (hc:Chg [] w w')=>mpush_any (HI.out.kept hc) hM (hp.mv (.none hc)) hl)
 have k1:(k:Int)<(pf.lo.length:Int):=by obtain⟨hk, -⟩:=List.getElem?_eq_some_iff.1 hk;omega
 have k0:(0:Int)≤(k:Int):=by omega
 have k2:(pf.lo.length:Int)≤1048576:=by omega
 clear h hcells hcells2 hp hcl hlv hM hk hl hl2 HI
 unfold insV
 unfold insO at C1 A
 generalize pf.lo.length=m at*
 have hne: ¬(k:Int)<0:=by omega
 go_enter Tryz.func177,Tryz.ntmps177
 go_wp2_with (first
  |(go_at_call 188;(with_reducible refine Calls.mono A.out ?_);rintro e w2 ⟨rfl,hc2⟩;have C2:=LH (C1.out.thenSame hc2);have kx:=blk_cell (hc2.at (by simp) (heap_alloc_new w _));have lx:=lt_of_heap (hc2.at (by simp) (heap_alloc_new w _));have c3:=HC.out w2 ((C1.out.thenSame hc2).block _ lf (by simp));have l2:=(C1.out.thenSame hc2).lt lf;have c4:=HL.out w2 ((C1.out.thenSame hc2).block _ lg (by simp));have l3:=(C1.out.thenSame hc2).lt lg;clear hc2))
 go_quiet (fail)
 go_wp2_with fail
 have kx1:w2.cell? ⟨w.heap.size,1,none⟩=some (.int .i64 k):=kx 1
 clear kx
 generalize hW:w2.drewN _=W
 have C3:=LH (show Chg [] w W by rw[←hW];exact C2.out.drewN _)
 rw[show w2.cell? ⟨fb,Fr.length*4+2,none⟩=W.cell? ⟨fb,Fr.length*4+2,none⟩ by rw[←hW];rfl]at c3
 rw[show w2.cell? ⟨g,k,none⟩=W.cell? ⟨g,k,none⟩ by rw[←hW];rfl]at c4
 rw[show w2.cell? ⟨w.heap.size,1,none⟩=W.cell? ⟨w.heap.size,1,none⟩ by rw[←hW];rfl]at kx1
 rw[show w2.heap.size=W.heap.size by rw[←hW];rfl]at lx l2 l3
 clear hW
 go_still_tail 9,(by kernel_rfl)
 change wpList _ _ _ _ _ W.drew
 go_wp2_with (first
  |(go_at_call 102;(with_reducible refine Calls.mono (PU.out _ C3.out.drew) ?_);rintro e w3 ⟨rfl,L9,hm3,ht3⟩;have M3:=LH hm3;have T3:=LH ht3;clear hm3 ht3))
 go_ret
 exact⟨rfl,L9,M3.out,((Tr.refl L w).same C3.out.drew).trans T3.out⟩
end
section
open Go.RowKit
variable {w w0 w1 w':World} {S L L':List Nat} {B b fb n fc:Nat} {cv iv fv rv:Value} {val val':Vp} {f f':Fr'} {Fr F:List Fr'} {R:List Rq'} {M M':PMa} {pf:PFr} {pfs:List PFr}
theorem RvIs.elem {v:Value} {vs:List Vl} {k:Nat} {u:Vl} (h:RvIs w B L v vs) (hkv:vs[k]? =some u):
 ∃g c p,v= .slice (some ⟨g,0,none⟩) vs.length c∧VaIs w L p u∧(∀w2:World,w2.heap[g]? =w.heap[g]?→w2.cell? ⟨g,k,none⟩=some (.slice p.a p.n p.c))∧g<w.heap.size:=by
 obtain⟨hk,rfl⟩:=List.getElem?_eq_some_iff.1 hkv
 obtain⟨ps,hr,ha⟩:=h
 have hl:=ha.len
 rcases id hr.2 with ⟨h2,h3⟩|⟨g,cap,cur,hv,hg,hh,h4,h5,h6,h7⟩
 ·rw[←hl,h3]at hk;omega
 refine⟨g,cap,ps[k]'(by omega),by rw[hv,hl],ha.at k (by omega) hk,fun w2 hw=> ?_,lt_of_heap hh⟩
 have hr2:RowOf vpC 1 w2 B 22 (.slice (some ⟨g,0,none⟩) ps.length cap) ps:=⟨hr.1, .inr ⟨g,cap,cur,rfl,hg,hw.trans hh,h4,h5,h6,h7⟩⟩
 obtain⟨-, -, -,hc, -⟩:=RowOf.atS hr2 vpC_len
 have:=hc k (by omega) 0 (by omega)
 simpa[vpC]using this
theorem RvIs.two {v:Value} {u1 u2:Vl} (h:RvIs w B L v [u1,u2]):
 ∃g c p1 p2,v= .slice (some ⟨g,0,none⟩) 2 c∧VaIs w L p1 u1∧VaIs w L p2 u2∧(∀w2:World,w2.heap[g]? =w.heap[g]?→w2.cell? ⟨g,0,none⟩=some (.slice p1.a p1.n p1.c)∧w2.cell? ⟨g,1,none⟩=some (.slice p2.a p2.n p2.c))∧g<w.heap.size:=by
 obtain⟨g,c,p1,e1,h1,h2,h3⟩:=h.elem (k:=0) rfl
 obtain⟨g',c',p2,e1',h1',h2',h3'⟩:=h.elem (k:=1) rfl
 rw[e1]at e1'
 cases e1'
 exact⟨g,c,p1,p2,e1,h1,h1',fun w2 hw=>⟨h2 w2 hw,h2' w2 hw⟩,h3⟩
def BinOk (w0:World) (s:ByteArray) (v1 v2:Vl) (r:Vl) (er:Int):Prop:=∀w' L p1 p2,Chg [] w0 w'→VaIs w' L p1 v1→VaIs w' L p2 v2→(∀y∈L,y<w'.heap.size)→
 Calls Tryz.prog 244 #[.string s, .slice p1.a p1.n p1.c, .slice p2.a p2.n p2.c] w' fun e w''=>∃p:Vp,e= .returned (.tuple #[.slice p.a p.n p.c, .int .i64 er])∧(er=0→VaIs w'' L p r)∧Chg [] w' w''
theorem moper_bin (h:MaIs w B b L cv iv M) (hM:M.fr=pf::pfs) {S0:List Vl} {v1 v2 r:Vl} (hst:pf.st=S0++[v1,v2]) (hl:pf.st.length≤1048576) {s:ByteArray} (hB:BinOk w0 s v1 v2 r 0) (h0:Chg [] w0 w) (hb:w0.heap.size≤B) (a:Int) (kv:Value):
 Calls Tryz.prog 181 #[.pointer (some ⟨b,0,none⟩),insV 9 a s kv] w fun e w'=>e= .returned (.int .i64 0)∧∃L',MaIs w' B b L' cv iv {M with fr:={pf with st:=S0++[r]}::pfs}∧Tr L w L' w':=by
 have C1:Hid (Chg [] w (w.alloc (insO 9 a s kv))):=LH ((Chg.refl _ _).alloc _)
 have A:=LH (mpop_ok (h.kept C1.out) hM (k:=2) (m:=S0.length) (by rw[hst];simp) hl)
 rw[hst,List.drop_left' rfl,List.take_left' rfl]at A
 have RS:=LH (fun w' L' p (h:MaIs w' B b L' cv iv {M with fr:={pf with st:=S0}::pfs}) (hv:VaIs w' L' p r)=>mresult_ok h rfl hv (by rw[hst]at hl;simp at hl⊢;omega))
 have BN:=LH hB
 have HL:=LH (show ∀y∈L,w0.heap.size≤y from fun y hy=>Nat.le_trans hb (h.ge y hy))
 have LT:=LH h.lt
 have C0:=LH h0
 have kx:=blk_cell (heap_alloc_new w (insO 9 a s kv))
 clear h hM hst hl hB h0 hb
 unfold insV
 unfold insO at C1 A kx
 go_enter Tryz.func181,Tryz.ntmps181
 go_wp2_with (first
  |(go_at_call 253;(with_reducible refine Calls.mono A.out ?_);rintro e w2 ⟨v,L2,rfl,hm2,hp2,ht2⟩;have M2:=LH hm2;have P2:=LH hp2;have T2:=LH ht2;obtain⟨g,c,p1,p2,rfl,hv1,hv2,hcl,hlg⟩:=hp2.row.two;have kx2:=blk_cell (ht2.chg.at (fun hm=>by have:=LT.out _ hm;omega) (heap_alloc_new w _));have lx2:=lt_of_heap (ht2.chg.at (fun hm=>by have:=LT.out _ hm;omega) (heap_alloc_new w _));obtain⟨c1,c2⟩:=hcl w2 rfl;have V1:=LH hv1;have V2:=LH hv2;have D2:=LH (((C0.out.thenSame C1.out)).then ht2.chg (fun y hy hl=>by have:=HL.out y hy;omega));clear hm2 hp2 ht2 hv1 hv2 hcl))
 clear kx
 go_region_law (first
  |(show(if _ then Oper.wp _ ⟨_,Op.call ⟨Callee.value (Operand.func 244),_,_⟩,_,_,_,_⟩ _ _ _ _ else _);refine(if_pos (by simp[Region.wanted])).mpr ?_;go_simp;refine(BN.out _ L2 p1 p2 D2.out.drew (V1.out.mv (.none (Chg.refl _ _).drew)) (V2.out.mv (.none (Chg.refl _ _).drew)) M2.out.lt).mono ?_;rintro e w5 ⟨p5,rfl,hv5,hc5⟩;have V5:=LH (hv5 rfl);have M5:=LH ((M2.out.kept (Chg.refl _ _).drew).kept hc5);have C5:=LH ((Chg.refl [] w2).drew.thenSame hc5);clear hv5 hc5)
  |(show(if _ then Oper.wp _ ⟨_,Op.call ⟨Callee.value (Operand.func 252),_,_⟩,_,_,_,_⟩ _ _ _ _ else _);refine(if_pos (by simp[Region.wanted])).mpr ?_;go_simp;refine(RS.out _ L2 p5 M5.out V5.out).mono ?_;rintro e w6 ⟨rfl,L6,hm6,ht6⟩;have M6:=LH hm6;have T6:=LH ht6;clear hm6 ht6)
  |fail)
 all_goals go_wp2_with fail
 all_goals go_ret
 all_goals exact⟨rfl,L6,M6.out,(((((Tr.refl L w).same C1.out).trans T2.out).same C5.out).trans T6.out)⟩
end
section
open Go.RowKit
variable {w w0 w1 w':World} {S L L':List Nat} {B b fb n fc:Nat} {cv iv fv rv:Value} {val val':Vp} {f f':Fr'} {Fr F:List Fr'} {R:List Rq'} {M M':PMa} {pf pf2:PFr} {pfs:List PFr}
theorem MaAt.dropFr (h:MaAt w B b L cv iv (.slice (some ⟨fb,0,none⟩) n fc) rv val (f::Fr) R M) (hM:M.fr=pf::pfs):
 ∃L',MaAt (w.setCell ⟨b,5,none⟩ (.slice (some ⟨fb,0,none⟩) Fr.length fc)) B b L' cv iv (.slice (some ⟨fb,0,none⟩) Fr.length fc) rv val Fr R {M with fr:=pfs}∧Tr L w L' (w.setCell ⟨b,5,none⟩ (.slice (some ⟨fb,0,none⟩) Fr.length fc)):=by
 obtain⟨nd,eL⟩:=h.nd1
 obtain⟨pf',pfs',e,ht,hrest⟩:=h.fr1
 rw[hM]at e
 cases e
 have hC:Chg [b] w (w.setCell ⟨b,5,none⟩ (.slice (some ⟨fb,0,none⟩) Fr.length fc)):=(Chg.refl _ _).setCell _ _ (fun _=>by simp)
 have hn:n=Fr.length+1:=h.cells.1
 subst hn
 have ema:maB b (.slice (some ⟨fb,0,none⟩) Fr.length fc) rv Fr R=Fr.flatMap frB++(b::((Value.slice (some ⟨fb,0,none⟩) (Fr.length+1) fc).ownBlock.toList++(rv.ownBlock.toList++R.flatMap rqB))):=rfl
 have hmv:Mv [b] L (maB b (.slice (some ⟨fb,0,none⟩) Fr.length fc) rv Fr R) w (w.setCell ⟨b,5,none⟩ (.slice (some ⟨fb,0,none⟩) Fr.length fc)):=by
  refine⟨hC,by intro y hy;simp at hy;subst hy;rw[eL];simp,fun y hy=> .inl ?_⟩
  rw[ema]at hy
  rw[eL]
  exact List.mem_append_right _ (List.mem_append_right _ hy)
 have q:b∉Fr.flatMap frB∧b≠fb∧b∉rv.ownBlock.toList∧b∉R.flatMap rqB:=by
  have hfb:(Value.slice (some ⟨fb,0,none⟩) (Fr.length+1) fc).ownBlock.toList=[fb]:=by simp[Value.ownBlock]
  rw[hfb]at nd
  revert nd
  generalize f.sv.ownBlock.toList=X1
  generalize f.lv.ownBlock.toList=X2
  generalize Fr.flatMap frB=X3
  generalize rv.ownBlock.toList=X4
  generalize R.flatMap rqB=X5
  intro nd
  grind [List.nodup_append,List.nodup_cons]
 obtain⟨r1,r2,r3,r4⟩:=h.rest hM hmv (fun y hy=>by simp at hy;subst hy;exact⟨q.1,q.2.2.1,q.2.2.2⟩)
 refine⟨_,⟨blk_set h.blk 5 _,r1, ?_,r2,r3,r4,rfl, ?_,h.lo⟩,hmv.tr⟩
 ·have h9:=(h.frs.kept hC (fun g hg hs=>by simp[Value.ownBlock]at hg hs;omega)).front frC_len Fr.length (by simp)
  have e2:((f::Fr).reverse).take Fr.length=Fr.reverse:=by
   rw[List.reverse_cons,List.take_left' (by simp)]
  rw[e2]at h9
  exact h9
 ·rw[ema]
  exact(List.nodup_append.1 (List.nodup_append.1 nd).2.1).2.1
theorem mback_last (h:MaIs w B b L cv iv M) (hM:M.fr=[pf]) {S0:List Vl} {v:Vl} (hst:pf.st=S0++[v]) (hl:pf.st.length≤1048576) (a:Int) (s:ByteArray) (kv:Value):
 Calls Tryz.prog 187 #[.pointer (some ⟨b,0,none⟩),insV 20 a s kv] w fun e w'=>e= .returned (.int .i64 0)∧∃L',MaIs w' B b L' cv iv {M with st:=3,val:=v,fr:=[]}∧Tr L w L' w':=by
 have C1:Hid (Chg [] w (w.alloc (insO 20 a s kv))):=LH ((Chg.refl _ _).alloc _)
 have A:=LH (mpop_ok (h.kept C1.out) hM (k:=1) (m:=S0.length) (by rw[hst];simp) hl)
 rw[hst,List.drop_left' rfl,List.take_left' rfl]at A
 clear h hM hst hl
 unfold insV
 unfold insO at C1 A
 go_enter Tryz.func187,Tryz.ntmps187
 go_wp2_with (first
  |(go_at_call 253;(with_reducible refine Calls.mono A.out ?_);rintro e w2 ⟨u,L2,rfl,hm2,hp2,ht2⟩))
 obtain⟨fv,rv,val,F,R,hm2⟩:=hm2
 obtain⟨f,Fr,rfl⟩:=hm2.fr2 rfl
 obtain⟨fb,fc,rfl⟩:=hm2.shape
 obtain⟨L3,hm3,ht3⟩:=(hm2.kept (Chg.refl [] w2).drew).dropFr rfl
 obtain⟨g,c,p,rfl,hv,hcl,hlg⟩:=hp2.row.elem (k:=0) rfl
 have hFr:Fr=[]:=List.eq_nil_of_length_eq_zero (by have:=hm3.fra.len;simpa using this)
 subst hFr
 have kb:=blk_cell hm2.blk
 have fb2:=blk_free hm2.blk
 have lb:=lt_of_heap hm2.blk
 have kb3:=blk_cell hm3.blk
 have fb3:=blk_free hm3.blk
 have lb3:=lt_of_heap hm3.blk
 have gb:g∉L2:=hp2.off g (by simp[Value.ownBlock])
 have bL:b∈L2:=by rw[hm2.own,maB];simp
 have gne:g≠b:=fun e=>gb (e▸bL)
 have c0:=hcl w2 rfl
 have c03:=hcl (w2.drew.setCell ⟨b,5,none⟩ (.slice (some ⟨fb,0,none⟩) ([]:List Fr').length fc)) (((Chg.refl [b] w2).drew.setCell _ _ (fun _=>by simp)).block _ hlg (by simpa using gne))
 have H3:=LH hm3
 have T3:=LH ht3
 have T2:=LH ht2
 have V:=LH ((hv.mv (.none (Chg.refl [] w2).drew)).mv ht3.mv)
 clear hm2 hm3 ht3 ht2 hp2 hv hcl
 simp only[List.length_nil]at*
 have hw0:IntKind.i64.wrap 0=0:=by decide
 have hfc:(0:Int)≤(fc:Int):=by omega
 go_region_law (fail)
 all_goals go_wp2_with fail
 all_goals go_ret
 all_goals (
  have hb:=blk_set (blk_set (blk_set H3.out.blk 2 (.int .i64 3)) 4 (.slice p.a p.n p.c)) 5 (.slice none 0 0)
  obtain⟨L',h9,t9⟩:=H3.out.noFr (M':={M with st:=3,val:=v,fr:=[]}) (val':=p) (((((Chg.refl [b] _).setCell _ _ (fun _=>by simp)).setCell _ _ (fun _=>by simp)).setCell _ _ (fun _=>by simp))) hb V.out rfl rfl
  exact⟨rfl,L',⟨_,_,_,_,_,h9⟩,(((((Tr.refl L w).same C1.out).trans T2.out).same (Chg.refl _ _).drew).trans T3.out).trans t9⟩)
end
section
open Go.RowKit
variable {w w0 w1 w':World} {S L L':List Nat} {B b fb n fc:Nat} {cv iv fv rv:Value} {val val':Vp} {f f':Fr'} {Fr F:List Fr'} {R:List Rq'} {M M':PMa} {pf pf2:PFr} {pfs:List PFr}
def actF:Nat→Nat
 |1=>176|2=>176|3=>176|4=>176|5=>177|6=>178|7=>179|8=>181|9=>181|10=>181
 |11=>182|12=>182|13=>183|14=>183|15=>184|16=>180|17=>185|18=>181|19=>186|20=>187|_=>0
structure TaIs (w:World) (L:List Nat) (tb:Nat):Prop where
 lt:tb<w.heap.size
 off:tb∉L
 at':∀k,1≤k→k≤20→w.cell? ⟨tb,k,none⟩=some (.func (.func (actF k)) #[] #[])
theorem TaIs.tr {tb:Nat} (h:TaIs w L tb) (t:Tr L w L' w'):TaIs w' L' tb:=by
 refine⟨t.chg.lt h.lt,fun hm=> ?_,fun k h1 h2=>(World.cell?_of_block (w:=w) (a:=⟨tb,k,none⟩) (t.chg.block tb h.lt h.off)).trans (h.at' k h1 h2)⟩
 rcases t.own tb hm with e|e
 ·exact h.off e
 ·have:=h.lt;omega
structure InsAt (w:World) (gi oi k:Nat) (op a:Int) (s:ByteArray) (kv:Value):Prop where
 lt:gi<w.heap.size
 c0:w.cell? ⟨gi,oi+k*4,none⟩=some (.int .i64 op)
 c1:w.cell? ⟨gi,oi+k*4+1,none⟩=some (.int .i64 a)
 c2:w.cell? ⟨gi,oi+k*4+2,none⟩=some (.string s)
 c3:w.cell? ⟨gi,oi+k*4+3,none⟩=some kv
theorem InsAt.kept {gi oi k:Nat} {op a:Int} {s:ByteArray} {kv:Value} (h:InsAt w gi oi k op a s kv) (hc:Chg [] w w'):InsAt w' gi oi k op a s kv:=by
 have e:∀i,w'.cell? ⟨gi,i,none⟩=w.cell? ⟨gi,i,none⟩:=fun i=>World.cell?_of_block (w:=w) (a:=⟨gi,i,none⟩) (hc.block gi h.lt (by simp))
 exact⟨hc.lt h.lt,(e _).trans h.c0,(e _).trans h.c1,(e _).trans h.c2,(e _).trans h.c3⟩
def preM (M:PMa) (pf:PFr) (pfs:List PFr):PMa:={M with steps:=M.steps+1,fr:={pf with pc:=pf.pc+1}::pfs}
theorem mstep_load {gi oi nI ic k tb:Nat} {a:Int} {s:ByteArray} {ka:Option Addr} {kn kc:Nat} {M2:PMa} (h:MaIs w B b L cv (.slice (some ⟨gi,oi,none⟩) nI ic) M) (hM:M.fr=pf::pfs) (hpc:pf.pc=(k:Int)) (hk:k<nI) (hn:nI≤1048576)
 (hi:InsAt w0 gi oi k 5 a s (.slice ka kn kc)) (h0:Chg [] w0 w) (hb:w0.heap.size≤B) (hs:M.steps<M.ls) (hs0:0≤M.steps) (hs1:M.ls≤1048576) (ht:TaIs w L tb)
 (hA:∀w' L',MaIs w' B b L' cv (.slice (some ⟨gi,oi,none⟩) nI ic) (preM M pf pfs)→Chg [] w0 w'→Calls Tryz.prog 177 #[.pointer (some ⟨b,0,none⟩),insV 5 a s (.slice ka kn kc)] w' fun e w''=>e= .returned (.int .i64 0)∧∃L'',MaIs w'' B b L'' cv (.slice (some ⟨gi,oi,none⟩) nI ic) M2∧Tr L' w' L'' w'')
 (hs2:smF M2.fr):
 Calls Tryz.prog 101 #[.pointer (some ⟨b,0,none⟩), .slice (some ⟨tb,0,none⟩) 21 21] w fun e w'=>e= .returned (.tuple #[])∧∃L',MaIs w' B b L' cv (.slice (some ⟨gi,oi,none⟩) nI ic) (countM M2)∧Tr L w L' w':=by
 have HL:=LH (show ∀y∈L,w0.heap.size≤y from fun y hy=>Nat.le_trans hb (h.ge y hy))
 have LT:=LH h.lt
 obtain⟨fv,rv,val,F,R,h⟩:=h
 obtain⟨f,Fr,rfl⟩:=h.fr2 hM
 obtain⟨fb,fc,rfl⟩:=h.shape
 have hfpc:f.pc=(k:Int):=by
  obtain⟨pf',pfs',e,ht, -⟩:=h.fr1
  rw[hM]at e
  cases e
  rw[ht.pc,hpc]
 have H:=LH h
 have HMM:=LH hM
 have A:=LH (fun w' (hc:Chg [] w w')=>mframe_any (h.kept hc))
 obtain⟨-,hcells,lf⟩:=h.cells
 rw[hfpc]at hcells
 have HC:=LH hcells
 have HI:=LH hi
 have C0:=LH h0
 have HT:=LH ht
 have HP:Hid (preM M pf pfs={{M with steps:=M.steps+1} with fr:={pf with pc:=(k:Int)+1}::pfs}):=LH (by unfold preM;rw[hpc])
 have BL:Hid (b∈L∧fb∈L):=LH (by rw[h.own];simp[maB,Value.ownBlock])
 unfold insV at hA
 have HA:=LH hA
 have HCO:=LH (fun w' L' (h:MaIs w' B b L' cv (.slice (some ⟨gi,oi,none⟩) nI ic) M2)=>mcount_any h hs2)
 have kb:=blk_cell h.blk
 have lb:=lt_of_heap h.blk
 have k0:(0:Int)≤(k:Int):=by omega
 have k1:(k:Int)<(nI:Int):=by omega
 have k2:(nI:Int)≤1048576:=by omega
 have k3: ¬M.ls≤M.steps:=by omega
 have k4:((((Fr.length+1:Nat):Int))==0)=false:=beq_eq_false_iff_ne.2 (by omega)
 clear h hcells hi h0 ht hA hs2 hM hpc hn hfpc hb
 go_enter Tryz.func101,Tryz.ntmps101
 go_wp2_with fail
 go_quiet (fail)
 go_wp2_with (first
  |(go_at_call 188;(with_reducible refine Calls.mono (A.out _ ((Chg.refl _ _).drewN _)) ?_);rintro e w2 ⟨rfl,hc2⟩;have C2:=LH (((Chg.refl [] w).drewN _).thenSame hc2);clear hc2))
 have c1:=(HC.out w2 (C2.out.block _ lf (by simp))).2.1
 have kb2:=blk_cell (C2.out.at (by simp) H.out.blk)
 have lb2:=C2.out.lt lb
 have lf2:=C2.out.lt lf
 have i2:=HI.out.kept (C0.out.thenSame C2.out)
 have x0:=i2.c0
 have x1:=i2.c1
 have x2:=i2.c2
 have x3:=i2.c3
 have x4:=i2.lt
 clear i2 kb
 go_quiet (fail)
 go_wp2_with fail
 generalize hW:w2.drewN _=W
 have C3:=LH (show Chg [] w W by rw[←hW];exact C2.out.drewN _)
 have e2:∀p,w2.cell? p=W.cell? p:=fun p=>by rw[←hW];rfl
 rw[e2]at c1 x0 x1 x2 x3
 simp only[e2]at kb2
 have y1:W.cell? ⟨b,1,none⟩=some (.slice (some ⟨gi,oi,none⟩) nI ic):=kb2 1
 rw[show w2.heap.size=W.heap.size by rw[←hW];rfl]at lb2 lf2 x4
 clear hW e2 kb2
 go_region_held3 (fun w'=>w'.cell? ⟨b,1,none⟩=some (.slice (some ⟨gi,oi,none⟩) nI ic)∧w'.cell? ⟨fb,Fr.length*4+1,none⟩=some (.int .i64 k)∧w'.cell? ⟨gi,oi+k*4,none⟩=some (.int .i64 5)∧w'.cell? ⟨gi,oi+k*4+1,none⟩=some (.int .i64 a)∧w'.cell? ⟨gi,oi+k*4+2,none⟩=some (.string s)∧w'.cell? ⟨gi,oi+k*4+3,none⟩=some (.slice ka kn kc))
  (first|go_keep)
  (fail)
 clear c1 x0 x1 x2 x3 y1
 generalize hW2:(W.alloc (Obj.cells #[.int .i64 5, .int .i64 a, .string s, .slice ka kn kc] 235)).drew=W2
 have C4:=LH (show Chg [] w W2 by rw[←hW2];exact(C3.out.alloc _).drew)
 have Q4:W2.heap[W.heap.size]? =some (.cells #[.int .i64 5, .int .i64 a, .string s, .slice ka kn kc] 235 (0,0)):=by rw[←hW2];exact heap_alloc_new W _
 have QL:Hid (W.heap.size∉L):=LH (fun hm=>by have:=LT.out _ hm;have:=C3.out.size;omega)
 clear hW2 lb2 lf2 x4
 generalize W.heap.size=q at*
 have H4:=H.out.kept C4.out
 have HO:=H4.offs
 have hne:b≠fb:=HO.2.2.2.2.1
 have hne2:fb≠b:=fun e=>hne e.symm
 have c4:=(HC.out W2 (C4.out.block _ lf (by simp))).2.1
 have f4:=(HC.out W2 (C4.out.block _ lf (by simp))).2.2.2.2
 have l4:=C4.out.lt lf
 have kb4:=blk_cell H4.blk
 have fb4:=blk_free H4.blk
 have lb4:=lt_of_heap H4.blk
 obtain⟨H5,T5⟩:=H4.setB (M':={M with steps:=M.steps+1}) ((Chg.refl [b] _).setCell ⟨b,9,none⟩ (.int .i64 (M.steps+1)) (fun _=>by simp)) (blk_set H4.blk 9 (.int .i64 (M.steps+1))) H4.val rfl rfl
 obtain⟨H6,T6⟩:=H5.setPc HMM.out ((k:Int)+1)
 have TT:=LH ((((Tr.refl L w).same C4.out).trans T5).trans T6)
 have H6:=LH H6
 rename_i H60
 clear H60 H5 T5 T6 H4 HO
 have Q4:=LH Q4
 rename_i Q40
 clear Q40
 have hs3:M.steps≤1048576:=by omega
 go_wp2_with fail
 generalize hW4:(W2.setCell ⟨b,9,none⟩ (.int .i64 (M.steps+1))).setCell ⟨fb,Fr.length*4+1,none⟩ (.int .i64 ((k:Int)+1))=W4
 rw[hW4]at H6 TT
 have hc4:Chg [b,fb] W2 W4:=by rw[←hW4];exact((Chg.refl _ _).setCell _ _ (fun _=>by simp)).setCell _ _ (fun _=>by simp)
 have qn:q∉[b,fb]:=fun hm=>by
  simp only[List.mem_cons,List.not_mem_nil,or_false]at hm
  rcases hm with e|e
  ·exact QL.out (by rw[e];exact BL.out.1)
  ·exact QL.out (by rw[e];exact BL.out.2)
 have Q5:=hc4.at qn Q4.out
 have kq:=blk_cell Q5
 have lq:=lt_of_heap Q5
 have tc:W4.cell? ⟨tb,5,none⟩=some (.func (.func 177) #[] #[]):=(HT.out.tr TT.out).at' 5 (by decide) (by decide)
 have tl:=(HT.out.tr TT.out).lt
 have D4:=LH (C0.out.then TT.out.chg (fun y hy hl=>by have:=HL.out y hy;omega))
 have H7:Hid (MaIs W4.drew B b L cv (.slice (some ⟨gi,oi,none⟩) nI ic) (preM M pf pfs)):=LH (by rw[HP.out];exact⟨_,_,_,_,_,H6.out.kept (Chg.refl _ _).drew⟩)
 clear hW4 hc4 Q5 qn c4 f4 l4 kb4 fb4 lb4
 go_still_tail 7,(by kernel_rfl)
 change wpList _ _ _ _ _ W4.drew
 go_wp2_with (first
  |(go_at_call 177;(with_reducible refine Calls.mono (HA.out _ L H7.out D4.out.drew) ?_);rintro e w5 ⟨rfl,L5,hm5,ht5⟩;have M5:=LH hm5;have T5:=LH ht5;clear hm5 ht5)
  |(go_at_call 47;(with_reducible refine Calls.mono (HCO.out _ L5 M5.out) ?_);rintro e w6 ⟨rfl,L6,hm6,ht6⟩;have M6:=LH hm6;have T6:=LH ht6;clear hm6 ht6))
 go_end0
 exact⟨rfl,L6,M6.out,((TT.out.same (Chg.refl _ _).drew).trans T5.out).trans T6.out⟩
end
section
open Go.RowKit
variable {w w0 w1 w':World}
theorem actInfo:(Tryz.prog.info? 328).map (fun i=>(i.zero,i.size,i.bytes))=some (some .nilFunc,1,8):=by kernel_rfl
def acV (n:Nat):Value:= .func (.func n) #[] #[]
def opL:List Nat:=[1,2,3,4,5,6,7,16,8,9,10,18,11,12,13,14,15,17,19,20]
def tabD (k:Nat):Array Value:=(opL.take k).foldl (fun D op=>D.setIfInBounds op (acV (actF op))) (madeCells #[Value.nilFunc] 21)
theorem mk_acts (w:World):(Instr.makeSlice 254 (.int .i64 21) (.int .i64 21)).run Tryz.prog w= .ok (.slice (some ⟨w.heap.size,0,none⟩) 21 21) (w.alloc (.cells (tabD 0) 328 (0,0))):=
 run_make_row' (P:=Tryz.prog) 254 328 .nilFunc 8 Tryz.underlying254 actInfo rfl .i64 .i64 21 (by decide) (by decide) w
theorem tab_eq:tabD 20= #[Value.nilFunc,acV (actF 1),acV (actF 2),acV (actF 3),acV (actF 4),acV (actF 5),acV (actF 6),acV (actF 7),acV (actF 8),acV (actF 9),acV (actF 10),acV (actF 11),acV (actF 12),acV (actF 13),acV (actF 14),acV (actF 15),acV (actF 16),acV (actF 17),acV (actF 18),acV (actF 19),acV (actF 20)]:=by kernel_rfl
theorem tab_at:∀k,1≤k→k≤20→(tabD 20)[k]? =some (acV (actF k)):=by
 intro k h1 h2
 rw[tab_eq]
 have h:k=1∨k=2∨k=3∨k=4∨k=5∨k=6∨k=7∨k=8∨k=9∨k=10∨k=11∨k=12∨k=13∨k=14∨k=15∨k=16∨k=17∨k=18∨k=19∨k=20:=by omega
 rcases h with rfl|rfl|rfl|rfl|rfl|rfl|rfl|rfl|rfl|rfl|rfl|rfl|rfl|rfl|rfl|rfl|rfl|rfl|rfl|rfl<;>rfl
def actN (k:Nat):Nat:=opL.getD k 0
theorem actN_lt (k:Nat) (hk:k<20):actN k<21:=by
 have h:k=0∨k=1∨k=2∨k=3∨k=4∨k=5∨k=6∨k=7∨k=8∨k=9∨k=10∨k=11∨k=12∨k=13∨k=14∨k=15∨k=16∨k=17∨k=18∨k=19:=by omega
 rcases h with rfl|rfl|rfl|rfl|rfl|rfl|rfl|rfl|rfl|rfl|rfl|rfl|rfl|rfl|rfl|rfl|rfl|rfl|rfl|rfl<;>decide
theorem tabD_size (k:Nat):(tabD k).size=21:=by
 unfold tabD
 have h:∀(l:List Nat) (D:Array Value),(l.foldl (fun D op=>D.setIfInBounds op (acV (actF op))) D).size=D.size:=by
  intro l
  induction l with
  |nil=>intro D;rfl
  |cons x l ih=>intro D;rw[List.foldl_cons,ih];simp
 rw[h,show madeCells #[Value.nilFunc] 21=(List.replicate 21 Value.nilFunc).toArray by kernel_rfl]
 rfl
theorem tabD_succ (k:Nat) (hk:k<20):tabD (k+1)=(tabD k).setIfInBounds (actN k) (acV (actF (actN k))):=by
 unfold tabD actN
 rw[List.take_succ_eq_append_getElem (show k<opL.length from hk),List.foldl_append]
 simp[List.getD,hk,show opL.length=20 from rfl]
def srcD:Array Value:=(opL.flatMap fun op:Nat=>[Value.int .i64 (op:Int),acV (actF op)]).toArray
theorem srcD_at (k:Nat) (hk:k<20):srcD[k*2]? =some (.int .i64 (actN k))∧srcD[k*2+1]? =some (acV (actF (actN k))):=by
 have h:=flatMap_at (cf:=fun op:Nat=>[Value.int .i64 (op:Int),acV (actF op)]) (sz:=2) (fun _=>rfl) opL k hk
 have h0:=h 0 (by omega)
 have h1:=h 1 (by omega)
 have e:opL[k]'hk=actN k:=by unfold actN;rw[List.getD_eq_getElem?_getD,List.getElem?_eq_getElem hk];rfl
 rw[e]at h0 h1
 constructor
 ·rw[←Array.getElem?_toList];exact h0
 ·rw[←Array.getElem?_toList];exact h1
theorem macts_any (w:World):Calls Tryz.prog 100 #[] w fun e w'=>∃tb,e= .returned (.slice (some ⟨tb,0,none⟩) 21 21)∧TaIs w' [] tb∧w.heap.size≤tb∧Chg [] w w':=by
 have MK:=mk_acts
 have RS:=fun(a:Addr) (fn:Fn) (fi ca:Array Value) (m:Mode) (w:World)=>run_store Tryz.prog w a (.func fn fi ca) m rfl
 go_enter Tryz.func100,Tryz.ntmps100
 go_wp2_with fail
 go_loopw [27] (fun u wr=>∃k:Nat,u= .int .i64 k∧k≤20∧Hid (wr.heap[w.heap.size]? =some (.cells (tabD k) 328 (0,0)))∧Hid (wr.heap[w.heap.size+1]? =some (.cells srcD 331 (0,0)))∧Hid (Chg [] w wr)) (fun u _=>20-(intOf u).toNat)
 case atStart=>exact⟨0,rfl,by omega,LH (blk_alloc (heap_alloc_new _ _)),LH (by have h:=heap_alloc_new (w.alloc (.cells (tabD 0) 328 (0,0))) (.cells srcD 331 (0,0));rw[World.size_alloc]at h;exact h),LH (((Chg.refl _ _).alloc _).alloc _)⟩
 case round=>
  obtain⟨k,rfl,hk,HT,HS,C⟩:=hrel
  by_cases hlt:k<20
  ·have ks:=blk_cell HS.out
   obtain⟨s0,s1⟩:=srcD_at k hlt
   have u0:=(ks (k*2)).trans s0
   have u1:=(ks (k*2+1)).trans s1
   have hop:=actN_lt k hlt
   have HTS:=LH (tabD_succ k hlt)
   obtain⟨x0,hx0⟩:∃x,(tabD k)[actN k]? =some x:=⟨_,Array.getElem?_eq_getElem (by rw[tabD_size];exact hop)⟩
   have kt:=(blk_cell HT.out (actN k)).trans hx0
   have ft:=blk_free HT.out
   have lt:=lt_of_heap HT.out
   have ls:=lt_of_heap HS.out
   unfold acV at u1 HTS
   generalize actN k=o at*
   generalize actF o=fn at*
   have o0:(0:Int)≤(o:Int):=by omega
   have o1:(o:Int)<21:=by omega
   have k0:(0:Int)≤(k:Int):=by omega
   have k1:(k:Int)<20:=by omega
   clear ks s0 s1
   go_wp2_with fail
   exact⟨⟨k+1,by go_num,by omega,LH (by rw[HTS.out];exact blk_alloc (blk_set HT.out o _)),LH (blk_alloc (((Chg.refl [w.heap.size] wr).setCell _ _ (fun _=>by simp)).at (by simp) HS.out)),LH (((C.out).setCell _ _ (fun h=>by simp at h)).alloc _)⟩,by simp[intOf];omega⟩
  ·have hke:k=20:=by omega
   subst hke
   clear hlt hk
   rw[show((20:Nat):Int)=20 from rfl]
   go_wp2_with fail
   go_ret
   exact⟨w.heap.size,rfl,⟨lt_of_heap HT.out,by simp,fun k h1 h2=>(blk_cell HT.out k).trans (tab_at k h1 h2)⟩,Nat.le_refl _,C.out⟩
end
section
open Go.RowKit
variable {w w0 w1 w':World} {S L L':List Nat} {B b fb n fc:Nat} {cv iv fv rv:Value} {val val':Vp} {f f':Fr'} {Fr F:List Fr'} {R:List Rq'} {M M':PMa} {pf pf2:PFr} {pfs:List PFr}
theorem vclone_any {p:Vp} {v:Vl} (h:VaIs w L p v) (hl:v.length≤1048576):Calls Tryz.prog 43 #[.slice p.a p.n p.c] w fun e w'=>∃q:Vp,e= .returned (.slice q.a q.n q.c)∧VaIs w' [] q v∧(∀ad,q.a=some ad→w.heap.size≤ad.block)∧Chg [] w w':=by
 rw[h.len]
 refine(clonec_any p.a p.c v w h.ins (by omega)).mono ?_
 rintro e w' ⟨a',c',rfl,hr,hc⟩
 refine⟨⟨a',v.length,c'⟩,rfl,⟨(InIs.ofRow hr ceC_len).2,rfl,fun ad ha=> ?_,fun ad ha=> ?_⟩,fun ad ha=> ?_,hc⟩
 ·simp only at ha
  subst ha
  exact⟨by simp,(hr.block ad.block rfl).2⟩
 ·simp only at ha
  subst ha
  rcases hr.2 with ⟨e, -⟩|⟨g,cap,cur,e, -,hh, -⟩
  ·cases e
  ·cases e
   exact⟨_,_,hh⟩
 ·simp only at ha
  subst ha
  exact(hr.block ad.block rfl).1
theorem VaIs.new {p:Vp} {v:Vl} (h:VaIs w [] p v) (hn:∀ad,p.a=some ad→ad.block∉L):VaIs w L p v:=⟨h.ins,h.len,fun ad ha=>⟨hn ad ha,(h.off ad ha).2⟩,h.ty⟩
def VcI (lo tb n:Nat) (L:List Nat) (vs:List Vl) (k:Nat) (w:World):Prop:=
 ∃qs:List Vp,RowOf vpC 1 w lo 22 (.slice (some ⟨tb,0,none⟩) n n) (qs++List.replicate (n-k) ⟨none,0,0⟩)∧All2 (VaIs w (tb::L)) qs (vs.take k)∧qs.length=k
theorem VcI.step {lo tb n k:Nat} {vs:List Vl} {q:Vp} {v:Vl} (h:VcI lo tb n L vs k w) (hk:k<n) (hv:vs[k]? =some v) (hc:Chg [] w w1) (hq:VaIs w1 [] q v) (hn:∀ad,q.a=some ad→w.heap.size≤ad.block) (hL:∀y∈tb::L,y<w.heap.size):
 VcI lo tb n L vs (k+1) (w1.setCell ⟨tb,k,none⟩ (.slice q.a q.n q.c)):=by
 obtain⟨qs,h1,h2,h3⟩:=h
 have hS:Chg [tb] w1 (w1.setCell ⟨tb,k,none⟩ (.slice q.a q.n q.c)):=(Chg.refl _ _).setCell _ _ (fun _=>by simp)
 have hm:Mv [tb] (tb::L) (tb::L) w1 (w1.setCell ⟨tb,k,none⟩ (.slice q.a q.n q.c)):= .same hS (by simp)
 have hlen:(qs++List.replicate (n-k) (⟨none,0,0⟩:Vp)).length=n:=by simp[h3];omega
 refine⟨qs++[q], ?_, ?_,by simp[h3]⟩
 ·have h9:=(h1.kept hc (by simp)).setAt (y:=q) (u:= .slice q.a q.n q.c) vpC_len k 0 (by rw[hlen];exact hk) (by omega) rfl
  rw[Nat.mul_one,Nat.add_zero]at h9
  have e:(qs++List.replicate (n-k) (⟨none,0,0⟩:Vp)).set k q=qs++[q]++List.replicate (n-(k+1)) ⟨none,0,0⟩:=by
   rw[List.set_append_right _ _ (by omega),h3,Nat.sub_self,show n-k=(n-(k+1))+1 by omega,List.replicate_succ,sCZ]
   simp
  rw[e]at h9
  exact h9
 ·have e:vs.take (k+1)=vs.take k++[v]:=by
   obtain⟨hk',rfl⟩:=List.getElem?_eq_some_iff.1 hv
   rw[List.take_succ_eq_append_getElem hk']
  rw[e]
  refine All2.app (h2.mono (fun _ _ _ k=>(k.mv (.none hc)).mv hm)) (show All2 _ [q] [v]from⟨?_,trivial⟩)
  exact(hq.new (fun ad ha hm=>by have:=hL _ hm;have:=hn ad ha;omega)).mv hm
theorem VcI.at {lo tb n k:Nat} {vs:List Vl} (h:VcI lo tb n L vs k w) (hk:k<n):(∃x,w.cell? ⟨tb,k,none⟩=some x)∧(∀i,w.frozen? ⟨tb,i,none⟩=false)∧tb<w.heap.size:=by
 obtain⟨qs,h1,h2,h3⟩:=h
 have hlen:(qs++List.replicate (n-k) (⟨none,0,0⟩:Vp)).length=n:=by simp[h3];omega
 obtain⟨-, -, -,hc,hf, -,hl⟩:=RowOf.atS h1 vpC_len
 refine⟨?_,hf,hl⟩
 have:=hc k (by rw[hlen];exact hk) 0 (by omega)
 rw[Nat.mul_one,Nat.add_zero]at this
 exact⟨_,this.trans rfl⟩
theorem VcI.kept {lo tb n k:Nat} {vs:List Vl} (h:VcI lo tb n L vs k w) (hc:Chg [] w w'):VcI lo tb n L vs k w':=by
 obtain⟨qs,h1,h2,h3⟩:=h
 exact⟨qs,h1.kept hc (by simp),h2.mono (fun _ _ _ k=>k.mv (.none hc)),h3⟩
theorem mvals_any {u:Value} {vs:List Vl} (h:RvIs w B L u vs) (hs:smL vs) (hL:∀y∈L',y<w.heap.size):Calls Tryz.prog 103 #[u] w fun e w'=>∃v,e= .returned v∧RvIs w' w.heap.size (v.ownBlock.toList++L') v vs∧Chg [] w w':=by
 obtain⟨ps,hr,ha⟩:=h
 obtain⟨a,c,rfl⟩:=RowOf.shape hr
 have HS:=(RowOf.sl hr vpC_len).1
 have hlen:=ha.len
 have HA:=LH ha
 have HR:=LH HS
 have HLn:=LH hlen
 have HM:=LH hs
 have HL:=LH hL
 have hb:(ps.length:Int)≤1048576:=by have:=hs.1;omega
 have hbn:ps.length≤1048576:=by omega
 clear hr ha HS hlen hs hL
 go_enter Tryz.func103,Tryz.ntmps103
 go_wp2_with (first
  |(refine wpl_make rfl _ _ 65 rfl w.heap.size 22 (.slice none 0 0) 24 Tryz.underlying65 vpInfo (cf:=vpC) ⟨none,0,0⟩ rfl rfl ps.length rfl rfl (by omega) (by unfold maxLen;omega) (Nat.le_refl _) ?_;intro w1 hr1 hc1 hz1;have R1:=LH hr1;have C1:=LH hc1;have Z1:=LH hz1;clear hr1 hc1 hz1))
 go_loopw [11] (fun i wr=>∃k:Nat,i= .int .i64 k∧k≤ps.length∧Hid (VcI w.heap.size w.heap.size ps.length L' vs k wr)∧Hid (Chg [] w wr)) (fun i _=>ps.length-(intOf i).toNat)
 case atStart=>exact⟨0,rfl,Nat.zero_le _,LH ⟨[],R1.out,trivial,rfl⟩,C1⟩
 case round=>
  obtain⟨k,rfl,hk,HV,C⟩:=hrel
  by_cases hlt:k<ps.length
  ·obtain⟨g,off,rfl, -,gl,hcc⟩:=HR.out.elem C.out k hlt
   have u0:=hcc 0 (by omega)
   simp only[vpC,List.getElem?_cons_zero,Nat.add_zero,Nat.mul_one]at u0
   have hva:=HA.out.at k hlt (by rw[←HLn.out];exact hlt)
   have hsz:=HM.out.2 _ (List.getElem_mem (h:=by rw[←HLn.out];exact hlt))
   have hvs:vs[k]? =some (vs[k]'(by rw[←HLn.out];exact hlt)):=List.getElem?_eq_getElem _
   have A:=LH (vclone_any (hva.mv (.none C.out)) hsz)
   generalize vs[k]'(by rw[←HLn.out];exact hlt)=v at*
   generalize ps[k]=p at*
   have HVS:=LH hvs
   have hk0:(0:Int)≤(k:Int):=by omega
   have hk1:(k:Int)<(ps.length:Int):=by omega
   have V2:=LH (fun w' (hc:Chg [] wr w')=>(HV.out.kept hc).at hlt)
   clear hcc hva hsz hvs
   go_wp2_with (first
    |(go_at_call 43;(with_reducible refine Calls.mono A.out ?_);rintro e w2 ⟨q,rfl,hq,hn,hc2⟩;have Q2:=LH hq;have N2:=LH hn;have C2:=LH hc2;obtain⟨⟨x2,c2⟩,f2,l2⟩:=V2.out w2 hc2;clear hq hn hc2))
   refine⟨⟨k+1,by go_num,by omega,LH (HV.out.step hlt HVS.out C2.out Q2.out N2.out (fun y hy=> ?_)),LH ((C.out.thenSame C2.out).setCell _ _ (fun h=>by simp at h))⟩,by simp[intOf];omega⟩
   have h1:=C.out.size
   have h2:=(HV.out.at hlt).2.2
   rcases List.mem_cons.1 hy with rfl|hy
   ·exact h2
   ·have:=HL.out y hy;omega
  ·have hke:k=ps.length:=by omega
   subst hke
   go_wp2_with fail
   go_ret
   obtain⟨qs,h1,h2,h3⟩:=HV.out
   rw[Nat.sub_self,List.replicate_zero,List.append_nil]at h1
   rw[show vs.take ps.length=vs by rw[HLn.out,List.take_length]]at h2
   exact⟨_,rfl,⟨qs,h1,h2⟩,C.out⟩
end
section
open Go.RowKit Go.ChangeShapes Go.WideShapes Go.Deep
section
variable {H:Type} {enc:TypeId×Value→H} {P:Program} {w:World} {base:Nat} {spare:Nat→Bool} {held:Bool}
end
end
section
open Go.RowKit Go.ChangeShapes Go.WideShapes Go.Deep
section
variable {H:Type} {enc:TypeId×Value→H} {P:Program} {w:World} {base:Nat} {spare:Nat→Bool} {held:Bool}
end
end
section
open Go.RowKit Go.ChangeShapes Go.WideShapes Go.Deep
section
variable {H:Type} {enc:TypeId×Value→H} {P:Program} {w:World} {base:Nat} {spare:Nat→Bool} {held:Bool}
def Wt (P:Program) (t:TypeId) (d:DataW H):Prop:=∀n∈d.weights P t,n≤reachBytes
theorem wtAll_mem {e:TypeId}:∀{l:List (DataW H)} {d:DataW H},d∈l→∀n∈d.weights P e,n∈DataW.weightsAll P e l
 |[],_,h,_,_=>by cases h
 |x::r,d,h,n,hn=>by
  rw[DataW.weightsAll,List.mem_append]
  rcases List.mem_cons.1 h with rfl|h
  ·exact .inl hn
  ·exact .inr (wtAll_mem h n hn)
theorem Wt.elem {t e:TypeId} {elems rest:List (DataW H)} (ht:P.underlying t=some (.slice e)) (h:Wt P t (.slice elems rest)):(elems.length+rest.length)*P.bytesOf e≤reachBytes∧∀d∈elems,Wt P e d:=by
 unfold Wt at h
 rw[DataW.weights,ht]at h
 exact⟨h _ (by simp),fun d hd n hn=>h n (by simp;exact .inr (.inl (wtAll_mem hd n hn)))⟩
theorem Wt.field {t:TypeId} {fs:Array Field} {parts:List (DataW H)} (ht:P.underlying t=some (.struct fs)) (h:Wt P t (.agg parts)) {j:Nat} {f:Field} {d:DataW H} (hf:fs[j]? =some f) (hd:parts[j]? =some d):Wt P f.type d:=by
 unfold Wt at h
 rw[DataW.weights,ht]at h
 exact fun n hn=>h n (DataW.weights_mem_each (ts:=fs.toList.map (·.type)) (by rw[List.getElem?_map,Array.getElem?_toList,hf];rfl) hd n hn)
end
end
section
open Go.RowKit Go.ChangeShapes Go.WideShapes Go.Deep
def skC (s:ByteArray):List Value:=[.string s]
theorem skC_len (x:ByteArray):(skC x).length=1:=rfl
theorem skC_one (x:ByteArray):∀u∈skC x,u.oneCell'=true:=by intro u hu;simp[skC]at hu;subst hu;rfl
structure PNd where
 kind:Int
 text:ByteArray
 n:Int
 keys:List ByteArray
 kids:List Int
structure Nd where
 kind:Int
 text:ByteArray
 n:Int
 ka:Option Addr
 kc:Nat
 keys:List ByteArray
 da:Option Addr
 dc:Nat
 kids:List Int
def Nd.p (x:Nd):PNd:=⟨x.kind,x.text,x.n,x.keys,x.kids⟩
def ndC (x:Nd):List Value:=[.int .i64 x.kind, .string x.text, .int .i64 x.n, .slice x.ka x.keys.length x.kc, .slice x.da x.kids.length x.dc]
theorem ndC_len (x:Nd):(ndC x).length=5:=rfl
theorem ndC_one (x:Nd):∀u∈ndC x,u.oneCell'=true:=by intro u hu;simp[ndC]at hu;rcases hu with rfl|rfl|rfl|rfl|rfl<;>rfl
def ndO (x:Nd):Obj:= .cells #[.int .i64 x.kind, .string x.text, .int .i64 x.n, .slice x.ka x.keys.length x.kc, .slice x.da x.kids.length x.dc] 297
def NdIn (w:World) (x:Nd):Prop:=InIs skC 1 w x.ka x.kc x.keys∧InIs icI 1 w x.da x.dc x.kids
theorem NdIn.kept {w w':World} {x:Nd} (h:NdIn w x) (hc:Chg [] w w'):NdIn w' x:=⟨h.1.kept hc,h.2.kept hc⟩
def goodNd (x:Nd):Prop:=(Lit.int .i64 x.kind).wf=true∧x.text.size≤maxLen∧(Lit.int .i64 x.n).wf=true∧(∀s∈x.keys,s.size≤maxLen)∧∀k∈x.kids,(Lit.int .i64 k).wf=true
structure PFn where
 name:ByteArray
 params:List ByteArray
 body:Int
structure Fn' where
 name:ByteArray
 pa:Option Addr
 pc:Nat
 params:List ByteArray
 body:Int
def Fn'.p (x:Fn'):PFn:=⟨x.name,x.params,x.body⟩
def fnC (x:Fn'):List Value:=[.string x.name, .slice x.pa x.params.length x.pc, .int .i64 x.body]
theorem fnC_len (x:Fn'):(fnC x).length=3:=rfl
theorem fnC_one (x:Fn'):∀u∈fnC x,u.oneCell'=true:=by intro u hu;simp[fnC]at hu;rcases hu with rfl|rfl|rfl<;>rfl
def FnIn (w:World) (x:Fn'):Prop:=InIs skC 1 w x.pa x.pc x.params
theorem FnIn.kept {w w':World} {x:Fn'} (h:FnIn w x) (hc:Chg [] w w'):FnIn w' x:=InIs.kept h hc
def goodFn (x:Fn'):Prop:=x.name.size≤maxLen∧(∀s∈x.params,s.size≤maxLen)∧(Lit.int .i64 x.body).wf=true
structure PPr where
 nodes:List PNd
 funcs:List PFn
structure Pr where
 na:Option Addr
 nc:Nat
 nodes:List Nd
 fa:Option Addr
 fc:Nat
 funcs:List Fn'
def Pr.p (x:Pr):PPr:=⟨x.nodes.map Nd.p,x.funcs.map Fn'.p⟩
def prC (x:Pr):List Value:=[.slice x.na x.nodes.length x.nc, .slice x.fa x.funcs.length x.fc]
def PrIn (w:World) (x:Pr):Prop:=(InIs ndC 5 w x.na x.nc x.nodes∧∀d∈x.nodes,NdIn w d)∧(InIs fnC 3 w x.fa x.fc x.funcs∧∀d∈x.funcs,FnIn w d)
theorem PrIn.kept {w w':World} {x:Pr} (h:PrIn w x) (hc:Chg [] w w'):PrIn w' x:=⟨⟨h.1.1.kept hc,fun d hd=>(h.1.2 d hd).kept hc⟩,⟨h.2.1.kept hc,fun d hd=>(h.2.2 d hd).kept hc⟩⟩
def goodPr (x:Pr):Prop:=(∀d∈x.nodes,goodNd d)∧∀d∈x.funcs,goodFn d
section
variable {H:Type} {enc:TypeId×Value→H} {w:World} {base:Nat} {spare:Nat→Bool} {held:Bool}
end
end
section
open Go.RowKit
def sStrCe (s:ByteArray):Ce:=⟨4,0,s,0⟩
def sTextB (s:ByteArray):Bool:=checkZ [sStrCe s]==0
def sLowB (c:Nat):Bool:=(decide (97≤c)&&decide (c≤122))||c==95
def sDigB (c:Nat):Bool:=decide (48≤c)&&decide (c≤57)
def sRunTo (s:ByteArray) (k:Nat):Bool:=(List.range k).all (fun i=>match s.data[i]? with|some c=>sLowB c.toNat||(decide (0<i)&&sDigB c.toNat)|none=>true)
def sRunB (s:ByteArray):Bool:=decide (1≤s.size)&&decide (s.size≤24)&&sRunTo s s.size
def sKwL:List ByteArray:=[⟨#[102,117,110,99]⟩,⟨#[108,101,116]⟩,⟨#[105,102]⟩,⟨#[101,108,115,101]⟩,⟨#[119,104,105,108,101]⟩,⟨#[114,101,116,117,114,110]⟩,⟨#[97,110,100]⟩,⟨#[111,114]⟩,⟨#[110,111,116]⟩,⟨#[110,117,108,108]⟩,⟨#[116,114,117,101]⟩,⟨#[102,97,108,115,101]⟩]
def sKwB (s:ByteArray):Bool:=sKwL.any (fun k=>s==k)
def sNameB (s:ByteArray):Bool:=sRunB s&& !sKwB s
def sStatB (k:Int):Bool:=decide (13≤k)&&decide (k≤18)
def sExprB (k:Int):Bool:=decide (1≤k)&&decide (k≤12)
end
section
open Go.RowKit
def symS:ByteArray:=⟨#[40,41,123,125,91,93,44,59,58,61,33,60,62,43,45,42,47,37]⟩
def symB (c:Nat):Bool:=decide (0≤Lib.indexByte symS.data.toList (c:Int).toNat.toUInt8)
def ofZ (c:Nat):Int:=
 if c=32∨c=9∨c=10 then 1 else if(97≤c∧c≤122)∨c=95 then 2 else if 48≤c∧c≤57 then 3 else if c=34 then 4 else if c=64 then 5 else if symB c=true then 6 else 0
theorem low_of:∀c:Fin 128,sLowB c.val=(ofZ c.val==2):=by decide+kernel
theorem dig_of:∀c:Fin 128,sDigB c.val=(ofZ c.val==3):=by decide+kernel
theorem of_any (c:Nat) (hc:c<128) (w:World):Calls Tryz.prog 134 #[.int .i32 (c:Int)] w fun e w'=>e= .returned (.int .i64 (ofZ c))∧w'=w:=by
 by_cases h1:c=32
 ·subst h1;have HE:=LH (show ofZ 32=1 from by kernel_rfl);generalize ofZ 32=z at*
  go_enter Tryz.func134,Tryz.ntmps134
  go_wp2_with fail
  go_ret
  exact⟨retI HE.out.symm,rfl⟩
 by_cases h2:c=9
 ·subst h2;have HE:=LH (show ofZ 9=1 from by kernel_rfl);generalize ofZ 9=z at*
  go_enter Tryz.func134,Tryz.ntmps134
  go_wp2_with fail
  go_ret
  exact⟨retI HE.out.symm,rfl⟩
 by_cases h3:c=10
 ·subst h3;have HE:=LH (show ofZ 10=1 from by kernel_rfl);generalize ofZ 10=z at*
  go_enter Tryz.func134,Tryz.ntmps134
  go_wp2_with fail
  go_ret
  exact⟨retI HE.out.symm,rfl⟩
 have e1:((c:Int)==32)=false:=beq_eq_false_iff_ne.2 (by omega)
 have e2:((c:Int)==9)=false:=beq_eq_false_iff_ne.2 (by omega)
 have e3:((c:Int)==10)=false:=beq_eq_false_iff_ne.2 (by omega)
 have HZ:=LH (show ofZ c=if(97≤c∧c≤122)∨c=95 then 2 else if 48≤c∧c≤57 then 3 else if c=34 then 4 else if c=64 then 5 else if symB c=true then 6 else 0 by unfold ofZ;rw[if_neg (by omega)])
 generalize ofZ c=z at*
 by_cases h4:c=95
 ·subst h4;have HE:=LH (HZ.out.trans (if_pos (.inr rfl)))
  clear HZ
  go_enter Tryz.func134,Tryz.ntmps134
  go_wp2_with fail
  go_ret
  exact⟨retI HE.out.symm,rfl⟩
 have e4:((c:Int)==95)=false:=beq_eq_false_iff_ne.2 (by omega)
 by_cases h5:97≤c∧c≤122
 ·have HE:=LH (HZ.out.trans (if_pos (.inl h5)))
  have b1:(97:Int)≤(c:Int):=by omega
  have b2:(c:Int)≤122:=by omega
  clear HZ h1 h2 h3 h4 h5
  go_enter Tryz.func134,Tryz.ntmps134
  go_wp2_with fail
  go_ret
  exact⟨retI HE.out.symm,rfl⟩
 have HZ2:=LH (HZ.out.trans (if_neg (by omega)))
 have b1:(c:Int)<97∨((97:Int)≤(c:Int)∧(122:Int)<(c:Int)):=by omega
 by_cases h6:48≤c∧c≤57
 ·have HE:=LH (HZ2.out.trans (if_pos h6))
  have b2:(48:Int)≤(c:Int):=by omega
  have b3:(c:Int)≤57:=by omega
  have b4:(c:Int)<97:=by omega
  clear HZ HZ2 h1 h2 h3 h4 h5 h6 b1
  go_enter Tryz.func134,Tryz.ntmps134
  go_wp2_with fail
  go_ret
  exact⟨retI HE.out.symm,rfl⟩
 have HZ3:=LH (HZ2.out.trans (if_neg h6))
 have b2:(c:Int)<48∨((48:Int)≤(c:Int)∧(57:Int)<(c:Int)):=by omega
 by_cases h7:c=34
 ·subst h7;have HE:=LH (HZ3.out.trans (if_pos rfl))
  clear HZ HZ2 HZ3 b1 b2
  go_enter Tryz.func134,Tryz.ntmps134
  go_wp2_with fail
  go_ret
  exact⟨retI HE.out.symm,rfl⟩
 have e5:((c:Int)==34)=false:=beq_eq_false_iff_ne.2 (by omega)
 have HZ4:=LH (HZ3.out.trans (if_neg h7))
 by_cases h8:c=64
 ·subst h8;have HE:=LH (HZ4.out.trans (if_pos rfl))
  clear HZ HZ2 HZ3 HZ4 b1 b2
  go_enter Tryz.func134,Tryz.ntmps134
  go_wp2_with fail
  go_ret
  exact⟨retI HE.out.symm,rfl⟩
 have e6:((c:Int)==64)=false:=beq_eq_false_iff_ne.2 (by omega)
 have HZ5:=LH (HZ4.out.trans (if_neg h8))
 have A:=LH (show Calls Tryz.prog 206 #[.string ⟨#[40,41,123,125,91,93,44,59,58,61,33,60,62,43,45,42,47,37]⟩, .int .i32 (c:Int)] w fun e w'=>e= .returned (.bool (symB c))∧w'=w from Tryz.strings_ContainsRune_ascii symS (c:Int) w (by omega) (by omega))
 have B1:=LH b1
 have B2:=LH b2
 clear HZ HZ2 HZ3 HZ4 h1 h2 h3 h4 h5 h6 h7 h8 b1 b2
 cases hs:symB c
 ·have HE:=LH (HZ5.out.trans (if_neg (by rw[hs];simp)))
  rw[hs]at A
  clear HZ5 hs
  rcases B1.out with b1|⟨b0,b1⟩<;>rcases B2.out with b2|⟨b3,b2⟩
  all_goals first|(exfalso;omega)|skip
  all_goals go_enter Tryz.func134,Tryz.ntmps134
  all_goals go_wp2_with fail
  all_goals refine A.out.mono ?_
  all_goals rintro e w1 ⟨rfl,rfl⟩
  all_goals go_wp2_with fail
  all_goals go_ret
  all_goals exact⟨retI HE.out.symm,rfl⟩
 ·have HE:=LH (HZ5.out.trans (if_pos hs))
  rw[hs]at A
  clear HZ5 hs
  rcases B1.out with b1|⟨b0,b1⟩<;>rcases B2.out with b2|⟨b3,b2⟩
  all_goals first|(exfalso;omega)|skip
  all_goals go_enter Tryz.func134,Tryz.ntmps134
  all_goals go_wp2_with fail
  all_goals refine A.out.mono ?_
  all_goals rintro e w1 ⟨rfl,rfl⟩
  all_goals go_wp2_with fail
  all_goals go_ret
  all_goals exact⟨retI HE.out.symm,rfl⟩
end
end Go.Proofs.YtmofknmeljdodaaGreatDoor
