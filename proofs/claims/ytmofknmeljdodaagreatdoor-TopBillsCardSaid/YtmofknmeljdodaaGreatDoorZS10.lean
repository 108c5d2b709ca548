/- Chapter 9: what package static computes, plain. No condition but those that the statements name. -/
import Derived.Test.YtmofknmeljdodaaGreatDoorZS01
import Derived.Test.YtmofknmeljdodaaGreatDoorZS09
set_option maxHeartbeats 100000000
set_option maxRecDepth 100000
set_option linter.unusedVariables false
set_option linter.unusedSimpArgs false
open List renaming getElem_toArray→gTA,getElem_cons_zero→gCZ,getElem_cons_succ→gCS,setIfInBounds_toArray→sTA,set_cons_zero→sCZ,set_cons_succ→sCS
namespace Go.Proofs.YtmofknmeljdodaaGreatDoor
section
open Go.RowKit
theorem idxFrom_map {α β:Type} {f:α→β} {p:β→Bool}:∀{l:List α} {k:Int},idxFromD p (l.map f) k=idxFromD (fun x=>p (f x)) l k:=by
 intro l
 induction l with
 |nil=>intro k;rfl
 |cons x r ih=>
  intro k
  rw[List.map_cons,idxFromD,idxFromD,ih]
theorem idxFrom_get {α:Type} {p:α→Bool}:∀{l:List α} {k:Int},idxFromD p l k= -1∨∃m:Nat,idxFromD p l k=k+(m:Int)∧∃h:m<l.length,p l[m]=true:=by
 intro l
 induction l with
 |nil=>intro k;exact .inl rfl
 |cons x r ih=>
  intro k
  rw[idxFromD]
  split
  ·rename_i h;exact .inr ⟨0,by simp,by simp,h⟩
  ·rcases ih (k:=k+1)with h|⟨m,h1,h2,h3⟩
   ·exact .inl h
   ·exact .inr ⟨m+1,by rw[h1];push_cast;omega,by simpa using h2,by simpa using h3⟩
def dupFrom (seen:List ByteArray):List ByteArray→Bool
 |[]=>false
 |x::r=>seen.any (fun y=>x==y)||dupFrom (seen++[x]) r
def mainS:ByteArray:=⟨#[109,97,105,110]⟩
def fBad (p:PPr) (i:Int) (f:PFn):Bool:=((lkZ biL f.name).2||decide (idxFromD (fun g:PFn=>g.name==f.name) p.funcs 0<i))||dupFrom [] f.params
def funcsGo (p:PPr):List PFn→Int→Option Int
 |[],_=>none
 |f::r,i=>if fBad p i f=true then some f.body else funcsGo p r (i+1)
def mainZ (p:PPr):Int×Int:=
 if idxFromD (fun g:PFn=>g.name==mainS) p.funcs 0<0 then(-1,5)else match p.funcs[(idxFromD (fun g:PFn=>g.name==mainS) p.funcs 0).toNat]? with
  |none=>(0,0)
  |some f=>if f.params.length=1 then(0,0)else(f.body,7)
def fEndZ (p:PPr):Option Int→Int×Int
 |some b=>(b,6)
 |none=>mainZ p
def funcsZ (p:PPr):Int×Int:=fEndZ p (funcsGo p p.funcs 0)
structure ScS where
 vis:List (ByteArray×Int)
 next:Int
 slots:List Int
 errs:List Int
def callZ (p:PPr) (n:PNd):Int:=
 if 0≤idxFromD (fun g:PFn=>g.name==n.text) p.funcs 0 then match p.funcs[(idxFromD (fun g:PFn=>g.name==n.text) p.funcs 0).toNat]? with
  |none=>0
  |some g=>if(g.params.length:Int)=(n.kids.length:Int)then 0 else 7
 else if(lkZ biL n.text).2=true then(if(lkZ biL n.text).1=(n.kids.length:Int)then 0 else 7)else 4
def letZ (S:ScS) (i:Nat) (s:ByteArray):ScS:=
 if(lookL Prod.fst S.vis s).isSome=true then⟨S.vis,wrap64 (S.next+1),S.slots.set i S.next,S.errs.set i 6⟩
 else if S.next=32 then⟨S.vis,wrap64 (S.next+1),S.slots.set i S.next,S.errs.set i 3⟩
 else⟨putL Prod.fst S.vis (s,S.next),wrap64 (S.next+1),S.slots.set i S.next,S.errs⟩
def endZ (p:PPr) (S:ScS) (i:Nat) (n:PNd):ScS:=
 if n.kind=5∨n.kind=14 then match lookL Prod.fst S.vis n.text with
  |none=>⟨S.vis,S.next,S.slots,S.errs.set i 4⟩
  |some x=>⟨S.vis,S.next,S.slots.set i x.2,S.errs⟩
 else if n.kind=13 then letZ S i n.text
 else if n.kind=11 then⟨S.vis,S.next,S.slots,S.errs.set i (callZ p n)⟩
 else if n.kind=12 then(if(lkZ hoL n.text).2=true then(if(lkZ hoL n.text).1=(n.kids.length:Int)then S else⟨S.vis,S.next,S.slots,S.errs.set i 7⟩)else⟨S.vis,S.next,S.slots,S.errs.set i 4⟩)
 else S
def declZ (p:PPr) (S:ScS) (d:List ByteArray) (k:Nat):List ByteArray:=match p.nodes[k]? with
 |none=>d
 |some x=>if x.kind=13∧S.errs[k]? =some 0 then d++[x.text]else d
def dropV (S:ScS) (d:List ByteArray):ScS:=⟨d.foldl (delL Prod.fst) S.vis,S.next,S.slots,S.errs⟩
def stmZ (p:PPr) (W:ScS→Nat→ScS) (q:ScS×List ByteArray) (k:Int):ScS×List ByteArray:=(W q.1 k.toNat,declZ p (W q.1 k.toNat) q.2 k.toNat)
def walkZ (p:PPr):Nat→ScS→Nat→ScS
 |0,S,_=>S
 |f+1,S,i=>match p.nodes[i]? with
  |none=>S
  |some x=>if x.kind=19 then dropV (x.kids.foldl (stmZ p (walkZ p f)) (S,[])).1 (x.kids.foldl (stmZ p (walkZ p f)) (S,[])).2
   else endZ p (x.kids.foldl (fun q k=>walkZ p f q k.toNat) S) i x
def parV (l:List ByteArray) (k:Int) (v:List (ByteArray×Int)):List (ByteArray×Int):=match l with
 |[]=>v
 |x::r=>parV r (k+1) (putL Prod.fst v (x,k))
def runsZ (p:PPr):List PFn→List Int×List Int×List Int→List Int×List Int×List Int
 |[],q=>q
 |f::r,(s,e,l)=>runsZ p r ((walkZ p p.nodes.length ⟨parV f.params 0 [],(f.params.length:Int),s,e⟩ f.body.toNat).slots,(walkZ p p.nodes.length ⟨parV f.params 0 [],(f.params.length:Int),s,e⟩ f.body.toNat).errs,l++[(walkZ p p.nodes.length ⟨parV f.params 0 [],(f.params.length:Int),s,e⟩ f.body.toNat).next])
def errAt:List Int→Int→Option (Int×Int)
 |[],_=>none
 |e::r,k=>if e=0 then errAt r (k+1)else some (k,e)
def allZ (p:PPr):List Int×List Int×List Int:=runsZ p p.funcs (List.replicate p.nodes.length (-1),List.replicate p.nodes.length 0,[])
def studyEnd (Z:List Int×List Int×List Int):List Int×List Int×Int×Int:=match errAt Z.2.1 0 with
 |some (k,e)=>([],[],k,e)
 |none=>(Z.1,Z.2.2,0,0)
def studyZ (p:PPr):List Int×List Int×Int×Int:=
 if scheckZ p=0 then
  if(funcsZ p).2=0 then studyEnd (allZ p)
  else([],[],(funcsZ p).1,(funcsZ p).2)
 else([],[], -1,scheckZ p)
end
section
open Go.RowKit
theorem find_p (x:Pr) (s:ByteArray):idxFromD (fun g:PFn=>g.name==s) x.p.funcs 0=idxFromD (fun f:Fn'=>f.name==s) x.funcs 0:=idxFrom_map
theorem find_pos {x:Pr} {s:ByteArray} (h:0≤idxFromD (fun f:Fn'=>f.name==s) x.funcs 0):∃m:Nat,idxFromD (fun f:Fn'=>f.name==s) x.funcs 0=(m:Int)∧m<x.funcs.length:=by
 rcases idxFrom_get (p:=fun f:Fn'=>f.name==s) (l:=x.funcs) (k:=0)with e|⟨m,e,h1, -⟩
 ·omega
 ·exact⟨m,by omega,h1⟩
theorem funcs_p_at {x:Pr} {m:Nat} (h:m<x.funcs.length):x.p.funcs[m]? =some (x.funcs[m]).p:=by
 show(x.funcs.map Fn'.p)[m]? =_
 rw[List.getElem?_map,List.getElem?_eq_getElem h]
 rfl
theorem elemStrs:Tryz.prog.underlying 92=some (.slice (Tryz.prog.elem 92)):=by kernel_rfl
theorem sizeStr (w:World):(sizeOf (Tryz.prog.elem 92)).run Tryz.prog w= .ok 1 w:=by kernel_rfl
theorem ret2P {a b:Int} {R:Int×Int} (h:R=(a,b)):Ending.returned (.tuple #[.int .i64 a, .int .i64 b])= .returned (.tuple #[.int .i64 R.1, .int .i64 R.2]):=by
 rw[h]
theorem dup_step {l:List ByteArray} {k:Nat} (h:k<l.length):dupFrom (l.take k) (l.drop k)=((l.take k).any (fun y=>l[k]==y)||dupFrom (l.take (k+1)) (l.drop (k+1))):=by
 conv=>lhs;rw[List.drop_eq_getElem_cons h]
 rw[dupFrom,List.take_append_getElem]
theorem functions_any (x:Pr) (w:World) (h:PrIn w x):Calls Tryz.prog 156 #[.agg (prC x).toArray] w fun e w'=>e= .returned (.tuple #[.int .i64 (funcsZ x.p).1, .int .i64 (funcsZ x.p).2])∧Chg [] w w':=by
 obtain⟨R,hR⟩:∃R,R=funcsZ x.p:=⟨_,rfl⟩
 rw[←hR]
 have HP:=LH h
 have HF:=LH h.2.1
 have HPA:=LH (fun w' (hc:Chg [] w w') (f:Fn') (hf:f∈x.funcs)=>show InIs skC 1 w' f.pa f.pc f.params from(h.2.2 f hf).kept hc)
 have hfl:(x.funcs.length:Int)≤9223372036854775807:=by have h1:=h.2.1.2.1;have h2:=h.2.1.2.2.1;unfold maxLen at h2;omega
 have hR2:R=fEndZ x.p (funcsGo x.p (x.funcs.map Fn'.p) 0):=hR
 have HR:=LH hR2
 obtain⟨W1,hW1⟩:∃W1,W1=w.alloc (prOd x):=⟨_,rfl⟩
 have C1:=LH (show Chg [] w W1 by rw[hW1];exact(Chg.refl _ _).alloc _)
 have B1:=LH (show W1.heap[w.heap.size]? =some (prOd x) by rw[hW1];exact heap_alloc_new _ _)
 unfold prOd at hW1 B1
 have k1:=blk_cell B1.out
 have FA:=LH (fun w' (hc:Chg [] w w') (s:ByteArray)=>find_any x s w' (h.kept hc))
 simp only[prC]at FA⊢
 clear hR hR2 h
 go_enter Tryz.func156,Tryz.ntmps156
 go_upto_region 1 with fail
 rw[←hW1]
 clear hW1
 go_wp2_with fail
 clear k1
 go_loopw [14] (fun v wr=>∃(j:Nat),v= .int .i64 j∧j≤x.funcs.length∧Hid (R=fEndZ x.p (funcsGo x.p ((x.funcs.drop j).map Fn'.p) (j:Int)))∧Hid (Chg [] w wr)∧Hid (wr.heap[w.heap.size]? =some (.cells #[.slice x.na x.nodes.length x.nc, .slice x.fa x.funcs.length x.fc] 27 (0,0)))) (fun v _=>x.funcs.length-(intOf v).toNat)
 case atStart=>exact⟨0,rfl,Nat.zero_le _,LH HR.out,C1,B1⟩
 case round=>
  obtain⟨j,rfl,hj,HS,D,B⟩:=hrel
  have hj0:(0:Int)≤(j:Int):=by omega
  by_cases hjl:j<x.funcs.length
  ·have hjl':(j:Int)<(x.funcs.length:Int):=by omega
   obtain⟨b2,o2,e2, -, -,hc2⟩:=HF.out.1.elem D.out j hjl
   have u0:=hc2 0 (by omega)
   have u1:=hc2 1 (by omega)
   have u2:=hc2 2 (by omega)
   simp only[fnC,List.getElem?_cons_zero,List.getElem?_cons_succ,Nat.add_zero]at u0 u1 u2
   have HS2:=HS.out
   rw[List.drop_eq_getElem_cons hjl,List.map_cons,funcsGo]at HS2
   have HPF:=LH (fun w' (hc:Chg [] w w')=>HPA.out w' hc _ (List.getElem_mem hjl))
   generalize hfe:x.funcs[j]=f at*
   have hfb:fBad x.p (j:Int) f.p=(((lkZ biL f.name).2||decide (idxFromD (fun g:Fn'=>g.name==f.name) x.funcs 0<(j:Int)))||dupFrom [] f.params):=by
    unfold fBad
    rw[show f.p.name=f.name from rfl,show f.p.params=f.params from rfl,find_p]
   rw[hfb]at HS2
   have hpl:(f.params.length:Int)≤9223372036854775807:=by have h0:=HPF.out _ D.out;have h1:=h0.2.1;have h2:=h0.2.2.1;unfold maxLen at h2;omega
   have qj:IntKind.i64.wrap ((j:Int)+1)=(j:Int)+1:=IntWalk.i64_in _ (by omega)
   obtain⟨W2,hW2⟩:∃W2,W2=wr.alloc (.cells #[.string f.name, .slice f.pa f.params.length f.pc, .int .i64 f.body] 130):=⟨_,rfl⟩
   have C2:=LH (show Chg [] wr W2 by rw[hW2];exact(Chg.refl _ _).alloc _)
   have D2:=LH (D.out.thenSame C2.out)
   have G2:=LH (show W2.heap[wr.heap.size]? =some (.cells #[.string f.name, .slice f.pa f.params.length f.pc, .int .i64 f.body] 130 (0,0))from by rw[hW2];exact heap_alloc_new _ _)
   have g2:=blk_cell G2.out
   have B2:=LH (C2.out.at (by simp) B.out)
   have AB:=LH (fun w'=>builtin_any f.name w')
   have AF:=LH (fun w' (hc:Chg [] w w')=>by have:=FA.out w' hc f.name;rw[e2]at this;exact this)
   have HS3:=LH HS2
   generalize lkZ biL f.name=bq at*
   generalize idxFromD (fun g:Fn'=>g.name==f.name) x.funcs 0=v at*
   clear hc2 HS2 hfe hfb
   rw[e2]
   go_upto_region 4 with fail
   rw[←hW2]
   clear hW2 u0 u1 u2
   cases hbq:bq.2
   ·have AB2:=LH (fun w'=>by have:=AB.out w';rw[hbq]at this;exact this)
    have HS4:=HS3.out
    rw[hbq,Bool.false_or]at HS4
    clear HS3 hbq AB
    by_cases hv:v<(j:Int)
    ·rw[decide_eq_true hv,Bool.true_or,if_pos rfl]at HS4
     have HE:=LH (show R=(f.body,6)from HS4)
     clear HS4
     go_wp2_with (first|(go_at_call 226;(with_reducible refine Calls.mono (AB2.out _) ?_);rintro e w3 ⟨rfl,hc⟩;have D3:=LH (D2.out.thenSame hc);have B3:=LH (hc.at (by simp) B2.out);have G3:=LH (hc.at (by simp) G2.out);have k3:=blk_cell B3.out;have g3:=blk_cell G3.out;clear hc g2)|(go_at_call 227;(with_reducible refine Calls.mono (AF.out _ D3.out) ?_);rintro e w4 ⟨rfl,hc⟩;have D4:=LH (D3.out.thenSame hc);have G4:=LH (hc.at (by simp) G3.out);have g4:=blk_cell G4.out;clear k3 g3 hc))
     go_ret2
     exact⟨ret2P HE.out,D4.out⟩
    ·rw[decide_eq_false hv,Bool.false_or]at HS4
     have HS5:=LH HS4
     clear HS4
     go_wp2_with (first|(go_at_call 226;(with_reducible refine Calls.mono (AB2.out _) ?_);rintro e w3 ⟨rfl,hc⟩;have D3:=LH (D2.out.thenSame hc);have B3:=LH (hc.at (by simp) B2.out);have G3:=LH (hc.at (by simp) G2.out);have k3:=blk_cell B3.out;have g3:=blk_cell G3.out;clear hc g2)|(go_at_call 227;(with_reducible refine Calls.mono (AF.out _ D3.out) ?_);rintro e w4 ⟨rfl,hc⟩;have D4:=LH (D3.out.thenSame hc);have B4:=LH (hc.at (by simp) B3.out);have G4:=LH (hc.at (by simp) G3.out);have g4:=blk_cell G4.out;clear k3 g3 hc))
     clear g4
     obtain⟨dq,hdq⟩:∃dq,dq=dupFrom [] f.params:=⟨_,rfl⟩
     have HDQ:=LH hdq
     have HS6:=LH (by have:=HS5.out;rw[←hdq]at this;exact this)
     clear HS5 hdq
     go_loopw [39] (fun v wi=>∃k:Nat,v= .int .i64 k∧k≤f.params.length∧Hid (dq=dupFrom (f.params.take k) (f.params.drop k))∧Hid (Chg [] w wi)∧Hid (wi.heap[w.heap.size]? =some (.cells #[.slice x.na x.nodes.length x.nc, .slice x.fa x.funcs.length x.fc] 27 (0,0)))∧Hid (wi.heap[wr.heap.size]? =some (.cells #[.string f.name, .slice f.pa f.params.length f.pc, .int .i64 f.body] 130 (0,0)))) (fun v _=>f.params.length-(intOf v).toNat)
     case atStart=>exact⟨0,rfl,Nat.zero_le _,LH HDQ.out,D4,B4,G4⟩
     case round=>
      obtain⟨k,rfl,hkl,HK,D5,B5,G5⟩:=hrel
      have hk0:(0:Int)≤(k:Int):=by omega
      by_cases hk:k<f.params.length
      ·have hk':(k:Int)<(f.params.length:Int):=by omega
       obtain⟨b3,o3,e3, -, -,hc3⟩:=(HPF.out _ D5.out).1.elem (Chg.refl [] _) k hk
       have c5:=hc3 0 (by omega)
       simp only[skC,List.getElem?_cons_zero,Nat.add_zero,Nat.mul_one]at c5
       have AC:=LH (fun w' (hc:Chg [] w w')=>by have:=scont_any (f.params[k]) ((HPF.out w' hc).take (Nat.le_of_lt hk));rw[List.length_take,Nat.min_eq_left (Nat.le_of_lt hk),e3]at this;exact this)
       have HK2:=HK.out
       rw[dup_step hk]at HK2
       have HK3:=LH HK2
       have hkc:k≤f.pc:=by have h0:=HPF.out _ D5.out;have h1:=h0.2.1;omega
       have qk:IntKind.i64.wrap ((k:Int)+1)=(k:Int)+1:=IntWalk.i64_in _ (by omega)
       have g5:=blk_cell (by have:=G5.out;rw[e3]at this;exact this)
       generalize f.params[k]=s at*
       generalize (f.params.take k).any (fun y=>s==y)=q at*
       clear hc3 HK2
       rw[e3]
       cases q
       ·have HK4:=LH (by have:=HK3.out;rw[Bool.false_or]at this;exact this)
        clear HK3
        go_wp2_with (first|(refine wpl_slice_h rfl _ _ 92 rfl elemStrs (sizeStr _) b3 o3 _ _ k rfl rfl hkc ?_)|(go_at_call 228;(with_reducible refine Calls.mono (AC.out _ D5.out) ?_);rintro e w6 ⟨rfl,hc⟩;have D6:=LH (D5.out.thenSame hc);have B6:=LH (hc.at (by simp) B5.out);have G6:=LH (hc.at (by simp) G5.out);clear g5 hc))
        exact⟨⟨k+1,rfl,by omega,HK4,D6,(by first|exact B6|(rw[e2]at B6;exact B6)),(by first|exact G6|(rw[e3]at G6;exact G6))⟩,by simp[intOf];omega⟩
       ·have HK4:=HK3.out
        rw[Bool.true_or]at HK4
        have HS7:=HS6.out
        rw[HK4,if_pos rfl]at HS7
        have HE:=LH (show R=(f.body,6)from HS7)
        clear HK3 HK4 HS7
        go_wp2_with (first|(refine wpl_slice_h rfl _ _ 92 rfl elemStrs (sizeStr _) b3 o3 _ _ k rfl rfl hkc ?_)|(go_at_call 228;(with_reducible refine Calls.mono (AC.out _ D5.out) ?_);rintro e w6 ⟨rfl,hc⟩;have D6:=LH (D5.out.thenSame hc);have G6:=LH (hc.at (by simp) G5.out);have g6:=blk_cell (by have:=G6.out;rw[e3]at this;exact this);clear g5 hc))
        go_ret2
        exact⟨ret2P HE.out,D6.out⟩
      ·have hke:k=f.params.length:=by omega
       have HK2:=HK.out
       rw[hke,List.drop_length,dupFrom]at HK2
       have HS7:=HS6.out
       rw[HK2,if_neg (by simp)]at HS7
       have HE:=LH HS7
       have hk': ¬(k:Int)<(f.params.length:Int):=by omega
       clear HK2 HS7 hke
       go_wp2_with fail
       exact⟨⟨j+1,rfl,by omega,HE,D5,(by rw[e2]at B5;exact B5)⟩,by simp[intOf];omega⟩
   ·have AB2:=LH (fun w'=>by have:=AB.out w';rw[hbq]at this;exact this)
    have HS4:=HS3.out
    rw[hbq,Bool.true_or,Bool.true_or,if_pos rfl]at HS4
    have HE:=LH (show R=(f.body,6)from HS4)
    clear HS3 HS4 hbq AB
    go_wp2_with (first|(go_at_call 226;(with_reducible refine Calls.mono (AB2.out _) ?_);rintro e w3 ⟨rfl,hc⟩;have D3:=LH (D2.out.thenSame hc);have G3:=LH (hc.at (by simp) G2.out);have g3:=blk_cell G3.out;clear hc g2))
    go_ret2
    exact⟨ret2P HE.out,D3.out⟩
  ·have hje:j=x.funcs.length:=by omega
   have HS2:=HS.out
   rw[hje,List.drop_length,List.map_nil,funcsGo]at HS2
   have HS3:=LH (show R=mainZ x.p from HS2)
   have hjl': ¬(j:Int)<(x.funcs.length:Int):=by omega
   have k1:=blk_cell B.out
   have AF:=LH (FA.out _ D.out ⟨#[109,97,105,110]⟩)
   clear HS2 hje
   rcases Int.lt_or_le (idxFromD (fun f:Fn'=>f.name==⟨#[109,97,105,110]⟩) x.funcs 0) 0 with hm|hm
   ·have HE:=LH (show R=(-1,5)from by rw[HS3.out];unfold mainZ;rw[if_pos (by rw[find_p];exact hm)])
    generalize idxFromD (fun f:Fn'=>f.name==⟨#[109,97,105,110]⟩) x.funcs 0=m at*
    go_wp2_with (go_at_call 227;(with_reducible refine Calls.mono AF.out ?_);rintro e w4 ⟨rfl,hc⟩;have D4:=LH (D.out.thenSame hc);clear k1 hc)
    go_ret2
    exact⟨ret2P HE.out,D4.out⟩
   ·obtain⟨m,hm1,hm2⟩:=find_pos (s:=⟨#[109,97,105,110]⟩) hm
    have hmz:mainZ x.p=if(x.funcs[m]).params.length=1 then(0,0)else((x.funcs[m]).body,7):=by
     unfold mainZ
     rw[find_p,show mainS=⟨#[109,97,105,110]⟩from rfl,hm1,if_neg (by omega),Int.toNat_natCast,funcs_p_at hm2]
     rfl
    rw[hm1]at AF
    have HS4:=HS3.out
    rw[hmz]at HS4
    obtain⟨b2,o2,e2, -,hb2,hc2⟩:=HF.out.1.elem D.out m hm2
    have hm':(m:Int)<(x.funcs.length:Int):=by omega
    have hm0:(0:Int)≤(m:Int):=by omega
    have AF2:=LH (by have:=AF.out;rw[e2]at this;exact this)
    have HC:=LH (fun w' (hc:Chg [] wr w') i (hi:i<3)=>(World.cell?_of_block (w:=wr) (hc.block b2 hb2 (by simp))).trans (hc2 i hi))
    generalize hfe:x.funcs[m]=f at*
    rw[e2]at k1
    rw[e2]
    clear AF HS3 hmz hm hm1 hfe hc2 hb2
    by_cases hp:f.params.length=1
    ·rw[if_pos hp]at HS4
     have HE:=LH HS4
     have hpi:((f.params.length:Int)!=1)=false:=by rw[hp];rfl
     clear HS4 hp
     go_wp2_with (go_at_call 227;(with_reducible refine Calls.mono AF2.out ?_);rintro e w4 ⟨rfl,hc⟩;have D4:=LH (D.out.thenSame hc);have B4:=LH (hc.at (by simp) B.out);have k4:=blk_cell (by have:=B4.out;rw[e2]at this;exact this);have u1:=HC.out _ hc 1 (by omega);have u2:=HC.out _ hc 2 (by omega);simp only[fnC,List.getElem?_cons_zero,List.getElem?_cons_succ,Nat.add_zero]at u1 u2;clear k1 hc)
     go_ret2
     exact⟨ret2P HE.out,D4.out⟩
    ·rw[if_neg hp]at HS4
     have HE:=LH HS4
     have hpi:((f.params.length:Int)!=1)=true:=by simp;omega
     clear HS4 hp
     go_wp2_with (go_at_call 227;(with_reducible refine Calls.mono AF2.out ?_);rintro e w4 ⟨rfl,hc⟩;have D4:=LH (D.out.thenSame hc);have B4:=LH (hc.at (by simp) B.out);have k4:=blk_cell (by have:=B4.out;rw[e2]at this;exact this);have u1:=HC.out _ hc 1 (by omega);have u2:=HC.out _ hc 2 (by omega);simp only[fnC,List.getElem?_cons_zero,List.getElem?_cons_succ,Nat.add_zero]at u1 u2;clear k1 hc)
     go_ret2
     exact⟨ret2P HE.out,D4.out⟩
end
section
open Go.RowKit
def scO (x:Pr) (mb sb eb:Nat) (nx:Int):Obj:= .cells #[.slice x.na x.nodes.length x.nc, .slice x.fa x.funcs.length x.fc, .map (some mb), .int .i64 nx, .slice (some ⟨sb,0,none⟩) x.nodes.length x.nodes.length, .slice (some ⟨eb,0,none⟩) x.nodes.length x.nodes.length] 307
theorem callZ_neg {x:Pr} {n:PNd} (h:idxFromD (fun f:Fn'=>f.name==n.text) x.funcs 0<0):callZ x.p n=if(lkZ biL n.text).2=true then(if(lkZ biL n.text).1=(n.kids.length:Int)then 0 else 7)else 4:=by
 unfold callZ
 rw[find_p,if_neg (by omega)]
theorem callZ_pos {x:Pr} {n:PNd} {m:Nat} (h:idxFromD (fun f:Fn'=>f.name==n.text) x.funcs 0=(m:Int)) (hm:m<x.funcs.length):callZ x.p n=if((x.funcs[m]).params.length:Int)=(n.kids.length:Int)then 0 else 7:=by
 unfold callZ
 rw[find_p,h,if_pos (by omega),Int.toNat_natCast,funcs_p_at hm]
 rfl
theorem scall_any (x:Pr) (n:Nd) (b mb sb eb:Nat) (nx:Int) (w:World) (h:PrIn w x) (hb:w.heap[b]? =some (scO x mb sb eb nx)):Calls Tryz.prog 231 #[.pointer (some ⟨b,0,none⟩), .agg (ndC n).toArray] w fun e w'=>e= .returned (.int .i64 (callZ x.p n.p))∧Chg [] w w':=by
 obtain⟨R,hR⟩:∃R,R=callZ x.p n.p:=⟨_,rfl⟩
 rw[←hR]
 obtain⟨W1,hW1⟩:∃W1,W1=w.alloc (ndO n):=⟨_,rfl⟩
 have C1:=LH (show Chg [] w W1 by rw[hW1];exact(Chg.refl _ _).alloc _)
 have B1:=LH (show W1.heap[w.heap.size]? =some (ndO n) by rw[hW1];exact heap_alloc_new _ _)
 have S1:=LH (C1.out.at (by simp) hb)
 unfold ndO at hW1 B1
 unfold scO at S1
 have HF:=LH h.2.1
 have HPF:=LH (fun w' (hc:Chg [] w w')=>(h.kept hc).2.1.1)
 have AB:=LH (fun w'=>builtin_any n.text w')
 have FA:=LH (fun w' (hc:Chg [] w w')=>find_any x n.text w' (h.kept hc))
 have k1:=blk_cell B1.out
 have s1:=blk_cell S1.out
 have N1:=callZ_neg (x:=x) (n:=n.p)
 have N2:=fun m=>callZ_pos (x:=x) (n:=n.p) (m:=m)
 rw[show n.p.text=n.text from rfl,show n.p.kids=n.kids from rfl,←hR]at N1
 simp only[show n.p.text=n.text from rfl,show n.p.kids=n.kids from rfl,←hR]at N2
 have hpos:=find_pos (x:=x) (s:=n.text)
 simp only[prC]at FA
 simp only[ndC]
 clear hR h hb
 generalize lkZ biL n.text=bq at*
 generalize idxFromD (fun f:Fn'=>f.name==n.text) x.funcs 0=v at*
 have HN1:=LH N1
 have HN2:=LH N2
 have HPOS:=LH hpos
 clear N1 N2 hpos
 go_enter Tryz.func231,Tryz.ntmps231
 go_upto_region 1 with fail
 rw[←hW1]
 clear hW1
 go_upto_region 2 with (go_at_call 226;(with_reducible refine Calls.mono (AB.out _) ?_);rintro e w3 ⟨rfl,hc⟩;have C3:=LH (C1.out.thenSame hc);have B3:=LH (hc.at (by simp) B1.out);have S3:=LH (hc.at (by simp) S1.out);have k3:=blk_cell B3.out;have s3:=blk_cell S3.out;clear k1 s1 hc)
 have q0:=fun d os=>((below_regrown w3 d os).cell (p:=⟨b,0,none⟩) (lt_of_heap S3.out)).trans (s3 0)
 have q1:=fun d os=>((below_regrown w3 d os).cell (p:=⟨b,1,none⟩) (lt_of_heap S3.out)).trans (s3 1)
 have q2:=fun d os=>((below_regrown w3 d os).cell (p:=⟨w.heap.size,1,none⟩) (lt_of_heap B3.out)).trans (k3 1)
 have HB8:=LH (fun d os=>calls_regrown (FA.out _ (C3.out.thenSame (chg_regrown w3 d os))))
 refine wp_region_quiet_below (by kernel_rfl) (by kernel_rfl) ?_
 repeat (any_goals (first|go_big_quiet_step (exact HB8.out _ _)|quiet_step (exact HB8.out _ _)))
 refine wpQuiet_nil ?_
 intro _ hw'
 obtain⟨⟨dq,osq⟩,hw''⟩:=hw'
 subst hw''
 have C4:=LH (C3.out.thenSame (chg_regrown w3 dq osq))
 have B4:=LH ((chg_regrown w3 dq osq).at (by simp) B3.out)
 have S4:=LH ((chg_regrown w3 dq osq).at (by simp) S3.out)
 generalize Go.Sort.grow (redrawn w3 dq) osq=W4 at*
 clear q0 q1 q2 k3 s3 HB8
 have k4:=blk_cell B4.out
 rcases Int.lt_or_le v 0 with hv|hv
 ·have HN3:=LH (HN1.out hv)
  obtain⟨bn,bb⟩:=bq
  cases bb
  ·have HE:=LH (show R=4 from HN3.out)
   clear HN3
   go_wp2_with fail
   go_ret
   exact⟨retI HE.out.symm,C4.out⟩
  ·by_cases hn:bn=(n.kids.length:Int)
   ·have HE:=LH (show R=0 by rw[HN3.out];exact if_pos hn)
    have hne:(bn !=(n.kids.length:Int))=false:=by rw[hn];simp
    clear HN3 hn
    go_wp2_with fail
    go_ret
    exact⟨retI HE.out.symm,C4.out⟩
   ·have HE:=LH (show R=7 by rw[HN3.out];exact if_neg hn)
    have hne:(bn !=(n.kids.length:Int))=true:=by simpa using hn
    clear HN3
    go_wp2_with fail
    go_ret
    exact⟨retI HE.out.symm,C4.out⟩
 ·obtain⟨m,rfl,hm⟩:=HPOS.out hv
  have HN3:=HN2.out m rfl hm
  obtain⟨b2,o2,e2, -, -,hc2⟩:=(HPF.out _ C4.out).elem (Chg.refl [] _) m hm
  have s4:=blk_cell (by have:=S4.out;rw[e2]at this;exact this)
  have u1:=hc2 1 (by omega)
  simp only[fnC,List.getElem?_cons_zero,List.getElem?_cons_succ,Nat.add_zero]at u1
  have hm':(m:Int)<(x.funcs.length:Int):=by omega
  have hm0:(0:Int)≤(m:Int):=by omega
  generalize x.funcs[m]=f at*
  have HN4:=LH HN3
  clear HN1 HN2 HN3 hc2 hv
  by_cases hn:(f.params.length:Int)=(n.kids.length:Int)
  ·have HE:=LH (show R=0 by rw[HN4.out];exact if_pos hn)
   have hne:((f.params.length:Int)!=(n.kids.length:Int))=false:=by rw[hn];simp
   clear HN4 hn
   go_wp2_with fail
   go_ret
   exact⟨retI HE.out.symm,C4.out⟩
  ·have HE:=LH (show R=7 by rw[HN4.out];exact if_neg hn)
   have hne:((f.params.length:Int)!=(n.kids.length:Int))=true:=by simpa using hn
   clear HN4
   go_wp2_with fail
   go_ret
   exact⟨retI HE.out.symm,C4.out⟩
end
section
open Go.RowKit
structure ScAt (x:Pr) (B b mb sb eb:Nat) (w:World) (S:ScS):Prop where
 box:w.heap[b]? =some (scO x mb sb eb S.next)
 map:MapIs Prod.fst arVd w mb S.vis
 sl:RowOf icI 1 w B 3 (.slice (some ⟨sb,0,none⟩) x.nodes.length x.nodes.length) S.slots
 er:RowOf icI 1 w B 28 (.slice (some ⟨eb,0,none⟩) x.nodes.length x.nodes.length) S.errs
structure Sep (B b mb sb eb:Nat):Prop where
 l1:B≤b
 l2:B≤mb
 l3:B≤sb
 l4:B≤eb
 n1:mb≠b
 n2:sb≠b
 n3:eb≠b
 n4:sb≠mb
 n5:eb≠mb
 n6:eb≠sb
theorem icI_len1 (x:Int):(icI x).length=1:=rfl
section
variable {x:Pr} {B b mb sb eb:Nat} {w w':World} {S:ScS}
theorem ScAt.kept {T:List Nat} (h:ScAt x B b mb sb eb w S) (hc:Chg T w w') (h1:b∉T) (h2:mb∉T) (h3:sb∉T) (h4:eb∉T):ScAt x B b mb sb eb w' S:=
 ⟨hc.at h1 h.box,h.map.kept hc h2,h.sl.kept hc (by intro g hg;simp[Value.ownBlock]at hg;subst hg;exact h3),h.er.kept hc (by intro g hg;simp[Value.ownBlock]at hg;subst hg;exact h4)⟩
theorem ScAt.keptN (h:ScAt x B b mb sb eb w S) (hc:Chg [] w w'):ScAt x B b mb sb eb w' S:=h.kept hc (by simp) (by simp) (by simp) (by simp)
theorem ScAt.slen (h:ScAt x B b mb sb eb w S):S.slots.length=x.nodes.length:=(RowOf.atS h.sl icI_len1).1.symm
theorem ScAt.elen (h:ScAt x B b mb sb eb w S):S.errs.length=x.nodes.length:=(RowOf.atS h.er icI_len1).1.symm
theorem ScAt.setNext (h:ScAt x B b mb sb eb w S) (hs:Sep B b mb sb eb) (v:Int):ScAt x B b mb sb eb (w.setCell ⟨b,3,none⟩ (.int .i64 v)) ⟨S.vis,v,S.slots,S.errs⟩:=by
 have hc:Chg [b] w (w.setCell ⟨b,3,none⟩ (.int .i64 v)):=(Chg.refl _ _).setCell _ _ (by simp)
 refine⟨?_,h.map.kept hc (by simp[hs.n1]),h.sl.kept hc (by intro g hg;simp[Value.ownBlock]at hg;subst hg;simp[hs.n2]),h.er.kept hc (by intro g hg;simp[Value.ownBlock]at hg;subst hg;simp[hs.n3])⟩
 have:=blk_set h.box 3 (.int .i64 v)
 rw[this]
 rfl
theorem ScAt.setSlot (h:ScAt x B b mb sb eb w S) (hs:Sep B b mb sb eb) (i:Nat) (hi:i<x.nodes.length) (v:Int):ScAt x B b mb sb eb (w.setCell ⟨sb,i,none⟩ (.int .i64 v)) ⟨S.vis,S.next,S.slots.set i v,S.errs⟩:=by
 have hc:Chg [sb] w (w.setCell ⟨sb,i,none⟩ (.int .i64 v)):=(Chg.refl _ _).setCell _ _ (by simp)
 refine⟨hc.at (by simp;exact fun e=>hs.n2 e.symm) h.box,h.map.kept hc (by simp;exact fun e=>hs.n4 e.symm), ?_,h.er.kept hc (by intro g hg;simp[Value.ownBlock]at hg;subst hg;simp[hs.n6])⟩
 have:=RowOf.stored h.sl h.slen.symm icI_len1 i (by rw[h.slen];exact hi) 0 (by omega) (.int .i64 v) v rfl
 simpa using this
theorem ScAt.setErr (h:ScAt x B b mb sb eb w S) (hs:Sep B b mb sb eb) (i:Nat) (hi:i<x.nodes.length) (v:Int):ScAt x B b mb sb eb (w.setCell ⟨eb,i,none⟩ (.int .i64 v)) ⟨S.vis,S.next,S.slots,S.errs.set i v⟩:=by
 have hc:Chg [eb] w (w.setCell ⟨eb,i,none⟩ (.int .i64 v)):=(Chg.refl _ _).setCell _ _ (by simp)
 refine⟨hc.at (by simp;exact fun e=>hs.n3 e.symm) h.box,h.map.kept hc (by simp;exact fun e=>hs.n5 e.symm),h.sl.kept hc (by intro g hg;simp[Value.ownBlock]at hg;subst hg;simp;exact fun e=>hs.n6 e.symm), ?_⟩
 have:=RowOf.stored h.er h.elen.symm icI_len1 i (by rw[h.elen];exact hi) 0 (by omega) (.int .i64 v) v rfl
 simpa using this
theorem ScAt.setMap (h:ScAt x B b mb sb eb w S) (hs:Sep B b mb sb eb) {l:List (ByteArray×Int)} (hm:MapIs Prod.fst arVd w' mb l) (hc:Chg [mb] w w'):ScAt x B b mb sb eb w' ⟨l,S.next,S.slots,S.errs⟩:=
 ⟨hc.at (by simp;exact fun e=>hs.n1 e.symm) h.box,hm,h.sl.kept hc (by intro g hg;simp[Value.ownBlock]at hg;subst hg;simp[hs.n4]),h.er.kept hc (by intro g hg;simp[Value.ownBlock]at hg;subst hg;simp[hs.n5])⟩
theorem ScAt.slF (h:ScAt x B b mb sb eb w S) (i:Nat):w.frozen? ⟨sb,i,none⟩=false:=(RowOf.atS h.sl icI_len1).2.2.2.2.1 i
theorem ScAt.erF (h:ScAt x B b mb sb eb w S) (i:Nat):w.frozen? ⟨eb,i,none⟩=false:=(RowOf.atS h.er icI_len1).2.2.2.2.1 i
theorem ScAt.slC (h:ScAt x B b mb sb eb w S) (i:Nat) (hi:i<x.nodes.length):w.cell? ⟨sb,i,none⟩=some (.int .i64 (S.slots[i]'(by rw[h.slen];exact hi))):=by
 have:=(RowOf.atS h.sl icI_len1).2.2.2.1 i (by rw[h.slen];exact hi) 0 (by omega)
 simpa[icI]using this
theorem ScAt.erC (h:ScAt x B b mb sb eb w S) (i:Nat) (hi:i<x.nodes.length):w.cell? ⟨eb,i,none⟩=some (.int .i64 (S.errs[i]'(by rw[h.elen];exact hi))):=by
 have:=(RowOf.atS h.er icI_len1).2.2.2.1 i (by rw[h.elen];exact hi) 0 (by omega)
 simpa[icI]using this
end
theorem slet_any {x:Pr} {B b mb sb eb:Nat} {w:World} {S:ScS} (h:ScAt x B b mb sb eb w S) (hs:Sep B b mb sb eb) (i:Nat) (hi:i<x.nodes.length) (s:ByteArray):Calls Tryz.prog 230 #[.pointer (some ⟨b,0,none⟩), .int .i64 i, .string s] w fun e w'=>e= .returned (.tuple #[])∧ScAt x B b mb sb eb w' (letZ S i s)∧Chg [b,mb,sb,eb] w w':=by
 obtain⟨W1,hW1⟩:∃W1,W1=w.setCell ⟨b,3,none⟩ (.int .i64 (wrap64 (S.next+1))):=⟨_,rfl⟩
 have A1:=LH (show ScAt x B b mb sb eb W1 ⟨S.vis,wrap64 (S.next+1),S.slots,S.errs⟩ by rw[hW1];exact h.setNext hs _)
 have C1:=LH (show Chg [b,mb,sb,eb] w W1 by rw[hW1];exact(Chg.refl _ _).setCell _ _ (by simp))
 obtain⟨W2,hW2⟩:∃W2,W2=W1.setCell ⟨sb,i,none⟩ (.int .i64 S.next):=⟨_,rfl⟩
 have A2:=LH (show ScAt x B b mb sb eb W2 ⟨S.vis,wrap64 (S.next+1),S.slots.set i S.next,S.errs⟩ by rw[hW2];exact A1.out.setSlot hs i hi _)
 have C2:=LH (show Chg [b,mb,sb,eb] w W2 by rw[hW2];exact C1.out.setCell _ _ (by simp))
 have b0:=h.box
 have b1:=A1.out.box
 have b2:=A2.out.box
 unfold scO at b0 b1 b2
 have k0:=blk_cell b0
 have k1:=blk_cell b1
 have k2:=blk_cell b2
 have f0:=blk_free b0
 have g1:=fun j=>A1.out.slF j
 have g2:=fun j=>A2.out.erF j
 have v1:=A1.out.slC i hi
 have v2:=A2.out.erC i hi
 have hi':(i:Int)<(x.nodes.length:Int):=by omega
 have hi0:(0:Int)≤(i:Int):=by omega
 obtain⟨R,hR⟩:∃R,R=letZ S i s:=⟨_,rfl⟩
 rw[←hR]
 unfold letZ at hR
 have HR:=LH hR
 have H:=LH h
 clear b0 b1 b2 hR h
 go_enter Tryz.func230,Tryz.ntmps230
 go_upto_region 2 with fail
 rw[←hW1]
 clear hW1 k0 f0
 go_upto_region 3 with fail
 rw[←hW2]
 clear hW2 k1 g1 v1
 cases hls:(lookL Prod.fst S.vis s).isSome
 ·by_cases hn:S.next=32
  ·have HE:=LH (show R=⟨S.vis,wrap64 (S.next+1),S.slots.set i S.next,S.errs.set i 3⟩ by rw[HR.out,hls,if_neg (by simp),if_pos hn])
   have A3:=LH (A2.out.setErr hs i hi 3)
   have C3:=LH (C2.out.setCell ⟨eb,i,none⟩ (.int .i64 3) (by simp))
   go_wp2_with (at_lookup;refine wpl_lookup_ok _ rfl _ _ 195 rfl 9 3 Tryz.underlying195 Tryz.underlying9 (zeroIS _) mb _ rfl A2.out.map s rfl ?_;rw[hls])
   ((try simp only[Exit.inBlock,Exit.then]);refine bodyPost_ret (results_none rfl _ _ _) rfl ?_)
   exact⟨rfl,by rw[HE.out];exact A3.out,C3.out⟩
  ·have HE:=LH (show R=⟨putL Prod.fst S.vis (s,S.next),wrap64 (S.next+1),S.slots.set i S.next,S.errs⟩ by rw[HR.out,hls,if_neg (by simp),if_neg hn])
   go_wp2_with (first|(at_lookup;refine wpl_lookup_ok _ rfl _ _ 195 rfl 9 3 Tryz.underlying195 Tryz.underlying9 (zeroIS _) mb _ rfl A2.out.map s rfl ?_;rw[hls])|(refine wpl_store _ rfl _ _ _ 195 rfl 9 3 Tryz.underlying195 Tryz.underlying9 mb _ rfl A2.out.map (s,S.next) rfl rfl ?_;intro w5 hm5 hc5 hz5;have A5:=LH (A2.out.setMap hs hm5 hc5);have C5:=LH (C2.out.then hc5 (by simp));clear hm5 hc5 hz5))
   go_end0
   exact⟨rfl,by rw[HE.out];exact A5.out,C5.out⟩
 ·have HE:=LH (show R=⟨S.vis,wrap64 (S.next+1),S.slots.set i S.next,S.errs.set i 6⟩ by rw[HR.out,hls,if_pos rfl])
  have A3:=LH (A2.out.setErr hs i hi 6)
  have C3:=LH (C2.out.setCell ⟨eb,i,none⟩ (.int .i64 6) (by simp))
  go_wp2_with (at_lookup;refine wpl_lookup_ok _ rfl _ _ 195 rfl 9 3 Tryz.underlying195 Tryz.underlying9 (zeroIS _) mb _ rfl A2.out.map s rfl ?_;rw[hls])
  ((try simp only[Exit.inBlock,Exit.then]);refine bodyPost_ret (results_none rfl _ _ _) rfl ?_)
  exact⟨rfl,by rw[HE.out];exact A3.out,C3.out⟩
end
end Go.Proofs.YtmofknmeljdodaaGreatDoor
