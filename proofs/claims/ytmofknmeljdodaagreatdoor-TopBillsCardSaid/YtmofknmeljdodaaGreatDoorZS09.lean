/- Chapter 9: contract: ordered. No condition but those that the statements name. -/
import Derived.Test.YtmofknmeljdodaaGreatDoorProg
import Derived.Test.YtmofknmeljdodaaGreatDoorZS08
import Derived.Test.YtmofknmeljdodaaGreatDoorZS01
import Derived.Test.YtmofknmeljdodaaGreatDoorZS03
set_option maxHeartbeats 100000000
set_option maxRecDepth 100000
set_option linter.unusedVariables false
set_option linter.unusedSimpArgs false
open List renaming getElem_toArray→gTA,getElem_cons_zero→gCZ,getElem_cons_succ→gCS,setIfInBounds_toArray→sTA,set_cons_zero→sCZ,set_cons_succ→sCS
namespace Go.Proofs.YtmofknmeljdodaaGreatDoor
section
open Go.RowKit
def kindAt (l:List PNd) (i:Nat):Int:=match l[i]? with|some y=>y.kind|none=>0
def ordGo (l:List PNd):List PFn→Int→Bool
 |[],s=>s==(l.length:Int)
 |f::r,s=>if sNameB f.name=false then false else if f.params.any (fun s=> !sNameB s)=true then false else if f.body<s then false else if(l.length:Int)≤f.body then false else if(kindAt l f.body.toNat !=19)=true then false else if(firstF l l.length f.body.toNat !=s)=true then false else ordGo l r (f.body+1)
def ordB (p:PPr):Bool:=ordGo p.nodes p.funcs 0
theorem ordGo_ok {l:List PNd}:∀{r:List PFn} {s:Int},0≤s→ordGo l r s=true→∀f∈r,BodyOk l f.body:=by
 intro r
 induction r with
 |nil=>intro s _ _ f hf;cases hf
 |cons g r ih=>
  intro s hs h f hf
  rw[ordGo]at h
  split at h
  ·cases h
  ·split at h
   ·cases h
   ·split at h
    ·cases h
    ·split at h
     ·cases h
     ·split at h
      ·cases h
      ·split at h
       ·cases h
       ·rename_i h3 h4 h5 h6
        rcases List.mem_cons.1 hf with rfl|hf
        ·have e:firstF l l.length f.body.toNat=s:=by simpa using h6
         exact⟨f.body.toNat,by omega,by omega,by omega⟩
        ·exact ih (by omega) h f hf
theorem ordered_any (x:Pr) (w:World) (h:PrIn w x) (hg:goodPr x) (ht:TabW w):Calls Tryz.prog 86 #[.agg (prC x).toArray] w fun e w'=>e= .returned (.bool (ordB x.p))∧Chg [] w w':=by
 obtain⟨R,hR⟩:∃R,R=ordB x.p:=⟨_,rfl⟩
 rw[←hR]
 have HF:=LH h.2
 have HN:=LH h.1.1
 have FI0:=LH (fun w' (hc:Chg [] w w') (m:Nat) (hm:m<x.nodes.length)=>first_all (na:=x.na) (nc:=x.nc) (l:=x.nodes) x.nodes.length w' (h.1.1.kept hc) (fun d hd=>(h.1.2 d hd).kept hc) hg.1 (ht.kept hc) m hm hm)
 have hnl:(x.nodes.length:Int)≤9223372036854775807:=by have h1:=h.1.1.2.1;have h2:=h.1.1.2.2.1;unfold maxLen at h2;omega
 have hfl:(x.funcs.length:Int)≤9223372036854775807:=by have h1:=h.2.1.2.1;have h2:=h.2.1.2.2.1;unfold maxLen at h2;omega
 have HR:=LH (show R=ordGo (x.nodes.map Nd.p) (x.funcs.map Fn'.p) 0 from hR)
 obtain⟨W1,hW1⟩:∃W1,W1=w.alloc (prOd x):=⟨_,rfl⟩
 have C1:=LH (show Chg [] w W1 by rw[hW1];exact(Chg.refl _ _).alloc _)
 have B1:=LH (show W1.heap[w.heap.size]? =some (prOd x) by rw[hW1];exact heap_alloc_new _ _)
 unfold prOd at hW1 B1
 have k1:=blk_cell B1.out
 simp only[prC]
 clear hR h hg ht
 go_enter Tryz.func86,Tryz.ntmps86
 go_upto_region 1 with fail
 rw[←hW1]
 clear hW1
 go_wp2_with fail
 clear k1
 go_loopw [3,9] (fun u v wr=>∃(j:Nat) (s:Int),u= .int .i64 s∧v= .int .i64 j∧j≤x.funcs.length∧(0≤s∧s≤(x.nodes.length:Int))∧Hid (R=ordGo (x.nodes.map Nd.p) ((x.funcs.drop j).map Fn'.p) s)∧Hid (Chg [] w wr)∧Hid (wr.heap[w.heap.size]? =some (.cells #[.slice x.na x.nodes.length x.nc, .slice x.fa x.funcs.length x.fc] 27 (0,0)))) (fun _ v _=>x.funcs.length-(intOf v).toNat)
 case atStart=>exact⟨0,0,rfl,rfl,Nat.zero_le _,⟨Int.le_refl _,by omega⟩,LH HR.out,C1,B1⟩
 case round=>
  obtain⟨j,s,rfl,rfl,hj,⟨hs0,hsn⟩,HS,D,B⟩:=hrel
  have hj0:(0:Int)≤(j:Int):=by omega
  by_cases hjl:j<x.funcs.length
  ·have hjl':(j:Int)<(x.funcs.length:Int):=by omega
   obtain⟨b2,o2,e2, -, -,hc2⟩:=HF.out.1.1.elem D.out j hjl
   have hfi:=HF.out.2 _ (List.getElem_mem hjl)
   have u0:=hc2 0 (by omega)
   have u1:=hc2 1 (by omega)
   have u2:=hc2 2 (by omega)
   simp only[fnC,List.getElem?_cons_zero,List.getElem?_cons_succ,Nat.add_zero]at u0 u1 u2
   have HS2:=HS.out
   rw[List.drop_eq_getElem_cons hjl,List.map_cons,ordGo]at HS2
   generalize x.funcs[j]=f at*
   have qj:IntKind.i64.wrap ((j:Int)+1)=(j:Int)+1:=IntWalk.i64_in _ (by omega)
   obtain⟨W2,hW2⟩:∃W2,W2=wr.alloc (.cells #[.string f.name, .slice f.pa f.params.length f.pc, .int .i64 f.body] 130):=⟨_,rfl⟩
   have C2:=LH (show Chg [] wr W2 by rw[hW2];exact(Chg.refl _ _).alloc _)
   have D2:=LH (D.out.thenSame C2.out)
   have K2:=LH (show W2.heap[wr.heap.size]? =some (.cells #[.string f.name, .slice f.pa f.params.length f.pc, .int .i64 f.body] 130 (0,0))from by rw[hW2];exact heap_alloc_new _ _)
   have k2:=blk_cell K2.out
   have B2:=LH (C2.out.at (by simp) B.out)
   have k1:=blk_cell B2.out
   have AN:=LH (fun w'=>sname_any f.name w')
   have AS:=LH (scontf_any (hfi.kept D2.out))
   have p1:f.p.name=f.name:=rfl
   have p2:f.p.params=f.params:=rfl
   have p3:f.p.body=f.body:=rfl
   rw[p1,p2,p3,List.length_map]at HS2
   generalize sNameB f.name=qa at*
   generalize f.params.any (fun s=> !sNameB s)=qb at*
   clear hc2 p1 p2 p3 hfi
   cases qa
   ·have HE:=LH (show R=false by rw[HS2];rfl)
    clear HS2
    rw[e2]
    go_upto_region 5 with fail
    rw[←hW2]
    clear hW2 u0 u1 u2
    go_wp2_with (first|(go_at_call 147;(with_reducible refine Calls.mono (AN.out _) ?_);rintro e w4 ⟨rfl,rfl⟩))
    go_ret
    exact⟨retB HE.out.symm,D2.out⟩
   cases qb
   case true=>
    have HE:=LH (show R=false by rw[HS2];rfl)
    clear HS2
    rw[e2]
    go_upto_region 5 with fail
    rw[←hW2]
    clear hW2 u0 u1 u2
    go_wp2_with (first|(go_at_call 147;(with_reducible refine Calls.mono (AN.out _) ?_);rintro e w4 ⟨rfl,rfl⟩)|(go_at_call 148;(with_reducible refine Calls.mono AS.out ?_);rintro e w5 ⟨rfl,hc⟩;have D5:=LH (D2.out.thenSame hc);clear hc))
    go_ret
    exact⟨retB HE.out.symm,D5.out⟩
   rw[if_neg (by simp),if_neg (by simp)]at HS2
   generalize f.body=bd at*
   by_cases h1:bd<s
   case pos=>
    have HE:=LH (show R=false by rw[HS2,if_pos h1])
    have E5:=LH (fun(w':World) (hb:w'.heap[w.heap.size]? =some (.cells #[.slice x.na x.nodes.length x.nc, .slice x.fa x.funcs.length x.fc] 27 (0,0)))=>blk_cell hb)
    have KD:=LH (fun(w':World) (_:Chg [] w w')=>True.intro)
    clear HS2
    rw[e2]
    go_upto_region 5 with fail
    rw[←hW2]
    clear hW2 u0 u1 u2
    go_wp2_with (first|(go_at_call 147;(with_reducible refine Calls.mono (AN.out _) ?_);rintro e w4 ⟨rfl,rfl⟩)|(go_at_call 148;(with_reducible refine Calls.mono AS.out ?_);rintro e w5 ⟨rfl,hc⟩;have D5:=LH (D2.out.thenSame hc);have B5:=LH (hc.at (by simp) B2.out);have K5:=LH (hc.at (by simp) K2.out);have k5:=E5.out _ B5.out;have k6:=blk_cell K5.out;have k7:=KD.out _ D5.out;clear hc k1 k2)|(go_at_call 150;(with_reducible refine Calls.mono (FI.out _ D5.out) ?_);rintro e w6 ⟨rfl,hc⟩;have D6:=LH (D5.out.thenSame hc);have B6:=LH (hc.at (by simp) B5.out);have K6:=LH (hc.at (by simp) K5.out);have k8:=blk_cell B6.out;have k9:=blk_cell K6.out;clear hc k5 k6 k7))
    go_ret
    exact⟨retB HE.out.symm,D5.out⟩
   rw[if_neg h1]at HS2
   by_cases h2:(x.nodes.length:Int)≤bd
   case pos=>
    have HE:=LH (show R=false by rw[HS2,if_pos h2])
    have E5:=LH (fun(w':World) (hb:w'.heap[w.heap.size]? =some (.cells #[.slice x.na x.nodes.length x.nc, .slice x.fa x.funcs.length x.fc] 27 (0,0)))=>blk_cell hb)
    have KD:=LH (fun(w':World) (_:Chg [] w w')=>True.intro)
    clear HS2
    rw[e2]
    go_upto_region 5 with fail
    rw[←hW2]
    clear hW2 u0 u1 u2
    go_wp2_with (first|(go_at_call 147;(with_reducible refine Calls.mono (AN.out _) ?_);rintro e w4 ⟨rfl,rfl⟩)|(go_at_call 148;(with_reducible refine Calls.mono AS.out ?_);rintro e w5 ⟨rfl,hc⟩;have D5:=LH (D2.out.thenSame hc);have B5:=LH (hc.at (by simp) B2.out);have K5:=LH (hc.at (by simp) K2.out);have k5:=E5.out _ B5.out;have k6:=blk_cell K5.out;have k7:=KD.out _ D5.out;clear hc k1 k2)|(go_at_call 150;(with_reducible refine Calls.mono (FI.out _ D5.out) ?_);rintro e w6 ⟨rfl,hc⟩;have D6:=LH (D5.out.thenSame hc);have B6:=LH (hc.at (by simp) B5.out);have K6:=LH (hc.at (by simp) K5.out);have k8:=blk_cell B6.out;have k9:=blk_cell K6.out;clear hc k5 k6 k7))
    go_ret
    exact⟨retB HE.out.symm,D5.out⟩
   rw[if_neg h2]at HS2
   obtain⟨m,rfl⟩:∃m:Nat,bd=(m:Int):=⟨bd.toNat,by omega⟩
   have hm:m<x.nodes.length:=by omega
   have hm0:(0:Int)≤(m:Int):=by omega
   have hml:(m:Int)<(x.nodes.length:Int):=by omega
   obtain⟨b3,o3,e3, -, -, -⟩:=HN.out.1.elem (Chg.refl [] w) m hm
   have KD:=LH (fun w' (hc:Chg [] w w')=>show w'.cell? ⟨b3,o3+m*5,none⟩=some (.int .i64 (x.nodes[m]).kind)from by
    obtain⟨b4,o4,e4, -, -,hcc⟩:=HN.out.1.elem hc m hm
    rw[e3]at e4
    cases e4
    have e:=hcc 0 (by omega)
    simp only[ndC,List.getElem?_cons_zero,Nat.add_zero]at e
    exact e)
   have E5:=LH (fun(w':World) (hb:w'.heap[w.heap.size]? =some (.cells #[.slice x.na x.nodes.length x.nc, .slice x.fa x.funcs.length x.fc] 27 (0,0)))=>show ∀i,w'.cell? ⟨w.heap.size,i,none⟩=(#[Value.slice (some ⟨b3,o3,none⟩) x.nodes.length x.nc, .slice x.fa x.funcs.length x.fc])[i]? from by
    have k:=blk_cell hb
    rw[e3]at k
    exact k)
   have FI1:=fun w' (hc:Chg [] w w')=>FI0.out w' hc m hm
   rw[e3]at FI1
   have hkk:kindAt (x.nodes.map Nd.p) ((m:Int).toNat)=(x.nodes[m]).kind:=by rw[Int.toNat_natCast,kindAt,List.getElem?_map,List.getElem?_eq_getElem hm];rfl
   rw[hkk,Int.toNat_natCast]at HS2
   generalize (x.nodes[m]).kind=pk at*
   generalize firstF (x.nodes.map Nd.p) x.nodes.length m=r at*
   have FI:=LH FI1
   clear FI1 hkk e3
   by_cases hv:pk=19
   case neg=>
    have hvb:(pk !=19)=true:=bne_iff_ne.2 hv
    have HE:=LH (show R=false by rw[HS2,if_pos hvb])
    clear HS2 hv
    rw[e2]
    go_upto_region 5 with fail
    rw[←hW2]
    clear hW2 u0 u1 u2
    go_wp2_with (first|(go_at_call 147;(with_reducible refine Calls.mono (AN.out _) ?_);rintro e w4 ⟨rfl,rfl⟩)|(go_at_call 148;(with_reducible refine Calls.mono AS.out ?_);rintro e w5 ⟨rfl,hc⟩;have D5:=LH (D2.out.thenSame hc);have B5:=LH (hc.at (by simp) B2.out);have K5:=LH (hc.at (by simp) K2.out);have k5:=E5.out _ B5.out;have k6:=blk_cell K5.out;have k7:=KD.out _ D5.out;clear hc k1 k2)|(go_at_call 150;(with_reducible refine Calls.mono (FI.out _ D5.out) ?_);rintro e w6 ⟨rfl,hc⟩;have D6:=LH (D5.out.thenSame hc);have B6:=LH (hc.at (by simp) B5.out);have K6:=LH (hc.at (by simp) K5.out);have k8:=blk_cell B6.out;have k9:=blk_cell K6.out;clear hc k5 k6 k7))
    go_ret
    exact⟨retB HE.out.symm,D5.out⟩
   subst hv
   rw[if_neg (by simp)]at HS2
   by_cases hr:r=s
   case neg=>
    have hvb:(r !=s)=true:=bne_iff_ne.2 hr
    have HE:=LH (show R=false by rw[HS2,if_pos hvb])
    clear HS2 hr
    rw[e2]
    go_upto_region 5 with fail
    rw[←hW2]
    clear hW2 u0 u1 u2
    go_wp2_with (first|(go_at_call 147;(with_reducible refine Calls.mono (AN.out _) ?_);rintro e w4 ⟨rfl,rfl⟩)|(go_at_call 148;(with_reducible refine Calls.mono AS.out ?_);rintro e w5 ⟨rfl,hc⟩;have D5:=LH (D2.out.thenSame hc);have B5:=LH (hc.at (by simp) B2.out);have K5:=LH (hc.at (by simp) K2.out);have k5:=E5.out _ B5.out;have k6:=blk_cell K5.out;have k7:=KD.out _ D5.out;clear hc k1 k2)|(go_at_call 150;(with_reducible refine Calls.mono (FI.out _ D5.out) ?_);rintro e w6 ⟨rfl,hc⟩;have D6:=LH (D5.out.thenSame hc);have B6:=LH (hc.at (by simp) B5.out);have K6:=LH (hc.at (by simp) K5.out);have k8:=blk_cell B6.out;have k9:=blk_cell K6.out;clear hc k5 k6 k7))
    go_ret
    exact⟨retB HE.out.symm,D6.out⟩
   have hvb:(r !=s)=false:=by rw[hr];simp
   have HS3:=LH (show R=ordGo (x.nodes.map Nd.p) ((x.funcs.drop (j+1)).map Fn'.p) ((m:Int)+1) by rw[HS2,if_neg (by rw[hvb];simp)])
   have qm:IntKind.i64.wrap ((m:Int)+1)=(m:Int)+1:=IntWalk.i64_in _ (by omega)
   clear HS2 hr
   rw[e2]
   go_upto_region 5 with fail
   rw[←hW2]
   clear hW2 u0 u1 u2
   go_wp2_with (first|(go_at_call 147;(with_reducible refine Calls.mono (AN.out _) ?_);rintro e w4 ⟨rfl,rfl⟩)|(go_at_call 148;(with_reducible refine Calls.mono AS.out ?_);rintro e w5 ⟨rfl,hc⟩;have D5:=LH (D2.out.thenSame hc);have B5:=LH (hc.at (by simp) B2.out);have K5:=LH (hc.at (by simp) K2.out);have k5:=E5.out _ B5.out;have k6:=blk_cell K5.out;have k7:=KD.out _ D5.out;clear hc k1 k2)|(go_at_call 150;(with_reducible refine Calls.mono (FI.out _ D5.out) ?_);rintro e w6 ⟨rfl,hc⟩;have D6:=LH (D5.out.thenSame hc);have B6:=LH (hc.at (by simp) B5.out);have K6:=LH (hc.at (by simp) K5.out);have k8:=blk_cell B6.out;have k9:=blk_cell K6.out;clear hc k5 k6 k7))
   exact⟨⟨j+1,(m:Int)+1,rfl,rfl,by omega,⟨by omega,by omega⟩,HS3,D6,(by rw[e2]at B6;exact B6)⟩,by simp[intOf];omega⟩
  ·have hje:j=x.funcs.length:=by omega
   have HS2:=HS.out
   rw[hje,List.drop_length,List.map_nil,ordGo,List.length_map]at HS2
   have HE:=LH HS2
   have hjl': ¬(j:Int)<(x.funcs.length:Int):=by omega
   have k1:=blk_cell B.out
   clear HS2 hje
   go_wp2_with fail
   go_ret
   exact⟨retB HE.out.symm,D.out⟩
end
section
open Go.RowKit
def scheckZ (p:PPr):Int:=if 600<p.nodes.length then 3 else if 16<p.funcs.length then 3 else if ordB p=false then 1 else if p.funcs.any (fun f=>decide (8<f.params.length))=true then 3 else if 32<deepF p then 3 else 0
theorem scheck_any (x:Pr) (w:World) (h:PrIn w x) (hg:goodPr x) (ht:TabW w):Calls Tryz.prog 31 #[.agg (prC x).toArray] w fun e w'=>e= .returned (.int .i64 (scheckZ x.p))∧Chg [] w w':=by
 obtain⟨R,hR⟩:∃R,R=scheckZ x.p:=⟨_,rfl⟩
 rw[←hR]
 have q1:x.p.nodes.length=x.nodes.length:=List.length_map _
 have q2:x.p.funcs.length=x.funcs.length:=List.length_map _
 have q3:x.p.funcs.any (fun f=>decide (8<f.params.length))=x.funcs.any (fun f=>decide (8<f.params.length)):=by
  show(x.funcs.map Fn'.p).any _=_
  rw[List.any_map]
  rfl
 rw[scheckZ,q1,q2,q3]at hR
 obtain⟨W1,hW1⟩:∃W1,W1=w.alloc (prOd x):=⟨_,rfl⟩
 have C1:=LH (show Chg [] w W1 by rw[hW1];exact(Chg.refl _ _).alloc _)
 have B1:=LH (show W1.heap[w.heap.size]? =some (prOd x) by rw[hW1];exact heap_alloc_new _ _)
 have AO:=ordered_any x W1 (h.kept C1.out) hg (ht.kept C1.out)
 have AF:=LH (fun w' (hc:Chg [] w w')=>fcontf_any (w:=w') (h.2.1.kept hc))
 have AD0:=fun(ho:ordB x.p=true) w' (hc:Chg [] w w')=>deepest_any x w' (h.kept hc) (by
  have e:=ordGo_ok (Int.le_refl 0) ho
  intro f hf
  exact e f.p (List.mem_map_of_mem hf))
 unfold prOd at hW1 B1
 simp only[prC]at AO AD0⊢
 have k1:=blk_cell B1.out
 generalize ordB x.p=qo at*
 generalize x.funcs.any (fun f=>decide (8<f.params.length))=qf at*
 generalize deepF x.p=d at*
 have AO:=LH AO
 rename_i AO0
 clear q1 q2 q3 AO0 h hg ht
 by_cases h1:600<x.nodes.length
 ·have h1':(600:Int)<(x.nodes.length:Int):=by omega
  have HE:=LH (show R=3 by rw[hR,if_pos h1])
  clear hR h1 AD0
  go_enter Tryz.func31,Tryz.ntmps31
  go_upto_region 1 with fail
  rw[←hW1]
  clear hW1
  go_wp2_with (first|(go_at_call 86;(with_reducible refine Calls.mono (AO.out) ?_);rintro e w2 ⟨rfl,hc⟩;have C2:=LH (C1.out.thenSame hc);have B2:=LH (hc.at (by simp) B1.out);have k2:=blk_cell B2.out;clear hc k1)|(go_at_call 87;(with_reducible refine Calls.mono (AF.out _ C2.out) ?_);rintro e w3 ⟨rfl,hc⟩;have C3:=LH (C2.out.thenSame hc);have B3:=LH (hc.at (by simp) B2.out);have k3:=blk_cell B3.out;clear hc k2)|(go_at_call 89;(with_reducible refine Calls.mono (AD.out _ C3.out) ?_);rintro e w4 ⟨rfl,hc⟩;have C4:=LH (C3.out.thenSame hc);clear hc))
  go_ret
  exact⟨retI HE.out.symm,C1.out⟩
 have h1': ¬(600:Int)<(x.nodes.length:Int):=by omega
 rw[if_neg h1]at hR
 by_cases h2:16<x.funcs.length
 ·have h2':(16:Int)<(x.funcs.length:Int):=by omega
  have HE:=LH (show R=3 by rw[hR,if_pos h2])
  clear hR h2 AD0
  go_enter Tryz.func31,Tryz.ntmps31
  go_upto_region 1 with fail
  rw[←hW1]
  clear hW1
  go_wp2_with (first|(go_at_call 86;(with_reducible refine Calls.mono (AO.out) ?_);rintro e w2 ⟨rfl,hc⟩;have C2:=LH (C1.out.thenSame hc);have B2:=LH (hc.at (by simp) B1.out);have k2:=blk_cell B2.out;clear hc k1)|(go_at_call 87;(with_reducible refine Calls.mono (AF.out _ C2.out) ?_);rintro e w3 ⟨rfl,hc⟩;have C3:=LH (C2.out.thenSame hc);have B3:=LH (hc.at (by simp) B2.out);have k3:=blk_cell B3.out;clear hc k2)|(go_at_call 89;(with_reducible refine Calls.mono (AD.out _ C3.out) ?_);rintro e w4 ⟨rfl,hc⟩;have C4:=LH (C3.out.thenSame hc);clear hc))
  go_ret
  exact⟨retI HE.out.symm,C1.out⟩
 have h2': ¬(16:Int)<(x.funcs.length:Int):=by omega
 rw[if_neg h2]at hR
 clear h1 h2
 cases qo
 ·have HE:=LH (show R=1 by rw[hR];rfl)
  clear hR AD0
  go_enter Tryz.func31,Tryz.ntmps31
  go_upto_region 1 with fail
  rw[←hW1]
  clear hW1
  go_wp2_with (first|(go_at_call 86;(with_reducible refine Calls.mono (AO.out) ?_);rintro e w2 ⟨rfl,hc⟩;have C2:=LH (C1.out.thenSame hc);have B2:=LH (hc.at (by simp) B1.out);have k2:=blk_cell B2.out;clear hc k1)|(go_at_call 87;(with_reducible refine Calls.mono (AF.out _ C2.out) ?_);rintro e w3 ⟨rfl,hc⟩;have C3:=LH (C2.out.thenSame hc);have B3:=LH (hc.at (by simp) B2.out);have k3:=blk_cell B3.out;clear hc k2)|(go_at_call 89;(with_reducible refine Calls.mono (AD.out _ C3.out) ?_);rintro e w4 ⟨rfl,hc⟩;have C4:=LH (C3.out.thenSame hc);clear hc))
  go_ret
  exact⟨retI HE.out.symm,C2.out⟩
 have AD:=LH (AD0 rfl)
 rw[if_neg (by simp)]at hR
 clear AD0
 cases qf
 case true=>
  have HE:=LH (show R=3 by rw[hR];rfl)
  clear hR
  go_enter Tryz.func31,Tryz.ntmps31
  go_upto_region 1 with fail
  rw[←hW1]
  clear hW1
  go_wp2_with (first|(go_at_call 86;(with_reducible refine Calls.mono (AO.out) ?_);rintro e w2 ⟨rfl,hc⟩;have C2:=LH (C1.out.thenSame hc);have B2:=LH (hc.at (by simp) B1.out);have k2:=blk_cell B2.out;clear hc k1)|(go_at_call 87;(with_reducible refine Calls.mono (AF.out _ C2.out) ?_);rintro e w3 ⟨rfl,hc⟩;have C3:=LH (C2.out.thenSame hc);have B3:=LH (hc.at (by simp) B2.out);have k3:=blk_cell B3.out;clear hc k2)|(go_at_call 89;(with_reducible refine Calls.mono (AD.out _ C3.out) ?_);rintro e w4 ⟨rfl,hc⟩;have C4:=LH (C3.out.thenSame hc);clear hc))
  go_ret
  exact⟨retI HE.out.symm,C3.out⟩
 rw[if_neg (by simp)]at hR
 by_cases h3:32<d
 ·have HE:=LH (show R=3 by rw[hR,if_pos h3])
  clear hR
  go_enter Tryz.func31,Tryz.ntmps31
  go_upto_region 1 with fail
  rw[←hW1]
  clear hW1
  go_wp2_with (first|(go_at_call 86;(with_reducible refine Calls.mono (AO.out) ?_);rintro e w2 ⟨rfl,hc⟩;have C2:=LH (C1.out.thenSame hc);have B2:=LH (hc.at (by simp) B1.out);have k2:=blk_cell B2.out;clear hc k1)|(go_at_call 87;(with_reducible refine Calls.mono (AF.out _ C2.out) ?_);rintro e w3 ⟨rfl,hc⟩;have C3:=LH (C2.out.thenSame hc);have B3:=LH (hc.at (by simp) B2.out);have k3:=blk_cell B3.out;clear hc k2)|(go_at_call 89;(with_reducible refine Calls.mono (AD.out _ C3.out) ?_);rintro e w4 ⟨rfl,hc⟩;have C4:=LH (C3.out.thenSame hc);clear hc))
  go_ret
  exact⟨retI HE.out.symm,C4.out⟩
 ·have HE:=LH (show R=0 by rw[hR,if_neg h3])
  clear hR
  go_enter Tryz.func31,Tryz.ntmps31
  go_upto_region 1 with fail
  rw[←hW1]
  clear hW1
  go_wp2_with (first|(go_at_call 86;(with_reducible refine Calls.mono (AO.out) ?_);rintro e w2 ⟨rfl,hc⟩;have C2:=LH (C1.out.thenSame hc);have B2:=LH (hc.at (by simp) B1.out);have k2:=blk_cell B2.out;clear hc k1)|(go_at_call 87;(with_reducible refine Calls.mono (AF.out _ C2.out) ?_);rintro e w3 ⟨rfl,hc⟩;have C3:=LH (C2.out.thenSame hc);have B3:=LH (hc.at (by simp) B2.out);have k3:=blk_cell B3.out;clear hc k2)|(go_at_call 89;(with_reducible refine Calls.mono (AD.out _ C3.out) ?_);rintro e w4 ⟨rfl,hc⟩;have C4:=LH (C3.out.thenSame hc);clear hc))
  go_ret
  exact⟨retI HE.out.symm,C4.out⟩
end
section
open Go.RowKit
def idxFromD {α:Type} (p:α→Bool):List α→Int→Int
 |[],_=> -1
 |x::r,k=>if p x=true then k else idxFromD p r (k+1)
theorem idxFrom_any {α:Type} {p:α→Bool}:∀{l:List α} {k:Int},0≤k→decide (0≤idxFromD p l k)=l.any p:=by
 intro l
 induction l with
 |nil=>intro k _;rfl
 |cons x r ih=>
  intro k hk
  rw[idxFromD,List.any_cons]
  split
  ·rename_i h;rw[h];simpa using hk
  ·rename_i h;rw[ih (by omega)];simp[h]
theorem sindex_any {a:Option Addr} {c:Nat} {l:List ByteArray} (s:ByteArray) {w:World} (h:InIs skC 1 w a c l):
 Calls Tryz.prog 285 #[.slice a l.length c, .string s] w fun e w'=>e= .returned (.int .i64 (idxFromD (fun x=>s==x) l 0))∧Chg [] w w':=by
 obtain⟨R,hR⟩:∃R,R=idxFromD (fun x=>s==x) l 0:=⟨_,rfl⟩
 rw[←hR]
 have HR:=LH hR
 have H:=LH h
 have hm:(l.length:Int)≤9223372036854775807:=by have h1:=h.2.1;have h2:=h.2.2.1;unfold maxLen at h2;omega
 clear h hR
 go_enter Tryz.func285,Tryz.ntmps285
 go_wp2_with fail
 go_loopw [8] (fun i wr=>∃k:Nat,i= .int .i64 k∧k≤l.length∧Hid (R=idxFromD (fun x=>s==x) (l.drop k) (k:Int))∧Hid (Chg [] w wr)) (fun i _=>l.length-(intOf i).toNat)
 case atStart=>exact⟨0,rfl,Nat.zero_le _,LH HR.out,LH (Chg.refl _ _)⟩
 case round=>
  obtain⟨k,rfl,hkl,HS,D⟩:=hrel
  by_cases hk:k<l.length
  ·obtain⟨b,off,rfl, -, -,hcc⟩:=H.out.1.elem D.out k hk
   have u1:=hcc 0 (by omega)
   simp only[skC,List.getElem?_cons_zero,Nat.add_zero,Nat.mul_one]at u1
   have HS2:=HS.out
   rw[List.drop_eq_getElem_cons hk,idxFromD]at HS2
   generalize l[k]=x at*
   have hk0:(0:Int)≤(k:Int):=by omega
   have hk1:(k:Int)<(l.length:Int):=by omega
   have qs:(s==x)=(s.toList==x.toList):=beq_toListBytes s x
   rw[qs]at HS2
   clear hcc qs
   cases hq:(s.toList==x.toList)
   ·rw[hq,if_neg (by simp)]at HS2
    have HS3:=LH HS2
    clear HS2
    go_wp2_with fail
    exact⟨⟨k+1,by go_num,by omega,LH (by rw[HS3.out];rfl),D⟩,by simp[intOf];omega⟩
   ·rw[hq,if_pos rfl]at HS2
    have HE:=LH HS2
    clear HS2
    go_wp2_with fail
    go_ret
    exact⟨retI HE.out.symm,D.out⟩
  ·have hks:k=l.length:=by omega
   have HS2:=HS.out
   rw[hks,List.drop_length,idxFromD]at HS2
   have HE:=LH HS2
   clear hks HS2
   go_wp2_with fail
   go_ret
   exact⟨retI HE.out.symm,D.out⟩
theorem scont_any {a:Option Addr} {c:Nat} {l:List ByteArray} (s:ByteArray) {w:World} (h:InIs skC 1 w a c l):
 Calls Tryz.prog 228 #[.slice a l.length c, .string s] w fun e w'=>e= .returned (.bool (l.any (fun x=>s==x)))∧Chg [] w w':=by
 have A:=LH (sindex_any s h)
 have hn:=idxFrom_any (p:=fun x=>s==x) (l:=l) (Int.le_refl 0)
 generalize l.any (fun x=>s==x)=q at*
 generalize idxFromD (fun x=>s==x) l 0=n at*
 have HN:=LH hn
 clear hn
 go_enter Tryz.func228,Tryz.ntmps228
 go_wp2_with (go_at_call 285;(with_reducible refine Calls.mono A.out ?_);rintro e w2 ⟨rfl,hc⟩)
 go_ret
 exact⟨by rw[←HN.out];rfl,hc⟩
end
section
open Go.RowKit
theorem find1_any (x:Fn') (p:Nat) (s:ByteArray) (w:World) (h:w.cell? ⟨p,0,none⟩=some (.string s)) (hp:p<w.heap.size):Calls Tryz.prog 284 #[.agg (fnC x).toArray, .pointer (some ⟨p,0,none⟩)] w fun e w'=>e= .returned (.bool (x.name==s))∧Chg [] w w':=by
 have qs:(x.name==s)=(x.name.toList==s.toList):=beq_toListBytes x.name s
 have hk:=World.cell?_of_block (w:=w) (w':=w.alloc (fnO x)) (a:=⟨p,0,none⟩) (heap_alloc_old _ _ hp)
 rw[h]at hk
 simp only[fnC]
 unfold fnO at hk
 go_enter Tryz.func284,Tryz.ntmps284
 go_wp2_with fail
 go_ret
 exact⟨by rw[qs];rfl,(Chg.refl _ _).alloc _⟩
theorem findexn_any {a:Option Addr} {c:Nat} {l:List Fn'} {w:World} (h:InIs fnC 3 w a c l) (p:Nat) (s:ByteArray) (hp:w.cell? ⟨p,0,none⟩=some (.string s)) (hpl:p<w.heap.size):
 Calls Tryz.prog 40 #[.slice a l.length c, .func (.func 284) #[] #[.pointer (some ⟨p,0,none⟩)]] w fun e w'=>e= .returned (.int .i64 (idxFromD (fun f:Fn'=>f.name==s) l 0))∧Chg [] w w':=by
 obtain⟨R,hR⟩:∃R,R=idxFromD (fun f:Fn'=>f.name==s) l 0:=⟨_,rfl⟩
 rw[←hR]
 have HR:=LH hR
 have H:=LH h
 have HP:=LH (fun w' (hc:Chg [] w w')=>And.intro ((World.cell?_of_block (w:=w) (hc.block p hpl (by simp))).trans hp) (hc.lt hpl))
 have hm:(l.length:Int)≤9223372036854775807:=by have h1:=h.2.1;have h2:=h.2.2.1;unfold maxLen at h2;omega
 clear h hR hp hpl
 go_enter Tryz.func40,Tryz.ntmps40
 go_wp2_with fail
 go_loopw [8] (fun i wr=>∃k:Nat,i= .int .i64 k∧k≤l.length∧Hid (R=idxFromD (fun f:Fn'=>f.name==s) (l.drop k) (k:Int))∧Hid (Chg [] w wr)) (fun i _=>l.length-(intOf i).toNat)
 case atStart=>exact⟨0,rfl,Nat.zero_le _,LH HR.out,LH (Chg.refl _ _)⟩
 case round=>
  obtain⟨k,rfl,hkl,HS,D⟩:=hrel
  by_cases hk:k<l.length
  ·obtain⟨b,off,rfl, -, -,hcc⟩:=H.out.1.elem D.out k hk
   have u0:=hcc 0 (by omega)
   have u1:=hcc 1 (by omega)
   have u2:=hcc 2 (by omega)
   simp only[fnC,List.getElem?_cons_zero,List.getElem?_cons_succ,Nat.add_zero]at u0 u1 u2
   have HS2:=HS.out
   rw[List.drop_eq_getElem_cons hk,idxFromD]at HS2
   generalize l[k]=x at*
   obtain⟨hp1,hp2⟩:=HP.out _ D.out
   have A:=find1_any x p s wr hp1 hp2
   unfold fnC at A
   have A:=LH A
   rename_i A0
   have hk0:(0:Int)≤(k:Int):=by omega
   have hk1:(k:Int)<(l.length:Int):=by omega
   clear hcc A0 hp1 hp2
   generalize (x.name==s)=q at*
   cases q
   ·rw[if_neg (by simp)]at HS2
    have HS3:=LH HS2
    clear HS2
    go_wp2_with (first|(with_reducible refine Calls.mono A.out ?_);rintro e w2 ⟨rfl,hc⟩;have D2:=LH (D.out.thenSame hc);clear hc)
    exact⟨⟨k+1,by go_num,by omega,LH (by rw[HS3.out];rfl),D2⟩,by simp[intOf];omega⟩
   ·rw[if_pos rfl]at HS2
    have HE:=LH HS2
    clear HS2
    go_wp2_with (first|(with_reducible refine Calls.mono A.out ?_);rintro e w2 ⟨rfl,hc⟩;have D2:=LH (D.out.thenSame hc);clear hc)
    go_ret
    exact⟨retI HE.out.symm,D2.out⟩
  ·have hks:k=l.length:=by omega
   have HS2:=HS.out
   rw[hks,List.drop_length,idxFromD]at HS2
   have HE:=LH HS2
   clear hks HS2
   go_wp2_with fail
   go_ret
   exact⟨retI HE.out.symm,D.out⟩
end
section
open Go.RowKit
theorem find_any (x:Pr) (s:ByteArray) (w:World) (h:PrIn w x):Calls Tryz.prog 227 #[.agg (prC x).toArray, .string s] w fun e w'=>e= .returned (.int .i64 (idxFromD (fun f:Fn'=>f.name==s) x.funcs 0))∧Chg [] w w':=by
 obtain⟨W1,hW1⟩:∃W1,W1=w.alloc (prOd x):=⟨_,rfl⟩
 have C1:=LH (show Chg [] w W1 by rw[hW1];exact(Chg.refl _ _).alloc _)
 have B1:=LH (show W1.heap[w.heap.size]? =some (prOd x) by rw[hW1];exact heap_alloc_new _ _)
 have S1:W1.heap.size=w.heap.size+1:=by rw[hW1];exact Array.size_push _
 obtain⟨W2,hW2⟩:∃W2,W2=W1.alloc (.cells #[.string s] 9):=⟨_,rfl⟩
 have C2:=LH (show Chg [] w W2 by rw[hW2];exact C1.out.alloc _)
 have B2:=LH (show W2.heap[w.heap.size]? =some (prOd x) by rw[hW2];exact(heap_alloc_old _ _ (by omega)).trans B1.out)
 have K2:=LH (show W2.heap[w.heap.size+1]? =some (.cells #[.string s] 9) by rw[hW2,←S1];exact heap_alloc_new _ _)
 have L2:w.heap.size+1<W2.heap.size:=(Array.getElem?_eq_some_iff.1 K2.out).1
 have k2:=blk_cell K2.out
 have A:=LH (findexn_any (w:=W2) (h.2.1.kept C2.out) (w.heap.size+1) s (k2 0) L2)
 unfold prOd at hW1 B2
 have k1:=blk_cell B2.out
 simp only[prC]
 generalize idxFromD (fun f:Fn'=>f.name==s) x.funcs 0=R at*
 clear h B1 L2
 go_enter Tryz.func227,Tryz.ntmps227
 go_upto_region 1 with fail
 rw[←hW1]
 try rw[S1]
 rw[←hW2]
 clear hW1 hW2 S1
 go_wp2_with (go_at_call 40;(with_reducible refine Calls.mono A.out ?_);rintro e w3 ⟨rfl,hc⟩)
 go_ret
 exact⟨rfl,C2.out.thenSame hc⟩
end
section
open Go.RowKit
theorem InIs.take {α:Type} {cf:α→List Value} {sz:Nat} {w:World} {a:Option Addr} {c:Nat} {l:List α} (h:InIs cf sz w a c l) {k:Nat} (hk:k≤l.length):InIs cf sz w a c (l.take k):=by
 refine⟨⟨rfl,fun j hj=> ?_⟩, ?_,h.2.2.1,h.2.2.2⟩
 ·rw[List.length_take]at hj
  obtain⟨b,off,h1,h2,h3⟩:=h.1.2 j (by omega)
  exact⟨b,off,h1,h2,fun i hi=>by rw[h3 i hi,List.getElem_take]⟩
 ·rw[List.length_take]
  have:=h.2.1
  omega
end
section
open Go.RowKit
def arVd (x:ByteArray×Int):Value:= .int .i64 x.2
section
variable {α:Type} {kf:α→ByteArray} {vf:α→Value} {P:Program} (w:World) {ops:Array Oper} {rest:List Oper} {o:Oper} {a:Act} {Q:Exit→Act→World→Prop}
theorem wpl_insertS (hg:o.guard=none) (m x v:Operand) (t:TypeId) (hop:o.op=Op.insert t m x v) (k e:TypeId) (ht:P.underlying t=some (.map k e)) (hk:P.underlying k=some .string)
 (b:Nat) (l:List α) (hm:a.eval m= .map (some b)) (h:MapIs kf vf w b l) (y:α) (hx:a.eval x= .string (kf y)) (hv:a.eval v=vf y)
 (hK:∀w',MapIs kf vf w' b (putL kf l y)→Chg [b] w w'→w'.heap.size=w.heap.size→wpList P ops Q rest (a.put o.dst undef) w'):wpList P ops Q (o::rest) a w:=by
 refine wpList_plain hg fun K' hK'=> ?_
 obtain⟨w',hrun,h1,h2,h3⟩:=h.store ht hk y
 unfold Oper.wp
 simp[execOp,hop,hm,hx,hv,hrun,Result.andThen]
 exact hK' _ _ (hK w' h1 h2 h3)
end
theorem zeroIS (w:World):(zeroValue 3).run Tryz.prog w= .ok (.int .i64 0) w:=by kernel_rfl
def lkZ (L:List (ByteArray×Int)) (s:ByteArray):Int×Bool:=(((lookL Prod.fst L s).map Prod.snd).getD 0,(lookL Prod.fst L s).isSome)
theorem lkZ_val (L:List (ByteArray×Int)) (s:ByteArray):((lookL Prod.fst L s).map arVd).getD (.int .i64 0)= .int .i64 (lkZ L s).1:=by
 unfold lkZ
 cases lookL Prod.fst L s<;>rfl
theorem sarity_any {w:World} {b:Nat} {L:List (ByteArray×Int)} (h:MapIs Prod.fst arVd w b L) (s:ByteArray):Calls Tryz.prog 283 #[.map (some b), .string s] w fun e w'=>e= .returned (.tuple #[.int .i64 (lkZ L s).1, .bool (lkZ L s).2])∧w'=w:=by
 have HL:=LH (lkZ_val L s)
 have HS:=LH (show(lookL Prod.fst L s).isSome=(lkZ L s).2 from rfl)
 have M:=LH h
 generalize lkZ L s=z at*
 clear h
 go_enter Tryz.func283,Tryz.ntmps283
 go_wp2_with (at_lookup;refine wpl_lookup_ok _ rfl _ _ 195 rfl 9 3 Tryz.underlying195 Tryz.underlying9 (zeroIS _) b _ rfl M.out s rfl ?_;rw[HL.out,HS.out])
 go_ret2
 exact⟨rfl,rfl⟩
def biL:List (ByteArray×Int):=[(⟨#[108,101,110]⟩,1),(⟨#[115,116,114]⟩,1),(⟨#[105,110,116]⟩,1),(⟨#[112,117,115,104]⟩,2),(⟨#[112,117,116]⟩,3),(⟨#[107,101,121,115]⟩,1),(⟨#[104,97,115]⟩,2),(⟨#[102,97,105,108]⟩,1)]
def hoL:List (ByteArray×Int):=[(⟨#[103,101,116]⟩,1),(⟨#[112,117,116]⟩,2),(⟨#[100,101,108,101,116,101]⟩,1),(⟨#[115,101,110,100]⟩,2),(⟨#[116,105,109,101,114]⟩,3),(⟨#[115,105,103,110,97,108]⟩,2),(⟨#[115,101,99,114,101,116]⟩,1),(⟨#[102,101,116,99,104]⟩,2),(⟨#[110,111,119]⟩,0),(⟨#[108,111,103]⟩,1)]
theorem builtinL_puts:putL Prod.fst (putL Prod.fst (putL Prod.fst (putL Prod.fst (putL Prod.fst (putL Prod.fst (putL Prod.fst (putL Prod.fst (([]:List (ByteArray×Int))) (⟨#[108,101,110]⟩,1)) (⟨#[115,116,114]⟩,1)) (⟨#[105,110,116]⟩,1)) (⟨#[112,117,115,104]⟩,2)) (⟨#[112,117,116]⟩,3)) (⟨#[107,101,121,115]⟩,1)) (⟨#[104,97,115]⟩,2)) (⟨#[102,97,105,108]⟩,1)=biL:=by kernel_rfl
theorem builtin_any (s:ByteArray) (w:World):Calls Tryz.prog 226 #[.string s] w fun e w'=>e= .returned (.tuple #[.int .i64 (lkZ biL s).1, .bool (lkZ biL s).2])∧Chg [] w w':=by
 have M:=LH (mapIs_new (kf:=Prod.fst) (vf:=arVd) w)
 have C:=LH ((Chg.refl [w.heap.size] w).alloc (.map #[] 0))
 have AR:=LH (fun w' (h:MapIs Prod.fst arVd w' w.heap.size biL)=>sarity_any h s)
 have hmm:= @run_makeMap Tryz.prog
 generalize lkZ biL s=z at*
 go_enter Tryz.func226,Tryz.ntmps226
 go_wp2_with (first
  |(refine wpl_insertS _ rfl _ _ _ 195 rfl 9 3 Tryz.underlying195 Tryz.underlying9 w.heap.size _ rfl M.out ((⟨#[108,101,110]⟩,1):ByteArray×Int) rfl rfl ?_;intro w1 hm1 hc1 hs1;have M:=LH hm1;have C:=LH (C.out.thenSame hc1);clear hm1 hc1 hs1)
  |(refine wpl_insertS _ rfl _ _ _ 195 rfl 9 3 Tryz.underlying195 Tryz.underlying9 w.heap.size _ rfl M.out ((⟨#[115,116,114]⟩,1):ByteArray×Int) rfl rfl ?_;intro w1 hm1 hc1 hs1;have M:=LH hm1;have C:=LH (C.out.thenSame hc1);clear hm1 hc1 hs1)
  |(refine wpl_insertS _ rfl _ _ _ 195 rfl 9 3 Tryz.underlying195 Tryz.underlying9 w.heap.size _ rfl M.out ((⟨#[105,110,116]⟩,1):ByteArray×Int) rfl rfl ?_;intro w1 hm1 hc1 hs1;have M:=LH hm1;have C:=LH (C.out.thenSame hc1);clear hm1 hc1 hs1)
  |(refine wpl_insertS _ rfl _ _ _ 195 rfl 9 3 Tryz.underlying195 Tryz.underlying9 w.heap.size _ rfl M.out ((⟨#[112,117,115,104]⟩,2):ByteArray×Int) rfl rfl ?_;intro w1 hm1 hc1 hs1;have M:=LH hm1;have C:=LH (C.out.thenSame hc1);clear hm1 hc1 hs1)
  |(refine wpl_insertS _ rfl _ _ _ 195 rfl 9 3 Tryz.underlying195 Tryz.underlying9 w.heap.size _ rfl M.out ((⟨#[112,117,116]⟩,3):ByteArray×Int) rfl rfl ?_;intro w1 hm1 hc1 hs1;have M:=LH hm1;have C:=LH (C.out.thenSame hc1);clear hm1 hc1 hs1)
  |(refine wpl_insertS _ rfl _ _ _ 195 rfl 9 3 Tryz.underlying195 Tryz.underlying9 w.heap.size _ rfl M.out ((⟨#[107,101,121,115]⟩,1):ByteArray×Int) rfl rfl ?_;intro w1 hm1 hc1 hs1;have M:=LH hm1;have C:=LH (C.out.thenSame hc1);clear hm1 hc1 hs1)
  |(refine wpl_insertS _ rfl _ _ _ 195 rfl 9 3 Tryz.underlying195 Tryz.underlying9 w.heap.size _ rfl M.out ((⟨#[104,97,115]⟩,2):ByteArray×Int) rfl rfl ?_;intro w1 hm1 hc1 hs1;have M:=LH hm1;have C:=LH (C.out.thenSame hc1);clear hm1 hc1 hs1)
  |(refine wpl_insertS _ rfl _ _ _ 195 rfl 9 3 Tryz.underlying195 Tryz.underlying9 w.heap.size _ rfl M.out ((⟨#[102,97,105,108]⟩,1):ByteArray×Int) rfl rfl ?_;intro w1 hm1 hc1 hs1;have M:=LH hm1;have C:=LH (C.out.thenSame hc1);clear hm1 hc1 hs1)
  |(go_at_call 283;have M:=LH M.out;rw[builtinL_puts]at M;(with_reducible refine Calls.mono (AR.out _ M.out) ?_);rintro e w2 ⟨rfl,rfl⟩))
 go_ret2
 exact⟨rfl,C.out.mono (by intro x hx hlt;simp at hx;omega)⟩
theorem hostopL_puts:putL Prod.fst (putL Prod.fst (putL Prod.fst (putL Prod.fst (putL Prod.fst (putL Prod.fst (putL Prod.fst (putL Prod.fst (putL Prod.fst (putL Prod.fst (([]:List (ByteArray×Int))) (⟨#[103,101,116]⟩,1)) (⟨#[112,117,116]⟩,2)) (⟨#[100,101,108,101,116,101]⟩,1)) (⟨#[115,101,110,100]⟩,2)) (⟨#[116,105,109,101,114]⟩,3)) (⟨#[115,105,103,110,97,108]⟩,2)) (⟨#[115,101,99,114,101,116]⟩,1)) (⟨#[102,101,116,99,104]⟩,2)) (⟨#[110,111,119]⟩,0)) (⟨#[108,111,103]⟩,1)=hoL:=by kernel_rfl
theorem hostop_any (s:ByteArray) (w:World):Calls Tryz.prog 232 #[.string s] w fun e w'=>e= .returned (.tuple #[.int .i64 (lkZ hoL s).1, .bool (lkZ hoL s).2])∧Chg [] w w':=by
 have M:=LH (mapIs_new (kf:=Prod.fst) (vf:=arVd) w)
 have C:=LH ((Chg.refl [w.heap.size] w).alloc (.map #[] 0))
 have AR:=LH (fun w' (h:MapIs Prod.fst arVd w' w.heap.size hoL)=>sarity_any h s)
 have hmm:= @run_makeMap Tryz.prog
 generalize lkZ hoL s=z at*
 go_enter Tryz.func232,Tryz.ntmps232
 go_wp2_with (first
  |(refine wpl_insertS _ rfl _ _ _ 195 rfl 9 3 Tryz.underlying195 Tryz.underlying9 w.heap.size _ rfl M.out ((⟨#[103,101,116]⟩,1):ByteArray×Int) rfl rfl ?_;intro w1 hm1 hc1 hs1;have M:=LH hm1;have C:=LH (C.out.thenSame hc1);clear hm1 hc1 hs1)
  |(refine wpl_insertS _ rfl _ _ _ 195 rfl 9 3 Tryz.underlying195 Tryz.underlying9 w.heap.size _ rfl M.out ((⟨#[112,117,116]⟩,2):ByteArray×Int) rfl rfl ?_;intro w1 hm1 hc1 hs1;have M:=LH hm1;have C:=LH (C.out.thenSame hc1);clear hm1 hc1 hs1)
  |(refine wpl_insertS _ rfl _ _ _ 195 rfl 9 3 Tryz.underlying195 Tryz.underlying9 w.heap.size _ rfl M.out ((⟨#[100,101,108,101,116,101]⟩,1):ByteArray×Int) rfl rfl ?_;intro w1 hm1 hc1 hs1;have M:=LH hm1;have C:=LH (C.out.thenSame hc1);clear hm1 hc1 hs1)
  |(refine wpl_insertS _ rfl _ _ _ 195 rfl 9 3 Tryz.underlying195 Tryz.underlying9 w.heap.size _ rfl M.out ((⟨#[115,101,110,100]⟩,2):ByteArray×Int) rfl rfl ?_;intro w1 hm1 hc1 hs1;have M:=LH hm1;have C:=LH (C.out.thenSame hc1);clear hm1 hc1 hs1)
  |(refine wpl_insertS _ rfl _ _ _ 195 rfl 9 3 Tryz.underlying195 Tryz.underlying9 w.heap.size _ rfl M.out ((⟨#[116,105,109,101,114]⟩,3):ByteArray×Int) rfl rfl ?_;intro w1 hm1 hc1 hs1;have M:=LH hm1;have C:=LH (C.out.thenSame hc1);clear hm1 hc1 hs1)
  |(refine wpl_insertS _ rfl _ _ _ 195 rfl 9 3 Tryz.underlying195 Tryz.underlying9 w.heap.size _ rfl M.out ((⟨#[115,105,103,110,97,108]⟩,2):ByteArray×Int) rfl rfl ?_;intro w1 hm1 hc1 hs1;have M:=LH hm1;have C:=LH (C.out.thenSame hc1);clear hm1 hc1 hs1)
  |(refine wpl_insertS _ rfl _ _ _ 195 rfl 9 3 Tryz.underlying195 Tryz.underlying9 w.heap.size _ rfl M.out ((⟨#[115,101,99,114,101,116]⟩,1):ByteArray×Int) rfl rfl ?_;intro w1 hm1 hc1 hs1;have M:=LH hm1;have C:=LH (C.out.thenSame hc1);clear hm1 hc1 hs1)
  |(refine wpl_insertS _ rfl _ _ _ 195 rfl 9 3 Tryz.underlying195 Tryz.underlying9 w.heap.size _ rfl M.out ((⟨#[102,101,116,99,104]⟩,2):ByteArray×Int) rfl rfl ?_;intro w1 hm1 hc1 hs1;have M:=LH hm1;have C:=LH (C.out.thenSame hc1);clear hm1 hc1 hs1)
  |(refine wpl_insertS _ rfl _ _ _ 195 rfl 9 3 Tryz.underlying195 Tryz.underlying9 w.heap.size _ rfl M.out ((⟨#[110,111,119]⟩,0):ByteArray×Int) rfl rfl ?_;intro w1 hm1 hc1 hs1;have M:=LH hm1;have C:=LH (C.out.thenSame hc1);clear hm1 hc1 hs1)
  |(refine wpl_insertS _ rfl _ _ _ 195 rfl 9 3 Tryz.underlying195 Tryz.underlying9 w.heap.size _ rfl M.out ((⟨#[108,111,103]⟩,1):ByteArray×Int) rfl rfl ?_;intro w1 hm1 hc1 hs1;have M:=LH hm1;have C:=LH (C.out.thenSame hc1);clear hm1 hc1 hs1)
  |(go_at_call 283;have M:=LH M.out;rw[hostopL_puts]at M;(with_reducible refine Calls.mono (AR.out _ M.out) ?_);rintro e w2 ⟨rfl,rfl⟩))
 go_ret2
 exact⟨rfl,C.out.mono (by intro x hx hlt;simp at hx;omega)⟩
end
end Go.Proofs.YtmofknmeljdodaaGreatDoor
