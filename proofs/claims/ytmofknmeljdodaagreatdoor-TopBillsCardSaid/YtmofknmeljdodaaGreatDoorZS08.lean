/- Chapter 9: contract: first. No condition but those that the statements name. -/
import Derived.Deep.DeepCutAuto
import Derived.Lib.MinMax
import Derived.Test.YtmofknmeljdodaaGreatDoorZS01
import Derived.Test.YtmofknmeljdodaaGreatDoorZS07
set_option maxHeartbeats 100000000
set_option maxRecDepth 100000
set_option linter.unusedVariables false
set_option linter.unusedSimpArgs false
open List renaming getElem_toArray→gTA,getElem_cons_zero→gCZ,getElem_cons_succ→gCS,setIfInBounds_toArray→sTA,set_cons_zero→sCZ,set_cons_succ→sCS
namespace Go.Proofs.YtmofknmeljdodaaGreatDoor
section
open Go.RowKit
def firstGo (F:Nat→Int) (l:List PNd) (x:PNd):Nat→Int→Int
 |0,a=>a
 |k+1,a=>if a<1 then -1 else if x.kids[k]?≠some (a-1)then -1 else match l[(a-1).toNat]? with
  |none=> -1
  |some y=>if fitsB x k y.kind=false then -1 else if F (a-1).toNat<0 then -1 else firstGo F l x k (F (a-1).toNat)
def firstF (l:List PNd):Nat→Nat→Int
 |0,_=> -1
 |n+1,i=>match l[i]? with
  |none=> -1
  |some x=>if(fieldsB x&&countB x)=true then firstGo (firstF l n) l x x.kids.length i else -1
theorem firstGo_le {F:Nat→Int} {l:List PNd} {x:PNd} (hF:∀i,F i≤i):∀{k:Nat} {a:Int},0≤a→firstGo F l x k a≤a∧-1≤firstGo F l x k a:=by
 intro k
 induction k with
 |zero=>intro a h;exact⟨Int.le_refl _,by rw[firstGo];omega⟩
 |succ k ih=>
  intro a h
  rw[firstGo]
  split
  ·omega
  ·split
   ·omega
   ·split
    ·omega
    ·split
     ·omega
     ·split
      ·omega
      ·have h1:=hF (a-1).toNat
       have h2:=ih (a:=F (a-1).toNat) (by omega)
       omega
theorem firstF_le {l:List PNd}:∀n i,firstF l n i≤i:=by
 intro n
 induction n with
 |zero=>intro i;rw[firstF];omega
 |succ n ih=>
  intro i
  rw[firstF]
  split
  ·omega
  ·split
   ·exact(firstGo_le ih (by omega)).1
   ·omega
theorem first_all {na:Option Addr} {nc:Nat} {l:List Nd}:∀(n:Nat) (w:World) (_:InIs ndC 5 w na nc l) (_:∀d∈l,NdIn w d) (_:∀d∈l,goodNd d) (_:TabW w) (i:Nat),i<n→i<l.length→Calls Tryz.prog 150 #[.slice na l.length nc, .int .i64 i] w fun e w'=>e= .returned (.int .i64 (firstF (l.map Nd.p) n i))∧Chg [] w w':=by
 intro n
 induction n with
 |zero=>intro w _ _ _ _ i hi;omega
 |succ n ih=>
  intro w h hin hg ht i hi hil
  obtain⟨b1,o1,rfl, -, -,hc1⟩:=h.1.elem (Chg.refl [] w) i hil
  have hil':(i:Int)<(l.length:Int):=by omega
  have hi0:(0:Int)≤(i:Int):=by omega
  have hll:(l.length:Int)≤9223372036854775807:=by have h1:=h.2.1;have h2:=h.2.2.1;unfold maxLen at h2;omega
  have x0:=hc1 0 (by omega)
  have x1:=hc1 1 (by omega)
  have x2:=hc1 2 (by omega)
  have x3:=hc1 3 (by omega)
  have x4:=hc1 4 (by omega)
  simp only[ndC,List.getElem?_cons_zero,List.getElem?_cons_succ,Nat.add_zero]at x0 x1 x2 x3 x4
  obtain⟨R,hR⟩:∃R,R=firstF (l.map Nd.p) (n+1) i:=⟨_,rfl⟩
  rw[←hR]
  rw[firstF,List.getElem?_map,List.getElem?_eq_getElem hil]at hR
  simp only[Option.map_some]at hR
  have hix:=hin _ (List.getElem_mem hil)
  have hgx:=hg _ (List.getElem_mem hil)
  have IH:=LH (fun w' (hc:Chg [] w w') j (hj:j<i)=>ih w' (h.kept hc) (fun d hd=>(hin d hd).kept hc) hg (ht.kept hc) j (by omega) (by omega))
  have KD:=LH (fun w' (hc:Chg [] w w') j (hj:j<l.length)=>show w'.cell? ⟨b1,o1+j*5,none⟩=some (.int .i64 (l[j]).kind)from by
   obtain⟨b2,o2,e, -, -,hcc⟩:=h.1.elem hc j hj
   cases e
   have e:=hcc 0 (by omega)
   simp only[ndC,List.getElem?_cons_zero,Nat.add_zero]at e
   exact e)
  generalize l[i]=x at*
  have HIX:=LH hix
  obtain⟨W1,hW1⟩:∃W1,W1=w.alloc (ndO x):=⟨_,rfl⟩
  have C1:=LH (show Chg [] w W1 by rw[hW1];exact(Chg.refl _ _).alloc _)
  have B1:=LH (show W1.heap[w.heap.size]? =some (ndO x) by rw[hW1];exact heap_alloc_new _ _)
  have A1:=fields_any x W1 (hix.kept C1.out) hgx (ht.kept C1.out)
  have A2:=fun w'=>count_any x w'
  have A3:=fun k part w'=>fitsd_any x k part w'
  have HKL:Hid ((x.kids.length:Int)≤9223372036854775807):=LH (by have h1:=hix.2.2.1;have h2:=hix.2.2.2.1;unfold maxLen at h2;omega)
  unfold ndO at hW1 B1
  simp only[ndC]at A1 A2 A3
  have A1:=LH A1
  have A2:=LH A2
  have A3:=LH A3
  rename_i A10 A20 A30
  have HR:=LH hR
  clear A10 A20 A30 hc1 hR h hin hg ht hix hgx ih
  have k1:=blk_cell B1.out
  cases hf:fieldsB x.p
  ·rw[hf]at A1
   have HE:=LH (show R= -1 by rw[HR.out,hf];rfl)
   clear hf
   go_enter Tryz.func150,Tryz.ntmps150
   go_upto_region 2 with fail
   rw[←hW1]
   clear hW1 x0 x1 x2 x3 x4
   go_wp2_with (go_at_call 221;(with_reducible refine Calls.mono A1.out ?_);rintro e w2 ⟨rfl,hc⟩;have C2:=LH (C1.out.thenSame hc);clear hc)
   go_ret
   exact⟨retI HE.out.symm,C2.out⟩
  cases hcn:countB x.p
  ·rw[hf]at A1
   rw[hcn]at A2
   have HE:=LH (show R= -1 by rw[HR.out,hf,hcn];rfl)
   clear hf hcn
   go_enter Tryz.func150,Tryz.ntmps150
   go_upto_region 2 with fail
   rw[←hW1]
   clear hW1 x0 x1 x2 x3 x4
   go_wp2_with (first|(go_at_call 221;(with_reducible refine Calls.mono A1.out ?_);rintro e w2 ⟨rfl,hc⟩;have C2:=LH (C1.out.thenSame hc);have k2:=blk_cell (hc.at (by simp) B1.out);clear hc)|(go_at_call 222;(with_reducible refine Calls.mono (A2.out _) ?_);rintro e w3 ⟨rfl,hc⟩;have C3:=LH (C2.out.thenSame hc);clear hc))
   go_ret
   exact⟨retI HE.out.symm,C3.out⟩
  rw[hf]at A1
  rw[hcn]at A2
  have HRR:=LH (show R=firstGo (firstF (l.map Nd.p) n) (l.map Nd.p) x.p x.kids.length i by rw[HR.out,hf,hcn];rfl)
  clear hf hcn HR
  go_enter Tryz.func150,Tryz.ntmps150
  go_upto_region 2 with fail
  rw[←hW1]
  clear hW1 x0 x1 x2 x3 x4
  go_upto_region 4 with (first|(go_at_call 221;(with_reducible refine Calls.mono A1.out ?_);rintro e w2 ⟨rfl,hc⟩;have C2:=LH (C1.out.thenSame hc);have B2:=LH (hc.at (by simp) B1.out);have k2:=blk_cell B2.out;clear hc)|(go_at_call 222;(with_reducible refine Calls.mono (A2.out _) ?_);rintro e w3 ⟨rfl,hc⟩;have C3:=LH (C2.out.thenSame hc);have B3:=LH (hc.at (by simp) B2.out);have k3:=blk_cell B3.out;clear hc))
  have hkl:=HKL.out
  have hk0:(0:Int)≤(x.kids.length:Int):=by omega
  have qk:IntKind.i64.wrap ((x.kids.length:Int)-1)=(x.kids.length:Int)-1:=IntWalk.i64_in _ (by omega)
  go_wp2_with fail
  go_loopw [6,7] (fun u v wr=>∃(kk:Nat) (a k7:Int),u= .int .i64 a∧v= .int .i64 k7∧kk≤x.kids.length∧(0≤a∧a≤(i:Int))∧Hid (k7=(kk:Int)-1)∧Hid (R=firstGo (firstF (l.map Nd.p) n) (l.map Nd.p) x.p kk a)∧Hid (Chg [] w wr)∧Hid (wr.heap[w.heap.size]? =some (.cells #[.int .i64 x.kind, .string x.text, .int .i64 x.n, .slice x.ka x.keys.length x.kc, .slice x.da x.kids.length x.dc] 297 (0,0)))) (fun _ v _=>(intOf v+1).toNat)
  case atStart=>exact⟨x.kids.length,(i:Int),(x.kids.length:Int)-1,rfl,rfl,Nat.le_refl _,⟨hi0,Int.le_refl _⟩,LH rfl,HRR,C3,B3⟩
  case round=>
   obtain⟨kk,a,k7,rfl,rfl,hkk,⟨ha0,hai⟩,HK,HS,D,B⟩:=hrel
   cases kk with
   |zero=>
    obtain rfl:k7= -1:=by rw[HK.out];rfl
    have HE:=LH (show R=a by rw[HS.out];rfl)
    go_wp2_with fail
    go_ret
    exact⟨retI HE.out.symm,D.out⟩
   |succ kk=>
    obtain rfl:k7=(kk:Int):=by rw[HK.out];omega
    have hkn:kk<x.kids.length:=by omega
    have hkn':(kk:Int)<(x.kids.length:Int):=by omega
    have hkk0:(0:Int)≤(kk:Int):=by omega
    obtain⟨b2,o2,e2, -, -,hc2⟩:=HIX.out.2.1.elem D.out kk hkn
    have HSG:=HS.out
    rw[firstGo]at HSG
    have KW:=LH (fun w' (hc:Chg [] wr w')=>blk_cell (show w'.heap[w.heap.size]? =some (.cells _ _ (0,0))from hc.at (by simp) B.out))
    by_cases ha1:a<1
    ·have HE:=LH (show R= -1 by rw[HSG,if_pos ha1])
     clear HSG hc2
     go_upto_region 8 with fail
     refine wp_region_noPanic ?_
     refine wp_region_held_drew (S:=(fun _=>True)) (by kernel_rfl) trivial (fun hHeld=> ?_)
     refine wpAnyH_take (i:=0) (oi:=_) (v:= ?vA_0) rfl (by kernel_rfl) (by kernel_rfl) (by kernel_rfl) (fun _ _ _ h=>h) (Or.inl ⟨by rfl, ?yA_0⟩) hHeld ?rA_0
     case yA_0=>(intro w hSw;(try dsimp only at hSw);(try simp only[gTA,gCZ,gCS]);go_simp<;>with_reducible rfl)
     (try simp only[gTA,gCZ,gCS,Act.put,sTA,sCZ,sCS])
     refine wpAnyH_take (i:=1) (oi:=_) (v:= ?vA_1) rfl (by kernel_rfl) (by kernel_rfl) (by kernel_rfl) (fun _ _ _ h=>h) (Or.inl ⟨by rfl, ?yA_1⟩) hHeld ?rA_1
     case yA_1=>(intro w hSw;(try dsimp only at hSw);(try simp only[gTA,gCZ,gCS]);go_simp<;>with_reducible rfl)
     (try simp only[gTA,gCZ,gCS,Act.put,sTA,sCZ,sCS])
     refine wpAnyH_take (i:=2) (oi:=_) (v:= ?vA_2) rfl (by kernel_rfl) (by kernel_rfl) (by kernel_rfl) (fun _ _ _ h=>h) (Or.inl ⟨by rfl, ?yA_2⟩) hHeld ?rA_2
     case yA_2=>(intro w hSw;(try dsimp only at hSw);(try simp only[gTA,gCZ,gCS]);go_simp<;>with_reducible rfl)
     (try simp only[gTA,gCZ,gCS,Act.put,sTA,sCZ,sCS])
     refine wpAnyH_take (i:=3) (oi:=_) (v:=_) rfl (by kernel_rfl) (by kernel_rfl) (by kernel_rfl) (fun _ _ _ h=>h) (Or.inr ⟨by rfl,rfl⟩) hHeld ?_
     (try simp only[gTA,gCZ,gCS,Act.put,sTA,sCZ,sCS])
     refine wpAnyH_take (i:=4) (oi:=_) (v:=_) rfl (by kernel_rfl) (by kernel_rfl) (by kernel_rfl) (fun _ _ _ h=>h) (Or.inr ⟨by rfl,rfl⟩) hHeld ?_
     (try simp only[gTA,gCZ,gCS,Act.put,sTA,sCZ,sCS])
     refine wpAnyH_take (i:=5) (oi:=_) (v:=_) rfl (by kernel_rfl) (by kernel_rfl) (by kernel_rfl) (fun _ _ _ h=>h) (Or.inr ⟨by rfl,rfl⟩) hHeld ?_
     (try simp only[gTA,gCZ,gCS,Act.put,sTA,sCZ,sCS])
     refine wpAnyH_take (i:=6) (oi:=_) (v:=_) rfl (by kernel_rfl) (by kernel_rfl) (by kernel_rfl) (fun _ _ _ h=>h) (Or.inr ⟨by rfl,rfl⟩) hHeld ?_
     (try simp only[gTA,gCZ,gCS,Act.put,sTA,sCZ,sCS])
     refine wpAnyH_take (i:=7) (oi:=_) (v:=_) rfl (by kernel_rfl) (by kernel_rfl) (by kernel_rfl) (fun _ _ _ h=>h) (Or.inr ⟨by rfl,rfl⟩) hHeld ?_
     (try simp only[gTA,gCZ,gCS,Act.put,sTA,sCZ,sCS])
     refine wpAnyH_take (i:=8) (oi:=_) (v:=_) rfl (by kernel_rfl) (by kernel_rfl) (by kernel_rfl) (fun _ _ _ h=>h) (Or.inr ⟨by rfl,rfl⟩) hHeld ?_
     (try simp only[gTA,gCZ,gCS,Act.put,sTA,sCZ,sCS])
     refine wpAnyH_take (i:=9) (oi:=_) (v:=_) rfl (by kernel_rfl) (by kernel_rfl) (by kernel_rfl) (fun _ _ _ h=>h) (Or.inr ⟨by rfl,rfl⟩) hHeld ?_
     (try simp only[gTA,gCZ,gCS,Act.put,sTA,sCZ,sCS])
     refine wpAnyH_take (i:=10) (oi:=_) (v:=_) rfl (by kernel_rfl) (by kernel_rfl) (by kernel_rfl) (fun _ _ _ h=>h) (Or.inr ⟨by rfl,rfl⟩) hHeld ?_
     (try simp only[gTA,gCZ,gCS,Act.put,sTA,sCZ,sCS])
     refine wpAnyH_take (i:=11) (oi:=_) (v:= ?vA_11) rfl (by kernel_rfl) (by kernel_rfl) (by kernel_rfl) (fun _ _ _ h=>h) (Or.inl ⟨by rfl, ?yA_11⟩) hHeld ?rA_11
     case yA_11=>(intro w hSw;(try dsimp only at hSw);(try simp only[gTA,gCZ,gCS]);go_simp<;>with_reducible rfl)
     (try simp only[gTA,gCZ,gCS,Act.put,sTA,sCZ,sCS])
     refine wpAnyH_take (i:=12) (oi:=_) (v:= ?vA_12) rfl (by kernel_rfl) (by kernel_rfl) (by kernel_rfl) (fun _ _ _ h=>h) (Or.inl ⟨by rfl, ?yA_12⟩) hHeld ?rA_12
     case yA_12=>(intro w hSw;(try dsimp only at hSw);(try simp only[gTA,gCZ,gCS]);go_simp<;>with_reducible rfl)
     (try simp only[gTA,gCZ,gCS,Act.put,sTA,sCZ,sCS])
     refine wpAnyH_take (i:=13) (oi:=_) (v:=_) rfl (by kernel_rfl) (by kernel_rfl) (by kernel_rfl) (fun _ _ _ h=>h) (Or.inr ⟨by rfl,rfl⟩) hHeld ?_
     (try simp only[gTA,gCZ,gCS,Act.put,sTA,sCZ,sCS])
     refine wpAnyH_take (i:=14) (oi:=_) (v:=_) rfl (by kernel_rfl) (by kernel_rfl) (by kernel_rfl) (fun _ _ _ h=>h) (Or.inr ⟨by rfl,rfl⟩) hHeld ?_
     (try simp only[gTA,gCZ,gCS,Act.put,sTA,sCZ,sCS])
     refine wpAnyH_take (i:=15) (oi:=_) (v:=_) rfl (by kernel_rfl) (by kernel_rfl) (by kernel_rfl) (fun _ _ _ h=>h) (Or.inr ⟨by rfl,rfl⟩) hHeld ?_
     (try simp only[gTA,gCZ,gCS,Act.put,sTA,sCZ,sCS])
     refine wpAnyH_take (i:=16) (oi:=_) (v:=_) rfl (by kernel_rfl) (by kernel_rfl) (by kernel_rfl) (fun _ _ _ h=>h) (Or.inr ⟨by rfl,rfl⟩) hHeld ?_
     (try simp only[gTA,gCZ,gCS,Act.put,sTA,sCZ,sCS])
     refine wpAnyH_take (i:=17) (oi:=_) (v:=_) rfl (by kernel_rfl) (by kernel_rfl) (by kernel_rfl) (fun _ _ _ h=>h) (Or.inr ⟨by rfl,rfl⟩) hHeld ?_
     (try simp only[gTA,gCZ,gCS,Act.put,sTA,sCZ,sCS])
     refine wpAnyH_take (i:=18) (oi:=_) (v:=_) rfl (by kernel_rfl) (by kernel_rfl) (by kernel_rfl) (fun _ _ _ h=>h) (Or.inr ⟨by rfl,rfl⟩) hHeld ?_
     (try simp only[gTA,gCZ,gCS,Act.put,sTA,sCZ,sCS])
     refine wpAnyH_take (i:=19) (oi:=_) (v:=_) rfl (by kernel_rfl) (by kernel_rfl) (by kernel_rfl) (fun _ _ _ h=>h) (Or.inr ⟨by rfl,rfl⟩) hHeld ?_
     (try simp only[gTA,gCZ,gCS,Act.put,sTA,sCZ,sCS])
     refine wpAnyH_take (i:=20) (oi:=_) (v:=_) rfl (by kernel_rfl) (by kernel_rfl) (by kernel_rfl) (fun _ _ _ h=>h) (Or.inr ⟨by rfl,rfl⟩) hHeld ?_
     (try simp only[gTA,gCZ,gCS,Act.put,sTA,sCZ,sCS])
     refine wpAnyH_take (i:=21) (oi:=_) (v:=_) rfl (by kernel_rfl) (by kernel_rfl) (by kernel_rfl) (fun _ _ _ h=>h) (Or.inr ⟨by rfl,rfl⟩) hHeld ?_
     (try simp only[gTA,gCZ,gCS,Act.put,sTA,sCZ,sCS])
     refine wpAnyH_take (i:=22) (oi:=_) (v:=_) rfl (by kernel_rfl) (by kernel_rfl) (by kernel_rfl) (fun _ _ _ h=>h) (Or.inr ⟨by rfl,rfl⟩) hHeld ?_
     (try simp only[gTA,gCZ,gCS,Act.put,sTA,sCZ,sCS])
     refine wpAnyH_take (i:=23) (oi:=_) (v:= ?vA_23) rfl (by kernel_rfl) (by kernel_rfl) (by kernel_rfl) (fun _ _ _ h=>h) (Or.inl ⟨by rfl, ?yA_23⟩) hHeld ?rA_23
     case yA_23=>(intro w hSw;(try dsimp only at hSw);(try simp only[gTA,gCZ,gCS]);go_simp<;>with_reducible rfl)
     (try simp only[gTA,gCZ,gCS,Act.put,sTA,sCZ,sCS])
     refine wpAnyH_done (by kernel_rfl) ?_ _
     refine NoPanic.normal ?_
     go_wp2_with fail
     go_ret
     exact⟨retI HE.out.symm,D.out.drew⟩
    obtain⟨m,rfl⟩:∃m:Nat,a=(m:Int)+1:=⟨(a-1).toNat,by omega⟩
    have hmi:m<i:=by omega
    have hml:m<l.length:=by omega
    have hml':(m:Int)<(l.length:Int):=by omega
    have hm0:(0:Int)≤(m:Int):=by omega
    have q1:IntKind.i64.wrap ((m:Int)+1-1)=(m:Int):=by rw[IntWalk.i64_in _ (by omega)];omega
    have qw:IntKind.i64.wrap (m:Int)=(m:Int):=IntWalk.i64_in _ (by omega)
    have qt:((m:Int)+1-1).toNat=m:=by omega
    have qe:(m:Int)+1-1=(m:Int):=by omega
    rw[if_neg ha1,qt,qe,List.getElem?_map,List.getElem?_eq_getElem hml]at HSG
    simp only[Option.map_some]at HSG
    have hkv:(x.p.kids)[kk]? =some x.kids[kk]:=List.getElem?_eq_getElem hkn
    rw[hkv]at HSG
    have CE:=LH (fun w' (hc:Chg [] wr w')=>show((w'.cell? ⟨w.heap.size,0,none⟩=some (.int .i64 x.kind)∧w'.cell? ⟨w.heap.size,1,none⟩=some (.string x.text)∧w'.cell? ⟨w.heap.size,2,none⟩=some (.int .i64 x.n)∧w'.cell? ⟨w.heap.size,3,none⟩=some (.slice x.ka x.keys.length x.kc)∧w'.cell? ⟨w.heap.size,4,none⟩=some (.slice (some ⟨b2,o2,none⟩) x.kids.length x.dc))∧w'.cell? ⟨b2,o2+kk,none⟩=some (.int .i64 x.kids[kk])∧w'.cell? ⟨b1,o1+m*5,none⟩=some (.int .i64 (l[m]).kind))from by
     have k:=KW.out w' hc
     refine⟨⟨k 0,k 1,k 2,k 3,by have:=k 4;rw[←e2];exact this⟩, ?_,KD.out w' (D.out.thenSame hc) m hml⟩
     obtain⟨b3,o3,e3, -, -,hcc⟩:=HIX.out.2.1.elem (D.out.thenSame hc) kk hkn
     rw[e2]at e3
     cases e3
     have e:=hcc 0 (by omega)
     simp only[icI,List.getElem?_cons_zero,Nat.add_zero,Nat.mul_one]at e
     exact e)
    have AR:=LH (fun w' (hc:Chg [] w w')=>IH.out w' hc m hmi)
    have hkd:(l[m]).p.kind=(l[m]).kind:=rfl
    rw[hkd]at HSG
    generalize x.kids[kk]=v at*
    generalize (l[m]).kind=pk at*
    have hfl:=firstF_le (l:=l.map Nd.p) n m
    generalize hff:firstF (l.map Nd.p) n m=f at*
    have qn: ¬(m:Int)+1<1:=by omega
    have E2:=LH e2
    clear hc2 hkv ha1 qt qe hkd e2
    by_cases hv:v=(m:Int)
    case neg=>
     have hvb:(v !=(m:Int))=true:=bne_iff_ne.2 hv
     have hvb2:(v==(m:Int))=false:=beq_eq_false_iff_ne.2 hv
     have HE:=LH (show R= -1 by rw[HSG,if_pos (by simpa using hv)])
     clear HSG hv
     go_upto_region 8 with fail
     refine wp_region_noPanic ?_
     refine wp_region_held_drew (S:=(fun w'=>(w'.cell? ⟨w.heap.size,0,none⟩=some (.int .i64 x.kind)∧w'.cell? ⟨w.heap.size,1,none⟩=some (.string x.text)∧w'.cell? ⟨w.heap.size,2,none⟩=some (.int .i64 x.n)∧w'.cell? ⟨w.heap.size,3,none⟩=some (.slice x.ka x.keys.length x.kc)∧w'.cell? ⟨w.heap.size,4,none⟩=some (.slice (some ⟨b2,o2,none⟩) x.kids.length x.dc))∧w'.cell? ⟨b2,o2+kk,none⟩=some (.int .i64 v)∧w'.cell? ⟨b1,o1+m*5,none⟩=some (.int .i64 pk))) (by kernel_rfl) (CE.out _ (Chg.refl _ _).drew) (fun hHeld=> ?_)
     refine wpAnyH_take (i:=0) (oi:=_) (v:= ?vB_0) rfl (by kernel_rfl) (by kernel_rfl) (by kernel_rfl) (fun _ _ _ h=>h) (Or.inl ⟨by rfl, ?yB_0⟩) hHeld ?rB_0
     case yB_0=>(intro w hSw;(try dsimp only at hSw);(try simp only[gTA,gCZ,gCS]);go_simp<;>with_reducible rfl)
     (try simp only[gTA,gCZ,gCS,Act.put,sTA,sCZ,sCS])
     refine wpAnyH_take (i:=1) (oi:=_) (v:= ?vB_1) rfl (by kernel_rfl) (by kernel_rfl) (by kernel_rfl) (fun _ _ _ h=>h) (Or.inl ⟨by rfl, ?yB_1⟩) hHeld ?rB_1
     case yB_1=>(intro w hSw;(try dsimp only at hSw);(try simp only[gTA,gCZ,gCS]);go_simp<;>with_reducible rfl)
     (try simp only[gTA,gCZ,gCS,Act.put,sTA,sCZ,sCS])
     refine wpAnyH_take (i:=2) (oi:=_) (v:= ?vB_2) rfl (by kernel_rfl) (by kernel_rfl) (by kernel_rfl) (fun _ _ _ h=>h) (Or.inl ⟨by rfl, ?yB_2⟩) hHeld ?rB_2
     case yB_2=>(intro w hSw;(try dsimp only at hSw);(try simp only[gTA,gCZ,gCS]);go_simp<;>with_reducible rfl)
     (try simp only[gTA,gCZ,gCS,Act.put,sTA,sCZ,sCS])
     refine wpAnyH_take (i:=3) (oi:=_) (v:= ?vB_3) rfl (by kernel_rfl) (by kernel_rfl) (by kernel_rfl) (fun _ _ _ h=>h) (Or.inl ⟨by rfl, ?yB_3⟩) hHeld ?rB_3
     case yB_3=>(intro w hSw;(try dsimp only at hSw);(try simp only[gTA,gCZ,gCS]);go_simp<;>with_reducible rfl)
     (try simp only[gTA,gCZ,gCS,Act.put,sTA,sCZ,sCS])
     refine wpAnyH_take (i:=4) (oi:=_) (v:= ?vB_4) rfl (by kernel_rfl) (by kernel_rfl) (by kernel_rfl) (fun _ _ _ h=>h) (Or.inl ⟨by rfl, ?yB_4⟩) hHeld ?rB_4
     case yB_4=>(intro w hSw;(try dsimp only at hSw);(try simp only[gTA,gCZ,gCS]);go_simp<;>with_reducible rfl)
     (try simp only[gTA,gCZ,gCS,Act.put,sTA,sCZ,sCS])
     refine wpAnyH_take (i:=5) (oi:=_) (v:= ?vB_5) rfl (by kernel_rfl) (by kernel_rfl) (by kernel_rfl) (fun _ _ _ h=>h) (Or.inl ⟨by rfl, ?yB_5⟩) hHeld ?rB_5
     case yB_5=>(intro w hSw;(try dsimp only at hSw);(try simp only[gTA,gCZ,gCS]);go_simp<;>with_reducible rfl)
     (try simp only[gTA,gCZ,gCS,Act.put,sTA,sCZ,sCS])
     refine wpAnyH_take (i:=6) (oi:=_) (v:= ?vB_6) rfl (by kernel_rfl) (by kernel_rfl) (by kernel_rfl) (fun _ _ _ h=>h) (Or.inl ⟨by rfl, ?yB_6⟩) hHeld ?rB_6
     case yB_6=>(intro w hSw;(try dsimp only at hSw);(try simp only[gTA,gCZ,gCS]);go_simp<;>with_reducible rfl)
     (try simp only[gTA,gCZ,gCS,Act.put,sTA,sCZ,sCS])
     refine wpAnyH_take (i:=7) (oi:=_) (v:= ?vB_7) rfl (by kernel_rfl) (by kernel_rfl) (by kernel_rfl) (fun _ _ _ h=>h) (Or.inl ⟨by rfl, ?yB_7⟩) hHeld ?rB_7
     case yB_7=>(intro w hSw;(try dsimp only at hSw);(try simp only[gTA,gCZ,gCS]);go_simp<;>with_reducible rfl)
     (try simp only[gTA,gCZ,gCS,Act.put,sTA,sCZ,sCS])
     refine wpAnyH_take (i:=8) (oi:=_) (v:= ?vB_8) rfl (by kernel_rfl) (by kernel_rfl) (by kernel_rfl) (fun _ _ _ h=>h) (Or.inl ⟨by rfl, ?yB_8⟩) hHeld ?rB_8
     case yB_8=>(intro w hSw;(try dsimp only at hSw);(try simp only[gTA,gCZ,gCS]);go_simp<;>with_reducible rfl)
     (try simp only[gTA,gCZ,gCS,Act.put,sTA,sCZ,sCS])
     refine wpAnyH_take (i:=9) (oi:=_) (v:= ?vB_9) rfl (by kernel_rfl) (by kernel_rfl) (by kernel_rfl) (fun _ _ _ h=>h) (Or.inl ⟨by rfl, ?yB_9⟩) hHeld ?rB_9
     case yB_9=>(intro w hSw;(try dsimp only at hSw);(try simp only[gTA,gCZ,gCS]);go_simp<;>with_reducible rfl)
     (try simp only[gTA,gCZ,gCS,Act.put,sTA,sCZ,sCS])
     refine wpAnyH_take (i:=10) (oi:=_) (v:= ?vB_10) rfl (by kernel_rfl) (by kernel_rfl) (by kernel_rfl) (fun _ _ _ h=>h) (Or.inl ⟨by rfl, ?yB_10⟩) hHeld ?rB_10
     case yB_10=>(intro w hSw;(try dsimp only at hSw);(try simp only[gTA,gCZ,gCS]);go_simp<;>with_reducible rfl)
     (try simp only[gTA,gCZ,gCS,Act.put,sTA,sCZ,sCS])
     refine wpAnyH_take (i:=11) (oi:=_) (v:= ?vB_11) rfl (by kernel_rfl) (by kernel_rfl) (by kernel_rfl) (fun _ _ _ h=>h) (Or.inl ⟨by rfl, ?yB_11⟩) hHeld ?rB_11
     case yB_11=>(intro w hSw;(try dsimp only at hSw);(try simp only[gTA,gCZ,gCS]);go_simp<;>with_reducible rfl)
     (try simp only[gTA,gCZ,gCS,Act.put,sTA,sCZ,sCS])
     refine wpAnyH_take (i:=12) (oi:=_) (v:= ?vB_12) rfl (by kernel_rfl) (by kernel_rfl) (by kernel_rfl) (fun _ _ _ h=>h) (Or.inl ⟨by rfl, ?yB_12⟩) hHeld ?rB_12
     case yB_12=>(intro w hSw;(try dsimp only at hSw);(try simp only[gTA,gCZ,gCS]);go_simp<;>with_reducible rfl)
     (try simp only[gTA,gCZ,gCS,Act.put,sTA,sCZ,sCS])
     refine wpAnyH_take (i:=13) (oi:=_) (v:=_) rfl (by kernel_rfl) (by kernel_rfl) (by kernel_rfl) (fun _ _ _ h=>h) (Or.inr ⟨by rfl,rfl⟩) hHeld ?_
     (try simp only[gTA,gCZ,gCS,Act.put,sTA,sCZ,sCS])
     refine wpAnyH_take (i:=14) (oi:=_) (v:=_) rfl (by kernel_rfl) (by kernel_rfl) (by kernel_rfl) (fun _ _ _ h=>h) (Or.inr ⟨by rfl,rfl⟩) hHeld ?_
     (try simp only[gTA,gCZ,gCS,Act.put,sTA,sCZ,sCS])
     refine wpAnyH_take (i:=15) (oi:=_) (v:=_) rfl (by kernel_rfl) (by kernel_rfl) (by kernel_rfl) (fun _ _ _ h=>h) (Or.inr ⟨by rfl,rfl⟩) hHeld ?_
     (try simp only[gTA,gCZ,gCS,Act.put,sTA,sCZ,sCS])
     refine wpAnyH_take (i:=16) (oi:=_) (v:=_) rfl (by kernel_rfl) (by kernel_rfl) (by kernel_rfl) (fun _ _ _ h=>h) (Or.inr ⟨by rfl,rfl⟩) hHeld ?_
     (try simp only[gTA,gCZ,gCS,Act.put,sTA,sCZ,sCS])
     refine wpAnyH_take (i:=17) (oi:=_) (v:=_) rfl (by kernel_rfl) (by kernel_rfl) (by kernel_rfl) (fun _ _ _ h=>h) (Or.inr ⟨by rfl,rfl⟩) hHeld ?_
     (try simp only[gTA,gCZ,gCS,Act.put,sTA,sCZ,sCS])
     refine wpAnyH_take (i:=18) (oi:=_) (v:=_) rfl (by kernel_rfl) (by kernel_rfl) (by kernel_rfl) (fun _ _ _ h=>h) (Or.inr ⟨by rfl,rfl⟩) hHeld ?_
     (try simp only[gTA,gCZ,gCS,Act.put,sTA,sCZ,sCS])
     refine wpAnyH_take (i:=19) (oi:=_) (v:=_) rfl (by kernel_rfl) (by kernel_rfl) (by kernel_rfl) (fun _ _ _ h=>h) (Or.inr ⟨by rfl,rfl⟩) hHeld ?_
     (try simp only[gTA,gCZ,gCS,Act.put,sTA,sCZ,sCS])
     refine wpAnyH_take (i:=20) (oi:=_) (v:=_) rfl (by kernel_rfl) (by kernel_rfl) (by kernel_rfl) (fun _ _ _ h=>h) (Or.inr ⟨by rfl,rfl⟩) hHeld ?_
     (try simp only[gTA,gCZ,gCS,Act.put,sTA,sCZ,sCS])
     refine wpAnyH_take (i:=21) (oi:=_) (v:=_) rfl (by kernel_rfl) (by kernel_rfl) (by kernel_rfl) (fun _ _ _ h=>h) (Or.inr ⟨by rfl,rfl⟩) hHeld ?_
     (try simp only[gTA,gCZ,gCS,Act.put,sTA,sCZ,sCS])
     refine wpAnyH_take (i:=22) (oi:=_) (v:=_) rfl (by kernel_rfl) (by kernel_rfl) (by kernel_rfl) (fun _ _ _ h=>h) (Or.inr ⟨by rfl,rfl⟩) hHeld ?_
     (try simp only[gTA,gCZ,gCS,Act.put,sTA,sCZ,sCS])
     refine wpAnyH_take (i:=23) (oi:=_) (v:= ?vB_23) rfl (by kernel_rfl) (by kernel_rfl) (by kernel_rfl) (fun _ _ _ h=>h) (Or.inl ⟨by rfl, ?yB_23⟩) hHeld ?rB_23
     case yB_23=>(intro w hSw;(try dsimp only at hSw);(try simp only[gTA,gCZ,gCS]);go_simp<;>with_reducible rfl)
     (try simp only[gTA,gCZ,gCS,Act.put,sTA,sCZ,sCS])
     refine wpAnyH_done (by kernel_rfl) ?_ _
     refine NoPanic.normal ?_
     go_wp2_with fail
     go_ret
     exact⟨retI HE.out.symm,D.out.drew⟩
    subst hv
    rw[if_neg (by simp)]at HSG
    have hvb:((m:Int)!=(m:Int))=false:=by simp
    have FT0:=fun w'=>A3.out (kk:Int) pk w'
    rw[E2.out]at FT0
    have FT:=LH FT0
    clear FT0 E2
    cases hq:fitsB x.p (kk:Int) pk
    ·rw[hq]at FT
     have HE:=LH (show R= -1 by rw[HSG,hq];rfl)
     clear HSG hq
     go_upto_region 8 with fail
     refine wp_region_noPanic ?_
     refine wp_region_held_drew (S:=(fun w'=>(w'.cell? ⟨w.heap.size,0,none⟩=some (.int .i64 x.kind)∧w'.cell? ⟨w.heap.size,1,none⟩=some (.string x.text)∧w'.cell? ⟨w.heap.size,2,none⟩=some (.int .i64 x.n)∧w'.cell? ⟨w.heap.size,3,none⟩=some (.slice x.ka x.keys.length x.kc)∧w'.cell? ⟨w.heap.size,4,none⟩=some (.slice (some ⟨b2,o2,none⟩) x.kids.length x.dc))∧w'.cell? ⟨b2,o2+kk,none⟩=some (.int .i64 (m:Int))∧w'.cell? ⟨b1,o1+m*5,none⟩=some (.int .i64 pk))) (by kernel_rfl) (CE.out _ (Chg.refl _ _).drew) (fun hHeld=> ?_)
     refine wpAnyH_take (i:=0) (oi:=_) (v:= ?vC_0) rfl (by kernel_rfl) (by kernel_rfl) (by kernel_rfl) (fun _ _ _ h=>h) (Or.inl ⟨by rfl, ?yC_0⟩) hHeld ?rC_0
     case yC_0=>(intro w hSw;(try dsimp only at hSw);(try simp only[gTA,gCZ,gCS]);go_simp<;>with_reducible rfl)
     (try simp only[gTA,gCZ,gCS,Act.put,sTA,sCZ,sCS])
     refine wpAnyH_take (i:=1) (oi:=_) (v:= ?vC_1) rfl (by kernel_rfl) (by kernel_rfl) (by kernel_rfl) (fun _ _ _ h=>h) (Or.inl ⟨by rfl, ?yC_1⟩) hHeld ?rC_1
     case yC_1=>(intro w hSw;(try dsimp only at hSw);(try simp only[gTA,gCZ,gCS]);go_simp<;>with_reducible rfl)
     (try simp only[gTA,gCZ,gCS,Act.put,sTA,sCZ,sCS])
     refine wpAnyH_take (i:=2) (oi:=_) (v:= ?vC_2) rfl (by kernel_rfl) (by kernel_rfl) (by kernel_rfl) (fun _ _ _ h=>h) (Or.inl ⟨by rfl, ?yC_2⟩) hHeld ?rC_2
     case yC_2=>(intro w hSw;(try dsimp only at hSw);(try simp only[gTA,gCZ,gCS]);go_simp<;>with_reducible rfl)
     (try simp only[gTA,gCZ,gCS,Act.put,sTA,sCZ,sCS])
     refine wpAnyH_take (i:=3) (oi:=_) (v:= ?vC_3) rfl (by kernel_rfl) (by kernel_rfl) (by kernel_rfl) (fun _ _ _ h=>h) (Or.inl ⟨by rfl, ?yC_3⟩) hHeld ?rC_3
     case yC_3=>(intro w hSw;(try dsimp only at hSw);(try simp only[gTA,gCZ,gCS]);go_simp<;>with_reducible rfl)
     (try simp only[gTA,gCZ,gCS,Act.put,sTA,sCZ,sCS])
     refine wpAnyH_take (i:=4) (oi:=_) (v:= ?vC_4) rfl (by kernel_rfl) (by kernel_rfl) (by kernel_rfl) (fun _ _ _ h=>h) (Or.inl ⟨by rfl, ?yC_4⟩) hHeld ?rC_4
     case yC_4=>(intro w hSw;(try dsimp only at hSw);(try simp only[gTA,gCZ,gCS]);go_simp<;>with_reducible rfl)
     (try simp only[gTA,gCZ,gCS,Act.put,sTA,sCZ,sCS])
     refine wpAnyH_take (i:=5) (oi:=_) (v:= ?vC_5) rfl (by kernel_rfl) (by kernel_rfl) (by kernel_rfl) (fun _ _ _ h=>h) (Or.inl ⟨by rfl, ?yC_5⟩) hHeld ?rC_5
     case yC_5=>(intro w hSw;(try dsimp only at hSw);(try simp only[gTA,gCZ,gCS]);go_simp<;>with_reducible rfl)
     (try simp only[gTA,gCZ,gCS,Act.put,sTA,sCZ,sCS])
     refine wpAnyH_take (i:=6) (oi:=_) (v:= ?vC_6) rfl (by kernel_rfl) (by kernel_rfl) (by kernel_rfl) (fun _ _ _ h=>h) (Or.inl ⟨by rfl, ?yC_6⟩) hHeld ?rC_6
     case yC_6=>(intro w hSw;(try dsimp only at hSw);(try simp only[gTA,gCZ,gCS]);go_simp<;>with_reducible rfl)
     (try simp only[gTA,gCZ,gCS,Act.put,sTA,sCZ,sCS])
     refine wpAnyH_take (i:=7) (oi:=_) (v:= ?vC_7) rfl (by kernel_rfl) (by kernel_rfl) (by kernel_rfl) (fun _ _ _ h=>h) (Or.inl ⟨by rfl, ?yC_7⟩) hHeld ?rC_7
     case yC_7=>(intro w hSw;(try dsimp only at hSw);(try simp only[gTA,gCZ,gCS]);go_simp<;>with_reducible rfl)
     (try simp only[gTA,gCZ,gCS,Act.put,sTA,sCZ,sCS])
     refine wpAnyH_take (i:=8) (oi:=_) (v:= ?vC_8) rfl (by kernel_rfl) (by kernel_rfl) (by kernel_rfl) (fun _ _ _ h=>h) (Or.inl ⟨by rfl, ?yC_8⟩) hHeld ?rC_8
     case yC_8=>(intro w hSw;(try dsimp only at hSw);(try simp only[gTA,gCZ,gCS]);go_simp<;>with_reducible rfl)
     (try simp only[gTA,gCZ,gCS,Act.put,sTA,sCZ,sCS])
     refine wpAnyH_take (i:=9) (oi:=_) (v:= ?vC_9) rfl (by kernel_rfl) (by kernel_rfl) (by kernel_rfl) (fun _ _ _ h=>h) (Or.inl ⟨by rfl, ?yC_9⟩) hHeld ?rC_9
     case yC_9=>(intro w hSw;(try dsimp only at hSw);(try simp only[gTA,gCZ,gCS]);go_simp<;>with_reducible rfl)
     (try simp only[gTA,gCZ,gCS,Act.put,sTA,sCZ,sCS])
     refine wpAnyH_take (i:=10) (oi:=_) (v:= ?vC_10) rfl (by kernel_rfl) (by kernel_rfl) (by kernel_rfl) (fun _ _ _ h=>h) (Or.inl ⟨by rfl, ?yC_10⟩) hHeld ?rC_10
     case yC_10=>(intro w hSw;(try dsimp only at hSw);(try simp only[gTA,gCZ,gCS]);go_simp<;>with_reducible rfl)
     (try simp only[gTA,gCZ,gCS,Act.put,sTA,sCZ,sCS])
     refine wpAnyH_take (i:=11) (oi:=_) (v:= ?vC_11) rfl (by kernel_rfl) (by kernel_rfl) (by kernel_rfl) (fun _ _ _ h=>h) (Or.inl ⟨by rfl, ?yC_11⟩) hHeld ?rC_11
     case yC_11=>(intro w hSw;(try dsimp only at hSw);(try simp only[gTA,gCZ,gCS]);go_simp<;>with_reducible rfl)
     (try simp only[gTA,gCZ,gCS,Act.put,sTA,sCZ,sCS])
     refine wpAnyH_take (i:=12) (oi:=_) (v:= ?vC_12) rfl (by kernel_rfl) (by kernel_rfl) (by kernel_rfl) (fun _ _ _ h=>h) (Or.inl ⟨by rfl, ?yC_12⟩) hHeld ?rC_12
     case yC_12=>(intro w hSw;(try dsimp only at hSw);(try simp only[gTA,gCZ,gCS]);go_simp<;>with_reducible rfl)
     (try simp only[gTA,gCZ,gCS,Act.put,sTA,sCZ,sCS])
     refine wpAnyH_take (i:=13) (oi:=_) (v:= ?vC_13) rfl (by kernel_rfl) (by kernel_rfl) (by kernel_rfl) (fun _ _ _ h=>h) (Or.inl ⟨by rfl, ?yC_13⟩) hHeld ?rC_13
     case yC_13=>(intro w hSw;(try dsimp only at hSw);(try simp only[gTA,gCZ,gCS]);go_simp<;>with_reducible rfl)
     (try simp only[gTA,gCZ,gCS,Act.put,sTA,sCZ,sCS])
     refine wpAnyH_take (i:=14) (oi:=_) (v:= ?vC_14) rfl (by kernel_rfl) (by kernel_rfl) (by kernel_rfl) (fun _ _ _ h=>h) (Or.inl ⟨by rfl, ?yC_14⟩) hHeld ?rC_14
     case yC_14=>(intro w hSw;(try dsimp only at hSw);(try simp only[gTA,gCZ,gCS]);go_simp<;>with_reducible rfl)
     (try simp only[gTA,gCZ,gCS,Act.put,sTA,sCZ,sCS])
     refine wpAnyH_take (i:=15) (oi:=_) (v:= ?vC_15) rfl (by kernel_rfl) (by kernel_rfl) (by kernel_rfl) (fun _ _ _ h=>h) (Or.inl ⟨by rfl, ?yC_15⟩) hHeld ?rC_15
     case yC_15=>(intro w hSw;(try dsimp only at hSw);(try simp only[gTA,gCZ,gCS]);go_simp<;>with_reducible rfl)
     (try simp only[gTA,gCZ,gCS,Act.put,sTA,sCZ,sCS])
     refine wpAnyH_take (i:=16) (oi:=_) (v:= ?vC_16) rfl (by kernel_rfl) (by kernel_rfl) (by kernel_rfl) (fun _ _ _ h=>h) (Or.inl ⟨by rfl, ?yC_16⟩) hHeld ?rC_16
     case yC_16=>(intro w hSw;(try dsimp only at hSw);(try simp only[gTA,gCZ,gCS]);go_simp<;>with_reducible rfl)
     (try simp only[gTA,gCZ,gCS,Act.put,sTA,sCZ,sCS])
     refine wpAnyH_take (i:=17) (oi:=_) (v:= ?vC_17) rfl (by kernel_rfl) (by kernel_rfl) (by kernel_rfl) (fun _ _ _ h=>h) (Or.inl ⟨by rfl, ?yC_17⟩) hHeld ?rC_17
     case yC_17=>(intro w hSw;(try dsimp only at hSw);(try simp only[gTA,gCZ,gCS]);go_simp<;>with_reducible rfl)
     (try simp only[gTA,gCZ,gCS,Act.put,sTA,sCZ,sCS])
     refine wpAnyH_take (i:=18) (oi:=_) (v:= ?vC_18) rfl (by kernel_rfl) (by kernel_rfl) (by kernel_rfl) (fun _ _ _ h=>h) (Or.inl ⟨by rfl, ?yC_18⟩) hHeld ?rC_18
     case yC_18=>(intro w hSw;(try dsimp only at hSw);(try simp only[gTA,gCZ,gCS]);go_simp<;>with_reducible rfl)
     (try simp only[gTA,gCZ,gCS,Act.put,sTA,sCZ,sCS])
     refine wpAnyH_take (i:=19) (oi:=_) (v:= ?vC_19) rfl (by kernel_rfl) (by kernel_rfl) (by kernel_rfl) (fun _ _ _ h=>h) (Or.inl ⟨by rfl, ?yC_19⟩) hHeld ?rC_19
     case yC_19=>(intro w hSw;(try dsimp only at hSw);(try simp only[gTA,gCZ,gCS]);go_simp<;>with_reducible rfl)
     (try simp only[gTA,gCZ,gCS,Act.put,sTA,sCZ,sCS])
     refine wpAnyH_take (i:=20) (oi:=_) (v:= ?vC_20) rfl (by kernel_rfl) (by kernel_rfl) (by kernel_rfl) (fun _ _ _ h=>h) (Or.inl ⟨by rfl, ?yC_20⟩) hHeld ?rC_20
     case yC_20=>(intro w hSw;(try dsimp only at hSw);(try simp only[gTA,gCZ,gCS]);go_simp<;>with_reducible rfl)
     (try simp only[gTA,gCZ,gCS,Act.put,sTA,sCZ,sCS])
     refine wpAnyH_ready (rs:=[21]) (by kernel_rfl) (by simp) ?_
     refine AllReadyH.cons (o:=_) rfl (fun K hK=> ?_) AllReadyH.nil
     (try simp only[gTA,gCZ,gCS])
     go_simp
     ((with_reducible refine Calls.mono (FT.out _) ?_);rintro e w5 ⟨rfl,hc⟩;have E5:=LH ((Chg.refl [] wr).drew.thenSame hc);clear hc)
     refine hK.out _ _ ?_ (fun hHeld=> ?_)
     exact CE.out _ E5.out
     clear hK K
     (try simp only[gTA,gCZ,gCS,Act.put,sTA,sCZ,sCS])
     refine wpAnyH_take (i:=22) (oi:=_) (v:= ?vC_22) rfl (by kernel_rfl) (by kernel_rfl) (by kernel_rfl) (fun _ _ _ h=>h) (Or.inl ⟨by rfl, ?yC_22⟩) hHeld ?rC_22
     case yC_22=>(intro w hSw;(try dsimp only at hSw);(try simp only[gTA,gCZ,gCS]);go_simp<;>with_reducible rfl)
     (try simp only[gTA,gCZ,gCS,Act.put,sTA,sCZ,sCS])
     refine wpAnyH_take (i:=23) (oi:=_) (v:= ?vC_23) rfl (by kernel_rfl) (by kernel_rfl) (by kernel_rfl) (fun _ _ _ h=>h) (Or.inl ⟨by rfl, ?yC_23⟩) hHeld ?rC_23
     case yC_23=>(intro w hSw;(try dsimp only at hSw);(try simp only[gTA,gCZ,gCS]);go_simp<;>with_reducible rfl)
     (try simp only[gTA,gCZ,gCS,Act.put,sTA,sCZ,sCS])
     refine wpAnyH_done (by kernel_rfl) ?_ _
     refine NoPanic.normal ?_
     go_wp2_with fail
     go_ret
     exact⟨retI HE.out.symm,D.out.thenSame E5.out⟩
    rw[hq]at FT
    rw[hq,if_neg (by simp)]at HSG
    clear hq
    by_cases hf0:f<0
    ·have HE:=LH (show R= -1 by rw[HSG,if_pos hf0])
     clear HSG
     go_upto_region 8 with fail
     refine wp_region_noPanic ?_
     refine wp_region_held_drew (S:=(fun w'=>(w'.cell? ⟨w.heap.size,0,none⟩=some (.int .i64 x.kind)∧w'.cell? ⟨w.heap.size,1,none⟩=some (.string x.text)∧w'.cell? ⟨w.heap.size,2,none⟩=some (.int .i64 x.n)∧w'.cell? ⟨w.heap.size,3,none⟩=some (.slice x.ka x.keys.length x.kc)∧w'.cell? ⟨w.heap.size,4,none⟩=some (.slice (some ⟨b2,o2,none⟩) x.kids.length x.dc))∧w'.cell? ⟨b2,o2+kk,none⟩=some (.int .i64 (m:Int))∧w'.cell? ⟨b1,o1+m*5,none⟩=some (.int .i64 pk))) (by kernel_rfl) (CE.out _ (Chg.refl _ _).drew) (fun hHeld=> ?_)
     refine wpAnyH_take (i:=0) (oi:=_) (v:= ?vD_0) rfl (by kernel_rfl) (by kernel_rfl) (by kernel_rfl) (fun _ _ _ h=>h) (Or.inl ⟨by rfl, ?yD_0⟩) hHeld ?rD_0
     case yD_0=>(intro w hSw;(try dsimp only at hSw);(try simp only[gTA,gCZ,gCS]);go_simp<;>with_reducible rfl)
     (try simp only[gTA,gCZ,gCS,Act.put,sTA,sCZ,sCS])
     refine wpAnyH_take (i:=1) (oi:=_) (v:= ?vD_1) rfl (by kernel_rfl) (by kernel_rfl) (by kernel_rfl) (fun _ _ _ h=>h) (Or.inl ⟨by rfl, ?yD_1⟩) hHeld ?rD_1
     case yD_1=>(intro w hSw;(try dsimp only at hSw);(try simp only[gTA,gCZ,gCS]);go_simp<;>with_reducible rfl)
     (try simp only[gTA,gCZ,gCS,Act.put,sTA,sCZ,sCS])
     refine wpAnyH_take (i:=2) (oi:=_) (v:= ?vD_2) rfl (by kernel_rfl) (by kernel_rfl) (by kernel_rfl) (fun _ _ _ h=>h) (Or.inl ⟨by rfl, ?yD_2⟩) hHeld ?rD_2
     case yD_2=>(intro w hSw;(try dsimp only at hSw);(try simp only[gTA,gCZ,gCS]);go_simp<;>with_reducible rfl)
     (try simp only[gTA,gCZ,gCS,Act.put,sTA,sCZ,sCS])
     refine wpAnyH_take (i:=3) (oi:=_) (v:= ?vD_3) rfl (by kernel_rfl) (by kernel_rfl) (by kernel_rfl) (fun _ _ _ h=>h) (Or.inl ⟨by rfl, ?yD_3⟩) hHeld ?rD_3
     case yD_3=>(intro w hSw;(try dsimp only at hSw);(try simp only[gTA,gCZ,gCS]);go_simp<;>with_reducible rfl)
     (try simp only[gTA,gCZ,gCS,Act.put,sTA,sCZ,sCS])
     refine wpAnyH_take (i:=4) (oi:=_) (v:= ?vD_4) rfl (by kernel_rfl) (by kernel_rfl) (by kernel_rfl) (fun _ _ _ h=>h) (Or.inl ⟨by rfl, ?yD_4⟩) hHeld ?rD_4
     case yD_4=>(intro w hSw;(try dsimp only at hSw);(try simp only[gTA,gCZ,gCS]);go_simp<;>with_reducible rfl)
     (try simp only[gTA,gCZ,gCS,Act.put,sTA,sCZ,sCS])
     refine wpAnyH_take (i:=5) (oi:=_) (v:= ?vD_5) rfl (by kernel_rfl) (by kernel_rfl) (by kernel_rfl) (fun _ _ _ h=>h) (Or.inl ⟨by rfl, ?yD_5⟩) hHeld ?rD_5
     case yD_5=>(intro w hSw;(try dsimp only at hSw);(try simp only[gTA,gCZ,gCS]);go_simp<;>with_reducible rfl)
     (try simp only[gTA,gCZ,gCS,Act.put,sTA,sCZ,sCS])
     refine wpAnyH_take (i:=6) (oi:=_) (v:= ?vD_6) rfl (by kernel_rfl) (by kernel_rfl) (by kernel_rfl) (fun _ _ _ h=>h) (Or.inl ⟨by rfl, ?yD_6⟩) hHeld ?rD_6
     case yD_6=>(intro w hSw;(try dsimp only at hSw);(try simp only[gTA,gCZ,gCS]);go_simp<;>with_reducible rfl)
     (try simp only[gTA,gCZ,gCS,Act.put,sTA,sCZ,sCS])
     refine wpAnyH_take (i:=7) (oi:=_) (v:= ?vD_7) rfl (by kernel_rfl) (by kernel_rfl) (by kernel_rfl) (fun _ _ _ h=>h) (Or.inl ⟨by rfl, ?yD_7⟩) hHeld ?rD_7
     case yD_7=>(intro w hSw;(try dsimp only at hSw);(try simp only[gTA,gCZ,gCS]);go_simp<;>with_reducible rfl)
     (try simp only[gTA,gCZ,gCS,Act.put,sTA,sCZ,sCS])
     refine wpAnyH_take (i:=8) (oi:=_) (v:= ?vD_8) rfl (by kernel_rfl) (by kernel_rfl) (by kernel_rfl) (fun _ _ _ h=>h) (Or.inl ⟨by rfl, ?yD_8⟩) hHeld ?rD_8
     case yD_8=>(intro w hSw;(try dsimp only at hSw);(try simp only[gTA,gCZ,gCS]);go_simp<;>with_reducible rfl)
     (try simp only[gTA,gCZ,gCS,Act.put,sTA,sCZ,sCS])
     refine wpAnyH_take (i:=9) (oi:=_) (v:= ?vD_9) rfl (by kernel_rfl) (by kernel_rfl) (by kernel_rfl) (fun _ _ _ h=>h) (Or.inl ⟨by rfl, ?yD_9⟩) hHeld ?rD_9
     case yD_9=>(intro w hSw;(try dsimp only at hSw);(try simp only[gTA,gCZ,gCS]);go_simp<;>with_reducible rfl)
     (try simp only[gTA,gCZ,gCS,Act.put,sTA,sCZ,sCS])
     refine wpAnyH_take (i:=10) (oi:=_) (v:= ?vD_10) rfl (by kernel_rfl) (by kernel_rfl) (by kernel_rfl) (fun _ _ _ h=>h) (Or.inl ⟨by rfl, ?yD_10⟩) hHeld ?rD_10
     case yD_10=>(intro w hSw;(try dsimp only at hSw);(try simp only[gTA,gCZ,gCS]);go_simp<;>with_reducible rfl)
     (try simp only[gTA,gCZ,gCS,Act.put,sTA,sCZ,sCS])
     refine wpAnyH_take (i:=11) (oi:=_) (v:= ?vD_11) rfl (by kernel_rfl) (by kernel_rfl) (by kernel_rfl) (fun _ _ _ h=>h) (Or.inl ⟨by rfl, ?yD_11⟩) hHeld ?rD_11
     case yD_11=>(intro w hSw;(try dsimp only at hSw);(try simp only[gTA,gCZ,gCS]);go_simp<;>with_reducible rfl)
     (try simp only[gTA,gCZ,gCS,Act.put,sTA,sCZ,sCS])
     refine wpAnyH_take (i:=12) (oi:=_) (v:= ?vD_12) rfl (by kernel_rfl) (by kernel_rfl) (by kernel_rfl) (fun _ _ _ h=>h) (Or.inl ⟨by rfl, ?yD_12⟩) hHeld ?rD_12
     case yD_12=>(intro w hSw;(try dsimp only at hSw);(try simp only[gTA,gCZ,gCS]);go_simp<;>with_reducible rfl)
     (try simp only[gTA,gCZ,gCS,Act.put,sTA,sCZ,sCS])
     refine wpAnyH_take (i:=13) (oi:=_) (v:= ?vD_13) rfl (by kernel_rfl) (by kernel_rfl) (by kernel_rfl) (fun _ _ _ h=>h) (Or.inl ⟨by rfl, ?yD_13⟩) hHeld ?rD_13
     case yD_13=>(intro w hSw;(try dsimp only at hSw);(try simp only[gTA,gCZ,gCS]);go_simp<;>with_reducible rfl)
     (try simp only[gTA,gCZ,gCS,Act.put,sTA,sCZ,sCS])
     refine wpAnyH_take (i:=14) (oi:=_) (v:= ?vD_14) rfl (by kernel_rfl) (by kernel_rfl) (by kernel_rfl) (fun _ _ _ h=>h) (Or.inl ⟨by rfl, ?yD_14⟩) hHeld ?rD_14
     case yD_14=>(intro w hSw;(try dsimp only at hSw);(try simp only[gTA,gCZ,gCS]);go_simp<;>with_reducible rfl)
     (try simp only[gTA,gCZ,gCS,Act.put,sTA,sCZ,sCS])
     refine wpAnyH_take (i:=15) (oi:=_) (v:= ?vD_15) rfl (by kernel_rfl) (by kernel_rfl) (by kernel_rfl) (fun _ _ _ h=>h) (Or.inl ⟨by rfl, ?yD_15⟩) hHeld ?rD_15
     case yD_15=>(intro w hSw;(try dsimp only at hSw);(try simp only[gTA,gCZ,gCS]);go_simp<;>with_reducible rfl)
     (try simp only[gTA,gCZ,gCS,Act.put,sTA,sCZ,sCS])
     refine wpAnyH_take (i:=16) (oi:=_) (v:= ?vD_16) rfl (by kernel_rfl) (by kernel_rfl) (by kernel_rfl) (fun _ _ _ h=>h) (Or.inl ⟨by rfl, ?yD_16⟩) hHeld ?rD_16
     case yD_16=>(intro w hSw;(try dsimp only at hSw);(try simp only[gTA,gCZ,gCS]);go_simp<;>with_reducible rfl)
     (try simp only[gTA,gCZ,gCS,Act.put,sTA,sCZ,sCS])
     refine wpAnyH_take (i:=17) (oi:=_) (v:= ?vD_17) rfl (by kernel_rfl) (by kernel_rfl) (by kernel_rfl) (fun _ _ _ h=>h) (Or.inl ⟨by rfl, ?yD_17⟩) hHeld ?rD_17
     case yD_17=>(intro w hSw;(try dsimp only at hSw);(try simp only[gTA,gCZ,gCS]);go_simp<;>with_reducible rfl)
     (try simp only[gTA,gCZ,gCS,Act.put,sTA,sCZ,sCS])
     refine wpAnyH_take (i:=18) (oi:=_) (v:= ?vD_18) rfl (by kernel_rfl) (by kernel_rfl) (by kernel_rfl) (fun _ _ _ h=>h) (Or.inl ⟨by rfl, ?yD_18⟩) hHeld ?rD_18
     case yD_18=>(intro w hSw;(try dsimp only at hSw);(try simp only[gTA,gCZ,gCS]);go_simp<;>with_reducible rfl)
     (try simp only[gTA,gCZ,gCS,Act.put,sTA,sCZ,sCS])
     refine wpAnyH_take (i:=19) (oi:=_) (v:= ?vD_19) rfl (by kernel_rfl) (by kernel_rfl) (by kernel_rfl) (fun _ _ _ h=>h) (Or.inl ⟨by rfl, ?yD_19⟩) hHeld ?rD_19
     case yD_19=>(intro w hSw;(try dsimp only at hSw);(try simp only[gTA,gCZ,gCS]);go_simp<;>with_reducible rfl)
     (try simp only[gTA,gCZ,gCS,Act.put,sTA,sCZ,sCS])
     refine wpAnyH_take (i:=20) (oi:=_) (v:= ?vD_20) rfl (by kernel_rfl) (by kernel_rfl) (by kernel_rfl) (fun _ _ _ h=>h) (Or.inl ⟨by rfl, ?yD_20⟩) hHeld ?rD_20
     case yD_20=>(intro w hSw;(try dsimp only at hSw);(try simp only[gTA,gCZ,gCS]);go_simp<;>with_reducible rfl)
     (try simp only[gTA,gCZ,gCS,Act.put,sTA,sCZ,sCS])
     refine wpAnyH_ready (rs:=[21]) (by kernel_rfl) (by simp) ?_
     refine AllReadyH.cons (o:=_) rfl (fun K hK=> ?_) AllReadyH.nil
     (try simp only[gTA,gCZ,gCS])
     go_simp
     ((with_reducible refine Calls.mono (FT.out _) ?_);rintro e w5 ⟨rfl,hc⟩;have E5:=LH ((Chg.refl [] wr).drew.thenSame hc);clear hc)
     refine hK.out _ _ ?_ (fun hHeld=> ?_)
     exact CE.out _ E5.out
     clear hK K
     (try simp only[gTA,gCZ,gCS,Act.put,sTA,sCZ,sCS])
     refine wpAnyH_take (i:=22) (oi:=_) (v:= ?vD_22) rfl (by kernel_rfl) (by kernel_rfl) (by kernel_rfl) (fun _ _ _ h=>h) (Or.inl ⟨by rfl, ?yD_22⟩) hHeld ?rD_22
     case yD_22=>(intro w hSw;(try dsimp only at hSw);(try simp only[gTA,gCZ,gCS]);go_simp<;>with_reducible rfl)
     (try simp only[gTA,gCZ,gCS,Act.put,sTA,sCZ,sCS])
     refine wpAnyH_take (i:=23) (oi:=_) (v:= ?vD_23) rfl (by kernel_rfl) (by kernel_rfl) (by kernel_rfl) (fun _ _ _ h=>h) (Or.inl ⟨by rfl, ?yD_23⟩) hHeld ?rD_23
     case yD_23=>(intro w hSw;(try dsimp only at hSw);(try simp only[gTA,gCZ,gCS]);go_simp<;>with_reducible rfl)
     (try simp only[gTA,gCZ,gCS,Act.put,sTA,sCZ,sCS])
     refine wpAnyH_done (by kernel_rfl) ?_ _
     refine NoPanic.normal ?_
     go_wp2_with (go_at_call 150;(with_reducible refine Calls.mono (AR.out _ (D.out.thenSame E5.out)) ?_);rintro e w6 ⟨rfl,hc⟩;have D6:=LH ((D.out.thenSame E5.out).thenSame hc);clear hc)
     go_ret
     exact⟨retI HE.out.symm,D6.out⟩
    ·have HS2:=LH (show R=firstGo (firstF (l.map Nd.p) n) (l.map Nd.p) x.p kk f by rw[HSG,if_neg hf0])
     have hf1:0≤f:=by omega
     have qk2:IntKind.i64.wrap ((kk:Int)-1)=(kk:Int)-1:=IntWalk.i64_in _ (by omega)
     clear HSG
     go_upto_region 8 with fail
     refine wp_region_noPanic ?_
     refine wp_region_held_drew (S:=(fun w'=>(w'.cell? ⟨w.heap.size,0,none⟩=some (.int .i64 x.kind)∧w'.cell? ⟨w.heap.size,1,none⟩=some (.string x.text)∧w'.cell? ⟨w.heap.size,2,none⟩=some (.int .i64 x.n)∧w'.cell? ⟨w.heap.size,3,none⟩=some (.slice x.ka x.keys.length x.kc)∧w'.cell? ⟨w.heap.size,4,none⟩=some (.slice (some ⟨b2,o2,none⟩) x.kids.length x.dc))∧w'.cell? ⟨b2,o2+kk,none⟩=some (.int .i64 (m:Int))∧w'.cell? ⟨b1,o1+m*5,none⟩=some (.int .i64 pk))) (by kernel_rfl) (CE.out _ (Chg.refl _ _).drew) (fun hHeld=> ?_)
     refine wpAnyH_take (i:=0) (oi:=_) (v:= ?vE_0) rfl (by kernel_rfl) (by kernel_rfl) (by kernel_rfl) (fun _ _ _ h=>h) (Or.inl ⟨by rfl, ?yE_0⟩) hHeld ?rE_0
     case yE_0=>(intro w hSw;(try dsimp only at hSw);(try simp only[gTA,gCZ,gCS]);go_simp<;>with_reducible rfl)
     (try simp only[gTA,gCZ,gCS,Act.put,sTA,sCZ,sCS])
     refine wpAnyH_take (i:=1) (oi:=_) (v:= ?vE_1) rfl (by kernel_rfl) (by kernel_rfl) (by kernel_rfl) (fun _ _ _ h=>h) (Or.inl ⟨by rfl, ?yE_1⟩) hHeld ?rE_1
     case yE_1=>(intro w hSw;(try dsimp only at hSw);(try simp only[gTA,gCZ,gCS]);go_simp<;>with_reducible rfl)
     (try simp only[gTA,gCZ,gCS,Act.put,sTA,sCZ,sCS])
     refine wpAnyH_take (i:=2) (oi:=_) (v:= ?vE_2) rfl (by kernel_rfl) (by kernel_rfl) (by kernel_rfl) (fun _ _ _ h=>h) (Or.inl ⟨by rfl, ?yE_2⟩) hHeld ?rE_2
     case yE_2=>(intro w hSw;(try dsimp only at hSw);(try simp only[gTA,gCZ,gCS]);go_simp<;>with_reducible rfl)
     (try simp only[gTA,gCZ,gCS,Act.put,sTA,sCZ,sCS])
     refine wpAnyH_take (i:=3) (oi:=_) (v:= ?vE_3) rfl (by kernel_rfl) (by kernel_rfl) (by kernel_rfl) (fun _ _ _ h=>h) (Or.inl ⟨by rfl, ?yE_3⟩) hHeld ?rE_3
     case yE_3=>(intro w hSw;(try dsimp only at hSw);(try simp only[gTA,gCZ,gCS]);go_simp<;>with_reducible rfl)
     (try simp only[gTA,gCZ,gCS,Act.put,sTA,sCZ,sCS])
     refine wpAnyH_take (i:=4) (oi:=_) (v:= ?vE_4) rfl (by kernel_rfl) (by kernel_rfl) (by kernel_rfl) (fun _ _ _ h=>h) (Or.inl ⟨by rfl, ?yE_4⟩) hHeld ?rE_4
     case yE_4=>(intro w hSw;(try dsimp only at hSw);(try simp only[gTA,gCZ,gCS]);go_simp<;>with_reducible rfl)
     (try simp only[gTA,gCZ,gCS,Act.put,sTA,sCZ,sCS])
     refine wpAnyH_take (i:=5) (oi:=_) (v:= ?vE_5) rfl (by kernel_rfl) (by kernel_rfl) (by kernel_rfl) (fun _ _ _ h=>h) (Or.inl ⟨by rfl, ?yE_5⟩) hHeld ?rE_5
     case yE_5=>(intro w hSw;(try dsimp only at hSw);(try simp only[gTA,gCZ,gCS]);go_simp<;>with_reducible rfl)
     (try simp only[gTA,gCZ,gCS,Act.put,sTA,sCZ,sCS])
     refine wpAnyH_take (i:=6) (oi:=_) (v:= ?vE_6) rfl (by kernel_rfl) (by kernel_rfl) (by kernel_rfl) (fun _ _ _ h=>h) (Or.inl ⟨by rfl, ?yE_6⟩) hHeld ?rE_6
     case yE_6=>(intro w hSw;(try dsimp only at hSw);(try simp only[gTA,gCZ,gCS]);go_simp<;>with_reducible rfl)
     (try simp only[gTA,gCZ,gCS,Act.put,sTA,sCZ,sCS])
     refine wpAnyH_take (i:=7) (oi:=_) (v:= ?vE_7) rfl (by kernel_rfl) (by kernel_rfl) (by kernel_rfl) (fun _ _ _ h=>h) (Or.inl ⟨by rfl, ?yE_7⟩) hHeld ?rE_7
     case yE_7=>(intro w hSw;(try dsimp only at hSw);(try simp only[gTA,gCZ,gCS]);go_simp<;>with_reducible rfl)
     (try simp only[gTA,gCZ,gCS,Act.put,sTA,sCZ,sCS])
     refine wpAnyH_take (i:=8) (oi:=_) (v:= ?vE_8) rfl (by kernel_rfl) (by kernel_rfl) (by kernel_rfl) (fun _ _ _ h=>h) (Or.inl ⟨by rfl, ?yE_8⟩) hHeld ?rE_8
     case yE_8=>(intro w hSw;(try dsimp only at hSw);(try simp only[gTA,gCZ,gCS]);go_simp<;>with_reducible rfl)
     (try simp only[gTA,gCZ,gCS,Act.put,sTA,sCZ,sCS])
     refine wpAnyH_take (i:=9) (oi:=_) (v:= ?vE_9) rfl (by kernel_rfl) (by kernel_rfl) (by kernel_rfl) (fun _ _ _ h=>h) (Or.inl ⟨by rfl, ?yE_9⟩) hHeld ?rE_9
     case yE_9=>(intro w hSw;(try dsimp only at hSw);(try simp only[gTA,gCZ,gCS]);go_simp<;>with_reducible rfl)
     (try simp only[gTA,gCZ,gCS,Act.put,sTA,sCZ,sCS])
     refine wpAnyH_take (i:=10) (oi:=_) (v:= ?vE_10) rfl (by kernel_rfl) (by kernel_rfl) (by kernel_rfl) (fun _ _ _ h=>h) (Or.inl ⟨by rfl, ?yE_10⟩) hHeld ?rE_10
     case yE_10=>(intro w hSw;(try dsimp only at hSw);(try simp only[gTA,gCZ,gCS]);go_simp<;>with_reducible rfl)
     (try simp only[gTA,gCZ,gCS,Act.put,sTA,sCZ,sCS])
     refine wpAnyH_take (i:=11) (oi:=_) (v:= ?vE_11) rfl (by kernel_rfl) (by kernel_rfl) (by kernel_rfl) (fun _ _ _ h=>h) (Or.inl ⟨by rfl, ?yE_11⟩) hHeld ?rE_11
     case yE_11=>(intro w hSw;(try dsimp only at hSw);(try simp only[gTA,gCZ,gCS]);go_simp<;>with_reducible rfl)
     (try simp only[gTA,gCZ,gCS,Act.put,sTA,sCZ,sCS])
     refine wpAnyH_take (i:=12) (oi:=_) (v:= ?vE_12) rfl (by kernel_rfl) (by kernel_rfl) (by kernel_rfl) (fun _ _ _ h=>h) (Or.inl ⟨by rfl, ?yE_12⟩) hHeld ?rE_12
     case yE_12=>(intro w hSw;(try dsimp only at hSw);(try simp only[gTA,gCZ,gCS]);go_simp<;>with_reducible rfl)
     (try simp only[gTA,gCZ,gCS,Act.put,sTA,sCZ,sCS])
     refine wpAnyH_take (i:=13) (oi:=_) (v:= ?vE_13) rfl (by kernel_rfl) (by kernel_rfl) (by kernel_rfl) (fun _ _ _ h=>h) (Or.inl ⟨by rfl, ?yE_13⟩) hHeld ?rE_13
     case yE_13=>(intro w hSw;(try dsimp only at hSw);(try simp only[gTA,gCZ,gCS]);go_simp<;>with_reducible rfl)
     (try simp only[gTA,gCZ,gCS,Act.put,sTA,sCZ,sCS])
     refine wpAnyH_take (i:=14) (oi:=_) (v:= ?vE_14) rfl (by kernel_rfl) (by kernel_rfl) (by kernel_rfl) (fun _ _ _ h=>h) (Or.inl ⟨by rfl, ?yE_14⟩) hHeld ?rE_14
     case yE_14=>(intro w hSw;(try dsimp only at hSw);(try simp only[gTA,gCZ,gCS]);go_simp<;>with_reducible rfl)
     (try simp only[gTA,gCZ,gCS,Act.put,sTA,sCZ,sCS])
     refine wpAnyH_take (i:=15) (oi:=_) (v:= ?vE_15) rfl (by kernel_rfl) (by kernel_rfl) (by kernel_rfl) (fun _ _ _ h=>h) (Or.inl ⟨by rfl, ?yE_15⟩) hHeld ?rE_15
     case yE_15=>(intro w hSw;(try dsimp only at hSw);(try simp only[gTA,gCZ,gCS]);go_simp<;>with_reducible rfl)
     (try simp only[gTA,gCZ,gCS,Act.put,sTA,sCZ,sCS])
     refine wpAnyH_take (i:=16) (oi:=_) (v:= ?vE_16) rfl (by kernel_rfl) (by kernel_rfl) (by kernel_rfl) (fun _ _ _ h=>h) (Or.inl ⟨by rfl, ?yE_16⟩) hHeld ?rE_16
     case yE_16=>(intro w hSw;(try dsimp only at hSw);(try simp only[gTA,gCZ,gCS]);go_simp<;>with_reducible rfl)
     (try simp only[gTA,gCZ,gCS,Act.put,sTA,sCZ,sCS])
     refine wpAnyH_take (i:=17) (oi:=_) (v:= ?vE_17) rfl (by kernel_rfl) (by kernel_rfl) (by kernel_rfl) (fun _ _ _ h=>h) (Or.inl ⟨by rfl, ?yE_17⟩) hHeld ?rE_17
     case yE_17=>(intro w hSw;(try dsimp only at hSw);(try simp only[gTA,gCZ,gCS]);go_simp<;>with_reducible rfl)
     (try simp only[gTA,gCZ,gCS,Act.put,sTA,sCZ,sCS])
     refine wpAnyH_take (i:=18) (oi:=_) (v:= ?vE_18) rfl (by kernel_rfl) (by kernel_rfl) (by kernel_rfl) (fun _ _ _ h=>h) (Or.inl ⟨by rfl, ?yE_18⟩) hHeld ?rE_18
     case yE_18=>(intro w hSw;(try dsimp only at hSw);(try simp only[gTA,gCZ,gCS]);go_simp<;>with_reducible rfl)
     (try simp only[gTA,gCZ,gCS,Act.put,sTA,sCZ,sCS])
     refine wpAnyH_take (i:=19) (oi:=_) (v:= ?vE_19) rfl (by kernel_rfl) (by kernel_rfl) (by kernel_rfl) (fun _ _ _ h=>h) (Or.inl ⟨by rfl, ?yE_19⟩) hHeld ?rE_19
     case yE_19=>(intro w hSw;(try dsimp only at hSw);(try simp only[gTA,gCZ,gCS]);go_simp<;>with_reducible rfl)
     (try simp only[gTA,gCZ,gCS,Act.put,sTA,sCZ,sCS])
     refine wpAnyH_take (i:=20) (oi:=_) (v:= ?vE_20) rfl (by kernel_rfl) (by kernel_rfl) (by kernel_rfl) (fun _ _ _ h=>h) (Or.inl ⟨by rfl, ?yE_20⟩) hHeld ?rE_20
     case yE_20=>(intro w hSw;(try dsimp only at hSw);(try simp only[gTA,gCZ,gCS]);go_simp<;>with_reducible rfl)
     (try simp only[gTA,gCZ,gCS,Act.put,sTA,sCZ,sCS])
     refine wpAnyH_ready (rs:=[21]) (by kernel_rfl) (by simp) ?_
     refine AllReadyH.cons (o:=_) rfl (fun K hK=> ?_) AllReadyH.nil
     (try simp only[gTA,gCZ,gCS])
     go_simp
     ((with_reducible refine Calls.mono (FT.out _) ?_);rintro e w5 ⟨rfl,hc⟩;have E5:=LH ((Chg.refl [] wr).drew.thenSame hc);clear hc)
     refine hK.out _ _ ?_ (fun hHeld=> ?_)
     exact CE.out _ E5.out
     clear hK K
     (try simp only[gTA,gCZ,gCS,Act.put,sTA,sCZ,sCS])
     refine wpAnyH_take (i:=22) (oi:=_) (v:= ?vE_22) rfl (by kernel_rfl) (by kernel_rfl) (by kernel_rfl) (fun _ _ _ h=>h) (Or.inl ⟨by rfl, ?yE_22⟩) hHeld ?rE_22
     case yE_22=>(intro w hSw;(try dsimp only at hSw);(try simp only[gTA,gCZ,gCS]);go_simp<;>with_reducible rfl)
     (try simp only[gTA,gCZ,gCS,Act.put,sTA,sCZ,sCS])
     refine wpAnyH_take (i:=23) (oi:=_) (v:= ?vE_23) rfl (by kernel_rfl) (by kernel_rfl) (by kernel_rfl) (fun _ _ _ h=>h) (Or.inl ⟨by rfl, ?yE_23⟩) hHeld ?rE_23
     case yE_23=>(intro w hSw;(try dsimp only at hSw);(try simp only[gTA,gCZ,gCS]);go_simp<;>with_reducible rfl)
     (try simp only[gTA,gCZ,gCS,Act.put,sTA,sCZ,sCS])
     refine wpAnyH_done (by kernel_rfl) ?_ _
     refine NoPanic.normal ?_
     go_wp2_with (go_at_call 150;(with_reducible refine Calls.mono (AR.out _ (D.out.thenSame E5.out)) ?_);rintro e w6 ⟨rfl,hc⟩;have D6:=LH ((D.out.thenSame E5.out).thenSame hc);have B6:=LH (hc.at (by simp) (E5.out.at (by simp) B.out));clear hc)
     exact⟨⟨kk,f,(kk:Int)-1,rfl,rfl,by omega,⟨hf1,by omega⟩,LH rfl,HS2,D6,B6⟩,by simp[intOf]⟩
end
section
open Go.RowKit
def nestF (l:List PNd):Nat→Nat→Int
 |0,_=>0
 |n+1,i=>match l[i]? with
  |none=>0
  |some x=>(x.kids.foldl (fun q k=>max q (nestF l n k.toNat)) 0)+1
theorem foldl_max_bound {g:Int→Int} {B:Int} (hg:∀k,0≤g k∧g k≤B):∀(ks:List Int) (q:Int),0≤q→q≤B→0≤ks.foldl (fun q k=>max q (g k)) q∧ks.foldl (fun q k=>max q (g k)) q≤B:=by
 intro ks
 induction ks with
 |nil=>intro q h1 h2;exact⟨h1,h2⟩
 |cons k ks ih=>
  intro q h1 h2
  rw[List.foldl_cons]
  have:=hg k
  exact ih _ (by omega) (by omega)
theorem nestF_bound {l:List PNd}:∀n i,0≤nestF l n i∧nestF l n i≤n:=by
 intro n
 induction n with
 |zero=>intro i;rw[nestF];omega
 |succ n ih=>
  intro i
  rw[nestF]
  split
  ·omega
  ·have:=foldl_max_bound (g:=fun k=>nestF l n k.toNat) (B:=n) (fun k=>ih k.toNat) (by assumption:PNd).kids 0 (by omega) (by omega)
   omega
theorem firstGo_kids {F:Nat→Int} {l:List PNd} {x:PNd} {i:Int} (hF:∀i,F i≤i):∀{k:Nat} {a:Int},0≤firstGo F l x k a→a≤i→∀kk,kk<k→∃m:Nat,x.kids[kk]? =some (m:Int)∧(m:Int)<i∧m<l.length∧0≤F m:=by
 intro k
 induction k with
 |zero=>intro a _ _ kk h;omega
 |succ k ih=>
  intro a h hai kk hk
  rw[firstGo]at h
  split at h
  ·omega
  ·rename_i h1
   split at h
   ·omega
   ·rename_i h2
    split at h
    ·omega
    ·rename_i y h3
     split at h
     ·omega
     ·split at h
      ·omega
      ·rename_i h5
       obtain⟨h6, -⟩:=List.getElem?_eq_some_iff.1 h3
       by_cases hkk:kk=k
       ·subst hkk
        exact⟨(a-1).toNat,by rw[Decidable.not_not.1 h2];congr 1;omega,by omega,h6,by omega⟩
       ·exact ih h (by have:=hF (a-1).toNat;omega) kk (by omega)
theorem firstF_kids {l:List PNd} {n i:Nat} {x:PNd} (hx:l[i]? =some x) (h:0≤firstF l (n+1) i):∀kk,kk<x.kids.length→∃m:Nat,x.kids[kk]? =some (m:Int)∧m<i∧m<l.length∧0≤firstF l n m:=by
 rw[firstF,hx]at h
 simp only at h
 split at h
 ·intro kk hkk
  obtain⟨m,h1,h2,h3,h4⟩:=firstGo_kids (fun j=>firstF_le n j) h (Int.le_refl _) kk hkk
  exact⟨m,h1,by omega,h3,h4⟩
 ·omega
theorem nest_all {na:Option Addr} {nc:Nat} {l:List Nd}:∀(n:Nat) (w:World) (_:InIs ndC 5 w na nc l) (_:∀d∈l,NdIn w d) (_:n≤l.length) (i:Nat),i<n→i<l.length→0≤firstF (l.map Nd.p) n i→Calls Tryz.prog 151 #[.slice na l.length nc, .int .i64 i] w fun e w'=>e= .returned (.int .i64 (nestF (l.map Nd.p) n i))∧Chg [] w w':=by
 intro n
 induction n with
 |zero=>intro w _ _ _ i hi;omega
 |succ n ih=>
  intro w h hin hnl i hi hil hf
  obtain⟨b1,o1,rfl, -, -,hc1⟩:=h.1.elem (Chg.refl [] w) i hil
  have hil':(i:Int)<(l.length:Int):=by omega
  have hi0:(0:Int)≤(i:Int):=by omega
  have hll:(l.length:Int)≤9223372036854775807:=by have h1:=h.2.1;have h2:=h.2.2.1;unfold maxLen at h2;omega
  have hnn:(n:Int)+1≤9223372036854775807:=by omega
  have x4:=hc1 4 (by omega)
  simp only[ndC,List.getElem?_cons_zero,List.getElem?_cons_succ,Nat.add_zero]at x4
  have hxe:(l.map Nd.p)[i]? =some (l[i]).p:=by rw[List.getElem?_map,List.getElem?_eq_getElem hil];rfl
  obtain⟨R,hR⟩:∃R,R=nestF (l.map Nd.p) (n+1) i:=⟨_,rfl⟩
  rw[←hR]
  rw[nestF,hxe]at hR
  simp only at hR
  have HK:=firstF_kids hxe hf
  have hix:=hin _ (List.getElem_mem hil)
  have hkids:(l[i]).p.kids=(l[i]).kids:=rfl
  rw[hkids]at hR HK
  have HI:=hix.2
  have IH:=LH (fun w' (hc:Chg [] w w') j (hj:j<n) (hjl:j<l.length) (hjf:0≤firstF (l.map Nd.p) n j)=>ih w' (h.kept hc) (fun d hd=>(hin d hd).kept hc) (by omega) j hj hjl hjf)
  have hkb:((l[i]).kids.length:Int)≤9223372036854775807:=by have h1:=HI.2.1;have h2:=HI.2.2.1;unfold maxLen at h2;omega
  clear hxe hkids hix hf
  generalize (l[i]).kids=ks at*
  generalize (l[i]).da=da at*
  generalize (l[i]).dc=dc at*
  have HR:=LH hR
  have HKK:=LH HK
  have HII:=LH HI
  have HB:=LH (fun j=>nestF_bound (l:=l.map Nd.p) n j)
  clear hc1 hR HK HI h hin ih
  go_enter Tryz.func151,Tryz.ntmps151
  go_wp2_with fail
  go_loopw [5,14] (fun u v wr=>∃(j:Nat) (q:Int),u= .int .i64 q∧v= .int .i64 j∧j≤ks.length∧(0≤q∧q≤(n:Int))∧Hid (R=((ks.drop j).foldl (fun q k=>max q (nestF (l.map Nd.p) n k.toNat)) q)+1)∧Hid (Chg [] w wr)) (fun _ v _=>ks.length-(intOf v).toNat)
  case atStart=>exact⟨0,0,rfl,rfl,Nat.zero_le _,⟨Int.le_refl _,by omega⟩,LH HR.out,LH (Chg.refl _ _)⟩
  case round=>
   obtain⟨j,q,rfl,rfl,hj,⟨hq0,hqn⟩,HS,D⟩:=hrel
   have hj0:(0:Int)≤(j:Int):=by omega
   by_cases hjl:j<ks.length
   ·have hjl':(j:Int)<(ks.length:Int):=by omega
    obtain⟨b2,o2,rfl, -, -,hc2⟩:=HII.out.1.elem D.out j hjl
    obtain⟨m,hm1,hm2,hm3,hm4⟩:=HKK.out j hjl
    rw[List.getElem?_eq_getElem hjl]at hm1
    injection hm1 with hm1
    rw[List.length_map]at hm3
    have u1:=hc2 0 (by omega)
    simp only[icI,List.getElem?_cons_zero,Nat.add_zero,Nat.mul_one]at u1
    rw[hm1]at u1
    have hb:=HB.out m
    have HS2:=HS.out
    rw[List.drop_eq_getElem_cons hjl,List.foldl_cons,hm1,Int.toNat_natCast]at HS2
    have HS3:=LH HS2
    have A:=LH (IH.out _ D.out m (by omega) hm3 hm4)
    generalize hr:nestF (l.map Nd.p) n m=r at*
    have qj:IntKind.i64.wrap ((j:Int)+1)=(j:Int)+1:=IntWalk.i64_in _ (by omega)
    clear hc2 hm1 hr HS2
    go_wp2_with (go_at_call 151;(with_reducible refine Calls.mono A.out ?_);rintro e w2 ⟨rfl,hc⟩;have D2:=LH (D.out.thenSame hc);clear hc)
    exact⟨⟨j+1,max q r,rfl,rfl,by omega,⟨by omega,by omega⟩,HS3,D2⟩,by simp[intOf];omega⟩
   ·have hje:j=ks.length:=by omega
    have HS2:=HS.out
    rw[hje,List.drop_length,List.foldl_nil]at HS2
    have HE:=LH HS2
    have hjl': ¬(j:Int)<(ks.length:Int):=by omega
    have qq:IntKind.i64.wrap (q+1)=q+1:=IntWalk.i64_in _ (by omega)
    clear HS2 hje
    go_wp2_with fail
    go_ret
    exact⟨retI HE.out.symm,D.out⟩
end
section
open Go.RowKit
def deepF (p:PPr):Int:=p.funcs.foldl (fun q f=>max q (nestF p.nodes p.nodes.length f.body.toNat)) 0
def prOd (x:Pr):Obj:= .cells #[.slice x.na x.nodes.length x.nc, .slice x.fa x.funcs.length x.fc] 27
def fnO (x:Fn'):Obj:= .cells #[.string x.name, .slice x.pa x.params.length x.pc, .int .i64 x.body] 130
def BodyOk (l:List PNd) (b:Int):Prop:=∃m:Nat,b=(m:Int)∧m<l.length∧0≤firstF l l.length m
theorem deepest_any (x:Pr) (w:World) (h:PrIn w x) (hb:∀f∈x.funcs,BodyOk x.p.nodes f.body):Calls Tryz.prog 89 #[.agg (prC x).toArray] w fun e w'=>e= .returned (.int .i64 (deepF x.p))∧Chg [] w w':=by
 obtain⟨R,hR⟩:∃R,R=deepF x.p:=⟨_,rfl⟩
 rw[←hR]
 have HF:=LH h.2.1
 have NE:=LH (fun w' (hc:Chg [] w w') (m:Nat) (hm:m<x.nodes.length) (hf:0≤firstF (x.nodes.map Nd.p) x.nodes.length m)=>nest_all (na:=x.na) (nc:=x.nc) (l:=x.nodes) x.nodes.length w' (h.1.1.kept hc) (fun d hd=>(h.1.2 d hd).kept hc) (Nat.le_refl _) m hm hm hf)
 have HB:=LH (fun m=>nestF_bound (l:=x.nodes.map Nd.p) x.nodes.length m)
 have hnl:(x.nodes.length:Int)≤9223372036854775807:=by have h1:=h.1.1.2.1;have h2:=h.1.1.2.2.1;unfold maxLen at h2;omega
 have hfl:(x.funcs.length:Int)≤9223372036854775807:=by have h1:=h.2.1.2.1;have h2:=h.2.1.2.2.1;unfold maxLen at h2;omega
 have hR2:R=x.funcs.foldl (fun q f=>max q (nestF (x.nodes.map Nd.p) x.nodes.length f.body.toNat)) 0:=by
  rw[hR]
  show(x.funcs.map Fn'.p).foldl (fun q f=>max q (nestF (x.nodes.map Nd.p) (x.nodes.map Nd.p).length f.body.toNat)) 0=_
  rw[List.foldl_map,List.length_map]
  rfl
 have hb2:∀f∈x.funcs,∃m:Nat,f.body=(m:Int)∧m<x.nodes.length∧0≤firstF (x.nodes.map Nd.p) x.nodes.length m:=by
  intro f hf
  obtain⟨m,h1,h2,h3⟩:=hb f hf
  have e:x.p.nodes=x.nodes.map Nd.p:=rfl
  rw[e]at h2 h3
  rw[List.length_map]at h2 h3
  exact⟨m,h1,h2,h3⟩
 have HBO:=LH hb2
 have HR:=LH hR2
 obtain⟨W1,hW1⟩:∃W1,W1=w.alloc (prOd x):=⟨_,rfl⟩
 have C1:=LH (show Chg [] w W1 by rw[hW1];exact(Chg.refl _ _).alloc _)
 have B1:=LH (show W1.heap[w.heap.size]? =some (prOd x) by rw[hW1];exact heap_alloc_new _ _)
 unfold prOd at hW1 B1
 have k1:=blk_cell B1.out
 simp only[prC]
 clear hR hR2 hb hb2 h
 go_enter Tryz.func89,Tryz.ntmps89
 go_upto_region 1 with fail
 rw[←hW1]
 clear hW1
 go_wp2_with fail
 clear k1
 go_loopw [3,9] (fun u v wr=>∃(j:Nat) (q:Int),u= .int .i64 q∧v= .int .i64 j∧j≤x.funcs.length∧(0≤q∧q≤(x.nodes.length:Int))∧Hid (R=(x.funcs.drop j).foldl (fun q f=>max q (nestF (x.nodes.map Nd.p) x.nodes.length f.body.toNat)) q)∧Hid (Chg [] w wr)∧Hid (wr.heap[w.heap.size]? =some (.cells #[.slice x.na x.nodes.length x.nc, .slice x.fa x.funcs.length x.fc] 27 (0,0)))) (fun _ v _=>x.funcs.length-(intOf v).toNat)
 case atStart=>exact⟨0,0,rfl,rfl,Nat.zero_le _,⟨Int.le_refl _,by omega⟩,LH HR.out,C1,B1⟩
 case round=>
  obtain⟨j,q,rfl,rfl,hj,⟨hq0,hqn⟩,HS,D,B⟩:=hrel
  have hj0:(0:Int)≤(j:Int):=by omega
  by_cases hjl:j<x.funcs.length
  ·have hjl':(j:Int)<(x.funcs.length:Int):=by omega
   obtain⟨b2,o2,e2, -, -,hc2⟩:=HF.out.1.elem D.out j hjl
   obtain⟨m,hm1,hm2,hm3⟩:=HBO.out _ (List.getElem_mem hjl)
   have u0:=hc2 0 (by omega)
   have u1:=hc2 1 (by omega)
   have u2:=hc2 2 (by omega)
   simp only[fnC,List.getElem?_cons_zero,List.getElem?_cons_succ,Nat.add_zero]at u0 u1 u2
   rw[hm1]at u2
   have hb:=HB.out m
   have HS2:=HS.out
   rw[List.drop_eq_getElem_cons hjl,List.foldl_cons,hm1,Int.toNat_natCast]at HS2
   have HS3:=LH HS2
   generalize hfe:x.funcs[j]=f at*
   have qj:IntKind.i64.wrap ((j:Int)+1)=(j:Int)+1:=IntWalk.i64_in _ (by omega)
   obtain⟨W2,hW2⟩:∃W2,W2=wr.alloc (.cells #[.string f.name, .slice f.pa f.params.length f.pc, .int .i64 (m:Int)] 130):=⟨_,rfl⟩
   have C2:=LH (show Chg [] wr W2 by rw[hW2];exact(Chg.refl _ _).alloc _)
   have D2:=LH (D.out.thenSame C2.out)
   have k2:=blk_cell (show W2.heap[wr.heap.size]? =some (.cells _ _ (0,0))from by rw[hW2];exact heap_alloc_new _ _)
   have B2:=LH (C2.out.at (by simp) B.out)
   have k1:=blk_cell B2.out
   have A:=LH (NE.out _ D2.out m hm2 hm3)
   generalize hr:nestF (x.nodes.map Nd.p) x.nodes.length m=r at*
   clear hc2 hm1 hr HS2 hfe
   rw[e2]
   go_upto_region 5 with fail
   rw[←hW2]
   clear hW2 u0 u1 u2
   go_wp2_with (go_at_call 151;(with_reducible refine Calls.mono A.out ?_);rintro e w2 ⟨rfl,hc⟩;have D3:=LH (D2.out.thenSame hc);have B3:=LH (hc.at (by simp) B2.out);clear hc)
   exact⟨⟨j+1,max q r,rfl,rfl,by omega,⟨by omega,by omega⟩,HS3,D3,(by rw[e2]at B3;exact B3)⟩,by simp[intOf];omega⟩
  ·have hje:j=x.funcs.length:=by omega
   have HS2:=HS.out
   rw[hje,List.drop_length,List.foldl_nil]at HS2
   have HE:=LH HS2
   have hjl': ¬(j:Int)<(x.funcs.length:Int):=by omega
   clear HS2 hje
   go_wp2_with fail
   go_ret
   exact⟨retI HE.out.symm,D.out⟩
end
section
open Go.RowKit
theorem any_step {α:Type} {l:List α} {p:α→Bool} {k:Nat} (hk:k<l.length):(l.take (k+1)).any p=((l.take k).any p||p l[k]):=by
 rw[List.take_add_one,List.getElem?_eq_getElem hk,List.any_append]
 simp
theorem any_yes {α:Type} {l:List α} {p:α→Bool} {k:Nat} (hk:k<l.length) (h:p l[k]=true):l.any p=true:=List.any_eq_true.2 ⟨_,List.getElem_mem hk,h⟩
theorem ord1_any (s:ByteArray) (w:World):Calls Tryz.prog 149 #[.string s] w fun e w'=>e= .returned (.bool (!sNameB s))∧Chg [] w w':=by
 have A:=LH (sname_any s w)
 generalize sNameB s=q at*
 go_enter Tryz.func149,Tryz.ntmps149
 go_wp2_with (go_at_call 147;(with_reducible refine Calls.mono A.out ?_);rintro e w2 ⟨rfl,rfl⟩)
 go_ret
 exact⟨rfl,Chg.refl _ _⟩
theorem chk1d_any (x:Fn') (w:World):Calls Tryz.prog 88 #[.agg (fnC x).toArray] w fun e w'=>e= .returned (.bool (decide (8<x.params.length)))∧Chg [] w w':=by
 obtain⟨W1,hW1⟩:∃W1,W1=w.alloc (fnO x):=⟨_,rfl⟩
 have C1:=LH (show Chg [] w W1 by rw[hW1];exact(Chg.refl _ _).alloc _)
 have B1:=LH (show W1.heap[w.heap.size]? =some (fnO x) by rw[hW1];exact heap_alloc_new _ _)
 unfold fnO at hW1 B1
 have k1:=blk_cell B1.out
 simp only[fnC]
 by_cases h8:8<x.params.length
 ·have h8':(8:Int)<(x.params.length:Int):=by omega
  have HE:=LH (show decide (8<x.params.length)=true from decide_eq_true h8)
  clear h8
  go_enter Tryz.func88,Tryz.ntmps88
  go_upto_region 1 with fail
  rw[←hW1]
  clear hW1
  go_wp2_with fail
  go_ret
  exact⟨retB HE.out.symm,C1.out⟩
 ·have h8': ¬(8:Int)<(x.params.length:Int):=by omega
  have HE:=LH (show decide (8<x.params.length)=false from decide_eq_false h8)
  clear h8
  go_enter Tryz.func88,Tryz.ntmps88
  go_upto_region 1 with fail
  rw[←hW1]
  clear hW1
  go_wp2_with fail
  go_ret
  exact⟨retB HE.out.symm,C1.out⟩
theorem sindexf_any {a:Option Addr} {c:Nat} {l:List ByteArray} {w:World} (h:InIs skC 1 w a c l):
 Calls Tryz.prog 220 #[.slice a l.length c, .func (.func 149) #[] #[]] w fun e w'=>∃n:Int,e= .returned (.int .i64 n)∧(decide (0≤n))=l.any (fun s=> !sNameB s)∧Chg [] w w':=by
 have H:=LH h
 have hm:(l.length:Int)≤9223372036854775807:=by have h1:=h.2.1;have h2:=h.2.2.1;unfold maxLen at h2;omega
 clear h
 go_enter Tryz.func220,Tryz.ntmps220
 go_wp2_with fail
 go_loopw [8] (fun i wr=>∃k:Nat,i= .int .i64 k∧k≤l.length∧Hid ((l.take k).any (fun s=> !sNameB s)=false)∧Hid (Chg [] w wr)) (fun i _=>l.length-(intOf i).toNat)
 case atStart=>exact⟨0,rfl,Nat.zero_le _,LH rfl,LH (Chg.refl _ _)⟩
 case round=>
  obtain⟨k,rfl,hkl,HS,D⟩:=hrel
  by_cases hk:k<l.length
  ·obtain⟨b,off,rfl, -, -,hcc⟩:=H.out.1.elem D.out k hk
   have u1:=hcc 0 (by omega)
   simp only[skC,List.getElem?_cons_zero,Nat.add_zero,Nat.mul_one]at u1
   have hst:=any_step (p:=fun s=> !sNameB s) hk
   rw[HS.out,Bool.false_or]at hst
   have hy:=fun h=>any_yes (p:=fun s=> !sNameB s) hk h
   (try simp only at hst)
   (try simp only at hy)
   generalize l[k]=x at*
   have A:=LH (ord1_any x wr)
   have hk0:(0:Int)≤(k:Int):=by omega
   have hk1:(k:Int)<(l.length:Int):=by omega
   clear hcc
   generalize (!sNameB x)=q at*
   cases q
   ·have HST:=LH hst
    clear hst hy
    go_wp2_with (first|(with_reducible refine Calls.mono A.out ?_);rintro e w2 ⟨rfl,hc⟩;have D2:=LH (D.out.thenSame hc);clear hc)
    exact⟨⟨k+1,by go_num,by omega,HST,D2⟩,by simp[intOf];omega⟩
   ·have HY:=LH (hy rfl)
    clear hst hy
    go_wp2_with (first|(with_reducible refine Calls.mono A.out ?_);rintro e w2 ⟨rfl,hc⟩;have D2:=LH (D.out.thenSame hc);clear hc)
    go_ret
    exact⟨_,rfl,by rw[HY.out];exact decide_eq_true hk0,D2.out⟩
  ·have hks:k=l.length:=by omega
   have HE:Hid (l.any (fun s=> !sNameB s)=false):=LH (by have:=HS.out;rwa[hks,List.take_of_length_le (Nat.le_refl _)]at this)
   clear hks
   go_wp2_with fail
   go_ret
   exact⟨_,rfl,by rw[HE.out];rfl,D.out⟩
theorem scontf_any {a:Option Addr} {c:Nat} {l:List ByteArray} {w:World} (h:InIs skC 1 w a c l):
 Calls Tryz.prog 148 #[.slice a l.length c, .func (.func 149) #[] #[]] w fun e w'=>e= .returned (.bool (l.any (fun s=> !sNameB s)))∧Chg [] w w':=by
 have A:=LH (sindexf_any h)
 generalize l.any (fun s=> !sNameB s)=q at*
 go_enter Tryz.func148,Tryz.ntmps148
 go_wp2_with (go_at_call 220;(with_reducible refine Calls.mono A.out ?_);rintro e w2 ⟨n,rfl,hn,hc⟩)
 go_ret
 exact⟨by rw[←hn];rfl,hc⟩
theorem findexf_any {a:Option Addr} {c:Nat} {l:List Fn'} {w:World} (h:InIs fnC 3 w a c l):
 Calls Tryz.prog 40 #[.slice a l.length c, .func (.func 88) #[] #[]] w fun e w'=>∃n:Int,e= .returned (.int .i64 n)∧(decide (0≤n))=l.any (fun f=>decide (8<f.params.length))∧Chg [] w w':=by
 have H:=LH h
 have hm:(l.length:Int)≤9223372036854775807:=by have h1:=h.2.1;have h2:=h.2.2.1;unfold maxLen at h2;omega
 clear h
 go_enter Tryz.func40,Tryz.ntmps40
 go_wp2_with fail
 go_loopw [8] (fun i wr=>∃k:Nat,i= .int .i64 k∧k≤l.length∧Hid ((l.take k).any (fun f=>decide (8<f.params.length))=false)∧Hid (Chg [] w wr)) (fun i _=>l.length-(intOf i).toNat)
 case atStart=>exact⟨0,rfl,Nat.zero_le _,LH rfl,LH (Chg.refl _ _)⟩
 case round=>
  obtain⟨k,rfl,hkl,HS,D⟩:=hrel
  by_cases hk:k<l.length
  ·obtain⟨b,off,rfl, -, -,hcc⟩:=H.out.1.elem D.out k hk
   have u0:=hcc 0 (by omega)
   have u1:=hcc 1 (by omega)
   have u2:=hcc 2 (by omega)
   simp only[fnC,List.getElem?_cons_zero,List.getElem?_cons_succ,Nat.add_zero]at u0 u1 u2
   have hst:=any_step (p:=fun f:Fn'=>decide (8<f.params.length)) hk
   rw[HS.out,Bool.false_or]at hst
   have hy:=fun h=>any_yes (p:=fun f:Fn'=>decide (8<f.params.length)) hk h
   (try simp only at hst)
   (try simp only at hy)
   generalize l[k]=x at*
   have A:=chk1d_any x wr
   unfold fnC at A
   have A:=LH A
   rename_i A0
   have hk0:(0:Int)≤(k:Int):=by omega
   have hk1:(k:Int)<(l.length:Int):=by omega
   clear hcc A0
   generalize hq:decide (8<x.params.length)=q at*
   clear hq
   cases q
   ·have HST:=LH hst
    clear hst hy
    go_wp2_with (first|(with_reducible refine Calls.mono A.out ?_);rintro e w2 ⟨rfl,hc⟩;have D2:=LH (D.out.thenSame hc);clear hc)
    exact⟨⟨k+1,by go_num,by omega,HST,D2⟩,by simp[intOf];omega⟩
   ·have HY:=LH (hy rfl)
    clear hst hy
    go_wp2_with (first|(with_reducible refine Calls.mono A.out ?_);rintro e w2 ⟨rfl,hc⟩;have D2:=LH (D.out.thenSame hc);clear hc)
    go_ret
    exact⟨_,rfl,by rw[HY.out];exact decide_eq_true hk0,D2.out⟩
  ·have hks:k=l.length:=by omega
   have HE:Hid (l.any (fun f=>decide (8<f.params.length))=false):=LH (by have:=HS.out;rwa[hks,List.take_of_length_le (Nat.le_refl _)]at this)
   clear hks
   go_wp2_with fail
   go_ret
   exact⟨_,rfl,by rw[HE.out];rfl,D.out⟩
theorem fcontf_any {a:Option Addr} {c:Nat} {l:List Fn'} {w:World} (h:InIs fnC 3 w a c l):
 Calls Tryz.prog 87 #[.slice a l.length c, .func (.func 88) #[] #[]] w fun e w'=>e= .returned (.bool (l.any (fun f=>decide (8<f.params.length))))∧Chg [] w w':=by
 have A:=LH (findexf_any h)
 generalize l.any (fun f=>decide (8<f.params.length))=q at*
 go_enter Tryz.func87,Tryz.ntmps87
 go_wp2_with (go_at_call 40;(with_reducible refine Calls.mono A.out ?_);rintro e w2 ⟨n,rfl,hn,hc⟩)
 go_ret
 exact⟨by rw[←hn];rfl,hc⟩
end
end Go.Proofs.YtmofknmeljdodaaGreatDoor
