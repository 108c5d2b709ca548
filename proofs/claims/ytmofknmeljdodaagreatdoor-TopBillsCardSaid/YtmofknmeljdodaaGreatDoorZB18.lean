/- Chapter 52: play. No condition but those that the statements name. -/
import Derived.Test.YtmofknmeljdodaaGreatDoorZB17
import Derived.Test.YtmofknmeljdodaaGreatDoorZS01
import Derived.Test.YtmofknmeljdodaaGreatDoorZB12
import Derived.Test.YtmofknmeljdodaaGreatDoorZB11
import Derived.Test.YtmofknmeljdodaaGreatDoorZB10
import Derived.Test.YtmofknmeljdodaaGreatDoorZB13
import Derived.Test.YtmofknmeljdodaaGreatDoorZS03
import Derived.Test.YtmofknmeljdodaaGreatDoorZB07
import Derived.Test.YtmofknmeljdodaaGreatDoorZB02
set_option maxHeartbeats 100000000
set_option maxRecDepth 100000
set_option linter.unusedVariables false
set_option linter.unusedSimpArgs false
open List renaming getElem_toArray→gTA,getElem_cons_zero→gCZ,getElem_cons_succ→gCS,setIfInBounds_toArray→sTA,set_cons_zero→sCZ,set_cons_succ→sCS
namespace Go.Proofs.YtmofknmeljdodaaGreatDoor
section
open Go.RowKit
variable {W w:World} {b:Nat} {s:Led} {K:List Nat→World→Prop}
end
section
open Go.RowKit
end
section
open Go.RowKit
end
section
open Go.RowKit
theorem SlIs.one {α:Type} {cf:α→List Value} {sz:Nat} {w:World} {g off n:Nat} {l:List α} (h:SlIs cf sz w (some ⟨g,off,Option.none⟩) n l) (k:Nat) (hk:k<l.length):SlIs cf sz w (some ⟨g,off+k*sz,Option.none⟩) 1 [l[k]]:=by
 refine⟨rfl,fun j hj=> ?_⟩
 have hj0:j=0:=by simpa using hj
 subst hj0
 obtain⟨b,o,h1,h2,h3⟩:=h.2 k hk
 cases h1
 exact⟨g,off+k*sz,rfl,h2,fun i hi=>by rw[Nat.zero_mul,Nat.add_zero];exact h3 i hi⟩
section
variable {P:Program} {α:Type} {cf:α→List Value} {sz:Nat}
theorem wpl_appendL {w:World} {ops:Array Oper} {rest:List Oper} {o:Oper} {a:Act} {Q:Exit→Act→World→Prop} (hgd:o.guard=none) (s x:Operand) (t:TypeId)
 (ho:o.op= .call {callee:= .builtin .append,args:= #[s,x],argTypes:= #[t,t]}) (base:Nat) (e:TypeId) (z:Value) (bytes:Nat) (ht:P.underlying t=some (.slice e)) (hi:(P.info? e).map (fun i=>(i.zero,i.size,i.bytes))=some (some z,sz,bytes))
 (hzs:z.cells.size=sz) (hsz:0<sz) (hc:∀x,(cf x).length=sz) (h1:∀x,∀u∈cf x,u.oneCell'=true) (v:Value) (l:List α) (hs:a.eval s=v) (hown:RowOf cf sz w base e v l)
 (g c:Nat) (y:α) (cur:Array Value) (tt:TypeId) (fr:Nat×Nat) (hx:a.eval x= .slice (some ⟨g,0,none⟩) 1 c) (hnew:w.heap[g]? =some (.cells cur tt fr)) (hcur:cur.toList=cf y) (h63:l.length+1≤maxLen) (hbytes:(l.length+1)*bytes≤140737488355328) (hbase:base≤w.heap.size)
 (h:∀g' cap w',RowOf cf sz w' base e (.slice (some ⟨g',0,none⟩) (l.length+1) cap) (l++[y])→w.grownBy w' v.ownBlock→(v.ownBlock=some g'∨g'=w.heap.size)→g'<w'.heap.size→wpList P ops Q rest (a.put o.dst (.slice (some ⟨g',0,none⟩) (l.length+1) cap)) w'):
 wpList P ops Q (o::rest) a w:=by
 obtain⟨i,hi0,hz0,hz1,hz2⟩:=info_parts hi
 refine wpList_append_lies w hgd s x t ho base e i z sz bytes ht hi0 hz0 hz1 hz2 hzs hsz v l.length (l.flatMap cf) hs hown ⟨g,0,none⟩ 1 c (cf y) hx (by rw[hc];omega) ?_ (h1 y) (by omega) h63 hbytes hbase w.heap.size rfl ?_
 ·intro j u hj
  have:(⟨g,0,none⟩:Addr).add j=⟨g,j,none⟩:=by
   unfold Addr.add;split
   ·rename_i e;rw[e]
   ·simp
  rw[this,blk_cell hnew,←Array.getElem?_toList,hcur];exact hj
 ·intro g' cap w' hown' hg hat hlt
  exact h g' cap w' (by unfold RowOf;simpa using hown') hg hat hlt
end
def RowS (v:Value) (l:List (List UInt8)):List Nat→World→Prop:=fun f w=>f=v.ownBlock.toList∧RowOf kc 1 w 0 9 v l
variable {W w w':World} {J K M M':List Nat→World→Prop}
theorem Pair.row {v:Value} {l:List (List UInt8)} (h:Pair W w J (AndSide K (RowS v l))):RowOf kc 1 w 0 9 v l:=by
 obtain⟨f,g,h1,⟨g1,g2,rfl,k1,⟨_,k2⟩,k3⟩,_⟩:=h
 exact k2
theorem Pair.mid {N:List Nat→World→Prop} (h:Pair W w J (AndSide (AndSide K M) N)):Pair W w J (AndSide (AndSide K N) M):=by
 obtain⟨f,g,h1,⟨g1,g2,rfl,⟨g3,g4,rfl,k1,k2,k3⟩,k4,k5⟩,h3,h4,h5,h6⟩:=h
 refine⟨f,(g3++g2)++g4,h1,⟨g3++g2,g4,rfl,⟨g3,g2,rfl,k1,k4,fun x hx hy=>k5 x (by simp[hx]) hy⟩,k2, ?_⟩,h3, ?_, ?_,h6⟩
 ·intro x hx hy
  rcases List.mem_append.1 hx with hx|hx
  ·exact k3 x hx hy
  ·exact k5 x (by simp[hy]) hx
 ·intro x hx
  simp only[List.mem_append]at hx
  rcases hx with (hx|hx)|hx<;>exact h4 x (by simp[hx])
 ·intro x hx hy
  simp only[List.mem_append]at hy
  rcases hy with (hy|hy)|hy<;>exact h5 x hx (by simp[hy])
theorem Pair.drop (h:Pair W w J (AndSide K M)):Pair W w J K:=by
 obtain⟨f,g,h1,⟨g1,g2,rfl,k1,k2,k3⟩,h3,h4,h5,h6⟩:=h
 exact⟨f,g1,h1,k1,h3,fun x hx=>h4 x (by simp[hx]),fun x hx hy=>h5 x hx (by simp[hy]),h6⟩
end
section
open Go.RowKit
def partsL (l:List PTr) (n:Int):List Int:=(List.range l.length).map (partAt l n)
structure RsplI (w wr:World) (p:Prc) (n:Int) (a:Option Addr) (cap:Nat) (oa:Option Addr) (co k:Nat):Prop where
 row:RowOf icI 1 wr (w.heap.size+1) 3 (.slice oa k co) ((partsL p.ts n).take k)
 pr:wr.heap[w.heap.size]? =some (prO p a cap)
 chg:Chg [] w wr
theorem RsplI.next {w wr w4:World} {p:Prc} {n:Int} {a:Option Addr} {cap:Nat} {oa:Option Addr} {co k g4 c4:Nat} {o:Obj} (h:RsplI w wr p n a cap oa co k) (hr:RowOf icI 1 w4 (w.heap.size+1) 3 (.slice (some ⟨g4,0,none⟩) (k+1) c4) ((partsL p.ts n).take (k+1))) (hc:Chg (Value.slice oa k co).ownBlock.toList (wr.alloc o) w4):RsplI w w4 p n a cap (some ⟨g4,0,none⟩) c4 (k+1):=by
 have hb:∀g,g∈(Value.slice oa k co).ownBlock.toList→w.heap.size+1≤g:=fun g hg=>(RowOf.block h.row g (by simpa using hg)).1
 refine⟨hr,hc.at (fun q=> ?_) (blk_alloc h.pr),(h.chg.alloc o).trans hc (by simp) (fun x hx hlt=> ?_)⟩
 ·have:=hb _ q;omega
 ·have:=hb _ hx;omega
end
section
open Go.RowKit
end
section
open Go.RowKit
theorem weighf_any (n:Int) (w:World):Calls Tryz.prog 202 #[.int .i64 n] w fun e w'=>e= .returned (.bool (!amtB n))∧w=w':=by
 have A:=LH (fun w'=>amt_any n w')
 generalize amtB n=q at*
 cases q
 ·go_enter Tryz.func202,Tryz.ntmps202
  go_wp2_with fail
  refine(A.out _).mono ?_;rintro e w1 ⟨rfl,rfl⟩
  go_wp2_with fail
  go_ret
  exact⟨rfl,rfl⟩
 ·go_enter Tryz.func202,Tryz.ntmps202
  go_wp2_with fail
  refine(A.out _).mono ?_;rintro e w1 ⟨rfl,rfl⟩
  go_wp2_with fail
  go_ret
  exact⟨rfl,rfl⟩
theorem idxf_any (a:Option Addr) (cap:Nat) (l:List Int) (w:World) (h:SlIs icI 1 w a l.length l) (hm:l.length≤maxLen):Calls Tryz.prog 269 #[.slice a l.length cap, .func (.func 202) #[] #[]] w fun e w'=>(∃r:Int,e= .returned (.int .i64 r)∧decide (0≤r)= !l.all amtB)∧w=w':=by
 have H:=LH h
 unfold maxLen at hm
 clear h
 go_enter Tryz.func269,Tryz.ntmps269
 go_wp2_with fail
 go_loopw [8] (fun i wr=>∃k:Nat,i= .int .i64 k∧k≤l.length∧Hid ((l.take k).all amtB=true)∧w=wr) (fun i _=>l.length-(intOf i).toNat)
 case atStart=>exact⟨0,rfl,Nat.zero_le _,LH (by simp),rfl⟩
 case round=>
  obtain⟨k,rfl,hkl,HT,rfl⟩:=hrel
  by_cases hk:k<l.length
  ·obtain⟨b,off,rfl,hb,hc⟩:=H.out.2 k hk
   have c0:=hc 0 (by omega)
   have HS:=LH (show(l.take (k+1)).all amtB=amtB l[k] by rw[List.take_succ_eq_append_getElem hk,List.all_append,HT.out];simp)
   have HN:=LH (show amtB l[k]=false→l.all amtB=false from fun hv=>List.all_eq_false.2 ⟨l[k],List.getElem_mem hk,by rw[hv];simp⟩)
   generalize l[k]=x at*
   simp only[icI,List.getElem?_cons_zero,Nat.add_zero,Nat.mul_one]at c0
   have A:=weighf_any x w
   have hk0:(0:Int)≤(k:Int):=by omega
   have hk1:(k:Int)<(l.length:Int):=by omega
   cases hv:amtB x
   ·rw[hv]at A
    have A:=LH A
    rename_i A0
    have HE:=LH (HN.out hv)
    clear hc A0 hv
    go_wp2_with fail
    refine A.out.mono ?_;rintro e w1 ⟨rfl,rfl⟩
    go_wp2_with fail
    go_ret
    exact⟨⟨_,rfl,by rw[HE.out];simp⟩,rfl⟩
   ·rw[hv]at A
    have A:=LH A
    rename_i A0
    have HE:=LH (HS.out.trans hv)
    clear hc A0 hv
    go_wp2_with fail
    refine A.out.mono ?_;rintro e w1 ⟨rfl,rfl⟩
    go_wp2_with fail
    exact⟨⟨k+1,by go_num,by omega,HE,trivial⟩,by simp[intOf];omega⟩
  ·have hks:k=l.length:=by omega
   have HE:=LH (show l.all amtB=true by have:=HT.out;rwa[hks,List.take_of_length_le (Nat.le_refl _)]at this)
   clear hks
   go_wp2_with fail
   go_ret
   exact⟨⟨_,rfl,by rw[HE.out];rfl⟩,rfl⟩
theorem contf_any (a:Option Addr) (cap:Nat) (l:List Int) (w:World) (h:SlIs icI 1 w a l.length l) (hm:l.length≤maxLen):Calls Tryz.prog 201 #[.slice a l.length cap, .func (.func 202) #[] #[]] w fun e w'=>e= .returned (.bool (!l.all amtB))∧w=w':=by
 have A:=LH (idxf_any a cap l w h hm)
 clear h hm
 generalize (!l.all amtB)=q at*
 go_enter Tryz.func201,Tryz.ntmps201
 go_wp2_with fail
 refine A.out.mono ?_;rintro e w1 ⟨⟨r,rfl,hr⟩,rfl⟩
 have HR:=LH hr
 clear hr A
 go_wp2_with fail
 go_ret
 exact⟨congrArg (fun b=>Ending.returned (Value.bool b)) HR.out,rfl⟩
theorem sum_take {l:List Int} (h:l.all amtB=true) (hl:l.length≤256) (k:Nat):0≤(l.take k).sum∧(l.take k).sum≤256000000000000:=by
 have h1:∀V:List Int,(∀x∈V,0≤x∧x≤1000000000000)→0≤V.sum∧V.sum≤1000000000000*V.length:=by
  intro V hV
  induction V with
  |nil=>simp
  |cons v V ih=>
   have h2:=hV v (by simp)
   have h3:=ih (fun x hx=>hV x (by simp[hx]))
   rw[List.sum_cons,List.length_cons];omega
 have h2:=h1 (l.take k) (fun x hx=>amtB_iff.1 (List.all_eq_true.1 h x (List.mem_of_mem_take hx)))
 have h3:(l.take k).length≤256:=by rw[List.length_take];omega
 omega
theorem weigh_any (t:Int) (a:Option Addr) (cap:Nat) (l:List Int) (w:World) (h:SlIs icI 1 w a l.length l) (hm:l.length≤maxLen):Calls Tryz.prog 128 #[.int .i64 t, .slice a l.length cap] w fun e w'=>e= .returned (.tuple #[.int .i64 (weighZ t l).1, .int .i64 (weighZ t l).2])∧w=w':=by
 have H:=LH h
 have A:=LH (fun w'=>amt_any t w')
 have C:=LH (contf_any a cap l w h hm)
 unfold maxLen at hm
 obtain⟨Z,hZ⟩:∃Z,Z=weighZ t l:=⟨_,rfl⟩
 rw[←hZ]
 unfold weighZ at hZ
 have HZ:=LH hZ
 clear h hZ
 cases h1:amtB t
 ·have HE:=LH (show Z=(0,2) by rw[HZ.out,if_pos (Or.inl h1)])
  rw[h1]at A
  rw[HE.out]
  go_enter Tryz.func128,Tryz.ntmps128
  go_wp2_with fail
  refine(A.out _).mono ?_;rintro e w1 ⟨rfl,rfl⟩
  go_wp2_with fail
  go_ret2
  exact⟨rfl,rfl⟩
 cases h2:l.all amtB
 ·have HE:=LH (show Z=(0,2) by rw[HZ.out,if_pos (Or.inr h2)])
  rw[h1]at A
  rw[h2]at C
  rw[HE.out]
  go_enter Tryz.func128,Tryz.ntmps128
  go_wp2_with fail
  refine(A.out _).mono ?_;rintro e w1 ⟨rfl,rfl⟩
  go_wp2_with fail
  refine C.out.mono ?_;rintro e w2 ⟨rfl,rfl⟩
  go_wp2_with fail
  go_ret2
  exact⟨rfl,rfl⟩
 have HZ1:=LH (HZ.out.trans (if_neg (by rw[h1,h2];simp)))
 have H2:=LH h2
 rw[h1]at A
 rw[h2]at C
 clear HZ h1 h2
 by_cases h3:256<l.length
 ·have h3':(256:Int)<(l.length:Int):=by omega
  have HE:=LH (show Z=(0,3) by rw[HZ1.out,if_pos h3])
  rw[HE.out]
  go_enter Tryz.func128,Tryz.ntmps128
  go_wp2_with fail
  refine(A.out _).mono ?_;rintro e w1 ⟨rfl,rfl⟩
  go_wp2_with fail
  refine C.out.mono ?_;rintro e w2 ⟨rfl,rfl⟩
  go_wp2_with fail
  go_ret2
  exact⟨rfl,rfl⟩
 have h3': ¬(256:Int)<(l.length:Int):=by omega
 have HZ2:=LH (HZ1.out.trans (if_neg h3))
 by_cases h4:l=[]∧t≠0
 ·have HE:=LH (show Z=(0,5) by rw[HZ2.out,if_pos h4])
  have h5:((l.length:Int)==0)=true:=by rw[h4.1];rfl
  have h5':(l.length:Int)=0:=by rw[h4.1];rfl
  have h6:(t !=0)=true:=by rw[bne_iff_ne];exact h4.2
  have h6':t≠0:=h4.2
  rw[HE.out]
  generalize l.length=n at*
  clear h4
  go_enter Tryz.func128,Tryz.ntmps128
  go_wp2_with fail
  refine(A.out _).mono ?_;rintro e w1 ⟨rfl,rfl⟩
  go_wp2_with fail
  refine C.out.mono ?_;rintro e w2 ⟨rfl,rfl⟩
  go_wp2_with fail
  go_ret2
  exact⟨rfl,rfl⟩
 have HZ3:=LH (HZ2.out.trans (if_neg h4))
 have hcase:(((l.length:Int)==0)=false)∨((((l.length:Int)==0)=true)∧(t !=0)=false):=by
  by_cases q:l=[]
  ·refine Or.inr ⟨by rw[q];rfl, ?_⟩
   rw[bne_eq_false_iff_eq]
   exact Classical.byContradiction fun r=>h4 ⟨q,r⟩
  ·refine Or.inl ?_
   rw[beq_eq_false_iff_ne]
   have:=List.length_pos_iff.2 q
   omega
 clear HZ1 HZ2 h4
 rcases hcase with h5|⟨h5,h6⟩
 all_goals
  go_enter Tryz.func128,Tryz.ntmps128
  go_wp2_with fail
  refine(A.out _).mono ?_;rintro e w1 ⟨rfl,rfl⟩
  go_wp2_with fail
  refine C.out.mono ?_;rintro e w2 ⟨rfl,rfl⟩
  go_wp2_with fail
  go_loopw [6,28] (fun s i wr=>∃k:Nat,i= .int .i64 k∧s= .int .i64 (l.take k).sum∧k≤l.length∧w=wr) (fun _ i _=>l.length-(intOf i).toNat)
  case atStart=>exact⟨0,rfl,rfl,Nat.zero_le _,rfl⟩
  case round=>
   obtain⟨k,rfl,rfl,hkl,rfl⟩:=hrel
   have hs:=sum_take H2.out (by omega) k
   by_cases hk:k<l.length
   ·obtain⟨b,off,rfl,hb,hc⟩:=H.out.2 k hk
    have c0:=hc 0 (by omega)
    have HS:=LH (show(l.take (k+1)).sum=(l.take k).sum+l[k] by rw[List.take_succ_eq_append_getElem hk,List.sum_append];simp)
    have hx:=amtB_iff.1 (List.all_eq_true.1 H2.out l[k] (List.getElem_mem hk))
    generalize l[k]=x at*
    simp only[icI,List.getElem?_cons_zero,Nat.add_zero,Nat.mul_one]at c0
    generalize (l.take k).sum=S at*
    obtain⟨s1,s2⟩:=hs
    obtain⟨x1,x2⟩:=hx
    have hk0:(0:Int)≤(k:Int):=by omega
    have hk1:(k:Int)<(l.length:Int):=by omega
    clear hc
    go_wp2_with fail
    exact⟨⟨k+1,by go_num,by rw[HS.out],by omega,trivial⟩,by simp[intOf];omega⟩
   ·have hks:k=l.length:=by omega
    have HE:=LH (show Z=if 1000000000000<(l.take k).sum then(0,8)else((l.take k).sum,0) by rw[HZ3.out,hks,List.take_length])
    generalize (l.take k).sum=S at*
    obtain⟨s1,s2⟩:=hs
    clear hks
    by_cases hS:1000000000000<S
    ·have HF:=LH (HE.out.trans (if_pos hS))
     go_wp2_with fail
     rw[HF.out]
     go_ret2
     exact⟨rfl,rfl⟩
    ·have HF:=LH (HE.out.trans (if_neg hS))
     go_wp2_with fail
     rw[HF.out]
     go_ret2
     exact⟨rfl,rfl⟩
end
section
open Go.RowKit
theorem ownI {w:World} {base:Nat} {v:Value} {l:List Int} (h:w.ownsRow base 3 1 v l.length (l.map (Value.int .i64))):RowOf icI 1 w base 3 v l:=by
 unfold RowOf
 rw[flat_icI];exact h
theorem clone_any (a:Option Addr) (cap:Nat) (l:List Int) (w:World) (h:SlIs icI 1 w a l.length l) (hm:l.length≤1000000):Calls Tryz.prog 129 #[.slice a l.length cap] w fun e w'=>∃v,e= .returned v∧RowOf icI 1 w' w.heap.size 3 v l∧Chg [] w w':=by
 by_cases hl:l=[]
 ·subst hl
  cases a with
  |none=>
   refine(Tryz.slices_Clone_int_nil 0 cap w).mono ?_
   rintro e w' ⟨rfl,rfl⟩
   exact⟨_,rfl,RowOf.nil _ _ _,Chg.refl _ _⟩
  |some ad=>
   refine(Tryz.slices_Clone_int_zero ad cap w).mono ?_
   rintro e w' ⟨v,rfl,h1,_,h3⟩
   exact⟨v,rfl,ownI (l:=[]) h1,Chg.ofBelow h3⟩
 ·obtain⟨b,off,rfl,hb, -⟩:=h.2 0 (List.length_pos_iff.2 hl)
  refine(Tryz.slices_Clone_int b off l.length cap l w (Nat.le_refl _) (by omega) (fun j hj=> ?_)).mono ?_
  ·obtain⟨b',off',e1,_,hc⟩:=h.2 j hj
   cases e1
   have:=hc 0 (by omega)
   simp only[Nat.mul_one,Nat.add_zero]at this
   rw[this,List.getD_eq_getElem?_getD,List.getElem?_eq_getElem hj]
   rfl
  ·rintro e w' ⟨v,rfl,h1,_,h3⟩
   rw[List.take_length]at h1
   exact⟨v,rfl,ownI h1,Chg.ofBelow h3⟩
theorem rowI_set {w:World} {base g n c:Nat} {l:List Int} (h:RowOf icI 1 w base 3 (.slice (some ⟨g,0,none⟩) n c) l) {k:Nat} (hk:k<l.length) (x:Int):RowOf icI 1 (w.setCell ⟨g,k,none⟩ (.int .i64 x)) base 3 (.slice (some ⟨g,0,none⟩) n c) (l.set k x):=by
 have:=RowOf.putEl h icI_len k hk x
 simpa[storeEl,icI]using this
end
section
open Go.RowKit
theorem share_bad (t:Int) (a:Option Addr) (cap:Nat) (W:List Int) (w:World) (h:SlIs icI 1 w a W.length W) (hm:W.length≤maxLen) (he:(weighZ t W).2≠0):Calls Tryz.prog 73 #[.int .i64 t, .slice a W.length cap] w fun e w'=>e= .returned (.tuple #[.slice none 0 0, .int .i64 (weighZ t W).2])∧w=w':=by
 have A:=LH (weigh_any t a cap W w h hm)
 generalize weighZ t W=Z at*
 obtain⟨z1,z2⟩:=Z
 simp only at he A⊢
 have hb:(z2 !=0)=true:=by rw[bne_iff_ne];exact he
 clear h hm
 go_enter Tryz.func73,Tryz.ntmps73
 go_wp2_with fail
 refine A.out.mono ?_;rintro e w1 ⟨rfl,rfl⟩
 go_wp2_with fail
 go_ret2
 exact⟨rfl,rfl⟩
theorem weigh_ok {t:Int} {W:List Int} (h:(weighZ t W).2=0):(0≤t∧t≤1000000000000)∧W.all amtB=true∧W.length≤256∧(W=[]→t=0)∧W.sum≤1000000000000∧(weighZ t W).1=W.sum:=by
 unfold weighZ at h⊢
 split at h
 ·cases h
 ·rename_i h1
  split at h
  ·cases h
  ·rename_i h2
   split at h
   ·cases h
   ·rename_i h3
    split at h
    ·cases h
    ·rename_i h4
     rw[if_neg h1,if_neg h2,if_neg h3,if_neg h4]
     simp only[not_or,Bool.not_eq_false]at h1
     exact⟨amtB_iff.1 h1.1,h1.2,by omega,fun q=>Classical.byContradiction fun r=>h3 ⟨q,r⟩,by omega,rfl⟩
theorem all_nn {W:List Int} (h:W.all amtB=true):∀x∈W,0≤x:=fun x hx=>(amtB_iff.1 (List.all_eq_true.1 h x hx)).1
theorem share_step {t:Int} {W:List Int} (ht:0≤t) (ht2:t≤1000000000000) (hW:W.all amtB=true) (hs:W.sum≤1000000000000) (hl:W.length≤256) {u:Int} (hu:u∈effW W):
 mulDivZ t u (effS W)=(quo t (effS W) u,0)∧0≤quo t (effS W) u∧quo t (effS W) u≤t∧
  0≤u∧u≤1000000000000∧0<effS W∧effS W≤1000000000000∧0≤rst t (effS W) u∧rst t (effS W) u≤1000000000000∧t*u=quo t (effS W) u*effS W+rst t (effS W) u:=by
 have hne:W≠[]:=by rintro rfl;simp[effW]at hu
 have hS:=effS_pos (all_nn hW) hne
 have hnn:=effW_nn (all_nn hW)
 have hu0:=hnn u hu
 have huS:u≤effS W:=by rw[←effW_sum];exact mem_le_sum hnn hu
 have hS2:effS W≤1000000000000:=by unfold effS;split<;>omega
 have hq0:0≤quo t (effS W) u:=Int.ediv_nonneg (Int.mul_nonneg ht hu0) (by omega)
 have hq1:quo t (effS W) u≤t:=by
  unfold quo
  refine Int.ediv_le_of_le_mul hS ?_
  exact Int.mul_le_mul_of_nonneg_left huS ht
 have hr0:0≤rst t (effS W) u:=Int.emod_nonneg _ (by omega)
 have hr1:rst t (effS W) u<effS W:=Int.emod_lt_of_pos _ hS
 refine⟨?_,hq0,hq1,hu0,by omega,hS,hS2,hr0,by omega, ?_⟩
 ·unfold mulDivZ
  rw[if_neg (by simp only[←Bool.not_eq_true,vldB_iff];omega),if_neg (by omega)]
  have:t*u/effS W=quo t (effS W) u:=rfl
  rw[this,if_neg (by omega)]
 ·unfold quo rst
  rw[Int.mul_comm (t*u/effS W)]
  exact(Int.mul_ediv_add_emod _ _).symm
theorem rest_wrap {t u q S r:Int} (h:t*u=q*S+r) (h0:0≤r) (h1:r≤1000000000000):IntKind.i64.wrap (IntKind.u64.wrap (IntKind.u64.wrap (t*u)-IntKind.u64.wrap (q*S)))=r:=by
 generalize t*u=x at*
 generalize q*S=y at*
 simp only[IntKind.wrap_u64,IntKind.wrap_i64]
 omega
end
end Go.Proofs.YtmofknmeljdodaaGreatDoor
