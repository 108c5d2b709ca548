/- Over any program with slices.SortStableFunc on ints: contract: the merge of two sorted runs. No condition but those that the statements name. -/
import Derived.Test.YtmofknmeljdodaaGreatDoorZS01
import Derived.Test.YtmofknmeljdodaaGreatDoorZB05
set_option maxHeartbeats 100000000
set_option maxRecDepth 100000
set_option linter.unusedVariables false
set_option linter.unusedSimpArgs false
open List renaming getElem_toArray→gTA,getElem_cons_zero→gCZ,getElem_cons_succ→gCS,setIfInBounds_toArray→sTA,set_cons_zero→sCZ,set_cons_succ→sCS
namespace Go.Proofs.YtmofknmeljdodaaGreatDoor
section
open Go.RowKit
variable {w w':World} {b:Nat} {l:List Int} {K:Int→Int} {x y:Int}
def SymmOk (K:Int→Int) (b cap N M rb n:Nat):Prop:=∀(A L V B:List Int) (a m e:Nat) (w:World),e≤a+n→IB w b (A++L++V++B)→A.length=a→a+L.length=m→m+V.length=e→e+B.length=N→0<L.length→0<V.length→MrgIn K L V→InR M (L++V)→CmpOk w b M K rb→
 Calls Tryz.prog 271 #[.slice (some ⟨b,0,none⟩) N cap, .int .i64 a, .int .i64 m, .int .i64 e, .func (.func 131) #[] #[.pointer (some ⟨rb,0,none⟩)]] w fun r w'=>r= .returned (.tuple #[])∧MrgTo K w' b A L V B∧Chg [b] w w'
structure SymB (a m e mid S0 R0:Nat):Prop where
 s0:a≤S0
 sr:S0≤R0
 rm:R0≤mid
 r2:R0≤m
 n:mid+m≤S0+e
 fs:S0=a∨mid+m=S0+e
 fr:R0=m∨R0=mid
structure SymI (K:Int→Int) (L V:List Int) (a m n S0 R0 S R:Nat):Prop where
 lo:S0≤S
 le:S≤R
 hi:R≤R0
 f1:S=S0∨Prec K (L.getD (S-1-a) 0) (V.getD (n-S-m) 0)
 f2:R=R0∨Prec K (V.getD (n-1-R-m) 0) (L.getD (R-a) 0)
theorem SymI.fit {L V:List Int} {a m e mid S0 R0 s:Nat} (h:SymI K L V a m (mid+m) S0 R0 s s) (hb:SymB a m e mid S0 R0) (hL:a+L.length=m) (hV:m+V.length=e) (hm:MrgIn K L V):
 Ahd K (L.take (s-a)) (V.drop (mid+m-s-m))∧Ahd K (V.take (mid+m-s-m)) (L.drop (s-a)):=by
 have h1:=h.lo
 have h2:=h.hi
 have b1:=hb.s0
 have b2:=hb.rm
 have b3:=hb.r2
 have b4:=hb.n
 constructor
 ·refine sym_ahd hm.l hm.r (by omega) (by omega) ?_
  rcases h.f1 with q|q
  ·rcases hb.fs with f|f
   ·left;omega
   ·right;left;omega
  ·right;right;rw[show s-a-1=s-1-a by omega];exact q
 ·refine sym_ahd hm.r hm.l (by omega) (by omega) ?_
  rcases h.f2 with q|q
  ·rcases hb.fr with f|f
   ·right;left;omega
   ·left;omega
  ·right;right;rw[show mid+m-s-m-1=mid+m-1-s-m by omega];exact q
theorem sym_ex {L V:List Int} {a m e mid:Nat} (hL:a+L.length=m) (hV:m+V.length=e) (hm:MrgIn K L V) (h1:a<mid) (h2:mid<e) (h3:2*mid≤a+e) (h4:a+e≤2*mid+1) (h5:a<m) (h6:m<e):
 ∃P:Nat→Nat→Prop,(∀S R,P S R→a≤S∧S≤R∧R≤mid∧R≤m∧mid+m≤S+e)∧
  (∀S R c,P S R→S≤c→c<R→Prec K (L.getD (c-a) 0) (V.getD (mid+m-1-c-m) 0)→P (c+1) R)∧
  (∀S R c,P S R→S≤c→c<R→Prec K (V.getD (mid+m-1-c-m) 0) (L.getD (c-a) 0)→P S c)∧
  (∀s,P s s→Ahd K (L.take (s-a)) (V.drop (mid-s))∧Ahd K (V.take (mid-s)) (L.drop (s-a)))∧
  (mid<m→P (mid+m-e) mid)∧(m≤mid→P a m):=by
 obtain⟨S0,R0,hb,hs⟩:∃S0 R0,SymB a m e mid S0 R0∧(mid<m→S0=mid+m-e∧R0=mid)∧(m≤mid→S0=a∧R0=m):=by
  by_cases q:mid<m
  ·exact⟨mid+m-e,mid,⟨by omega,by omega,by omega,by omega,by omega,Or.inr (by omega),Or.inr rfl⟩,fun _=>⟨rfl,rfl⟩,fun q2=>absurd q (by omega)⟩
  ·exact⟨a,m,⟨by omega,by omega,by omega,by omega,by omega,Or.inl rfl,Or.inl rfl⟩,fun q2=>absurd q2 q,fun _=>⟨rfl,rfl⟩⟩
 have b1:=hb.s0
 have b2:=hb.rm
 have b3:=hb.r2
 have b4:=hb.n
 refine⟨fun S R=>SymI K L V a m (mid+m) S0 R0 S R,fun S R p=> ?_,fun S R c p q1 q2 q3=>⟨?_, ?_,p.hi,Or.inr ?_,p.f2⟩,fun S R c p q1 q2 q3=>⟨p.lo,q1, ?_,p.f1,Or.inr q3⟩,fun s p=> ?_,fun q=> ?_,fun q=> ?_⟩
 ·have:=p.lo;have:=p.le;have:=p.hi;omega
 ·have:=p.lo;omega
 ·omega
 ·rw[show c+1-1-a=c-a by omega,show mid+m-(c+1)-m=mid+m-1-c-m by omega];exact q3
 ·have:=p.hi;omega
 ·have:=p.fit hb hL hV hm
  rwa[show mid+m-s-m=mid-s by omega]at this
 ·rw[←(hs.1 q).1,←(hs.1 q).2];exact⟨Nat.le_refl _,hb.sr,Nat.le_refl _,Or.inl rfl,Or.inl rfl⟩
 ·have:=hs.2 q
  have e1:=this.1
  have e2:=this.2
  show SymI K L V a m (mid+m) S0 R0 a m
  rw[←e1,←e2];exact⟨Nat.le_refl _,hb.sr,Nat.le_refl _,Or.inl rfl,Or.inl rfl⟩
theorem mid_list (A L V B:List Int) (i j:Nat) (h:L.drop i=[]∨V.take j=[]):A++L++V++B=A++L.take i++V.take j++(L.drop i++V.drop j++B):=by
 have e1:=List.take_append_drop i L
 have e2:=List.take_append_drop j V
 rcases h with h|h
 ·rw[h,List.append_nil]at e1
  rw[h,e1]
  conv=>lhs;rw[←e2]
  simp only[List.append_assoc,List.nil_append]
 ·rw[h,List.nil_append]at e2
  rw[h,e2]
  conv=>lhs;rw[←e1]
  simp only[List.append_assoc,List.nil_append]
theorem MrgIn.front {L V:List Int} (h:MrgIn K L V) (i j:Nat):MrgIn K (L.take i) (V.take j):=
 ⟨h.l.sublist (List.take_sublist _ _),h.r.sublist (List.take_sublist _ _),fun x hx y hy=>h.low x (List.mem_of_mem_take hx) y (List.mem_of_mem_take hy)⟩
theorem MrgIn.back {L V:List Int} (h:MrgIn K L V) (i j:Nat):MrgIn K (L.drop i) (V.drop j):=
 ⟨h.l.sublist (List.drop_sublist _ _),h.r.sublist (List.drop_sublist _ _),fun x hx y hy=>h.low x (List.mem_of_mem_drop hx) y (List.mem_of_mem_drop hy)⟩
theorem MrgIn.none {L V:List Int} (h:MrgIn K L V) (e:L=[]∨V=[]):Srt K (L++V):=by
 rcases e with rfl|rfl
 ·simpa using h.r
 ·simpa using h.l
theorem InR.sub {M:Nat} {X Y:List Int} (h:InR M X) (s:∀x∈Y,x∈X):InR M Y:=fun x hx=>h x (s x hx)
structure SymG (K:Int→Int) (b cap N M rb:Nat) (w:World) (A L V B:List Int) (a m e mid s:Nat):Prop where
 g1:∀w1,IB w1 b (A++L++V++B)→s<m→m<mid+m-s→Calls Tryz.prog 315 #[.slice (some ⟨b,0,none⟩) N cap, .int .i64 s, .int .i64 m, .int .i64 (mid+m-s:Nat), .func (.func 131) #[] #[.pointer (some ⟨rb,0,none⟩)]] w1 fun r w'=>r= .returned (.tuple #[])∧IB w' b (A++L.take (s-a)++V.take (mid-s)++(L.drop (s-a)++V.drop (mid-s)++B))∧Chg [b] w1 w'
 n1:∀w1,IB w1 b (A++L++V++B)→ ¬(s<m∧m<mid+m-s)→IB w1 b (A++L.take (s-a)++V.take (mid-s)++(L.drop (s-a)++V.drop (mid-s)++B))
 g2:∀w1,IB w1 b (A++L.take (s-a)++V.take (mid-s)++(L.drop (s-a)++V.drop (mid-s)++B))→Chg [b] w w1→a<s→s<mid→Calls Tryz.prog 271 #[.slice (some ⟨b,0,none⟩) N cap, .int .i64 a, .int .i64 s, .int .i64 mid, .func (.func 131) #[] #[.pointer (some ⟨rb,0,none⟩)]] w1 fun r w'=>r= .returned (.tuple #[])∧MrgTo K w' b A (L.take (s-a)) (V.take (mid-s)) (L.drop (s-a)++V.drop (mid-s)++B)∧Chg [b] w1 w'
 n2:∀w1,IB w1 b (A++L.take (s-a)++V.take (mid-s)++(L.drop (s-a)++V.drop (mid-s)++B))→ ¬(a<s∧s<mid)→MrgTo K w1 b A (L.take (s-a)) (V.take (mid-s)) (L.drop (s-a)++V.drop (mid-s)++B)
 g3:∀w1,MrgTo K w1 b A (L.take (s-a)) (V.take (mid-s)) (L.drop (s-a)++V.drop (mid-s)++B)→Chg [b] w w1→mid<mid+m-s→mid+m-s<e→Calls Tryz.prog 271 #[.slice (some ⟨b,0,none⟩) N cap, .int .i64 mid, .int .i64 (mid+m-s:Nat), .int .i64 e, .func (.func 131) #[] #[.pointer (some ⟨rb,0,none⟩)]] w1 fun r w'=>r= .returned (.tuple #[])∧MrgTo K w' b A L V B∧Chg [b] w1 w'
 n3:∀w1,MrgTo K w1 b A (L.take (s-a)) (V.take (mid-s)) (L.drop (s-a)++V.drop (mid-s)++B)→ ¬(mid<mid+m-s∧mid+m-s<e)→MrgTo K w1 b A L V B
theorem sym_g {cap N M rb n:Nat} (hM:N≤1000000) (ih:SymmOk K b cap N M rb n) {A L V B:List Int} {a m e mid s:Nat} {w:World} (hn:e≤a+(n+1)) (ha:A.length=a) (hL:a+L.length=m) (hV:m+V.length=e) (hN:e+B.length=N) (hm:MrgIn K L V) (hR:InR M (L++V)) (hc:CmpOk w b M K rb)
 (h1:a<mid) (h2:mid<e) (h3:a≤s) (h4:s≤mid) (h5:s≤m) (h6:mid+m≤s+e) (a1:Ahd K (L.take (s-a)) (V.drop (mid-s))) (a2:Ahd K (V.take (mid-s)) (L.drop (s-a))):SymG K b cap N M rb w A L V B a m e mid s where
 g1:=fun w1 hi q1 q2=>(rot_any (A++L.take (s-a)) (L.drop (s-a)) (V.take (mid-s)) (V.drop (mid-s)++B) cap s m (mid+m-s) N _ (by
  have e1:A++L.take (s-a)++L.drop (s-a)++V.take (mid-s)++(V.drop (mid-s)++B)=A++(L.take (s-a)++L.drop (s-a))++(V.take (mid-s)++V.drop (mid-s))++B:=by simp only[List.append_assoc]
  rw[e1,List.take_append_drop,List.take_append_drop];exact hi) (by simp;omega) (by simp;omega) (by simp;omega) (by simp;omega) hM (by simp;omega) (by simp;omega)).mono fun r w' ⟨q3,q4,q5⟩=>⟨q3,by simpa only[List.append_assoc]using q4,q5⟩
 n1:=fun w1 hi q=>by
  rw[←mid_list]
  ·exact hi
  ·by_cases q1:s<m
   ·right;rw[show mid-s=0 by omega];rfl
   ·left;exact List.drop_of_length_le (by omega)
 g2:=fun w1 hi hcw q1 q2=>ih A (L.take (s-a)) (V.take (mid-s)) (L.drop (s-a)++V.drop (mid-s)++B) a s mid w1 (by omega) hi ha (by simp;omega) (by simp;omega) (by simp;omega) (by simp;omega) (by simp;omega) (hm.front _ _) (hR.sub fun x hx=>by
  rcases List.mem_append.1 hx with hx|hx
  ·exact List.mem_append.2 (Or.inl (List.mem_of_mem_take hx))
  ·exact List.mem_append.2 (Or.inr (List.mem_of_mem_take hx))) (hc.on hcw)
 n2:=fun w1 hi q=>⟨L.take (s-a)++V.take (mid-s),by simpa only[List.append_assoc]using hi,List.Perm.refl _,(hm.front _ _).none (by
  by_cases q1:a<s
  ·right;rw[show mid-s=0 by omega];rfl
  ·left;rw[show s-a=0 by omega];rfl)⟩
 g3:=fun w1 ⟨X,hi,pX,sX⟩ hcw q1 q2=>by
  have hX:X.length=mid-a:=by rw[pX.length_eq];simp;omega
  refine(ih (A++X) (L.drop (s-a)) (V.drop (mid-s)) B mid (mid+m-s) e w1 (by omega) (by simpa only[List.append_assoc]using hi) (by simp;omega) (by simp;omega) (by simp;omega) hN (by simp;omega) (by simp;omega) (hm.back _ _) (hR.sub fun x hx=>by
   rcases List.mem_append.1 hx with hx|hx
   ·exact List.mem_append.2 (Or.inl (List.mem_of_mem_drop hx))
   ·exact List.mem_append.2 (Or.inr (List.mem_of_mem_drop hx))) (hc.on hcw)).mono fun r w' ⟨q3,⟨Y,q4,q5,q6⟩,q7⟩=>⟨q3,⟨X++Y,by simpa only[List.append_assoc]using q4, ?_, ?_⟩,q7⟩
  ·exact(sym_join sX q6 pX q5 hm.l hm.r a1 a2).2
  ·exact(sym_join sX q6 pX q5 hm.l hm.r a1 a2).1
 n3:=fun w1 ⟨X,hi,pX,sX⟩ q=>by
  have hb:=(hm.back (s-a) (mid-s)).none (by
   by_cases q1:mid<mid+m-s
   ·right;exact List.drop_of_length_le (by omega)
   ·left;exact List.drop_of_length_le (by omega))
  have:=sym_join sX hb pX (List.Perm.refl _) hm.l hm.r a1 a2
  exact⟨X++(L.drop (s-a)++V.drop (mid-s)),by simpa only[List.append_assoc]using hi,this.2,this.1⟩
theorem symm_step (cap N M rb n:Nat) (hM:N≤1000000) (ih:SymmOk K b cap N M rb n) (A L V B:List Int) (a m e:Nat) (w:World) (hn:e≤a+(n+1)) (h:IB w b (A++L++V++B)) (ha:A.length=a) (hm:a+L.length=m) (he:m+V.length=e) (hN:e+B.length=N) (hL:2≤L.length) (hV:2≤V.length) (hI:MrgIn K L V) (hR:InR M (L++V)) (hc:CmpOk w b M K rb):
 Calls Tryz.prog 271 #[.slice (some ⟨b,0,none⟩) N cap, .int .i64 a, .int .i64 m, .int .i64 e, .func (.func 131) #[] #[.pointer (some ⟨rb,0,none⟩)]] w fun r w'=>r= .returned (.tuple #[])∧MrgTo K w' b A L V B∧Chg [b] w w':=by
 have HI:=LH h
 have HA:=LH ha
 have HE:=LH hm
 have HV:=LH he
 have HN:=LH hN
 have HM:=LH hI
 have HR:=LH hR
 have HC:=LH hc
 have IH:=LH ih
 have hm1:a+2≤m:=by omega
 have hm2:m+2≤e:=by omega
 have hN1:e≤N:=by omega
 have hz0:((m:Int)-a==1)=false:=by rw[beq_eq_false_iff_ne];omega
 have hz1:((e:Int)-m==1)=false:=by rw[beq_eq_false_iff_ne];omega
 obtain⟨mid,emid⟩:∃mid,mid=(a+e)/2:=⟨_,rfl⟩
 have EMID:=LH (show((a:Int)+e)/2=(mid:Int) by omega)
 have hmid1:a<mid:=by omega
 have hmid2:mid<e:=by omega
 have hmid3:2*mid≤a+e:=by omega
 have hmid4:a+e≤2*mid+1:=by omega
 clear h ha hm he hN hI hR hc ih hL hV emid
 obtain⟨P,p1,p2,p3,p4,p5,p6⟩:=sym_ex HE.out HV.out HM.out hmid1 hmid2 hmid3 hmid4 (by omega) (by omega)
 have P1:=LH p1
 have P2:=LH p2
 have P3:=LH p3
 have P4:=LH p4
 obtain⟨nn,enn⟩:∃nn,nn=mid+m:=⟨_,rfl⟩
 obtain⟨S0,eS0⟩:∃S0,S0=mid+m-e:=⟨_,rfl⟩
 obtain⟨pp,epp⟩:∃pp,pp=mid+m-1:=⟨_,rfl⟩
 have NN:=LH (show(mid:Int)+m=(nn:Int) by omega)
 have ZP:=LH (show(nn:Int)-1=(pp:Int) by omega)
 have hb:(mid<m∧Hid (P S0 mid)∧Hid ((nn:Int)-e=(S0:Int)))∨(¬mid<m∧Hid (P a m)):=by
  by_cases q:mid<m
  ·exact Or.inl ⟨q,LH (eS0▸p5 q),LH (by omega)⟩
  ·exact Or.inr ⟨q,LH (p6 (by omega))⟩
 have hnn1:nn≤2000000:=by omega
 have ENN:=LH enn
 have EPP:=LH epp
 clear p1 p2 p3 p4 p5 p6 eS0 enn epp
 rcases hb with ⟨hmm,HP,ZS⟩|⟨hmm,HP⟩
 ·have hmi:(mid:Int)<(m:Int):=by omega
  go_enter Tryz.func271,Tryz.ntmps271
  go_wp2_with fail
  rw[EMID.out,NN.out,ZS.out,ZP.out]
  go_loopw [20,21] (fun iv jv wr=>∃S R:Nat,iv= .int .i64 S∧jv= .int .i64 R∧Hid (P S R)∧Hid (Chg [] w wr)) (fun iv jv _=>(intOf jv).toNat-(intOf iv).toNat)
  case atStart=>exact⟨_,_,rfl,rfl,HP,LH (Chg.refl _ _)⟩
  case round=>
   obtain⟨S,R,rfl,rfl,HPr,HC1⟩:=hrel
   obtain⟨s1,s2,s3,s4,s5⟩:=P1.out S R HPr.out
   rw[←ENN.out]at s5
   by_cases hlt:S<R
   ·obtain⟨c,ec⟩:∃c,c=(S+R)/2:=⟨_,rfl⟩
    obtain⟨d,ed⟩:∃d,d=nn-1-c:=⟨_,rfl⟩
    have hc1:S≤c:=by omega
    have hc2:c<R:=by omega
    have hd1:m≤d:=by have:=ENN.out;omega
    have hd2:d<e:=by omega
    obtain⟨u,hu⟩:∃u,L[c-a]? =some u:=⟨L[c-a]'(by have:=HE.out;omega),List.getElem?_eq_getElem _⟩
    obtain⟨v,hv⟩:∃v,V[d-m]? =some v:=⟨V[d-m]'(by have:=HV.out;omega),List.getElem?_eq_getElem _⟩
    have EC:=LH (show((S:Int)+R)/2=(c:Int) by omega)
    have huv:=HM.out.low u (List.mem_of_getElem? hu) v (List.mem_of_getElem? hv)
    have hu0:=HR.out u (by simp[List.mem_of_getElem? hu])
    have hv0:=HR.out v (by simp[List.mem_of_getElem? hv])
    have I1:=HI.out.keep HC1.out (by simp)
    have zu:=at_l (A:=A) (R:=V) (B:=B) (c:=c) HA.out (by omega) hu
    have zv:=at_r (A:=A) (L:=L) (R:=V) (B:=B) (m:=m) (c:=d) (by have:=HE.out;have:=HA.out;omega) hd1 hv
    have lb:=I1.lt
    have q1:=fun ds os=>((below_regrown wr ds os).cell (p:=⟨b,c,none⟩) lb).trans (I1.cell zu)
    have q2:=fun ds os=>((below_regrown wr ds os).cell (p:=⟨b,d,none⟩) lb).trans (I1.cell zv)
    have B8:=LH (show ∀ds os,Calls Tryz.prog 131 #[.int .i64 v, .int .i64 u, .pointer (some ⟨rb,0,none⟩)] (Go.Sort.grow (redrawn wr ds) os) fun e w''=>e= .returned (.int .i64 (cmpZ (K u) (K v)))∧∃p:Regrown,w''=Go.Sort.grow (redrawn wr p.d) p.os from
     fun ds os=>calls_regrown (HC.out v u _ hv0.1 hv0.2 hu0.1 hu0.2 ((HC1.out.thenSame (chg_regrown wr ds os)).mono (by simp))))
    have hcz:=cmpZ_neg (u:=K u) (v:=K v)
    have hpr:=prec_lt (K:=K) huv
    have hpn:=prec_nlt (K:=K) huv
    have hgu:L.getD (c-a) 0=u:=by rw[List.getD_eq_getElem?_getD,hu];rfl
    have hgv:V.getD (mid+m-1-c-m) 0=v:=by rw[List.getD_eq_getElem?_getD,show mid+m-1-c-m=d-m by have:=ENN.out;omega,hv];rfl
    have T2:=LH (P2.out S R c HPr.out hc1 hc2)
    have T3:=LH (P3.out S R c HPr.out hc1 hc2)
    rw[hgu,hgv]at T2 T3
    have z1:IntKind.i64.wrap ((pp:Int)-(c:Int))=(d:Int):=by have:=EPP.out;have:=ENN.out;rw[wrapI (by omega) (by omega)];omega
    have g1:(c:Int)<(N:Int):=by omega
    have g2:(d:Int)<(N:Int):=by omega
    have g3:(0:Int)≤(c:Int):=by omega
    have g4:(0:Int)≤(d:Int):=by omega
    have hlt2:(S:Int)<(R:Int):=by omega
    generalize cmpZ (K u) (K v)=r at*
    clear hu hv zu zv I1 ec ed hu0 hv0 huv hgu hgv
    by_cases ht:K u<K v
    ·have hr:r<0:=hcz.2 ht
     have HP2:=LH (T3.out (hpr.2 ht))
     clear hcz hpr hpn ht T2 T3
     go_wp2_with fail
     rw[EC.out]
     refine wp_region_quiet_below (by kernel_rfl) (by kernel_rfl) ?_
     repeat (any_goals (first|go_big_quiet_step (exact B8.out _ _)|quiet_step (exact B8.out _ _)))
     refine wpQuiet_nil ?_
     intro _ hw'
     obtain⟨⟨dq,osq⟩,hw''⟩:=hw'
     subst hw''
     change Exit.then _ _ Exit.normal _ (Go.Sort.grow (redrawn wr dq) osq)
     have K2:=LH (HC1.out.thenSame (chg_regrown wr dq osq))
     generalize Go.Sort.grow (redrawn wr dq) osq=W2 at*
     clear q1 q2 B8
     go_wp2_with fail
     exact⟨⟨S,c,rfl,rfl,HP2,K2⟩,by simp[intOf];omega⟩
    ·have hr:decide (r<0)=false:=decide_eq_false fun h=>ht (hcz.1 h)
     have HP2:=LH (T2.out (hpn.1 ht))
     clear hcz hpr hpn ht T2 T3
     go_wp2_with fail
     rw[EC.out]
     refine wp_region_quiet_below (by kernel_rfl) (by kernel_rfl) ?_
     repeat (any_goals (first|go_big_quiet_step (exact B8.out _ _)|quiet_step (exact B8.out _ _)))
     refine wpQuiet_nil ?_
     intro _ hw'
     obtain⟨⟨dq,osq⟩,hw''⟩:=hw'
     subst hw''
     change Exit.then _ _ Exit.normal _ (Go.Sort.grow (redrawn wr dq) osq)
     have K2:=LH (HC1.out.thenSame (chg_regrown wr dq osq))
     generalize Go.Sort.grow (redrawn wr dq) osq=W2 at*
     clear q1 q2 B8
     go_wp2_with fail
     exact⟨⟨c+1,R,by go_num,rfl,HP2,K2⟩,by simp[intOf];omega⟩
   ·have hSR:S=R:=by omega
    subst hSR
    obtain⟨a1,a2⟩:=P4.out S HPr.out
    have G:=LH (sym_g hM IH.out (w:=w) (s:=S) (cap:=cap) hn HA.out HE.out HV.out HN.out HM.out HR.out HC.out hmid1 hmid2 s1 s3 s4 (by have:=ENN.out;omega) a1 a2)
    obtain⟨t,et⟩:∃t,t=mid+m-S:=⟨_,rfl⟩
    have G1:=LH G.out.g1
    have N1:=LH G.out.n1
    have G2:=LH G.out.g2
    have N2:=LH G.out.n2
    have G3:=LH G.out.g3
    have N3:=LH G.out.n3
    rw[←et]at G1 N1 G3 N3
    have ET:=LH (show(nn:Int)-S=(t:Int) by have:=ENN.out;omega)
    have ht1:m≤t:=by have:=ENN.out;omega
    have ht2:t≤e:=by have:=ENN.out;omega
    have I1:=LH (HI.out.keep HC1.out (by simp))
    have C1:=LH (show Chg [b] w wr from HC1.out.mono (by simp))
    generalize A++L.take (S-a)++V.take (mid-S)++(L.drop (S-a)++V.drop (mid-S)++B)=l1 at*
    generalize hT:(fun w'=>MrgTo K w' b A (L.take (S-a)) (V.take (mid-S)) (L.drop (S-a)++V.drop (mid-S)++B))=T1
    have hT':∀w',MrgTo K w' b A (L.take (S-a)) (V.take (mid-S)) (L.drop (S-a)++V.drop (mid-S)++B)=T1 w':=fun w'=>congrFun hT w'
    simp only[hT']at G2 N2 G3 N3
    clear a1 a2 et HI HP P1 P2 P3 P4 HPr hlt hmm HC1 G hT hT' EPP ENN EMID IH HA HE HV HM HR HC
    by_cases r1:S<m∧m<t
    ·have r1a:(S:Int)<(m:Int):=by omega
     have r1b:(m:Int)<(nn:Int)-S:=by rw[ET.out];omega
     have F:=LH (G1.out wr I1.out r1.1 r1.2)
     rw[←ET.out]at F
     clear r1
     go_wp2_with fail
     refine F.out.mono ?_;rintro r w1 ⟨rfl,h8,h9⟩
     have I2:=LH h8
     have C2:=LH (C1.out.thenSame h9)
     clear h8 h9 F r1a r1b
     by_cases r2:a<S∧S<mid
     ·have r2a:(a:Int)<(S:Int):=by omega
      have r2b:(S:Int)<(mid:Int):=by omega
      have F2:=LH (G2.out _ I2.out C2.out r2.1 r2.2)
      clear r2
      go_wp2_with fail
      refine F2.out.mono ?_;rintro r w2 ⟨rfl,h8,h9⟩
      have I3:=LH h8
      have C3:=LH (C2.out.thenSame h9)
      clear h8 h9 F2
      by_cases r3:mid<t∧t<e
      ·have r3a:(mid:Int)<(nn:Int)-S:=by rw[ET.out];omega
       have r3b:(nn:Int)-S<(e:Int):=by rw[ET.out];omega
       have F3:=LH (G3.out _ I3.out C3.out r3.1 r3.2)
       rw[←ET.out]at F3
       clear r3
       go_wp2_with fail
       refine F3.out.mono ?_;rintro r w3 ⟨rfl,h8,h9⟩
       have I4:=LH h8
       have C4:=LH (C3.out.thenSame h9)
       clear h8 h9 F3
       go_wp2_with fail
       all_goals go_end0
       all_goals exact⟨rfl,I4.out,C4.out⟩
      ·have I4:=LH (N3.out _ I3.out r3)
       by_cases r3a:(mid:Int)<(nn:Int)-S
       ·have r3b: ¬(nn:Int)-S<(e:Int):=by rw[ET.out]at r3a⊢;omega
        clear r3
        go_wp2_with fail
        all_goals go_end0
        all_goals exact⟨rfl,I4.out,C3.out⟩
       ·clear r3
        go_wp2_with fail
        all_goals go_end0
        all_goals exact⟨rfl,I4.out,C3.out⟩
     ·have I3:=LH (N2.out _ I2.out r2)
      have C3:=C2
      by_cases r2a:(a:Int)<(S:Int)
      ·have r2b: ¬(S:Int)<(mid:Int):=by omega
       clear r2
       by_cases r3:mid<t∧t<e
       ·have r3a:(mid:Int)<(nn:Int)-S:=by rw[ET.out];omega
        have r3b:(nn:Int)-S<(e:Int):=by rw[ET.out];omega
        have F3:=LH (G3.out _ I3.out C3.out r3.1 r3.2)
        rw[←ET.out]at F3
        clear r3
        go_wp2_with fail
        refine F3.out.mono ?_;rintro r w3 ⟨rfl,h8,h9⟩
        have I4:=LH h8
        have C4:=LH (C3.out.thenSame h9)
        clear h8 h9 F3
        go_wp2_with fail
        all_goals go_end0
        all_goals exact⟨rfl,I4.out,C4.out⟩
       ·have I4:=LH (N3.out _ I3.out r3)
        by_cases r3a:(mid:Int)<(nn:Int)-S
        ·have r3b: ¬(nn:Int)-S<(e:Int):=by rw[ET.out]at r3a⊢;omega
         clear r3
         go_wp2_with fail
         all_goals go_end0
         all_goals exact⟨rfl,I4.out,C3.out⟩
        ·clear r3
         go_wp2_with fail
         all_goals go_end0
         all_goals exact⟨rfl,I4.out,C3.out⟩
      ·clear r2
       by_cases r3:mid<t∧t<e
       ·have r3a:(mid:Int)<(nn:Int)-S:=by rw[ET.out];omega
        have r3b:(nn:Int)-S<(e:Int):=by rw[ET.out];omega
        have F3:=LH (G3.out _ I3.out C3.out r3.1 r3.2)
        rw[←ET.out]at F3
        clear r3
        go_wp2_with fail
        refine F3.out.mono ?_;rintro r w3 ⟨rfl,h8,h9⟩
        have I4:=LH h8
        have C4:=LH (C3.out.thenSame h9)
        clear h8 h9 F3
        go_wp2_with fail
        all_goals go_end0
        all_goals exact⟨rfl,I4.out,C4.out⟩
       ·have I4:=LH (N3.out _ I3.out r3)
        by_cases r3a:(mid:Int)<(nn:Int)-S
        ·have r3b: ¬(nn:Int)-S<(e:Int):=by rw[ET.out]at r3a⊢;omega
         clear r3
         go_wp2_with fail
         all_goals go_end0
         all_goals exact⟨rfl,I4.out,C3.out⟩
        ·clear r3
         go_wp2_with fail
         all_goals go_end0
         all_goals exact⟨rfl,I4.out,C3.out⟩
    ·have F:=LH (N1.out wr I1.out r1)
     by_cases r1a:(S:Int)<(m:Int)
     ·have r1b: ¬(m:Int)<(nn:Int)-S:=by rw[ET.out];omega
      have I2:=F
      have C2:=C1
      clear r1 F
      by_cases r2:a<S∧S<mid
      ·have r2a:(a:Int)<(S:Int):=by omega
       have r2b:(S:Int)<(mid:Int):=by omega
       have F2:=LH (G2.out _ I2.out C2.out r2.1 r2.2)
       clear r2
       go_wp2_with fail
       refine F2.out.mono ?_;rintro r w2 ⟨rfl,h8,h9⟩
       have I3:=LH h8
       have C3:=LH (C2.out.thenSame h9)
       clear h8 h9 F2
       by_cases r3:mid<t∧t<e
       ·have r3a:(mid:Int)<(nn:Int)-S:=by rw[ET.out];omega
        have r3b:(nn:Int)-S<(e:Int):=by rw[ET.out];omega
        have F3:=LH (G3.out _ I3.out C3.out r3.1 r3.2)
        rw[←ET.out]at F3
        clear r3
        go_wp2_with fail
        refine F3.out.mono ?_;rintro r w3 ⟨rfl,h8,h9⟩
        have I4:=LH h8
        have C4:=LH (C3.out.thenSame h9)
        clear h8 h9 F3
        go_wp2_with fail
        all_goals go_end0
        all_goals exact⟨rfl,I4.out,C4.out⟩
       ·have I4:=LH (N3.out _ I3.out r3)
        by_cases r3a:(mid:Int)<(nn:Int)-S
        ·have r3b: ¬(nn:Int)-S<(e:Int):=by rw[ET.out]at r3a⊢;omega
         clear r3
         go_wp2_with fail
         all_goals go_end0
         all_goals exact⟨rfl,I4.out,C3.out⟩
        ·clear r3
         go_wp2_with fail
         all_goals go_end0
         all_goals exact⟨rfl,I4.out,C3.out⟩
      ·have I3:=LH (N2.out _ I2.out r2)
       have C3:=C2
       by_cases r2a:(a:Int)<(S:Int)
       ·have r2b: ¬(S:Int)<(mid:Int):=by omega
        clear r2
        by_cases r3:mid<t∧t<e
        ·have r3a:(mid:Int)<(nn:Int)-S:=by rw[ET.out];omega
         have r3b:(nn:Int)-S<(e:Int):=by rw[ET.out];omega
         have F3:=LH (G3.out _ I3.out C3.out r3.1 r3.2)
         rw[←ET.out]at F3
         clear r3
         go_wp2_with fail
         refine F3.out.mono ?_;rintro r w3 ⟨rfl,h8,h9⟩
         have I4:=LH h8
         have C4:=LH (C3.out.thenSame h9)
         clear h8 h9 F3
         go_wp2_with fail
         all_goals go_end0
         all_goals exact⟨rfl,I4.out,C4.out⟩
        ·have I4:=LH (N3.out _ I3.out r3)
         by_cases r3a:(mid:Int)<(nn:Int)-S
         ·have r3b: ¬(nn:Int)-S<(e:Int):=by rw[ET.out]at r3a⊢;omega
          clear r3
          go_wp2_with fail
          all_goals go_end0
          all_goals exact⟨rfl,I4.out,C3.out⟩
         ·clear r3
          go_wp2_with fail
          all_goals go_end0
          all_goals exact⟨rfl,I4.out,C3.out⟩
       ·clear r2
        by_cases r3:mid<t∧t<e
        ·have r3a:(mid:Int)<(nn:Int)-S:=by rw[ET.out];omega
         have r3b:(nn:Int)-S<(e:Int):=by rw[ET.out];omega
         have F3:=LH (G3.out _ I3.out C3.out r3.1 r3.2)
         rw[←ET.out]at F3
         clear r3
         go_wp2_with fail
         refine F3.out.mono ?_;rintro r w3 ⟨rfl,h8,h9⟩
         have I4:=LH h8
         have C4:=LH (C3.out.thenSame h9)
         clear h8 h9 F3
         go_wp2_with fail
         all_goals go_end0
         all_goals exact⟨rfl,I4.out,C4.out⟩
        ·have I4:=LH (N3.out _ I3.out r3)
         by_cases r3a:(mid:Int)<(nn:Int)-S
         ·have r3b: ¬(nn:Int)-S<(e:Int):=by rw[ET.out]at r3a⊢;omega
          clear r3
          go_wp2_with fail
          all_goals go_end0
          all_goals exact⟨rfl,I4.out,C3.out⟩
         ·clear r3
          go_wp2_with fail
          all_goals go_end0
          all_goals exact⟨rfl,I4.out,C3.out⟩
     ·have I2:=F
      have C2:=C1
      clear r1 F
      by_cases r2:a<S∧S<mid
      ·have r2a:(a:Int)<(S:Int):=by omega
       have r2b:(S:Int)<(mid:Int):=by omega
       have F2:=LH (G2.out _ I2.out C2.out r2.1 r2.2)
       clear r2
       go_wp2_with fail
       refine F2.out.mono ?_;rintro r w2 ⟨rfl,h8,h9⟩
       have I3:=LH h8
       have C3:=LH (C2.out.thenSame h9)
       clear h8 h9 F2
       by_cases r3:mid<t∧t<e
       ·have r3a:(mid:Int)<(nn:Int)-S:=by rw[ET.out];omega
        have r3b:(nn:Int)-S<(e:Int):=by rw[ET.out];omega
        have F3:=LH (G3.out _ I3.out C3.out r3.1 r3.2)
        rw[←ET.out]at F3
        clear r3
        go_wp2_with fail
        refine F3.out.mono ?_;rintro r w3 ⟨rfl,h8,h9⟩
        have I4:=LH h8
        have C4:=LH (C3.out.thenSame h9)
        clear h8 h9 F3
        go_wp2_with fail
        all_goals go_end0
        all_goals exact⟨rfl,I4.out,C4.out⟩
       ·have I4:=LH (N3.out _ I3.out r3)
        by_cases r3a:(mid:Int)<(nn:Int)-S
        ·have r3b: ¬(nn:Int)-S<(e:Int):=by rw[ET.out]at r3a⊢;omega
         clear r3
         go_wp2_with fail
         all_goals go_end0
         all_goals exact⟨rfl,I4.out,C3.out⟩
        ·clear r3
         go_wp2_with fail
         all_goals go_end0
         all_goals exact⟨rfl,I4.out,C3.out⟩
      ·have I3:=LH (N2.out _ I2.out r2)
       have C3:=C2
       by_cases r2a:(a:Int)<(S:Int)
       ·have r2b: ¬(S:Int)<(mid:Int):=by omega
        clear r2
        by_cases r3:mid<t∧t<e
        ·have r3a:(mid:Int)<(nn:Int)-S:=by rw[ET.out];omega
         have r3b:(nn:Int)-S<(e:Int):=by rw[ET.out];omega
         have F3:=LH (G3.out _ I3.out C3.out r3.1 r3.2)
         rw[←ET.out]at F3
         clear r3
         go_wp2_with fail
         refine F3.out.mono ?_;rintro r w3 ⟨rfl,h8,h9⟩
         have I4:=LH h8
         have C4:=LH (C3.out.thenSame h9)
         clear h8 h9 F3
         go_wp2_with fail
         all_goals go_end0
         all_goals exact⟨rfl,I4.out,C4.out⟩
        ·have I4:=LH (N3.out _ I3.out r3)
         by_cases r3a:(mid:Int)<(nn:Int)-S
         ·have r3b: ¬(nn:Int)-S<(e:Int):=by rw[ET.out]at r3a⊢;omega
          clear r3
          go_wp2_with fail
          all_goals go_end0
          all_goals exact⟨rfl,I4.out,C3.out⟩
         ·clear r3
          go_wp2_with fail
          all_goals go_end0
          all_goals exact⟨rfl,I4.out,C3.out⟩
       ·clear r2
        by_cases r3:mid<t∧t<e
        ·have r3a:(mid:Int)<(nn:Int)-S:=by rw[ET.out];omega
         have r3b:(nn:Int)-S<(e:Int):=by rw[ET.out];omega
         have F3:=LH (G3.out _ I3.out C3.out r3.1 r3.2)
         rw[←ET.out]at F3
         clear r3
         go_wp2_with fail
         refine F3.out.mono ?_;rintro r w3 ⟨rfl,h8,h9⟩
         have I4:=LH h8
         have C4:=LH (C3.out.thenSame h9)
         clear h8 h9 F3
         go_wp2_with fail
         all_goals go_end0
         all_goals exact⟨rfl,I4.out,C4.out⟩
        ·have I4:=LH (N3.out _ I3.out r3)
         by_cases r3a:(mid:Int)<(nn:Int)-S
         ·have r3b: ¬(nn:Int)-S<(e:Int):=by rw[ET.out]at r3a⊢;omega
          clear r3
          go_wp2_with fail
          all_goals go_end0
          all_goals exact⟨rfl,I4.out,C3.out⟩
         ·clear r3
          go_wp2_with fail
          all_goals go_end0
          all_goals exact⟨rfl,I4.out,C3.out⟩
 ·have hmi: ¬(mid:Int)<(m:Int):=by omega
  go_enter Tryz.func271,Tryz.ntmps271
  go_wp2_with fail
  rw[EMID.out,NN.out,ZP.out]
  go_loopw [20,21] (fun iv jv wr=>∃S R:Nat,iv= .int .i64 S∧jv= .int .i64 R∧Hid (P S R)∧Hid (Chg [] w wr)) (fun iv jv _=>(intOf jv).toNat-(intOf iv).toNat)
  case atStart=>exact⟨_,_,rfl,rfl,HP,LH (Chg.refl _ _)⟩
  case round=>
   obtain⟨S,R,rfl,rfl,HPr,HC1⟩:=hrel
   obtain⟨s1,s2,s3,s4,s5⟩:=P1.out S R HPr.out
   rw[←ENN.out]at s5
   by_cases hlt:S<R
   ·obtain⟨c,ec⟩:∃c,c=(S+R)/2:=⟨_,rfl⟩
    obtain⟨d,ed⟩:∃d,d=nn-1-c:=⟨_,rfl⟩
    have hc1:S≤c:=by omega
    have hc2:c<R:=by omega
    have hd1:m≤d:=by have:=ENN.out;omega
    have hd2:d<e:=by omega
    obtain⟨u,hu⟩:∃u,L[c-a]? =some u:=⟨L[c-a]'(by have:=HE.out;omega),List.getElem?_eq_getElem _⟩
    obtain⟨v,hv⟩:∃v,V[d-m]? =some v:=⟨V[d-m]'(by have:=HV.out;omega),List.getElem?_eq_getElem _⟩
    have EC:=LH (show((S:Int)+R)/2=(c:Int) by omega)
    have huv:=HM.out.low u (List.mem_of_getElem? hu) v (List.mem_of_getElem? hv)
    have hu0:=HR.out u (by simp[List.mem_of_getElem? hu])
    have hv0:=HR.out v (by simp[List.mem_of_getElem? hv])
    have I1:=HI.out.keep HC1.out (by simp)
    have zu:=at_l (A:=A) (R:=V) (B:=B) (c:=c) HA.out (by omega) hu
    have zv:=at_r (A:=A) (L:=L) (R:=V) (B:=B) (m:=m) (c:=d) (by have:=HE.out;have:=HA.out;omega) hd1 hv
    have lb:=I1.lt
    have q1:=fun ds os=>((below_regrown wr ds os).cell (p:=⟨b,c,none⟩) lb).trans (I1.cell zu)
    have q2:=fun ds os=>((below_regrown wr ds os).cell (p:=⟨b,d,none⟩) lb).trans (I1.cell zv)
    have B8:=LH (show ∀ds os,Calls Tryz.prog 131 #[.int .i64 v, .int .i64 u, .pointer (some ⟨rb,0,none⟩)] (Go.Sort.grow (redrawn wr ds) os) fun e w''=>e= .returned (.int .i64 (cmpZ (K u) (K v)))∧∃p:Regrown,w''=Go.Sort.grow (redrawn wr p.d) p.os from
     fun ds os=>calls_regrown (HC.out v u _ hv0.1 hv0.2 hu0.1 hu0.2 ((HC1.out.thenSame (chg_regrown wr ds os)).mono (by simp))))
    have hcz:=cmpZ_neg (u:=K u) (v:=K v)
    have hpr:=prec_lt (K:=K) huv
    have hpn:=prec_nlt (K:=K) huv
    have hgu:L.getD (c-a) 0=u:=by rw[List.getD_eq_getElem?_getD,hu];rfl
    have hgv:V.getD (mid+m-1-c-m) 0=v:=by rw[List.getD_eq_getElem?_getD,show mid+m-1-c-m=d-m by have:=ENN.out;omega,hv];rfl
    have T2:=LH (P2.out S R c HPr.out hc1 hc2)
    have T3:=LH (P3.out S R c HPr.out hc1 hc2)
    rw[hgu,hgv]at T2 T3
    have z1:IntKind.i64.wrap ((pp:Int)-(c:Int))=(d:Int):=by have:=EPP.out;have:=ENN.out;rw[wrapI (by omega) (by omega)];omega
    have g1:(c:Int)<(N:Int):=by omega
    have g2:(d:Int)<(N:Int):=by omega
    have g3:(0:Int)≤(c:Int):=by omega
    have g4:(0:Int)≤(d:Int):=by omega
    have hlt2:(S:Int)<(R:Int):=by omega
    generalize cmpZ (K u) (K v)=r at*
    clear hu hv zu zv I1 ec ed hu0 hv0 huv hgu hgv
    by_cases ht:K u<K v
    ·have hr:r<0:=hcz.2 ht
     have HP2:=LH (T3.out (hpr.2 ht))
     clear hcz hpr hpn ht T2 T3
     go_wp2_with fail
     rw[EC.out]
     refine wp_region_quiet_below (by kernel_rfl) (by kernel_rfl) ?_
     repeat (any_goals (first|go_big_quiet_step (exact B8.out _ _)|quiet_step (exact B8.out _ _)))
     refine wpQuiet_nil ?_
     intro _ hw'
     obtain⟨⟨dq,osq⟩,hw''⟩:=hw'
     subst hw''
     change Exit.then _ _ Exit.normal _ (Go.Sort.grow (redrawn wr dq) osq)
     have K2:=LH (HC1.out.thenSame (chg_regrown wr dq osq))
     generalize Go.Sort.grow (redrawn wr dq) osq=W2 at*
     clear q1 q2 B8
     go_wp2_with fail
     exact⟨⟨S,c,rfl,rfl,HP2,K2⟩,by simp[intOf];omega⟩
    ·have hr:decide (r<0)=false:=decide_eq_false fun h=>ht (hcz.1 h)
     have HP2:=LH (T2.out (hpn.1 ht))
     clear hcz hpr hpn ht T2 T3
     go_wp2_with fail
     rw[EC.out]
     refine wp_region_quiet_below (by kernel_rfl) (by kernel_rfl) ?_
     repeat (any_goals (first|go_big_quiet_step (exact B8.out _ _)|quiet_step (exact B8.out _ _)))
     refine wpQuiet_nil ?_
     intro _ hw'
     obtain⟨⟨dq,osq⟩,hw''⟩:=hw'
     subst hw''
     change Exit.then _ _ Exit.normal _ (Go.Sort.grow (redrawn wr dq) osq)
     have K2:=LH (HC1.out.thenSame (chg_regrown wr dq osq))
     generalize Go.Sort.grow (redrawn wr dq) osq=W2 at*
     clear q1 q2 B8
     go_wp2_with fail
     exact⟨⟨c+1,R,by go_num,rfl,HP2,K2⟩,by simp[intOf];omega⟩
   ·have hSR:S=R:=by omega
    subst hSR
    obtain⟨a1,a2⟩:=P4.out S HPr.out
    have G:=LH (sym_g hM IH.out (w:=w) (s:=S) (cap:=cap) hn HA.out HE.out HV.out HN.out HM.out HR.out HC.out hmid1 hmid2 s1 s3 s4 (by have:=ENN.out;omega) a1 a2)
    obtain⟨t,et⟩:∃t,t=mid+m-S:=⟨_,rfl⟩
    have G1:=LH G.out.g1
    have N1:=LH G.out.n1
    have G2:=LH G.out.g2
    have N2:=LH G.out.n2
    have G3:=LH G.out.g3
    have N3:=LH G.out.n3
    rw[←et]at G1 N1 G3 N3
    have ET:=LH (show(nn:Int)-S=(t:Int) by have:=ENN.out;omega)
    have ht1:m≤t:=by have:=ENN.out;omega
    have ht2:t≤e:=by have:=ENN.out;omega
    have I1:=LH (HI.out.keep HC1.out (by simp))
    have C1:=LH (show Chg [b] w wr from HC1.out.mono (by simp))
    generalize A++L.take (S-a)++V.take (mid-S)++(L.drop (S-a)++V.drop (mid-S)++B)=l1 at*
    generalize hT:(fun w'=>MrgTo K w' b A (L.take (S-a)) (V.take (mid-S)) (L.drop (S-a)++V.drop (mid-S)++B))=T1
    have hT':∀w',MrgTo K w' b A (L.take (S-a)) (V.take (mid-S)) (L.drop (S-a)++V.drop (mid-S)++B)=T1 w':=fun w'=>congrFun hT w'
    simp only[hT']at G2 N2 G3 N3
    clear a1 a2 et HI HP P1 P2 P3 P4 HPr hlt hmm HC1 G hT hT' EPP ENN EMID IH HA HE HV HM HR HC
    by_cases r1:S<m∧m<t
    ·have r1a:(S:Int)<(m:Int):=by omega
     have r1b:(m:Int)<(nn:Int)-S:=by rw[ET.out];omega
     have F:=LH (G1.out wr I1.out r1.1 r1.2)
     rw[←ET.out]at F
     clear r1
     go_wp2_with fail
     refine F.out.mono ?_;rintro r w1 ⟨rfl,h8,h9⟩
     have I2:=LH h8
     have C2:=LH (C1.out.thenSame h9)
     clear h8 h9 F r1a r1b
     by_cases r2:a<S∧S<mid
     ·have r2a:(a:Int)<(S:Int):=by omega
      have r2b:(S:Int)<(mid:Int):=by omega
      have F2:=LH (G2.out _ I2.out C2.out r2.1 r2.2)
      clear r2
      go_wp2_with fail
      refine F2.out.mono ?_;rintro r w2 ⟨rfl,h8,h9⟩
      have I3:=LH h8
      have C3:=LH (C2.out.thenSame h9)
      clear h8 h9 F2
      by_cases r3:mid<t∧t<e
      ·have r3a:(mid:Int)<(nn:Int)-S:=by rw[ET.out];omega
       have r3b:(nn:Int)-S<(e:Int):=by rw[ET.out];omega
       have F3:=LH (G3.out _ I3.out C3.out r3.1 r3.2)
       rw[←ET.out]at F3
       clear r3
       go_wp2_with fail
       refine F3.out.mono ?_;rintro r w3 ⟨rfl,h8,h9⟩
       have I4:=LH h8
       have C4:=LH (C3.out.thenSame h9)
       clear h8 h9 F3
       go_wp2_with fail
       all_goals go_end0
       all_goals exact⟨rfl,I4.out,C4.out⟩
      ·have I4:=LH (N3.out _ I3.out r3)
       by_cases r3a:(mid:Int)<(nn:Int)-S
       ·have r3b: ¬(nn:Int)-S<(e:Int):=by rw[ET.out]at r3a⊢;omega
        clear r3
        go_wp2_with fail
        all_goals go_end0
        all_goals exact⟨rfl,I4.out,C3.out⟩
       ·clear r3
        go_wp2_with fail
        all_goals go_end0
        all_goals exact⟨rfl,I4.out,C3.out⟩
     ·have I3:=LH (N2.out _ I2.out r2)
      have C3:=C2
      by_cases r2a:(a:Int)<(S:Int)
      ·have r2b: ¬(S:Int)<(mid:Int):=by omega
       clear r2
       by_cases r3:mid<t∧t<e
       ·have r3a:(mid:Int)<(nn:Int)-S:=by rw[ET.out];omega
        have r3b:(nn:Int)-S<(e:Int):=by rw[ET.out];omega
        have F3:=LH (G3.out _ I3.out C3.out r3.1 r3.2)
        rw[←ET.out]at F3
        clear r3
        go_wp2_with fail
        refine F3.out.mono ?_;rintro r w3 ⟨rfl,h8,h9⟩
        have I4:=LH h8
        have C4:=LH (C3.out.thenSame h9)
        clear h8 h9 F3
        go_wp2_with fail
        all_goals go_end0
        all_goals exact⟨rfl,I4.out,C4.out⟩
       ·have I4:=LH (N3.out _ I3.out r3)
        by_cases r3a:(mid:Int)<(nn:Int)-S
        ·have r3b: ¬(nn:Int)-S<(e:Int):=by rw[ET.out]at r3a⊢;omega
         clear r3
         go_wp2_with fail
         all_goals go_end0
         all_goals exact⟨rfl,I4.out,C3.out⟩
        ·clear r3
         go_wp2_with fail
         all_goals go_end0
         all_goals exact⟨rfl,I4.out,C3.out⟩
      ·clear r2
       by_cases r3:mid<t∧t<e
       ·have r3a:(mid:Int)<(nn:Int)-S:=by rw[ET.out];omega
        have r3b:(nn:Int)-S<(e:Int):=by rw[ET.out];omega
        have F3:=LH (G3.out _ I3.out C3.out r3.1 r3.2)
        rw[←ET.out]at F3
        clear r3
        go_wp2_with fail
        refine F3.out.mono ?_;rintro r w3 ⟨rfl,h8,h9⟩
        have I4:=LH h8
        have C4:=LH (C3.out.thenSame h9)
        clear h8 h9 F3
        go_wp2_with fail
        all_goals go_end0
        all_goals exact⟨rfl,I4.out,C4.out⟩
       ·have I4:=LH (N3.out _ I3.out r3)
        by_cases r3a:(mid:Int)<(nn:Int)-S
        ·have r3b: ¬(nn:Int)-S<(e:Int):=by rw[ET.out]at r3a⊢;omega
         clear r3
         go_wp2_with fail
         all_goals go_end0
         all_goals exact⟨rfl,I4.out,C3.out⟩
        ·clear r3
         go_wp2_with fail
         all_goals go_end0
         all_goals exact⟨rfl,I4.out,C3.out⟩
    ·have F:=LH (N1.out wr I1.out r1)
     by_cases r1a:(S:Int)<(m:Int)
     ·have r1b: ¬(m:Int)<(nn:Int)-S:=by rw[ET.out];omega
      have I2:=F
      have C2:=C1
      clear r1 F
      by_cases r2:a<S∧S<mid
      ·have r2a:(a:Int)<(S:Int):=by omega
       have r2b:(S:Int)<(mid:Int):=by omega
       have F2:=LH (G2.out _ I2.out C2.out r2.1 r2.2)
       clear r2
       go_wp2_with fail
       refine F2.out.mono ?_;rintro r w2 ⟨rfl,h8,h9⟩
       have I3:=LH h8
       have C3:=LH (C2.out.thenSame h9)
       clear h8 h9 F2
       by_cases r3:mid<t∧t<e
       ·have r3a:(mid:Int)<(nn:Int)-S:=by rw[ET.out];omega
        have r3b:(nn:Int)-S<(e:Int):=by rw[ET.out];omega
        have F3:=LH (G3.out _ I3.out C3.out r3.1 r3.2)
        rw[←ET.out]at F3
        clear r3
        go_wp2_with fail
        refine F3.out.mono ?_;rintro r w3 ⟨rfl,h8,h9⟩
        have I4:=LH h8
        have C4:=LH (C3.out.thenSame h9)
        clear h8 h9 F3
        go_wp2_with fail
        all_goals go_end0
        all_goals exact⟨rfl,I4.out,C4.out⟩
       ·have I4:=LH (N3.out _ I3.out r3)
        by_cases r3a:(mid:Int)<(nn:Int)-S
        ·have r3b: ¬(nn:Int)-S<(e:Int):=by rw[ET.out]at r3a⊢;omega
         clear r3
         go_wp2_with fail
         all_goals go_end0
         all_goals exact⟨rfl,I4.out,C3.out⟩
        ·clear r3
         go_wp2_with fail
         all_goals go_end0
         all_goals exact⟨rfl,I4.out,C3.out⟩
      ·have I3:=LH (N2.out _ I2.out r2)
       have C3:=C2
       by_cases r2a:(a:Int)<(S:Int)
       ·have r2b: ¬(S:Int)<(mid:Int):=by omega
        clear r2
        by_cases r3:mid<t∧t<e
        ·have r3a:(mid:Int)<(nn:Int)-S:=by rw[ET.out];omega
         have r3b:(nn:Int)-S<(e:Int):=by rw[ET.out];omega
         have F3:=LH (G3.out _ I3.out C3.out r3.1 r3.2)
         rw[←ET.out]at F3
         clear r3
         go_wp2_with fail
         refine F3.out.mono ?_;rintro r w3 ⟨rfl,h8,h9⟩
         have I4:=LH h8
         have C4:=LH (C3.out.thenSame h9)
         clear h8 h9 F3
         go_wp2_with fail
         all_goals go_end0
         all_goals exact⟨rfl,I4.out,C4.out⟩
        ·have I4:=LH (N3.out _ I3.out r3)
         by_cases r3a:(mid:Int)<(nn:Int)-S
         ·have r3b: ¬(nn:Int)-S<(e:Int):=by rw[ET.out]at r3a⊢;omega
          clear r3
          go_wp2_with fail
          all_goals go_end0
          all_goals exact⟨rfl,I4.out,C3.out⟩
         ·clear r3
          go_wp2_with fail
          all_goals go_end0
          all_goals exact⟨rfl,I4.out,C3.out⟩
       ·clear r2
        by_cases r3:mid<t∧t<e
        ·have r3a:(mid:Int)<(nn:Int)-S:=by rw[ET.out];omega
         have r3b:(nn:Int)-S<(e:Int):=by rw[ET.out];omega
         have F3:=LH (G3.out _ I3.out C3.out r3.1 r3.2)
         rw[←ET.out]at F3
         clear r3
         go_wp2_with fail
         refine F3.out.mono ?_;rintro r w3 ⟨rfl,h8,h9⟩
         have I4:=LH h8
         have C4:=LH (C3.out.thenSame h9)
         clear h8 h9 F3
         go_wp2_with fail
         all_goals go_end0
         all_goals exact⟨rfl,I4.out,C4.out⟩
        ·have I4:=LH (N3.out _ I3.out r3)
         by_cases r3a:(mid:Int)<(nn:Int)-S
         ·have r3b: ¬(nn:Int)-S<(e:Int):=by rw[ET.out]at r3a⊢;omega
          clear r3
          go_wp2_with fail
          all_goals go_end0
          all_goals exact⟨rfl,I4.out,C3.out⟩
         ·clear r3
          go_wp2_with fail
          all_goals go_end0
          all_goals exact⟨rfl,I4.out,C3.out⟩
     ·have I2:=F
      have C2:=C1
      clear r1 F
      by_cases r2:a<S∧S<mid
      ·have r2a:(a:Int)<(S:Int):=by omega
       have r2b:(S:Int)<(mid:Int):=by omega
       have F2:=LH (G2.out _ I2.out C2.out r2.1 r2.2)
       clear r2
       go_wp2_with fail
       refine F2.out.mono ?_;rintro r w2 ⟨rfl,h8,h9⟩
       have I3:=LH h8
       have C3:=LH (C2.out.thenSame h9)
       clear h8 h9 F2
       by_cases r3:mid<t∧t<e
       ·have r3a:(mid:Int)<(nn:Int)-S:=by rw[ET.out];omega
        have r3b:(nn:Int)-S<(e:Int):=by rw[ET.out];omega
        have F3:=LH (G3.out _ I3.out C3.out r3.1 r3.2)
        rw[←ET.out]at F3
        clear r3
        go_wp2_with fail
        refine F3.out.mono ?_;rintro r w3 ⟨rfl,h8,h9⟩
        have I4:=LH h8
        have C4:=LH (C3.out.thenSame h9)
        clear h8 h9 F3
        go_wp2_with fail
        all_goals go_end0
        all_goals exact⟨rfl,I4.out,C4.out⟩
       ·have I4:=LH (N3.out _ I3.out r3)
        by_cases r3a:(mid:Int)<(nn:Int)-S
        ·have r3b: ¬(nn:Int)-S<(e:Int):=by rw[ET.out]at r3a⊢;omega
         clear r3
         go_wp2_with fail
         all_goals go_end0
         all_goals exact⟨rfl,I4.out,C3.out⟩
        ·clear r3
         go_wp2_with fail
         all_goals go_end0
         all_goals exact⟨rfl,I4.out,C3.out⟩
      ·have I3:=LH (N2.out _ I2.out r2)
       have C3:=C2
       by_cases r2a:(a:Int)<(S:Int)
       ·have r2b: ¬(S:Int)<(mid:Int):=by omega
        clear r2
        by_cases r3:mid<t∧t<e
        ·have r3a:(mid:Int)<(nn:Int)-S:=by rw[ET.out];omega
         have r3b:(nn:Int)-S<(e:Int):=by rw[ET.out];omega
         have F3:=LH (G3.out _ I3.out C3.out r3.1 r3.2)
         rw[←ET.out]at F3
         clear r3
         go_wp2_with fail
         refine F3.out.mono ?_;rintro r w3 ⟨rfl,h8,h9⟩
         have I4:=LH h8
         have C4:=LH (C3.out.thenSame h9)
         clear h8 h9 F3
         go_wp2_with fail
         all_goals go_end0
         all_goals exact⟨rfl,I4.out,C4.out⟩
        ·have I4:=LH (N3.out _ I3.out r3)
         by_cases r3a:(mid:Int)<(nn:Int)-S
         ·have r3b: ¬(nn:Int)-S<(e:Int):=by rw[ET.out]at r3a⊢;omega
          clear r3
          go_wp2_with fail
          all_goals go_end0
          all_goals exact⟨rfl,I4.out,C3.out⟩
         ·clear r3
          go_wp2_with fail
          all_goals go_end0
          all_goals exact⟨rfl,I4.out,C3.out⟩
       ·clear r2
        by_cases r3:mid<t∧t<e
        ·have r3a:(mid:Int)<(nn:Int)-S:=by rw[ET.out];omega
         have r3b:(nn:Int)-S<(e:Int):=by rw[ET.out];omega
         have F3:=LH (G3.out _ I3.out C3.out r3.1 r3.2)
         rw[←ET.out]at F3
         clear r3
         go_wp2_with fail
         refine F3.out.mono ?_;rintro r w3 ⟨rfl,h8,h9⟩
         have I4:=LH h8
         have C4:=LH (C3.out.thenSame h9)
         clear h8 h9 F3
         go_wp2_with fail
         all_goals go_end0
         all_goals exact⟨rfl,I4.out,C4.out⟩
        ·have I4:=LH (N3.out _ I3.out r3)
         by_cases r3a:(mid:Int)<(nn:Int)-S
         ·have r3b: ¬(nn:Int)-S<(e:Int):=by rw[ET.out]at r3a⊢;omega
          clear r3
          go_wp2_with fail
          all_goals go_end0
          all_goals exact⟨rfl,I4.out,C3.out⟩
         ·clear r3
          go_wp2_with fail
          all_goals go_end0
          all_goals exact⟨rfl,I4.out,C3.out⟩
end
end Go.Proofs.YtmofknmeljdodaaGreatDoor
