/- Plain: a stable sort of indices by keys: the order, what each step leaves. No condition but those that the statements name. -/
import Derived.Test.YtmofknmeljdodaaGreatDoorZS01
import Derived.Test.YtmofknmeljdodaaGreatDoorZS05
import Derived.Test.YtmofknmeljdodaaGreatDoorZB02
import Derived.Test.YtmofknmeljdodaaGreatDoorZS02
set_option maxHeartbeats 100000000
set_option maxRecDepth 100000
set_option linter.unusedVariables false
set_option linter.unusedSimpArgs false
open List renaming getElem_toArray→gTA,getElem_cons_zero→gCZ,getElem_cons_succ→gCS,setIfInBounds_toArray→sTA,set_cons_zero→sCZ,set_cons_succ→sCS
namespace Go.Proofs.YtmofknmeljdodaaGreatDoor
section
open Go.RowKit
def Prec (K:Int→Int) (x y:Int):Prop:=K y<K x∨(K y=K x∧x<y)
variable {K:Int→Int} {x y z:Int} {A B C L R l:List Int}
theorem Prec.trans (h:Prec K x y) (k:Prec K y z):Prec K x z:=by unfold Prec at*;omega
theorem prec_lt (h:x<y):Prec K y x↔K x<K y:=by unfold Prec;omega
theorem prec_nlt (h:x<y): ¬K x<K y↔Prec K x y:=by unfold Prec;omega
theorem Prec.asymm (h:Prec K x y) (k:Prec K y x):False:=by unfold Prec at*;omega
def Ahd (K:Int→Int) (A B:List Int):Prop:=∀x∈A,∀y∈B,Prec K x y
def Low (A B:List Int):Prop:=∀x∈A,∀y∈B,x<y
abbrev Srt (K:Int→Int) (l:List Int):Prop:=l.Pairwise (Prec K)
theorem srt_append:Srt K (A++B)↔Srt K A∧Srt K B∧Ahd K A B:=List.pairwise_append
theorem Ahd.perm {A' B':List Int} (h:Ahd K A B) (h1:A'.Perm A) (h2:B'.Perm B):Ahd K A' B':=fun x hx y hy=>h x (h1.mem_iff.1 hx) y (h2.mem_iff.1 hy)
theorem Low.perm {A' B':List Int} (h:Low A B) (h1:A'.Perm A) (h2:B'.Perm B):Low A' B':=fun x hx y hy=>h x (h1.mem_iff.1 hx) y (h2.mem_iff.1 hy)
theorem low_append_l:Low (A++B) C↔Low A C∧Low B C:=by simp only[Low,List.mem_append];exact⟨fun h=>⟨fun x hx=>h x (Or.inl hx),fun x hx=>h x (Or.inr hx)⟩,fun h x hx=>hx.elim (h.1 x) (h.2 x)⟩
theorem low_append_r:Low C (A++B)↔Low C A∧Low C B:=by simp only[Low,List.mem_append];exact⟨fun h=>⟨fun x hx y hy=>h x hx y (Or.inl hy),fun x hx y hy=>h x hx y (Or.inr hy)⟩,fun h x hx y hy=>hy.elim (h.1 x hx y) (h.2 x hx y)⟩
theorem ahd_append_l:Ahd K (A++B) C↔Ahd K A C∧Ahd K B C:=by simp only[Ahd,List.mem_append];exact⟨fun h=>⟨fun x hx=>h x (Or.inl hx),fun x hx=>h x (Or.inr hx)⟩,fun h x hx=>hx.elim (h.1 x) (h.2 x)⟩
theorem ahd_append_r:Ahd K C (A++B)↔Ahd K C A∧Ahd K C B:=by simp only[Ahd,List.mem_append];exact⟨fun h=>⟨fun x hx y hy=>h x hx y (Or.inl hy),fun x hx y hy=>h x hx y (Or.inr hy)⟩,fun h x hx y hy=>hy.elim (h.1 x hx y) (h.2 x hx y)⟩
def swp (l:List Int) (i j:Nat):List Int:=(l.set i (l.getD j 0)).set j (l.getD i 0)
theorem swp_next (A B:List Int) (x y:Int) {i:Nat} (h:A.length=i):swp (A++x::y::B) i (i+1)=A++y::x::B:=by
 subst h
 unfold swp
 simp[List.getD_eq_getElem?_getD]
theorem swp_prev (A B:List Int) (x y:Int) {i:Nat} (h:A.length=i):swp (A++x::y::B) (i+1) i=A++y::x::B:=by
 subst h
 unfold swp
 simp[List.getD_eq_getElem?_getD]
theorem swp_far (A B C:List Int) (x y:Int) {i j:Nat} (h:A.length=i) (hj:i+1+B.length=j):swp (A++x::B++y::C) i j=A++y::B++x::C:=by
 subst h;subst hj
 unfold swp
 have e:A.length+1+B.length-A.length=B.length+1:=by omega
 have e2: ¬A.length+1+B.length<A.length:=by omega
 simp[List.getD_eq_getElem?_getD,List.set_append,List.getElem?_append,e,e2]
theorem srt_put (h:Srt K (A++B)) (h1:∀y∈A,Prec K y x) (h2:∀y∈B,Prec K x y):Srt K (A++x::B):=by
 obtain⟨a,b,c⟩:=srt_append.1 h
 refine srt_append.2 ⟨a,List.pairwise_cons.2 ⟨h2,b⟩,fun u hu v hv=> ?_⟩
 rcases List.mem_cons.1 hv with rfl|hv
 ·exact h1 u hu
 ·exact c u hu v hv
inductive Chk (K:Int→Int) (s:Nat):List Int→Prop
 |last (l:List Int):l.length≤s→Srt K l→Chk K s l
 |more (c l:List Int):c.length=s→Srt K c→Low c l→Chk K s l→Chk K s (c++l)
def Dn (K:Int→Int) (s:Nat) (d:List Int):Prop:=∀l,Low d l→Chk K s l→Chk K s (d++l)
theorem Dn.nil {s:Nat}:Dn K s []:=fun _ _ h=>h
theorem Dn.snoc {s:Nat} {d c:List Int} (h:Dn K s d) (hc:c.length=s) (h1:Srt K c) (h2:Low d c):Dn K s (d++c):=fun l hl hk=>by
 rw[List.append_assoc]
 obtain⟨a,b⟩:=low_append_l.1 hl
 exact h _ (low_append_r.2 ⟨h2,a⟩) (.more c l hc h1 b hk)
theorem Chk.short {s:Nat} (h:Chk K s l) (hl:l.length≤s):Srt K l:=by
 cases h with
 |last _ _ h=>exact h
 |more c l hc h1 h2 h3=>
  simp only[List.length_append]at hl
  have:l=[]:=List.length_eq_zero_iff.1 (by omega)
  subst this;simpa using h1
theorem Chk.two {s:Nat} (h:Chk K s l) (hl:s<l.length):∃L R D,l=L++R++D∧L.length=s∧R.length≤s∧Srt K L∧Srt K R∧Low L R∧Low (L++R) D∧Chk K s D∧(2*s≤l.length→R.length=s)∧(l.length≤2*s→D=[]):=by
 cases h with
 |last _ h _=>omega
 |more c l hc h1 h2 h3=>
  cases h3 with
  |last _ h4 h5=>
   refine⟨c,l,[],by simp,hc,h4,h1,h5,h2,(fun _ _ _ h=>nomatch h), .last _ (by simp) List.Pairwise.nil,fun h=> ?_,fun _=>rfl⟩
   simp only[List.length_append]at h;omega
  |more c2 l2 hc2 h4 h5 h6=>
   obtain⟨a,b⟩:=low_append_r.1 h2
   refine⟨c,c2,l2,by simp,hc,by omega,h1,h4,a,low_append_l.2 ⟨b,h5⟩,h6,fun _=>hc2,fun h=> ?_⟩
   simp only[List.length_append]at h
   exact List.length_eq_zero_iff.1 (by omega)
theorem sym_ahd (hL:Srt K L) (hR:Srt K R) {i j:Nat} (hi:i≤L.length) (hj:j≤R.length) (h:i=0∨j=R.length∨Prec K (L.getD (i-1) 0) (R.getD j 0)):Ahd K (L.take i) (R.drop j):=by
 intro x hx y hy
 obtain⟨u,hu,rfl⟩:=List.mem_iff_getElem.1 hx
 obtain⟨v,hv,rfl⟩:=List.mem_iff_getElem.1 hy
 simp only[List.length_take,List.length_drop]at hu hv
 rw[List.getElem_take,List.getElem_drop]
 rcases h with h|h|h
 ·omega
 ·omega
 ·rw[List.getD_eq_getElem?_getD,List.getD_eq_getElem?_getD,List.getElem?_eq_getElem (by omega),List.getElem?_eq_getElem (by omega)]at h
  simp only[Option.getD_some]at h
  have h1:u=i-1∨Prec K L[u] L[i-1]:=by
   rcases Nat.lt_or_ge u (i-1)with q|q
   ·exact Or.inr (List.pairwise_iff_getElem.1 hL u (i-1) (by omega) (by omega) q)
   ·exact Or.inl (by omega)
  have h2:v=0∨Prec K R[j] R[j+v]:=by
   rcases Nat.eq_zero_or_pos v with q|q
   ·exact Or.inl q
   ·exact Or.inr (List.pairwise_iff_getElem.1 hR j (j+v) (by omega) (by omega) (by omega))
  have h3:Prec K L[u] R[j]:=by
   rcases h1 with rfl|h1
   ·exact h
   ·exact h1.trans h
  rcases h2 with rfl|h2
  ·simpa using h3
  ·exact h3.trans h2
theorem sym_join {X Y:List Int} {i j:Nat} (hX:Srt K X) (hY:Srt K Y) (pX:X.Perm (L.take i++R.take j)) (pY:Y.Perm (L.drop i++R.drop j)) (hL:Srt K L) (hR:Srt K R) (a1:Ahd K (L.take i) (R.drop j)) (a2:Ahd K (R.take j) (L.drop i)):
 Srt K (X++Y)∧(X++Y).Perm (L++R):=by
 have b1:Ahd K (L.take i) (L.drop i):=(srt_append.1 (by rwa[List.take_append_drop])).2.2
 have b2:Ahd K (R.take j) (R.drop j):=(srt_append.1 (by rwa[List.take_append_drop])).2.2
 refine⟨srt_append.2 ⟨hX,hY,Ahd.perm (ahd_append_l.2 ⟨ahd_append_r.2 ⟨b1,a1⟩,ahd_append_r.2 ⟨a2,b2⟩⟩) pX pY⟩,(pX.append pY).trans ?_⟩
 have e1:L++R=L.take i++(L.drop i++(R.take j++R.drop j)):=by rw[List.take_append_drop,←List.append_assoc,List.take_append_drop]
 have e2:L.take i++R.take j++(L.drop i++R.drop j)=L.take i++(R.take j++(L.drop i++R.drop j)):=by simp
 rw[e1,e2]
 refine List.Perm.append_left _ ?_
 rw[←List.append_assoc,←List.append_assoc]
 exact List.Perm.append_right _ List.perm_append_comm
theorem one_into {j:Nat} (hR:Srt K R) (hj:j≤R.length) (h1:j=0∨Prec K (R.getD (j-1) 0) x) (h2:j=R.length∨Prec K x (R.getD j 0)):Srt K (R.take j++x::R.drop j):=by
 have a1:=sym_ahd (L:=R) (R:=[x]) (i:=j) (j:=0) hR (List.pairwise_singleton _ _) hj (by simp) (by rcases h1 with h|h;exact Or.inl h;exact Or.inr (Or.inr (by simpa using h)))
 have a2:=sym_ahd (L:=[x]) (R:=R) (i:=1) (j:=j) (List.pairwise_singleton _ _) hR (by simp) hj (by rcases h2 with h|h;exact Or.inr (Or.inl h);exact Or.inr (Or.inr (by simpa using h)))
 refine srt_put (by rwa[List.take_append_drop]) (fun y hy=>a1 y hy x (by simp)) (fun y hy=>a2 x (by simp) y hy)
theorem perm_into (j:Nat):(R.take j++x::R.drop j).Perm (x::R):=by
 have:=(List.perm_middle (a:=x) (l₁:=R.take j) (l₂:=R.drop j))
 rwa[List.take_append_drop]at this
end
section
open Go.RowKit
theorem amtB_iff {n:Int}:amtB n=true↔0≤n∧n≤1000000000000:=by simp[amtB]
def weighZ (t:Int) (W:List Int):Int×Int:=
 if amtB t=false∨W.all amtB=false then(0,2)else if 256<W.length then(0,3)else if W=[]∧t≠0 then(0,5)else if 1000000000000<W.sum then(0,8)else(W.sum,0)
def effW (W:List Int):List Int:=if W.sum=0 then W.map (fun _=>1)else W
def effS (W:List Int):Int:=if W.sum=0 then W.length else W.sum
def quo (t S w:Int):Int:=t*w/S
def rst (t S w:Int):Int:=t*w%S
def shQ (t:Int) (W:List Int):List Int:=(effW W).map (quo t (effS W))
def shR (t:Int) (W:List Int):List Int:=(effW W).map (rst t (effS W))
def leftOf (t:Int) (W:List Int):Int:=t-(shQ t W).sum
def keyOf (R:List Int) (i:Int):Int:=R.getD i.toNat 0
structure IsOrd (R O:List Int):Prop where
 srt:Srt (keyOf R) O
 perm:O.Perm ((List.range R.length).map Int.ofNat)
def bump (Q O:List Int):List Int:=O.foldl (fun s i=>s.set i.toNat (s.getD i.toNat 0+1)) Q
variable {t S:Int} {W V Q R O:List Int}
theorem effW_len:(effW W).length=W.length:=by unfold effW;split<;>simp
theorem effW_sum:(effW W).sum=effS W:=by
 unfold effW effS
 split
 ·induction W with
  |nil=>rfl
  |cons w W ih=>
   have e:∀V:List Int,(V.map (fun _=>(1:Int))).sum=V.length:=by
    intro V
    induction V with
    |nil=>rfl
    |cons v V ih=>simp only[List.map_cons,List.sum_cons,ih,List.length_cons];omega
   exact e _
 ·rfl
theorem sum_nn (h:∀w∈V,0≤w):0≤V.sum:=by
 induction V with
 |nil=>simp
 |cons v V ih=>rw[List.sum_cons];have:=h v (by simp);have:=ih (fun w hw=>h w (by simp[hw]));omega
theorem mem_le_sum (h:∀w∈V,0≤w) {w:Int} (hw:w∈V):w≤V.sum:=by
 induction V with
 |nil=>exact nomatch hw
 |cons v V ih=>
  rw[List.sum_cons]
  have h0:=h v (by simp)
  have h1:=sum_nn (fun w hw=>h w (by simp[hw]):∀w∈V,0≤w)
  rcases List.mem_cons.1 hw with rfl|hw
  ·omega
  ·have:=ih (fun w hw=>h w (by simp[hw])) hw;omega
theorem effW_nn (h:∀w∈W,0≤w):∀w∈effW W,0≤w:=by
 unfold effW
 split
 ·intro w hw;obtain⟨_,_,rfl⟩:=List.mem_map.1 hw;omega
 ·exact h
theorem effS_pos (h:∀w∈W,0≤w) (hne:W≠[]):0<effS W:=by
 unfold effS
 have:=sum_nn h
 split
 ·have:0<W.length:=List.length_pos_iff.2 hne
  omega
 ·omega
theorem sums_law (t S:Int) (V:List Int):t*V.sum=S*(V.map (quo t S)).sum+(V.map (rst t S)).sum:=by
 induction V with
 |nil=>simp
 |cons v V ih=>
  simp only[List.sum_cons,List.map_cons]
  have:=Int.mul_ediv_add_emod (t*v) S
  rw[Int.mul_add,ih,Int.mul_add]
  unfold quo rst at*
  omega
theorem rst_sum (hS:0<S) (t:Int) (V:List Int):0≤(V.map (rst t S)).sum∧(V.map (rst t S)).sum≤V.length*(S-1):=by
 induction V with
 |nil=>simp
 |cons v V ih=>
  simp only[List.sum_cons,List.map_cons,List.length_cons]
  have h1:=Int.emod_nonneg (t*v) (show S≠0 by omega)
  have h2:=Int.emod_lt_of_pos (t*v) hS
  have e:((V.length+1:Nat):Int)*(S-1)=V.length*(S-1)+(S-1):=by rw[Int.natCast_add,Int.add_mul];simp
  rw[e]
  unfold rst at*
  omega
theorem left_law:effS W*leftOf t W=(shR t W).sum:=by
 have:=sums_law t (effS W) (effW W)
 rw[effW_sum]at this
 unfold leftOf shR shQ
 rw[Int.mul_sub,Int.mul_comm (effS W) t,this]
 omega
theorem left_bounds (h:∀w∈W,0≤w) (hn:W=[]→t=0):0≤leftOf t W∧leftOf t W≤W.length:=by
 by_cases hne:W=[]
 ·subst hne;rw[hn rfl];exact⟨by decide,by decide⟩
 ·have hS:=effS_pos h hne
  have hl:=left_law (t:=t) (W:=W)
  obtain⟨h1,h2⟩:=rst_sum hS t (effW W)
  unfold shR at hl
  rw[←hl]at h1 h2
  rw[effW_len]at h2
  constructor
  ·refine Int.not_lt.1 fun hlt=> ?_
   have:=Int.mul_neg_of_pos_of_neg hS hlt
   omega
  ·refine Int.not_lt.1 fun hlt=> ?_
   have h3:effS W*((W.length:Int)+1)≤effS W*leftOf t W:=Int.mul_le_mul_of_nonneg_left (by omega) (by omega)
   have e1:effS W*((W.length:Int)+1)=effS W*W.length+effS W:=by rw[Int.mul_add,Int.mul_one]
   have e2:(W.length:Int)*(effS W-1)=effS W*W.length-W.length:=by rw[Int.mul_sub,Int.mul_comm,Int.mul_one]
   omega
theorem shQ_len:(shQ t W).length=W.length:=by unfold shQ;rw[List.length_map,effW_len]
theorem shR_len:(shR t W).length=W.length:=by unfold shR;rw[List.length_map,effW_len]
theorem bump_len:(bump Q O).length=Q.length:=by
 unfold bump
 induction O generalizing Q with
 |nil=>rfl
 |cons i O ih=>rw[List.foldl_cons,ih,List.length_set]
theorem bump_snoc (i:Int):bump Q (O++[i])=(bump Q O).set i.toNat ((bump Q O).getD i.toNat 0+1):=by unfold bump;rw[List.foldl_append];rfl
theorem bump_at (hn:O.Nodup) (hr:∀i∈O,0≤i) (j:Nat) (hj:j<Q.length):(bump Q O).getD j 0=Q.getD j 0+(if(j:Int)∈O then 1 else 0):=by
 unfold bump
 induction O generalizing Q with
 |nil=>simp
 |cons i O ih=>
  rw[List.foldl_cons,ih (List.nodup_cons.1 hn).2 (fun x hx=>hr x (by simp[hx])) (by simpa using hj)]
  have h0:=hr i (by simp)
  by_cases e:(j:Int)=i
  ·have e2:i.toNat=j:=by omega
   have h1:(j:Int)∉O:=by rw[e];exact(List.nodup_cons.1 hn).1
   rw[e2,if_neg h1,if_pos (by simp[e])]
   simp[List.getD_eq_getElem?_getD,hj]
  ·have e2:i.toNat≠j:=by omega
   have h1:((j:Int)∈i::O)↔(j:Int)∈O:=by simp[e]
   simp only[h1]
   simp[List.getD_eq_getElem?_getD,e2]
theorem IsOrd.range (h:IsOrd R O):∀i∈O,0≤i∧i<R.length:=by
 intro i hi
 obtain⟨k,hk,rfl⟩:=List.mem_map.1 (h.perm.mem_iff.1 hi)
 have:=List.mem_range.1 hk
 constructor
 ·exact Int.natCast_nonneg k
 ·exact Int.ofNat_lt.2 this
theorem IsOrd.mem (h:IsOrd R O) {j:Nat} (hj:j<R.length):(j:Int)∈O:=h.perm.mem_iff.2 (List.mem_map.2 ⟨j,List.mem_range.2 hj,rfl⟩)
theorem IsOrd.len (h:IsOrd R O):O.length=R.length:=by rw[h.perm.length_eq];simp
theorem IsOrd.nodup (h:IsOrd R O):O.Nodup:=h.srt.imp (fun h e=>by subst e;exact h.asymm h)
def strike (R O:List Int):List Int:=O.foldl (fun s i=>s.set i.toNat (-1)) R
theorem strike_len:(strike R O).length=R.length:=by
 unfold strike
 induction O generalizing R with
 |nil=>rfl
 |cons i O ih=>rw[List.foldl_cons,ih,List.length_set]
theorem strike_at (hr:∀i∈O,0≤i) (j:Nat) (hj:j<R.length):(strike R O).getD j 0=if(j:Int)∈O then -1 else R.getD j 0:=by
 unfold strike
 induction O generalizing R with
 |nil=>simp
 |cons i O ih=>
  rw[List.foldl_cons,ih (fun x hx=>hr x (by simp[hx])) (by simpa using hj)]
  have h0:=hr i (by simp)
  by_cases e:(j:Int)=i
  ·have e2:i.toNat=j:=by omega
   rw[if_pos (show(j:Int)∈i::O by simp[e]),e2]
   split
   ·rfl
   ·simp[List.getD_eq_getElem?_getD,hj]
  ·have e2:i.toNat≠j:=by omega
   have h1:((j:Int)∈i::O)↔(j:Int)∈O:=by simp[e]
   simp only[h1]
   split
   ·rfl
   ·simp[List.getD_eq_getElem?_getD,e2]
def Best (R:List Int) (b:Nat):Prop:=b<R.length∧(∀j,j<R.length→R.getD j 0≤R.getD b 0)∧∀j,j<b→R.getD j 0<R.getD b 0
theorem IsOrd.best (h:IsOrd R O) (hR:∀x∈R,0≤x) {k:Nat} (hk:k<O.length):Best (strike R (O.take k)) (O[k]).toNat:=by
 have hr:=h.range
 have h0:=hr O[k] (List.getElem_mem hk)
 have hn:=h.nodup
 have ht:∀i∈O.take k,0≤i:=fun i hi=>(hr i (List.mem_of_mem_take hi)).1
 have hnk:O[k]∉O.take k:=by
  intro hm
  obtain⟨m,hm1,hm2⟩:=List.mem_iff_getElem.1 hm
  simp only[List.length_take]at hm1
  rw[List.getElem_take]at hm2
  exact List.pairwise_iff_getElem.1 hn m k (by omega) hk (by omega) hm2
 have hpos:∀j,j<R.length→0≤R.getD j 0:=fun j hj=>by
  rw[List.getD_eq_getElem?_getD,List.getElem?_eq_getElem hj];exact hR _ (List.getElem_mem hj)
 have hb:(strike R (O.take k)).getD (O[k]).toNat 0=keyOf R O[k]:=by
  rw[strike_at ht _ (by omega),if_neg (by rw[Int.toNat_of_nonneg h0.1];exact hnk)];rfl
 have hb0:0≤keyOf R O[k]:=hpos _ (by omega)
 have key:∀j,j<R.length→(strike R (O.take k)).getD j 0<keyOf R O[k]∨((strike R (O.take k)).getD j 0=keyOf R O[k]∧O[k]≤j):=by
  intro j hj
  rw[strike_at ht j hj]
  split
  ·left;omega
  ·rename_i hj2
   obtain⟨m,hm,e⟩:=List.mem_iff_getElem.1 (h.mem hj)
   have hkm:k≤m:=by
    refine Nat.not_lt.1 fun q=>hj2 ?_
    rw[←e]
    exact List.mem_iff_getElem.2 ⟨m,by simp;omega,List.getElem_take⟩
   have hke:keyOf R (j:Int)=R.getD j 0:=by unfold keyOf;rw[Int.toNat_natCast]
   rcases Nat.lt_or_ge k m with q|q
   ·have:=List.pairwise_iff_getElem.1 h.srt k m hk hm q
    rw[e]at this
    unfold Prec at this
    omega
   ·have e3:k=m:=by omega
    subst e3
    rw[e];right;exact⟨hke.symm,Int.le_refl _⟩
 refine⟨by rw[strike_len];omega,fun j hj=> ?_,fun j hj=> ?_⟩
 ·rw[strike_len]at hj;rw[hb];have:=key j hj;omega
 ·rw[hb];have:=key j (by omega);omega
theorem sum_perm {A B:List Int} (h:A.Perm B):A.sum=B.sum:=by
 induction h with
 |nil=>rfl
 |cons x _ ih=>rw[List.sum_cons,List.sum_cons,ih]
 |swap x y l=>simp only[List.sum_cons];omega
 |trans _ _ h1 h2=>rw[h1,h2]
theorem range_map (R:List Int):((List.range R.length).map Int.ofNat).map (keyOf R)=R:=by
 apply List.ext_getElem
 ·simp
 ·intro i h1 h2
  simp[keyOf,List.getD_eq_getElem?_getD,List.getElem?_eq_getElem h2]
theorem IsOrd.sum (h:IsOrd R O):(O.map (keyOf R)).sum=R.sum:=by rw[sum_perm (h.perm.map _),range_map]
end
section
open Go.RowKit
def errs:List Int→Int
 |[]=>0
 |e::l=>if e=0 then errs l else e
theorem errs_all {l:List Int} (h:∀e∈l,e=0):errs l=0:=by
 induction l with
 |nil=>rfl
 |cons e l ih=>rw[errs,if_pos (h e (by simp)),ih (fun x hx=>h x (by simp[hx]))]
theorem errs_zero {l:List Int} (h:errs l=0):∀e∈l,e=0:=by
 induction l with
 |nil=>intro e he;exact nomatch he
 |cons e l ih=>
  rw[errs]at h
  split at h
  ·rename_i h0
   intro x hx
   rcases List.mem_cons.1 hx with rfl|hx
   ·exact h0
   ·exact ih h x hx
  ·rename_i h0;exact(h0 h).elim
theorem errs_at {l:List Int} {k:Nat} {e:Int} (h0:errs (l.take k)=0) (h:l[k]? =some e) (he:e≠0):errs l=e:=by
 induction l generalizing k with
 |nil=>simp at h
 |cons x l ih=>
  cases k with
  |zero=>simp at h;subst h;rw[errs,if_neg he]
  |succ k=>
   rw[List.take_succ_cons,errs]at h0
   split at h0
   ·rename_i hx;rw[errs,if_pos hx];exact ih h0 (by simpa using h)
   ·rename_i hx;exact(hx h0).elim
theorem errs_next {l:List Int} {k:Nat} (h0:errs (l.take k)=0) (h:l[k]? =some 0):errs (l.take (k+1))=0:=by
 refine errs_all fun e he=> ?_
 obtain⟨hk,e0⟩:=List.getElem?_eq_some_iff.1 h
 rw[List.take_succ_eq_append_getElem hk,e0]at he
 rcases List.mem_append.1 he with he|he
 ·exact errs_zero h0 e he
 ·simpa using he
structure PTr where
 up:Int
 mi:Int
structure Prc where
 fi:Int
 fu:Int
 iv:Int
 ts:List PTr
def btw (n lo hi:Int):Bool:=decide (lo≤n)&&decide (n≤hi)
theorem btw_iff {n lo hi:Int}:btw n lo hi=true↔lo≤n∧n≤hi:=by simp[btw]
def upAt (l:List PTr) (k:Nat):Int:=((l[k]?).map PTr.up).getD 0
def miAt (l:List PTr) (k:Nat):Int:=((l[k]?).map PTr.mi).getD 0
def tierE (l:List PTr) (k:Nat):Int:=
 if btw (miAt l k) 0 1000000000=false then 2
 else if k+1=l.length then(if upAt l k≠0 then 2 else 0)
 else if btw (upAt l k) 1 1000000000000=false then 2
 else if 0<k∧upAt l k≤upAt l (k-1)then 11 else 0
def priceZ (p:Prc):Int:=
 if btw p.fi 0 1000000000=false∨btw p.fu 0 1000000000=false∨btw p.iv 0 1000000000=false then 2
 else if p.ts.length<1∨8<p.ts.length then 3 else errs ((List.range p.ts.length).map (tierE p.ts))
def fromAt (l:List PTr):Nat→Int
 |0=>0
 |k+1=>max (fromAt l k) (upAt l k)
def partAt (l:List PTr) (n:Int) (k:Nat):Int:=max ((if k+1=l.length then n else min n (upAt l k))-fromAt l k) 0
def costTo (p:Prc) (i n:Int):Nat→Int
 |0=>i*p.iv
 |k+1=>costTo p i n k+partAt p.ts n k*miAt p.ts k
def costZ (p:Prc) (i n:Int):Int×Int:=if costTo p i n p.ts.length≤1000000000000 then(costTo p i n p.ts.length,0)else(0,8)
theorem partAt_nn (l:List PTr) (n:Int) (k:Nat):0≤partAt l n k:=by unfold partAt;omega
theorem fromAt_nn (l:List PTr) (k:Nat):0≤fromAt l k:=by
 induction k with
 |zero=>simp[fromAt]
 |succ k ih=>rw[fromAt];omega
theorem partAt_le {n:Int} (hn:0≤n) (l:List PTr) (k:Nat):partAt l n k≤n:=by
 have:=fromAt_nn l k
 unfold partAt;split<;>omega
theorem tiers_ok {p:Prc} (h:priceZ p=0) {k:Nat} (hk:k<p.ts.length):tierE p.ts k=0:=by
 unfold priceZ at h
 split at h
 ·cases h
 ·split at h
  ·cases h
  ·exact errs_zero h _ (List.mem_map.2 ⟨k,List.mem_range.2 hk,rfl⟩)
theorem tier_ok {l:List PTr} {k:Nat} (h:tierE l k=0):0≤miAt l k∧miAt l k≤1000000000∧(k+1=l.length→upAt l k=0)∧(k+1≠l.length→1≤upAt l k∧upAt l k≤1000000000000):=by
 unfold tierE at h
 split at h
 ·cases h
 ·rename_i h1
  have h1:=btw_iff.1 (by simpa using h1)
  refine⟨h1.1,h1.2, ?_⟩
  split at h
  ·rename_i h2
   split at h
   ·cases h
   ·rename_i h3;exact⟨fun _=>by simpa using h3,fun h4=>(h4 h2).elim⟩
  ·rename_i h2
   split at h
   ·cases h
   ·rename_i h3
    exact⟨fun h4=>(h2 h4).elim,fun _=>btw_iff.1 (by simpa using h3)⟩
theorem price_ok {p:Prc} (h:priceZ p=0):(0≤p.fi∧p.fi≤1000000000)∧(0≤p.fu∧p.fu≤1000000000)∧(0≤p.iv∧p.iv≤1000000000)∧1≤p.ts.length∧p.ts.length≤8:=by
 unfold priceZ at h
 split at h
 ·cases h
 ·rename_i h1
  split at h
  ·cases h
  ·rename_i h2
   simp only[not_or,Bool.not_eq_false,btw_iff]at h1
   exact⟨h1.1,h1.2.1,h1.2.2,by omega,by omega⟩
theorem cost_step {p:Prc} {i n:Int} (h:priceZ p=0) {k:Nat} (hk:k<p.ts.length):costTo p i n k≤costTo p i n (k+1):=by
 rw[costTo]
 have:=Int.mul_nonneg (partAt_nn p.ts n k) (tier_ok (tiers_ok h hk)).1
 omega
theorem cost_nn {p:Prc} {i n:Int} (h:priceZ p=0) (hi:0≤i):0≤costTo p i n 0:=Int.mul_nonneg hi (price_ok h).2.2.1.1
end
section
open Go.RowKit
end
section
open Go.RowKit
theorem name_any (s:ByteArray) (w:World) (hs:s.size≤maxLen):Calls Tryz.prog 68 #[.string s] w fun e w'=>e= .returned (.bool (nameB s))∧Chg [] w w':=by
 unfold maxLen at hs
 obtain⟨R,hR⟩:∃R,R=nameB s:=⟨_,rfl⟩
 rw[←hR]
 have HR:=LH hR
 clear hR
 go_enter Tryz.func68,Tryz.ntmps68
 go_wp2
 go_loopw [2] (fun r wr=>∃p:Nat,wr=w.iter s p∧p≤s.size∧r= .bool false∧Hid ((List.range p).all (fun i=>okAt i (byteAt s i))=true)) (fun _ wr=>s.size-wr.iterPos w.heap.size)
 case atStart=>exact⟨0,rfl,Nat.zero_le _,rfl,LH (by simp)⟩
 case round=>
  obtain⟨p,rfl,hp,rfl,Hall⟩:=hrel
  by_cases hlt:p<s.size
  ·have hnx:=fun ty=>run_next_any (P:=Tryz.prog) w s p ty hlt
   have hbl:Hid (∀q,Chg [] w (w.iter s q)):=LH (fun q=>Chg.ofBelow ((Below.refl _ _).alloc (Nat.le_refl _) _))
   have hdec:=decode_asc s p hlt
   have hbt:=byteAt_eq s p hlt
   obtain⟨c,hc⟩:∃c:Nat,c=(Utf8.decode s p).fst:=⟨_,rfl⟩
   rw[←hc]at hnx hdec
   have hok:okAt p (byteAt s p)=okAt p c:=by
    rcases hdec with ⟨hd,_⟩|⟨h1,h2⟩
    ·have:c=(s[p]'hlt).toNat:=by rw[hc,hd]
     rw[hbt,this]
    ·rw[okAt_high (by omega),okAt_high (by omega)]
   have Hno:Hid (okAt p c=false→R=false):=LH (fun h=>by rw[HR.out];exact nameB_no hlt (hok.trans h))
   have Hyes:Hid (okAt p c=true→(Utf8.decode s p).2=1∧(List.range (p+1)).all (fun i=>okAt i (byteAt s i))=true):=LH (fun h=>by
    refine⟨?_,by rw[range_step,Hall.out,hok,h];rfl⟩
    rcases hdec with ⟨hd,_⟩|⟨h1,h2⟩
    ·rw[hd]
    ·rw[okAt_high (by omega)]at h;cases h)
   have A1:=LH (fun w=>small_any (c:Int) w)
   have A2:=LH (fun w=>digit_any (c:Int) w)
   have hcs:(smallB c=true∧okAt p c=true)∨(smallB c=false∧p=0∧okAt p c=false)∨(smallB c=false∧((p:Int)==0)=false∧digitB c=true∧okAt p c=true)∨(smallB c=false∧((p:Int)==0)=false∧digitB c=false∧(((c:Int)==45)=true∧((c:Int)!=45)=false)∧okAt p c=true)∨(smallB c=false∧((p:Int)==0)=false∧digitB c=false∧((c:Int)==45)=false∧((c:Int)!=45)=true∧((c:Int)!=95)=false∧okAt p c=true)∨(smallB c=false∧((p:Int)==0)=false∧digitB c=false∧((c:Int)==45)=false∧((c:Int)!=45)=true∧((c:Int)!=95)=true∧okAt p c=false):=by
    unfold okAt
    cases h1:smallB c
    ·by_cases h0:p=0
     ·subst h0;simp
     ·have e0:((p:Int)==0)=false:=beq_eq_false_iff_ne.2 (by omega)
      have e1:decide (0<p)=true:=by simp;omega
      rw[e0,e1]
      cases h2:digitB c
      ·cases h3:((c:Int)==45)
       ·cases h4:((c:Int)==95)
        ·simp[bne,h3,h4]
        ·simp[bne,h3,h4]
       ·simp[bne,h3]
      ·simp
    ·simp
   have HC:=LH hc
   clear hdec hbt hok hc
   rcases hcs with ⟨h1,ho⟩|⟨h1,h2,ho⟩|⟨h1,h2,h3,ho⟩|⟨h1,h2,h3,⟨h4,h5⟩,ho⟩|⟨h1,h2,h3,h4,h5,h6,ho⟩|⟨h1,h2,h3,h4,h5,h6,ho⟩
   ·obtain⟨d2,hall2⟩:=Hyes.out ho
    have HA:=LH hall2
    clear ho hall2
    rw[h1]at A1
    go_wp2_with fail
    refine(A1.out _).mono ?_;rintro e w' ⟨rfl,rfl⟩
    go_wp2_with fail
    go_roundw
    case rel=>exact⟨p+1,by first|rfl|rw[d2],by omega,rfl,HA⟩
    case measure=>first|(simp;omega)|(simp[d2];omega)
   ·have HF:=LH (Hno.out ho)
    clear ho
    rw[h1]at A1
    subst h2
    go_wp2_with fail
    refine(A1.out _).mono ?_;rintro e w' ⟨rfl,rfl⟩
    go_wp2_with fail
    go_ret
    exact⟨by rw[HF.out];rfl,hbl.out _⟩
   ·obtain⟨d2,hall2⟩:=Hyes.out ho
    have HA:=LH hall2
    clear ho hall2
    rw[h1]at A1
    rw[h3]at A2
    go_wp2_with fail
    refine(A1.out _).mono ?_;rintro e w' ⟨rfl,rfl⟩
    go_wp2_with fail
    refine(A2.out _).mono ?_;rintro e w' ⟨rfl,rfl⟩
    go_wp2_with fail
    go_roundw
    case rel=>exact⟨p+1,by first|rfl|rw[d2],by omega,rfl,HA⟩
    case measure=>first|(simp;omega)|(simp[d2];omega)
   ·obtain⟨d2,hall2⟩:=Hyes.out ho
    have HA:=LH hall2
    clear ho hall2
    rw[h1]at A1
    rw[h3]at A2
    go_wp2_with fail
    refine(A1.out _).mono ?_;rintro e w' ⟨rfl,rfl⟩
    go_wp2_with fail
    refine(A2.out _).mono ?_;rintro e w' ⟨rfl,rfl⟩
    go_wp2_with fail
    go_roundw
    case rel=>exact⟨p+1,by first|rfl|rw[d2],by omega,rfl,HA⟩
    case measure=>first|(simp;omega)|(simp[d2];omega)
   ·obtain⟨d2,hall2⟩:=Hyes.out ho
    have HA:=LH hall2
    clear ho hall2
    rw[h1]at A1
    rw[h3]at A2
    go_wp2_with fail
    refine(A1.out _).mono ?_;rintro e w' ⟨rfl,rfl⟩
    go_wp2_with fail
    refine(A2.out _).mono ?_;rintro e w' ⟨rfl,rfl⟩
    go_wp2_with fail
    go_roundw
    case rel=>exact⟨p+1,by first|rfl|rw[d2],by omega,rfl,HA⟩
    case measure=>first|(simp;omega)|(simp[d2];omega)
   ·have HF:=LH (Hno.out ho)
    clear ho
    rw[h1]at A1
    rw[h3]at A2
    go_wp2_with fail
    refine(A1.out _).mono ?_;rintro e w' ⟨rfl,rfl⟩
    go_wp2_with fail
    refine(A2.out _).mono ?_;rintro e w' ⟨rfl,rfl⟩
    go_wp2_with fail
    go_ret
    exact⟨by rw[HF.out];rfl,hbl.out _⟩
  ·have hnx:=fun ty=>run_next_end (P:=Tryz.prog) w s p ty hlt
   have hall:=Hall.out
   have hpe:p=s.size:=by omega
   subst hpe
   have HR2:Hid (R=(decide (1≤s.size)&&decide (s.size≤24))):=LH (by rw[HR.out,nameB,hall];simp)
   have hcs:(s.size<1∧Hid (R=false))∨(1≤s.size∧s.size≤24∧Hid (R=true))∨(1≤s.size∧24<s.size∧Hid (R=false)):=by
    by_cases h1:1≤s.size
    ·by_cases h2:s.size≤24
     ·exact .inr (.inl ⟨h1,h2,LH (by rw[HR2.out];simp[h1,h2])⟩)
     ·exact .inr (.inr ⟨h1,by omega,LH (by rw[HR2.out];simp[h2])⟩)
    ·exact .inl ⟨by omega,LH (by rw[HR2.out];simp[h1])⟩
   clear hall
   rcases hcs with ⟨h1,h3⟩|⟨h1,h2,h3⟩|⟨h1,h2,h3⟩
   all_goals
    go_wp2
    go_ret
    exact⟨by rw[h3.out];first|rfl|(simp;omega),Chg.ofBelow ((Below.refl _ _).alloc (Nat.le_refl _) _)⟩
end
section
open Go.RowKit
structure Ln where
 fn:ByteArray
 us:Us
 mi:Int
structure Inv where
 tn:ByteArray
 per:Int
 ls:List Ln
 gr:Int
 re:Int
 nt:Int
def inv0:Inv:=⟨⟨#[]⟩,0,[],0,0,0⟩
def leqB (a b:ByteArray):Bool:=Op.bytesLess a.toList b.toList||a.toList==b.toList
def fnAt (l:List Ln) (k:Nat):ByteArray:=((l[k]?).map Ln.fn).getD ⟨#[]⟩
def lineE (l:List Ln) (k:Nat):Int:=
 match l[k]? with
 |none=>0
 |some x=>if nameB x.fn=false then 4 else if 0<k∧leqB x.fn (fnAt l (k-1))=true then 11 else if usB x.us=false∨amtB x.mi=false then 2 else 0
def linesE (l:List Ln):List Int:=(List.range l.length).map (lineE l)
def sumMi (l:List Ln):Int:=(l.map Ln.mi).sum
def invZ (i:Inv):Int:=
 if nameB i.tn=false then 4 else if i.per<0∨1073741824<i.per then 2 else if errs (linesE i.ls)≠0 then errs (linesE i.ls)
 else if amtB i.gr=false∨amtB i.re=false∨amtB i.nt=false then 2
 else if sumMi i.ls=i.gr∧i.re≤i.gr∧i.nt=i.gr-i.re then 0 else 10
theorem amtB_in {n:Int} (h:amtB n=true):0≤n∧n≤1000000000000:=by simpa[amtB]using h
theorem linesE_at {l:List Ln} {k:Nat} (h:k<l.length):(linesE l)[k]? =some (lineE l k):=by
 unfold linesE;rw[List.getElem?_map,List.getElem?_range h];rfl
theorem lines_at {l:List Ln} (h:errs (linesE l)=0) {k:Nat} (hk:k<l.length):lineE l k=0:=errs_zero h _ (List.mem_of_getElem? (linesE_at hk))
theorem lines_mi {l:List Ln} (h:errs (linesE l)=0):∀x∈l,nameB x.fn=true∧usB x.us=true∧0≤x.mi∧x.mi≤1000000000000:=by
 intro x hx
 obtain⟨k,hk,e⟩:=List.getElem_of_mem hx
 have h1:=lines_at h hk
 unfold lineE at h1
 rw[List.getElem?_eq_getElem hk,e]at h1
 simp only at h1
 split at h1
 ·cases h1
 ·rename_i h2
  split at h1
  ·cases h1
  ·split at h1
   ·cases h1
   ·rename_i h3
    simp only[not_or,Bool.not_eq_false]at h2 h3
    exact⟨h2,h3.1,amtB_in h3.2⟩
theorem inv_ok {i:Inv} (h:invZ i=0):nameB i.tn=true∧(0≤i.per∧i.per≤1073741824)∧errs (linesE i.ls)=0∧(0≤i.gr∧i.gr≤1000000000000)∧(0≤i.re∧i.re≤1000000000000)∧(0≤i.nt∧i.nt≤1000000000000)∧sumMi i.ls=i.gr∧i.re≤i.gr∧i.nt=i.gr-i.re:=by
 unfold invZ at h
 split at h
 ·cases h
 ·rename_i h1
  split at h
  ·cases h
  ·rename_i h2
   split at h
   ·rename_i h3;exact(h3 h).elim
   ·rename_i h3
    split at h
    ·cases h
    ·rename_i h4
     split at h
     ·rename_i h5
      simp only[not_or,Bool.not_eq_false]at h1 h4
      exact⟨h1,by omega,Classical.not_not.1 h3,amtB_in h4.1,amtB_in h4.2.1,amtB_in h4.2.2,h5⟩
     ·cases h
theorem sumMi_take {l:List Ln} {k:Nat} {x:Ln} (h:l[k]? =some x):sumMi (l.take (k+1))=sumMi (l.take k)+x.mi:=by
 obtain⟨hk,e⟩:=List.getElem?_eq_some_iff.1 h
 unfold sumMi
 rw[List.take_succ_eq_append_getElem hk,e]
 simp
theorem sumMi_nn {l:List Ln} (h:∀x∈l,0≤x.mi):0≤sumMi l:=by
 induction l with
 |nil=>simp[sumMi]
 |cons x l ih=>
  have h1:=ih fun y hy=>h y (by simp[hy])
  have h2:=h x (by simp)
  unfold sumMi at h1⊢
  simp;omega
theorem sumMi_drop {l:List Ln} (h:∀x∈l,0≤x.mi) (k:Nat):sumMi (l.take k)≤sumMi l:=by
 have e:sumMi l=sumMi (l.take k)+sumMi (l.drop k):=by
  unfold sumMi
  rw[←List.sum_append,←List.map_append,List.take_append_drop]
 have:=sumMi_nn (l:=l.drop k) fun x hx=>h x (List.mem_of_mem_drop hx)
 omega
end
end Go.Proofs.YtmofknmeljdodaaGreatDoor
