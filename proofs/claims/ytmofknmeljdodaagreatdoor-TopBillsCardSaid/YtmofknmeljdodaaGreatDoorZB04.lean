/- Over any program with slices.SortStableFunc on ints: a block of ints; contract: the exchange of two ranges. No condition but those that the statements name. -/
import Derived.Test.YtmofknmeljdodaaGreatDoorProg
import Derived.Deep.RegionLaw
import Derived.Deep.RegionHeld3
import Derived.StillTailTactics
import Derived.Test.YtmofknmeljdodaaGreatDoorZS01
import Derived.Test.YtmofknmeljdodaaGreatDoorZB03
set_option maxHeartbeats 100000000
set_option maxRecDepth 100000
set_option linter.unusedVariables false
set_option linter.unusedSimpArgs false
open List renaming getElem_toArray→gTA,getElem_cons_zero→gCZ,getElem_cons_succ→gCS,setIfInBounds_toArray→sTA,set_cons_zero→sCZ,set_cons_succ→sCS
namespace Go.Proofs.YtmofknmeljdodaaGreatDoor
section
open Go.RowKit
def IB (w:World) (b:Nat) (l:List Int):Prop:=w.heap[b]? =some (.cells (l.map (Value.int .i64)).toArray 3)
variable {w w':World} {b:Nat} {l:List Int}
theorem IB.cell (h:IB w b l) {k:Nat} {x:Int} (hx:l[k]? =some x):w.cell? ⟨b,k,none⟩=some (.int .i64 x):=by rw[blk_cell h];simp[hx]
theorem IB.lt (h:IB w b l):b<w.heap.size:=lt_of_heap h
theorem IB.keep {S:List Nat} (h:IB w b l) (hc:Chg S w w') (hn:b∉S):IB w' b l:=hc.at hn h
theorem IB.set (h:IB w b l) (i:Nat) (x:Int):IB (w.setCell ⟨b,i,none⟩ (.int .i64 x)) b (l.set i x):=by
 have:=blk_set h i (.int .i64 x)
 unfold IB
 rw[this]
 congr 2
 apply Array.ext'
 simp
theorem IB.swp (h:IB w b l) {i j:Nat} {x y:Int} (hx:l[i]? =some x) (hy:l[j]? =some y):IB ((w.setCell ⟨b,i,none⟩ (.int .i64 y)).setCell ⟨b,j,none⟩ (.int .i64 x)) b (swp l i j):=by
 have:=(h.set i y).set j x
 unfold Go.Proofs.YtmofknmeljdodaaGreatDoor.swp
 rw[List.getD_eq_getElem?_getD,List.getD_eq_getElem?_getD,hx,hy]
 exact this
theorem IB.set_cell (h:IB w b l) {i j:Nat} {y:Int} (hy:l[j]? =some y):(w.setCell ⟨b,i,none⟩ (.int .i64 y)).cell? ⟨b,j,none⟩=some (.int .i64 y):=by
 refine(h.set i y).cell ?_
 rw[List.getElem?_set]
 split
 ·rename_i e
  subst e
  rw[if_pos (List.getElem?_eq_some_iff.1 hy).1]
 ·exact hy
theorem wrapI {a:Int} (h1: -9223372036854775808≤a) (h2:a<9223372036854775808):IntKind.i64.wrap a=a:=by rw[IntKind.wrap_i64];omega
def FS (A X B Y C:List Int) (k:Nat):List Int:=A++(Y.take k++X.drop k)++B++(X.take k++Y.drop k)++C
theorem FS_zero (A X B Y C:List Int):FS A X B Y C 0=A++X++B++Y++C:=by simp[FS]
theorem FS_all (A X B Y C:List Int) (h:X.length=Y.length):FS A X B Y C X.length=A++Y++B++X++C:=by
 unfold FS
 rw[List.take_of_length_le (show Y.length≤X.length by omega),List.drop_length,List.take_length,List.drop_of_length_le (show Y.length≤X.length by omega)]
 simp
theorem drop_at {X:List Int} {k:Nat} {x:Int} (hx:X[k]? =some x):X.drop k=x::X.drop (k+1):=by
 obtain⟨h,rfl⟩:=List.getElem?_eq_some_iff.1 hx
 exact List.drop_eq_getElem_cons h
theorem take_at {X:List Int} {k:Nat} {x:Int} (hx:X[k]? =some x):X.take (k+1)=X.take k++[x]:=by
 obtain⟨h,rfl⟩:=List.getElem?_eq_some_iff.1 hx
 exact List.take_succ_eq_append_getElem h
theorem len_at {X:List Int} {k:Nat} {x:Int} (hx:X[k]? =some x):k<X.length:=(List.getElem?_eq_some_iff.1 hx).1
theorem FS_split {A X B Y C:List Int} {k:Nat} {x y:Int} (hx:X[k]? =some x) (hy:Y[k]? =some y):FS A X B Y C k=(A++Y.take k)++x::(X.drop (k+1)++B++X.take k)++y::(Y.drop (k+1)++C):=by
 unfold FS
 rw[drop_at hx,drop_at hy]
 simp only[List.append_assoc,List.cons_append]
theorem FS_x {A X B Y C:List Int} {k:Nat} {x y:Int} (hx:X[k]? =some x) (hy:Y[k]? =some y) {i:Nat} (hi:A.length+k=i):(FS A X B Y C k)[i]? =some x:=by
 have h2:=len_at hy
 rw[FS_split hx hy,List.append_assoc,←hi]
 rw[List.getElem?_append_right (by simp;omega),List.length_append,List.length_take,Nat.min_eq_left (by omega),Nat.sub_self]
 rfl
theorem FS_y {A X B Y C:List Int} {k:Nat} {x y:Int} (hx:X[k]? =some x) (hy:Y[k]? =some y) {j:Nat} (hj:A.length+X.length+B.length+k=j):(FS A X B Y C k)[j]? =some y:=by
 have h1:=len_at hx
 have h2:=len_at hy
 rw[FS_split hx hy]
 rw[List.getElem?_append_right (by simp;omega)]
 simp only[List.length_append,List.length_take,List.length_cons,List.length_drop]
 rw[show j-(A.length+min k Y.length+(X.length-(k+1)+B.length+min k X.length+1))=0 by omega]
 rfl
theorem FS_next {A X B Y C:List Int} {k:Nat} {x y:Int} (hx:X[k]? =some x) (hy:Y[k]? =some y) {i j:Nat} (hi:A.length+k=i) (hj:A.length+X.length+B.length+k=j):swp (FS A X B Y C k) i j=FS A X B Y C (k+1):=by
 have h1:=len_at hx
 have h2:=len_at hy
 rw[FS_split hx hy,swp_far _ _ _ _ _ (i:=i) (by simp;omega) (by simp;omega)]
 unfold FS
 rw[take_at hx,take_at hy]
 simp only[List.append_assoc,List.cons_append,List.nil_append]
theorem swpr_any (A X B Y C:List Int) (cap p q n N:Nat) (f:Value) (h:IB w b (A++X++B++Y++C)) (hXY:X.length=Y.length) (hp:A.length=p) (hn:X.length=n) (hq:p+n+B.length=q) (hN:q+n+C.length=N) (hM:N≤1000000):
 Calls Tryz.prog 338 #[.slice (some ⟨b,0,none⟩) N cap, .int .i64 p, .int .i64 q, .int .i64 n,f] w fun e w'=>e= .returned (.tuple #[])∧IB w' b (A++Y++B++X++C)∧Chg [b] w w':=by
 have H0:=LH (show IB w b (FS A X B Y C 0) by rw[FS_zero];exact h)
 have HX:=LH hXY
 have HP:=LH hp
 have HN:=LH hn
 have HQ:=LH hq
 have hq1:p+n≤q:=by omega
 have hN1:q+n≤N:=by omega
 clear h hXY hp hn hq hN
 go_enter Tryz.func338,Tryz.ntmps338
 go_wp2_with fail
 go_loopw [10] (fun i wr=>∃k:Nat,i= .int .i64 k∧k≤n∧Hid (IB wr b (FS A X B Y C k))∧Hid (Chg [b] w wr)) (fun i _=>n-(intOf i).toNat)
 case atStart=>exact⟨0,rfl,Nat.zero_le _,H0,LH (Chg.refl _ _)⟩
 case round=>
  obtain⟨k,rfl,hk,HI,HC⟩:=hrel
  by_cases hkn:k<n
  ·obtain⟨x,hx⟩:∃x,X[k]? =some x:=⟨X[k]'(by rw[HN.out];exact hkn),List.getElem?_eq_getElem _⟩
   obtain⟨y,hy⟩:∃y,Y[k]? =some y:=⟨Y[k]'(by rw[←HX.out,HN.out];exact hkn),List.getElem?_eq_getElem _⟩
   obtain⟨i,ei⟩:∃i,i=p+k:=⟨_,rfl⟩
   obtain⟨j,ej⟩:∃j,j=q+k:=⟨_,rfl⟩
   have hi:A.length+k=i:=by rw[HP.out,ei]
   have hj:A.length+X.length+B.length+k=j:=by rw[HP.out,HN.out,HQ.out,ej]
   have HZ:=LH ((FS_next (C:=C) hx hy hi hj▸HI.out.swp (FS_x hx hy hi) (FS_y hx hy hj)).keep (Chg.refl [] _).drew (by simp))
   have HC2:=LH (show Chg [b] w ((wr.setCell ⟨b,i,none⟩ (.int .i64 y)).setCell ⟨b,j,none⟩ (.int .i64 x)).drew from((HC.out.setCell _ _ (by simp)).setCell _ _ (by simp)).drew)
   have c1:=HI.out.cell (FS_x hx hy hi)
   have c2:=HI.out.cell (FS_y hx hy hj)
   have c3:=HI.out.set_cell (i:=i) (FS_y hx hy hj)
   have lb:=HI.out.lt
   have fz:=blk_free HI.out
   have z1:IntKind.i64.wrap ((p:Int)+(k:Int))=(i:Int):=by rw[wrapI (by omega) (by omega)];omega
   have z2:IntKind.i64.wrap ((q:Int)+(k:Int))=(j:Int):=by rw[wrapI (by omega) (by omega)];omega
   have g1:(i:Int)<(N:Int):=by omega
   have g2:(j:Int)<(N:Int):=by omega
   have g3:(0:Int)≤(i:Int):=by omega
   have g4:(0:Int)≤(j:Int):=by omega
   clear hx hy hi hj ei ej
   go_wp2_with fail
   go_region_law (fail)
   all_goals
    go_wp2_with fail
    exact⟨⟨k+1,by go_num,by omega,HZ,HC2⟩,by simp[intOf];omega⟩
  ·have hke:k=n:=by omega
   clear hk hkn
   subst hke
   go_wp2_with fail
   go_end0
   exact⟨rfl,FS_all A X B Y C HX.out▸HN.out▸HI.out,HC.out⟩
end
section
open Go.RowKit
variable {w w':World} {b:Nat} {l:List Int} {K:Int→Int} {x y:Int}
def cmpZ (u v:Int):Int:=if u<v then -1 else if v<u then 1 else 0
theorem cmpZ_neg {u v:Int}:cmpZ u v<0↔u<v:=by unfold cmpZ;split<;>(try split)<;>omega
def CmpOk (w:World) (b N:Nat) (K:Int→Int) (rb:Nat):Prop:=∀(x y:Int) (w':World),0≤x→x<N→0≤y→y<N→Chg [b] w w'→
 Calls Tryz.prog 131 #[.int .i64 x, .int .i64 y, .pointer (some ⟨rb,0,none⟩)] w' fun e w''=>e= .returned (.int .i64 (cmpZ (K y) (K x)))∧Chg [] w' w''
theorem CmpOk.on {N rb:Nat} (h:CmpOk w b N K rb) (hc:Chg [b] w w'):CmpOk w' b N K rb:=fun x y w'' h1 h2 h3 h4 h5=>h x y w'' h1 h2 h3 h4 (hc.thenSame h5)
def InR (N:Nat) (l:List Int):Prop:=∀x∈l,0≤x∧x<N
theorem InR.perm {N:Nat} {A B:List Int} (h:InR N A) (p:B.Perm A):InR N B:=fun x hx=>h x (p.mem_iff.1 hx)
structure InsI (K:Int→Int) (T:List Int) (x:Int) (Y1 Y2:List Int):Prop where
 srt:Srt K (Y1++Y2)
 perm:(Y1++Y2).Perm T
 after:∀y∈Y2,Prec K x y
theorem InsI.step {T Z Y2:List Int} (h:InsI K T x (Z++[y]) Y2) (hp:Prec K x y):InsI K T x Z (y::Y2):=
 ⟨by simpa using h.srt,by simpa using h.perm,fun u hu=>by rcases List.mem_cons.1 hu with rfl|hu;exact hp;exact h.after u hu⟩
theorem InsI.done {T Y1 Y2:List Int} (h:InsI K T x Y1 Y2) (hp:Y1=[]∨∃Z y,Y1=Z++[y]∧Prec K y x):Srt K (Y1++x::Y2)∧(Y1++x::Y2).Perm (T++[x]):=by
 refine⟨srt_put h.srt (fun u hu=> ?_) h.after, ?_⟩
 ·rcases hp with rfl|⟨Z,y,rfl,hp⟩
  ·exact nomatch hu
  ·rcases List.mem_append.1 hu with hu|hu
   ·have:=(srt_append.1 (srt_append.1 h.srt).1).2.2 u hu y (by simp)
    exact this.trans hp
   ·rw[List.mem_singleton.1 hu];exact hp
 ·exact List.perm_middle.trans ((List.Perm.cons x h.perm).trans (List.perm_append_comm (l₁:=[x])))
theorem snoc_cases (Y:List Int):Y=[]∨∃Z y,Y=Z++[y]:=by
 rcases List.eq_nil_or_concat Y with h|⟨Z,y,h⟩
 ·exact Or.inl h
 ·exact Or.inr ⟨Z,y,by simpa using h⟩
def InsS (K:Int→Int) (w:World) (b:Nat) (A R T:List Int) (x:Int) (a j:Nat):Prop:=∃Y1 Y2:List Int,IB w b (A++Y1++x::(Y2++R))∧a+Y1.length=j∧InsI K T x Y1 Y2
theorem insc_any (A X B:List Int) (cap a e N M rb:Nat) (h:IB w b (A++X++B)) (ha:A.length=a) (he:a+X.length=e) (hN:e+B.length=N) (hM:N≤1000000) (hX:X.Pairwise (·<·)) (hR:InR M X) (hc:CmpOk w b M K rb):
 Calls Tryz.prog 270 #[.slice (some ⟨b,0,none⟩) N cap, .int .i64 a, .int .i64 e, .func (.func 131) #[] #[.pointer (some ⟨rb,0,none⟩)]] w fun r w'=>r= .returned (.tuple #[])∧(∃Y:List Int,IB w' b (A++Y++B)∧Y.Perm X∧Srt K Y)∧Chg [b] w w':=by
 have HI:=LH h
 have HA:=LH ha
 have HE:=LH he
 have HN:=LH hN
 have HX:=LH hX
 have HR:=LH hR
 have HC:=LH hc
 have he1:a≤e:=by omega
 have hN1:e≤N:=by omega
 clear h ha he hN hX hR hc
 go_enter Tryz.func270,Tryz.ntmps270
 go_wp2_with fail
 go_loopw [8] (fun i wr=>∃k:Nat,i= .int .i64 k∧a<k∧(k≤e∨k=a+1)∧Hid (∃Y:List Int,IB wr b (A++Y++(X.drop (k-a)++B))∧Y.Perm (X.take (k-a))∧Srt K Y)∧Hid (Chg [b] w wr)) (fun i _=>e+1-(intOf i).toNat)
 case atStart=>
  refine⟨a+1,by go_num,by omega,Or.inr rfl,LH ⟨X.take 1, ?_, ?_, ?_⟩,LH (Chg.refl _ _)⟩
  ·rw[Nat.add_sub_cancel_left,←List.append_assoc,List.append_assoc A,List.take_append_drop];exact HI.out
  ·rw[Nat.add_sub_cancel_left]
  ·cases X with
   |nil=>exact List.Pairwise.nil
   |cons u X=>exact List.pairwise_singleton _ _
 case round=>
  obtain⟨k,rfl,hk1,hk2,HY,HC1⟩:=hrel
  by_cases hke:k<e
  ·obtain⟨x,hx⟩:∃x,X[k-a]? =some x:=⟨X[k-a]'(by have:=HE.out;omega),List.getElem?_eq_getElem _⟩
   have hxl:=len_at hx
   have hxm:x∈X:=List.mem_of_getElem? hx
   obtain⟨R,hRd⟩:∃R,R=X.drop (k-a+1)++B:=⟨_,rfl⟩
   have hRl:k+1+R.length=N:=by rw[hRd];have h1:=HE.out;have h2:=HN.out;simp;omega
   have H0:=LH (show InsS K wr b A R (X.take (k-a)) x a k from by
    obtain⟨Y,y1,y2,y3⟩:=HY.out
    refine⟨Y,[], ?_, ?_,⟨by simpa using y3,by simpa using y2,fun _ h=>nomatch h⟩⟩
    ·rw[drop_at hx]at y1;rw[hRd];simpa using y1
    ·rw[y2.length_eq,List.length_take];omega)
   have HD:=LH (show ∀(w':World) (j:Nat) (Y1 Y2:List Int),IB w' b (A++Y1++x::(Y2++R))→InsI K (X.take (k-a)) x Y1 Y2→(Y1=[]∨∃Z y,Y1=Z++[y]∧Prec K y x)→∃Y:List Int,IB w' b (A++Y++(X.drop (k+1-a)++B))∧Y.Perm (X.take (k+1-a))∧Srt K Y from fun w' j Y1 Y2 i1 i2 i3=>by
    obtain⟨d1,d2⟩:=i2.done i3
    have e1:k+1-a=k-a+1:=by omega
    rw[e1,←hRd,take_at hx]
    exact⟨Y1++x::Y2,by simpa using i1,d2,d1⟩)
   have HLow:=LH (show ∀y∈X.take (k-a),y<x∧0≤y∧y<M from fun y hy=>by
    obtain⟨u,hu,e⟩:=List.mem_iff_getElem.1 hy
    simp only[List.length_take]at hu
    rw[List.getElem_take]at e
    obtain⟨hl,rfl⟩:=List.getElem?_eq_some_iff.1 hx
    have:=List.pairwise_iff_getElem.1 HX.out u (k-a) (by omega) hl (by omega)
    rw[e]at this
    exact⟨this,HR.out y (List.mem_of_mem_take hy)⟩)
   have hx0:=HR.out x hxm
   generalize X.take (k-a)=T at*
   clear hx hxl hxm hRd HY
   go_wp2_with fail
   go_loopw [9] (fun jv wr=>∃j:Nat,jv= .int .i64 j∧a≤j∧j≤k∧Hid (InsS K wr b A R T x a j)∧Hid (Chg [b] w wr)) (fun jv _=>(intOf jv).toNat)
   case atStart=>exact⟨k,rfl,by omega,by omega,H0,HC1⟩
   case round=>
    obtain⟨j,rfl,hj1,hj2,HS,HC2⟩:=hrel
    obtain⟨Y1,Y2,i1,i2,i3⟩:=HS.out
    by_cases hj:a<j
    ·obtain⟨Z,y,rfl⟩:∃Z y,Y1=Z++[y]:=by
      rcases snoc_cases Y1 with rfl|h
      ·simp at i2;omega
      ·exact h
     obtain⟨i,ei⟩:∃i,j=i+1:=⟨j-1,by omega⟩
     simp only[List.length_append,List.length_cons,List.length_nil]at i2
     have hyT:=HLow.out y (i3.perm.mem_iff.1 (by simp))
     have e0:A++(Z++[y])++x::(Y2++R)=(A++Z)++y::x::(Y2++R):=by simp
     rw[e0]at i1
     have hAZ:(A++Z).length=i:=by have:=HA.out;simp;omega
     have hzy:((A++Z)++y::x::(Y2++R))[i]? =some y:=by rw[List.getElem?_append_right (by omega),hAZ];simp
     have hzx:((A++Z)++y::x::(Y2++R))[j]? =some x:=by rw[List.getElem?_append_right (by omega),hAZ,ei];simp
     have c1:=i1.cell hzx
     have c2:=i1.cell hzy
     have lb:=i1.lt
     have q1:=fun d os=>((below_regrown wr d os).cell (p:=⟨b,j,none⟩) lb).trans c1
     have q2:=fun d os=>((below_regrown wr d os).cell (p:=⟨b,i,none⟩) lb).trans c2
     have B8:=LH (show ∀d os,Calls Tryz.prog 131 #[.int .i64 x, .int .i64 y, .pointer (some ⟨rb,0,none⟩)] (Go.Sort.grow (redrawn wr d) os) fun e w''=>e= .returned (.int .i64 (cmpZ (K y) (K x)))∧∃p:Regrown,w''=Go.Sort.grow (redrawn wr p.d) p.os from
      fun d os=>calls_regrown (HC.out x y _ hx0.1 hx0.2 hyT.2.1 hyT.2.2 (HC2.out.thenSame ((chg_regrown wr d os).mono (by simp)))))
     have hcz:=cmpZ_neg (u:=K y) (v:=K x)
     have hpr:=prec_lt (K:=K) hyT.1
     have z1:IntKind.i64.wrap ((j:Int)-1)=(i:Int):=by rw[wrapI (by omega) (by omega)];omega
     have g1:(i:Int)<(N:Int):=by omega
     have g2:(j:Int)<(N:Int):=by omega
     have g3:(0:Int)≤(i:Int):=by omega
     have g4:(0:Int)≤(j:Int):=by omega
     have hja:(a:Int)<(j:Int):=by omega
     have I1:=LH i1
     have I3:=LH i3
     have E0:=LH e0
     have HAZ:=LH hAZ
     have ZX:=LH hzx
     have ZY:=LH hzy
     have EI:=LH ei
     have I2:=LH i2
     generalize cmpZ (K y) (K x)=r at*
     clear i1 i2 i3 e0 hAZ hzy hzx c1 c2 hyT ei HS
     by_cases ht:K y<K x
     ·have hr:r<0:=hcz.2 ht
      have HP:=LH (hpr.2 ht)
      clear hcz hpr ht
      go_wp2_with fail
      refine wp_region_quiet_below (by kernel_rfl) (by kernel_rfl) ?_
      repeat (any_goals (first|go_big_quiet_step (exact B8.out _ _)|quiet_step (exact B8.out _ _)))
      refine wpQuiet_nil ?_
      intro _ hw'
      obtain⟨⟨dq,osq⟩,hw''⟩:=hw'
      subst hw''
      change Exit.then _ _ Exit.normal _ (Go.Sort.grow (redrawn wr dq) osq)
      have K2:=LH (HC2.out.thenSame ((chg_regrown wr dq osq).mono (by simp):Chg [b] _ _))
      have I4:=LH (I1.out.keep (chg_regrown wr dq osq) (by simp))
      generalize Go.Sort.grow (redrawn wr dq) osq=W2 at*
      have c1:=I4.out.cell ZX.out
      have c2:=I4.out.cell ZY.out
      have c3:=I4.out.set_cell (i:=j) ZY.out
      have lb:=I4.out.lt
      have fz:=blk_free I4.out
      have HZ:=LH (show InsS K ((W2.setCell ⟨b,j,none⟩ (.int .i64 y)).setCell ⟨b,i,none⟩ (.int .i64 x)).drew b A R T x a i from by
       have h1:=(I4.out.swp ZX.out ZY.out).keep (Chg.refl [] _).drew (by simp)
       rw[EI.out,swp_prev _ _ _ _ HAZ.out]at h1
       exact⟨Z,y::Y2,by rw[EI.out];simpa using h1,by have:=I2.out;have:=EI.out;omega,I3.out.step HP.out⟩)
      have HC3:=LH (show Chg [b] w ((W2.setCell ⟨b,j,none⟩ (.int .i64 y)).setCell ⟨b,i,none⟩ (.int .i64 x)).drew from((K2.out.setCell _ _ (by simp)).setCell _ _ (by simp)).drew)
      have ej:=LH (show i<j∧a≤i from by have:=EI.out;omega)
      clear q1 q2 B8 HLow HAZ
      go_wp2_with fail
      go_region_law (fail)
      all_goals
       go_wp2_with fail
       exact⟨⟨i,rfl,ej.out.2,by have:=ej.out.1;omega,HZ,HC3⟩,by have:=ej.out.1;simp[intOf];omega⟩
     ·have hr: ¬r<0:=fun h=>ht (hcz.1 h)
      have HP:=LH ((prec_nlt (K:=K) (HLow.out y (I3.out.perm.mem_iff.1 (by simp))).1).1 ht)
      clear hcz hpr ht
      go_wp2_with fail
      refine wp_region_quiet_below (by kernel_rfl) (by kernel_rfl) ?_
      repeat (any_goals (first|go_big_quiet_step (exact B8.out _ _)|quiet_step (exact B8.out _ _)))
      refine wpQuiet_nil ?_
      intro _ hw'
      obtain⟨⟨dq,osq⟩,hw''⟩:=hw'
      subst hw''
      change Exit.then _ _ Exit.normal _ (Go.Sort.grow (redrawn wr dq) osq)
      have K2:=LH (HC2.out.thenSame ((chg_regrown wr dq osq).mono (by simp):Chg [b] _ _))
      have I4:=LH (I1.out.keep (chg_regrown wr dq osq) (by simp))
      generalize Go.Sort.grow (redrawn wr dq) osq=W2 at*
      have HY:=LH (HD.out W2 j (Z++[y]) Y2 (by rw[E0.out];exact I4.out) I3.out (Or.inr ⟨Z,y,rfl,HP.out⟩))
      clear q1 q2 B8 HLow HAZ
      go_wp2_with fail
      exact⟨⟨k+1,by go_num,by omega,Or.inl (by omega),HY,K2⟩,by simp[intOf];omega⟩
    ·have hja:j=a:=by omega
     have I1:=LH i1
     have I3:=LH i3
     have hY1:Y1=[]:=List.length_eq_zero_iff.1 (by omega)
     have hjd: ¬((a:Int)<(j:Int)):=by omega
     have HY1:=LH hY1
     clear i1 i2 i3 HLow hja hY1
     go_wp2_with fail
     refine wp_region_quiet_below (by kernel_rfl) (by kernel_rfl) ?_
     repeat (any_goals (first|go_big_quiet_step (fail)|quiet_step (fail)))
     refine wpQuiet_nil ?_
     intro _ hw'
     obtain⟨⟨dq,osq⟩,hw''⟩:=hw'
     subst hw''
     change Exit.then _ _ Exit.normal _ (Go.Sort.grow (redrawn wr dq) osq)
     have K2:=LH (HC2.out.thenSame ((chg_regrown wr dq osq).mono (by simp):Chg [b] _ _))
     have I4:=LH (I1.out.keep (chg_regrown wr dq osq) (by simp))
     generalize Go.Sort.grow (redrawn wr dq) osq=W2 at*
     have HY:=LH (HD.out W2 j Y1 Y2 I4.out I3.out (Or.inl HY1.out))
     go_wp2_with fail
     exact⟨⟨k+1,by go_num,by omega,Or.inl (by omega),HY,K2⟩,by simp[intOf];omega⟩
  ·have HY2:=LH (show ∃Y:List Int,IB wr b (A++Y++B)∧Y.Perm X∧Srt K Y from by
    obtain⟨Y,y1,y2,y3⟩:=HY.out
    have hl:X.length≤k-a:=by have:=HE.out;omega
    rw[List.drop_of_length_le hl]at y1
    rw[List.take_of_length_le hl]at y2
    exact⟨Y,by simpa using y1,y2,y3⟩)
   go_wp2_with fail
   go_end0
   exact⟨rfl,HY2.out,HC1.out⟩
end
section
open Go.RowKit
variable {w w':World} {b:Nat} {l:List Int}
def RotI (w:World) (b:Nat) (T:List Int) (m N I J:Nat):Prop:=∃A U V B:List Int,IB w b (A++U++V++B)∧A.length+I=m∧U.length=I∧V.length=J∧m+J+B.length=N∧A++V++U++B=T
theorem rot_any (A U V B:List Int) (cap a m e N:Nat) (f:Value) (h:IB w b (A++U++V++B)) (ha:A.length=a) (hm:a+U.length=m) (he:m+V.length=e) (hN:e+B.length=N) (hM:N≤1000000) (hU:0<U.length) (hV:0<V.length):
 Calls Tryz.prog 315 #[.slice (some ⟨b,0,none⟩) N cap, .int .i64 a, .int .i64 m, .int .i64 e,f] w fun r w'=>r= .returned (.tuple #[])∧IB w' b (A++V++U++B)∧Chg [b] w w':=by
 obtain⟨T,hT⟩:∃T,T=A++V++U++B:=⟨_,rfl⟩
 rw[←hT]
 have h1:a<m:=by omega
 have h2:m<e:=by omega
 have h3:e≤N:=by omega
 have z1:((m:Int)-a)=((m-a:Nat):Int):=by omega
 have z2:((e:Int)-m)=((e-m:Nat):Int):=by omega
 have H0:=LH (show RotI w b T m N (m-a) (e-m)from⟨A,U,V,B,h,by omega,by omega,by omega,by omega,hT.symm⟩)
 have Z1:=LH z1
 have Z2:=LH z2
 clear h hT ha hm he hN hU hV z1 z2
 go_enter Tryz.func315,Tryz.ntmps315
 go_wp2_with fail
 rw[Z1.out]
 go_wp2_with fail
 rw[Z2.out]
 go_loopw [10,11] (fun i j wr=>∃I J:Nat,i= .int .i64 I∧j= .int .i64 J∧0<I∧0<J∧I≤m∧m+J≤N∧Hid (RotI wr b T m N I J)∧Hid (Chg [b] w wr)) (fun i j _=>(intOf i).toNat+(intOf j).toNat)
 case atStart=>exact⟨m-a,e-m,rfl,rfl,by omega,by omega,by omega,by omega,H0,LH (Chg.refl _ _)⟩
 case round=>
  obtain⟨I,J,rfl,rfl,hI,hJ,hIm,hJN,HR,HC⟩:=hrel
  have hcall:∀(A X B Y C:List Int) (p q n:Nat) (w1:World),IB w1 b (A++X++B++Y++C)→X.length=Y.length→A.length=p→X.length=n→p+n+B.length=q→q+n+C.length=N→
   Calls Tryz.prog 338 #[.slice (some ⟨b,0,none⟩) N cap, .int .i64 p, .int .i64 q, .int .i64 n,f] w1 fun e w'=>e= .returned (.tuple #[])∧IB w' b (A++Y++B++X++C)∧Chg [b] w1 w':=
   fun A X B Y C p q n w1 g1 g2 g3 g4 g5 g6=>swpr_any A X B Y C cap p q n N f g1 g2 g3 g4 g5 g6 hM
  obtain⟨A,U,V,B,r1,r2,r3,r4,r5,r6⟩:=HR.out
  have y1:((m:Int)-I)=((m-I:Nat):Int):=by omega
  have Y1:=LH y1
  clear y1
  by_cases hne:I=J
  ·subst hne
   have A1:=LH (hcall A U [] V B (m-I) m I wr (by simpa using r1) (by omega) (by omega) (by omega) (by simp;omega) (by omega))
   clear hcall r1 r2 r3 r4 r5
   go_wp2_with fail
   rw[Y1.out]
   go_wp2_with fail
   refine A1.out.mono ?_;rintro r w1 ⟨rfl,h8,h9⟩
   have Q8:=LH h8
   have Q9:=LH h9
   clear h8 h9
   go_wp2_with fail
   go_end0
   exact⟨rfl,by have:=Q8.out;rw[←r6];simpa using this,HC.out.thenSame Q9.out⟩
  ·have hb:((I:Int)!=(J:Int))=true:=by rw[bne_iff_ne];omega
   by_cases hgt:J<I
   ·have A1:=LH (hcall A (U.take J) (U.drop J) V B (m-I) m J wr (by rw[List.append_assoc A,List.take_append_drop];exact r1) (by simp;omega) (by omega) (by simp;omega) (by simp;omega) (by omega))
    have y2:((I:Int)-J)=((I-J:Nat):Int):=by omega
    have Y2:=LH y2
    have N1:=LH (show ∀w1,IB w1 b (A++V++U.drop J++U.take J++B)→RotI w1 b T m N (I-J) J from fun w1 g=>⟨A++V,U.drop J,U.take J,B,g,by simp;omega,by simp;omega,by simp;omega,r5,by rw[←r6];simp[List.append_assoc]⟩)
    clear hcall r1 r2 r3 r4 r5 r6 y2
    go_wp2_with fail
    rw[Y1.out]
    go_wp2_with fail
    refine A1.out.mono ?_;rintro r w1 ⟨rfl,h8,h9⟩
    have Q8:=LH (N1.out w1 h8)
    have Q9:=LH (HC.out.thenSame h9)
    clear h8 h9
    go_wp2_with fail
    exact⟨⟨I-J,J,by rw[Y2.out],rfl,by omega,by omega,by omega,by omega,Q8,Q9⟩,by rw[Y2.out];simp[intOf];omega⟩
   ·have A1:=LH (hcall A U (V.take (J-I)) (V.drop (J-I)) B (m-I) (m+J-I) I wr (by rw[List.append_assoc (A++U),List.take_append_drop];exact r1) (by simp;omega) (by omega) (by omega) (by simp;omega) (by omega))
    have y2:((J:Int)-I)=((J-I:Nat):Int):=by omega
    have Y2:=LH y2
    have y3:((m:Int)+J-I)=((m+J-I:Nat):Int):=by omega
    have Y3:=LH y3
    have N1:=LH (show ∀w1,IB w1 b (A++V.drop (J-I)++V.take (J-I)++U++B)→RotI w1 b T m N I (J-I)from fun w1 g=>⟨A,V.drop (J-I),V.take (J-I),U++B,by rw[←List.append_assoc];exact g,by omega,by simp;omega,by simp;omega,by simp;omega,by rw[←r6];simp[List.append_assoc]⟩)
    clear hcall r1 r2 r3 r4 r5 r6 y2 y3
    go_wp2_with fail
    rw[Y1.out]
    go_wp2_with fail
    rw[Y3.out]
    go_wp2_with fail
    refine A1.out.mono ?_;rintro r w1 ⟨rfl,h8,h9⟩
    have Q8:=LH (N1.out w1 h8)
    have Q9:=LH (HC.out.thenSame h9)
    clear h8 h9
    go_wp2_with fail
    exact⟨⟨I,J-I,rfl,by rw[Y2.out],by omega,by omega,by omega,by omega,Q8,Q9⟩,by rw[Y2.out];simp[intOf];omega⟩
end
end Go.Proofs.YtmofknmeljdodaaGreatDoor
