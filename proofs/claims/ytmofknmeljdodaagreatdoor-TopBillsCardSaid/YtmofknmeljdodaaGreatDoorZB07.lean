/- Over any program with slices.SortStableFunc on ints: contract: the stable sort. No condition but those that the statements name. -/
import Derived.Test.YtmofknmeljdodaaGreatDoorZS01
import Derived.Test.YtmofknmeljdodaaGreatDoorZB06
import Derived.Test.YtmofknmeljdodaaGreatDoorZB03
import Derived.Test.YtmofknmeljdodaaGreatDoorZS02
import Derived.Test.YtmofknmeljdodaaGreatDoorZS03
import Derived.Test.YtmofknmeljdodaaGreatDoorZS05
import Derived.Test.YtmofknmeljdodaaGreatDoorZB02
set_option maxHeartbeats 100000000
set_option maxRecDepth 100000
set_option linter.unusedVariables false
set_option linter.unusedSimpArgs false
open List renaming getElem_toArray→gTA,getElem_cons_zero→gCZ,getElem_cons_succ→gCS,setIfInBounds_toArray→sTA,set_cons_zero→sCZ,set_cons_succ→sCS
namespace Go.Proofs.YtmofknmeljdodaaGreatDoor
section
open Go.RowKit
variable {w w':World} {b:Nat} {l:List Int} {K:Int→Int} {x y:Int}
theorem symm_any (cap N M rb:Nat) (hM:N≤1000000) (n:Nat):SymmOk K b cap N M rb n:=by
 induction n with
 |zero=>intro A L V B a m e w hn h ha hm he hN hL hV hI hR hc;omega
 |succ n ih=>
  intro A L V B a m e w hn h ha hm he hN hL hV hI hR hc
  by_cases h1:L.length=1
  ·obtain⟨x,rfl⟩:=List.length_eq_one_iff.1 h1
   have hm':m=a+1:=by simp at hm;omega
   subst hm'
   exact symm_left A V B x cap a e N M rb h ha he hN hM hI hR hc
  by_cases h2:V.length=1
  ·obtain⟨x,rfl⟩:=List.length_eq_one_iff.1 h2
   have he':e=m+1:=by simp at he;omega
   subst he'
   exact symm_right A L B x cap a m N M rb h ha hm hN hM (by omega) hI hR hc
  exact symm_step cap N M rb n hM ih A L V B a m e w hn h ha hm he hN (by omega) (by omega) hI hR hc
structure BlkI (K:Int→Int) (w:World) (b s:Nat) (X:List Int) (a:Nat) (D:List Int):Prop where
 ib:IB w b (D++X.drop a)
 perm:D.Perm (X.take a)
 dn:Dn K s D
theorem asc_low {X:List Int} (h:X.Pairwise (·<·)) (a:Nat):Low (X.take a) (X.drop a):=fun x hx y hy=>by
 have:=(List.pairwise_append.1 (by rw[List.take_append_drop];exact h:(X.take a++X.drop a).Pairwise (·<·))).2.2
 exact this x hx y hy
def ChkI (K:Int→Int) (w:World) (b s:Nat) (X:List Int):Prop:=∃l,IB w b l∧l.Perm X∧Chk K s l
theorem BlkI.last {X D Y B:List Int} {a s:Nat} (h:BlkI K w b s X a D) (hX:X.Pairwise (·<·)) (i:IB w' b (D++Y++B)) (hB:B=[]) (p:Y.Perm (X.drop a)) (hs:Srt K Y) (hl:Y.length≤s):ChkI K w' b s X:=by
 subst hB
 refine⟨D++Y,by simpa using i, ?_,h.dn Y (Low.perm (asc_low hX a) h.perm p) (.last Y hl hs)⟩
 have:=h.perm.append p
 rwa[List.take_append_drop]at this
structure MgI (K:Int→Int) (w:World) (b s:Nat) (X D Z:List Int):Prop where
 ib:IB w b (D++Z)
 perm:(D++Z).Perm X
 dn:Dn K (2*s) D
 chk:Chk K s Z
 low:Low D Z
theorem MgI.next {s:Nat} {X D L R E Y:List Int} (h:MgI K w b s X D (L++R++E)) (h1:Low (L++R) E) (h2:Chk K s E) (i:IB w' b (D++Y++E)) (p:Y.Perm (L++R)) (hs:Srt K Y) (hl:(L++R).length=2*s):MgI K w' b s X (D++Y) E:=by
 have hlow:=h.low
 obtain⟨q1,q2⟩:=low_append_r.1 hlow
 refine⟨i, ?_,h.dn.snoc (by rw[p.length_eq];exact hl) hs (q1.perm (List.Perm.refl _) p),h2,low_append_l.2 ⟨q2,h1.perm p (List.Perm.refl _)⟩⟩
 have e:D++Y++E=D++(Y++E):=by simp
 rw[e]
 exact((p.append_right E).append_left D).trans h.perm
theorem MgI.last {s:Nat} {X D Z Y:List Int} (h:MgI K w b s X D Z) (i:IB w' b (D++Y)) (p:Y.Perm Z) (hs:Srt K Y) (hl:Z.length≤2*s):ChkI K w' b (2*s) X:=
 ⟨D++Y,i,(p.append_left D).trans h.perm,h.dn Y (h.low.perm (List.Perm.refl _) p) (.last Y (by rw[p.length_eq];exact hl) hs)⟩
theorem stbf_any (X:List Int) (cap N M rb:Nat) (h:IB w b X) (hN:X.length=N) (hM:N≤100000) (hX:X.Pairwise (·<·)) (hR:InR M X) (hc:CmpOk w b M K rb):
 Calls Tryz.prog 203 #[.slice (some ⟨b,0,none⟩) N cap, .int .i64 N, .func (.func 131) #[] #[.pointer (some ⟨rb,0,none⟩)]] w fun r w'=>r= .returned (.tuple #[])∧(∃Y:List Int,IB w' b Y∧Y.Perm X∧Srt K Y)∧Chg [b] w w':=by
 have HI:=LH h
 have HN:=LH hN
 have HX:=LH hX
 have HR:=LH hR
 have HC:=LH hc
 have hS:=fun(w1:World) (hcw:Chg [b] w w1) (A Z B:List Int) (a e:Nat) (i1:IB w1 b (A++Z++B)) (i2:A.length=a) (i3:a+Z.length=e) (i4:e+B.length=N) (i5:Z.Pairwise (·<·)) (i6:InR M Z)=>
  insc_any A Z B cap a e N M rb i1 i2 i3 i4 (by omega) i5 i6 (hc.on hcw)
 have IS:=LH hS
 clear h hN hX hR hc hS
 go_enter Tryz.func203,Tryz.ntmps203
 go_wp2_with fail
 go_loopw [7,8] (fun av bv wr=>∃a:Nat,av= .int .i64 a∧bv= .int .i64 (a+20:Nat)∧a≤N∧Hid (∃D,BlkI K wr b 20 X a D)∧Hid (Chg [b] w wr)) (fun av _ _=>N-(intOf av).toNat)
 case atStart=>exact⟨0,rfl,rfl,by omega,LH ⟨[],by simpa using HI.out,by simp,Dn.nil⟩,LH (Chg.refl _ _)⟩
 case round=>
  obtain⟨a,rfl,rfl,ha,HD,HC1⟩:=hrel
  obtain⟨D,d1,d2,d3⟩:=HD.out
  by_cases hk:a+20≤N
  ·have e1:X.drop a=(X.drop a).take 20++X.drop (a+20):=by rw[←List.drop_drop,List.take_append_drop]
   have F:=LH (IS.out wr HC1.out D ((X.drop a).take 20) (X.drop (a+20)) a (a+20) (by rw[List.append_assoc,←e1];exact d1) (by rw[d2.length_eq,List.length_take,HN.out];omega) (by simp[HN.out];omega) (by simp[HN.out];omega) ((HX.out.sublist (List.drop_sublist _ _)).sublist (List.take_sublist _ _)) (HR.out.sub fun x hx=>List.mem_of_mem_drop (List.mem_of_mem_take hx)))
   have HN2:=LH (show ∀(w1:World),(∃Y:List Int,IB w1 b (D++Y++X.drop (a+20))∧Y.Perm ((X.drop a).take 20)∧Srt K Y)→∃D,BlkI K w1 b 20 X (a+20) D from fun w1 ⟨Y,y1,y2,y3⟩=>by
    refine⟨D++Y,by simpa only[List.append_assoc]using y1, ?_, ?_⟩
    ·rw[List.take_add];exact d2.append y2
    ·refine d3.snoc (by rw[y2.length_eq];simp[HN.out];omega) y3 ?_
     exact fun u hu v hv=>asc_low HX.out a u (d2.mem_iff.1 hu) v (List.mem_of_mem_take (y2.mem_iff.1 hv)))
   have hk2:((a+20:Nat):Int)≤(N:Int):=by omega
   clear d1 d2 d3 e1 HD
   go_wp2_with fail
   refine F.out.mono ?_;rintro r w1 ⟨rfl,h8,h9⟩
   have I2:=LH (HN2.out w1 h8)
   have C2:=LH (HC1.out.thenSame h9)
   clear h8 h9 F
   go_wp2_with fail
   exact⟨⟨a+20,rfl,by go_num,hk,I2,C2⟩,by simp[intOf];omega⟩
  ·have F:=LH (IS.out wr HC1.out D (X.drop a) [] a N (by simpa using d1) (by rw[d2.length_eq,List.length_take,HN.out];omega) (by simp[HN.out];omega) (by simp) (HX.out.sublist (List.drop_sublist _ _)) (HR.out.sub fun x hx=>List.mem_of_mem_drop hx))
   have HN2:=LH (show ∀(w1:World),(∃Y:List Int,IB w1 b (D++Y++[])∧Y.Perm (X.drop a)∧Srt K Y)→ChkI K w1 b 20 X from fun w1 ⟨Y,y1,y2,y3⟩=>
    BlkI.last ⟨d1,d2,d3⟩ HX.out y1 rfl y2 y3 (by rw[y2.length_eq];simp[HN.out];omega))
   have hk2: ¬((a+20:Nat):Int)≤(N:Int):=by omega
   clear d1 d2 d3 HD
   go_wp2_with fail
   refine F.out.mono ?_;rintro r w1 ⟨rfl,h8,h9⟩
   have I2:=LH (HN2.out w1 h8)
   have C2:=LH (HC1.out.thenSame h9)
   clear h8 h9 F HN2 hk hk2 HC1
   go_wp2_with fail
   go_loopw [6] (fun sv wr=>∃s:Nat,sv= .int .i64 s∧20≤s∧s≤200000∧Hid (ChkI K wr b s X)∧Hid (Chg [b] w wr)) (fun sv _=>N-(intOf sv).toNat)
   case atStart=>exact⟨20,rfl,by omega,by omega,I2,C2⟩
   case round=>
    obtain⟨s,rfl,hs1,hs2,HS,HC2⟩:=hrel
    by_cases hsn:s<N
    ·have hsn2:(s:Int)<(N:Int):=by omega
     have M0:=LH (show ∃D Z,MgI K wr b s X D Z∧D.length=0 from by
      obtain⟨l,s1,s2,s3⟩:=HS.out
      exact⟨[],l,⟨by simpa using s1,by simpa using s2,Dn.nil,s3,fun _ h=>nomatch h⟩,rfl⟩)
     have Z2:=LH (show(2:Int)*s=((2*s:Nat):Int) by omega)
     have Z3:=LH (show(s:Int)*2=((2*s:Nat):Int) by omega)
     obtain⟨s2,es2⟩:∃s2,s2=2*s:=⟨_,rfl⟩
     rw[←es2]at Z2 Z3
     have ES2:=LH es2
     have hs3:s2≤200000:=by omega
     clear es2 HS I2 C2
     go_wp2_with fail
     rw[Z2.out]
     go_loopw [7,8] (fun av bv wr=>∃a:Nat,av= .int .i64 a∧bv= .int .i64 (a+s2:Nat)∧a≤N∧Hid (∃D Z,MgI K wr b s X D Z∧D.length=a)∧Hid (Chg [b] w wr)) (fun av _ _=>N-(intOf av).toNat)
     case atStart=>exact⟨0,rfl,by simp,by omega,M0,HC2⟩
     case round=>
      obtain⟨c,rfl,rfl,hcn,HM2,HC3⟩:=hrel
      obtain⟨D,Z,m1,m2⟩:=HM2.out
      have hlen:c+Z.length=N:=by have:=m1.perm.length_eq;rw[HN.out]at this;simp at this;omega
      have hmem:∀x∈Z,0≤x∧x<M:=fun x hx=>HR.out x (m1.perm.mem_iff.1 (by simp[hx]))
      by_cases hk:c+s2≤N
      ·obtain⟨L,R,E,rfl,l1,l2,l3,l4,l5,l6,l7,l8, -⟩:=m1.chk.two (by have:=ES2.out;omega)
       have l8':=l8 (by have:=ES2.out;omega)
       simp only[List.length_append]at hlen
       have F:=LH (symm_any cap N M rb (by omega) N D L R E c (c+s) (c+s2) wr (by omega) (by have:=m1.ib;simpa only[List.append_assoc]using this) m2 (by omega) (by have:=ES2.out;omega) (by have:=ES2.out;omega) (by omega) (by omega) ⟨l3,l4,l5⟩ (fun x hx=>hmem x (by simp only[List.mem_append]at hx⊢;exact Or.inl hx)) (HC.out.on HC3.out))
       have HN3:=LH (show ∀w1,MrgTo K w1 b D L R E→∃D Z,MgI K w1 b s X D Z∧D.length=c+s2 from fun w1 ⟨Y,y1,y2,y3⟩=>
        ⟨D++Y,E,m1.next l6 l7 y1 y2 y3 (by simp;omega),by have:=y2.length_eq;have:=ES2.out;simp at*;omega⟩)
       have hk2:(c:Int)+(s2:Int)≤(N:Int):=by omega
       simp only[Int.natCast_add]at F
       clear m1 m2 hlen hmem l1 l2 l3 l4 l5 l6 l7 l8 l8' HM2 M0
       go_wp2_with fail
       refine F.out.mono ?_;rintro r w2 ⟨rfl,h8,h9⟩
       have I3:=LH (HN3.out w2 h8)
       have C3:=LH (HC3.out.thenSame h9)
       clear h8 h9 F HN3
       go_wp2_with fail
       rw[Z2.out]
       exact⟨⟨c+s2,by simp,by go_num,by omega,I3,C3⟩,by have:=ES2.out;simp[intOf];omega⟩
      ·have hk2: ¬(c:Int)+(s2:Int)≤(N:Int):=by omega
       by_cases hm:c+s<N
       ·obtain⟨L,R,E,rfl,l1,l2,l3,l4,l5,l6,l7, -,l9⟩:=m1.chk.two (by omega)
        have hE:=l9 (by have:=ES2.out;omega)
        subst hE
        simp only[List.length_append,List.length_nil]at hlen
        have F:=LH (symm_any cap N M rb (by omega) N D L R [] c (c+s) N wr (by omega) (by have:=m1.ib;simpa only[List.append_assoc]using this) m2 (by omega) (by omega) (by simp) (by omega) (by omega) ⟨l3,l4,l5⟩ (fun x hx=>hmem x (by simp only[List.mem_append]at hx⊢;exact Or.inl hx)) (HC.out.on HC3.out))
        have HN3:=LH (show ∀w1,MrgTo K w1 b D L R []→ChkI K w1 b s2 X from fun w1 ⟨Y,y1,y2,y3⟩=>by
         rw[ES2.out]
         exact m1.last (by simpa using y1) (by simpa using y2) y3 (by have:=ES2.out;simp;omega))
        have hm2:(c:Int)+(s:Int)<(N:Int):=by omega
        simp only[Int.natCast_add]at F
        clear m1 m2 hlen hmem l1 l2 l3 l4 l5 l6 l7 l9 HM2 M0
        go_wp2_with fail
        refine F.out.mono ?_;rintro r w2 ⟨rfl,h8,h9⟩
        have I3:=LH (HN3.out w2 h8)
        have C3:=LH (HC3.out.thenSame h9)
        clear h8 h9 F HN3
        go_wp2_with fail
        rw[Z3.out]
        exact⟨⟨s2,rfl,by have:=ES2.out;omega,hs3,I3,C3⟩,by have:=ES2.out;simp[intOf];omega⟩
       ·have I3:=LH (show ChkI K wr b s2 X from by
         rw[ES2.out]
         exact m1.last m1.ib (List.Perm.refl _) (m1.chk.short (by omega)) (by omega))
        have hm2: ¬(c:Int)+(s:Int)<(N:Int):=by omega
        clear m1 m2 hlen hmem HM2 M0 hm hk
        go_wp2_with fail
        rw[Z3.out]
        exact⟨⟨s2,rfl,by have:=ES2.out;omega,hs3,I3,HC3⟩,by have:=ES2.out;simp[intOf];omega⟩
    ·have hsn2: ¬(s:Int)<(N:Int):=by omega
     have HF:=LH (show ∃Y:List Int,IB wr b Y∧Y.Perm X∧Srt K Y from by
      obtain⟨l,s1,s2,s3⟩:=HS.out
      exact⟨l,s1,s2,s3.short (by rw[s2.length_eq,HN.out];omega)⟩)
     clear hsn
     go_wp2_with fail
     go_end0
     exact⟨rfl,HF.out,HC2.out⟩
theorem sstf_any (X:List Int) (cap N M rb:Nat) (h:IB w b X) (hN:X.length=N) (hM:N≤100000) (hX:X.Pairwise (·<·)) (hR:InR M X) (hc:CmpOk w b M K rb):
 Calls Tryz.prog 130 #[.slice (some ⟨b,0,none⟩) N cap, .func (.func 131) #[] #[.pointer (some ⟨rb,0,none⟩)]] w fun r w'=>r= .returned (.tuple #[])∧(∃Y:List Int,IB w' b Y∧Y.Perm X∧Srt K Y)∧Chg [b] w w':=by
 have F:=LH (stbf_any X cap N M rb h hN hM hX hR hc)
 clear h hN hX hR hc
 go_enter Tryz.func130,Tryz.ntmps130
 go_wp2_with fail
 refine F.out.mono ?_;rintro r w2 ⟨rfl,h8,h9⟩
 have I3:=LH h8
 have C3:=LH h9
 clear h8 h9 F
 go_wp2_with fail
 go_end0
 exact⟨rfl,I3.out,C3.out⟩
end
section
open Go.RowKit
variable {t S:Int} {W V Q R O:List Int}
theorem sum_set {l:List Int} {i:Nat} (h:i<l.length) (x:Int):(l.set i x).sum=l.sum+(x-l.getD i 0):=by
 induction l generalizing i with
 |nil=>simp at h
 |cons v l ih=>
  cases i with
  |zero=>simp only[sCZ,List.sum_cons,List.getD_cons_zero];omega
  |succ i=>
   simp only[sCS,List.sum_cons,List.getD_cons_succ]
   rw[ih (by simpa using h)];omega
theorem bump_sum (hr:∀i∈O,0≤i∧i<Q.length):(bump Q O).sum=Q.sum+O.length:=by
 unfold bump
 induction O generalizing Q with
 |nil=>simp
 |cons i O ih=>
  have h0:=hr i (by simp)
  rw[List.foldl_cons,ih (fun x hx=>by rw[List.length_set];exact hr x (by simp[hx])),sum_set (by omega)]
  simp only[List.length_cons];omega
theorem quo_at {t:Int} {j:Nat} (hj:j<W.length):(shQ t W).getD j 0=quo t (effS W) ((effW W).getD j 0):=by
 unfold shQ
 rw[List.getD_eq_getElem?_getD,List.getD_eq_getElem?_getD,List.getElem?_map,List.getElem?_eq_getElem (by rw[effW_len];exact hj)]
 rfl
theorem eff_at {j:Nat} (hj:j<W.length):(effW W).getD j 0=if W.sum=0 then 1 else W.getD j 0:=by
 unfold effW
 split
 ·rw[List.getD_eq_getElem?_getD,List.getElem?_map,List.getElem?_eq_getElem hj];rfl
 ·rfl
def shares (t:Int) (W O:List Int):List Int:=bump (shQ t W) (O.take (leftOf t W).toNat)
theorem shares_len:(shares t W O).length=W.length:=by unfold shares;rw[bump_len,shQ_len]
theorem IsOrd.shares_at (h:IsOrd (shR t W) O) {j:Nat} (hj:j<W.length):
 (shares t W O).getD j 0=quo t (effS W) ((effW W).getD j 0)+(if(j:Int)∈O.take (leftOf t W).toNat then 1 else 0):=by
 unfold shares
 rw[bump_at (h.nodup.sublist (List.take_sublist _ _)) (fun i hi=>(h.range i (List.mem_of_mem_take hi)).1) j (by rw[shQ_len];exact hj),quo_at hj]
theorem IsOrd.shares_sum (h:IsOrd (shR t W) O) (hW:∀w∈W,0≤w) (hn:W=[]→t=0):(shares t W O).sum=t:=by
 obtain⟨h1,h2⟩:=left_bounds hW hn
 unfold shares
 rw[bump_sum (fun i hi=>by have:=h.range i (List.mem_of_mem_take hi);rw[shR_len]at this;rw[shQ_len];exact this),List.length_take,h.len,shR_len,Nat.min_eq_left (by omega)]
 unfold leftOf at*
 omega
end
section
open Go.RowKit
theorem amt_any (n:Int) (w:World):Calls Tryz.prog 75 #[.int .i64 n] w fun e w'=>e= .returned (.bool (amtB n))∧w=w':=by
 by_cases h1:0≤n
 ·go_enter Tryz.func75,Tryz.ntmps75
  go_wp2
  go_ret
  exact⟨by simp[amtB,h1],rfl⟩
 ·go_enter Tryz.func75,Tryz.ntmps75
  go_wp2
  go_ret
  exact⟨by simp[amtB];omega,rfl⟩
theorem cmpi_eq (u v:Int):Lib.compareInt u v=cmpZ u v:=by unfold Lib.compareInt cmpZ;rfl
theorem cmpf_any (x y:Int) (rb cb cap:Nat) (R:List Int) (w:World) (h:w.cell? ⟨rb,0,none⟩=some (.slice (some ⟨cb,0,none⟩) R.length cap)) (hl:rb<w.heap.size) (hR:IB w cb R) (hx:0≤x) (hx2:x<R.length) (hy:0≤y) (hy2:y<R.length):
 Calls Tryz.prog 131 #[.int .i64 x, .int .i64 y, .pointer (some ⟨rb,0,none⟩)] w fun e w'=>e= .returned (.int .i64 (cmpZ (keyOf R y) (keyOf R x)))∧Chg [] w w':=by
 have ex:R[x.toNat]? =some (keyOf R x):=by unfold keyOf;rw[List.getD_eq_getElem?_getD,List.getElem?_eq_getElem (by omega)];rfl
 have ey:R[y.toNat]? =some (keyOf R y):=by unfold keyOf;rw[List.getD_eq_getElem?_getD,List.getElem?_eq_getElem (by omega)];rfl
 have c1:=hR.cell ex
 have c2:=hR.cell ey
 have lc:=hR.lt
 have A:=LH (fun w'=>Tryz.cmp_Compare_int (keyOf R y) (keyOf R x) w')
 simp only[cmpi_eq]at A
 generalize keyOf R x=kx at*
 generalize keyOf R y=ky at*
 generalize R.length=n at*
 clear hR ex ey
 go_enter Tryz.func131,Tryz.ntmps131
 go_wp2_with fail
 go_quiet (with_reducible exact Calls.quiet_of_same (A.out _))
 go_wp2_with fail
 go_ret
 exact⟨rfl,(Chg.refl _ _).drewN _⟩
end
section
open Go.RowKit
def lnC (x:Ln):List Value:=[.string x.fn, .int .i64 x.us.inv, .int .i64 x.us.steps, .int .i64 x.us.ticks, .int .i64 x.us.units, .int .i64 x.mi]
theorem lnC_len (x:Ln):(lnC x).length=6:=rfl
theorem lnC_one (x:Ln):∀u∈lnC x,u.oneCell'=true:=by
 intro u hu
 simp[lnC]at hu
 rcases hu with rfl|rfl|rfl|rfl|rfl|rfl<;>rfl
def Ln.good (x:Ln):Prop:=x.fn.size≤maxLen
theorem line_cases {l:List Ln} {k:Nat} {x:Ln} (h:l[k]? =some x):
 (nameB x.fn=false∧lineE l k=4)∨(nameB x.fn=true∧(∃m,k=m+1)∧(Op.bytesLess x.fn.toList (fnAt l (k-1)).toList=true∨(Op.bytesLess x.fn.toList (fnAt l (k-1)).toList=false∧(x.fn.toList==(fnAt l (k-1)).toList)=true))∧lineE l k=11)∨
 (nameB x.fn=true∧(k=0∨((∃m,k=m+1)∧Op.bytesLess x.fn.toList (fnAt l (k-1)).toList=false∧(x.fn.toList==(fnAt l (k-1)).toList)=false))∧((usB x.us=false∧lineE l k=2)∨(usB x.us=true∧amtB x.mi=false∧lineE l k=2)∨(usB x.us=true∧amtB x.mi=true∧lineE l k=0))):=by
 unfold lineE leqB
 rw[h]
 simp only
 cases h1:nameB x.fn
 ·exact .inl ⟨rfl,by simp⟩
 have rest:((usB x.us=false∧(if usB x.us=false∨amtB x.mi=false then(2:Int)else 0)=2)∨(usB x.us=true∧amtB x.mi=false∧(if usB x.us=false∨amtB x.mi=false then(2:Int)else 0)=2)∨(usB x.us=true∧amtB x.mi=true∧(if usB x.us=false∨amtB x.mi=false then(2:Int)else 0)=0)):=by
  cases usB x.us<;>cases amtB x.mi<;>simp
 rcases k with _|m
 ·refine .inr (.inr ⟨rfl, .inl rfl, ?_⟩)
  simpa using rest
 ·cases h2:Op.bytesLess x.fn.toList (fnAt l (m+1-1)).toList
  ·cases h3:x.fn.toList==(fnAt l (m+1-1)).toList
   ·refine .inr (.inr ⟨rfl, .inr ⟨⟨m,rfl⟩,rfl,rfl⟩, ?_⟩)
    simpa using rest
   ·exact .inr (.inl ⟨rfl,⟨m,rfl⟩, .inr ⟨rfl,rfl⟩,by simp⟩)
  ·exact .inr (.inl ⟨rfl,⟨m,rfl⟩, .inl rfl,by simp⟩)
theorem line_any (l:List Ln) (k:Nat) (a:Option Addr) (cap:Nat) (w:World) (h:SlIs lnC 6 w a l.length l) (hk:k<l.length) (hm:l.length≤maxLen) (hg:∀x∈l,x.good):Calls Tryz.prog 74 #[.slice a l.length cap, .int .i64 k] w fun e w'=>e= .returned (.int .i64 (lineE l k))∧Chg [] w w':=by
 obtain⟨g,o,rfl, -,hbr,hcc⟩:=h.elem (Chg.refl _ _) k hk
 obtain⟨x,hx1⟩:∃x,l[k]? =some x:=⟨l[k],List.getElem?_eq_getElem hk⟩
 have hxe:=(List.getElem?_eq_some_iff.1 hx1).2
 have d0:=hcc 0 (by omega)
 have d1:=hcc 1 (by omega)
 have d2:=hcc 2 (by omega)
 have d3:=hcc 3 (by omega)
 have d4:=hcc 4 (by omega)
 have d5:=hcc 5 (by omega)
 rw[hxe]at d0 d1 d2 d3 d4 d5
 have hcs:=line_cases hx1
 have hgx:=hg x (List.mem_of_getElem? hx1)
 have HP:=LH (fun m (hkm:k=m+1)=>show w.cell? ⟨g,o+m*6,none⟩=some (.string (fnAt l (k-1))) by
  have hm2:m<l.length:=by omega
  obtain⟨g2,o2,e2, -, -,hcc2⟩:=h.elem (Chg.refl _ _) m hm2
  cases e2
  have:=hcc2 0 (by omega)
  rw[Nat.add_zero]at this
  rw[this]
  unfold fnAt
  rw[hkm,Nat.add_sub_cancel,List.getElem?_eq_getElem hm2]
  rfl)
 have A1:=LH (fun w'=>name_any x.fn w' hgx)
 have A2:=LH (fun w'=>mvalid_any x.us w')
 have A3:=LH (fun w'=>amt_any x.mi w')
 obtain⟨fn,⟨u1,u2,u3,u4⟩,mi⟩:=x
 simp only[lnC,List.getElem?_cons_zero,List.getElem?_cons_succ,Nat.add_zero]at d0 d1 d2 d3 d4 d5
 unfold usV at A2
 simp only at A1 A2 A3 hcs
 generalize lineE l k=R at*
 generalize fnAt l (k-1)=pf at*
 generalize nameB fn=nb at*
 generalize usB ⟨u1,u2,u3,u4⟩=ub at*
 generalize amtB mi=ab at*
 have hk0:(0:Int)≤(k:Int):=by omega
 have hk1:(k:Int)<(l.length:Int):=by omega
 have hlm:(l.length:Int)≤9223372036854775807:=by unfold maxLen at hm;omega
 have C1:=LH (show Chg [] w (w.alloc (.cells #[.string fn, .int .i64 u1, .int .i64 u2, .int .i64 u3, .int .i64 u4, .int .i64 mi] 114))from(Chg.refl _ _).alloc _)
 have X1:=LH (heap_alloc_new w (.cells #[.string fn, .int .i64 u1, .int .i64 u2, .int .i64 u3, .int .i64 u4, .int .i64 mi] 114))
 clear h hm hg hcc hx1 hxe hgx hk
 generalize l.length=n at*
 rcases hcs with ⟨h1,rfl⟩|⟨h1,⟨m,hkm⟩,h2,rfl⟩|⟨h1,h2,h3⟩
 ·go_enter Tryz.func74,Tryz.ntmps74
  go_wp2_with fail
  refine(A1.out _).mono ?_;rintro e w2 ⟨rfl,hc2⟩
  have C2:=LH (C1.out.thenSame hc2)
  clear hc2
  go_wp2_with fail
  go_ret
  exact⟨rfl,C2.out⟩
 ·have dp:=HP.out m hkm
  have e1:IntKind.i64.wrap ((k:Int)-1)=(m:Int):=by rw[IntKind.wrap_i64];omega
  have e2:(0:Int)<(k:Int):=by omega
  have e3:0<k:=by omega
  have e4:(m:Int)<(n:Int):=by omega
  clear hkm
  rcases h2 with h2|⟨h2,h4⟩
  all_goals
   go_enter Tryz.func74,Tryz.ntmps74
   go_wp2_with fail
   refine(A1.out _).mono ?_;rintro e w2 ⟨rfl,hc2⟩
   have C2:=LH (C1.out.thenSame hc2)
   have k2:=blk_cell (hc2.at (by simp) X1.out)
   have dp2:=(World.cell?_of_block (w:=w) (w':=w2) (a:=⟨g,o+m*6,none⟩) (C2.out.block g hbr (by simp))).trans dp
   clear hc2
   go_wp2_with fail
   go_quiet (fail)
   go_wp2_with fail
   go_ret
   exact⟨rfl,C2.out.drewN _⟩
 ·rcases h2 with h2|⟨⟨m,hkm⟩,h2,h4⟩
  ·have e2: ¬(0:Int)<(k:Int):=by omega
   have e3: ¬0<k:=by omega
   clear h2
   rcases h3 with ⟨h5,rfl⟩|⟨h5,h6,rfl⟩|⟨h5,h6,rfl⟩
   all_goals
    go_enter Tryz.func74,Tryz.ntmps74
    go_wp2_with fail
    refine(A1.out _).mono ?_;rintro e w2 ⟨rfl,hc2⟩
    have C2:=LH (C1.out.thenSame hc2)
    have X2:=LH (hc2.at (by simp) X1.out)
    have k2:=blk_cell X2.out
    (try (have dp3:=(World.cell?_of_block (w:=w) (w':=w2) (a:=⟨g,o+m*6,none⟩) (C2.out.block g hbr (by simp))).trans dp))
    clear hc2
    go_wp2_with fail
    go_quiet (fail)
    go_wp2_with fail
    refine(A2.out _).mono ?_;rintro e w3 ⟨rfl,hc3⟩
    have C3:=LH ((C2.out.drewN _).thenSame hc3)
    have k3:=blk_cell (hc3.at (by simp) X2.out)
    clear hc3 k2
    go_wp2_with (go_at_call 75;(with_reducible refine(A3.out _).mono ?_);rintro e w4 ⟨rfl,rfl⟩)
    go_ret
    exact⟨rfl,C3.out⟩
  ·have dp:=HP.out m hkm
   have e1:IntKind.i64.wrap ((k:Int)-1)=(m:Int):=by rw[IntKind.wrap_i64];omega
   have e2:(0:Int)<(k:Int):=by omega
   have e3:0<k:=by omega
   have e4:(m:Int)<(n:Int):=by omega
   clear hkm
   rcases h3 with ⟨h5,rfl⟩|⟨h5,h6,rfl⟩|⟨h5,h6,rfl⟩
   all_goals
    go_enter Tryz.func74,Tryz.ntmps74
    go_wp2_with fail
    refine(A1.out _).mono ?_;rintro e w2 ⟨rfl,hc2⟩
    have C2:=LH (C1.out.thenSame hc2)
    have X2:=LH (hc2.at (by simp) X1.out)
    have k2:=blk_cell X2.out
    (try (have dp3:=(World.cell?_of_block (w:=w) (w':=w2) (a:=⟨g,o+m*6,none⟩) (C2.out.block g hbr (by simp))).trans dp))
    clear hc2
    go_wp2_with fail
    go_quiet (fail)
    go_wp2_with fail
    refine(A2.out _).mono ?_;rintro e w3 ⟨rfl,hc3⟩
    have C3:=LH ((C2.out.drewN _).thenSame hc3)
    have k3:=blk_cell (hc3.at (by simp) X2.out)
    clear hc3 k2
    go_wp2_with (go_at_call 75;(with_reducible refine(A3.out _).mono ?_);rintro e w4 ⟨rfl,rfl⟩)
    go_ret
    exact⟨rfl,C3.out⟩
end
section
open Go.RowKit
def Inv.good (i:Inv):Prop:=i.tn.size≤maxLen∧(∀x∈i.ls,x.good)∧i.ls.length≤maxLen
def ivV (i:Inv) (a:Option Addr) (cap:Nat):Value:= .agg #[.string i.tn, .int .i64 i.per, .slice a i.ls.length cap, .int .i64 i.gr, .int .i64 i.re, .int .i64 i.nt]
def ivO (i:Inv) (a:Option Addr) (cap:Nat):Obj:= .cells #[.string i.tn, .int .i64 i.per, .slice a i.ls.length cap, .int .i64 i.gr, .int .i64 i.re, .int .i64 i.nt] 108
structure CkI (w wr:World) (i:Inv) (a:Option Addr) (cap:Nat):Prop where
 iv:wr.heap[w.heap.size]? =some (ivO i a cap)
 chg:Chg [] w wr
theorem CkI.next {w wr w':World} {i:Inv} {a:Option Addr} {cap:Nat} (h:CkI w wr i a cap) (hc:Chg [] wr w'):CkI w w' i a cap:=⟨hc.at (by simp) h.iv,h.chg.thenSame hc⟩
theorem check_any (i:Inv) (a:Option Addr) (cap:Nat) (w:World) (h:SlIs lnC 6 w a i.ls.length i.ls) (hg:i.good):Calls Tryz.prog 26 #[ivV i a cap] w fun e w'=>e= .returned (.int .i64 (invZ i))∧Chg [] w w':=by
 obtain⟨Z,hZ⟩:∃Z,Z=invZ i:=⟨_,rfl⟩
 rw[←hZ]
 unfold invZ at hZ
 obtain⟨hg1,hg2,hm⟩:=hg
 have HZ:=LH hZ
 have H:=LH h
 have A1:=LH (fun w'=>name_any i.tn w' hg1)
 have L:=LH (fun k (hk:k<i.ls.length) w' (hc:Chg [] w w')=>line_any i.ls k a cap w' (h.kept hc) hk hm hg2)
 have M1:=LH (fun w'=>amt_any i.gr w')
 have M2:=LH (fun w'=>amt_any i.re w')
 have M3:=LH (fun w'=>amt_any i.nt w')
 have HLM:=LH (fun(q:errs (linesE i.ls)=0)=>lines_mi q)
 obtain⟨W1,hW1⟩:∃W1,W1=w.alloc (ivO i a cap):=⟨_,rfl⟩
 have I1:=LH (show CkI w W1 i a cap from hW1▸⟨heap_alloc_new _ _,(Chg.refl _ _).alloc _⟩)
 have HW1:=LH hW1
 clear hW1 h hZ hg1 hg2
 have k1:=blk_cell I1.out.iv
 have lt1:=lt_of_heap I1.out.iv
 unfold ivO at HW1 k1
 unfold ivV
 have hper:i.per<0∨(0≤i.per∧1073741824<i.per)∨(0≤i.per∧i.per≤1073741824):=by omega
 obtain⟨E,hE⟩:∃E,E=errs (linesE i.ls):=⟨_,rfl⟩
 rw[←hE]at HZ HLM
 have HE:=LH hE
 clear hE
 obtain⟨nb,hnb⟩:∃nb,nb=nameB i.tn:=⟨_,rfl⟩
 rw[←hnb]at A1 HZ
 obtain⟨g1,hg1⟩:∃b,b=amtB i.gr:=⟨_,rfl⟩
 obtain⟨g2,hg2⟩:∃b,b=amtB i.re:=⟨_,rfl⟩
 obtain⟨g3,hg3⟩:∃b,b=amtB i.nt:=⟨_,rfl⟩
 rw[←hg1]at M1 HZ
 rw[←hg2]at M2 HZ
 rw[←hg3]at M3 HZ
 have G1:=LH hg1
 have G2:=LH hg2
 have G3:=LH hg3
 have hln:(i.ls.length:Int)≤9223372036854775807:=by unfold maxLen at hm;omega
 clear hg1 hg2 hg3 hnb hm
 cases nb
 ·have HR:=LH (HZ.out.trans (if_pos rfl))
  go_enter Tryz.func26,Tryz.ntmps26
  go_wp2_with fail
  rw[←HW1.out]
  go_wp2_with fail
  refine(A1.out _).mono ?_;rintro e w2 ⟨rfl,hc2⟩
  have I2:=LH (I1.out.next hc2)
  clear hc2 k1
  go_wp2_with fail
  go_ret
  exact⟨by rw[HR.out];rfl,I2.out.chg⟩
 have HZ1:=LH (HZ.out.trans (if_neg (by simp)))
 rcases hper with hp1|⟨hp1,hp2⟩|⟨hp1,hp2⟩
 ·have HR:=LH (HZ1.out.trans (if_pos (.inl hp1)))
  go_enter Tryz.func26,Tryz.ntmps26
  go_wp2_with fail
  rw[←HW1.out]
  go_wp2_with fail
  refine(A1.out _).mono ?_;rintro e w2 ⟨rfl,hc2⟩
  have I2:=LH (I1.out.next hc2)
  have k2:=blk_cell I2.out.iv
  unfold ivO at k2
  clear hc2 k1
  go_wp2_with fail
  go_ret
  exact⟨by rw[HR.out];rfl,I2.out.chg⟩
 ·have HR:=LH (HZ1.out.trans (if_pos (.inr hp2)))
  go_enter Tryz.func26,Tryz.ntmps26
  go_wp2_with fail
  rw[←HW1.out]
  go_wp2_with fail
  refine(A1.out _).mono ?_;rintro e w2 ⟨rfl,hc2⟩
  have I2:=LH (I1.out.next hc2)
  have k2:=blk_cell I2.out.iv
  unfold ivO at k2
  clear hc2 k1
  go_wp2_with fail
  go_ret
  exact⟨by rw[HR.out];rfl,I2.out.chg⟩
 have HZ2:=LH (HZ1.out.trans (if_neg (by omega)))
 go_enter Tryz.func26,Tryz.ntmps26
 go_wp2_with fail
 rw[←HW1.out]
 go_wp2_with fail
 refine(A1.out _).mono ?_;rintro e w2 ⟨rfl,hc2⟩
 have I2:=LH (I1.out.next hc2)
 have k2:=blk_cell I2.out.iv
 unfold ivO at k2
 clear hc2 k1
 go_wp2_with fail
 clear k2
 go_loopw [23] (fun j wr=>∃k:Nat,j= .int .i64 k∧k≤i.ls.length∧Hid (errs ((linesE i.ls).take k)=0)∧Hid (CkI w wr i a cap)) (fun j _=>i.ls.length-(intOf j).toNat)
 case atStart=>exact⟨0,rfl,Nat.zero_le _,LH rfl,I2⟩
 case round=>
  obtain⟨k,rfl,hk,HER,HI⟩:=hrel
  have k3:=blk_cell HI.out.iv
  have lt3:=lt_of_heap HI.out.iv
  unfold ivO at k3
  by_cases hkn:k<i.ls.length
  ·have hk0:(0:Int)≤(k:Int):=by omega
   have hk1:(k:Int)<(i.ls.length:Int):=by omega
   have LL:=LH (L.out k hkn wr HI.out.chg)
   have hat:=linesE_at hkn
   obtain⟨le,hle⟩:∃le,le=lineE i.ls k:=⟨_,rfl⟩
   rw[←hle]at LL hat
   by_cases he:le=0
   ·subst he
    have HN:=LH (errs_next HER.out hat)
    clear hat hle
    go_wp2_with fail
    refine LL.out.mono ?_;rintro e w4 ⟨rfl,hc4⟩
    have I4:=LH (HI.out.next hc4)
    clear hc4 k3
    go_wp2_with fail
    exact⟨⟨k+1,by go_num,by omega,HN,I4⟩,by simp[intOf];omega⟩
   ·have HEE:=LH (HE.out.trans (errs_at HER.out hat he))
    have heb:(le !=0)=true:=by rw[bne_iff_ne];exact he
    have HR:=LH (HZ2.out.trans (if_pos (by rw[HEE.out];exact he)))
    clear hat hle
    go_wp2_with fail
    refine LL.out.mono ?_;rintro e w4 ⟨rfl,hc4⟩
    have I4:=LH (HI.out.next hc4)
    clear hc4 k3
    go_wp2_with fail
    go_ret
    exact⟨by rw[HR.out,HEE.out];rfl,I4.out.chg⟩
  ·have hke:k=i.ls.length:=by omega
   have hkn2: ¬(k:Int)<(i.ls.length:Int):=by omega
   have he0:E=0:=by
    have h1:=HER.out
    rw[hke,List.take_of_length_le (by simp[linesE])]at h1
    rw[HE.out];exact h1
   have HZ3:=LH (HZ2.out.trans (if_neg (by rw[he0];simp)))
   have HMI:=LH (HLM.out he0)
   clear he0 hke
   cases g1
   ·have HR:=LH (HZ3.out.trans (if_pos (.inl rfl)))
    go_wp2_with fail
    refine(M1.out _).mono ?_;rintro e w4 ⟨rfl,rfl⟩
    go_wp2_with fail
    go_ret
    exact⟨by rw[HR.out];rfl,HI.out.chg⟩
   cases g2
   ·have HR:=LH (HZ3.out.trans (if_pos (.inr (.inl rfl))))
    go_wp2_with (first|(go_at_call 75;(with_reducible refine(M1.out _).mono ?_);rintro e w4 ⟨rfl,rfl⟩)|(go_at_call 75;(with_reducible refine(M2.out _).mono ?_);rintro e w4 ⟨rfl,rfl⟩))
    go_ret
    exact⟨by rw[HR.out];rfl,HI.out.chg⟩
   cases g3
   ·have HR:=LH (HZ3.out.trans (if_pos (.inr (.inr rfl))))
    go_wp2_with (first|(go_at_call 75;(with_reducible refine(M1.out _).mono ?_);rintro e w4 ⟨rfl,rfl⟩)|(go_at_call 75;(with_reducible refine(M2.out _).mono ?_);rintro e w4 ⟨rfl,rfl⟩)|(go_at_call 75;(with_reducible refine(M3.out _).mono ?_);rintro e w4 ⟨rfl,rfl⟩))
    go_ret
    exact⟨by rw[HR.out];rfl,HI.out.chg⟩
   have HZ4:=LH (HZ3.out.trans (if_neg (by simp)))
   obtain⟨r1,r2⟩:=amtB_in G1.out.symm
   obtain⟨r3,r4⟩:=amtB_in G2.out.symm
   obtain⟨r5,r6⟩:=amtB_in G3.out.symm
   go_wp2_with (first|(go_at_call 75;(with_reducible refine(M1.out _).mono ?_);rintro e w4 ⟨rfl,rfl⟩)|(go_at_call 75;(with_reducible refine(M2.out _).mono ?_);rintro e w4 ⟨rfl,rfl⟩)|(go_at_call 75;(with_reducible refine(M3.out _).mono ?_);rintro e w4 ⟨rfl,rfl⟩))
   clear k3
   go_loopw [5,55] (fun lf j wr=>∃k:Nat,j= .int .i64 k∧lf= .int .i64 (i.gr-sumMi (i.ls.take k))∧k≤i.ls.length∧Hid (sumMi (i.ls.take k)≤i.gr)∧Hid (CkI w wr i a cap)) (fun _ j _=>i.ls.length-(intOf j).toNat)
   case atStart=>exact⟨0,rfl,by simp[sumMi],Nat.zero_le _,LH (by simp[sumMi];omega),HI⟩
   case round=>
    clear hkn hkn2 hk HER lt3
    rename_i I0
    obtain⟨k,rfl,rfl,hk,HS,HI⟩:=hrel
    have hs0:0≤sumMi (i.ls.take k):=sumMi_nn fun x hx=>(HMI.out x (List.mem_of_mem_take hx)).2.2.1
    have hs1:=HS.out
    have k3:=blk_cell HI.out.iv
    have lt3:=lt_of_heap HI.out.iv
    unfold ivO at k3
    by_cases hkn:k<i.ls.length
    ·obtain⟨g,o,rfl, -,hbr,hcc⟩:=H.out.elem HI.out.chg k hkn
     have d0:=hcc 0 (by omega)
     have d1:=hcc 1 (by omega)
     have d2:=hcc 2 (by omega)
     have d3:=hcc 3 (by omega)
     have d4:=hcc 4 (by omega)
     have d5:=hcc 5 (by omega)
     obtain⟨x,hx1⟩:∃x,i.ls[k]? =some x:=⟨i.ls[k],List.getElem?_eq_getElem hkn⟩
     have hxe:=(List.getElem?_eq_some_iff.1 hx1).2
     rw[hxe]at d0 d1 d2 d3 d4 d5
     have hmi:=(HMI.out x (List.mem_of_getElem? hx1)).2.2
     have HST:=LH (sumMi_take hx1)
     have HSL:=LH (sumMi_drop (l:=i.ls) (fun x hx=>(HMI.out x hx).2.2.1) (k+1))
     obtain⟨fn,⟨u1,u2,u3,u4⟩,mi⟩:=x
     simp only[lnC,List.getElem?_cons_zero,List.getElem?_cons_succ,Nat.add_zero]at d0 d1 d2 d3 d4 d5
     simp only at hmi HST
     have hk0:(0:Int)≤(k:Int):=by omega
     have hk1:(k:Int)<(i.ls.length:Int):=by omega
     have I4:=LH (HI.out.next ((Chg.refl [] wr).alloc (.cells #[.string fn, .int .i64 u1, .int .i64 u2, .int .i64 u3, .int .i64 u4, .int .i64 mi] 114)))
     generalize sumMi (i.ls.take k)=sk at*
     obtain⟨hmi0,hmi1⟩:=hmi
     clear hcc hx1 hxe
     by_cases hl:i.gr-sk<mi
     ·have HR:=LH (HZ4.out.trans (if_neg (fun q=>by have:=HSL.out;have:=HST.out;omega)))
      go_wp2_with fail
      go_ret
      exact⟨by rw[HR.out];rfl,I4.out.chg⟩
     ·have HS2:=LH (show sumMi (i.ls.take (k+1))≤i.gr by rw[HST.out];omega)
      have HV:=LH (show i.gr-sk-mi=i.gr-sumMi (i.ls.take (k+1)) by rw[HST.out];omega)
      go_wp2_with fail
      exact⟨⟨k+1,by go_num,by rw[←HV.out],by omega,HS2,I4⟩,by simp[intOf];omega⟩
    ·have hke:k=i.ls.length:=by omega
     have hkn2: ¬(k:Int)<(i.ls.length:Int):=by omega
     rw[hke,List.take_length]at hs0 hs1⊢
     have HKE:=LH hke
     clear hke HS
     generalize sumMi i.ls=sm at*
     by_cases q1:sm=i.gr
     ·have q1b:(i.gr-sm !=0)=false:=by rw[bne_eq_false_iff_eq];omega
      by_cases q2:i.re≤i.gr
      ·have q2b: ¬i.gr<i.re:=by omega
       by_cases q3:i.nt=i.gr-i.re
       ·have q3b:(i.nt !=i.gr-i.re)=false:=by rw[bne_eq_false_iff_eq];omega
        have HR:=LH (HZ4.out.trans (if_pos ⟨q1,q2,q3⟩))
        clear q1 q3
        go_wp2_with fail
        go_ret
        exact⟨by rw[HR.out];rfl,HI.out.chg⟩
       ·have q3b:(i.nt !=i.gr-i.re)=true:=by rw[bne_iff_ne];omega
        have HR:=LH (HZ4.out.trans (if_neg (fun q=>q3 q.2.2)))
        clear q1 q3
        go_wp2_with fail
        go_ret
        exact⟨by rw[HR.out];rfl,HI.out.chg⟩
      ·have q2b:i.gr<i.re:=by omega
       have HR:=LH (HZ4.out.trans (if_neg (fun q=>q2 q.2.1)))
       clear q1
       go_wp2_with fail
       go_ret
       exact⟨by rw[HR.out];rfl,HI.out.chg⟩
     ·have q1b:(i.gr-sm !=0)=true:=by rw[bne_iff_ne];omega
      have HR:=LH (HZ4.out.trans (if_neg (fun q=>q1 q.1)))
      clear q1
      go_wp2_with fail
      go_ret
      exact⟨by rw[HR.out];rfl,HI.out.chg⟩
end
section
open Go.RowKit
end
end Go.Proofs.YtmofknmeljdodaaGreatDoor
