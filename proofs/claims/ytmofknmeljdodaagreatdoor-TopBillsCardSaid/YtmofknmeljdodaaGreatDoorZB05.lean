/- Over any program with slices.SortStableFunc on ints: contract: the merge of two sorted runs. No condition but those that the statements name. -/
import Derived.Test.YtmofknmeljdodaaGreatDoorZS01
import Derived.Test.YtmofknmeljdodaaGreatDoorZB04
set_option maxHeartbeats 100000000
set_option maxRecDepth 100000
set_option linter.unusedVariables false
set_option linter.unusedSimpArgs false
open List renaming getElem_toArray→gTA,getElem_cons_zero→gCZ,getElem_cons_succ→gCS,setIfInBounds_toArray→sTA,set_cons_zero→sCZ,set_cons_succ→sCS
namespace Go.Proofs.YtmofknmeljdodaaGreatDoor
section
open Go.RowKit
variable {w w':World} {b:Nat} {l:List Int} {K:Int→Int} {x y:Int}
structure MrgIn (K:Int→Int) (L R:List Int):Prop where
 l:Srt K L
 r:Srt K R
 low:Low L R
def MrgTo (K:Int→Int) (w:World) (b:Nat) (A L R B:List Int):Prop:=∃Y:List Int,IB w b (A++Y++B)∧Y.Perm (L++R)∧Srt K Y
theorem at_l {A L R B:List Int} {a c:Nat} {x:Int} (ha:A.length=a) (h1:a≤c) (hx:L[c-a]? =some x):(A++L++R++B)[c]? =some x:=by
 have h2:=len_at hx
 rw[List.append_assoc,List.append_assoc,List.getElem?_append_right (by omega),ha,List.getElem?_append_left h2]
 exact hx
theorem at_r {A L R B:List Int} {m c:Nat} {x:Int} (hm:A.length+L.length=m) (h1:m≤c) (hx:R[c-m]? =some x):(A++L++R++B)[c]? =some x:=by
 have h2:=len_at hx
 rw[List.append_assoc,List.getElem?_append_right (by simp;omega),List.length_append,hm,List.getElem?_append_left h2]
 exact hx
theorem symm_left (A R B:List Int) (x:Int) (cap a e N M rb:Nat) (h:IB w b (A++[x]++R++B)) (ha:A.length=a) (he:a+1+R.length=e) (hN:e+B.length=N) (hM:N≤1000000) (hI:MrgIn K [x] R) (hR:InR M ([x]++R)) (hc:CmpOk w b M K rb):
 Calls Tryz.prog 271 #[.slice (some ⟨b,0,none⟩) N cap, .int .i64 a, .int .i64 (a+1:Nat), .int .i64 e, .func (.func 131) #[] #[.pointer (some ⟨rb,0,none⟩)]] w fun r w'=>r= .returned (.tuple #[])∧MrgTo K w' b A [x] R B∧Chg [b] w w':=by
 have HI:=LH h
 have HA:=LH ha
 have HE:=LH he
 have HN:=LH hN
 have HM:=LH hI
 have HR:=LH hR
 have HC:=LH hc
 have he1:a+1≤e:=by omega
 have hN1:e≤N:=by omega
 have hz:((a+1:Nat):Int)-a=1:=by omega
 obtain⟨m,hm⟩:∃m,m=a+1:=⟨_,rfl⟩
 rw[←hm]at hz he1⊢
 have EM:=LH hm
 clear h ha he hN hI hR hc hm
 go_enter Tryz.func271,Tryz.ntmps271
 go_wp2_with fail
 go_loopw [10,11] (fun iv jv wr=>∃I J:Nat,iv= .int .i64 I∧jv= .int .i64 J∧m≤I∧I≤J∧J≤e∧Hid ((I=m∨Prec K (R.getD (I-1-m) 0) x)∧(J=e∨Prec K x (R.getD (J-m) 0)))∧Hid (Chg [] w wr)) (fun iv jv _=>(intOf jv).toNat-(intOf iv).toNat)
 case atStart=>exact⟨m,e,rfl,rfl,by omega,by omega,by omega,LH ⟨Or.inl rfl,Or.inl rfl⟩,LH (Chg.refl _ _)⟩
 case round=>
  obtain⟨I,J,rfl,rfl,hI1,hI2,hI3,HB,HC1⟩:=hrel
  by_cases hlt:I<J
  ·obtain⟨h,eh⟩:∃h,h=(I+J)/2:=⟨_,rfl⟩
   have hh1:I≤h:=by omega
   have hh2:h<J:=by omega
   obtain⟨y,hy⟩:∃y,R[h-m]? =some y:=⟨R[h-m]'(by have:=HE.out;have:=EM.out;omega),List.getElem?_eq_getElem _⟩
   have EH:=LH (show((I:Int)+J)/2=(h:Int) by omega)
   have HY:=LH hy
   have hxy:=HM.out.low x (by simp) y (List.mem_of_getElem? hy)
   have hx0:=HR.out x (by simp)
   have hy0:=HR.out y (by simp[List.mem_of_getElem? hy])
   have I1:=HI.out.keep HC1.out (by simp)
   have zy:=at_r (A:=A) (L:=[x]) (B:=B) (m:=m) (c:=h) (by have:=EM.out;have:=HA.out;simp;omega) (by omega) hy
   have zx:=at_l (A:=A) (L:=[x]) (R:=R) (B:=B) (c:=a) HA.out (Nat.le_refl _) (x:=x) (by simp)
   have lb:=I1.lt
   have q1:=fun d os=>((below_regrown wr d os).cell (p:=⟨b,h,none⟩) lb).trans (I1.cell zy)
   have q2:=fun d os=>((below_regrown wr d os).cell (p:=⟨b,a,none⟩) lb).trans (I1.cell zx)
   have B8:=LH (show ∀d os,Calls Tryz.prog 131 #[.int .i64 y, .int .i64 x, .pointer (some ⟨rb,0,none⟩)] (Go.Sort.grow (redrawn wr d) os) fun e w''=>e= .returned (.int .i64 (cmpZ (K x) (K y)))∧∃p:Regrown,w''=Go.Sort.grow (redrawn wr p.d) p.os from
    fun d os=>calls_regrown (HC.out y x _ hy0.1 hy0.2 hx0.1 hx0.2 ((HC1.out.thenSame (chg_regrown wr d os)).mono (by simp))))
   have hcz:=cmpZ_neg (u:=K x) (v:=K y)
   have hpr:=prec_lt (K:=K) hxy
   have hpn:=prec_nlt (K:=K) hxy
   have g1:(h:Int)<(N:Int):=by omega
   have g2:(a:Int)<(N:Int):=by have:=EM.out;omega
   have g3:(0:Int)≤(h:Int):=by omega
   have hlt2:(I:Int)<(J:Int):=by omega
   generalize cmpZ (K x) (K y)=r at*
   clear hy zy zx I1 eh hx0 hy0 hxy
   have HD:=LH (show R.getD (h-m) 0=y by rw[List.getD_eq_getElem?_getD,HY.out];rfl)
   by_cases ht:K x<K y
   ·have hr:r<0:=hcz.2 ht
    have HP:=LH (hpr.2 ht)
    clear hcz hpr hpn ht
    go_wp2_with fail
    rw[EH.out]
    refine wp_region_quiet_below (by kernel_rfl) (by kernel_rfl) ?_
    repeat (any_goals (first|go_big_quiet_step (exact B8.out _ _)|quiet_step (exact B8.out _ _)))
    refine wpQuiet_nil ?_
    intro _ hw'
    obtain⟨⟨dq,osq⟩,hw''⟩:=hw'
    subst hw''
    change Exit.then _ _ Exit.normal _ (Go.Sort.grow (redrawn wr dq) osq)
    have K2:=LH (HC1.out.thenSame (chg_regrown wr dq osq))
    generalize Go.Sort.grow (redrawn wr dq) osq=W2 at*
    clear q1 q2 B8
    go_wp2_with fail
    exact⟨⟨h+1,J,by go_num,rfl,by omega,by omega,by omega,LH ⟨Or.inr (by rw[show h+1-1-m=h-m by omega,HD.out];exact HP.out),HB.out.2⟩,K2⟩,by simp[intOf];omega⟩
   ·have hr: ¬r<0:=fun h=>ht (hcz.1 h)
    have HP:=LH (hpn.1 ht)
    clear hcz hpr hpn ht
    go_wp2_with fail
    rw[EH.out]
    refine wp_region_quiet_below (by kernel_rfl) (by kernel_rfl) ?_
    repeat (any_goals (first|go_big_quiet_step (exact B8.out _ _)|quiet_step (exact B8.out _ _)))
    refine wpQuiet_nil ?_
    intro _ hw'
    obtain⟨⟨dq,osq⟩,hw''⟩:=hw'
    subst hw''
    change Exit.then _ _ Exit.normal _ (Go.Sort.grow (redrawn wr dq) osq)
    have K2:=LH (HC1.out.thenSame (chg_regrown wr dq osq))
    generalize Go.Sort.grow (redrawn wr dq) osq=W2 at*
    clear q1 q2 B8
    go_wp2_with fail
    exact⟨⟨I,h,rfl,rfl,by omega,by omega,by omega,LH ⟨HB.out.1,Or.inr (by rw[HD.out];exact HP.out)⟩,K2⟩,by simp[intOf];omega⟩
  ·have hIJ:I=J:=by omega
   subst hIJ
   obtain⟨p,hp⟩:∃p,I=m+p:=⟨I-m,by omega⟩
   have HB2:=LH (show Srt K (R.take p++x::R.drop p)from by
    obtain⟨b1,b2⟩:=HB.out
    refine one_into HM.out.r (by have:=HE.out;have:=EM.out;omega) ?_ ?_
    ·rcases b1 with b1|b1
     ·exact Or.inl (by omega)
     ·rw[show I-1-m=p-1 by omega]at b1;exact Or.inr b1
    ·rcases b2 with b2|b2
     ·exact Or.inl (by have:=HE.out;have:=EM.out;omega)
     ·rw[show I-m=p by omega]at b2;exact Or.inr b2)
   have HPL:=LH (show p≤R.length by have:=HE.out;have:=EM.out;omega)
   have H0:=LH (show IB wr b (A++R.take (a-a)++x::(R.drop (a-a)++B))from by have:=HI.out.keep HC1.out (by simp);rw[Nat.sub_self];simpa using this)
   obtain⟨t,ht⟩:∃t,t=a+p:=⟨_,rfl⟩
   have hz2:(t:Int)=(I:Int)-1:=by have:=EM.out;omega
   have hz3:t+1≤N:=by have:=EM.out;omega
   have hz4:a≤t:=by omega
   have HT:=LH ht
   have HC2:=LH (show Chg [b] w wr from HC1.out.mono (by simp))
   have hI4:I≤N:=by omega
   have hI5:1≤I:=by omega
   clear HC1 HB hz hp ht hI1 hI2 hI3 hlt
   go_wp2_with fail
   go_loopw [13] (fun kv wr=>∃q:Nat,kv= .int .i64 q∧a≤q∧q≤t∧Hid (IB wr b (A++R.take (q-a)++x::(R.drop (q-a)++B)))∧Hid (Chg [b] w wr)) (fun kv _=>t-(intOf kv).toNat)
   case atStart=>exact⟨a,rfl,by omega,hz4,H0,HC2⟩
   case round=>
    obtain⟨q,rfl,hq1,hq2,H1,HC3⟩:=hrel
    by_cases hkp:q<t
    ·obtain⟨y,hy⟩:∃y,R[q-a]? =some y:=⟨R[q-a]'(by have:=HT.out;have:=HPL.out;omega),List.getElem?_eq_getElem _⟩
     obtain⟨s,es⟩:∃s,s=q+1:=⟨_,rfl⟩
     have i1:=H1.out
     have hq3:(A++R.take (q-a)).length=q:=by have:=HA.out;have:=len_at hy;simp;omega
     rw[drop_at hy,List.cons_append]at i1
     have zx:(A++R.take (q-a)++x::y::(R.drop (q-a+1)++B))[q]? =some x:=by rw[List.getElem?_append_right (by omega),hq3];simp
     have zy:(A++R.take (q-a)++x::y::(R.drop (q-a+1)++B))[s]? =some y:=by rw[List.getElem?_append_right (by omega),hq3,es];simp
     have c1:=i1.cell zx
     have c2:=i1.cell zy
     have c3:=i1.set_cell (i:=q) zy
     have lb:=i1.lt
     have fz:=blk_free i1
     have HZ:=LH (show IB ((wr.setCell ⟨b,q,none⟩ (.int .i64 y)).setCell ⟨b,s,none⟩ (.int .i64 x)).drew b (A++R.take (s-a)++x::(R.drop (s-a)++B))from by
      have h1:=(i1.swp zx zy).keep (Chg.refl [] _).drew (by simp)
      rw[es,swp_next _ _ _ _ hq3]at h1
      rw[es,show q+1-a=q-a+1 by omega,take_at hy]
      simpa using h1)
     have HC4:=LH (show Chg [b] w ((wr.setCell ⟨b,q,none⟩ (.int .i64 y)).setCell ⟨b,s,none⟩ (.int .i64 x)).drew from((HC3.out.setCell _ _ (by simp)).setCell _ _ (by simp)).drew)
     have z1:IntKind.i64.wrap ((q:Int)+1)=(s:Int):=by rw[wrapI (by omega) (by omega)];omega
     have g1:(q:Int)<(N:Int):=by omega
     have g2:(s:Int)<(N:Int):=by omega
     have g3:(0:Int)≤(q:Int):=by omega
     have g4:(0:Int)≤(s:Int):=by omega
     have g5:(q:Int)<(I:Int)-1:=by omega
     have ES:=LH es
     clear i1 hq3 zx zy hy es hz2
     go_wp2_with fail
     go_region_law (fail)
     all_goals
      go_wp2_with fail
      exact⟨⟨s,by rw[ES.out],by have:=ES.out;omega,by have:=ES.out;omega,HZ,HC4⟩,by have:=ES.out;simp[intOf];omega⟩
    ·have hke:q=t:=by omega
     have g5: ¬(q:Int)<(I:Int)-1:=by omega
     clear hq1 hq2 hkp
     have HF:=LH (show MrgTo K wr b A [x] R B from⟨_,by have:=H1.out;rw[hke,HT.out,Nat.add_sub_cancel_left]at this;rw[←List.append_assoc];simpa using this,perm_into p,HB2.out⟩)
     clear hke hz2
     go_wp2_with fail
     refine bodyPost_ret (v:= .tuple #[]) (results_none rfl _ _ _) rfl ?_
     exact⟨rfl,HF.out,HC3.out⟩
end
section
open Go.RowKit
variable {w w':World} {b:Nat} {l:List Int} {K:Int→Int} {x y:Int}
theorem symm_right (A L B:List Int) (x:Int) (cap a m N M rb:Nat) (h:IB w b (A++L++[x]++B)) (ha:A.length=a) (hm:a+L.length=m) (hN:m+1+B.length=N) (hM:N≤1000000) (hL:2≤L.length) (hI:MrgIn K L [x]) (hR:InR M (L++[x])) (hc:CmpOk w b M K rb):
 Calls Tryz.prog 271 #[.slice (some ⟨b,0,none⟩) N cap, .int .i64 a, .int .i64 m, .int .i64 (m+1:Nat), .func (.func 131) #[] #[.pointer (some ⟨rb,0,none⟩)]] w fun r w'=>r= .returned (.tuple #[])∧MrgTo K w' b A L [x] B∧Chg [b] w w':=by
 have HI:=LH h
 have HA:=LH ha
 have HE:=LH hm
 have HN:=LH hN
 have HM:=LH hI
 have HR:=LH hR
 have HC:=LH hc
 have hm1:a+2≤m:=by omega
 have hN1:m+1≤N:=by omega
 have hz0:((m:Int)-a==1)=false:=by rw[beq_eq_false_iff_ne];omega
 have hz:((m+1:Nat):Int)-m=1:=by omega
 obtain⟨e,he⟩:∃e,e=m+1:=⟨_,rfl⟩
 rw[←he]at hz⊢
 have EM:=LH he
 have he2:e≤N:=by omega
 have hme:m≤e:=by omega
 clear h ha hm hN hI hR hc he hL
 go_enter Tryz.func271,Tryz.ntmps271
 go_wp2_with fail
 go_loopw [14,15] (fun iv jv wr=>∃I J:Nat,iv= .int .i64 I∧jv= .int .i64 J∧a≤I∧I≤J∧J≤m∧Hid ((I=a∨Prec K (L.getD (I-1-a) 0) x)∧(J=m∨Prec K x (L.getD (J-a) 0)))∧Hid (Chg [] w wr)) (fun iv jv _=>(intOf jv).toNat-(intOf iv).toNat)
 case atStart=>exact⟨a,m,rfl,rfl,by omega,by omega,by omega,LH ⟨Or.inl rfl,Or.inl rfl⟩,LH (Chg.refl _ _)⟩
 case round=>
  obtain⟨I,J,rfl,rfl,hI1,hI2,hI3,HB,HC1⟩:=hrel
  by_cases hlt:I<J
  ·obtain⟨h,eh⟩:∃h,h=(I+J)/2:=⟨_,rfl⟩
   have hh1:I≤h:=by omega
   have hh2:h<J:=by omega
   obtain⟨y,hy⟩:∃y,L[h-a]? =some y:=⟨L[h-a]'(by have:=HE.out;omega),List.getElem?_eq_getElem _⟩
   have EH:=LH (show((I:Int)+J)/2=(h:Int) by omega)
   have HY:=LH hy
   have hxy:=HM.out.low y (List.mem_of_getElem? hy) x (by simp)
   have hx0:=HR.out x (by simp)
   have hy0:=HR.out y (by simp[List.mem_of_getElem? hy])
   have I1:=HI.out.keep HC1.out (by simp)
   have zy:=at_l (A:=A) (R:=[x]) (B:=B) (c:=h) HA.out (by omega) hy
   have zx:=at_r (A:=A) (L:=L) (R:=[x]) (B:=B) (m:=m) (c:=m) (by have:=HE.out;have:=HA.out;omega) (Nat.le_refl _) (x:=x) (by simp)
   have lb:=I1.lt
   have q1:=fun d os=>((below_regrown wr d os).cell (p:=⟨b,h,none⟩) lb).trans (I1.cell zy)
   have q2:=fun d os=>((below_regrown wr d os).cell (p:=⟨b,m,none⟩) lb).trans (I1.cell zx)
   have B8:=LH (show ∀d os,Calls Tryz.prog 131 #[.int .i64 x, .int .i64 y, .pointer (some ⟨rb,0,none⟩)] (Go.Sort.grow (redrawn wr d) os) fun e w''=>e= .returned (.int .i64 (cmpZ (K y) (K x)))∧∃p:Regrown,w''=Go.Sort.grow (redrawn wr p.d) p.os from
    fun d os=>calls_regrown (HC.out x y _ hx0.1 hx0.2 hy0.1 hy0.2 ((HC1.out.thenSame (chg_regrown wr d os)).mono (by simp))))
   have hcz:=cmpZ_neg (u:=K y) (v:=K x)
   have hpr:=prec_lt (K:=K) hxy
   have hpn:=prec_nlt (K:=K) hxy
   have g1:(h:Int)<(N:Int):=by omega
   have g2:(m:Int)<(N:Int):=by omega
   have g3:(0:Int)≤(h:Int):=by omega
   have hlt2:(I:Int)<(J:Int):=by omega
   generalize cmpZ (K y) (K x)=r at*
   clear hy zy zx I1 eh hx0 hy0 hxy
   have HD:=LH (show L.getD (h-a) 0=y by rw[List.getD_eq_getElem?_getD,HY.out];rfl)
   by_cases ht:K y<K x
   ·have hr:r<0:=hcz.2 ht
    have HP:=LH (hpr.2 ht)
    clear hcz hpr hpn ht
    go_wp2_with fail
    rw[EH.out]
    refine wp_region_quiet_below (by kernel_rfl) (by kernel_rfl) ?_
    repeat (any_goals (first|go_big_quiet_step (exact B8.out _ _)|quiet_step (exact B8.out _ _)))
    refine wpQuiet_nil ?_
    intro _ hw'
    obtain⟨⟨dq,osq⟩,hw''⟩:=hw'
    subst hw''
    change Exit.then _ _ Exit.normal _ (Go.Sort.grow (redrawn wr dq) osq)
    have K2:=LH (HC1.out.thenSame (chg_regrown wr dq osq))
    generalize Go.Sort.grow (redrawn wr dq) osq=W2 at*
    clear q1 q2 B8
    go_wp2_with fail
    exact⟨⟨I,h,rfl,rfl,by omega,by omega,by omega,LH ⟨HB.out.1,Or.inr (by rw[HD.out];exact HP.out)⟩,K2⟩,by simp[intOf];omega⟩
   ·have hr:decide (r<0)=false:=decide_eq_false fun h=>ht (hcz.1 h)
    have HP:=LH (hpn.1 ht)
    clear hcz hpr hpn ht
    go_wp2_with fail
    rw[EH.out]
    refine wp_region_quiet_below (by kernel_rfl) (by kernel_rfl) ?_
    repeat (any_goals (first|go_big_quiet_step (exact B8.out _ _)|quiet_step (exact B8.out _ _)))
    refine wpQuiet_nil ?_
    intro _ hw'
    obtain⟨⟨dq,osq⟩,hw''⟩:=hw'
    subst hw''
    change Exit.then _ _ Exit.normal _ (Go.Sort.grow (redrawn wr dq) osq)
    have K2:=LH (HC1.out.thenSame (chg_regrown wr dq osq))
    generalize Go.Sort.grow (redrawn wr dq) osq=W2 at*
    clear q1 q2 B8
    go_wp2_with fail
    exact⟨⟨h+1,J,by go_num,rfl,by omega,by omega,by omega,LH ⟨Or.inr (by rw[show h+1-1-a=h-a by omega,HD.out];exact HP.out),HB.out.2⟩,K2⟩,by simp[intOf];omega⟩
  ·have hIJ:I=J:=by omega
   subst hIJ
   obtain⟨p,hp⟩:∃p,I=a+p:=⟨I-a,by omega⟩
   have HB2:=LH (show Srt K (L.take p++x::L.drop p)from by
    obtain⟨b1,b2⟩:=HB.out
    refine one_into HM.out.l (by have:=HE.out;omega) ?_ ?_
    ·rcases b1 with b1|b1
     ·exact Or.inl (by omega)
     ·rw[show I-1-a=p-1 by omega]at b1;exact Or.inr b1
    ·rcases b2 with b2|b2
     ·exact Or.inl (by have:=HE.out;omega)
     ·rw[show I-a=p by omega]at b2;exact Or.inr b2)
   have HT:=LH hp
   have H0:=LH (show IB wr b (A++L.take (m-a)++x::(L.drop (m-a)++B))from by
    have:=HI.out.keep HC1.out (by simp)
    have hl:L.length=m-a:=by have:=HE.out;omega
    rw[List.take_of_length_le (by omega),List.drop_of_length_le (by omega)];simpa using this)
   have HC2:=LH (show Chg [b] w wr from HC1.out.mono (by simp))
   have hI4:I≤m:=by omega
   clear HC1 HB hz hp hI2 hI3 hlt
   go_wp2_with fail
   go_loopw [17] (fun kv wr=>∃q:Nat,kv= .int .i64 q∧I≤q∧q≤m∧Hid (IB wr b (A++L.take (q-a)++x::(L.drop (q-a)++B)))∧Hid (Chg [b] w wr)) (fun kv _=>(intOf kv).toNat)
   case atStart=>exact⟨m,rfl,hI4,Nat.le_refl _,H0,HC2⟩
   case round=>
    obtain⟨q,rfl,hq1,hq2,H1,HC3⟩:=hrel
    by_cases hkp:I<q
    ·obtain⟨s,es⟩:∃s,q=s+1:=⟨q-1,by omega⟩
     obtain⟨y,hy⟩:∃y,L[s-a]? =some y:=⟨L[s-a]'(by have:=HE.out;omega),List.getElem?_eq_getElem _⟩
     have i1:=H1.out
     have hq3:(A++L.take (s-a)).length=s:=by have:=HA.out;have:=len_at hy;simp;omega
     rw[es,show s+1-a=s-a+1 by omega,take_at hy]at i1
     have e0:A++(L.take (s-a)++[y])++x::(L.drop (s-a+1)++B)=(A++L.take (s-a))++y::x::(L.drop (s-a+1)++B):=by simp
     rw[e0]at i1
     have zy:(A++L.take (s-a)++y::x::(L.drop (s-a+1)++B))[s]? =some y:=by rw[List.getElem?_append_right (by omega),hq3];simp
     have zx:(A++L.take (s-a)++y::x::(L.drop (s-a+1)++B))[q]? =some x:=by rw[List.getElem?_append_right (by omega),hq3,es];simp
     have c1:=i1.cell zx
     have c2:=i1.cell zy
     have c3:=i1.set_cell (i:=q) zy
     have lb:=i1.lt
     have fz:=blk_free i1
     have HZ:=LH (show IB ((wr.setCell ⟨b,q,none⟩ (.int .i64 y)).setCell ⟨b,s,none⟩ (.int .i64 x)).drew b (A++L.take (s-a)++x::(L.drop (s-a)++B))from by
      have h1:=(i1.swp zx zy).keep (Chg.refl [] _).drew (by simp)
      rw[es,swp_prev _ _ _ _ hq3]at h1
      rw[es,drop_at hy]
      simpa using h1)
     have HC4:=LH (show Chg [b] w ((wr.setCell ⟨b,q,none⟩ (.int .i64 y)).setCell ⟨b,s,none⟩ (.int .i64 x)).drew from((HC3.out.setCell _ _ (by simp)).setCell _ _ (by simp)).drew)
     have z1:IntKind.i64.wrap ((q:Int)-1)=(s:Int):=by rw[wrapI (by omega) (by omega)];omega
     have g1:(q:Int)<(N:Int):=by omega
     have g2:(s:Int)<(N:Int):=by omega
     have g3:(0:Int)≤(q:Int):=by omega
     have g4:(0:Int)≤(s:Int):=by omega
     have g5:(I:Int)<(q:Int):=by omega
     have ES:=LH es
     clear i1 hq3 zx zy hy es e0
     go_wp2_with fail
     go_region_law (fail)
     all_goals
      go_wp2_with fail
      exact⟨⟨s,rfl,by have:=ES.out;omega,by have:=ES.out;omega,HZ,HC4⟩,by have:=ES.out;simp[intOf];omega⟩
    ·have hke:q=I:=by omega
     have g5: ¬(I:Int)<(q:Int):=by omega
     have HF:=LH (show MrgTo K wr b A L [x] B from⟨_,by have:=H1.out;rw[hke,HT.out,Nat.add_sub_cancel_left]at this;rw[←List.append_assoc];simpa using this,(perm_into p).trans (List.perm_append_comm (l₁:=[x])),HB2.out⟩)
     clear hke hq1 hq2 hkp
     go_wp2_with fail
     refine bodyPost_ret (v:= .tuple #[]) (results_none rfl _ _ _) rfl ?_
     exact⟨rfl,HF.out,HC3.out⟩
end
end Go.Proofs.YtmofknmeljdodaaGreatDoor
