/- Plain: the school division that bits.Div64 does. No condition but those that the statements name. -/
import Derived.Deep.RegionLaw
import Derived.Lib.ItoaNum
import Derived.Test.YtmofknmeljdodaaGreatDoorZS01
import Derived.Test.YtmofknmeljdodaaGreatDoorZS05
import Derived.Test.YtmofknmeljdodaaGreatDoorZS02
set_option maxHeartbeats 100000000
set_option maxRecDepth 100000
set_option linter.unusedVariables false
set_option linter.unusedSimpArgs false
open List renaming getElem_toArray→gTA,getElem_cons_zero→gCZ,getElem_cons_succ→gCS,setIfInBounds_toArray→sTA,set_cons_zero→sCZ,set_cons_succ→sCS
namespace Go.Proofs.YtmofknmeljdodaaGreatDoor
section
open Go.RowKit
def Tri (U u a b q r:Nat):Prop:=q*a+r=U∧(U*4294967296+u)/(a*4294967296+b)≤q
variable {U u a b q r:Nat}
theorem tri_mul (h:q*a+r=U):q*(a*4294967296+b)+r*4294967296=U*4294967296+q*b:=by
 subst h
 rw[Nat.mul_add,←Nat.mul_assoc,Nat.add_mul]
 omega
theorem tri_start (ha:0<a) (hu:u<4294967296):Tri U u a b (U/a) (U%a):=by
 refine⟨by rw[Nat.mul_comm];exact Nat.div_add_mod U a, ?_⟩
 rw[Nat.le_div_iff_mul_le ha]
 have h1:(U*4294967296+u)/(a*4294967296+b)≤(U*4294967296+u)/(a*4294967296):=Nat.div_le_div_left (by omega) (by omega)
 have h2:(U*4294967296+u)/(a*4294967296)=U/a:=by
  rw[Nat.mul_comm a,←Nat.div_div_eq_div_mul]
  congr 1;omega
 rw[h2]at h1
 exact Nat.le_trans (Nat.mul_le_mul_right a h1) (Nat.div_mul_le_self U a)
theorem tri_lt (hU:U<a*4294967296+b) (hu:u<4294967296):(U*4294967296+u)/(a*4294967296+b)<4294967296:=by
 rw[Nat.div_lt_iff_lt_mul (by omega)];omega
theorem tri_down (h:Tri U u a b q r) (hU:U<a*4294967296+b) (hu:u<4294967296) (ht:4294967296≤q∨4294967296*r+u<q*b):0<q∧Tri U u a b (q-1) (r+a):=by
 obtain⟨h1,h2⟩:=h
 have hlt:(U*4294967296+u)/(a*4294967296+b)<q:=by
  rcases ht with ht|ht
  ·exact Nat.lt_of_lt_of_le (tri_lt hU hu) ht
  ·rw[Nat.div_lt_iff_lt_mul (by omega)]
   have:=tri_mul (b:=b) h1
   generalize q*(a*4294967296+b)=Z at*
   omega
 have hq:0<q:=Nat.lt_of_le_of_lt (Nat.zero_le _) hlt
 refine⟨hq, ?_,Nat.le_sub_one_of_lt hlt⟩
 obtain⟨p,rfl⟩:∃p,q=p+1:=⟨q-1,by omega⟩
 rw[Nat.add_sub_cancel]
 rw[Nat.add_mul]at h1
 omega
theorem tri_end (h:Tri U u a b q r) (hY:0<a*4294967296+b) (ht:q*b≤4294967296*r+u):q=(U*4294967296+u)/(a*4294967296+b):=by
 obtain⟨h1,h2⟩:=h
 refine Nat.le_antisymm ?_ h2
 rw[Nat.le_div_iff_mul_le hY]
 have:=tri_mul (b:=b) h1
 omega
theorem tri_break (h:Tri U u a b q r) (hY:0<a*4294967296+b) (hq:q≤4294967296) (hb:b<4294967296) (hr:4294967296≤r):q=(U*4294967296+u)/(a*4294967296+b):=by
 refine tri_end h hY ?_
 have:=Nat.mul_le_mul hq (show b≤4294967295 by omega)
 omega
theorem tri_top (ha:2147483648≤a) (hb:b<4294967296) (hU:U<a*4294967296+b):U/a≤4294967297:=by
 have:U/a<4294967298:=by rw[Nat.div_lt_iff_lt_mul (by omega)];omega
 omega
theorem tri_rest (h:q=(U*4294967296+u)/(a*4294967296+b)):U*4294967296+u=q*(a*4294967296+b)+(U*4294967296+u)%(a*4294967296+b):=by
 subst h;exact(Nat.div_add_mod' _ _).symm
theorem div_two {N Y q1 r1:Nat} (hN:N/18446744073709551616*4294967296+N%18446744073709551616/4294967296=q1*Y+r1) (hr:r1<Y):N/Y=q1*4294967296+(r1*4294967296+N%4294967296)/Y:=by
 have e:N=(q1*Y+r1)*4294967296+N%4294967296:=by rw[←hN];omega
 have e2:(q1*Y+r1)*4294967296+N%4294967296=Y*(q1*4294967296)+(r1*4294967296+N%4294967296):=by
  rw[Nat.add_mul,Nat.mul_right_comm,Nat.mul_comm (q1*4294967296) Y];omega
 conv=>lhs;rw[e,e2]
 rw[Nat.mul_add_div (by omega)]
theorem div_shift (hi lo y s:Nat) (_hy:0<y):((hi*18446744073709551616+lo)*2^s)/(y*2^s)=(hi*18446744073709551616+lo)/y:=Nat.mul_div_mul_right _ _ (Nat.two_pow_pos s)
theorem shift_words {hi lo s:Nat} (hs:s≤64) (hl:lo<18446744073709551616):
 (hi*18446744073709551616+lo)*2^s/18446744073709551616=hi*2^s+lo/2^(64-s)∧(hi*18446744073709551616+lo)*2^s%18446744073709551616=lo*2^s%18446744073709551616∧lo/2^(64-s)<2^s:=by
 have e:(hi*18446744073709551616+lo)*2^s=18446744073709551616*(hi*2^s)+lo*2^s:=by
  rw[Nat.add_mul,Nat.mul_right_comm,Nat.mul_comm (hi*2^s)]
 have ep:(18446744073709551616:Nat)=2^(64-s)*2^s:=by rw[←Nat.pow_add,Nat.sub_add_cancel hs]
 have e2:lo*2^s/18446744073709551616=lo/2^(64-s):=by
  rw[ep,Nat.mul_div_mul_right _ _ (Nat.two_pow_pos s)]
 refine⟨?_, ?_, ?_⟩
 ·rw[e,Nat.mul_add_div (by decide),e2]
 ·rw[e,Nat.mul_add_mod]
 ·rw[Nat.div_lt_iff_lt_mul (Nat.two_pow_pos _),Nat.mul_comm,←ep];exact hl
theorem or_add {x y s:Nat} (h:y<2^s):(x*2^s)|||y=x*2^s+y:=by
 rw[←Nat.shiftLeft_eq,Nat.shiftLeft_add_eq_or_of_lt h]
end
section
open Go.RowKit
theorem lz_any (y:Nat) (hy:y<18446744073709551616) (w:World):Calls Tryz.prog 257 #[.int .u64 y] w fun e w'=>e= .returned (.int .i64 (64-Lib.bitLen y))∧w=w':=by
 have A:=LH (Tryz.bits_Len64 y w (by omega) (by omega))
 rw[Int.toNat_natCast]at A
 have hb:Lib.bitLen y≤64:=Lib.bitLen_le y 64 (Nat.le_refl _) (by omega)
 generalize Lib.bitLen y=k at*
 go_enter Tryz.func257,Tryz.ntmps257
 go_wp2_with fail
 refine A.out.mono ?_;rintro e w1 ⟨rfl,rfl⟩
 go_wp2_with fail
 go_ret
 exact⟨rfl,rfl⟩
theorem u64_in {a:Int} (h0:0≤a) (h1:a<18446744073709551616):IntKind.u64.wrap a=a:=by rw[IntKind.wrap_u64];omega
theorem norm_y {y s:Nat} (h2:y<18446744073709551616) (hy:y≠0) (hs:s=64-Lib.bitLen y):s≤64∧9223372036854775808≤y*2^s∧y*2^s<18446744073709551616:=by
 obtain⟨q1,q2,q3⟩:=Lib.bitLenAux_bounds 64 y (by omega) hy
 have hb:Lib.bitLen y≤64:=Lib.bitLen_le y 64 (Nat.le_refl _) (by omega)
 change 1≤Lib.bitLen y at q1
 change 2^(Lib.bitLen y-1)≤y at q2
 change y<2^Lib.bitLen y at q3
 generalize Lib.bitLen y=k at*
 subst hs
 refine⟨by omega, ?_, ?_⟩
 ·have:=Nat.mul_le_mul_right (2^(64-k)) q2
  rw[←Nat.pow_add,show k-1+(64-k)=63 by omega]at this
  exact this
 ·have:=Nat.mul_lt_mul_of_pos_right q3 (Nat.two_pow_pos (64-k))
  rw[←Nat.pow_add,show k+(64-k)=64 by omega]at this
  exact this
theorem div64_low (lo y:Nat) (h1:0<y) (h2:y<18446744073709551616) (h3:lo<18446744073709551616) (w:World):Calls Tryz.prog 198 #[.int .u64 0, .int .u64 lo, .int .u64 y] w fun e w'=>(∃r:Int,e= .returned (.tuple #[.int .u64 (lo/y:Nat), .int .u64 r]))∧Chg [] w w':=by
 have hy0:(y:Int)≠0:=by omega
 have hy1:((y:Int)==0)=false:=by rw[beq_eq_false_iff_ne];omega
 have hy2: ¬(y:Int)≤0:=by omega
 have hq:lo/y<18446744073709551616:=Nat.lt_of_le_of_lt (Nat.div_le_self _ _) h3
 have EQ:=LH (show IntKind.u64.wrap ((lo:Int)/(y:Int))=((lo/y:Nat):Int) by rw[←Int.natCast_ediv];generalize lo/y=q at*;exact u64_in (by omega) (by omega))
 go_enter Tryz.func198,Tryz.ntmps198
 go_wp2_with fail
 go_quiet (fail)
 go_wp2_with fail
 rw[EQ.out]
 go_ret2
 exact⟨⟨_,rfl⟩,(Chg.refl _ _).drewN _⟩
theorem div64_high (hi lo y:Nat) (h0:hi≠0) (h1:hi<y) (h2:y<18446744073709551616) (h3:lo<18446744073709551616) (w:World):Calls Tryz.prog 198 #[.int .u64 hi, .int .u64 lo, .int .u64 y] w fun e w'=>(∃r:Int,e= .returned (.tuple #[.int .u64 ((hi*18446744073709551616+lo)/y:Nat), .int .u64 r]))∧Chg [] w w':=by
 have A:=LH (lz_any y h2)
 have hy1:((y:Int)==0)=false:=by rw[beq_eq_false_iff_ne];omega
 have hy2: ¬(y:Int)≤(hi:Int):=by omega
 have hh1:((hi:Int)==0)=false:=by rw[beq_eq_false_iff_ne];omega
 obtain⟨s,hs⟩:∃s,s=64-Lib.bitLen y:=⟨_,rfl⟩
 obtain⟨n1,n2,n3⟩:=norm_y h2 (by omega) hs
 have hb:Lib.bitLen y≤64:=Lib.bitLen_le y 64 (Nat.le_refl _) (by omega)
 have e1:((64:Int)-Lib.bitLen y)=(s:Int):=by omega
 rw[e1]at A
 obtain⟨Y,hY⟩:∃Y,Y=y*2^s:=⟨_,rfl⟩
 obtain⟨NN,hNN⟩:∃NN,NN=(hi*18446744073709551616+lo)*2^s:=⟨_,rfl⟩
 obtain⟨w1,w2,w3⟩:=shift_words (hi:=hi) n1 h3
 have hdiv:=div_shift hi lo y s (by omega)
 rw[←hY,←hNN]at hdiv
 rw[←hNN]at w1 w2
 rw[←hY]at n2 n3
 obtain⟨a,ha⟩:∃a,a=Y/4294967296:=⟨_,rfl⟩
 obtain⟨b,hb⟩:∃b,b=Y%4294967296:=⟨_,rfl⟩
 obtain⟨U,hU⟩:∃U,U=NN/18446744073709551616:=⟨_,rfl⟩
 obtain⟨t,ht⟩:∃t,t=NN%18446744073709551616:=⟨_,rfl⟩
 obtain⟨u1,hu1⟩:∃u1,u1=t/4294967296:=⟨_,rfl⟩
 obtain⟨u0,hu0⟩:∃u0,u0=t%4294967296:=⟨_,rfl⟩
 have hYab:Y=a*4294967296+b:=by omega
 have hUY:U<Y:=by
  rw[hU,Nat.div_lt_iff_lt_mul (by decide),hNN,hY,Nat.mul_right_comm y]
  refine Nat.mul_lt_mul_of_pos_right ?_ (Nat.two_pow_pos s)
  omega
 have E1:=LH (show IntKind.u64.wrap ((y:Int)*2^s)=(Y:Int) by
  have:((y:Int)*2^s)=(Y:Int):=by rw[hY,Int.natCast_mul,Int.natCast_pow];rfl
  rw[this];exact u64_in (by omega) (by omega))
 have E2:=LH (show(Y:Int)/4294967296=(a:Int) by omega)
 have E3:=LH (show bits BinOp.and IntKind.u64 (Y:Int) 4294967295=(b:Int) by rw[Mul64.maskN Y n3,hb])
 have E4:=LH (show bits BinOp.or IntKind.u64 (IntKind.u64.wrap ((hi:Int)*2^s)) ((lo:Int)/2^(64-s))=(U:Int) by
  have x1:hi*2^s<18446744073709551616:=Nat.lt_of_le_of_lt (Nat.mul_le_mul_right _ (by omega:hi≤y)) (hY▸n3)
  have x2:((hi:Int)*2^s)=((hi*2^s:Nat):Int):=by rw[Int.natCast_mul,Int.natCast_pow];rfl
  have x3:((lo:Int)/2^(64-s))=((lo/2^(64-s):Nat):Int):=by rw[Int.natCast_ediv,Int.natCast_pow];rfl
  rw[x2,x3,u64_in (by omega) (by omega),bits_or_u64_nat _ _ x1 (Nat.lt_of_le_of_lt (Nat.div_le_self _ _) h3),or_add w3,hU,w1])
 have E5:=LH (show IntKind.u64.wrap ((lo:Int)*2^s)=(t:Int) by
  have x2:((lo:Int)*2^s)=((lo*2^s:Nat):Int):=by rw[Int.natCast_mul,Int.natCast_pow];rfl
  rw[x2,Mul64.wrapM,ht,w2])
 have E6:=LH (show(t:Int)/4294967296=(u1:Int) by omega)
 have E7:=LH (show bits BinOp.and IntKind.u64 (t:Int) 4294967295=(u0:Int) by rw[Mul64.maskN t (by omega),hu0])
 have EN:=LH (show(hi*18446744073709551616+lo)/y=NN/Y from hdiv.symm)
 have ea:2147483648≤a:=by omega
 have eb:b<4294967296:=by omega
 have ea2:a<4294967296:=by omega
 have eu1:u1<4294967296:=by omega
 have eu0:u0<4294967296:=by omega
 have T0:=LH (tri_start (U:=U) (u:=u1) (b:=b) (show 0<a by omega) eu1)
 have HUYu1:=LH (show U<a*4294967296+b by omega)
 have HT:=LH (show U/a≤4294967297 from tri_top ea eb (by omega))
 obtain⟨q,hq⟩:∃q,q=U/a:=⟨_,rfl⟩
 obtain⟨r,hr⟩:∃r,r=U%a:=⟨_,rfl⟩
 have hqa:=Nat.div_add_mod U a
 rw[Nat.mul_comm,←hq,←hr]at hqa
 rw[←hq]at HT T0
 rw[←hr]at T0
 have hra:r<a:=by rw[hr];exact Nat.mod_lt _ (by omega)
 have E8:=LH (show IntKind.u64.wrap ((U:Int)/(a:Int))=(q:Int) by rw[←Int.natCast_ediv,←hq];exact u64_in (by omega) (by have:=HT.out;omega))
 have E9:=LH (show IntKind.u64.wrap ((U:Int)-IntKind.u64.wrap ((q:Int)*(a:Int)))=(r:Int) by
  obtain⟨z,hz⟩:∃z,z=q*a:=⟨_,rfl⟩
  have e:(q:Int)*(a:Int)=(z:Int):=by rw[hz,Int.natCast_mul]
  rw[←hz]at hqa
  rw[e,u64_in (a:=(z:Int)) (by omega) (by omega)]
  exact(u64_in (by omega) (by omega)).trans (by omega))
 rw[EN.out]
 have ha0:(a:Int)≠0:=by omega
 have ha1:((a:Int)==0)=false:=by rw[beq_eq_false_iff_ne];omega
 have HU:=LH hU
 have HTt:=LH ht
 have HU1:=LH hu1
 have HU0:=LH hu0
 have HYab:=LH hYab
 clear hY hNN w1 w2 w3 hdiv ha hb hs hq hr hqa hU ht hu1 hu0 hYab
 go_enter Tryz.func198,Tryz.ntmps198
 go_wp2_with fail
 refine(A.out _).mono ?_;rintro e w1 ⟨rfl,rfl⟩
 go_upto_region 15 with fail
 rw[E1.out,E2.out,E3.out,E4.out,E5.out,E6.out,E7.out]
 go_upto_region 16 with fail
 rw[E8.out]
 go_wp2_with fail
 rw[E9.out]
 have hQ0:q≤4294967297:=HT.out
 have hr0:r<4294967296:=by omega
 clear A E1 E2 E3 E4 E5 E6 E7 E8 E9 HT hra
 go_loopw [15,16] (fun qv rv wr=>∃Q R:Nat,qv= .int .u64 Q∧rv= .int .u64 R∧R<4294967296∧Q≤4294967297∧Hid (Tri U u1 a b Q R)∧Hid (Chg [] w wr)) (fun qv _ _=>(intOf qv).toNat)
 case atStart=>exact⟨q,r,rfl,rfl,hr0,hQ0,T0,LH (Chg.refl _ _)⟩
 case round=>
  clear T0 hQ0 hr0
  obtain⟨Q,R,rfl,rfl,hR,hQ,HTR,HCW⟩:=hrel
  by_cases hc:4294967296≤Q∨4294967296*R+u1<Q*b
  ·obtain⟨d1,d2⟩:=tri_down HTR.out HUYu1.out eu1 hc
   obtain⟨Q1,eQ1⟩:∃Q1,Q=Q1+1:=⟨Q-1,by omega⟩
   obtain⟨R1,eR1⟩:∃R1,R1=R+a:=⟨_,rfl⟩
   rw[eQ1,Nat.add_sub_cancel,←eR1]at d2
   have D2:=LH d2
   have G1:=LH (show(Q:Int)-1=(Q1:Int) by omega)
   have G2:=LH (show(R:Int)+(a:Int)=(R1:Int) by omega)
   have hQ1:Q1≤4294967296:=by omega
   have hQ2:Q1<Q:=by omega
   have hR1:R1<8589934592:=by omega
   have hQp:1≤Q:=by omega
   have hcases:(4294967296:Int)≤(Q:Int)∨∃P:Nat,¬(4294967296:Int)≤(Q:Int)∧IntKind.u64.wrap ((Q:Int)*(b:Int))=(P:Int)∧4294967296*(R:Int)+(u1:Int)<(P:Int):=by
    by_cases hc2:4294967296≤Q
    ·exact Or.inl (by omega)
    ·obtain⟨P,hP⟩:∃P,P=Q*b:=⟨_,rfl⟩
     have hP1:P<18446744073709551616:=by
      have:=Nat.mul_le_mul (show Q≤4294967295 by omega) (show b≤4294967295 by omega)
      omega
     refine Or.inr ⟨P,by omega, ?_, ?_⟩
     ·rw[←Int.natCast_mul,←hP];exact u64_in (by omega) (by omega)
     ·omega
   clear d2 eQ1 eR1 d1 HTR hc
   rcases hcases with hc3|⟨P,hc3,g3,g4⟩
   ·by_cases hbr:4294967296≤R1
    ·have hbr2:(4294967296:Int)≤(R1:Int):=by omega
     have HQD:=LH (tri_break D2.out (by omega) hQ1 eb hbr)
     clear hbr
     go_upto_region 20 with fail
     rw[G1.out,G2.out]
     clear G1 G2 D2 hQ2 hQp hc3 hR hQ
     obtain⟨r1,hr1⟩:∃r1,r1=(U*4294967296+u1)%(a*4294967296+b):=⟨_,rfl⟩
     have hrest:=tri_rest HQD.out
     rw[←hr1,←HYab.out]at hrest
     have hrY:r1<Y:=by rw[hr1,←HYab.out];exact Nat.mod_lt _ (by omega)
     have F1:=LH (show IntKind.u64.wrap (IntKind.u64.wrap (IntKind.u64.wrap ((U:Int)*4294967296)+(u1:Int))-IntKind.u64.wrap ((Q1:Int)*(Y:Int)))=(r1:Int) by
      obtain⟨z,hz⟩:∃z,z=Q1*Y:=⟨_,rfl⟩
      have e:(Q1:Int)*(Y:Int)=(z:Int):=by rw[hz,Int.natCast_mul]
      rw[←hz]at hrest
      rw[e]
      simp only[IntKind.wrap_u64]
      omega)
     obtain⟨q2,hq2⟩:∃q2,q2=r1/a:=⟨_,rfl⟩
     obtain⟨r2,hr2⟩:∃r2,r2=r1%a:=⟨_,rfl⟩
     have hqa:=Nat.div_add_mod r1 a
     rw[Nat.mul_comm,←hq2,←hr2]at hqa
     have hra:r2<a:=by rw[hr2];exact Nat.mod_lt _ (by omega)
     have hq2t:q2≤4294967297:=by rw[hq2];exact tri_top ea eb (by have:=HYab.out;omega)
     have T1:=LH (tri_start (U:=r1) (u:=u0) (b:=b) (show 0<a by omega) eu0)
     rw[←hq2,←hr2]at T1
     have F2:=LH (show IntKind.u64.wrap ((r1:Int)/(a:Int))=(q2:Int) by rw[←Int.natCast_ediv,←hq2];exact u64_in (by omega) (by omega))
     have F3:=LH (show IntKind.u64.wrap ((r1:Int)-IntKind.u64.wrap ((q2:Int)*(a:Int)))=(r2:Int) by
      obtain⟨z,hz⟩:∃z,z=q2*a:=⟨_,rfl⟩
      have e:(q2:Int)*(a:Int)=(z:Int):=by rw[hz,Int.natCast_mul]
      rw[←hz]at hqa
      rw[e,u64_in (a:=(z:Int)) (by omega) (by omega)]
      exact(u64_in (by omega) (by omega)).trans (by omega))
     have HQ1:=LH HQD.out
     have HRest:=LH hrest
     have HUYu0:=LH (show r1<a*4294967296+b by have:=HYab.out;omega)
     have hr20:r2<4294967296:=by omega
     clear hr1 hrest hq2 hr2 hqa HQD hra
     go_upto_region 22 with fail
     rw[F1.out]
     go_upto_region 23 with fail
     rw[F2.out]
     go_wp2_with fail
     rw[F3.out]
     clear F1 F2 F3
     generalize Q1=QA at*
     generalize R1=RA at*
     have HQA:=LH (show QA<4294967296 by rw[HQ1.out];exact tri_lt HUYu1.out eu1)
     go_loopw [18,16] (fun qv rv wr=>∃Q R:Nat,qv= .int .u64 Q∧rv= .int .u64 R∧R<4294967296∧Q≤4294967297∧Hid (Tri r1 u0 a b Q R)∧Hid (Chg [] w wr)) (fun qv _ _=>(intOf qv).toNat)
     case atStart=>exact⟨q2,r2,rfl,rfl,hr20,hq2t,T1,HCW⟩
     case round=>
      clear T1 hq2t hr20
      obtain⟨Q,R,rfl,rfl,hR,hQ,HTR,HCW⟩:=hrel
      by_cases hc:4294967296≤Q∨4294967296*R+u0<Q*b
      ·obtain⟨d1,d2⟩:=tri_down HTR.out HUYu0.out eu0 hc
       obtain⟨Q1,eQ1⟩:∃Q1,Q=Q1+1:=⟨Q-1,by omega⟩
       obtain⟨R1,eR1⟩:∃R1,R1=R+a:=⟨_,rfl⟩
       rw[eQ1,Nat.add_sub_cancel,←eR1]at d2
       have D2:=LH d2
       have G1:=LH (show(Q:Int)-1=(Q1:Int) by omega)
       have G2:=LH (show(R:Int)+(a:Int)=(R1:Int) by omega)
       have hQ1:Q1≤4294967296:=by omega
       have hQ2:Q1<Q:=by omega
       have hR1:R1<8589934592:=by omega
       have hQp:1≤Q:=by omega
       have hcases:(4294967296:Int)≤(Q:Int)∨∃P:Nat,¬(4294967296:Int)≤(Q:Int)∧IntKind.u64.wrap ((Q:Int)*(b:Int))=(P:Int)∧4294967296*(R:Int)+(u0:Int)<(P:Int):=by
        by_cases hc2:4294967296≤Q
        ·exact Or.inl (by omega)
        ·obtain⟨P,hP⟩:∃P,P=Q*b:=⟨_,rfl⟩
         have hP1:P<18446744073709551616:=by
          have:=Nat.mul_le_mul (show Q≤4294967295 by omega) (show b≤4294967295 by omega)
          omega
         refine Or.inr ⟨P,by omega, ?_, ?_⟩
         ·rw[←Int.natCast_mul,←hP];exact u64_in (by omega) (by omega)
         ·omega
       clear d2 eQ1 eR1 d1 HTR hc
       rcases hcases with hc3|⟨P,hc3,g3,g4⟩
       ·by_cases hbr:4294967296≤R1
        ·have hbr2:(4294967296:Int)≤(R1:Int):=by omega
         have HQD:=LH (tri_break D2.out (by omega) hQ1 eb hbr)
         clear hbr
         go_upto_region 27 with fail
         rw[G1.out,G2.out]
         clear G1 G2 D2 hQ2 hQp hc3 hR hQ
         have HQ2:=LH HQD.out
         have hq2l:Q1<4294967296:=by rw[HQ2.out];exact tri_lt HUYu0.out eu0
         have HF:=LH (show IntKind.u64.wrap (IntKind.u64.wrap ((QA:Int)*4294967296)+(Q1:Int))=((NN/Y:Nat):Int) by
          have h8:=div_two (N:=NN) (Y:=Y) (q1:=QA) (r1:=r1) (by have h1:=HRest.out;have h2:=HU.out;have h3:=HTt.out;have h4:=HU1.out;rw[←h2,←h3,←h4];exact h1) hrY
          have h9:NN%4294967296=u0:=by have h3:=HTt.out;have h4:=HU0.out;omega
          rw[h9,HYab.out,←HQ2.out]at h8
          rw[HYab.out,h8]
          have:=HQA.out
          simp only[IntKind.wrap_u64]
          omega)
         have HF2:=LH (show(QA:Int)*4294967296+(Q1:Int)=((NN/Y:Nat):Int) by
          have h3:=HF.out
          have:=HQA.out
          rw[←h3]
          simp only[IntKind.wrap_u64]
          omega)
         go_wp2_with fail
         first|rw[HF.out]|rw[HF2.out]
         go_ret2
         exact⟨⟨_,rfl⟩,HCW.out⟩
        ·have hbr2: ¬(4294967296:Int)≤(R1:Int):=by omega
         go_upto_region 27 with fail
         rw[G1.out,G2.out]
         clear hc3
         go_wp2_with fail
         exact⟨⟨Q1,R1,rfl,rfl,by omega,by omega,D2,HCW⟩,by simp[intOf];omega⟩
       ·by_cases hbr:4294967296≤R1
        ·have hbr2:(4294967296:Int)≤(R1:Int):=by omega
         have HQD:=LH (tri_break D2.out (by omega) hQ1 eb hbr)
         clear hbr
         go_upto_region 27 with fail
         rw[G1.out,G2.out]
         clear G1 G2 D2 hQ2 hQp hc3 g3 g4 hR hQ
         have HQ2:=LH HQD.out
         have hq2l:Q1<4294967296:=by rw[HQ2.out];exact tri_lt HUYu0.out eu0
         have HF:=LH (show IntKind.u64.wrap (IntKind.u64.wrap ((QA:Int)*4294967296)+(Q1:Int))=((NN/Y:Nat):Int) by
          have h8:=div_two (N:=NN) (Y:=Y) (q1:=QA) (r1:=r1) (by have h1:=HRest.out;have h2:=HU.out;have h3:=HTt.out;have h4:=HU1.out;rw[←h2,←h3,←h4];exact h1) hrY
          have h9:NN%4294967296=u0:=by have h3:=HTt.out;have h4:=HU0.out;omega
          rw[h9,HYab.out,←HQ2.out]at h8
          rw[HYab.out,h8]
          have:=HQA.out
          simp only[IntKind.wrap_u64]
          omega)
         have HF2:=LH (show(QA:Int)*4294967296+(Q1:Int)=((NN/Y:Nat):Int) by
          have h3:=HF.out
          have:=HQA.out
          rw[←h3]
          simp only[IntKind.wrap_u64]
          omega)
         go_wp2_with fail
         first|rw[HF.out]|rw[HF2.out]
         go_ret2
         exact⟨⟨_,rfl⟩,HCW.out⟩
        ·have hbr2: ¬(4294967296:Int)≤(R1:Int):=by omega
         go_upto_region 27 with fail
         rw[G1.out,G2.out]
         clear hc3 g3 g4
         go_wp2_with fail
         exact⟨⟨Q1,R1,rfl,rfl,by omega,by omega,D2,HCW⟩,by simp[intOf];omega⟩
      ·have hq1:Q<4294967296:=by omega
       have hq2:Q*b≤4294967296*R+u0:=by omega
       have HQD:=LH (tri_end HTR.out (by omega) hq2)
       obtain⟨P,hP⟩:∃P,P=Q*b:=⟨_,rfl⟩
       have hP1:P<18446744073709551616:=by
        have:=Nat.mul_le_mul (show Q≤4294967295 by omega) (show b≤4294967295 by omega)
        omega
       have g3:IntKind.u64.wrap ((Q:Int)*(b:Int))=(P:Int):=by rw[←Int.natCast_mul,←hP];exact u64_in (by omega) (by omega)
       have g4: ¬4294967296*(R:Int)+(u0:Int)<(P:Int):=by omega
       have hc3: ¬(4294967296:Int)≤(Q:Int):=by omega
       clear hc hq2 hP HTR
       go_upto_region 28 with fail
       clear hc3 g3 g4 hR hQ hP1
       have HQ2:=LH HQD.out
       have hq2l:Q<4294967296:=by rw[HQ2.out];exact tri_lt HUYu0.out eu0
       have HF:=LH (show IntKind.u64.wrap (IntKind.u64.wrap ((QA:Int)*4294967296)+(Q:Int))=((NN/Y:Nat):Int) by
        have h8:=div_two (N:=NN) (Y:=Y) (q1:=QA) (r1:=r1) (by have h1:=HRest.out;have h2:=HU.out;have h3:=HTt.out;have h4:=HU1.out;rw[←h2,←h3,←h4];exact h1) hrY
        have h9:NN%4294967296=u0:=by have h3:=HTt.out;have h4:=HU0.out;omega
        rw[h9,HYab.out,←HQ2.out]at h8
        rw[HYab.out,h8]
        have:=HQA.out
        simp only[IntKind.wrap_u64]
        omega)
       have HF2:=LH (show(QA:Int)*4294967296+(Q:Int)=((NN/Y:Nat):Int) by
        have h3:=HF.out
        have:=HQA.out
        rw[←h3]
        simp only[IntKind.wrap_u64]
        omega)
       go_wp2_with fail
       first|rw[HF.out]|rw[HF2.out]
       go_ret2
       exact⟨⟨_,rfl⟩,HCW.out⟩
    ·have hbr2: ¬(4294967296:Int)≤(R1:Int):=by omega
     go_upto_region 20 with fail
     rw[G1.out,G2.out]
     clear hc3
     go_wp2_with fail
     exact⟨⟨Q1,R1,rfl,rfl,by omega,by omega,D2,HCW⟩,by simp[intOf];omega⟩
   ·by_cases hbr:4294967296≤R1
    ·have hbr2:(4294967296:Int)≤(R1:Int):=by omega
     have HQD:=LH (tri_break D2.out (by omega) hQ1 eb hbr)
     clear hbr
     go_upto_region 20 with fail
     rw[G1.out,G2.out]
     clear G1 G2 D2 hQ2 hQp hc3 g3 g4 hR hQ
     obtain⟨r1,hr1⟩:∃r1,r1=(U*4294967296+u1)%(a*4294967296+b):=⟨_,rfl⟩
     have hrest:=tri_rest HQD.out
     rw[←hr1,←HYab.out]at hrest
     have hrY:r1<Y:=by rw[hr1,←HYab.out];exact Nat.mod_lt _ (by omega)
     have F1:=LH (show IntKind.u64.wrap (IntKind.u64.wrap (IntKind.u64.wrap ((U:Int)*4294967296)+(u1:Int))-IntKind.u64.wrap ((Q1:Int)*(Y:Int)))=(r1:Int) by
      obtain⟨z,hz⟩:∃z,z=Q1*Y:=⟨_,rfl⟩
      have e:(Q1:Int)*(Y:Int)=(z:Int):=by rw[hz,Int.natCast_mul]
      rw[←hz]at hrest
      rw[e]
      simp only[IntKind.wrap_u64]
      omega)
     obtain⟨q2,hq2⟩:∃q2,q2=r1/a:=⟨_,rfl⟩
     obtain⟨r2,hr2⟩:∃r2,r2=r1%a:=⟨_,rfl⟩
     have hqa:=Nat.div_add_mod r1 a
     rw[Nat.mul_comm,←hq2,←hr2]at hqa
     have hra:r2<a:=by rw[hr2];exact Nat.mod_lt _ (by omega)
     have hq2t:q2≤4294967297:=by rw[hq2];exact tri_top ea eb (by have:=HYab.out;omega)
     have T1:=LH (tri_start (U:=r1) (u:=u0) (b:=b) (show 0<a by omega) eu0)
     rw[←hq2,←hr2]at T1
     have F2:=LH (show IntKind.u64.wrap ((r1:Int)/(a:Int))=(q2:Int) by rw[←Int.natCast_ediv,←hq2];exact u64_in (by omega) (by omega))
     have F3:=LH (show IntKind.u64.wrap ((r1:Int)-IntKind.u64.wrap ((q2:Int)*(a:Int)))=(r2:Int) by
      obtain⟨z,hz⟩:∃z,z=q2*a:=⟨_,rfl⟩
      have e:(q2:Int)*(a:Int)=(z:Int):=by rw[hz,Int.natCast_mul]
      rw[←hz]at hqa
      rw[e,u64_in (a:=(z:Int)) (by omega) (by omega)]
      exact(u64_in (by omega) (by omega)).trans (by omega))
     have HQ1:=LH HQD.out
     have HRest:=LH hrest
     have HUYu0:=LH (show r1<a*4294967296+b by have:=HYab.out;omega)
     have hr20:r2<4294967296:=by omega
     clear hr1 hrest hq2 hr2 hqa HQD hra
     go_upto_region 22 with fail
     rw[F1.out]
     go_upto_region 23 with fail
     rw[F2.out]
     go_wp2_with fail
     rw[F3.out]
     clear F1 F2 F3
     generalize Q1=QA at*
     generalize R1=RA at*
     have HQA:=LH (show QA<4294967296 by rw[HQ1.out];exact tri_lt HUYu1.out eu1)
     go_loopw [18,16] (fun qv rv wr=>∃Q R:Nat,qv= .int .u64 Q∧rv= .int .u64 R∧R<4294967296∧Q≤4294967297∧Hid (Tri r1 u0 a b Q R)∧Hid (Chg [] w wr)) (fun qv _ _=>(intOf qv).toNat)
     case atStart=>exact⟨q2,r2,rfl,rfl,hr20,hq2t,T1,HCW⟩
     case round=>
      clear T1 hq2t hr20
      obtain⟨Q,R,rfl,rfl,hR,hQ,HTR,HCW⟩:=hrel
      by_cases hc:4294967296≤Q∨4294967296*R+u0<Q*b
      ·obtain⟨d1,d2⟩:=tri_down HTR.out HUYu0.out eu0 hc
       obtain⟨Q1,eQ1⟩:∃Q1,Q=Q1+1:=⟨Q-1,by omega⟩
       obtain⟨R1,eR1⟩:∃R1,R1=R+a:=⟨_,rfl⟩
       rw[eQ1,Nat.add_sub_cancel,←eR1]at d2
       have D2:=LH d2
       have G1:=LH (show(Q:Int)-1=(Q1:Int) by omega)
       have G2:=LH (show(R:Int)+(a:Int)=(R1:Int) by omega)
       have hQ1:Q1≤4294967296:=by omega
       have hQ2:Q1<Q:=by omega
       have hR1:R1<8589934592:=by omega
       have hQp:1≤Q:=by omega
       have hcases:(4294967296:Int)≤(Q:Int)∨∃P:Nat,¬(4294967296:Int)≤(Q:Int)∧IntKind.u64.wrap ((Q:Int)*(b:Int))=(P:Int)∧4294967296*(R:Int)+(u0:Int)<(P:Int):=by
        by_cases hc2:4294967296≤Q
        ·exact Or.inl (by omega)
        ·obtain⟨P,hP⟩:∃P,P=Q*b:=⟨_,rfl⟩
         have hP1:P<18446744073709551616:=by
          have:=Nat.mul_le_mul (show Q≤4294967295 by omega) (show b≤4294967295 by omega)
          omega
         refine Or.inr ⟨P,by omega, ?_, ?_⟩
         ·rw[←Int.natCast_mul,←hP];exact u64_in (by omega) (by omega)
         ·omega
       clear d2 eQ1 eR1 d1 HTR hc
       rcases hcases with hc3|⟨P,hc3,g3,g4⟩
       ·by_cases hbr:4294967296≤R1
        ·have hbr2:(4294967296:Int)≤(R1:Int):=by omega
         have HQD:=LH (tri_break D2.out (by omega) hQ1 eb hbr)
         clear hbr
         go_upto_region 27 with fail
         rw[G1.out,G2.out]
         clear G1 G2 D2 hQ2 hQp hc3 hR hQ
         have HQ2:=LH HQD.out
         have hq2l:Q1<4294967296:=by rw[HQ2.out];exact tri_lt HUYu0.out eu0
         have HF:=LH (show IntKind.u64.wrap (IntKind.u64.wrap ((QA:Int)*4294967296)+(Q1:Int))=((NN/Y:Nat):Int) by
          have h8:=div_two (N:=NN) (Y:=Y) (q1:=QA) (r1:=r1) (by have h1:=HRest.out;have h2:=HU.out;have h3:=HTt.out;have h4:=HU1.out;rw[←h2,←h3,←h4];exact h1) hrY
          have h9:NN%4294967296=u0:=by have h3:=HTt.out;have h4:=HU0.out;omega
          rw[h9,HYab.out,←HQ2.out]at h8
          rw[HYab.out,h8]
          have:=HQA.out
          simp only[IntKind.wrap_u64]
          omega)
         have HF2:=LH (show(QA:Int)*4294967296+(Q1:Int)=((NN/Y:Nat):Int) by
          have h3:=HF.out
          have:=HQA.out
          rw[←h3]
          simp only[IntKind.wrap_u64]
          omega)
         go_wp2_with fail
         first|rw[HF.out]|rw[HF2.out]
         go_ret2
         exact⟨⟨_,rfl⟩,HCW.out⟩
        ·have hbr2: ¬(4294967296:Int)≤(R1:Int):=by omega
         go_upto_region 27 with fail
         rw[G1.out,G2.out]
         clear hc3
         go_wp2_with fail
         exact⟨⟨Q1,R1,rfl,rfl,by omega,by omega,D2,HCW⟩,by simp[intOf];omega⟩
       ·by_cases hbr:4294967296≤R1
        ·have hbr2:(4294967296:Int)≤(R1:Int):=by omega
         have HQD:=LH (tri_break D2.out (by omega) hQ1 eb hbr)
         clear hbr
         go_upto_region 27 with fail
         rw[G1.out,G2.out]
         clear G1 G2 D2 hQ2 hQp hc3 g3 g4 hR hQ
         have HQ2:=LH HQD.out
         have hq2l:Q1<4294967296:=by rw[HQ2.out];exact tri_lt HUYu0.out eu0
         have HF:=LH (show IntKind.u64.wrap (IntKind.u64.wrap ((QA:Int)*4294967296)+(Q1:Int))=((NN/Y:Nat):Int) by
          have h8:=div_two (N:=NN) (Y:=Y) (q1:=QA) (r1:=r1) (by have h1:=HRest.out;have h2:=HU.out;have h3:=HTt.out;have h4:=HU1.out;rw[←h2,←h3,←h4];exact h1) hrY
          have h9:NN%4294967296=u0:=by have h3:=HTt.out;have h4:=HU0.out;omega
          rw[h9,HYab.out,←HQ2.out]at h8
          rw[HYab.out,h8]
          have:=HQA.out
          simp only[IntKind.wrap_u64]
          omega)
         have HF2:=LH (show(QA:Int)*4294967296+(Q1:Int)=((NN/Y:Nat):Int) by
          have h3:=HF.out
          have:=HQA.out
          rw[←h3]
          simp only[IntKind.wrap_u64]
          omega)
         go_wp2_with fail
         first|rw[HF.out]|rw[HF2.out]
         go_ret2
         exact⟨⟨_,rfl⟩,HCW.out⟩
        ·have hbr2: ¬(4294967296:Int)≤(R1:Int):=by omega
         go_upto_region 27 with fail
         rw[G1.out,G2.out]
         clear hc3 g3 g4
         go_wp2_with fail
         exact⟨⟨Q1,R1,rfl,rfl,by omega,by omega,D2,HCW⟩,by simp[intOf];omega⟩
      ·have hq1:Q<4294967296:=by omega
       have hq2:Q*b≤4294967296*R+u0:=by omega
       have HQD:=LH (tri_end HTR.out (by omega) hq2)
       obtain⟨P,hP⟩:∃P,P=Q*b:=⟨_,rfl⟩
       have hP1:P<18446744073709551616:=by
        have:=Nat.mul_le_mul (show Q≤4294967295 by omega) (show b≤4294967295 by omega)
        omega
       have g3:IntKind.u64.wrap ((Q:Int)*(b:Int))=(P:Int):=by rw[←Int.natCast_mul,←hP];exact u64_in (by omega) (by omega)
       have g4: ¬4294967296*(R:Int)+(u0:Int)<(P:Int):=by omega
       have hc3: ¬(4294967296:Int)≤(Q:Int):=by omega
       clear hc hq2 hP HTR
       go_upto_region 28 with fail
       clear hc3 g3 g4 hR hQ hP1
       have HQ2:=LH HQD.out
       have hq2l:Q<4294967296:=by rw[HQ2.out];exact tri_lt HUYu0.out eu0
       have HF:=LH (show IntKind.u64.wrap (IntKind.u64.wrap ((QA:Int)*4294967296)+(Q:Int))=((NN/Y:Nat):Int) by
        have h8:=div_two (N:=NN) (Y:=Y) (q1:=QA) (r1:=r1) (by have h1:=HRest.out;have h2:=HU.out;have h3:=HTt.out;have h4:=HU1.out;rw[←h2,←h3,←h4];exact h1) hrY
        have h9:NN%4294967296=u0:=by have h3:=HTt.out;have h4:=HU0.out;omega
        rw[h9,HYab.out,←HQ2.out]at h8
        rw[HYab.out,h8]
        have:=HQA.out
        simp only[IntKind.wrap_u64]
        omega)
       have HF2:=LH (show(QA:Int)*4294967296+(Q:Int)=((NN/Y:Nat):Int) by
        have h3:=HF.out
        have:=HQA.out
        rw[←h3]
        simp only[IntKind.wrap_u64]
        omega)
       go_wp2_with fail
       first|rw[HF.out]|rw[HF2.out]
       go_ret2
       exact⟨⟨_,rfl⟩,HCW.out⟩
    ·have hbr2: ¬(4294967296:Int)≤(R1:Int):=by omega
     go_upto_region 20 with fail
     rw[G1.out,G2.out]
     clear hc3 g3 g4
     go_wp2_with fail
     exact⟨⟨Q1,R1,rfl,rfl,by omega,by omega,D2,HCW⟩,by simp[intOf];omega⟩
  ·have hq1:Q<4294967296:=by omega
   have hq2:Q*b≤4294967296*R+u1:=by omega
   have HQD:=LH (tri_end HTR.out (by omega) hq2)
   obtain⟨P,hP⟩:∃P,P=Q*b:=⟨_,rfl⟩
   have hP1:P<18446744073709551616:=by
    have:=Nat.mul_le_mul (show Q≤4294967295 by omega) (show b≤4294967295 by omega)
    omega
   have g3:IntKind.u64.wrap ((Q:Int)*(b:Int))=(P:Int):=by rw[←Int.natCast_mul,←hP];exact u64_in (by omega) (by omega)
   have g4: ¬4294967296*(R:Int)+(u1:Int)<(P:Int):=by omega
   have hc3: ¬(4294967296:Int)≤(Q:Int):=by omega
   clear hc hq2 hP HTR
   go_upto_region 21 with fail
   clear hc3 g3 g4 hR hQ hP1
   obtain⟨r1,hr1⟩:∃r1,r1=(U*4294967296+u1)%(a*4294967296+b):=⟨_,rfl⟩
   have hrest:=tri_rest HQD.out
   rw[←hr1,←HYab.out]at hrest
   have hrY:r1<Y:=by rw[hr1,←HYab.out];exact Nat.mod_lt _ (by omega)
   have F1:=LH (show IntKind.u64.wrap (IntKind.u64.wrap (IntKind.u64.wrap ((U:Int)*4294967296)+(u1:Int))-IntKind.u64.wrap ((Q:Int)*(Y:Int)))=(r1:Int) by
    obtain⟨z,hz⟩:∃z,z=Q*Y:=⟨_,rfl⟩
    have e:(Q:Int)*(Y:Int)=(z:Int):=by rw[hz,Int.natCast_mul]
    rw[←hz]at hrest
    rw[e]
    simp only[IntKind.wrap_u64]
    omega)
   obtain⟨q2,hq2⟩:∃q2,q2=r1/a:=⟨_,rfl⟩
   obtain⟨r2,hr2⟩:∃r2,r2=r1%a:=⟨_,rfl⟩
   have hqa:=Nat.div_add_mod r1 a
   rw[Nat.mul_comm,←hq2,←hr2]at hqa
   have hra:r2<a:=by rw[hr2];exact Nat.mod_lt _ (by omega)
   have hq2t:q2≤4294967297:=by rw[hq2];exact tri_top ea eb (by have:=HYab.out;omega)
   have T1:=LH (tri_start (U:=r1) (u:=u0) (b:=b) (show 0<a by omega) eu0)
   rw[←hq2,←hr2]at T1
   have F2:=LH (show IntKind.u64.wrap ((r1:Int)/(a:Int))=(q2:Int) by rw[←Int.natCast_ediv,←hq2];exact u64_in (by omega) (by omega))
   have F3:=LH (show IntKind.u64.wrap ((r1:Int)-IntKind.u64.wrap ((q2:Int)*(a:Int)))=(r2:Int) by
    obtain⟨z,hz⟩:∃z,z=q2*a:=⟨_,rfl⟩
    have e:(q2:Int)*(a:Int)=(z:Int):=by rw[hz,Int.natCast_mul]
    rw[←hz]at hqa
    rw[e,u64_in (a:=(z:Int)) (by omega) (by omega)]
    exact(u64_in (by omega) (by omega)).trans (by omega))
   have HQ1:=LH HQD.out
   have HRest:=LH hrest
   have HUYu0:=LH (show r1<a*4294967296+b by have:=HYab.out;omega)
   have hr20:r2<4294967296:=by omega
   clear hr1 hrest hq2 hr2 hqa HQD hra
   go_upto_region 22 with fail
   rw[F1.out]
   go_upto_region 23 with fail
   rw[F2.out]
   go_wp2_with fail
   rw[F3.out]
   clear F1 F2 F3
   generalize Q=QA at*
   generalize R=RA at*
   have HQA:=LH (show QA<4294967296 by rw[HQ1.out];exact tri_lt HUYu1.out eu1)
   go_loopw [18,16] (fun qv rv wr=>∃Q R:Nat,qv= .int .u64 Q∧rv= .int .u64 R∧R<4294967296∧Q≤4294967297∧Hid (Tri r1 u0 a b Q R)∧Hid (Chg [] w wr)) (fun qv _ _=>(intOf qv).toNat)
   case atStart=>exact⟨q2,r2,rfl,rfl,hr20,hq2t,T1,HCW⟩
   case round=>
    clear T1 hq2t hr20
    obtain⟨Q,R,rfl,rfl,hR,hQ,HTR,HCW⟩:=hrel
    by_cases hc:4294967296≤Q∨4294967296*R+u0<Q*b
    ·obtain⟨d1,d2⟩:=tri_down HTR.out HUYu0.out eu0 hc
     obtain⟨Q1,eQ1⟩:∃Q1,Q=Q1+1:=⟨Q-1,by omega⟩
     obtain⟨R1,eR1⟩:∃R1,R1=R+a:=⟨_,rfl⟩
     rw[eQ1,Nat.add_sub_cancel,←eR1]at d2
     have D2:=LH d2
     have G1:=LH (show(Q:Int)-1=(Q1:Int) by omega)
     have G2:=LH (show(R:Int)+(a:Int)=(R1:Int) by omega)
     have hQ1:Q1≤4294967296:=by omega
     have hQ2:Q1<Q:=by omega
     have hR1:R1<8589934592:=by omega
     have hQp:1≤Q:=by omega
     have hcases:(4294967296:Int)≤(Q:Int)∨∃P:Nat,¬(4294967296:Int)≤(Q:Int)∧IntKind.u64.wrap ((Q:Int)*(b:Int))=(P:Int)∧4294967296*(R:Int)+(u0:Int)<(P:Int):=by
      by_cases hc2:4294967296≤Q
      ·exact Or.inl (by omega)
      ·obtain⟨P,hP⟩:∃P,P=Q*b:=⟨_,rfl⟩
       have hP1:P<18446744073709551616:=by
        have:=Nat.mul_le_mul (show Q≤4294967295 by omega) (show b≤4294967295 by omega)
        omega
       refine Or.inr ⟨P,by omega, ?_, ?_⟩
       ·rw[←Int.natCast_mul,←hP];exact u64_in (by omega) (by omega)
       ·omega
     clear d2 eQ1 eR1 d1 HTR hc
     rcases hcases with hc3|⟨P,hc3,g3,g4⟩
     ·by_cases hbr:4294967296≤R1
      ·have hbr2:(4294967296:Int)≤(R1:Int):=by omega
       have HQD:=LH (tri_break D2.out (by omega) hQ1 eb hbr)
       clear hbr
       go_upto_region 27 with fail
       rw[G1.out,G2.out]
       clear G1 G2 D2 hQ2 hQp hc3 hR hQ
       have HQ2:=LH HQD.out
       have hq2l:Q1<4294967296:=by rw[HQ2.out];exact tri_lt HUYu0.out eu0
       have HF:=LH (show IntKind.u64.wrap (IntKind.u64.wrap ((QA:Int)*4294967296)+(Q1:Int))=((NN/Y:Nat):Int) by
        have h8:=div_two (N:=NN) (Y:=Y) (q1:=QA) (r1:=r1) (by have h1:=HRest.out;have h2:=HU.out;have h3:=HTt.out;have h4:=HU1.out;rw[←h2,←h3,←h4];exact h1) hrY
        have h9:NN%4294967296=u0:=by have h3:=HTt.out;have h4:=HU0.out;omega
        rw[h9,HYab.out,←HQ2.out]at h8
        rw[HYab.out,h8]
        have:=HQA.out
        simp only[IntKind.wrap_u64]
        omega)
       have HF2:=LH (show(QA:Int)*4294967296+(Q1:Int)=((NN/Y:Nat):Int) by
        have h3:=HF.out
        have:=HQA.out
        rw[←h3]
        simp only[IntKind.wrap_u64]
        omega)
       go_wp2_with fail
       first|rw[HF.out]|rw[HF2.out]
       go_ret2
       exact⟨⟨_,rfl⟩,HCW.out⟩
      ·have hbr2: ¬(4294967296:Int)≤(R1:Int):=by omega
       go_upto_region 27 with fail
       rw[G1.out,G2.out]
       clear hc3
       go_wp2_with fail
       exact⟨⟨Q1,R1,rfl,rfl,by omega,by omega,D2,HCW⟩,by simp[intOf];omega⟩
     ·by_cases hbr:4294967296≤R1
      ·have hbr2:(4294967296:Int)≤(R1:Int):=by omega
       have HQD:=LH (tri_break D2.out (by omega) hQ1 eb hbr)
       clear hbr
       go_upto_region 27 with fail
       rw[G1.out,G2.out]
       clear G1 G2 D2 hQ2 hQp hc3 g3 g4 hR hQ
       have HQ2:=LH HQD.out
       have hq2l:Q1<4294967296:=by rw[HQ2.out];exact tri_lt HUYu0.out eu0
       have HF:=LH (show IntKind.u64.wrap (IntKind.u64.wrap ((QA:Int)*4294967296)+(Q1:Int))=((NN/Y:Nat):Int) by
        have h8:=div_two (N:=NN) (Y:=Y) (q1:=QA) (r1:=r1) (by have h1:=HRest.out;have h2:=HU.out;have h3:=HTt.out;have h4:=HU1.out;rw[←h2,←h3,←h4];exact h1) hrY
        have h9:NN%4294967296=u0:=by have h3:=HTt.out;have h4:=HU0.out;omega
        rw[h9,HYab.out,←HQ2.out]at h8
        rw[HYab.out,h8]
        have:=HQA.out
        simp only[IntKind.wrap_u64]
        omega)
       have HF2:=LH (show(QA:Int)*4294967296+(Q1:Int)=((NN/Y:Nat):Int) by
        have h3:=HF.out
        have:=HQA.out
        rw[←h3]
        simp only[IntKind.wrap_u64]
        omega)
       go_wp2_with fail
       first|rw[HF.out]|rw[HF2.out]
       go_ret2
       exact⟨⟨_,rfl⟩,HCW.out⟩
      ·have hbr2: ¬(4294967296:Int)≤(R1:Int):=by omega
       go_upto_region 27 with fail
       rw[G1.out,G2.out]
       clear hc3 g3 g4
       go_wp2_with fail
       exact⟨⟨Q1,R1,rfl,rfl,by omega,by omega,D2,HCW⟩,by simp[intOf];omega⟩
    ·have hq1:Q<4294967296:=by omega
     have hq2:Q*b≤4294967296*R+u0:=by omega
     have HQD:=LH (tri_end HTR.out (by omega) hq2)
     obtain⟨P,hP⟩:∃P,P=Q*b:=⟨_,rfl⟩
     have hP1:P<18446744073709551616:=by
      have:=Nat.mul_le_mul (show Q≤4294967295 by omega) (show b≤4294967295 by omega)
      omega
     have g3:IntKind.u64.wrap ((Q:Int)*(b:Int))=(P:Int):=by rw[←Int.natCast_mul,←hP];exact u64_in (by omega) (by omega)
     have g4: ¬4294967296*(R:Int)+(u0:Int)<(P:Int):=by omega
     have hc3: ¬(4294967296:Int)≤(Q:Int):=by omega
     clear hc hq2 hP HTR
     go_upto_region 28 with fail
     clear hc3 g3 g4 hR hQ hP1
     have HQ2:=LH HQD.out
     have hq2l:Q<4294967296:=by rw[HQ2.out];exact tri_lt HUYu0.out eu0
     have HF:=LH (show IntKind.u64.wrap (IntKind.u64.wrap ((QA:Int)*4294967296)+(Q:Int))=((NN/Y:Nat):Int) by
      have h8:=div_two (N:=NN) (Y:=Y) (q1:=QA) (r1:=r1) (by have h1:=HRest.out;have h2:=HU.out;have h3:=HTt.out;have h4:=HU1.out;rw[←h2,←h3,←h4];exact h1) hrY
      have h9:NN%4294967296=u0:=by have h3:=HTt.out;have h4:=HU0.out;omega
      rw[h9,HYab.out,←HQ2.out]at h8
      rw[HYab.out,h8]
      have:=HQA.out
      simp only[IntKind.wrap_u64]
      omega)
     have HF2:=LH (show(QA:Int)*4294967296+(Q:Int)=((NN/Y:Nat):Int) by
      have h3:=HF.out
      have:=HQA.out
      rw[←h3]
      simp only[IntKind.wrap_u64]
      omega)
     go_wp2_with fail
     first|rw[HF.out]|rw[HF2.out]
     go_ret2
     exact⟨⟨_,rfl⟩,HCW.out⟩
theorem div64_any (hi lo y:Nat) (h1:hi<y) (h2:y<18446744073709551616) (h3:lo<18446744073709551616) (w:World):Calls Tryz.prog 198 #[.int .u64 hi, .int .u64 lo, .int .u64 y] w fun e w'=>(∃r:Int,e= .returned (.tuple #[.int .u64 ((hi*18446744073709551616+lo)/y:Nat), .int .u64 r]))∧Chg [] w w':=by
 by_cases h0:hi=0
 ·subst h0
  have:=div64_low lo y h1 h2 h3 w
  simpa using this
 ·exact div64_high hi lo y h0 h1 h2 h3 w
end
end Go.Proofs.YtmofknmeljdodaaGreatDoor
