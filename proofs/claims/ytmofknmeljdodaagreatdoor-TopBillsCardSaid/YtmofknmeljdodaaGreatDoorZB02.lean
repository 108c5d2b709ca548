/- Over any program with num: valid, MulDiv. No condition but those that the statements name. -/
import Derived.Lib.MinMax
import Derived.Test.YtmofknmeljdodaaGreatDoorProg
import Derived.Laws.BytesArg
import Derived.Test.YtmofknmeljdodaaGreatDoorZB01
import Derived.Test.YtmofknmeljdodaaGreatDoorZS03
import Derived.Test.YtmofknmeljdodaaGreatDoorZS05
import Derived.Test.YtmofknmeljdodaaGreatDoorZS01
set_option maxHeartbeats 100000000
set_option maxRecDepth 100000
set_option linter.unusedVariables false
set_option linter.unusedSimpArgs false
open List renaming getElem_toArray→gTA,getElem_cons_zero→gCZ,getElem_cons_succ→gCS,setIfInBounds_toArray→sTA,set_cons_zero→sCZ,set_cons_succ→sCS
namespace Go.Proofs.YtmofknmeljdodaaGreatDoor
section
open Go.RowKit
def vldB (n:Int):Bool:=decide (-1000000000000≤n)&&decide (n≤1000000000000)
theorem vldB_iff {a:Int}:vldB a=true↔-1000000000000≤a∧a≤1000000000000:=by unfold vldB;simp
theorem vld_any (n:Int) (w:World):Calls Tryz.prog 173 #[.int .i64 n] w fun e w'=>e= .returned (.bool (vldB n))∧w=w':=by
 by_cases h1: -1000000000000≤n
 ·go_enter Tryz.func173,Tryz.ntmps173
  go_wp2
  go_ret
  exact⟨by simp[vldB,h1],rfl⟩
 ·go_enter Tryz.func173,Tryz.ntmps173
  go_wp2
  go_ret
  exact⟨by simp[vldB];omega,rfl⟩
theorem vlds_any (a:Option Addr) (cap:Nat) (l:List Int) (w:World) (h:SlIs icI 1 w a l.length l) (hm:l.length≤maxLen):Calls Tryz.prog 197 #[.slice a l.length cap] w fun e w'=>e= .returned (.bool (l.all vldB))∧w=w':=by
 obtain⟨R,hR⟩:∃R,R=l.all vldB:=⟨_,rfl⟩
 rw[←hR]
 have HR:=LH hR
 have H:=LH h
 unfold maxLen at hm
 clear h hR
 go_enter Tryz.func197,Tryz.ntmps197
 go_wp2_with fail
 go_loop [7] (fun i=>∃k:Nat,i= .int .i64 k∧k≤l.length∧Hid ((l.take k).all vldB=true)) (fun i=>l.length-(intOf i).toNat)
 case atStart=>exact⟨0,rfl,Nat.zero_le _,LH (by simp)⟩
 case round=>
  obtain⟨k,rfl,hkl,HT⟩:=hrel
  by_cases hk:k<l.length
  ·obtain⟨b,off,rfl,hb,hc⟩:=H.out.2 k hk
   have c0:=hc 0 (by omega)
   have HS:=LH (show(l.take (k+1)).all vldB=vldB l[k] by rw[List.take_succ_eq_append_getElem hk,List.all_append,HT.out];simp)
   have HN:=LH (show vldB l[k]=false→l.all vldB=false from fun hv=>List.all_eq_false.2 ⟨l[k],List.getElem_mem hk,by rw[hv];simp⟩)
   generalize l[k]=x at*
   simp only[icI,List.getElem?_cons_zero,Nat.add_zero,Nat.mul_one]at c0
   have A:=vld_any x w
   have hk0:(0:Int)≤(k:Int):=by omega
   have hk1:(k:Int)<(l.length:Int):=by omega
   cases hv:vldB x
   ·rw[hv]at A
    have A:=LH A
    rename_i A0
    have HE:=LH (HR.out.trans (HN.out hv))
    clear hc A0 hv
    go_wp2_with fail
    refine A.out.mono ?_;rintro e w1 ⟨rfl,rfl⟩
    go_wp2_with fail
    go_ret
    exact⟨by rw[HE.out];rfl,rfl⟩
   ·rw[hv]at A
    have A:=LH A
    rename_i A0
    have HE:=LH (HS.out.trans hv)
    clear hc A0 hv
    go_wp2_with fail
    refine A.out.mono ?_;rintro e w1 ⟨rfl,rfl⟩
    go_wp2_with fail
    exact⟨⟨k+1,by go_num,by omega,HE⟩,by simp[intOf];omega⟩
  ·have hks:k=l.length:=by omega
   have HE:Hid (R=true):=LH (by rw[HR.out];have:=HT.out;rwa[hks,List.take_of_length_le (Nat.le_refl _)]at this)
   clear hks
   go_wp2_with fail
   go_ret
   exact⟨by rw[HE.out];rfl,rfl⟩
def mulDivZ (a b c:Int):Int×Int:=
 if vldB a=false∨vldB b=false∨vldB c=false∨a<0∨b<0∨c<0 then(0,2)else if c=0 then(0,9)else if 1000000000000<a*b/c then(0,8)else(a*b/c,0)
theorem mulDivZ_bad {a b c:Int} (h:vldB a=false∨vldB b=false∨vldB c=false∨a<0∨b<0∨c<0):mulDivZ a b c=(0,2):=by unfold mulDivZ;rw[if_pos h]
theorem mulDivZ_nat {a b c:Nat} (ha:a≤1000000000000) (hb:b≤1000000000000) (hc:c≤1000000000000) (h0:0<c):mulDivZ a b c=if 1000000000000<a*b/c then(0,8)else(((a*b/c:Nat):Int),0):=by
 unfold mulDivZ
 rw[if_neg (by simp only[←Bool.not_eq_true,vldB_iff];omega),if_neg (by omega)]
 have e:(a:Int)*b/c=((a*b/c:Nat):Int):=by rw[Int.natCast_ediv,Int.natCast_mul]
 rw[e]
 by_cases h:1000000000000<a*b/c
 ·rw[if_pos h,if_pos (by omega)]
 ·rw[if_neg h,if_neg (by omega)]
theorem three_is {W:World} {a b c:Int} {n:Nat} (h:W.heap[n]? =some (.cells #[.int .i64 a, .int .i64 b, .int .i64 c] 3)):SlIs icI 1 W (some ⟨n,0,none⟩) 3 [a,b,c]:=by
 refine⟨rfl,fun k hk=>⟨n,0,rfl,lt_of_heap h,fun j hj=> ?_⟩⟩
 have hj0:j=0:=by omega
 subst hj0
 rw[blk_cell h]
 match k,hk with
 |0,_=>rfl
 |1,_=>rfl
 |2,_=>rfl
theorem muldiv_bad (a b c:Int) (w:World) (h:vldB a=false∨vldB b=false∨vldB c=false∨a<0∨b<0∨c<0):Calls Tryz.prog 117 #[.int .i64 a, .int .i64 b, .int .i64 c] w fun e w'=>e= .returned (.tuple #[.int .i64 0, .int .i64 2])∧Chg [] w w':=by
 have hb:=heap_alloc_new w (.cells #[.int .i64 a, .int .i64 b, .int .i64 c] 3)
 have A:=vlds_any (some ⟨w.heap.size,0,none⟩) 3 [a,b,c] _ (three_is hb) (by simp[maxLen])
 have hC:=LH (show Chg [] w (w.alloc (.cells #[.int .i64 a, .int .i64 b, .int .i64 c] 3))from(Chg.refl _ _).alloc _)
 simp only[List.all_cons,List.all_nil,Bool.and_true,List.length_cons,List.length_nil]at A
 by_cases hv:(vldB a&&(vldB b&&vldB c))=true
 ·rw[hv]at A
  have A:=LH A
  rename_i A0
  have hneg:a<0∨b<0∨c<0:=by
   simp only[Bool.and_eq_true]at hv
   rcases h with h|h|h|h
   ·rw[h]at hv;cases hv.1
   ·rw[h]at hv;cases hv.2.1
   ·rw[h]at hv;cases hv.2.2
   ·exact h
  clear A0 hb hv h
  have hmin:min (min a b) c<0:=by omega
  have hmin2:min a (min b c)<0:=by omega
  clear hneg
  go_enter Tryz.func117,Tryz.ntmps117
  go_wp2_with fail
  refine A.out.mono ?_;rintro e w1 ⟨rfl,rfl⟩
  go_wp2_with fail
  all_goals first
   |(exfalso;omega)
   |(skip
     go_ret2
     exact⟨rfl,hC.out⟩)
 ·rw[Bool.not_eq_true]at hv
  rw[hv]at A
  have A:=LH A
  rename_i A0
  clear A0 hb hv h
  go_enter Tryz.func117,Tryz.ntmps117
  go_wp2_with fail
  refine A.out.mono ?_;rintro e w1 ⟨rfl,rfl⟩
  go_wp2_with fail
  all_goals first
   |(exfalso;omega)
   |(skip
     go_ret2
     exact⟨rfl,hC.out⟩)
theorem muldiv_nat (a b c:Nat) (ha:a≤1000000000000) (hb:b≤1000000000000) (hc:c≤1000000000000) (w:World):Calls Tryz.prog 117 #[.int .i64 a, .int .i64 b, .int .i64 c] w fun e w'=>e= .returned (.tuple #[.int .i64 (mulDivZ a b c).1, .int .i64 (mulDivZ a b c).2])∧Chg [] w w':=by
 have hh:=heap_alloc_new w (.cells #[.int .i64 a, .int .i64 b, .int .i64 c] 3)
 have A:=vlds_any (some ⟨w.heap.size,0,none⟩) 3 [(a:Int),b,c] _ (three_is hh) (by simp[maxLen])
 have hC:=LH (show Chg [] w (w.alloc (.cells #[.int .i64 a, .int .i64 b, .int .i64 c] 3))from(Chg.refl _ _).alloc _)
 have h1:vldB a=true:=vldB_iff.2 (by omega)
 have h2:vldB b=true:=vldB_iff.2 (by omega)
 have h3:vldB c=true:=vldB_iff.2 (by omega)
 simp only[List.all_cons,List.all_nil,Bool.and_true,List.length_cons,List.length_nil,h1,h2,h3]at A
 have A:=LH A
 rename_i A0
 have hmin: ¬min (min (a:Int) b) c<0:=by omega
 have hmin2: ¬min (a:Int) (min b c)<0:=by omega
 clear A0 hh h1 h2 h3
 by_cases h0:c=0
 ·subst h0
  have HZ:=LH (show mulDivZ a b (0:Nat)=(0,9) by unfold mulDivZ;rw[if_neg (by simp only[←Bool.not_eq_true,vldB_iff];omega)];rfl)
  rw[HZ.out]
  go_enter Tryz.func117,Tryz.ntmps117
  go_wp2_with fail
  refine A.out.mono ?_;rintro e w1 ⟨rfl,rfl⟩
  go_wp2_with fail
  all_goals first
   |(exfalso;omega)
   |(skip
     go_ret2
     exact⟨rfl,hC.out⟩)
 ·have HZ:=LH (mulDivZ_nat ha hb hc (by omega))
  have M:=LH (fun w'=>Tryz.bits_Mul64 a b (by omega) (by omega) w')
  obtain⟨p,hp⟩:∃p,p=a*b:=⟨_,rfl⟩
  have hpl:p≤1000000000000000000000000:=by rw[hp];exact Nat.mul_le_mul ha hb
  rw[←hp]at HZ M
  obtain⟨hi,hhi⟩:∃hi,hi=p/18446744073709551616:=⟨_,rfl⟩
  obtain⟨lo,hlo⟩:∃lo,lo=p%18446744073709551616:=⟨_,rfl⟩
  rw[←hhi,←hlo]at M
  have hpe:p=hi*18446744073709551616+lo:=by omega
  have hc0:((c:Int)==0)=false:=by rw[beq_eq_false_iff_ne];omega
  obtain⟨Z,hZ⟩:∃Z,Z=mulDivZ a b c:=⟨_,rfl⟩
  rw[←hZ]at HZ⊢
  have hlo2:lo<18446744073709551616:=by omega
  by_cases hg:c≤hi
  ·have hge:(c:Int)≤(hi:Int):=by omega
   have HZ2:=LH (show Z=(0,8) by
    rw[HZ.out,if_pos]
    refine Nat.lt_of_lt_of_le (show 1000000000000<18446744073709551616 by decide) ?_
    rw[Nat.le_div_iff_mul_le (by omega),hpe]
    have:=Nat.mul_le_mul_left 18446744073709551616 hg
    omega)
   rw[HZ2.out]
   clear hZ hp hhi hlo hpe hpl
   go_enter Tryz.func117,Tryz.ntmps117
   go_wp2_with fail
   refine A.out.mono ?_;rintro e w1 ⟨rfl,rfl⟩
   go_wp2_with fail
   all_goals first
    |(exfalso;omega)
    |(skip
      refine(M.out _).mono ?_;rintro e w2 ⟨rfl,rfl⟩
      go_wp2_with fail
      go_ret2
      exact⟨rfl,hC.out⟩)
  ·have hge: ¬(c:Int)≤(hi:Int):=by omega
   have D:=LH (fun w'=>div64_any hi lo c (by omega) (by omega) hlo2 w')
   rw[←hpe]at D
   obtain⟨q,hq⟩:∃q,q=p/c:=⟨_,rfl⟩
   rw[←hq]at D HZ
   have hqb:q<18446744073709551616:=by
    rw[hq,Nat.div_lt_iff_lt_mul (by omega),hpe]
    have:=Nat.mul_le_mul_left 18446744073709551616 (show hi+1≤c by omega)
    omega
   by_cases hqm:1000000000000<q
   ·have hqm2:(1000000000000:Int)<(q:Int):=by omega
    have HZ2:=LH (show Z=(0,8) by rw[HZ.out,if_pos hqm])
    rw[HZ2.out]
    clear hZ hp hhi hlo hpe hpl hq
    go_enter Tryz.func117,Tryz.ntmps117
    go_wp2_with fail
    refine A.out.mono ?_;rintro e w1 ⟨rfl,rfl⟩
    go_wp2_with fail
    all_goals first
     |(exfalso;omega)
     |(skip
       refine(M.out _).mono ?_;rintro e w2 ⟨rfl,rfl⟩
       go_wp2_with fail
       refine(D.out _).mono ?_;rintro e w3 ⟨⟨r,rfl⟩,h9⟩
       have C3:=LH (hC.out.thenSame h9)
       clear h9
       go_wp2_with fail
       go_ret2
       exact⟨rfl,C3.out⟩)
   ·have hqm2: ¬(1000000000000:Int)<(q:Int):=by omega
    have HZ2:=LH (show Z=((q:Int),0) by rw[HZ.out,if_neg hqm])
    rw[HZ2.out]
    clear hZ hp hhi hlo hpe hpl hq
    go_enter Tryz.func117,Tryz.ntmps117
    go_wp2_with fail
    refine A.out.mono ?_;rintro e w1 ⟨rfl,rfl⟩
    go_wp2_with fail
    all_goals first
     |(exfalso;omega)
     |(skip
       refine(M.out _).mono ?_;rintro e w2 ⟨rfl,rfl⟩
       go_wp2_with fail
       refine(D.out _).mono ?_;rintro e w3 ⟨⟨r,rfl⟩,h9⟩
       have C3:=LH (hC.out.thenSame h9)
       clear h9
       go_wp2_with fail
       go_ret2
       exact⟨rfl,C3.out⟩)
theorem muldiv_any (a b c:Int) (w:World):Calls Tryz.prog 117 #[.int .i64 a, .int .i64 b, .int .i64 c] w fun e w'=>e= .returned (.tuple #[.int .i64 (mulDivZ a b c).1, .int .i64 (mulDivZ a b c).2])∧Chg [] w w':=by
 by_cases h:vldB a=false∨vldB b=false∨vldB c=false∨a<0∨b<0∨c<0
 ·rw[mulDivZ_bad h]
  exact muldiv_bad a b c w h
 ·simp only[not_or,Bool.not_eq_false,vldB_iff]at h
  obtain⟨a1,a2,a3,a4,a5,a6⟩:=h
  have ea:a=(a.toNat:Int):=by omega
  have eb:b=(b.toNat:Int):=by omega
  have ec:c=(c.toNat:Int):=by omega
  rw[ea,eb,ec]
  exact muldiv_nat _ _ _ (by omega) (by omega) (by omega) w
end
section
open Go.RowKit
structure Us where
 inv:Int
 steps:Int
 ticks:Int
 units:Int
def usV (u:Us):Value:= .agg #[.int .i64 u.inv, .int .i64 u.steps, .int .i64 u.ticks, .int .i64 u.units]
def amtB (n:Int):Bool:=decide (0≤n)&&decide (n≤1000000000000)
def usB (u:Us):Bool:=amtB u.inv&&amtB u.steps&&amtB u.ticks&&amtB u.units
theorem betw_any (n lo hi:Int) (w:World):Calls Tryz.prog 115 #[.int .i64 n, .int .i64 lo, .int .i64 hi] w fun e w'=>e= .returned (.bool (decide (lo≤n)&&decide (n≤hi)))∧w=w':=by
 by_cases h1:lo≤n
 ·go_enter Tryz.func115,Tryz.ntmps115
  go_wp2
  go_ret
  exact⟨by simp[h1],rfl⟩
 ·go_enter Tryz.func115,Tryz.ntmps115
  go_wp2
  go_ret
  exact⟨by simp;omega,rfl⟩
def usL (u:Us):List Int:=[u.inv,u.steps,u.ticks,u.units]
theorem usB_all (u:Us):usB u=(usL u).all amtB:=by simp[usB,usL,Bool.and_assoc]
theorem mvalid_any (u:Us) (w:World):Calls Tryz.prog 69 #[usV u] w fun e w'=>e= .returned (.bool (usB u))∧Chg [] w w':=by
 obtain⟨a,b,c,d⟩:=u
 obtain⟨R,hR⟩:∃R,R=usB ⟨a,b,c,d⟩:=⟨_,rfl⟩
 rw[←hR]
 rw[usB_all]at hR
 have HR:=LH hR
 obtain⟨vs,hvs⟩:∃vs,vs=usL ⟨a,b,c,d⟩:=⟨_,rfl⟩
 rw[←hvs]at HR
 have hlen:vs.length=4:=by rw[hvs];rfl
 have Hl:=LH hlen
 have hcl:∀(W:World) (t:TypeId) (B:Nat),W.heap[B]? =some (.cells #[.int .i64 a, .int .i64 b, .int .i64 c, .int .i64 d] t (0,0))→∀k (hk:k<vs.length),W.cell? ⟨B,k,none⟩=some (.int .i64 vs[k]):=by
  intro W t B hB k hk
  rw[blk_cell hB]
  subst hvs
  match k,hk with
  |0,_=>rfl
  |1,_=>rfl
  |2,_=>rfl
  |3,_=>rfl
 have Hcl:=LH hcl
 unfold usV
 clear hR hvs hlen hcl
 go_enter Tryz.func69,Tryz.ntmps69
 go_wp2_with fail
 obtain⟨w2,hw2⟩:∃w2,w2=(w.alloc (.cells #[.int .i64 a, .int .i64 b, .int .i64 c, .int .i64 d] 96)).alloc (.cells #[.int .i64 a, .int .i64 b, .int .i64 c, .int .i64 d] 3):=⟨_,rfl⟩
 have hc2:Chg [] w w2:=by rw[hw2];exact((Chg.refl _ _).alloc _).alloc _
 have hb2:w2.heap[w.heap.size+1]? =some (.cells #[.int .i64 a, .int .i64 b, .int .i64 c, .int .i64 d] 3 (0,0)):=by
  rw[hw2]
  have:=heap_alloc_new (w.alloc (.cells #[.int .i64 a, .int .i64 b, .int .i64 c, .int .i64 d] 96)) (.cells #[.int .i64 a, .int .i64 b, .int .i64 c, .int .i64 d] 3)
  rw[World.size_alloc]at this
  exact this
 rw[←hw2]
 have HC:=LH hc2
 have Hcc:=LH (Hcl.out w2 _ _ hb2)
 clear hw2 hc2 hb2 Hcl
 go_loop [15] (fun i=>∃k:Nat,i= .int .i64 k∧k≤4∧Hid ((vs.take k).all amtB=true)) (fun i=>4-(intOf i).toNat)
 case atStart=>exact⟨0,rfl,Nat.zero_le _,LH rfl⟩
 case round=>
  obtain⟨k,rfl,hk4,Hall⟩:=hrel
  by_cases hk:k<4
  ·have hkv:k<vs.length:=by rw[Hl.out];exact hk
   have c0:=Hcc.out k hkv
   have hst:(vs.take (k+1)).all amtB=amtB vs[k]:=by
    rw[List.take_succ_eq_append_getElem hkv,List.all_append,Hall.out];simp
   have hno:amtB vs[k]=false→R=false:=fun h=>by
    rw[HR.out,List.all_eq_false]
    exact⟨vs[k],List.getElem_mem hkv,by simp[h]⟩
   have hk0:(0:Int)≤(k:Int):=by omega
   have hk1:(k:Int)<4:=by omega
   generalize vs[k]=v at*
   have A:=fun w=>betw_any v 0 1000000000000 w
   rw[show(decide (0≤v)&&decide (v≤1000000000000))=amtB v from rfl]at A
   have Hst:=LH hst
   have Hno:=LH hno
   cases hv:amtB v
   ·rw[hv]at A
    have A:=LH A
    have E:=LH (Hno.out hv)
    rename_i A0
    clear A0 hst hno hv
    go_wp2_with fail
    refine(A.out _).mono ?_;rintro e w3 ⟨rfl,rfl⟩
    go_wp2_with fail
    go_ret
    exact⟨by rw[E.out];rfl,HC.out⟩
   ·rw[hv]at A Hst
    have A:=LH A
    rename_i A0
    clear A0 hst hno hv
    go_wp2_with fail
    refine(A.out _).mono ?_;rintro e w3 ⟨rfl,rfl⟩
    go_wp2_with fail
    exact⟨⟨k+1,by go_num,by omega,Hst⟩,by simp[intOf];omega⟩
  ·have E:Hid (R=true):=LH (by
    have h:=Hall.out
    rw[List.take_of_length_le (by rw[Hl.out];omega)]at h
    rw[HR.out];exact h)
   go_wp2_with fail
   go_ret
   exact⟨by rw[E.out];rfl,HC.out⟩
end
section
open Go.RowKit
def zU:Us:=⟨0,0,0,0⟩
def plusU (a b:Us):Us:=⟨a.inv+b.inv,a.steps+b.steps,a.ticks+b.ticks,a.units+b.units⟩
def addU (a b:Us):Us×Int:=if usB a=true then(if usB b=true then(if usB (plusU a b)=true then(plusU a b,0)else(zU,8))else(zU,2))else(zU,2)
theorem usB_bounds {u:Us} (h:usB u=true):(0≤u.inv∧u.inv≤1000000000000)∧(0≤u.steps∧u.steps≤1000000000000)∧(0≤u.ticks∧u.ticks≤1000000000000)∧(0≤u.units∧u.units≤1000000000000):=by
 simp only[usB,amtB,Bool.and_eq_true,decide_eq_true_eq]at h
 exact⟨h.1.1.1,h.1.1.2,h.1.2,h.2⟩
def usO (u:Us):Obj:= .cells #[.int .i64 u.inv, .int .i64 u.steps, .int .i64 u.ticks, .int .i64 u.units] 96
theorem madd_any (a b:Us) (w:World):Calls Tryz.prog 24 #[usV a,usV b] w fun e w'=>e= .returned (.tuple #[usV (addU a b).1, .int .i64 (addU a b).2])∧Chg [] w w':=by
 obtain⟨W3,hW3⟩:∃W3,W3=((w.alloc (usO a)).alloc (usO b)).alloc (usO zU):=⟨_,rfl⟩
 have hc3:Chg [] w W3:=by rw[hW3];exact(((Chg.refl _ _).alloc _).alloc _).alloc _
 have hb1:W3.heap[w.heap.size]? =some (.cells #[.int .i64 a.inv, .int .i64 a.steps, .int .i64 a.ticks, .int .i64 a.units] 96 (0,0)):=by
  rw[hW3]
  exact(((Chg.refl [] (w.alloc (usO a))).alloc (usO b)).alloc (usO zU)).at (by simp) (heap_alloc_new w (usO a))
 have hb2:W3.heap[w.heap.size+1]? =some (.cells #[.int .i64 b.inv, .int .i64 b.steps, .int .i64 b.ticks, .int .i64 b.units] 96 (0,0)):=by
  rw[hW3]
  have:=heap_alloc_new (w.alloc (usO a)) (usO b)
  rw[World.size_alloc]at this
  exact((Chg.refl [] ((w.alloc (usO a)).alloc (usO b))).alloc (usO zU)).at (by simp) this
 have hb3:W3.heap[w.heap.size+1+1]? =some (.cells #[.int .i64 0, .int .i64 0, .int .i64 0, .int .i64 0] 96 (0,0)):=by
  rw[hW3]
  have:=heap_alloc_new ((w.alloc (usO a)).alloc (usO b)) (usO zU)
  rw[World.size_alloc,World.size_alloc]at this
  exact this
 simp only[usO,zU]at hW3
 have HW3:=LH hW3
 have A1:=mvalid_any a
 have A2:=mvalid_any b
 obtain⟨R,hR⟩:∃R,R=addU a b:=⟨_,rfl⟩
 rw[←hR]
 unfold addU at hR
 unfold usV at A1 A2⊢
 by_cases h1:usB a=true
 case neg=>
  rw[if_neg h1]at hR
  subst hR
  rw[show usB a=false by simpa using h1]at A1
  have A1:=LH A1
  go_enter Tryz.func24,Tryz.ntmps24
  go_wp2_with fail
  rw[←HW3.out]
  refine(A1.out W3).mono ?_;rintro e w4 ⟨rfl,hc4⟩
  have C4:=LH (hc3.thenSame hc4)
  have b3:=hc4.at (by simp) hb3
  have r1:=blk_cell b3
  have r2:=blk_free b3
  have r3:=lt_of_heap b3
  clear hc4 hc3 hb1 hb2 hb3 hW3 A2
  go_wp2_with fail
  exact bodyPost_ret (v:= .tuple #[usV zU, .int .i64 2]) (by simp[results,Tryz.results24,go_sem,usV,zU,r1]) rfl ⟨rfl,by repeat (first|exact C4.out|refine Chg.setCell ?_ _ _ (by simp;omega)|refine Chg.drew ?_)⟩
 rw[if_pos h1]at hR
 rw[h1]at A1
 have A1:=LH A1
 rename_i A10
 clear A10
 by_cases h2:usB b=true
 case neg=>
  rw[if_neg h2]at hR
  subst hR
  rw[show usB b=false by simpa using h2]at A2
  have A2:=LH A2
  rename_i A20
  clear A20
  go_enter Tryz.func24,Tryz.ntmps24
  go_wp2_with fail
  rw[←HW3.out]
  refine(A1.out W3).mono ?_;rintro e w4 ⟨rfl,hc4⟩
  have C4:=LH (hc3.thenSame hc4)
  have b2:=hc4.at (by simp) hb2
  have b3:=LH (hc4.at (by simp) hb3)
  have q2:=blk_cell b2
  clear hc4 hc3 hb1 hb2 hb3 hW3 b2
  go_wp2_with fail
  refine(A2.out w4).mono ?_;rintro e w5 ⟨rfl,hc5⟩
  have C5:=LH (C4.out.thenSame hc5)
  have b35:=hc5.at (by simp) b3.out
  have r1:=blk_cell b35
  have r2:=blk_free b35
  have r3:=lt_of_heap b35
  clear hc5 q2
  go_wp2_with fail
  exact bodyPost_ret (v:= .tuple #[usV zU, .int .i64 2]) (by simp[results,Tryz.results24,go_sem,usV,zU,r1]) rfl ⟨rfl,by repeat (first|exact C5.out|refine Chg.setCell ?_ _ _ (by simp;omega)|refine Chg.drew ?_)⟩
 rw[if_pos h2]at hR
 rw[h2]at A2
 have A2:=LH A2
 rename_i A20
 clear A20
 obtain⟨⟨a1,a2⟩,⟨a3,a4⟩,⟨a5,a6⟩,⟨a7,a8⟩⟩:=usB_bounds h1
 obtain⟨⟨b1,b2⟩,⟨b3,b4⟩,⟨b5,b6⟩,⟨b7,b8⟩⟩:=usB_bounds h2
 have A3:=mvalid_any (plusU a b)
 unfold usV plusU at A3
 simp only at A3
 by_cases h3:usB (plusU a b)=true
 all_goals
  first
   |rw[if_pos h3]at hR
   |rw[if_neg h3]at hR
  subst hR
  unfold plusU at h3
  first
   |rw[h3]at A3
   |rw[show usB ⟨a.inv+b.inv,a.steps+b.steps,a.ticks+b.ticks,a.units+b.units⟩=false by simpa using h3]at A3
  have A3:=LH A3
  rename_i A30
  clear A30 h1 h2 h3
  go_enter Tryz.func24,Tryz.ntmps24
  go_wp2_with fail
  rw[←HW3.out]
  refine(A1.out W3).mono ?_;rintro e w4 ⟨rfl,hc4⟩
  have C4:=LH (hc3.thenSame hc4)
  have bb1:=LH (hc4.at (by simp) hb1)
  have bb2:=LH (hc4.at (by simp) hb2)
  have bb3:=LH (hc4.at (by simp) hb3)
  have q2:=blk_cell bb2.out
  clear hc4 hc3 hb1 hb2 hb3 hW3
  go_wp2_with fail
  refine(A2.out w4).mono ?_;rintro e w5 ⟨rfl,hc5⟩
  have C5:=LH (C4.out.thenSame hc5)
  have d1:=LH (hc5.at (by simp) bb1.out)
  have d2:=LH (hc5.at (by simp) bb2.out)
  have d3:=LH (hc5.at (by simp) bb3.out)
  have q1:=blk_cell d1.out
  have q3:=blk_cell d2.out
  clear hc5 q2
  go_wp2_with fail
  refine(A3.out _).mono ?_;rintro e w6 ⟨rfl,hc6⟩
  have C6:=LH ((C5.out.alloc _).thenSame hc6)
  have e0:=hc6.at (by simp) (heap_alloc_new w5 (.cells #[.int .i64 (a.inv+b.inv), .int .i64 (a.steps+b.steps), .int .i64 (a.ticks+b.ticks), .int .i64 (a.units+b.units)] 96))
  have e3:=(((Chg.refl [] w5).alloc (.cells #[.int .i64 (a.inv+b.inv), .int .i64 (a.steps+b.steps), .int .i64 (a.ticks+b.ticks), .int .i64 (a.units+b.units)] 96)).thenSame hc6).at (by simp) d3.out
  have q0:=blk_cell e0
  have r1:=blk_cell e3
  have r2:=blk_free e3
  have r3:=lt_of_heap e3
  clear hc6 q1 q3
  go_wp2_with fail
  first
   |exact bodyPost_ret (v:= .tuple #[usV ⟨a.inv+b.inv,a.steps+b.steps,a.ticks+b.ticks,a.units+b.units⟩, .int .i64 0]) (by simp[results,Tryz.results24,go_sem,usV,r1]) rfl ⟨rfl,by repeat (first|exact C6.out|refine Chg.setCell ?_ _ _ (by simp;omega)|refine Chg.drew ?_)⟩
   |exact bodyPost_ret (v:= .tuple #[usV zU, .int .i64 8]) (by simp[results,Tryz.results24,go_sem,usV,zU,r1]) rfl ⟨rfl,by repeat (first|exact C6.out|refine Chg.setCell ?_ _ _ (by simp;omega)|refine Chg.drew ?_)⟩
end
section
open Go.RowKit
structure Ud where
 f:Int
 s:Int
 fl:Bool
def udC (x:Ud):List Value:=[.int .u8 x.f, .int .u16 x.s, .bool x.fl]
def Ud.good (x:Ud):Prop:=(Lit.int .u8 x.f).wf=true∧(Lit.int .u16 x.s).wf=true
def tkB (s:Int):Int:=max ((s+9)/10) 1
def unB (s:Int):Int:=(20*tkB s+6)/7
def usOf (s:Int):Us:=⟨1,s,tkB s,unB s⟩
theorem usOf_in {s:Int} (h0:0≤s) (h1:s<1000):(1≤tkB s∧tkB s≤1000)∧(0≤unB s∧unB s≤1000):=by
 unfold unB tkB;omega
end
section
open Go.RowKit
theorem four_atT {w:World} {q:Nat} {x0 x1 x2 x3:Value} (y0 y1 y2 y3:Value) (h:w.heap[q]? =some (.cells #[x0,x1,x2,x3] 96 (0,0))):
 ((((w.setCell ⟨q,0,none⟩ y0).setCell ⟨q,1,none⟩ y1).setCell ⟨q,2,none⟩ y2).setCell ⟨q,3,none⟩ y3).heap[q]? =some (.cells #[y0,y1,y2,y3] 96 (0,0)):=
 blk_set (blk_set (blk_set (blk_set h 0 y0) 1 y1) 2 y2) 3 y3
theorem two_ints (w:World) (a b:Int):SlIs icI 1 (w.alloc (.cells #[.int .i64 a, .int .i64 b] 3 (0,0))) (some ⟨w.heap.size,0,none⟩) 2 [a,b]:=SlIs.ofBlock (cf:=icI) [a,b] (heap_alloc_new w _) icI_len rfl
theorem divmod_ten (s:Nat) (hs:s<1000) (w:World):Calls Tryz.prog 196 #[.int .i64 s, .int .i64 10] w fun e w'=>e= .returned (.tuple #[.int .i64 ((s/10:Nat):Int), .int .i64 ((s%10:Nat):Int), .int .i64 0])∧Chg [] w w':=by
 have V:=vlds_any (some ⟨w.heap.size,0,none⟩) 2 [(s:Int),10] (w.alloc (.cells #[.int .i64 s, .int .i64 10] 3 (0,0))) (two_ints w s 10) (by unfold maxLen;simp)
 rw[show([(s:Int),10]:List Int).all vldB=true by simp[vldB];omega]at V
 have V:=LH V
 rename_i V0
 have e1:(s:Int).tdiv 10=((s/10:Nat):Int):=by rw[Int.tdiv_eq_ediv_of_nonneg (by omega)];rfl
 have e2:(s:Int).tmod 10=((s%10:Nat):Int):=by rw[Int.tmod_eq_emod_of_nonneg (by omega)];rfl
 have e3:decide (((s%10:Nat):Int)<0)=false:=decide_eq_false (by omega)
 obtain⟨q,hq⟩:∃q:Nat,q=s/10:=⟨_,rfl⟩
 obtain⟨r,hr⟩:∃r:Nat,r=s%10:=⟨_,rfl⟩
 rw[←hr]at e3
 rw[←hq,←hr]
 clear V0
 go_enter Tryz.func196,Tryz.ntmps196
 go_wp2_with (first
  |(go_at_call 197;(with_reducible refine Calls.mono V.out ?_);rintro e w2 ⟨rfl,rfl⟩)
  |fail)
 go_quiet (fail)
 rw[show(s:Int)/10=(q:Int) by rw[hq];rfl,show(s:Int)%10=(r:Int) by rw[hr];rfl]
 clear e1 e2 hq hr
 by_cases h0:r=0
 ·subst h0
  go_wp2_with fail
  go_ret3
  exact⟨rfl,((Chg.refl _ _).alloc _).drewN _⟩
 ·have hb:((r:Int)!=0)=true:=by simpa using h0
  clear h0
  go_wp2_with fail
  go_ret3
  exact⟨rfl,((Chg.refl _ _).alloc _).drewN _⟩
theorem ceil_ten (s:Nat) (hs:s<1000) (w:World):Calls Tryz.prog 116 #[.int .i64 s, .int .i64 10] w fun e w'=>e= .returned (.tuple #[.int .i64 (((s+9)/10:Nat):Int), .int .i64 0])∧Chg [] w w':=by
 have D:=LH (divmod_ten s hs w)
 by_cases h0:s%10=0
 ·have hq:((s+9)/10:Nat)=s/10:=by omega
  rw[hq]
  rw[h0]at D
  generalize s/10=q at*
  clear h0 hq
  go_enter Tryz.func116,Tryz.ntmps116
  go_wp2_with (first
   |(go_at_call 196;(with_reducible refine Calls.mono D.out ?_);rintro e w2 ⟨rfl,hc⟩;have C2:=LH hc;clear hc)
   |fail)
  go_ret2
  exact⟨rfl,C2.out⟩
 ·have hq:((s+9)/10:Nat)=s/10+1:=by omega
  rw[hq]
  have hb:(((s%10:Nat):Int)!=0)=true:=bne_iff_ne.2 (by omega)
  have hq2:s/10≤100:=by omega
  generalize s/10=q at*
  generalize s%10=r at*
  clear h0 hq
  go_enter Tryz.func116,Tryz.ntmps116
  go_wp2_with (first
   |(go_at_call 196;(with_reducible refine Calls.mono D.out ?_);rintro e w2 ⟨rfl,hc⟩;have C2:=LH hc;clear hc)
   |fail)
  go_ret2
  exact⟨by simp,C2.out⟩
def polV:Value:= .agg #[.int .i64 10, .int .i64 7]
theorem mcheck_pol (w:World):Calls Tryz.prog 114 #[polV] w fun e w'=>e= .returned (.int .i64 0)∧Chg [] w w':=by
 have A:=LH (fun n w'=>betw_any n 1 1000000000 w')
 unfold polV
 go_enter Tryz.func114,Tryz.ntmps114
 go_wp2_with (first
  |(go_at_call 115;(with_reducible refine Calls.mono (A.out _ _) ?_);rintro e w2 ⟨rfl,rfl⟩)
  |fail)
 go_ret
 exact⟨rfl,(Chg.refl _ _).alloc _⟩
theorem mticks_pol (s:Nat) (hs:s<1000) (w:World):Calls Tryz.prog 64 #[polV, .int .i64 s] w fun e w'=>e= .returned (.tuple #[.int .i64 (tkB s), .int .i64 0])∧Chg [] w w':=by
 have hp:polV= .agg #[.int .i64 10, .int .i64 7]:=rfl
 have A:=LH (mcheck_pol (w.alloc (.cells #[.int .i64 10, .int .i64 7] 91 (0,0))))
 have B:=LH (fun w'=>betw_any s 0 1000000000000 w')
 have D:=LH (fun w'=>ceil_ten s hs w')
 rw[hp]at A⊢
 have hb1:decide ((0:Int)≤(s:Int))=true:=decide_eq_true (by omega)
 have hb2:decide ((s:Int)≤1000000000000)=true:=decide_eq_true (by omega)
 have hT:tkB s=max (((s+9)/10:Nat):Int) 1:=by unfold tkB;rfl
 rw[hT]
 generalize (s+9)/10=q at*
 clear hp hT
 go_enter Tryz.func64,Tryz.ntmps64
 go_wp2_with (first
  |(go_at_call 114;(with_reducible refine Calls.mono A.out ?_);rintro e w2 ⟨rfl,hc⟩;have C2:=LH (((Chg.refl [] w).alloc _).thenSame hc);have K2:=LH (hc.at (by simp) (heap_alloc_new w _));have k2:=blk_cell K2.out;have l2:=lt_of_heap K2.out;clear hc)
  |(go_at_call 115;(with_reducible refine Calls.mono (B.out _) ?_);rintro e w3 ⟨rfl,rfl⟩)
  |(go_at_call 116;(with_reducible refine Calls.mono (D.out _) ?_);rintro e w4 ⟨rfl,hc⟩;have C4:=LH (C2.out.thenSame hc);clear hc)
  |fail)
 go_ret2
 exact⟨rfl,C4.out⟩
theorem munits_pol (t:Nat) (h1:1≤t) (h2:t≤1000) (w:World):Calls Tryz.prog 65 #[polV, .int .i64 20, .int .i64 t] w fun e w'=>e= .returned (.tuple #[.int .i64 (((20*t+6)/7:Nat):Int), .int .i64 0])∧Chg [] w w':=by
 have hp:polV= .agg #[.int .i64 10, .int .i64 7]:=rfl
 have A:=LH (mcheck_pol (w.alloc (.cells #[.int .i64 10, .int .i64 7] 91 (0,0))))
 have B:=LH (fun n w'=>betw_any n 0 1000000000000 w')
 have hmd:mulDivZ 20 t 7=(((20*t/7:Nat):Int),0):=by
  have:=mulDivZ_nat (a:=20) (b:=t) (c:=7) (by omega) (by omega) (by omega) (by omega)
  rw[if_neg (by omega)]at this
  exact this
 have D0:=fun w'=>muldiv_any 20 t 7 w'
 rw[hmd]at D0
 have D:=LH D0
 rw[hp]at A⊢
 have hb1:decide ((0:Int)≤(t:Int))=true:=decide_eq_true (by omega)
 have hb2:decide ((t:Int)≤1000000000000)=true:=decide_eq_true (by omega)
 obtain⟨q,hq⟩:∃q:Nat,q=20*t/7:=⟨_,rfl⟩
 rw[←hq]at D
 have w1:IntKind.u64.wrap (20*(t:Int))=20*(t:Int):=IntWalk.u64_in _ (by omega)
 have w2:IntKind.u64.wrap ((q:Int)*7)=(q:Int)*7:=IntWalk.u64_in _ (by omega)
 have w3:IntKind.u64.wrap (t:Int)=(t:Int):=IntWalk.u64_in _ (by omega)
 have w4:IntKind.u64.wrap (q:Int)=(q:Int):=IntWalk.u64_in _ (by omega)
 have hqb:q≤3000:=by omega
 obtain⟨x,hx⟩:∃x:Int,x=20*(t:Int):=⟨_,rfl⟩
 obtain⟨y,hy⟩:∃y:Int,y=(q:Int)*7:=⟨_,rfl⟩
 have hqq:q+1≤3000:=by omega
 rw[←hx]at w1
 rw[←hy]at w2
 have w5:IntKind.u64.wrap (20*(t:Int))=x:=by rw[←hx];exact w1
 have w6:IntKind.u64.wrap ((q:Int)*7)=y:=by rw[←hy];exact w2
 clear w1 w2
 by_cases h0:x=y
 ·have hb:(x !=y)=false:=by rw[h0];simp
  rw[show(20*t+6)/7=q by omega]
  have hz:(q:Int)≤1000000000000:=by omega
  clear hp D0 hmd hq hx hy h0 h1 h2
  go_enter Tryz.func65,Tryz.ntmps65
  go_wp2_with (first
   |(go_at_call 114;(with_reducible refine Calls.mono A.out ?_);rintro e w3 ⟨rfl,hc⟩;have C2:=LH (((Chg.refl [] w).alloc _).thenSame hc);have K2:=LH (hc.at (by simp) (heap_alloc_new w _));have k2:=blk_cell K2.out;have l2:=lt_of_heap K2.out;clear hc)
   |(go_at_call 115;(with_reducible refine Calls.mono (B.out _ _) ?_);rintro e w3 ⟨rfl,rfl⟩)
   |(go_at_call 117;(with_reducible refine Calls.mono (D.out _) ?_);rintro e w4 ⟨rfl,hc⟩;have C4:=LH (C2.out.thenSame hc);have K4:=LH (hc.at (by simp) K2.out);have k4:=blk_cell K4.out;have l4:=lt_of_heap K4.out;clear hc)
   |fail)
  go_ret2
  exact⟨rfl,C4.out⟩
 ·have hb:(x !=y)=true:=bne_iff_ne.2 h0
  obtain⟨p,hpq⟩:∃p:Nat,p=(20*t+6)/7:=⟨_,rfl⟩
  rw[←hpq]
  have w7:IntKind.i64.wrap ((q:Int)+1)=(p:Int):=by rw[IntWalk.i64_in _ (by omega)];omega
  have hz:(p:Int)≤1000000000000:=by omega
  clear hp D0 hmd hq hx hy h0 h1 h2 hpq hqq
  go_enter Tryz.func65,Tryz.ntmps65
  go_wp2_with (first
   |(go_at_call 114;(with_reducible refine Calls.mono A.out ?_);rintro e w3 ⟨rfl,hc⟩;have C2:=LH (((Chg.refl [] w).alloc _).thenSame hc);have K2:=LH (hc.at (by simp) (heap_alloc_new w _));have k2:=blk_cell K2.out;have l2:=lt_of_heap K2.out;clear hc)
   |(go_at_call 115;(with_reducible refine Calls.mono (B.out _ _) ?_);rintro e w3 ⟨rfl,rfl⟩)
   |(go_at_call 117;(with_reducible refine Calls.mono (D.out _) ?_);rintro e w4 ⟨rfl,hc⟩;have C4:=LH (C2.out.thenSame hc);have K4:=LH (hc.at (by simp) K2.out);have k4:=blk_cell K4.out;have l4:=lt_of_heap K4.out;clear hc)
   |fail)
  go_ret2
  exact⟨rfl,C4.out⟩
theorem mof_pol (s:Int) (h0:0≤s) (hs:s<1000) (w:World):Calls Tryz.prog 22 #[polV, .int .i64 20, .int .i64 s] w fun e w'=>e= .returned (.tuple #[usV (usOf s), .int .i64 0])∧Chg [] w w':=by
 obtain⟨s,rfl⟩:∃k:Nat,s=k:=⟨s.toNat,by omega⟩
 have hp:polV= .agg #[.int .i64 10, .int .i64 7]:=rfl
 have A:=LH (fun w'=>mticks_pol s (by omega) w')
 obtain⟨t,ht⟩:∃t:Nat,tkB s=t:=⟨(tkB s).toNat,by have:=(usOf_in h0 hs).1;omega⟩
 have hb:=(usOf_in h0 hs).1
 have B:=LH (fun w'=>munits_pol t (by omega) (by omega) w')
 have hu:unB s=(((20*t+6)/7:Nat):Int):=by unfold unB;rw[ht];omega
 unfold usV usOf
 simp only
 rw[ht]at A⊢
 rw[hu]
 generalize (20*t+6)/7=u at*
 rw[hp]at A B⊢
 clear hp hb hu ht h0 hs
 obtain⟨W,hW⟩:∃W,W=(w.alloc (.cells #[.int .i64 10, .int .i64 7] 91 (0,0))).alloc (.cells #[.int .i64 0, .int .i64 0, .int .i64 0, .int .i64 0] 96 (0,0)):=⟨_,rfl⟩
 have C1:=LH (show Chg [] w W by rw[hW];exact((Chg.refl _ _).alloc _).alloc _)
 have K1:=LH (show W.heap[w.heap.size]? =some (.cells #[.int .i64 10, .int .i64 7] 91 (0,0)) by rw[hW];exact blk_alloc (heap_alloc_new _ _))
 have K2:=LH (show W.heap[w.heap.size+1]? =some (.cells #[.int .i64 0, .int .i64 0, .int .i64 0, .int .i64 0] 96 (0,0)) by rw[hW];have h:=heap_alloc_new (w.alloc (.cells #[.int .i64 10, .int .i64 7] 91 (0,0))) (.cells #[.int .i64 0, .int .i64 0, .int .i64 0, .int .i64 0] 96 (0,0));rw[World.size_alloc]at h;exact h)
 have HW:=LH hW
 have k1:=blk_cell K1.out
 have l1:=lt_of_heap K1.out
 clear hW
 go_enter Tryz.func22,Tryz.ntmps22
 go_upto_region 1 with fail
 rw[←HW.out]
 go_wp2_with (first
  |(go_at_call 64;(with_reducible refine Calls.mono (A.out _) ?_);rintro e w3 ⟨rfl,hc⟩;have C3:=LH hc;have k3:=blk_cell (hc.at (by simp) K1.out);have l3:=lt_of_heap (hc.at (by simp) K1.out);clear hc)
  |(go_at_call 65;(with_reducible refine Calls.mono (B.out _) ?_);rintro e w4 ⟨rfl,hc⟩;have C4:=LH (C3.out.thenSame hc);have K4:=LH (C4.out.at (by simp) K2.out);have k4:=blk_cell K4.out;have f4:=blk_free K4.out;have l4:=lt_of_heap K4.out;clear hc)
  |fail)
 have o3:=four_atT (.int .i64 1) (.int .i64 s) (.int .i64 t) (.int .i64 u) K4.out
 have r1:=blk_cell o3
 refine bodyPost_ret (v:= .tuple #[.agg #[.int .i64 1, .int .i64 s, .int .i64 t, .int .i64 u], .int .i64 0]) (by simp[results,Tryz.results22,go_sem,r1]) rfl ⟨rfl, ?_⟩
 have zz:=lt_of_heap K2.out
 have q:∀j,(⟨w.heap.size+1,j,none⟩:Addr).block<w.heap.size→(⟨w.heap.size+1,j,none⟩:Addr).block∈([]:List Nat):=fun j h=>by simp only at h;omega
 exact(((((C1.out.thenSame C4.out).setCell _ _ (q 0)).setCell _ _ (q 1)).setCell _ _ (q 2)).setCell _ _ (q 3))
end
section
open Go.RowKit
theorem cv_nameW (w:World) (i:Nat) (x y:Int) (hx:strOfNums [101,x,y]=nmT i):(convert 170 9 (.slice (some ⟨w.heap.size,0,none⟩) 3 3)).run Tryz.prog (w.alloc (.cells #[.int .u8 101, .int .u8 x, .int .u8 y] 5))= .ok (.string (nmT i)) (w.alloc (.cells #[.int .u8 101, .int .u8 x, .int .u8 y] 5)):=by
 rw[←hx]
 refine run_convert_bytes_arg _ 170 5 Tryz.underlying170 Tryz.underlying5 w.heap.size 0 3 3 [101,x,y] rfl (fun j hj=> ?_) 9 Tryz.underlying9
 rw[Nat.zero_add,blk_cell (heap_alloc_new w _)]
 have:j=0∨j=1∨j=2:=by omega
 rcases this with rfl|rfl|rfl<;>rfl
theorem tnameW_any (i:Nat) (hi:i<30) (w:World):Calls Tryz.prog 15 #[.int .i64 i] w fun e w'=>e= .returned (.string (nmT i))∧Chg [] w w':=by
 obtain⟨x,hx⟩:∃x:Int,x=65+(i:Int)%26:=⟨_,rfl⟩
 obtain⟨y,hy⟩:∃y:Int,y=48+(i:Int)/26%10:=⟨_,rfl⟩
 have hs:strOfNums [101,x,y]=nmT i:=by
  rw[hx,hy]
  have:∀i,i<30→strOfNums [101,65+((i:Nat):Int)%26,48+((i:Nat):Int)/26%10]=nmT i:=by decide+kernel
  exact this i hi
 have hcv:=cv_nameW w i x y hs
 have e1:(i:Int).tmod 26=(i:Int)%26:=Int.tmod_eq_emod_of_nonneg (by omega)
 have e2:(i:Int).tdiv 26=(i:Int)/26:=Int.tdiv_eq_ediv_of_nonneg (by omega)
 have e3:((i:Int)/26).tmod 10=(i:Int)/26%10:=Int.tmod_eq_emod_of_nonneg (by omega)
 have w1:IntKind.i64.wrap (65+(i:Int)%26)=x:=by rw[IntWalk.i64_in _ (by omega),hx]
 have w2:IntKind.i64.wrap (48+(i:Int)/26%10)=y:=by rw[IntWalk.i64_in _ (by omega),hy]
 have w3:IntKind.u8.wrap x=x:=IntWalk.u8_in _ (by omega)
 have w4:IntKind.u8.wrap y=y:=IntWalk.u8_in _ (by omega)
 generalize nmT i=s at*
 clear hs hx hy
 go_enter Tryz.func15,Tryz.ntmps15
 go_wp2_with fail
 go_ret
 exact⟨rfl,(Chg.refl _ _).alloc _⟩
end
end Go.Proofs.YtmofknmeljdodaaGreatDoor
