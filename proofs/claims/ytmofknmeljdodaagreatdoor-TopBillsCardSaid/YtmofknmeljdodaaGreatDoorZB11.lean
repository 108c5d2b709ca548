/- Chapter 53: contracts: between, Check of a price. No condition but those that the statements name. -/
import Derived.Test.YtmofknmeljdodaaGreatDoorProg
import Derived.Lib.MinMax
import Derived.Test.YtmofknmeljdodaaGreatDoorZS01
import Derived.Test.YtmofknmeljdodaaGreatDoorZB03
import Derived.Test.YtmofknmeljdodaaGreatDoorZS03
import Derived.Test.YtmofknmeljdodaaGreatDoorZB01
set_option maxHeartbeats 100000000
set_option maxRecDepth 100000
set_option linter.unusedVariables false
set_option linter.unusedSimpArgs false
open List renaming getElem_toArray→gTA,getElem_cons_zero→gCZ,getElem_cons_succ→gCS,setIfInBounds_toArray→sTA,set_cons_zero→sCZ,set_cons_succ→sCS
namespace Go.Proofs.YtmofknmeljdodaaGreatDoor
section
open Go.RowKit
def trC (t:PTr):List Value:=[.int .i64 t.up, .int .i64 t.mi]
theorem pbtw_any (n lo hi:Int) (w:World):Calls Tryz.prog 205 #[.int .i64 n, .int .i64 lo, .int .i64 hi] w fun e w'=>e= .returned (.bool (btw n lo hi))∧w=w':=by
 by_cases h1:lo≤n
 ·go_enter Tryz.func205,Tryz.ntmps205
  go_wp2
  go_ret
  exact⟨by simp[btw,h1],rfl⟩
 ·go_enter Tryz.func205,Tryz.ntmps205
  go_wp2
  go_ret
  exact⟨by simp[btw];omega,rfl⟩
def prV (p:Prc) (a:Option Addr) (cap:Nat):Value:= .agg #[.int .i64 p.fi, .int .i64 p.fu, .int .i64 p.iv, .slice a p.ts.length cap]
def prO (p:Prc) (a:Option Addr) (cap:Nat):Obj:= .cells #[.int .i64 p.fi, .int .i64 p.fu, .int .i64 p.iv, .slice a p.ts.length cap] 89
def tierL (l:List PTr):List Int:=(List.range l.length).map (tierE l)
theorem tierL_at {l:List PTr} {k:Nat} (hk:k<l.length):(tierL l)[k]? =some (tierE l k):=by
 unfold tierL;rw[List.getElem?_map,List.getElem?_range hk];rfl
theorem tierE_eq (l:List PTr) (k:Nat):tierE l k=(if btw (miAt l k) 0 1000000000=false then 2 else if k+1=l.length then(if upAt l k≠0 then 2 else 0)else if btw (upAt l k) 1 1000000000000=false then 2 else if 0<k∧upAt l k≤upAt l (k-1)then 11 else 0):=rfl
theorem tierL_all {l:List PTr}:(tierL l).take l.length=tierL l:=List.take_of_length_le (by unfold tierL;simp)
theorem pcheck_any (p:Prc) (a:Option Addr) (cap:Nat) (w:World) (h:SlIs trC 2 w a p.ts.length p.ts) (hm:p.ts.length≤maxLen):Calls Tryz.prog 133 #[prV p a cap] w fun e w'=>e= .returned (.int .i64 (priceZ p))∧Chg [] w w':=by
 obtain⟨Z,hZ⟩:∃Z,Z=priceZ p:=⟨_,rfl⟩
 rw[←hZ]
 unfold priceZ at hZ
 have HZ:=LH hZ
 obtain⟨fi,fu,iv,ts⟩:=p
 simp only at HZ h hm
 have hx:=LH (heap_alloc_new w (prO ⟨fi,fu,iv,ts⟩ a cap))
 have hC0:=LH (show Chg [] w (w.alloc (prO ⟨fi,fu,iv,ts⟩ a cap))from(Chg.refl _ _).alloc _)
 obtain⟨W1,hW1⟩:∃W1,W1=w.alloc (prO ⟨fi,fu,iv,ts⟩ a cap):=⟨_,rfl⟩
 rw[←hW1]at hx hC0
 have HW1:=LH hW1
 have k1:=blk_cell hx.out
 unfold prO at HW1 hx k1
 have H:=LH (h.kept hC0.out)
 have P:=LH (fun n lo hi w'=>pbtw_any n lo hi w')
 unfold maxLen at hm
 have lb:=lt_of_heap hx.out
 clear h hZ hW1
 unfold prV
 have hguard:(btw fi 0 1000000000=false∨btw fu 0 1000000000=false∨btw iv 0 1000000000=false)∨(btw fi 0 1000000000=true∧btw fu 0 1000000000=true∧btw iv 0 1000000000=true):=by
  cases btw fi 0 1000000000<;>cases btw fu 0 1000000000<;>cases btw iv 0 1000000000<;>simp
 have P1:=LH (fun w'=>P.out fi 0 1000000000 w')
 have P2:=LH (fun w'=>P.out fu 0 1000000000 w')
 have P3:=LH (fun w'=>P.out iv 0 1000000000 w')
 have P4:=LH (fun w'=>P.out (ts.length:Int) 1 8 w')
 rcases hguard with hg|⟨g1,g2,g3⟩
 ·have HE:=LH (HZ.out.trans (if_pos hg))
  rw[HE.out]
  generalize btw fi 0 1000000000=b1 at*
  generalize btw fu 0 1000000000=b2 at*
  generalize btw iv 0 1000000000=b3 at*
  cases b1<;>cases b2<;>cases b3
  all_goals first
   |(exfalso;simp at hg;done)
   |(clear hg HZ
     go_enter Tryz.func133,Tryz.ntmps133
     go_wp2_with fail
     rw[←HW1.out]
     go_wp2_with (first|(go_at_call 205;(with_reducible refine(P1.out _).mono ?_);rintro e w1 ⟨rfl,rfl⟩)|(go_at_call 205;(with_reducible refine(P2.out _).mono ?_);rintro e w1 ⟨rfl,rfl⟩)|(go_at_call 205;(with_reducible refine(P3.out _).mono ?_);rintro e w1 ⟨rfl,rfl⟩))
     go_ret
     exact⟨rfl,hC0.out⟩)
 ·have HZ1:=LH (HZ.out.trans (if_neg (by rw[g1,g2,g3];simp)))
  rw[g1]at P1
  rw[g2]at P2
  rw[g3]at P3
  clear HZ g1 g2 g3
  by_cases hn:ts.length<1∨8<ts.length
  ·have HE:=LH (HZ1.out.trans (if_pos hn))
   rw[HE.out]
   rw[show btw (ts.length:Int) 1 8=false by rw[←Bool.not_eq_true,btw_iff];omega]at P4
   clear hn HZ1
   go_enter Tryz.func133,Tryz.ntmps133
   go_wp2_with fail
   rw[←HW1.out]
   go_wp2_with (first|(go_at_call 205;(with_reducible refine(P1.out _).mono ?_);rintro e w1 ⟨rfl,rfl⟩)|(go_at_call 205;(with_reducible refine(P2.out _).mono ?_);rintro e w1 ⟨rfl,rfl⟩)|(go_at_call 205;(with_reducible refine(P3.out _).mono ?_);rintro e w1 ⟨rfl,rfl⟩)|(go_at_call 205;(with_reducible refine(P4.out _).mono ?_);rintro e w1 ⟨rfl,rfl⟩))
   go_ret
   exact⟨rfl,hC0.out⟩
  ·have HE:=LH (show Z=errs (tierL ts)from HZ1.out.trans (if_neg hn))
   rw[show btw (ts.length:Int) 1 8=true by rw[btw_iff];omega]at P4
   have hn1:1≤ts.length:=by omega
   have hn8:ts.length≤8:=by omega
   clear hn HZ1
   go_enter Tryz.func133,Tryz.ntmps133
   go_wp2_with fail
   rw[←HW1.out]
   go_wp2_with (first|(go_at_call 205;(with_reducible refine(P1.out _).mono ?_);rintro e w1 ⟨rfl,rfl⟩)|(go_at_call 205;(with_reducible refine(P2.out _).mono ?_);rintro e w1 ⟨rfl,rfl⟩)|(go_at_call 205;(with_reducible refine(P3.out _).mono ?_);rintro e w1 ⟨rfl,rfl⟩)|(go_at_call 205;(with_reducible refine(P4.out _).mono ?_);rintro e w1 ⟨rfl,rfl⟩))
   obtain⟨nl,hnl⟩:∃nl,ts.length=nl+1:=⟨ts.length-1,by omega⟩
   have zl:IntKind.i64.wrap ((ts.length:Int)-1)=(nl:Int):=by rw[IntKind.wrap_i64];omega
   have HNL:=LH hnl
   clear hnl
   go_quiet (fail)
   have C1:=LH (hC0.out.drewN nq)
   have H1:=LH (H.out.kept ((Chg.refl [] W1).drewN nq))
   have k2:=blk_cell (((Chg.refl [] W1).drewN nq).at (by simp) hx.out)
   generalize W1.drewN nq=W2 at*
   clear k1 HW1 hC0
   go_wp2_with fail
   go_loopw [3,37] (fun bf i wr=>∃k:Nat,i= .int .i64 k∧bf= .int .i64 (if k=0 then 0 else upAt ts (k-1))∧k≤ts.length∧Hid (errs ((tierL ts).take k)=0)∧Hid (Chg [] W2 wr)) (fun _ i _=>ts.length-(intOf i).toNat)
   case atStart=>exact⟨0,rfl,rfl,Nat.zero_le _,LH rfl,LH (Chg.refl _ _)⟩
   case round=>
    obtain⟨k,rfl,rfl,hk,HF,HC⟩:=hrel
    by_cases hkn:k<ts.length
    ·obtain⟨g,o,rfl, -,hbr,hcc⟩:=H1.out.elem HC.out k hkn
     have d0:=hcc 0 (by omega)
     have d1:=hcc 1 (by omega)
     obtain⟨x,hx1⟩:∃x,ts[k]? =some x:=⟨ts[k],List.getElem?_eq_getElem hkn⟩
     have hxe:=(List.getElem?_eq_some_iff.1 hx1).2
     rw[hxe]at d0 d1
     have hup:upAt ts k=x.up:=by unfold upAt;rw[hx1];rfl
     have hmi:miAt ts k=x.mi:=by unfold miAt;rw[hx1];rfl
     have HT:=LH (tierE_eq ts k)
     rw[hup,hmi]at HT
     have HAt:=LH (tierL_at hkn)
     have HErr:=LH (fun e (he:tierE ts k=e) (hne:e≠0)=>errs_at HF.out (HAt.out.trans (by rw[he])) hne)
     have HNx:=LH (fun(he:tierE ts k=0)=>errs_next HF.out (HAt.out.trans (by rw[he])))
     obtain⟨bf,hbf⟩:∃bf,bf=(if k=0 then 0 else upAt ts (k-1)):=⟨_,rfl⟩
     have hord:(0<k∧x.up≤upAt ts (k-1))↔(0<k∧x.up≤bf):=by
      rw[hbf];split<;>(rename_i q;simp[q])<;>omega
     have hbf0:k=0→bf=0:=fun q=>by rw[hbf,if_pos q]
     have HBF:=LH (show(if k+1=0 then 0 else upAt ts (k+1-1))=x.up by rw[if_neg (by omega),Nat.add_sub_cancel,hup])
     rw[←hbf]
     obtain⟨up,mi⟩:=x
     simp only[trC,List.getElem?_cons_zero,List.getElem?_cons_succ,Nat.add_zero]at d0 d1
     simp only at HT hord HBF
     generalize tierE ts k=E at*
     have hk0:(0:Int)≤(k:Int):=by omega
     have hk1:(k:Int)<(ts.length:Int):=by omega
     have C3:=LH (HC.out.alloc (.cells #[.int .i64 up, .int .i64 mi] 86))
     have M1:=LH (fun w'=>P.out mi 0 1000000000 w')
     have M2:=LH (fun w'=>P.out up 1 1000000000000 w')
     clear hcc hx1 hxe hup hmi hbf HF P
     cases hm1:btw mi 0 1000000000
     ·rw[hm1]at HT M1
      rw[if_pos rfl]at HT
      have HE2:=LH (show Z=2 by rw[HE.out];exact HErr.out 2 HT.out (by decide))
      clear hm1 hord hbf0
      go_wp2_with fail
      refine(M1.out _).mono ?_;rintro e w1 ⟨rfl,rfl⟩
      go_wp2_with fail
      go_ret
      exact⟨by rw[HE2.out];rfl,C1.out.thenSame C3.out⟩
     rw[hm1]at HT M1
     rw[if_neg (by simp)]at HT
     by_cases hl:k+1=ts.length
     ·rw[if_pos hl]at HT
      have e1:((k:Int)==(nl:Int))=true:=by rw[beq_iff_eq];have:=HNL.out;omega
      have e2: ¬(k:Int)<(nl:Int):=by have:=HNL.out;omega
      by_cases hu:up=0
      ·have e3:(up !=0)=false:=by rw[hu];rfl
       have HN:=LH (HNx.out (by rw[HT.out,if_neg (by simp[hu])]))
       clear hm1 hord hbf0 hl hu
       go_wp2_with fail
       refine(M1.out _).mono ?_;rintro e w1 ⟨rfl,rfl⟩
       go_wp2_with fail
       exact⟨⟨k+1,by go_num,by rw[HBF.out],by omega,HN,C3⟩,by simp[intOf];omega⟩
      ·have e3:(up !=0)=true:=by rw[bne_iff_ne];exact hu
       have HE2:=LH (show Z=2 by rw[HE.out];exact HErr.out 2 (by rw[HT.out,if_pos hu]) (by decide))
       clear hm1 hord hbf0 hl
       go_wp2_with fail
       refine(M1.out _).mono ?_;rintro e w1 ⟨rfl,rfl⟩
       go_wp2_with fail
       go_ret
       exact⟨by rw[HE2.out];rfl,C1.out.thenSame C3.out⟩
     ·rw[if_neg hl]at HT
      have e1:((k:Int)==(nl:Int))=false:=by rw[beq_eq_false_iff_ne];have:=HNL.out;omega
      have e2:(k:Int)<(nl:Int):=by have:=HNL.out;omega
      cases hm2:btw up 1 1000000000000
      ·rw[hm2]at HT M2
       rw[if_pos rfl]at HT
       have HE2:=LH (show Z=2 by rw[HE.out];exact HErr.out 2 HT.out (by decide))
       clear hm1 hm2 hord hbf0 hl
       go_wp2_with fail
       refine(M1.out _).mono ?_;rintro e w1 ⟨rfl,rfl⟩
       go_wp2_with fail
       refine(M2.out _).mono ?_;rintro e w1 ⟨rfl,rfl⟩
       go_wp2_with fail
       go_ret
       exact⟨by rw[HE2.out];rfl,C1.out.thenSame C3.out⟩
      ·have hu1:=(btw_iff.1 hm2).1
       rw[hm2]at HT M2
       rw[if_neg (by simp)]at HT
       by_cases ho:up≤bf
       ·have hk1':0<k:=Nat.pos_of_ne_zero fun q=>by have:=hbf0 q;omega
        have HE2:=LH (show Z=11 by rw[HE.out];exact HErr.out 11 (by rw[HT.out,if_pos (hord.2 ⟨hk1',ho⟩)]) (by decide))
        clear hm1 hm2 hord hbf0 hl
        go_wp2_with fail
        refine(M1.out _).mono ?_;rintro e w1 ⟨rfl,rfl⟩
        go_wp2_with fail
        refine(M2.out _).mono ?_;rintro e w1 ⟨rfl,rfl⟩
        go_wp2_with fail
        go_ret
        exact⟨by rw[HE2.out];rfl,C1.out.thenSame C3.out⟩
       ·have HN:=LH (HNx.out (by rw[HT.out,if_neg (fun q=>ho (hord.1 q).2)]))
        clear hm1 hm2 hord hbf0 hl
        go_wp2_with fail
        refine(M1.out _).mono ?_;rintro e w1 ⟨rfl,rfl⟩
        go_wp2_with fail
        refine(M2.out _).mono ?_;rintro e w1 ⟨rfl,rfl⟩
        go_wp2_with fail
        exact⟨⟨k+1,by go_num,by rw[HBF.out],by omega,HN,C3⟩,by simp[intOf];omega⟩
    ·have hke:k=ts.length:=by omega
     have HE2:=LH (show Z=0 by rw[HE.out];have:=HF.out;rwa[hke,tierL_all]at this)
     have hkn2: ¬(k:Int)<(ts.length:Int):=by omega
     generalize (if k=0 then(0:Int)else upAt ts (k-1))=bf at*
     clear hke
     go_wp2_with fail
     go_ret
     exact⟨by rw[HE2.out];rfl,C1.out.thenSame HC.out⟩
end
section
open Go.RowKit
theorem wrapJ {a:Int} (h1: -9223372036854775808≤a) (h2:a<9223372036854775808):IntKind.i64.wrap a=a:=by rw[IntKind.wrap_i64];omega
def billZ (p:Prc) (u:Us):Int×Int×Int:=if priceZ p≠0 then(0,0,priceZ p)else if usB u=false then(0,0,2)else(max (u.inv-p.fi) 0,max (u.units-p.fu) 0,0)
theorem usB_ok {u:Us} (h:usB u=true):(0≤u.inv∧u.inv≤1000000000000)∧(0≤u.units∧u.units≤1000000000000):=by
 unfold usB at h
 simp only[Bool.and_eq_true,amtB_iff]at h
 omega
theorem pbill_any (p:Prc) (u:Us) (a:Option Addr) (cap:Nat) (w:World) (h:SlIs trC 2 w a p.ts.length p.ts) (hm:p.ts.length≤maxLen):Calls Tryz.prog 76 #[prV p a cap,usV u] w fun e w'=>e= .returned (.tuple #[.int .i64 (billZ p u).1, .int .i64 (billZ p u).2.1, .int .i64 (billZ p u).2.2])∧Chg [] w w':=by
 obtain⟨Z,hZ⟩:∃Z,Z=billZ p u:=⟨_,rfl⟩
 rw[←hZ]
 unfold billZ at hZ
 have HZ:=LH hZ
 have A:=LH (fun w' (hc:Chg [] w w')=>pcheck_any p a cap w' (h.kept hc) hm)
 have HPR:=LH (fun h0=>price_ok (p:=p) h0)
 have HUS:=LH (fun h0=>usB_ok (u:=u) h0)
 have M:=LH (fun w'=>mvalid_any u w')
 clear h hZ
 obtain⟨W1,hW1⟩:∃W1,W1=(w.alloc (prO p a cap)).alloc (.cells #[.int .i64 u.inv, .int .i64 u.steps, .int .i64 u.ticks, .int .i64 u.units] 96):=⟨_,rfl⟩
 have hC1:=LH (show Chg [] w W1 from hW1▸((Chg.refl _ _).alloc _).alloc _)
 have x1:=LH (show W1.heap[w.heap.size]? =some (prO p a cap)from hW1▸blk_alloc (heap_alloc_new _ _))
 have x2:=LH (show W1.heap[w.heap.size+1]? =some (.cells #[.int .i64 u.inv, .int .i64 u.steps, .int .i64 u.ticks, .int .i64 u.units] 96)from by
  rw[hW1]
  have:=heap_alloc_new (w.alloc (prO p a cap)) (.cells #[.int .i64 u.inv, .int .i64 u.steps, .int .i64 u.ticks, .int .i64 u.units] 96)
  rwa[World.size_alloc]at this)
 have HW1:=LH hW1
 clear hW1
 obtain⟨fi,fu,iv,ts⟩:=p
 obtain⟨inv,steps,ticks,units⟩:=u
 unfold prO at HW1 x1
 unfold prV at A⊢
 unfold usV at M⊢
 simp only at HZ A HPR HUS M HW1 x1 x2⊢
 generalize priceZ ⟨fi,fu,iv,ts⟩=pz at*
 generalize usB ⟨inv,steps,ticks,units⟩=ub at*
 have k1:=blk_cell x1.out
 have k2:=blk_cell x2.out
 have lt2:=lt_of_heap x2.out
 by_cases hp:pz=0
 ·subst hp
  have HZ1:=LH (HZ.out.trans (if_neg (by simp)))
  cases ub
  ·have HE:=LH (HZ1.out.trans (if_pos rfl))
   rw[HE.out]
   go_enter Tryz.func76,Tryz.ntmps76
   go_wp2_with fail
   rw[←HW1.out]
   go_wp2_with fail
   refine(A.out _ hC1.out).mono ?_;rintro e w2 ⟨rfl,hc2⟩
   have C2:=LH (hC1.out.thenSame hc2)
   have k4:=blk_cell (hc2.at (by simp) x2.out)
   clear hc2 k1 k2
   go_wp2_with fail
   refine(M.out _).mono ?_;rintro e w3 ⟨rfl,hc3⟩
   have C3:=LH (C2.out.thenSame hc3)
   clear hc3
   go_wp2_with fail
   go_ret3
   exact⟨rfl,C3.out⟩
  ·have HE:=LH (HZ1.out.trans (if_neg (by simp)))
   obtain⟨⟨p1,p2⟩,⟨p3,p4⟩, -⟩:=HPR.out rfl
   obtain⟨⟨u1,u2⟩,⟨u3,u4⟩⟩:=HUS.out rfl
   rw[HE.out]
   have z1:IntKind.i64.wrap (inv-fi)=inv-fi:=wrapJ (by omega) (by omega)
   have z2:IntKind.i64.wrap (units-fu)=units-fu:=wrapJ (by omega) (by omega)
   go_enter Tryz.func76,Tryz.ntmps76
   go_wp2_with fail
   rw[←HW1.out]
   go_wp2_with fail
   refine(A.out _ hC1.out).mono ?_;rintro e w2 ⟨rfl,hc2⟩
   have C2:=LH (hC1.out.thenSame hc2)
   have X3:=LH (hc2.at (by simp) x1.out)
   have X4:=LH (hc2.at (by simp) x2.out)
   have k4:=blk_cell X4.out
   clear hc2 k1 k2
   go_wp2_with fail
   refine(M.out _).mono ?_;rintro e w3 ⟨rfl,hc3⟩
   have C3:=LH (C2.out.thenSame hc3)
   have k5:=blk_cell (hc3.at (by simp) X3.out)
   have k6:=blk_cell (hc3.at (by simp) X4.out)
   clear hc3 k4
   go_wp2_with fail
   go_quiet (fail)
   go_wp2_with fail
   trace_state
   go_ret3
   exact⟨rfl,C3.out.drewN _⟩
 ·have HE:=LH (HZ.out.trans (if_pos hp))
  have hb:(pz !=0)=true:=by rw[bne_iff_ne];exact hp
  rw[HE.out]
  go_enter Tryz.func76,Tryz.ntmps76
  go_wp2_with fail
  rw[←HW1.out]
  go_wp2_with fail
  refine(A.out _ hC1.out).mono ?_;rintro e w2 ⟨rfl,hc2⟩
  have C2:=LH (hC1.out.thenSame hc2)
  clear hc2 k1 k2
  go_wp2_with fail
  go_ret3
  exact⟨rfl,C2.out⟩
end
section
open Go.RowKit
theorem padd_any (n m S sb:Nat) (w:World) (h:w.heap[sb]? =some (.cells #[.int .u64 S] 215)) (hn:n≤1000000000000) (hm:m≤1000000000) (hS:S≤1000000000000):Calls Tryz.prog 77 #[.int .i64 n, .int .i64 m, .pointer (some ⟨sb,0,none⟩)] w fun e w'=>e= .returned (.bool (decide (S+n*m≤1000000000000)))∧(∃v:Nat,w'.heap[sb]? =some (.cells #[.int .u64 v] 215)∧(S+n*m≤1000000000000→v=S+n*m))∧Chg [sb] w w':=by
 have A:=Tryz.bits_Mul64 n m (by omega) (by omega)
 obtain⟨P,hP⟩:∃P,P=n*m:=⟨_,rfl⟩
 have hPl:P≤1000000000000000000000:=by rw[hP];exact Nat.mul_le_mul hn hm
 rw[←hP]at A⊢
 obtain⟨hi,hhi⟩:∃hi,hi=P/18446744073709551616:=⟨_,rfl⟩
 obtain⟨lo,hlo⟩:∃lo,lo=P%18446744073709551616:=⟨_,rfl⟩
 rw[←hhi,←hlo]at A
 have A:=LH A
 rename_i A0
 have X:=LH h
 have c0:=blk_cell h 0
 have f0:=blk_free h
 have l0:=lt_of_heap h
 simp only[List.getElem?_toArray,List.getElem?_cons_zero]at c0
 obtain⟨V,hV⟩:∃V:Nat,V=(S+lo)%18446744073709551616:=⟨_,rfl⟩
 have z1:IntKind.u64.wrap ((S:Int)+(lo:Int))=(V:Int):=by rw[IntKind.wrap_u64];omega
 have zn:IntKind.u64.wrap (n:Int)=(n:Int):=u64_in (by omega) (by omega)
 have zm:IntKind.u64.wrap (m:Int)=(m:Int):=u64_in (by omega) (by omega)
 have HV:=LH (show S+P≤1000000000000→V=S+P by omega)
 have XN:=LH (show(w.setCell ⟨sb,0,none⟩ (.int .u64 V)).heap[sb]? =some (.cells #[.int .u64 V] 215) by rw[blk_set h];rfl)
 have c1:=blk_cell XN.out 0
 simp only[List.getElem?_toArray,List.getElem?_cons_zero]at c1
 have HR:(hi≠0∧ ¬S+P≤1000000000000)∨(hi=0∧1000000000000<lo∧ ¬S+P≤1000000000000)∨(hi=0∧lo≤1000000000000∧(S+P≤1000000000000↔V≤1000000000000)):=by omega
 have HC:=LH (show Chg [sb] w (w.setCell ⟨sb,0,none⟩ (.int .u64 V))from(Chg.refl _ _).setCell _ _ (by simp))
 clear A0 h hhi hlo hPl hP hV
 rcases HR with ⟨r1,r2⟩|⟨r1,r2,r3⟩|⟨r1,r2,r3⟩
 ·have hb:((hi:Int)==0)=false:=by rw[beq_eq_false_iff_ne];omega
  have HE:=LH (show decide (S+P≤1000000000000)=false from decide_eq_false r2)
  clear r2
  rw[HE.out]
  go_enter Tryz.func77,Tryz.ntmps77
  go_wp2_with fail
  refine(A.out _).mono ?_;rintro e w1 ⟨rfl,rfl⟩
  go_wp2_with fail
  go_ret
  exact⟨rfl,⟨V,XN.out,HV.out⟩,HC.out⟩
 ·subst r1
  have hb: ¬(lo:Int)≤1000000000000:=by omega
  have HE:=LH (show decide (S+P≤1000000000000)=false from decide_eq_false r3)
  clear r3
  rw[HE.out]
  go_enter Tryz.func77,Tryz.ntmps77
  go_wp2_with fail
  refine(A.out _).mono ?_;rintro e w1 ⟨rfl,rfl⟩
  go_wp2_with fail
  go_ret
  exact⟨rfl,⟨V,XN.out,HV.out⟩,HC.out⟩
 ·subst r1
  have hb:(lo:Int)≤1000000000000:=by omega
  by_cases hv:V≤1000000000000
  ·have hv2:(V:Int)≤1000000000000:=by omega
   have HE:=LH (show decide (S+P≤1000000000000)=true from decide_eq_true (r3.2 hv))
   rw[HE.out]
   go_enter Tryz.func77,Tryz.ntmps77
   go_wp2_with fail
   refine(A.out _).mono ?_;rintro e w1 ⟨rfl,rfl⟩
   go_wp2_with fail
   go_ret
   exact⟨rfl,⟨V,XN.out,HV.out⟩,HC.out⟩
  ·have hv2: ¬(V:Int)≤1000000000000:=by omega
   have HE:=LH (show decide (S+P≤1000000000000)=false from decide_eq_false fun q=>hv (r3.1 q))
   rw[HE.out]
   go_enter Tryz.func77,Tryz.ntmps77
   go_wp2_with fail
   refine(A.out _).mono ?_;rintro e w1 ⟨rfl,rfl⟩
   go_wp2_with fail
   go_ret
   exact⟨congrArg (fun b=>Ending.returned (Value.bool b)) (decide_eq_false (by omega)),⟨V,XN.out,HV.out⟩,HC.out⟩
end
section
open Go.RowKit
def partsTo (l:List PTr) (n:Int) (k:Nat):List Int:=(List.range 8).map fun j=>if j<k then partAt l n j else 0
theorem partsTo_zero (l:List PTr) (n:Int):partsTo l n 0=[0,0,0,0,0,0,0,0]:=by
 unfold partsTo
 simp only[Nat.not_lt_zero,if_false]
 rfl
theorem partsTo_at {l:List PTr} {n:Int} {k j:Nat} (hj:j<8):(partsTo l n k)[j]? =some (if j<k then partAt l n j else 0):=by
 unfold partsTo;rw[List.getElem?_map,List.getElem?_range hj];rfl
theorem partsTo_next {l:List PTr} {n:Int} {k:Nat} (hk:k<8):(partsTo l n k).set k (partAt l n k)=partsTo l n (k+1):=by
 apply List.ext_getElem?
 intro j
 rw[List.getElem?_set]
 by_cases hj:j<8
 ·rw[partsTo_at hj,partsTo_at hj]
  by_cases e:k=j
  ·subst e
   rw[if_pos rfl,if_pos (by unfold partsTo;simp;omega),if_pos (by omega)]
  ·rw[if_neg e]
   by_cases q:j<k
   ·rw[if_pos q,if_pos (by omega)]
   ·rw[if_neg q,if_neg (by omega)]
 ·have h1:∀k,(partsTo l n k)[j]? =none:=fun k=>List.getElem?_eq_none (by unfold partsTo;simp;omega)
  rw[h1,h1]
  split
  ·rename_i e;rw[if_neg (by unfold partsTo;simp;omega)]
  ·rfl
def PB8 (w:World) (b:Nat) (l:List Int):Prop:=w.heap[b]? =some (.cells (l.map (Value.int .i64)).toArray 219)
theorem PB8.set {w:World} {b:Nat} {l:List Int} (h:PB8 w b l) (i:Nat) (x:Int):PB8 (w.setCell ⟨b,i,none⟩ (.int .i64 x)) b (l.set i x):=by
 have:=blk_set h i (.int .i64 x)
 unfold PB8
 rw[this]
 congr 2
 apply Array.ext'
 simp
theorem fromAt_le {l:List PTr} (h:∀k,k<l.length→upAt l k≤1000000000000) {k:Nat} (hk:k≤l.length):fromAt l k≤1000000000000:=by
 induction k with
 |zero=>simp[fromAt]
 |succ k ih=>rw[fromAt];have:=ih (by omega);have:=h k (by omega);omega
theorem zeros8 (W:World) (o1 o2 o3:Obj):(((W.alloc o1).alloc o2).alloc o3).heap[W.heap.size]? =some o1∧(((W.alloc o1).alloc o2).alloc o3).heap[W.heap.size+1]? =some o2∧(((W.alloc o1).alloc o2).alloc o3).heap[W.heap.size+1+1]? =some o3:=by
 refine⟨blk_alloc (blk_alloc (heap_alloc_new W o1)),blk_alloc ?_, ?_⟩
 ·have:=heap_alloc_new (W.alloc o1) o2
  rw[World.size_alloc]at this
  exact this
 ·have:=heap_alloc_new ((W.alloc o1).alloc o2) o3
  rw[World.size_alloc,World.size_alloc]at this
  exact this
structure SplI (w wr:World) (fi fu iv:Int) (ts:List PTr) (n:Int) (a:Option Addr) (cap k:Nat):Prop where
 p:wr.heap[w.heap.size]? =some (.cells #[.int .i64 fi, .int .i64 fu, .int .i64 iv, .slice a ts.length cap] 89)
 r:wr.heap[w.heap.size+1]? =some (.cells #[.int .i64 0, .int .i64 0, .int .i64 0, .int .i64 0, .int .i64 0, .int .i64 0, .int .i64 0, .int .i64 0] 219)
 o:PB8 wr (w.heap.size+1+1) (partsTo ts n k)
 chg:Chg [] w wr
theorem psplit_any (p:Prc) (n:Int) (a:Option Addr) (cap:Nat) (w:World) (h:SlIs trC 2 w a p.ts.length p.ts) (hp:priceZ p=0) (hn0:0≤n) (hn1:n≤1000000000000):Calls Tryz.prog 79 #[prV p a cap, .int .i64 n] w fun e w'=>e= .returned (.agg ((partsTo p.ts n p.ts.length).map (Value.int .i64)).toArray)∧Chg [] w w':=by
 obtain⟨-, -, -,hl1,hl8⟩:=price_ok hp
 have HT:=LH (fun k (hk:k<p.ts.length)=>tier_ok (tiers_ok hp hk))
 obtain⟨fi,fu,iv,ts⟩:=p
 simp only at h hl1 hl8 HT⊢
 have H:=LH h
 clear h hp
 unfold prV
 simp only
 go_enter Tryz.func79,Tryz.ntmps79
 go_wp2_with fail
 go_loopw [6,13] (fun ff i wr=>∃k:Nat,i= .int .i64 k∧ff= .int .i64 (fromAt ts k)∧k≤ts.length∧Hid (SplI w wr fi fu iv ts n a cap k)) (fun _ i _=>ts.length-(intOf i).toNat)
 case atStart=>
  refine⟨0,rfl,rfl,Nat.zero_le _,LH ⟨(zeros8 w _ _ _).1,(zeros8 w _ _ _).2.1, ?_,(((Chg.refl [] w).alloc _).alloc _).alloc _⟩⟩
  unfold PB8
  rw[partsTo_zero]
  exact(zeros8 w _ _ _).2.2
 case round=>
  obtain⟨k,rfl,rfl,hk,HI⟩:=hrel
  by_cases hkn:k<ts.length
  ·obtain⟨g,o,rfl, -,hbr,hcc⟩:=H.out.elem HI.out.chg k hkn
   have d0:=hcc 0 (by omega)
   have d1:=hcc 1 (by omega)
   obtain⟨x,hx1⟩:∃x,ts[k]? =some x:=⟨ts[k],List.getElem?_eq_getElem hkn⟩
   have hxe:=(List.getElem?_eq_some_iff.1 hx1).2
   rw[hxe]at d0 d1
   have hup:upAt ts k=x.up:=by unfold upAt;rw[hx1];rfl
   have hf0:=fromAt_nn ts k
   have hf1:fromAt ts k≤1000000000000:=fromAt_le (fun j hj=>by
    have:=(HT.out j hj).2.2
    by_cases q:j+1=ts.length
    ·have:=this.1 q;omega
    ·exact(this.2 q).2) (by omega)
   have hux:=(HT.out k hkn).2.2
   rw[hup]at hux
   have HFN:=LH (show fromAt ts (k+1)=max (fromAt ts k) x.up by rw[fromAt,hup])
   have HPN:=LH (show partAt ts n k=max ((if k+1=ts.length then n else min n x.up)-fromAt ts k) 0 by unfold partAt;rw[hup])
   have HX:=LH (partsTo_next (l:=ts) (n:=n) (k:=k) (by omega))
   have k1:=blk_cell HI.out.p
   obtain⟨up,mi⟩:=x
   simp only[trC,List.getElem?_cons_zero,List.getElem?_cons_succ,Nat.add_zero]at d0 d1
   simp only at HFN HPN hux
   generalize fromAt ts k=ff at*
   have hk0:(0:Int)≤(k:Int):=by omega
   have hk1:(k:Int)<(ts.length:Int):=by omega
   have hk8:(k:Int)<8:=by omega
   have I2:=LH (show SplI w (wr.alloc (.cells #[.int .i64 up, .int .i64 mi] 86)) fi fu iv ts n (some ⟨g,o,none⟩) cap k from⟨blk_alloc HI.out.p,blk_alloc HI.out.r,blk_alloc HI.out.o,HI.out.chg.alloc _⟩)
   have co:(wr.alloc (.cells #[.int .i64 up, .int .i64 mi] 86)).cell? ⟨w.heap.size+1+1,k,none⟩=some (.int .i64 (if k<k then partAt ts n k else 0)):=by
    rw[blk_cell I2.out.o];rw[List.getElem?_toArray,List.getElem?_map,partsTo_at (by omega)];rfl
   have fo:=blk_free I2.out.o
   have lo:=lt_of_heap I2.out.o
   have k3:=blk_cell I2.out.p
   have HNI:=LH (show ∀V:Int,V=partAt ts n k→SplI w ((wr.setCell ⟨w.heap.size+1+1,k,none⟩ (.int .i64 V)).alloc (.cells #[.int .i64 up, .int .i64 mi] 86)) fi fu iv ts n (some ⟨g,o,none⟩) cap (k+1)from fun V hV=>by
    have hs:=HI.out.o.set k V
    rw[hV,HX.out]at hs
    rw[hV]
    exact⟨blk_alloc ((blk_set_ne _ _ (by omega)).trans HI.out.p),blk_alloc ((blk_set_ne _ _ (by omega)).trans HI.out.r),blk_alloc hs,(HI.out.chg.setCell _ _ (fun q=>absurd q (by simp only;omega))).alloc _⟩)
   have hA:=lt_of_heap HI.out.o
   have ct:∀V:Int,((wr.alloc (.cells #[.int .i64 up, .int .i64 mi] 86)).setCell ⟨w.heap.size+1+1,k,none⟩ (.int .i64 V)).cell? ⟨wr.heap.size,0,none⟩=some (.int .i64 up):=fun V=>by
    rw[World.cell?_of_block (blk_set_ne (b':=wr.heap.size) (b:=w.heap.size+1+1) k (.int .i64 V) (by omega)),blk_cell (heap_alloc_new wr _)];rfl
   clear hcc hx1 hxe hup
   by_cases hl:k+1=ts.length
   ·rw[if_pos hl]at HPN
    have hup0:=hux.1 hl
    obtain⟨nl,hnl⟩:∃nl,ts.length=nl+1:=⟨ts.length-1,by omega⟩
    have zl:(ts.length:Int)-1=(nl:Int):=by omega
    have e1:((k:Int)==(nl:Int))=true:=by rw[beq_iff_eq];omega
    have NI:=LH (HNI.out (max (min n n-ff) 0) (by rw[HPN.out,Int.min_self]))
    have NI2:=LH (HNI.out (max (n-ff) 0) HPN.out.symm)
    clear hl hux HNI hnl hup0
    go_wp2_with fail
    exact⟨⟨k+1,by go_num,by rw[HFN.out],by omega,NI2⟩,by simp[intOf];omega⟩
   ·rw[if_neg hl]at HPN
    have hup1:=hux.2 hl
    obtain⟨nl,hnl⟩:∃nl,ts.length=nl+1:=⟨ts.length-1,by omega⟩
    have zl:(ts.length:Int)-1=(nl:Int):=by omega
    have e1:((k:Int)==(nl:Int))=false:=by rw[beq_eq_false_iff_ne];omega
    have NI:=LH (HNI.out (max (min n up-ff) 0) HPN.out.symm)
    clear hl hux HNI hnl
    obtain⟨hu1,hu2⟩:=hup1
    go_wp2_with fail
    exact⟨⟨k+1,by go_num,by rw[HFN.out],by omega,NI⟩,by simp[intOf];omega⟩
  ·have hke:k=ts.length:=by omega
   have hkn2: ¬(k:Int)<(ts.length:Int):=by omega
   subst hke
   generalize fromAt ts ts.length=ff at*
   have k1:=blk_cell HI.out.r
   have X1:=LH HI.out.r
   have X2:=LH HI.out.o
   have f1:=blk_free HI.out.r
   have l1:=lt_of_heap HI.out.r
   have l2:=lt_of_heap HI.out.o
   have HC:=LH HI.out.chg
   obtain⟨x0,x1,x2,x3,x4,x5,x6,x7,hx⟩:∃x0 x1 x2 x3 x4 x5 x6 x7,partsTo ts n ts.length=[x0,x1,x2,x3,x4,x5,x6,x7]:=⟨_,_,_,_,_,_,_,_,rfl⟩
   have k2:=blk_cell X2.out
   rw[hx]at k2 X2
   have HX:=LH hx
   clear HI hx
   simp only[List.map_cons,List.map_nil]at k2
   go_wp2_with fail
   have h0:(wr.setCell ⟨w.heap.size+1,0,none⟩ (.int .i64 x0)).heap[w.heap.size+1]? =some (.cells #[.int .i64 x0, .int .i64 0, .int .i64 0, .int .i64 0, .int .i64 0, .int .i64 0, .int .i64 0, .int .i64 0] 219):=by rw[blk_set X1.out];rfl
   have h1:((wr.setCell ⟨w.heap.size+1,0,none⟩ (.int .i64 x0)).setCell ⟨w.heap.size+1,1,none⟩ (.int .i64 x1)).heap[w.heap.size+1]? =some (.cells #[.int .i64 x0, .int .i64 x1, .int .i64 0, .int .i64 0, .int .i64 0, .int .i64 0, .int .i64 0, .int .i64 0] 219):=by rw[blk_set h0];rfl
   have h2:(((wr.setCell ⟨w.heap.size+1,0,none⟩ (.int .i64 x0)).setCell ⟨w.heap.size+1,1,none⟩ (.int .i64 x1)).setCell ⟨w.heap.size+1,2,none⟩ (.int .i64 x2)).heap[w.heap.size+1]? =some (.cells #[.int .i64 x0, .int .i64 x1, .int .i64 x2, .int .i64 0, .int .i64 0, .int .i64 0, .int .i64 0, .int .i64 0] 219):=by rw[blk_set h1];rfl
   have h3:((((wr.setCell ⟨w.heap.size+1,0,none⟩ (.int .i64 x0)).setCell ⟨w.heap.size+1,1,none⟩ (.int .i64 x1)).setCell ⟨w.heap.size+1,2,none⟩ (.int .i64 x2)).setCell ⟨w.heap.size+1,3,none⟩ (.int .i64 x3)).heap[w.heap.size+1]? =some (.cells #[.int .i64 x0, .int .i64 x1, .int .i64 x2, .int .i64 x3, .int .i64 0, .int .i64 0, .int .i64 0, .int .i64 0] 219):=by rw[blk_set h2];rfl
   have h4:(((((wr.setCell ⟨w.heap.size+1,0,none⟩ (.int .i64 x0)).setCell ⟨w.heap.size+1,1,none⟩ (.int .i64 x1)).setCell ⟨w.heap.size+1,2,none⟩ (.int .i64 x2)).setCell ⟨w.heap.size+1,3,none⟩ (.int .i64 x3)).setCell ⟨w.heap.size+1,4,none⟩ (.int .i64 x4)).heap[w.heap.size+1]? =some (.cells #[.int .i64 x0, .int .i64 x1, .int .i64 x2, .int .i64 x3, .int .i64 x4, .int .i64 0, .int .i64 0, .int .i64 0] 219):=by rw[blk_set h3];rfl
   have h5:((((((wr.setCell ⟨w.heap.size+1,0,none⟩ (.int .i64 x0)).setCell ⟨w.heap.size+1,1,none⟩ (.int .i64 x1)).setCell ⟨w.heap.size+1,2,none⟩ (.int .i64 x2)).setCell ⟨w.heap.size+1,3,none⟩ (.int .i64 x3)).setCell ⟨w.heap.size+1,4,none⟩ (.int .i64 x4)).setCell ⟨w.heap.size+1,5,none⟩ (.int .i64 x5)).heap[w.heap.size+1]? =some (.cells #[.int .i64 x0, .int .i64 x1, .int .i64 x2, .int .i64 x3, .int .i64 x4, .int .i64 x5, .int .i64 0, .int .i64 0] 219):=by rw[blk_set h4];rfl
   have h6:(((((((wr.setCell ⟨w.heap.size+1,0,none⟩ (.int .i64 x0)).setCell ⟨w.heap.size+1,1,none⟩ (.int .i64 x1)).setCell ⟨w.heap.size+1,2,none⟩ (.int .i64 x2)).setCell ⟨w.heap.size+1,3,none⟩ (.int .i64 x3)).setCell ⟨w.heap.size+1,4,none⟩ (.int .i64 x4)).setCell ⟨w.heap.size+1,5,none⟩ (.int .i64 x5)).setCell ⟨w.heap.size+1,6,none⟩ (.int .i64 x6)).heap[w.heap.size+1]? =some (.cells #[.int .i64 x0, .int .i64 x1, .int .i64 x2, .int .i64 x3, .int .i64 x4, .int .i64 x5, .int .i64 x6, .int .i64 0] 219):=by rw[blk_set h5];rfl
   have h7:((((((((wr.setCell ⟨w.heap.size+1,0,none⟩ (.int .i64 x0)).setCell ⟨w.heap.size+1,1,none⟩ (.int .i64 x1)).setCell ⟨w.heap.size+1,2,none⟩ (.int .i64 x2)).setCell ⟨w.heap.size+1,3,none⟩ (.int .i64 x3)).setCell ⟨w.heap.size+1,4,none⟩ (.int .i64 x4)).setCell ⟨w.heap.size+1,5,none⟩ (.int .i64 x5)).setCell ⟨w.heap.size+1,6,none⟩ (.int .i64 x6)).setCell ⟨w.heap.size+1,7,none⟩ (.int .i64 x7)).heap[w.heap.size+1]? =some (.cells #[.int .i64 x0, .int .i64 x1, .int .i64 x2, .int .i64 x3, .int .i64 x4, .int .i64 x5, .int .i64 x6, .int .i64 x7] 219):=by rw[blk_set h6];rfl
   have r1:=blk_cell h7
   clear h0 h1 h2 h3 h4 h5 h6
   refine bodyPost_ret (v:= .agg #[.int .i64 x0, .int .i64 x1, .int .i64 x2, .int .i64 x3, .int .i64 x4, .int .i64 x5, .int .i64 x6, .int .i64 x7]) (by simp[results,Tryz.results79,go_sem,r1]) rfl ⟨by rw[HX.out];rfl, ?_⟩
   exact((((((((HC.out.setCell _ _ (fun q=>absurd (show w.heap.size+1<w.heap.size from q) (by omega))).setCell _ _ (fun q=>absurd (show w.heap.size+1<w.heap.size from q) (by omega))).setCell _ _ (fun q=>absurd (show w.heap.size+1<w.heap.size from q) (by omega))).setCell _ _ (fun q=>absurd (show w.heap.size+1<w.heap.size from q) (by omega))).setCell _ _ (fun q=>absurd (show w.heap.size+1<w.heap.size from q) (by omega))).setCell _ _ (fun q=>absurd (show w.heap.size+1<w.heap.size from q) (by omega))).setCell _ _ (fun q=>absurd (show w.heap.size+1<w.heap.size from q) (by omega))).setCell _ _ (fun q=>absurd (show w.heap.size+1<w.heap.size from q) (by omega)))
end
section
open Go.RowKit
def amtZ (p:Prc) (u:Us):Int×Int:=if(billZ p u).2.2≠0 then(0,(billZ p u).2.2)else costZ p (billZ p u).1 (billZ p u).2.1
theorem padd_int (n m S:Int) (sb:Nat) (w:World) (h:w.heap[sb]? =some (.cells #[.int .u64 S] 215)) (hn0:0≤n) (hn:n≤1000000000000) (hm0:0≤m) (hm:m≤1000000000) (hS0:0≤S) (hS:S≤1000000000000):Calls Tryz.prog 77 #[.int .i64 n, .int .i64 m, .pointer (some ⟨sb,0,none⟩)] w fun e w'=>e= .returned (.bool (decide (S+n*m≤1000000000000)))∧(∃v:Int,w'.heap[sb]? =some (.cells #[.int .u64 v] 215)∧(S+n*m≤1000000000000→v=S+n*m))∧Chg [sb] w w':=by
 obtain⟨n,rfl⟩:∃k:Nat,n=k:=⟨n.toNat,by omega⟩
 obtain⟨m,rfl⟩:∃k:Nat,m=k:=⟨m.toNat,by omega⟩
 obtain⟨S,rfl⟩:∃k:Nat,S=k:=⟨S.toNat,by omega⟩
 refine(padd_any n m S sb w h (by omega) (by omega) (by omega)).mono ?_
 rintro e w1 ⟨rfl,⟨v,hv,hvv⟩,hc⟩
 have e1:((S:Int)+(n:Int)*(m:Int)≤1000000000000)↔(S+n*m≤1000000000000):=by rw[←Int.natCast_mul];omega
 refine⟨by rw[decide_eq_decide.2 e1],⟨v,hv,fun q=> ?_⟩,hc⟩
 rw[hvv (e1.1 q),Int.natCast_add,Int.natCast_mul]
structure AmI (w wr:World) (p:Prc) (a:Option Addr) (cap:Nat) (b1 b2:Int) (sb ab k:Nat):Prop where
 pr:wr.heap[w.heap.size]? =some (prO p a cap)
 ar:wr.heap[ab]? =some (.cells ((partsTo p.ts b2 p.ts.length).map (Value.int .i64)).toArray 219)
 su:∃v:Int,wr.heap[sb]? =some (.cells #[.int .u64 v] 215)∧(costTo p b1 b2 k≤1000000000000→v=costTo p b1 b2 k)
 chg:Chg [] w wr
theorem pamt_any (p:Prc) (u:Us) (a:Option Addr) (cap:Nat) (w:World) (h:SlIs trC 2 w a p.ts.length p.ts) (hm:p.ts.length≤maxLen):Calls Tryz.prog 27 #[prV p a cap,usV u] w fun e w'=>e= .returned (.tuple #[.int .i64 (amtZ p u).1, .int .i64 (amtZ p u).2])∧Chg [] w w':=by
 obtain⟨Z,hZ⟩:∃Z,Z=amtZ p u:=⟨_,rfl⟩
 rw[←hZ]
 unfold amtZ at hZ
 have HZ:=LH hZ
 have A:=LH (fun w' (hc:Chg [] w w')=>pbill_any p u a cap w' (h.kept hc) hm)
 have H:=LH h
 obtain⟨W1,hW1⟩:∃W1,W1=(w.alloc (prO p a cap)).alloc (.cells #[.int .i64 u.inv, .int .i64 u.steps, .int .i64 u.ticks, .int .i64 u.units] 96):=⟨_,rfl⟩
 have hC1:=LH (show Chg [] w W1 from hW1▸((Chg.refl _ _).alloc _).alloc _)
 have x1:=LH (show W1.heap[w.heap.size]? =some (prO p a cap)from hW1▸blk_alloc (heap_alloc_new _ _))
 have x2:=LH (show W1.heap[w.heap.size+1]? =some (.cells #[.int .i64 u.inv, .int .i64 u.steps, .int .i64 u.ticks, .int .i64 u.units] 96)from by
  rw[hW1]
  have:=heap_alloc_new (w.alloc (prO p a cap)) (.cells #[.int .i64 u.inv, .int .i64 u.steps, .int .i64 u.ticks, .int .i64 u.units] 96)
  rwa[World.size_alloc]at this)
 have HW1:=LH hW1
 have HB:=LH (show ∃B,B=billZ p u from⟨_,rfl⟩)
 obtain⟨B,hB⟩:=HB.out
 rw[←hB]at HZ A
 have HBB:=LH hB
 clear hW1 h hZ HB hB
 have k1:=blk_cell x1.out
 have k2:=blk_cell x2.out
 have lt2:=lt_of_heap x2.out
 unfold prO at HW1 k1
 unfold prV usV at A⊢
 (try simp only at HW1 A⊢)
 obtain⟨b1,b2,b3⟩:=B
 (try simp only at HZ A)
 by_cases hb:b3=0
 ·subst hb
  have HZ1:=LH (HZ.out.trans (if_neg (by simp)))
  have hp:priceZ p=0:=by
   have h1:=HBB.out
   unfold billZ at h1
   split at h1
   ·have e:=congrArg (fun x=>x.2.2) h1
    exact e.symm
   ·rename_i q;simpa using q
  have hub:usB u=true∧b1=max (u.inv-p.fi) 0∧b2=max (u.units-p.fu) 0:=by
   have h1:=HBB.out
   unfold billZ at h1
   rw[if_neg (by simpa using hp)]at h1
   split at h1
   ·have e:=congrArg (fun x=>x.2.2) h1
    simp at e
   ·rename_i q
    exact⟨by simpa using q,congrArg (fun x=>x.1) h1,congrArg (fun x=>x.2.1) h1⟩
  obtain⟨hu,e1,e2⟩:=hub
  have hus:=usB_ok hu
  have hpo:=price_ok hp
  have hb1:0≤b1∧b1≤1000000000000:=by omega
  have hb2:0≤b2∧b2≤1000000000000:=by omega
  have SP:=LH (fun w' (hc:Chg [] w w')=>psplit_any p b2 a cap w' (H.out.kept hc) hp hb2.1 hb2.2)
  have HP:=LH hp
  clear e1 e2 hp
  go_enter Tryz.func27,Tryz.ntmps27
  go_wp2_with fail
  rw[←HW1.out]
  go_wp2_with fail
  refine(A.out _ hC1.out).mono ?_;rintro e w2 ⟨rfl,hc2⟩
  have C2:=LH (hC1.out.thenSame hc2)
  have X1:=LH (hc2.at (by simp) x1.out)
  have k3:=blk_cell X1.out
  unfold prO at k3
  have lt3:=lt_of_heap X1.out
  clear hc2 k1 k2
  have hp3:=hpo.2.2.1
  have PA0:=LH (fun w' (h:w'.heap[w2.heap.size]? =some (.cells #[.int .u64 0] 215))=>padd_int b1 p.iv 0 w2.heap.size w' h hb1.1 hb1.2 hp3.1 hp3.2 (by omega) (by omega))
  have hz0:(0:Int)+b1*p.iv=costTo p b1 b2 0:=by rw[costTo,Int.zero_add]
  rw[hz0]at PA0
  go_wp2_with fail
  refine(PA0.out _ (heap_alloc_new _ _)).mono ?_;rintro e w4 ⟨rfl,hv4,hc4⟩
  have C4:=LH (show Chg [] w w4 from(C2.out.alloc _).trans hc4 (by simp) (fun x hx hlt=>by simp at hx;have:=C2.out.size;omega))
  have X4:=LH (hc4.at (by simp;omega) (blk_alloc (o':= .cells #[.int .u64 0] 215) X1.out))
  have k4:=blk_cell X4.out
  unfold prO at k4
  have lt4:=lt_of_heap X4.out
  have HV4:=LH hv4
  have hz4:=hc4.size
  rw[World.size_alloc]at hz4
  clear hc4 k3 hv4 PA0
  go_wp2_with fail
  obtain⟨x0,x1,x2,x3,x4,x5,x6,x7,hx⟩:∃x0 x1 x2 x3 x4 x5 x6 x7,partsTo p.ts b2 p.ts.length=[x0,x1,x2,x3,x4,x5,x6,x7]:=⟨_,_,_,_,_,_,_,_,rfl⟩
  have SQ:=SP.out
  simp only[hx,List.map_cons,List.map_nil]at SQ
  have SP2:=LH SQ
  have HX:=LH hx
  clear hx SQ SP
  refine(SP2.out _ C4.out).mono ?_;rintro e w5 ⟨rfl,hc5⟩
  have C5:=LH (C4.out.thenSame hc5)
  have X5:=LH (hc5.at (by simp) X4.out)
  have V5:=LH (show ∃v:Int,w5.heap[w2.heap.size]? =some (.cells #[.int .u64 v] 215)∧(costTo p b1 b2 0≤1000000000000→v=costTo p b1 b2 0)from by
   obtain⟨v,h1,h2⟩:=HV4.out
   exact⟨v,hc5.at (by simp) h1,h2⟩)
  have k5:=blk_cell X5.out
  unfold prO at k5
  have lt5:=lt_of_heap X5.out
  have hz5:=hc5.size
  clear hc5 k4 SP2 HV4
  go_wp2_with fail
  clear k5
  go_loopw [11,37] (fun ff i wr=>∃k:Nat,i= .int .i64 k∧ff= .bool (decide (costTo p b1 b2 k≤1000000000000))∧k≤p.ts.length∧Hid (AmI w wr p a cap b1 b2 w2.heap.size w5.heap.size k)) (fun _ i _=>p.ts.length-(intOf i).toNat)
  case atStart=>
   refine⟨0,rfl,rfl,Nat.zero_le _,LH ⟨blk_alloc X5.out, ?_, ?_,C5.out.alloc _⟩⟩
   ·rw[HX.out];exact heap_alloc_new _ _
   ·obtain⟨v,h1,h2⟩:=V5.out
    exact⟨v,blk_alloc h1,h2⟩
  case round=>
   obtain⟨k,rfl,rfl,hk,HI⟩:=hrel
   have HCN:=LH (cost_nn (i:=b1) (n:=b2) HP.out hb1.1)
   have HCM:=LH (fun j (hj:j≤k)=>show costTo p b1 b2 j≤costTo p b1 b2 k from by
    obtain⟨d,hd⟩:∃d,k=j+d:=⟨k-j,by omega⟩
    clear HCN
    induction d generalizing j with
    |zero=>rw[hd];exact Int.le_refl _
    |succ d ih=>exact Int.le_trans (cost_step HP.out (by omega)) (ih (j+1) (by omega) (by omega)))
   have hcn:0≤costTo p b1 b2 k:=Int.le_trans HCN.out (HCM.out 0 (by omega))
   obtain⟨fb,hfb⟩:∃fb,fb=decide (costTo p b1 b2 k≤1000000000000):=⟨_,rfl⟩
   rw[←hfb]
   by_cases hkn:k<p.ts.length
   ·obtain⟨g,o,rfl, -,hbr,hcc⟩:=H.out.elem HI.out.chg k hkn
    have d0:=hcc 0 (by omega)
    have d1:=hcc 1 (by omega)
    obtain⟨x,hx1⟩:∃x,p.ts[k]? =some x:=⟨p.ts[k],List.getElem?_eq_getElem hkn⟩
    have hxe:=(List.getElem?_eq_some_iff.1 hx1).2
    rw[hxe]at d0 d1
    have hmi:miAt p.ts k=x.mi:=by unfold miAt;rw[hx1];rfl
    have hti:=tier_ok (tiers_ok HP.out hkn)
    rw[hmi]at hti
    have hp0:=partAt_nn p.ts b2 k
    have hp1:=partAt_le hb2.1 p.ts k
    have HST:=LH (cost_step (i:=b1) (n:=b2) HP.out hkn)
    have HCS:=LH (show costTo p b1 b2 (k+1)=costTo p b1 b2 k+partAt p.ts b2 k*x.mi by rw[costTo,hmi])
    have hl8:=hpo.2.2.2.2
    have ca:=blk_cell (blk_alloc (o':= .cells #[.int .i64 x.up, .int .i64 x.mi] 86) HI.out.ar) k
    rw[List.getElem?_toArray,List.getElem?_map,partsTo_at (by omega),if_pos hkn,Option.map_some]at ca
    have X6:=LH (heap_alloc_new wr (.cells #[.int .i64 x.up, .int .i64 x.mi] 86))
    have hk0:(0:Int)≤(k:Int):=by omega
    have hk1:(k:Int)<(p.ts.length:Int):=by omega
    have hk8:(k:Int)<8:=by omega
    have lta:=lt_of_heap HI.out.ar
    obtain⟨v,hv1,hv2⟩:=HI.out.su
    have HV1:=LH hv1
    have lts:=lt_of_heap hv1
    obtain⟨up,mi⟩:=x
    simp only[trC,List.getElem?_cons_zero,List.getElem?_cons_succ,Nat.add_zero]at d0 d1
    simp only at hti HCS ca X6
    have HK:=LH (fun w' (hc:Chg [w2.heap.size] wr w') (hv:∃v:Int,w'.heap[w2.heap.size]? =some (.cells #[.int .u64 v] 215)∧(costTo p b1 b2 (k+1)≤1000000000000→v=costTo p b1 b2 (k+1)))=>show AmI w w' p (some ⟨g,o,none⟩) cap b1 b2 w2.heap.size w5.heap.size (k+1)from
     ⟨hc.at (by simp;omega) HI.out.pr,hc.at (by simp;omega) HI.out.ar,hv,HI.out.chg.trans hc (by simp) (fun x hx hlt=>by simp at hx;have:=C2.out.size;omega)⟩)
    clear hcc hx1 hxe hmi hv1
    cases fb
    ·have hF: ¬costTo p b1 b2 k≤1000000000000:=fun q=>by rw[decide_eq_true q]at hfb;cases hfb
     have hF2: ¬costTo p b1 b2 (k+1)≤1000000000000:=by have:=HST.out;omega
     have HD:=LH (show decide (costTo p b1 b2 (k+1)≤1000000000000)=false from decide_eq_false hF2)
     have N6:=LH (HK.out (wr.alloc (.cells #[.int .i64 up, .int .i64 mi] 86)) ((Chg.refl _ _).alloc _) ⟨v,blk_alloc HV1.out,fun q=>(hF2 q).elim⟩)
     clear hfb hF hF2 hv2
     go_wp2_with fail
     go_quiet (fail)
     go_wp2_with fail
     exact⟨⟨k+1,by go_num,by rw[HD.out],by omega,LH (HK.out _ (((Chg.refl _ _).alloc _).drewN _) N6.out.su)⟩,by simp[intOf];omega⟩
    ·have hF:costTo p b1 b2 k≤1000000000000:=by simpa using hfb.symm
     have hve:=hv2 hF
     subst hve
     have PA:=LH (fun w' h=>padd_int (partAt p.ts b2 k) mi (costTo p b1 b2 k) w2.heap.size w' h hp0 (by omega) hti.1 hti.2.1 hcn hF)
     rw[←HCS.out]at PA
     have SU:=LH (show(wr.alloc (.cells #[.int .i64 up, .int .i64 mi] 86)).drew.heap[w2.heap.size]? =_ from blk_alloc (o':= .cells #[.int .i64 up, .int .i64 mi] 86) HV1.out)
     have AR:=LH (blk_alloc (o':= .cells #[.int .i64 up, .int .i64 mi] 86) HI.out.ar)
     generalize partAt p.ts b2 k=q at*
     clear hfb hv2
     go_wp2_with fail
     go_region_held3 (fun w'=>w'.cell? ⟨w5.heap.size,k,none⟩=some (.int .i64 q)∧w'.cell? ⟨wr.heap.size,1,none⟩=some (.int .i64 mi))
      (first|go_keep|exact hkp1)
      (first
        |(go_at_call 77;refine(PA.out _ SU.out).mono ?_;rintro e w7 ⟨rfl,hv7,hc7⟩;have hkp1:w7.cell? ⟨w5.heap.size,k,none⟩=some (.int .i64 q)∧w7.cell? ⟨wr.heap.size,1,none⟩=some (.int .i64 mi):=⟨(World.cell?_of_block (w:=(wr.alloc (.cells #[.int .i64 up, .int .i64 mi] 86)).drew) (w':=w7) (a:=⟨w5.heap.size,k,none⟩) (hc7.block w5.heap.size (by simp;omega) (by simp;omega))).trans ca,by rw[blk_cell (hc7.at (by simp;omega) X6.out)];rfl⟩)
        |fail)
     go_wp2_with fail
     exact⟨⟨k+1,by go_num,rfl,by omega,LH (HK.out _ (((Chg.refl _ _).alloc _).drew.thenSame hc7) hv7)⟩,by simp[intOf];omega⟩
   ·have hke:k=p.ts.length:=by omega
    have hkn2: ¬(k:Int)<(p.ts.length:Int):=by omega
    have HC:=LH HI.out.chg
    obtain⟨v,hv1,hv2⟩:=HI.out.su
    have k6:=blk_cell hv1
    rw[hke]at hfb hv2 hcn
    unfold costZ at HZ1
    clear HI hv1 HCN HCM
    generalize costTo p b1 b2 p.ts.length=cz at*
    cases fb
    ·have hF: ¬cz≤1000000000000:=fun q=>by rw[decide_eq_true q]at hfb;cases hfb
     have HE:=LH (HZ1.out.trans (if_neg hF))
     clear hfb hv2
     go_wp2_with fail
     go_ret2
     exact⟨by rw[HE.out];rfl,HC.out⟩
    ·have hF:cz≤1000000000000:=by simpa using hfb.symm
     have hve:=hv2 hF
     subst hve
     have HE:=LH (HZ1.out.trans (if_pos hF))
     have z1:IntKind.i64.wrap v=v:=wrapJ (by omega) (by omega)
     clear hfb hv2
     go_wp2_with fail
     go_ret2
     exact⟨by rw[HE.out];rfl,HC.out⟩
 ·have HE:=LH (HZ.out.trans (if_pos hb))
  have hbb:(b3 !=0)=true:=by rw[bne_iff_ne];exact hb
  rw[HE.out]
  go_enter Tryz.func27,Tryz.ntmps27
  go_wp2_with fail
  rw[←HW1.out]
  go_wp2_with fail
  refine(A.out _ hC1.out).mono ?_;rintro e w2 ⟨rfl,hc2⟩
  have C2:=LH (hC1.out.thenSame hc2)
  clear hc2 k1 k2
  go_wp2_with fail
  go_ret2
  exact⟨rfl,C2.out⟩
end
end Go.Proofs.YtmofknmeljdodaaGreatDoor
