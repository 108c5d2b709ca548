/- Layer 13: contracts: compile's Program at the example. No condition but those that the statements name. -/
import Derived.Test.YtmofknmeljdodaaGreatDoorZS01
import Derived.Test.YtmofknmeljdodaaGreatDoorZS14
set_option maxHeartbeats 100000000
set_option maxRecDepth 100000
set_option linter.unusedVariables false
set_option linter.unusedSimpArgs false
open List renaming getElem_toArray→gTA,getElem_cons_zero→gCZ,getElem_cons_succ→gCS,setIfInBounds_toArray→sTA,set_cons_zero→sCZ,set_cons_succ→sCS
namespace Go.Proofs.YtmofknmeljdodaaGreatDoor
section
open Go.RowKit
variable {w0 W0 w w':World} {b B0 B1 BC:Nat} {x:Pr} {sa:Option Addr} {sc:Nat} {I J:List In} {cv iv:Value} {f f':List Nat}
theorem func_at (hx:PrIn w x) (hp:x.p=dP):∃nb no pa pc,fvOf x= .slice (some ⟨nb,no,none⟩) 1 x.fc∧∀w',Chg [] w w'→(w'.cell? ⟨nb,no,none⟩=some (.string dMain)∧w'.cell? ⟨nb,no+1,none⟩=some (.slice pa 1 pc)∧w'.cell? ⟨nb,no+2,none⟩=some (.int .i64 4)∧nb<w'.heap.size):=by
 have h1:x.funcs.map Fn'.p=[⟨dMain,[dE],4⟩]:=congrArg PPr.funcs hp
 cases e:x.funcs with
 |nil=>rw[e]at h1;cases h1
 |cons d l=>
  rw[e]at h1
  simp at h1
  obtain⟨hd,rfl⟩:=h1
  have hk:0<x.funcs.length:=by rw[e];simp
  obtain⟨nb,no,hna, -,gn, -⟩:=hx.2.1.1.elem (Chg.refl _ _) 0 hk
  refine⟨nb,no,d.pa,d.pc,by simp[fvOf,hna,e],fun w' hc=> ?_⟩
  obtain⟨nb',no',hna', -,gn',cc⟩:=hx.2.1.1.elem hc 0 hk
  rw[hna]at hna'
  cases hna'
  have c0:=cc 0 (by omega)
  have c1:=cc 1 (by omega)
  have c2:=cc 2 (by omega)
  simp only[e,gCZ,fnC,List.getElem?_cons_zero,List.getElem?_cons_succ,Nat.add_zero,Nat.zero_mul]at c0 c1 c2
  have p0:d.name=dMain:=congrArg PFn.name hd
  have p1:d.params=[dE]:=congrArg PFn.params hd
  have p2:d.body=4:=congrArg PFn.body hd
  rw[p0]at c0
  rw[p1]at c1
  rw[p2]at c2
  exact⟨c0,c1,c2,by simpa using gn'⟩
theorem locals_dP:localsZ dP 0=(1,0):=by unfold localsZ;rw[study_dP];decide
theorem wp_start (C1:Chg [] w w') {w3:World} (hr:w'.heap[B1]? =some (.cells #[.slice none 0 0, .slice none 0 0] 35 (0,0))) (hp:w'.heap[B0]? =some (.cells #[nvOf x,fvOf x] 27 (0,0))) (hW:WrJ W0 b x sa sc dSl [] [b] w3) (hc:Chg [] w' w3) (hb:w'.heap.size≤b):
 PgAt w W0 b B0 B1 w3.heap.size x sa sc [] [b] (.slice none 0 0) (.slice none 0 0) (w3.alloc (.cells #[.slice none 0 0, .slice none 0 0] 35 (0,0))):=by
 have l1:=lt_of_heap hr
 have l2:=lt_of_heap hp
 have l3:=hc.size
 have l4:=C1.size
 have l5:=(hW.lt b (by simp)).2
 have hc9:Chg [] w' (w3.alloc (.cells #[.slice none 0 0, .slice none 0 0] 35 (0,0))):=hc.alloc _
 refine⟨hc9.at (by simp) hp,hc9.at (by simp) hr,heap_alloc_new _ _,hW.keptN ((Chg.refl _ _).alloc _),C1.thenSame hc9,⟨?_, ?_, ?_, ?_, ?_⟩, ?_, ?_⟩
 ·simp;omega
 ·simp;omega
 ·simp;omega
 ·omega
 ·omega
 ·intro y hy;simp at hy;omega
 ·omega
theorem row_neD {α:Type} {cf:α→List Value} {sz g n c base:Nat} {e T:TypeId} {l:List α} {D:Array Value} (h:RowOf cf sz w base e (.slice (some ⟨g,0,none⟩) n c) l) (hB:w.heap[B0]? =some (.cells D T (0,0))) (hne:e≠T):g≠B0:=by
 rcases h.2 with ⟨h2,h3⟩|⟨g',cap,cur,hv,hg,hh, -⟩
 ·cases h2
 ·cases hv
  intro e
  subst e
  rw[hh]at hB
  cases hB
  exact hne rfl
theorem pg_out {g gi BR:Nat} {wB:World} (P:PgAt w0 W0 b B0 BR BC x sa sc I f cv iv wB) (C:CdAt g 0 gi 0 wB) (h0:w0.heap.size≤BR) (n1:g≠BR) (n2:gi≠BR) (u v:Value):CdAt g 0 gi 0 ((wB.setCell ⟨BR,0,none⟩ u).setCell ⟨BR,1,none⟩ v)∧Chg [] w0 ((wB.setCell ⟨BR,0,none⟩ u).setCell ⟨BR,1,none⟩ v)∧((wB.setCell ⟨BR,0,none⟩ u).setCell ⟨BR,1,none⟩ v).heap[BR]? =some (.cells #[u,v] 35 (0,0)):=by
 have hc:Chg [BR] wB ((wB.setCell ⟨BR,0,none⟩ u).setCell ⟨BR,1,none⟩ v):=((Chg.refl _ _).setCell _ _ (fun _=>by simp)).setCell _ _ (fun _=>by simp)
 exact⟨C.keptS hc (by simpa using n1) (by simpa using n2),P.ch.then hc (fun y hy hl=>by simp at hy;omega),blk_set (blk_set P.hr 0 u) 1 v⟩
theorem cfInfo:(Tryz.prog.info? 135).map (fun i=>(i.zero,i.size,i.bytes))=some (some (.agg #[.string ⟨#[]⟩, .int .i64 0, .int .i64 0, .int .i64 0, .int .i64 0]),5,48):=by kernel_rfl
theorem cfC_len (u:Unit):(cfC u).length=5:=rfl
theorem cfC_one (u:Unit):∀z∈cfC u,z.oneCell'=true:=by intro z hz;simp[cfC,cfL]at hz;rcases hz with rfl|rfl|rfl|rfl<;>rfl
theorem program_at (hx:PrIn w x) (hp:x.p=dP) (ht:TabW w) (hs:ShW w):Calls Tryz.prog 8 #[.agg #[nvOf x,fvOf x]] w fun e w'=>∃g o gi oi fc ic,e= .returned (.tuple #[.agg #[.slice (some ⟨g,o,none⟩) 1 fc, .slice (some ⟨gi,oi,none⟩) 6 ic], .int .i64 0])∧CdAt g o gi oi w'∧Chg [] w w':=by
 obtain⟨nb,no,pa,pc,efv,FX⟩:=func_at hx hp
 have C1:Chg [] w ((w.alloc (.cells #[nvOf x,fvOf x] 27 (0,0))).alloc (.cells #[.slice none 0 0, .slice none 0 0] 35 (0,0))):=((Chg.refl _ _).alloc _).alloc _
 have HP:=LH (show((w.alloc (.cells #[nvOf x,fvOf x] 27 (0,0))).alloc (.cells #[.slice none 0 0, .slice none 0 0] 35 (0,0))).heap[w.heap.size]? =some (.cells #[nvOf x,fvOf x] 27 (0,0))from blk_alloc (heap_alloc_new _ _))
 have HR:=LH (alloc2_at w (.cells #[nvOf x,fvOf x] 27 (0,0)) (.cells #[.slice none 0 0, .slice none 0 0] 35 (0,0)))
 have S1:=LH (start_dbl (hx.kept C1) hp (ht.kept C1))
 have FX:=LH FX
 have C1:=LH C1
 have HX:=LH hx
 have HS:=LH hs
 have HT:=LH ht
 rename_i F0 C0
 clear F0 C0 hx hs ht
 have EF:=LH efv
 rw[efv]at S1 C1 HP HR⊢
 have k1:=blk_cell HP.out
 unfold nvOf at S1 C1 HP HR k1⊢
 clear efv
 go_enter Tryz.func8,Tryz.ntmps8
 go_wp2_with (first|(go_at_call 32;(with_reducible refine Calls.mono S1.out ?_);rintro e w3 ⟨W0,b,sa,sc,rfl,hW0,hS0,hW,hc3,hb,hc30⟩;have PX:=LH hW0;have PS:=LH hS0;have Q3:=LH (wp_start C1.out HR.out (by rw[EF.out];exact HP.out) hW hc3 hb);have SZ:=LH (hW.chg.size);have BQ:=hc3.at (by simp) HP.out;have kq:=blk_cell BQ;have lq:=lt_of_heap BQ;clear hW0 hS0 hW hc3 hb hc30 BQ))
 go_loopw [26] (fun u ws=>(u= .int .i64 0∧Hid (PgAt w W0 b w.heap.size (w.heap.size+1) w3.heap.size x sa sc [] [b] (.slice none 0 0) (.slice none 0 0) ws))∨(u= .int .i64 1∧∃f' g' c',Hid (PgAt w W0 b w.heap.size (w.heap.size+1) w3.heap.size x sa sc dAll f' (.slice (some ⟨g',0,none⟩) 1 c') (.slice none 0 0) ws)∧Hid (RowOf cfC 5 ws w.heap.size 135 (.slice (some ⟨g',0,none⟩) 1 c') [()])∧Hid (g'∉f'∧g'≠w3.heap.size))) (fun u _=>1-(intOf u).toNat)
 case atStart=>exact Or.inl ⟨rfl,Q3⟩
 case round=>
  clear kq lq Q3 S1 k1
  obtain⟨rfl,P⟩|⟨rfl,f9,g9,c9,P,R,NG⟩:=hrel
  ·have kp:=blk_cell P.out.hp
   have lp:=lt_of_heap P.out.hp
   have kc:=blk_cell P.out.hc
   have lc:=lt_of_heap P.out.hc
   rw[EF.out]at kp
   unfold nvOf at kp
   obtain⟨c0,c1,c2,ln⟩:=FX.out _ P.out.ch
   have PA:=LH (P.out.kept ((Chg.refl [] _).alloc (.cells #[.string dMain, .slice pa 1 pc, .int .i64 4] 130 (0,0))))
   have A1:Hid (∀w',WrJ W0 b x sa sc dSl [] [b] w'→Calls Tryz.prog 33 #[.pointer (some ⟨b,0,none⟩)] w' fun e w''=>e= .returned (.int .i64 0)∧Chg [] w' w''):=LH (fun w' h=>where_any h (by decide))
   have A6:Hid (∀f' w',WrJ W0 b x sa sc dSl dAll f' w'→Calls Tryz.prog 33 #[.pointer (some ⟨b,0,none⟩)] w' fun e w''=>e= .returned (.int .i64 6)∧Chg [] w' w''):=LH (fun f' w' h=>where_any h (by decide))
   have A2:=LH (fun w' (h:WrJ W0 b x sa sc dSl [] [b] w')=>func_dbl PX.out hp PS.out h)
   have A3:Hid (∀w',Chg [] w w'→Calls Tryz.prog 35 #[.agg #[.slice x.na x.nodes.length x.nc, .slice (some ⟨nb,no,none⟩) 1 x.fc], .int .i64 0] w' fun e w''=>e= .returned (.tuple #[.int .i64 1, .int .i64 0])∧Chg [] w' w''):=LH (fun w' hc=>by
    have A:=locals_any x 0 w' (HX.out.kept hc) (good_dP hp) (HT.out.kept hc)
    rw[hp,locals_dP]at A
    change Calls Tryz.prog 35 #[.agg #[nvOf x,fvOf x], .int .i64 0] w' _ at A
    rw[EF.out]at A
    exact A)
   go_wp2_with (first
    |(go_at_call 33;(with_reducible refine Calls.mono (A1.out _ PA.out.wr) ?_);rintro e w4 ⟨rfl,hc4⟩;have P4:=LH (PA.out.kept hc4);have F4:=LH (hc4.at (by simp) (heap_alloc_new _ _));clear hc4)
    |(go_at_call 34;(with_reducible refine Calls.mono (A2.out _ P4.out.wr) ?_);rintro e w5 ⟨rfl,f5,hW5,ht5⟩;have P5:=LH (P4.out.tr hW5 ht5);have F5:=LH (ht5.chg.at (fun hm=>by have h1:=(P.out.wr.lt _ hm).2;omega) F4.out);have KP5:=blk_cell P5.out.hp;have LP5:=lt_of_heap P5.out.hp;rw[EF.out]at KP5;unfold nvOf at KP5;clear hW5 ht5)
    |(go_at_call 35;(with_reducible refine Calls.mono (A3.out _ P5.out.ch) ?_);rintro e w6 ⟨rfl,hc6⟩;have P6:=LH (P5.out.kept hc6);have F6:=LH (hc6.at (by simp) F5.out);have kc6:=blk_cell P6.out.hc;have fc6:=blk_free P6.out.hc;have lc6:=lt_of_heap P6.out.hc;have kf6:=blk_cell F6.out;have lf6:=lt_of_heap F6.out;clear hc6))
   clear A1 A2 A3 kp lp kc lc c0 c1 c2 ln PA P4 F4 P5 F5 KP5 LP5
   go_region_law (first
    |(show(if _ then Oper.wp _ ⟨_,Op.call ⟨Callee.builtin Builtin.append,_,_⟩,_,_,_,_⟩ _ _ _ _ else _);refine step_appendR rfl _ _ 32 rfl w.heap.size 135 _ 48 Tryz.underlying32 cfInfo rfl (by decide) cfC_len cfC_one (.slice none 0 0) [] rfl (RowOf.nil _ _ _) w7.heap.size 1 () _ 135 (0,0) rfl (heap_alloc_new w7 _) rfl (by unfold maxLen;decide) (by decide) (Nat.le_trans P7.out.ch.size (by simp)) ?_;intro q8 c8 w8 hr8 hg8 ho8 hl8;have G8:=LH (chg_grown (v:= .slice none 0 0) hg8);have R8:=LH hr8;have O8:=LH ho8;have P8:=LH (P7.out.kept (((Chg.refl [] w7).alloc _).thenSame (chg_grown (v:= .slice none 0 0) hg8)));have k8:=blk_cell P8.out.hc;have f8:=blk_free P8.out.hc;have l8:=lt_of_heap P8.out.hc;clear hr8 hg8 ho8 hl8)
    |(show(if _ then Oper.wp _ ⟨_,Op.call ⟨Callee.value (Operand.func 33),_,_⟩,_,_,_,_⟩ _ _ _ _ else _);refine(if_pos (by simp[Region.wanted])).mpr ?_;go_simp;refine(A6.out _ _ (P6.out.kept (Chg.refl [] _).drew).wr).mono ?_;rintro e w7 ⟨rfl,hc7⟩;have P7:=LH ((P6.out.kept (Chg.refl [] _).drew).kept hc7);have F7:=LH (hc7.at (by simp) (show w6.drew.heap[_]? =_ from F6.out));have kc7:=blk_cell P7.out.hc;have lc7:=lt_of_heap P7.out.hc;have kf7:=blk_cell F7.out;have lf7:=lt_of_heap F7.out;clear hc7)
    |fail)
   all_goals go_wp2_with fail
   all_goals exact⟨Or.inr ⟨rfl,f5,q8,c8,LH (pg_fin P7.out P8.out SZ.out R8.out O8.out).1,LH (pg_fin P7.out P8.out SZ.out R8.out O8.out).2.1,LH (pg_fin P7.out P8.out SZ.out R8.out O8.out).2.2⟩,by simp[intOf]⟩
  ·have hr9:=blk_cell P.out.hr
   have lr9:=lt_of_heap P.out.hr
   have fr9:=blk_free P.out.hr
   obtain⟨v9,hW9,hf9⟩:=P.out.wr
   obtain⟨ia,ic,hv9⟩:=RowOf.shape hW9.ins
   subst hv9
   have kc:=blk_cell P.out.hc
   have fc:=blk_free P.out.hc
   have lc:=lt_of_heap P.out.hc
   have kb:=blk_cell hW9.blk
   have lb:=lt_of_heap hW9.blk
   rw[EF.out]at kb
   unfold nvOf at kb
   rw[show dAll.length=6 from rfl]at kb
   have hc9:Chg [w3.heap.size] wr (wr.setCell ⟨w3.heap.size,1,none⟩ (.slice ia 6 ic)):=(Chg.refl _ _).setCell _ _ (fun _=>by simp)
   have PD:=LH (P.out.setc SZ.out (.slice ia 6 ic)).2
   have hib:∀y∈(Value.slice ia dAll.length ic).ownBlock.toList,y∈f9:=fun y hy=>by rw[hf9];exact List.mem_cons_of_mem _ hy
   have KI:RowOf inC 4 (wr.setCell ⟨w3.heap.size,1,none⟩ (.slice ia 6 ic)) W0.heap.size 235 (.slice ia 6 ic) dAll:=hW9.ins.kept hc9 (fun y hy e=>by simp at e;subst e;exact P.out.ne.2.2.1 (hib _ (by simpa using hy)))
   have KR:=R.out.kept hc9 (fun y hy e=>by simp[Value.ownBlock]at hy;simp at e;exact NG.out.2 (hy.trans e))
   obtain⟨gi,rfl,CD⟩:=cd_of KR KI
   have kd:=blk_cell PD.out.hc
   have ld:=lt_of_heap PD.out.hc
   have CK:=LH (ccheck_dbl CD (HS.out.kept PD.out.ch) c9 ic)
   have n1:=row_neD KR PD.out.hr (by decide)
   have n2:=row_neD KI PD.out.hr (by decide)
   have CD:=LH CD
   rename_i CD0
   clear CD0 KI KR hc9 hib hf9 hW9
   go_wp2_with (first|(go_at_call 36;(with_reducible refine Calls.mono CK.out ?_);rintro e wB ⟨rfl,hcB⟩;have PE:=LH (PD.out.kept hcB);have CE:=LH (CD.out.kept hcB);have ke:=blk_cell PE.out.hc;have le:=lt_of_heap PE.out.hc;have kr:=blk_cell PE.out.hr;have fr:=blk_free PE.out.hr;have lr:=lt_of_heap PE.out.hr;clear hcB))
   obtain⟨o1,o2,o3⟩:=pg_out PE.out CE.out (Nat.le_succ _) n1 n2 (.slice (some ⟨g9,0,none⟩) 1 c9) (.slice (some ⟨gi,0,none⟩) 6 ic)
   have r1:=blk_cell o3
   exact bodyPost_ret (v:= .tuple #[.agg #[.slice (some ⟨g9,0,none⟩) 1 c9, .slice (some ⟨gi,0,none⟩) 6 ic], .int .i64 0]) (by simp[results,Tryz.results8,go_sem,r1]) rfl ⟨g9,0,gi,0,c9,ic,rfl,o1,o2⟩
end
end Go.Proofs.YtmofknmeljdodaaGreatDoor
