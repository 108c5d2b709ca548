/- Chapter 48: contracts: Step: the region that performs. No condition but those that the statements name. -/
import Derived.Test.YtmofknmeljdodaaGreatDoorZS01
import Derived.Test.YtmofknmeljdodaaGreatDoorZA06
import Derived.Test.YtmofknmeljdodaaGreatDoorZA02
import Derived.Test.YtmofknmeljdodaaGreatDoorZS03
set_option maxHeartbeats 100000000
set_option maxRecDepth 100000
set_option linter.unusedVariables false
set_option linter.unusedSimpArgs false
open List renaming getElem_toArray→gTA,getElem_cons_zero→gCZ,getElem_cons_succ→gCS,setIfInBounds_toArray→sTA,set_cons_zero→sCZ,set_cons_succ→sCS
namespace Go.Proofs.YtmofknmeljdodaaGreatDoor
section
open Go.RowKit
variable {w w':World} {B d me mc eb cb:Nat} {L E:List Nat} {rv:Value} {sa:Option Addr} {sc:Nat} {st sn sv:List Ce} {x:Cl} {done:Nat} {now t fl:Int}
theorem st2_at {w:World} {b:Nat} {ty:TypeId} {c0 c1:Value} (x0 x1:Value) (h:w.heap[b]? =some (.cells #[c0,c1] ty (0,0))):
 ((w.setCell ⟨b,0,none⟩ x0).setCell ⟨b,1,none⟩ x1).heap[b]? =some (.cells #[x0,x1] ty (0,0)):=by
 have h0:(w.setCell ⟨b,0,none⟩ x0).heap[b]? =some (.cells #[x0,c1] ty (0,0)):=blk_set h 0 x0
 exact blk_set h0 1 x1
theorem step_r7 {z0 z1 z2 z3 z4 z5 z6 z7 z9 z11 z12 z13 z14 z15 z16 z17 z18 z19 z20 z21 z22 z23 z24 z25 z26 z27 z28 z29 z30 z31 z32 z33 z34 z35 z36 z37 z38 z39 z40 z41 z42 z43 z44 z45 z46 z47 z48 z49 z50 z51 z52 z53 z54 z55 z56 z57 z58 z59 z60 z61 z62 z63 z64 z65 z66 z67 z68 z69 z70 z71 z72 z73 z74 z75 z76 z77 z78 z79 z80 z81 z82 z83 z84 z85 z86 z87 z88 z89 z90 z91 z92 z93 z94 z95 z96 z97 z98 z99 z100 z101 z102 z103 z104 z105 z106:Value} {ops:Array Oper} (hops:ops=rgnF Tryz.f16 7) {W:World} (b1:W.heap[eb]? =some (.cells #[.slice sa st.length sc,rv, .int .i64 done] 175 (0,0))) (b2:W.heap[cb]? =some (clO x))
 (h:InIs ceC 4 W sa sc st) (hg:goodL st) (ha:ArgsIn W x.o.aa x.o.ac x.o.args) (hog:x.o.good) (ht:TabW W) (hz:doZ st x.o.p=(0,sn,fl,sv)) (Q:Exit→Act→World→Prop)
 (hQ:∀(bb:Nat) (na:Option Addr) (nc:Nat) (va:Option Addr) (vc:Nat) y64 y65 y66 y67 y68 y69 y70 y71 y72 y73 y74 y75 y76 (wz:World),Hid (InIs ceC 4 wz na nc sn)→Hid (InIs ceC 4 wz va vc sv)→Hid (∀z,na=some z∨va=some z→W.heap.size≤z.block)→Hid (wz.heap[bb]? =some (.cells #[.int .i64 fl, .slice va sv.length vc] 69 (0,0)))→Hid (Chg [] W wz)→Hid (W.heap.size≤bb)→Q .normal ⟨#[z0,z1,z2,z3,z4,z5,z6,z7, .pointer (some ⟨eb,0,none⟩),z9, .pointer (some ⟨cb,0,none⟩), .slice na sn.length nc, .pointer (some ⟨bb,0,none⟩), .int .i64 0,z14,z15,z16,z17,z18,z19,z20,z21,z22,z23,z24,z25,z26,z27,z28,z29,z30,z31,z32,z33,z34,z35,z36,z37,z38,z39,z40,z41,z42,z43,z44,z45,z46,z47,z48,z49,z50,z51,z52,z53,z54,z55,z56,z57,z58,z59,z60,z61,z62,z63,y64,y65,y66,y67,y68,y69,y70,y71,y72,y73,y74,y75,y76,z77,z78,z79,z80,z81,z82,z83,z84,z85,z86,z87,z88,z89,z90,z91,z92,z93,z94,z95,z96,z97,z98,z99,z100,z101,z102,z103,z104,z105,z106],[]⟩ wz):
 (Code.region 7 ops true).wp Tryz.prog Q ⟨#[z0,z1,z2,z3,z4,z5,z6,z7, .pointer (some ⟨eb,0,none⟩),z9, .pointer (some ⟨cb,0,none⟩),z11,z12,z13,z14,z15,z16,z17,z18,z19,z20,z21,z22,z23,z24,z25,z26,z27,z28,z29,z30,z31,z32,z33,z34,z35,z36,z37,z38,z39,z40,z41,z42,z43,z44,z45,z46,z47,z48,z49,z50,z51,z52,z53,z54,z55,z56,z57,z58,z59,z60,z61,z62,z63,z64,z65,z66,z67,z68,z69,z70,z71,z72,z73,z74,z75,z76,z77,z78,z79,z80,z81,z82,z83,z84,z85,z86,z87,z88,z89,z90,z91,z92,z93,z94,z95,z96,z97,z98,z99,z100,z101,z102,z103,z104,z105,z106],[]⟩ W:=by
 subst hops
 simp only[rgnF,Tryz.f16,Option.bind_some,rgn,Nat.reduceEqDiff,↓reduceIte,Option.orElse_some,Option.orElse_none,Option.getD_some,Option.orElse]
 have DO:=LH (fun w' (hc:Chg [] W w')=>do_any sa sc st x.o w' (h.kept hc) hg (ha.kept hc) hog (ht.kept hc))
 rw[hz]at DO
 obtain⟨⟨ent,id,op,aa,ac,args⟩,err,va0,vc0,ans,fr,to_⟩:=x
 unfold DoP at DO
 simp only[eoC]at DO
 unfold clO at b2
 simp only[clC,eoC]at b2
 have k1:=blk_cell b1
 have k2:=blk_cell b2
 have l1:=lt_of_heap b1
 have l2:=lt_of_heap b2
 have CW:=LH (Chg.refl [] W)
 clear b1 b2 h hg ha hog ht hz
 refine wp_region_noPanic ?_
 go_region_law (go_loud (first
  |(show(if _ then Oper.wp _ ⟨_,Op.call ⟨Callee.value (Operand.func 53),_,_⟩,_,_,_,_⟩ _ _ _ _ else _);refine(if_pos (by simp[Region.wanted])).mpr ?_;go_simp;with_reducible refine(DO.out (World.drew (World.alloc W _)) ((CW.out.alloc _).drew)).mono ?_;rintro e w5 ⟨na,nc,va,vc,rfl,hi1,hi2,hf,hc5⟩;have I1:=LH hi1;have I2:=LH hi2;have F5:=LH hf;have K5:=LH hc5;have bw:Hid (w5.heap[W.heap.size]? =some (.cells #[.int .i64 0, .slice none 0 0] 69 (0,0))):=LH ((((Chg.refl [] (World.alloc W (.cells #[.int .i64 0, .slice none 0 0] 69 (0,0)))).drew).thenSame hc5).at (by simp) (heap_alloc_new W (.cells #[.int .i64 0, .slice none 0 0] 69 (0,0))));have fw:=blk_free bw.out;have kw:=blk_cell bw.out;have lw:=lt_of_heap bw.out;clear hi1 hi2 hf hc5)
  |(show(if _ then Oper.wp _ ⟨_,Op.call ⟨Callee.value (Operand.func 53),_,_⟩,_,_,_,_⟩ _ _ _ _ else _);refine(if_pos (by simp[Region.wanted])).mpr ?_;go_simp;with_reducible refine(DO.out (World.alloc (World.drew W) _) ((CW.out.drew).alloc _)).mono ?_;rintro e w5 ⟨na,nc,va,vc,rfl,hi1,hi2,hf,hc5⟩;have I1:=LH hi1;have I2:=LH hi2;have F5:=LH hf;have K5:=LH hc5;have bw:Hid (w5.heap[W.heap.size]? =some (.cells #[.int .i64 0, .slice none 0 0] 69 (0,0))):=LH ((((Chg.refl [] (World.alloc W (.cells #[.int .i64 0, .slice none 0 0] 69 (0,0)))).drew).thenSame hc5).at (by simp) (heap_alloc_new W (.cells #[.int .i64 0, .slice none 0 0] 69 (0,0))));have fw:=blk_free bw.out;have kw:=blk_cell bw.out;have lw:=lt_of_heap bw.out;clear hi1 hi2 hf hc5)
  |(show(if _ then Oper.wp _ ⟨_,Op.call ⟨Callee.value (Operand.func 53),_,_⟩,_,_,_,_⟩ _ _ _ _ else _);refine(if_pos (by simp[Region.wanted])).mpr ?_;go_simp;with_reducible refine(DO.out (World.drew W) (CW.out.drew)).mono ?_;rintro e w5 ⟨na,nc,va,vc,rfl,hi1,hi2,hf,hc5⟩;have I1:=LH hi1;have I2:=LH hi2;have F5:=LH hf;have K5:=LH hc5;skip;clear hi1 hi2 hf hc5)
  |(show(if _ then Oper.wp _ ⟨_,Op.call ⟨Callee.value (Operand.func 53),_,_⟩,_,_,_,_⟩ _ _ _ _ else _);refine(if_pos (by simp[Region.wanted])).mpr ?_;go_simp;with_reducible refine(DO.out (World.alloc W _) (CW.out.alloc _)).mono ?_;rintro e w5 ⟨na,nc,va,vc,rfl,hi1,hi2,hf,hc5⟩;have I1:=LH hi1;have I2:=LH hi2;have F5:=LH hf;have K5:=LH hc5;have bw:Hid (w5.heap[W.heap.size]? =some (.cells #[.int .i64 0, .slice none 0 0] 69 (0,0))):=LH ((((Chg.refl [] (World.alloc W (.cells #[.int .i64 0, .slice none 0 0] 69 (0,0)))).drew).thenSame hc5).at (by simp) (heap_alloc_new W (.cells #[.int .i64 0, .slice none 0 0] 69 (0,0))));have fw:=blk_free bw.out;have kw:=blk_cell bw.out;have lw:=lt_of_heap bw.out;clear hi1 hi2 hf hc5)
  |(show(if _ then Oper.wp _ ⟨_,Op.call ⟨Callee.value (Operand.func 53),_,_⟩,_,_,_,_⟩ _ _ _ _ else _);refine(if_pos (by simp[Region.wanted])).mpr ?_;go_simp;with_reducible refine(DO.out (W) (CW.out)).mono ?_;rintro e w5 ⟨na,nc,va,vc,rfl,hi1,hi2,hf,hc5⟩;have I1:=LH hi1;have I2:=LH hi2;have F5:=LH hf;have K5:=LH hc5;skip;clear hi1 hi2 hf hc5)
  |fail))
 all_goals refine NoPanic.normal ?_
 all_goals
  first
  |exact hQ w5.heap.size na nc va vc _ _ _ _ _ _ _ _ _ _ _ _ _ _ (LH (I1.out.kept ((Chg.refl _ _).alloc _))) (LH (I2.out.kept ((Chg.refl _ _).alloc _))) (LH (fun z hz=>(F5.out z hz:W.heap.size≤z.block))) (LH (heap_alloc_new _ _)) (LH (((CW.out.drew).thenSame K5.out).alloc _)) (LH ((CW.out.drew).thenSame K5.out).size)
  |(have c6:Chg [W.heap.size] w5 ((w5.setCell ⟨W.heap.size,0,none⟩ (.int .i64 fl)).setCell ⟨W.heap.size,1,none⟩ (.slice va sv.length vc)):=((Chg.refl _ _).setCell _ _ (fun _=>by simp)).setCell _ _ (fun _=>by simp)
    have c7:Chg [] W w5:=((CW.out.alloc (.cells #[.int .i64 0, .slice none 0 0] 69 (0,0))).drew).thenSame K5.out
    have f7:∀z,na=some z∨va=some z→W.heap.size+1≤z.block:=fun z hz=>by
     have h2:(World.alloc W (.cells #[.int .i64 0, .slice none 0 0] 69 (0,0))).heap.size≤z.block:=F5.out z hz
     rwa[World.size_alloc]at h2
    exact hQ W.heap.size na nc va vc _ _ _ _ _ _ _ _ _ _ _ _ _ _ (LH (I1.out.keptN c6 (fun z hz hm=>by have:=f7 z (.inl hz);simp at hm;omega))) (LH (I2.out.keptN c6 (fun z hz hm=>by have:=f7 z (.inr hz);simp at hm;omega))) (LH (fun z hz=>by have:=f7 z hz;omega)) (LH (st2_at (.int .i64 fl) (.slice va sv.length vc) bw.out)) (LH (c7.then c6 (fun z hz hl=>by simp at hz;omega))) (LH (Nat.le_refl _)))
end
section
open Go.RowKit
variable {w w':World} {B d me mc eb cb:Nat} {L E:List Nat} {rv:Value} {sa:Option Addr} {sc:Nat} {st sn sv:List Ce} {xs:List (Nat×Cl)} {x:Cl} {done z:Nat} {now t fl:Int}
theorem DrAt.keptZ (h:DrAt w B L d me mc [eb] rv sa sc st xs done now) (hc:Chg [z] w w') (hz:z∉L) (hx:∀x∈xs,¬x.2.at' z) (hs:∀y,sa=some y→y.block≠z):DrAt w' B L d me mc [eb] rv sa sc st xs done now:=by
 have eL:=h.own
 have m:∀y∈L,y∉[z]:=fun y hy hm=>hz (by simp at hm;exact hm▸hy)
 have m0:d∈L:=by rw[eL];simp
 have m1:me∈L:=by rw[eL];simp
 have m2:mc∈L:=by rw[eL];simp
 have m3:eb∈L:=by rw[eL];simp
 have m4:∀g,rv.ownBlock=some g→g∈L:=fun g hg=>by rw[eL];simp[hg]
 have m5:∀y∈xs,y.1∈L:=fun y hy=>by
  rw[eL]
  have:y.1∈xs.map Prod.fst:=List.mem_map_of_mem hy
  simp only[List.mem_cons,List.mem_append]
  exact .inr (.inr (.inr (.inr (.inr this))))
 refine⟨hc.at (m d m0) h.blk,h.em.kept hc (m me m1),h.cm.kept hc (m mc m2),fun e he=>hc.at (m e (by simp at he;rw[he];exact m3)) (h.en e he),h.no,h.row.kept hc (fun g hg=>m g (m4 g hg)),fun y hy=>hc.at (m y.1 (m5 y hy)) (h.cb y hy),fun y hy=>⟨(h.ci y hy).1.keptT hc (fun b hb hm=>hx y hy (by simp at hm;exact hm▸hb)),(h.ci y hy).2⟩,fun he=>⟨(h.si he).1.keptN hc (fun ad had hm=>hs ad had (by simpa using hm)),(h.si he).2⟩,eL,h.nd,h.lo⟩
theorem st47_at {w:World} {b:Nat} {ty:TypeId} {c0 c1 c2 c3 c4 c5 c6 c7:Value} (x4 x5 x7:Value) (h:w.heap[b]? =some (.cells #[c0,c1,c2,c3,c4,c5,c6,c7] ty (0,0))):
 (((w.setCell ⟨b,4,none⟩ x4).setCell ⟨b,5,none⟩ x5).setCell ⟨b,7,none⟩ x7).heap[b]? =some (.cells #[c0,c1,c2,c3,x4,x5,c6,x7] ty (0,0)):=by
 have h0:(w.setCell ⟨b,4,none⟩ x4).heap[b]? =some (.cells #[c0,c1,c2,c3,x4,c5,c6,c7] ty (0,0)):=blk_set h 4 x4
 have h1:((w.setCell ⟨b,4,none⟩ x4).setCell ⟨b,5,none⟩ x5).heap[b]? =some (.cells #[c0,c1,c2,c3,x4,x5,c6,c7] ty (0,0)):=blk_set h0 5 x5
 exact blk_set h1 7 x7
theorem st02_at {w:World} {b:Nat} {ty:TypeId} {c0 c1 c2:Value} (x0 x2:Value) (h:w.heap[b]? =some (.cells #[c0,c1,c2] ty (0,0))):
 ((w.setCell ⟨b,0,none⟩ x0).setCell ⟨b,2,none⟩ x2).heap[b]? =some (.cells #[x0,c1,x2] ty (0,0)):=by
 have h0:(w.setCell ⟨b,0,none⟩ x0).heap[b]? =some (.cells #[x0,c1,c2] ty (0,0)):=blk_set h 0 x0
 exact blk_set h0 2 x2
theorem step_stores {W:World} {x0 x2 v4 v5 v7:Value} {c0 c1 c2 a0 a1 a2 a3 a4 a5 a6 a7:Value} {ty tz td:TypeId} (hne:eb≠d∧eb≠cb∧d≠cb) (he:W.heap[eb]? =some (.cells #[c0,c1,c2] ty (0,0))) (hd:W.heap[d]? =some (.cells #[.int .i64 now, .map (some me), .map (some mc)] td (0,0))) (hcb:W.heap[cb]? =some (.cells #[a0,a1,a2,a3,a4,a5,a6,a7] tz (0,0))):
 let W2:=(((((W.setCell ⟨eb,0,none⟩ x0).setCell ⟨eb,2,none⟩ x2).setCell ⟨d,0,none⟩ (.int .i64 t)).setCell ⟨cb,4,none⟩ v4).setCell ⟨cb,5,none⟩ v5).setCell ⟨cb,7,none⟩ v7
 W2.heap[eb]? =some (.cells #[x0,c1,x2] ty (0,0))∧W2.heap[d]? =some (.cells #[.int .i64 t, .map (some me), .map (some mc)] td (0,0))∧W2.heap[cb]? =some (.cells #[a0,a1,a2,a3,v4,v5,a6,v7] tz (0,0))∧Chg [eb,d,cb] W W2:=by
 have q1:Chg [eb] W ((W.setCell ⟨eb,0,none⟩ x0).setCell ⟨eb,2,none⟩ x2):=((Chg.refl _ _).setCell _ _ (fun _=>by simp)).setCell _ _ (fun _=>by simp)
 have q2:Chg [d] ((W.setCell ⟨eb,0,none⟩ x0).setCell ⟨eb,2,none⟩ x2) (((W.setCell ⟨eb,0,none⟩ x0).setCell ⟨eb,2,none⟩ x2).setCell ⟨d,0,none⟩ (.int .i64 t)):=(Chg.refl _ _).setCell _ _ (fun _=>by simp)
 have q3:Chg [cb] (((W.setCell ⟨eb,0,none⟩ x0).setCell ⟨eb,2,none⟩ x2).setCell ⟨d,0,none⟩ (.int .i64 t)) ((((((W.setCell ⟨eb,0,none⟩ x0).setCell ⟨eb,2,none⟩ x2).setCell ⟨d,0,none⟩ (.int .i64 t)).setCell ⟨cb,4,none⟩ v4).setCell ⟨cb,5,none⟩ v5).setCell ⟨cb,7,none⟩ v7):=(((Chg.refl _ _).setCell _ _ (fun _=>by simp)).setCell _ _ (fun _=>by simp)).setCell _ _ (fun _=>by simp)
 refine⟨q3.at (by simpa using hne.2.1) (q2.at (by simpa using hne.1) (st02_at x0 x2 he)),q3.at (by simpa using hne.2.2) (blk_set (q1.at (by simpa using fun e=>hne.1 e.symm) hd) 0 (.int .i64 t)),st47_at v4 v5 v7 (q2.at (by simpa using fun e=>hne.2.2 e.symm) (q1.at (by simpa using fun e=>hne.2.1 e.symm) hcb)), ?_⟩
 exact((q1.mono (T:=[eb,d,cb]) (by simp)).then q2 (fun y hy _=>by simp at hy;simp[hy])).then q3 (fun y hy _=>by simp at hy;simp[hy])
theorem dstep_yes (h:DrAt w B L d me mc [eb] rv sa sc st xs done now) (hk:xs[done]? =some (cb,x)) (h8:xs.length≤8) (hg:goodL st) (hz:doZ st x.o.p=(0,sn,fl,sv)) (hfl:(Lit.int .i64 fl).wf=true) (ht:TabW w) (t0:0≤t) (t1:t≤1073741824) (t2:now≤t) (hal:∀v∈x.o.args,v.L.length≤3518437208780) (hlv:sv.length≤3518437208780) (hna:x.o.args.length≤1048576):
 Calls Tryz.prog 16 #[.pointer (some ⟨d,0,none⟩), .string entX, .int .i64 t] w fun e w'=>(∃v,e= .returned v)∧∃na nc va vc,DrAt w' B L d me mc [eb] rv na nc sn (xs.set done (cb,pfC x fl va vc sv t)) (done+1) t∧Tr L w L w':=by
 obtain⟨ra,rc,rfl⟩:=RowOf.shape h.row
 have hdl:done<xs.length:=(List.getElem?_eq_some_iff.1 hk).1
 have hxm:=List.mem_of_getElem? hk
 have C1:Hid (Chg [] w (w.alloc clZ)):=LH ((Chg.refl _ _).alloc _)
 have H:=LH (h.kept C1.out)
 have HLT:=LH h.lt
 have OLD:Hid (∀y∈xs,∀b,y.2.at' b→b<w.heap.size):=LH (fun y hy b hb=>(h.ci y hy).1.atLt hb)
 have HT:=LH ht
 have HG:=LH hg
 have HZ:=LH hz
 have HAL:=LH hal
 have HLV:=LH hlv
 have HK:=LH hk
 have MD:=LH (dmade_any H.out)
 have B1:=heap_alloc_new w clZ
 unfold clZ at B1 C1 H MD
 have kb:=blk_cell H.out.blk
 have lb:=lt_of_heap H.out.blk
 have ke:=blk_cell (H.out.en eb (by simp))
 have le:=lt_of_heap (H.out.en eb (by simp))
 have k1:=blk_cell B1
 have f1:=blk_free B1
 have B1:=LH B1
 rename_i B10
 clear B10 h hal hlv hg ht hz
 obtain⟨W,hW⟩:∃W,W=w.alloc (.cells #[.string ⟨#[]⟩, .string ⟨#[]⟩, .string ⟨#[]⟩, .slice none 0 0, .int .i64 0, .slice none 0 0, .int .i64 0, .int .i64 0] 71 (0,0)):=⟨_,rfl⟩
 have HSZ:=LH (show W.heap.size=w.heap.size+1 by rw[hW,World.size_alloc])
 rw[←hW]at H kb lb ke le k1 f1 B1 C1 MD
 have r3:Sem.run Tryz.prog (Instr.lookup 166 (.map (some me)) (.string entX) true) W=Result.ok (.tuple #[.pointer (some ⟨eb,0,none⟩), .bool true]) W:=(MapIs.lookup H.out.em Tryz.underlying166 Tryz.underlying9 (zeroEnt _) entX true).trans (by simp[lookL,ptV])
 have hbeq:((done:Int)==(xs.length:Int))=false:=beq_eq_false_iff_ne.2 (by omega)
 obtain⟨gr,gro,rfl, -,hgr,hcc⟩:=(RowOf.sl H.out.row pcC_len).1.elem (Chg.refl [] _) done hdl
 have d0:=hcc 0 (by omega)
 have hxe:xs[done]=(cb,x):=(List.getElem?_eq_some_iff.1 hk).2
 rw[hxe]at d0
 simp only[pcC,ptV,List.getElem?_cons_zero,Nat.add_zero,Nat.mul_one]at d0
 have hdn0:(0:Int)≤(done:Int):=by omega
 have hdn1:(done:Int)<(xs.length:Int):=by omega
 have D0:=LH (show ∀w',Chg [] W w'→w'.cell? ⟨gr,gro+done,none⟩=some (.pointer (some ⟨cb,0,none⟩))from fun w' hc=>(World.cell?_of_block (w:=W) (hc.block gr hgr (by simp))).trans d0)
 have lx:=lt_of_heap B1.out
 have HW:=LH hW
 have HDL:=LH hdl
 clear hW hcc hxe hk hxm hdl
 go_enter Tryz.func16,Tryz.ntmps16
 go_upto_region 1 with fail
 rw[←HW.out]
 go_wp2_with (first
  |(go_at_call 52;(with_reducible refine Calls.mono MD.out ?_);rintro e w2 ⟨rfl,rfl⟩)
  |fail)
 go_quiet (fail)
 generalize hW2:w2.drewN _=W2
 have CX:=LH (show Chg [] w2 W2 by rw[←hW2];exact(Chg.refl [] w2).drewN _)
 have DX:=D0.out W2 CX.out
 have HX:=LH (H.out.kept CX.out)
 have BX:=LH (CX.out.at (by simp) B1.out)
 have CWX:=LH (C1.out.thenSame CX.out)
 have SX:=LH (show W2.heap.size=w2.heap.size by rw[←hW2];simp)
 clear hW2 B1 C1 k1 f1 kb lb ke le r3 H d0 D0 CX
 have ke:=blk_cell (HX.out.en eb (by simp))
 have le:=lt_of_heap (HX.out.en eb (by simp))
 have lg:gr<W2.heap.size:=by rw[SX.out];exact hgr
 go_upto_region 6 with fail
 go_quiet (fail)
 generalize hW3:W2.drewN _=W3
 have CX:=LH (show Chg [] W2 W3 by rw[←hW3];exact(Chg.refl [] W2).drewN _)
 have HX3:=LH (HX.out.kept CX.out)
 have BX3:=LH (CX.out.at (by simp) BX.out)
 have C3:=LH (CWX.out.thenSame CX.out)
 clear hW3 ke le lg DX HX BX
 go_upto_region 7 with fail
 have hxm:=List.mem_of_getElem? HK.out
 obtain⟨i1,i2,i3⟩:=HX3.out.ci _ hxm
 refine step_r7 (by kernel_rfl) (HX3.out.en eb (by simp)) (HX3.out.cb _ hxm) (HX3.out.si (by simp)).1 HG.out i1.1 i2.1 (HT.out.kept C3.out) HZ.out _ ?_
 intro bb na nc va vc y64 y65 y66 y67 y68 y69 y70 y71 y72 y73 y74 y75 y76 wz I1 I2 FF BB CC LB
 have SZ:=LH (CC.out.size)
 have S3:=LH (C3.out.size)
 have HY:=LH (HX3.out.kept CC.out)
 have BY1:=LH (CC.out.at (by simp) BX3.out)
 have ke:=blk_cell (HY.out.en eb (by simp))
 have fe:=blk_free (HY.out.en eb (by simp))
 have le:=lt_of_heap (HY.out.en eb (by simp))
 have kd:=blk_cell HY.out.blk
 have fd:=blk_free HY.out.blk
 have ld:=lt_of_heap HY.out.blk
 have kc:=blk_cell (show wz.heap[cb]? =some (.cells #[.string x.o.ent, .string x.o.id, .string x.o.op, .slice x.o.aa x.o.args.length x.o.ac, .int .i64 x.err, .slice x.va x.ans.length x.vc, .int .i64 x.from_, .int .i64 x.to_] 71 (0,0))from HY.out.cb _ hxm)
 have fc:=blk_free (show wz.heap[cb]? =some (.cells #[.string x.o.ent, .string x.o.id, .string x.o.op, .slice x.o.aa x.o.args.length x.o.ac, .int .i64 x.err, .slice x.va x.ans.length x.vc, .int .i64 x.from_, .int .i64 x.to_] 71 (0,0))from HY.out.cb _ hxm)
 have lc:=lt_of_heap (HY.out.cb _ hxm)
 have kb:=blk_cell BB.out
 have lbb:=lt_of_heap BB.out
 have NE:Hid (eb≠d∧eb≠cb∧d≠cb):=LH (by
  have nd:=HX3.out.nd
  have hcm:cb∈xs.map Prod.fst:=List.mem_map_of_mem hxm
  rw[HX3.out.own]at nd
  simp only[List.cons_append,List.nil_append,List.nodup_cons,List.mem_cons,List.mem_append,not_or]at nd
  exact⟨fun e=>nd.1.2.2.1 e.symm,fun e=>nd.2.2.2.1.2 (e▸hcm),fun e=>nd.1.2.2.2.2 (e▸hcm)⟩)
 obtain⟨n1,n2,n3⟩:=NE.out
 have m1:eb<bb:=by have:=lt_of_heap (HX3.out.en eb (by simp));have:=LB.out;omega
 have m2:d<bb:=by have:=lt_of_heap HX3.out.blk;have:=LB.out;omega
 have m3:cb<bb:=by have:=lt_of_heap (HX3.out.cb _ hxm);have:=LB.out;omega
 obtain⟨W4,hW4⟩:∃W4,W4=(((((wz.setCell ⟨eb,0,none⟩ (.slice na sn.length nc)).setCell ⟨eb,2,none⟩ (.int .i64 ((done:Int)+1))).setCell ⟨d,0,none⟩ (.int .i64 t)).setCell ⟨cb,4,none⟩ (.int .i64 fl)).setCell ⟨cb,5,none⟩ (.slice va sv.length vc)).setCell ⟨cb,7,none⟩ (.int .i64 t):=⟨_,rfl⟩
 obtain⟨s1,s2,s3,s4⟩:=step_stores (t:=t) (x0:= .slice na sn.length nc) (x2:= .int .i64 ((done:Int)+1)) (v4:= .int .i64 fl) (v5:= .slice va sv.length vc) (v7:= .int .i64 t) NE.out (HY.out.en eb (by simp)) HY.out.blk (HY.out.cb _ hxm)
 rw[←hW4]at s1 s2 s3 s4
 have hLW:=lt_of_heap BX3.out
 have hbL:∀y∈L,y≠w.heap.size:=fun y hy e=>by have:=HLT.out y hy;omega
 have hown:=HX3.out.own
 have hsz:w.heap.size∉[eb,d,cb]:=fun hm=>by
  have hcm:cb∈xs.map Prod.fst:=List.mem_map_of_mem hxm
  have e1:eb∈L:=by rw[hown];simp
  have e2:d∈L:=by rw[hown];simp
  have e3:cb∈L:=by rw[hown];simp only[List.mem_cons,List.mem_append];exact .inr (.inr (.inr (.inr (.inr hcm))))
  simp only[List.mem_cons,List.not_mem_nil,or_false]at hm
  rcases hm with e|e|e
  ·exact hbL _ e1 e.symm
  ·exact hbL _ e2 e.symm
  ·exact hbL _ e3 e.symm
 have BW4:=LH (s4.at hsz BY1.out)
 obtain⟨PD,PT⟩:=HX3.out.performed HK.out CC.out s4 s1 s2 s3 I1.out (fun z hz=>FF.out z (.inl hz)) I2.out (fun z hz=>FF.out z (.inr hz)) (show goodCl (pfC x fl va vc sv t)from⟨i2.1,hfl,i2.2.2.1,wf_small t0 t1⟩)
 have hmem:(cb,pfC x fl va vc sv t)∈xs.set done (cb,pfC x fl va vc sv t):=List.mem_of_getElem? (i:=done) (by rw[List.getElem?_set_self HDL.out])
 have CP:=copied_any (pfC x fl va vc sv t) W4 (PD.ci _ hmem).1 HAL.out HLV.out hna
 simp only[clC,pfC]at CP
 have CP:=LH CP
 have NX:Hid (∀y∈xs.set done (cb,pfC x fl va vc sv t),¬y.2.at' w.heap.size):=LH (fun y hy hb=>by
  rcases mem_set_of hy with rfl|⟨i,hi,hz2⟩
  ·rcases hb with ⟨ad,h1,h2,e⟩|⟨ad,h1,h2,e⟩|⟨v,hv,ad,h1,h2,e⟩
   ·have:=OLD.out (cb,x) hxm _ (.inl ⟨ad,h1,h2,e⟩);omega
   ·have:=FF.out ad (.inr h1);omega
   ·have:=OLD.out (cb,x) hxm _ (.inr (.inr ⟨v,hv,ad,h1,h2,e⟩));omega
  ·have:=OLD.out y (List.mem_of_getElem? hz2) _ hb;omega)
 have PD:=LH PD
 have PT:=LH PT
 rename_i CP0 PD0 PT0
 have NS:Hid (∀y,na=some y→y.block≠w.heap.size):=LH (fun y hy e=>by have:=FF.out y (.inl hy);omega)
 have NL:Hid (w.heap.size∉L):=LH (fun hm=>hbL _ hm rfl)
 have HW4:=LH hW4
 clear i1 i2 i3 hxm NE CP0 PD0 PT0 s1 s2 s3 s4 hown hbL hsz hmem hW4 I1 I2 BB FF
 go_wp2_with (first
  |(rw[←HW4.out];go_at_call 54;(with_reducible refine Calls.mono CP.out ?_);rintro e w6 ⟨y,rfl,hp,hy,hc6,hat⟩;obtain⟨⟨ye,yi,yo,ya,yc,yr⟩,yer,yva,yvc,yan,yf,yt⟩:=y;simp only[clC];have C6:=LH hc6;have B6:=LH (hc6.at (by simp) BW4.out);have k6:=blk_cell B6.out;have f6:=blk_free B6.out;have l6:=lt_of_heap B6.out;clear hp hy hc6 hat)
  |fail)
 have o3:=st8_at (.string ye) (.string yi) (.string yo) (.slice ya yr.length yc) (.int .i64 yer) (.slice yva yan.length yvc) (.int .i64 yf) (.int .i64 yt) B6.out
 have r1:=blk_cell o3
 have q9:=st8_self (w:=w6) (b:=w.heap.size) (.string ye) (.string yi) (.string yo) (.slice ya yr.length yc) (.int .i64 yer) (.slice yva yan.length yvc) (.int .i64 yf) (.int .i64 yt)
 refine bodyPost_ret (v:= .tuple #[.agg #[.string ye, .string yi, .string yo, .slice ya yr.length yc, .int .i64 yer, .slice yva yan.length yvc, .int .i64 yf, .int .i64 yt], .bool true]) (by simp[results,Tryz.results16,go_sem,r1]) rfl ?_
 have hpd:=(PD.out.kept C6.out).keptZ q9 NL.out NX.out NS.out
 have hch:Chg L w _:=((((C3.out.mono (T:=L) (by simp)).then PT.out.chg (fun z hz _=>hz)).then C6.out (by simp)).then q9 (fun z hz hl=>by simp at hz;omega))
 exact⟨⟨_,rfl⟩,⟨na,nc,va,vc,hpd⟩,⟨hch,fun y hy=> .inl hy⟩⟩
end
section
open Go.RowKit
variable {w w' wr w5 w6:World} {B d me mc eb cb g cap:Nat} {L E:List Nat} {rv:Value} {sa a:Option Addr} {sc c:Nat} {st:List Ce} {xs:List (Nat×Cl)} {x y:Cl} {done:Nat} {now:Int} {D:List Cl}
theorem callInfoT:(Tryz.prog.info? 71).map (fun i=>(i.zero,i.size,i.bytes))=some (some (.agg #[.string ⟨#[]⟩, .string ⟨#[]⟩, .string ⟨#[]⟩, .slice none 0 0, .int .i64 0, .slice none 0 0, .int .i64 0, .int .i64 0]),8,120):=by kernel_rfl
structure CaI (w wr:World) (a:Option Addr) (c:Nat) (D:List Cl):Prop where
 chg:Chg [] w wr
 row:RowOf clC 8 wr w.heap.size 71 (.slice a D.length c) D
 ins:∀d∈D,ClIn wr d∧∀b,d.at' b→b∉(Value.slice a D.length c).ownBlock.toList
theorem CaI.keptN (h:CaI w wr a c D) (hc:Chg [] wr w'):CaI w w' a c D where
 chg:=h.chg.thenSame hc
 row:=h.row.kept hc (by simp)
 ins:=fun d hd=>⟨(h.ins d hd).1.kept hc,(h.ins d hd).2⟩
theorem CaI.step (h:CaI w w5 a c D) (hy:ClIn w5 y) (hya:∀b,y.at' b→b∉(Value.slice a D.length c).ownBlock.toList) (hg:Chg (Value.slice a D.length c).ownBlock.toList w5 w6) (hrow:RowOf clC 8 w6 w.heap.size 71 (.slice (some ⟨g,0,none⟩) (D.length+1) cap) (D++[y])) (hat:(Value.slice a D.length c).ownBlock=some g∨w5.heap.size≤g):CaI w w6 (some ⟨g,0,none⟩) cap (D++[y]):=by
 have hb:=h.row.block
 have hns:∀d,ClIn w5 d→(∀b,d.at' b→b∉(Value.slice a D.length c).ownBlock.toList)→ClIn w6 d∧∀b,d.at' b→b∉(Value.slice (some ⟨g,0,none⟩) (D++[y]).length cap).ownBlock.toList:=fun d h1 h2=>by
  refine⟨h1.keptT hg h2,fun b hbo e=> ?_⟩
  have e:b=g:=by simpa[Value.ownBlock]using e
  subst e
  rcases hat with e2|e2
  ·exact h2 b hbo (by simp[e2])
  ·have:=h1.atLt hbo
   omega
 refine⟨h.chg.then hg (fun x hx hl=> ?_),by simpa using hrow,fun d hd=> ?_⟩
 ·simp only[Option.mem_toList]at hx
  have:=(hb x hx).1
  omega
 ·rcases List.mem_append.1 hd with hd|hd
  ·exact hns d (h.ins d hd).1 (h.ins d hd).2
  ·simp at hd
   subst hd
   exact hns d hy hya
theorem good_pT {x y:Cl} (h:goodCl x) (he:y.p=x.p):goodCl y:=by
 obtain⟨⟨h1,h2,h3,h4,h5⟩,k1,k2,k3⟩:=h
 obtain⟨⟨a,b,c,ad,ac,args⟩,er,va,vc,an,fr,to_⟩:=x
 obtain⟨⟨a',b',c',ad',ac',args'⟩,er',va',vc',an',fr',to'⟩:=y
 simp only[Cl.p,EOp.p,PCl.mk.injEq,POp.mk.injEq]at he
 obtain⟨⟨rfl,rfl,rfl,e⟩,rfl,rfl,rfl,rfl⟩:=he
 have hl:args'.length=args.length:=by simpa using congrArg List.length e
 refine⟨⟨h1,h2,h3,by simp only at h4⊢;rw[hl];exact h4,fun d hd=> ?_⟩,k1,k2,k3⟩
 have:d.L∈args.map Rr.L:=by rw[←e];exact List.mem_map_of_mem hd
 obtain⟨d',hd',e'⟩:=List.mem_map.1 this
 rw[←e']
 exact h5 d' hd'
def CallsP (w:World) (l:List PCl) (e:Ending) (w':World):Prop:=
 ∃(oa:Option Addr) (oc:Nat) (D:List Cl),e= .returned (.slice oa D.length oc)∧D.map Cl.p=l∧LIn w' oa oc D∧(∀y∈D,goodCl y)∧Chg [] w w'
theorem dcalls_none (h:DrAt w B L d me mc [] rv sa sc st xs done now):
 Calls Tryz.prog 18 #[.pointer (some ⟨d,0,none⟩), .string entX] w (CallsP w []):=by
 have MD:=LH (dmade_any h)
 have kb:=blk_cell h.blk
 have lb:=lt_of_heap h.blk
 have r3:Sem.run Tryz.prog (Instr.lookup 166 (.map (some me)) (.string entX) true) w=Result.ok (.tuple #[.pointer none, .bool false]) w:=(MapIs.lookup h.em Tryz.underlying166 Tryz.underlying9 (zeroEnt _) entX true).trans (by simp[lookL])
 clear h
 go_enter Tryz.func18,Tryz.ntmps18
 go_wp2_with (first
  |(go_at_call 52;(with_reducible refine Calls.mono MD.out ?_);rintro e w2 ⟨rfl,rfl⟩)
  |fail)
 go_ret
 exact⟨none,0,[],rfl,rfl,⟨⟨⟨rfl,fun k hk=>by simp at hk⟩,Nat.le_refl _,Nat.zero_le _,fun _=>rfl⟩,fun x hx=>by cases hx⟩,(fun y hy=>by cases hy),Chg.refl _ _⟩
theorem dcalls_yes (h:DrAt w B L d me mc [eb] rv sa sc st xs done now) (h8:xs.length≤8) (hal:∀x∈xs,(∀v∈x.2.o.args,v.L.length≤3518437208780)∧x.2.ans.length≤3518437208780∧x.2.o.args.length≤1048576):
 Calls Tryz.prog 18 #[.pointer (some ⟨d,0,none⟩), .string entX] w (CallsP w (xs.map (fun x=>x.2.p))):=by
 obtain⟨ra,rc,rfl⟩:=RowOf.shape h.row
 have MD:=LH (dmade_any h)
 have kb:=blk_cell h.blk
 have lb:=lt_of_heap h.blk
 have ke:=blk_cell (h.en eb (by simp))
 have le:=lt_of_heap (h.en eb (by simp))
 have r3:Sem.run Tryz.prog (Instr.lookup 166 (.map (some me)) (.string entX) true) w=Result.ok (.tuple #[.pointer (some ⟨eb,0,none⟩), .bool true]) w:=(MapIs.lookup h.em Tryz.underlying166 Tryz.underlying9 (zeroEnt _) entX true).trans (by simp[lookL,ptV])
 have H:=LH h
 have HAL:=LH hal
 clear h hal
 go_enter Tryz.func18,Tryz.ntmps18
 go_wp2_with (first
  |(go_at_call 52;(with_reducible refine Calls.mono MD.out ?_);rintro e w2 ⟨rfl,rfl⟩)
  |fail)
 clear kb lb ke le r3 MD
 go_loopw [7,29] (fun u i wr=>∃(k:Nat) (a:Option Addr) (c:Nat) (D:List Cl),u= .slice a D.length c∧i= .int .i64 k∧k≤xs.length∧Hid (D.length=k)∧Hid (D.map Cl.p=(xs.take k).map (fun x=>x.2.p))∧Hid (CaI w2 wr a c D)∧Hid (∀y∈D,goodCl y)) (fun _ i _=>xs.length-(intOf i).toNat)
 case atStart=>exact⟨0,none,0,[],rfl,rfl,Nat.zero_le _,LH rfl,LH rfl,LH ⟨Chg.refl _ _,RowOf.nil _ _ _,fun d hd=>by cases hd⟩,LH (fun y hy=>by cases hy)⟩
 case round=>
  obtain⟨k,a,c,D,rfl,rfl,hk,DK,DP,CI,GD⟩:=hrel
  have hk0:(0:Int)≤(k:Int):=by omega
  by_cases hkl:k<xs.length
  ·have hk1:(k:Int)<(xs.length:Int):=by omega
   obtain⟨gr,gro,rfl, -,hgr,hcc⟩:=(RowOf.sl H.out.row pcC_len).1.elem CI.out.chg k hkl
   have d0:=hcc 0 (by omega)
   have hxm:=List.getElem_mem hkl
   have hkt:(xs.take (k+1)).map (fun x=>x.2.p)=(xs.take k).map (fun x=>x.2.p)++[xs[k].2.p]:=by rw[List.take_succ_eq_append_getElem hkl,List.map_append];rfl
   generalize xs[k]=z at*
   obtain⟨cb,x⟩:=z
   simp only[pcC,ptV,List.getElem?_cons_zero,Nat.add_zero,Nat.mul_one]at d0
   have H5:=H.out.kept CI.out.chg
   have bc:=show wr.heap[cb]? =some (.cells #[.string x.o.ent, .string x.o.id, .string x.o.op, .slice x.o.aa x.o.args.length x.o.ac, .int .i64 x.err, .slice x.va x.ans.length x.vc, .int .i64 x.from_, .int .i64 x.to_] 71 (0,0))from H5.cb _ hxm
   have kc:=blk_cell bc
   have lc:=lt_of_heap bc
   have hs:=HAL.out _ hxm
   have GX:=LH (H5.ci _ hxm).2.1
   have CP:=copied_any x wr (H5.ci _ hxm).1 hs.1 hs.2.1 hs.2.2
   simp only[clC]at CP
   have CP:=LH CP
   have KT:=LH hkt
   rename_i CP0
   clear CP0 hs bc H5 hxm hkt hcc
   have hD8:D.length≤7:=by have:=DK.out;omega
   go_wp2_with (first
    |(go_at_call 54;(with_reducible refine Calls.mono CP.out ?_);rintro e w5 ⟨y,rfl,hp,hy,hc5,hat⟩;have P5:=LH hp;have Y5:=LH hy;have C5:=LH hc5;have A5:=LH hat;have z5:=hc5.size;have CI5:=LH (CI.out.keptN hc5);have zs:=CI.out.chg.size;clear hp hy hc5 hat)
    |(at_builtin;go_loud (refine wpl_appendL rfl _ _ 75 rfl w2.heap.size 71 _ 120 Tryz.underlying75 callInfoT rfl (by decide) clC_len clC_one (.slice a D.length c) D rfl (CI5.out.keptN ((Chg.refl [] w5).alloc (clO y))).row w5.heap.size 1 y _ _ _ rfl (heap_alloc_new w5 _) rfl (by unfold maxLen;omega) (by omega) (by rw[World.size_alloc];omega) ?_);intro g8 c8 w8 hr8 hg8 ho8 hl8;have K8:=LH (Chg.ofRow (v:= .slice a D.length c) hg8);have R8:=LH hr8;have O8:=LH ho8;clear hr8 hg8 ho8)
    |fail)
   have CI6:=LH ((CI5.out.keptN ((Chg.refl [] w5).alloc (clO y))).step (y:=y) (Y5.out.kept ((Chg.refl [] _).alloc (clO y))) (fun b hb hm=>by
    have h1:=(A5.out b hb).1
    have h2:=(CI.out.row.block b (by simpa using hm)).2
    omega) K8.out R8.out (by
    rcases O8.out with e|e
    ·exact .inl e
    ·exact .inr (by first|omega|(simp only[World.size_alloc];omega)|(simp only[World.size_alloc]at e⊢;omega))))
   exact⟨⟨k+1,_,_,D++[y],by simp,by go_num,by omega,LH (by simp[DK.out]),LH (by rw[List.map_append,KT.out,DP.out];simp[P5.out]),CI6,LH (fun q hq=>by
    rcases List.mem_append.1 hq with hq|hq
    ·exact GD.out q hq
    ·simp at hq;subst hq;exact good_pT GX.out P5.out)⟩,by simp[intOf];omega⟩
  ·have hke:k=xs.length:=by omega
   subst hke
   go_wp2_with fail
   go_ret
   exact⟨a,c,D,rfl,by rw[DP.out,List.take_length],⟨(InIs.ofRow CI.out.row clC_len).2,fun x hx=>(CI.out.ins x hx).1⟩,GD.out,CI.out.chg⟩
end
end Go.Proofs.YtmofknmeljdodaaGreatDoor
