/- Layer 13: contracts: copies of machines (machine.own), of machines without requests. No condition but those that the statements name. -/
import Derived.Test.YtmofknmeljdodaaGreatDoorZS01
import Derived.Test.YtmofknmeljdodaaGreatDoorZS16
set_option maxHeartbeats 100000000
set_option maxRecDepth 100000
set_option linter.unusedVariables false
set_option linter.unusedSimpArgs false
open List renaming getElem_toArray→gTA,getElem_cons_zero→gCZ,getElem_cons_succ→gCS,setIfInBounds_toArray→sTA,set_cons_zero→sCZ,set_cons_succ→sCS
namespace Go.Proofs.YtmofknmeljdodaaGreatDoor
section
open Go.RowKit
variable {w w0 w1 w2 w3 w5 w':World} {S L L':List Nat} {B b fb n fc:Nat} {cv iv fv rv:Value} {val val':Vp} {f f':Fr'} {Fr F:List Fr'} {R:List Rq'} {M M':PMa} {pf pf2:PFr} {pfs:List PFr}
theorem RvIs.shape {u:Value} {vs:List Vl} (h:RvIs w B L u vs):∃a n c,u= .slice a n c:=by
 obtain⟨ps,h1, -⟩:=h
 obtain⟨a,c,e⟩:=RowOf.shape h1
 exact⟨a,_,c,e⟩
theorem RvIs.more {u:Value} {vs:List Vl} {A:List Nat} (h:RvIs w B L u vs) (hA:∀y∈A,w.heap.size≤y) (hc:Chg [] w w'):RvIs w' B (A++L) u vs:=by
 refine h.mv (S:=[]) ⟨hc,by simp,fun y hy=> ?_⟩ (by simp)
 rcases List.mem_append.1 hy with hy|hy
 ·exact .inr (hA y hy)
 ·exact .inl hy
theorem RvIs.low {u:Value} {vs:List Vl} {B':Nat} (h:RvIs w B L u vs) (hb:B'≤B) (hs:∀y∈L',y∈L):RvIs w B' L' u vs:=by
 obtain⟨ps,h1,h2⟩:=h
 exact⟨ps,h1.mono hb,h2.mono (fun _ _ _ k=>k.sub hs)⟩
theorem own_lt {u:Value} {vs:List Vl} (h:RvIs w B L u vs):∀y∈u.ownBlock.toList,B≤y∧y<w.heap.size:=by
 obtain⟨ps,h1, -⟩:=h
 intro y hy
 exact h1.block y (by simpa using hy)
theorem st9_at {w:World} {b:Nat} {t:TypeId} {c0 c1 c2 c3 c4 c5 c6 c7 c8:Value} (x0 x1 x2 x3 x4 x5 x6 x7 x8:Value) (h:w.heap[b]? =some (.cells #[c0,c1,c2,c3,c4,c5,c6,c7,c8] t (0,0))):
 (((((((((w.setCell ⟨b,0,none⟩ x0).setCell ⟨b,1,none⟩ x1).setCell ⟨b,2,none⟩ x2).setCell ⟨b,3,none⟩ x3).setCell ⟨b,4,none⟩ x4).setCell ⟨b,5,none⟩ x5).setCell ⟨b,6,none⟩ x6).setCell ⟨b,7,none⟩ x7).setCell ⟨b,8,none⟩ x8).heap[b]? =some (.cells #[x0,x1,x2,x3,x4,x5,x6,x7,x8] t (0,0)):=by
 have h0:(w.setCell ⟨b,0,none⟩ x0).heap[b]? =some (.cells #[x0,c1,c2,c3,c4,c5,c6,c7,c8] t (0,0)):=blk_set h 0 x0
 have h1:((w.setCell ⟨b,0,none⟩ x0).setCell ⟨b,1,none⟩ x1).heap[b]? =some (.cells #[x0,x1,c2,c3,c4,c5,c6,c7,c8] t (0,0)):=blk_set h0 1 x1
 have h2:(((w.setCell ⟨b,0,none⟩ x0).setCell ⟨b,1,none⟩ x1).setCell ⟨b,2,none⟩ x2).heap[b]? =some (.cells #[x0,x1,x2,c3,c4,c5,c6,c7,c8] t (0,0)):=blk_set h1 2 x2
 have h3:((((w.setCell ⟨b,0,none⟩ x0).setCell ⟨b,1,none⟩ x1).setCell ⟨b,2,none⟩ x2).setCell ⟨b,3,none⟩ x3).heap[b]? =some (.cells #[x0,x1,x2,x3,c4,c5,c6,c7,c8] t (0,0)):=blk_set h2 3 x3
 have h4:(((((w.setCell ⟨b,0,none⟩ x0).setCell ⟨b,1,none⟩ x1).setCell ⟨b,2,none⟩ x2).setCell ⟨b,3,none⟩ x3).setCell ⟨b,4,none⟩ x4).heap[b]? =some (.cells #[x0,x1,x2,x3,x4,c5,c6,c7,c8] t (0,0)):=blk_set h3 4 x4
 have h5:((((((w.setCell ⟨b,0,none⟩ x0).setCell ⟨b,1,none⟩ x1).setCell ⟨b,2,none⟩ x2).setCell ⟨b,3,none⟩ x3).setCell ⟨b,4,none⟩ x4).setCell ⟨b,5,none⟩ x5).heap[b]? =some (.cells #[x0,x1,x2,x3,x4,x5,c6,c7,c8] t (0,0)):=blk_set h4 5 x5
 have h6:(((((((w.setCell ⟨b,0,none⟩ x0).setCell ⟨b,1,none⟩ x1).setCell ⟨b,2,none⟩ x2).setCell ⟨b,3,none⟩ x3).setCell ⟨b,4,none⟩ x4).setCell ⟨b,5,none⟩ x5).setCell ⟨b,6,none⟩ x6).heap[b]? =some (.cells #[x0,x1,x2,x3,x4,x5,x6,c7,c8] t (0,0)):=blk_set h5 6 x6
 have h7:((((((((w.setCell ⟨b,0,none⟩ x0).setCell ⟨b,1,none⟩ x1).setCell ⟨b,2,none⟩ x2).setCell ⟨b,3,none⟩ x3).setCell ⟨b,4,none⟩ x4).setCell ⟨b,5,none⟩ x5).setCell ⟨b,6,none⟩ x6).setCell ⟨b,7,none⟩ x7).heap[b]? =some (.cells #[x0,x1,x2,x3,x4,x5,x6,x7,c8] t (0,0)):=blk_set h6 7 x7
 have h8:(((((((((w.setCell ⟨b,0,none⟩ x0).setCell ⟨b,1,none⟩ x1).setCell ⟨b,2,none⟩ x2).setCell ⟨b,3,none⟩ x3).setCell ⟨b,4,none⟩ x4).setCell ⟨b,5,none⟩ x5).setCell ⟨b,6,none⟩ x6).setCell ⟨b,7,none⟩ x7).setCell ⟨b,8,none⟩ x8).heap[b]? =some (.cells #[x0,x1,x2,x3,x4,x5,x6,x7,x8] t (0,0)):=blk_set h7 8 x8
 exact h8
theorem st9_self {w:World} {b:Nat} (x0 x1 x2 x3 x4 x5 x6 x7 x8:Value):
 Chg [b] w (((((((((w.setCell ⟨b,0,none⟩ x0).setCell ⟨b,1,none⟩ x1).setCell ⟨b,2,none⟩ x2).setCell ⟨b,3,none⟩ x3).setCell ⟨b,4,none⟩ x4).setCell ⟨b,5,none⟩ x5).setCell ⟨b,6,none⟩ x6).setCell ⟨b,7,none⟩ x7).setCell ⟨b,8,none⟩ x8):=by
 have q:∀j,(⟨b,j,none⟩:Addr).block<w.heap.size→(⟨b,j,none⟩:Addr).block∈[b]:=fun j _=>by simp
 exact(((((((((Chg.refl [b] w).setCell _ _ (q 0)).setCell _ _ (q 1)).setCell _ _ (q 2)).setCell _ _ (q 3)).setCell _ _ (q 4)).setCell _ _ (q 5)).setCell _ _ (q 6)).setCell _ _ (q 7)).setCell _ _ (q 8)
theorem ow_fin {E:List Nat} {lo m:Nat} {Y:List PFr} {Fk:List Fr'} (h:OwI E lo m L fv val Fk M Y w) (hY:Y.reverse=M.fr) (hq:M.rq=[]) (hB:B≤lo) (hc:Chg [m+1] w w'):∃L',MvE w' B E L' fv (.slice none 0 0) val Fk.reverse [] M:=by
 have nd:=h.nd
 rw[h.own]at nd
 have hm:Mv [m+1] (E++L) (E++L) w w':= .same hc (by intro y hy;simp at hy;subst hy;rw[h.own];simp)
 have hp:maV fv (.slice none 0 0) Fk.reverse []=Fk.reverse.flatMap frB++fv.ownBlock.toList:=by simp[maV,Value.ownBlock]
 have hs:∀y∈E++maV fv (.slice none 0 0) Fk.reverse [],y∈E++L:=by
  intro y hy
  rcases List.mem_append.1 hy with hy|hy
  ·exact List.mem_append_left _ hy
  refine List.mem_append_right _ ?_
  rw[hp]at hy
  rw[h.own]
  simp only[List.mem_append,List.mem_flatMap,List.mem_reverse,List.mem_cons]at hy⊢
  rcases hy with h|h
  ·exact .inr (.inr h)
  ·exact .inr (.inl (.inr h))
 have hn:∀y,lo≤y→y∉[m+1]:=fun y hy hs=>by have:=h.lo;simp at hs;omega
 have rv:∀{u:Value} {vs:List Vl},RvIs w lo (E++L) u vs→RvIs w' B (E++maV fv (.slice none 0 0) Fk.reverse []) u vs:=fun k=>(k.mv hm (fun g hg hs=>hn g (own_lt k g (ownMem hg)).1 hs)).low hB hs
 refine⟨_,(h.val.mv hm).sub hs,by rw[List.reverse_reverse];exact(h.frs.kept hc (fun g hg hs=>hn g (h.frs.block g hg).1 hs)).mono hB, ?_,RowOf.nil _ _ _,by rw[hq];trivial,rfl, ?_⟩
 ·have h9:=h.fra.rev
  rw[hY]at h9
  exact h9.mono (fun _ _ _ k=>⟨k.fn,k.pc,rv k.lo,rv k.st⟩)
 ·rw[hp]
  have n2:=(List.nodup_cons.1 nd).2
  rw[List.cons_append]at n2
  have n3:=(List.nodup_cons.1 n2).2
  refine(List.Perm.nodup_iff ?_).1 n3
  exact List.perm_append_comm.trans (List.Perm.append_right _ ((List.reverse_perm Fk).symm.flatMap_right frB))
theorem ow_rows {x5 x6 x9:World} {q6 b1:Nat} {v1 v2:Value} {Lk:List Nat} {l1 l2:List Vl} (V1:RvIs x5 b1 (v1.ownBlock.toList++q6::Lk) v1 l1) (hb1:q6<b1) (E8:Chg [] x5 x6) (V2:RvIs x6 x5.heap.size (v2.ownBlock.toList++(v1.ownBlock.toList++q6::Lk)) v2 l2)
 (hq:q6<x5.heap.size) (h9:Chg [q6] x6 x9) (o:Obj):RvIs (x9.alloc o) q6 (v2.ownBlock.toList++(v1.ownBlock.toList++Lk)) v1 l1∧RvIs (x9.alloc o) q6 (v2.ownBlock.toList++(v1.ownBlock.toList++Lk)) v2 l2∧∀y∈v2.ownBlock.toList,y∉v1.ownBlock.toList:=by
 have o1:=own_lt V1
 have o2:=own_lt V2
 have hm:Mv [q6] (v2.ownBlock.toList++(v1.ownBlock.toList++q6::Lk)) (v2.ownBlock.toList++(v1.ownBlock.toList++q6::Lk)) x6 (x9.alloc o):= .same (h9.alloc o) (by intro y hy;simp at hy;subst hy;simp)
 have hs:∀y∈v2.ownBlock.toList++(v1.ownBlock.toList++Lk),y∈v2.ownBlock.toList++(v1.ownBlock.toList++q6::Lk):=by
  intro y hy
  simp only[List.mem_append,List.mem_cons]at hy⊢
  rcases hy with h|h|h
  ·exact .inl h
  ·exact .inr (.inl h)
  ·exact .inr (.inr (.inr h))
 refine⟨((V1.more (fun y hy=>(o2 y hy).1) E8).mv hm (fun g hg hs=> ?_)).low (by omega) hs,(V2.mv hm (fun g hg hs=> ?_)).low (by omega) hs,fun y hy hy1=> ?_⟩
 ·have:=(o1 g (ownMem hg)).1;simp at hs;omega
 ·have:=(o2 g (ownMem hg)).1;simp at hs;omega
 ·have:=(o2 y hy).1;have:=(o1 y hy1).2;omega
theorem mown_any {ra:Option Addr} {rc:Nat} {E:List Nat} (hE:∀y∈E,y<w.heap.size) (h:MvAt w B L fv (.slice ra 0 rc) val F [] M) (hs:smF M.fr) (hvl:M.val.length≤1048576):
 Calls Tryz.prog 51 #[mvV fv (.slice ra 0 rc) val M] w fun e w'=>∃fv' val' F' L',e= .returned (mvV fv' (.slice none 0 0) val' M)∧MvE w' w.heap.size E L' fv' (.slice none 0 0) val' F' [] M∧Chg [] w w':=by
 obtain⟨a,c,rfl⟩:=RowOf.shape h.frs
 have hq:M.rq=[]:=by
  have:=h.rqa
  cases e:M.rq with
  |nil=>rfl
  |cons x l=>rw[e]at this;exact this.elim
 have HE:=LH hE
 clear hE
 have HV:=LH (fun w' (hc:Chg [] w w')=>vclone_any (h.val.mv (.none hc)) hvl)
 have hlen:=h.fra.rev.len
 have HA0:=h.fra.rev
 have hsm:∀p∈M.fr.reverse,smL p.lo∧smL p.st:=fun p hp=>hs.2 p (by simpa using hp)
 have hb:(F.reverse.length:Int)≤1024:=by have:=hs.1;rw[hlen];simp;omega
 have HS0:=(RowOf.sl h.frs frC_len).1
 have hY:M.fr.reverse.reverse=M.fr:=List.reverse_reverse _
 clear h hs hvl
 generalize F.reverse=X at*
 generalize M.fr.reverse=Y at*
 have HA:=LH HA0
 have HS:=LH HS0
 have HM:=LH hsm
 have HY:=LH hY
 have HQ:=LH hq
 have HLn:=LH hlen
 have hb2:X.length≤1024:=by omega
 have C1:Hid (Chg [] w ((w.alloc (mvO (.slice a X.length c) (.slice ra 0 rc) val M)).alloc (.cells #[.int .i64 0, .int .i64 0, .slice none 0 0, .slice none 0 0, .slice none 0 0, .int .i64 0, .int .i64 0, .int .i64 0, .int .i64 0] 48 (0,0)))):=LH (((Chg.refl _ _).alloc _).alloc _)
 have B1:=(show((w.alloc (mvO (.slice a X.length c) (.slice ra 0 rc) val M)).alloc (.cells #[.int .i64 0, .int .i64 0, .slice none 0 0, .slice none 0 0, .slice none 0 0, .int .i64 0, .int .i64 0, .int .i64 0, .int .i64 0] 48 (0,0))).heap[w.heap.size]? =some (mvO (.slice a X.length c) (.slice ra 0 rc) val M)from blk_alloc (heap_alloc_new _ _))
 have B2:=LH (show((w.alloc (mvO (.slice a X.length c) (.slice ra 0 rc) val M)).alloc (.cells #[.int .i64 0, .int .i64 0, .slice none 0 0, .slice none 0 0, .slice none 0 0, .int .i64 0, .int .i64 0, .int .i64 0, .int .i64 0] 48 (0,0))).heap[w.heap.size+1]? =some (.cells #[.int .i64 0, .int .i64 0, .slice none 0 0, .slice none 0 0, .slice none 0 0, .int .i64 0, .int .i64 0, .int .i64 0, .int .i64 0] 48 (0,0))from by have h:=heap_alloc_new (w.alloc (mvO (.slice a X.length c) (.slice ra 0 rc) val M)) (.cells #[.int .i64 0, .int .i64 0, .slice none 0 0, .slice none 0 0, .slice none 0 0, .int .i64 0, .int .i64 0, .int .i64 0, .int .i64 0] 48 (0,0));rw[World.size_alloc]at h;exact h)
 have kb:=blk_cell B1
 have B1:=LH B1
 rename_i B10
 clear B10 HA0 HS0 hsm hY hq hlen
 unfold mvV
 unfold mvO at C1 B1 B2 kb
 go_enter Tryz.func51,Tryz.ntmps51
 go_wp2_with fail
 go_quiet (fail)
 generalize hW:World.drewN _ _=W
 have C2:Hid (Chg [] w W):=LH (by rw[←hW];exact C1.out.drewN _)
 have B3:W.heap[w.heap.size]? =some (.cells #[.int .i64 M.st, .int .i64 M.er, .slice val.a val.n val.c, .slice a X.length c, .slice ra 0 rc, .int .i64 M.ls, .int .i64 M.lm, .int .i64 M.steps, .int .i64 M.peak] 48 (0,0)):=by rw[←hW];exact B1.out
 have B4:Hid (W.heap[w.heap.size+1]? =some (.cells #[.int .i64 0, .int .i64 0, .slice none 0 0, .slice none 0 0, .slice none 0 0, .int .i64 0, .int .i64 0, .int .i64 0, .int .i64 0] 48 (0,0))):=LH (by rw[←hW];exact B2.out)
 have Z2:w.heap.size+2≤W.heap.size:=by have:=lt_of_heap B4.out;omega
 have kb3:=blk_cell B3
 have B3:=LH B3
 rename_i B30
 clear B30 hW kb B1 B2 C1
 go_wp2_with (first
  |(go_at_call 43;(with_reducible refine Calls.mono (HV.out _ C2.out) ?_);rintro e w2 ⟨q,rfl,hq,hn,hc2⟩;have Q2:=LH hq;have N2:=LH hn;have C3:=LH hc2;have kb4:=blk_cell (hc2.at (by simp) B3.out);have fb4:=blk_free (hc2.at (by simp) B3.out);have lb4:=lt_of_heap (hc2.at (by simp) B3.out);clear hq hn hc2))
 have O0:Hid (OwI E (w.heap.size+2) w.heap.size [w.heap.size,w.heap.size+1] (.slice none 0 0) q [] M [] (((w2.setCell ⟨w.heap.size,2,none⟩ (.slice q.a q.n q.c)).setCell ⟨w.heap.size,3,none⟩ (.slice none 0 0)).setCell ⟨w.heap.size,4,none⟩ (.slice none 0 0))):=LH (by
  refine⟨blk_set (blk_set (blk_set (C3.out.at (by simp) B3.out) 2 _) 3 _) 4 _, ?_,RowOf.nil _ _ _,trivial,rfl,by simp,by omega,by have:=C3.out.size;simp only[World.size_setCell];omega,HE.out⟩
  exact(Q2.out.new (L:=E++[w.heap.size,w.heap.size+1]) (fun ad ha hm=>by
   have h1:=N2.out ad ha
   rcases List.mem_append.1 hm with hm|hm
   ·have:=HE.out _ hm;omega
   ·simp at hm;omega)).mv (Mv.same ((((Chg.refl [w.heap.size] _).setCell _ _ (fun _=>by simp)).setCell _ _ (fun _=>by simp)).setCell _ _ (fun _=>by simp)) (by simp)))
 have CC:Hid (Chg [] w (((w2.setCell ⟨w.heap.size,2,none⟩ (.slice q.a q.n q.c)).setCell ⟨w.heap.size,3,none⟩ (.slice none 0 0)).setCell ⟨w.heap.size,4,none⟩ (.slice none 0 0))):=LH ((((C2.out.thenSame C3.out).setCell _ _ (fun h=>by simp at h)).setCell _ _ (fun h=>by simp at h)).setCell _ _ (fun h=>by simp at h))
 have BB:Hid ((((w2.setCell ⟨w.heap.size,2,none⟩ (.slice q.a q.n q.c)).setCell ⟨w.heap.size,3,none⟩ (.slice none 0 0)).setCell ⟨w.heap.size,4,none⟩ (.slice none 0 0)).heap[w.heap.size+1]? =some (.cells #[.int .i64 0, .int .i64 0, .slice none 0 0, .slice none 0 0, .slice none 0 0, .int .i64 0, .int .i64 0, .int .i64 0, .int .i64 0] 48 (0,0))):=LH ((((C3.out.mono (T:=[w.heap.size]) (by simp)).setCell _ _ (fun _=>by simp)).setCell _ _ (fun _=>by simp)).setCell _ _ (fun _=>by simp)|>.at (by simp) B4.out)
 have QV:=LH (show True from trivial)
 clear kb3 kb4 fb4 lb4
 go_loopw [21] (fun i wr=>∃(k:Nat) (fvk:Value) (Lk:List Nat) (Fk:List Fr'),i= .int .i64 k∧k≤X.length∧Hid (OwI E (w.heap.size+2) w.heap.size Lk fvk q Fk M (Y.take k) wr)∧Hid (Chg [] w wr)∧Hid (wr.heap[w.heap.size+1]? =some (.cells #[.int .i64 0, .int .i64 0, .slice none 0 0, .slice none 0 0, .slice none 0 0, .int .i64 0, .int .i64 0, .int .i64 0, .int .i64 0] 48 (0,0)))) (fun i _=>X.length-(intOf i).toNat)
 case atStart=>exact⟨0,_,_,_,rfl,Nat.zero_le _,O0,CC,BB⟩
 case round=>
  clear O0 CC BB C2 C3 B3 B4 Q2 N2 HV
  obtain⟨k,fvk,Lk,Fk,rfl,hk,O,C,BX⟩:=hrel
  by_cases hlt:k<X.length
  ·obtain⟨fa,fcap,rfl⟩:=RowOf.shape O.out.frs
   have hFk:Fk.length≤1024:=by have:=O.out.fra.len;rw[List.length_take]at this;omega
   obtain⟨g,off,rfl, -,gl,hcc⟩:=HS.out.elem C.out k hlt
   have u0:=hcc 0 (by omega)
   have u1:=hcc 1 (by omega)
   have u2:=hcc 2 (by omega)
   have u3:=hcc 3 (by omega)
   simp only[frC,List.getElem?_cons_zero,List.getElem?_cons_succ,Nat.add_zero]at u0 u1 u2 u3
   have hkY:k<Y.length:=by rw[←HLn.out];exact hlt
   have hfa:=HA.out.at k hlt hkY
   have hsz:=HM.out _ (List.getElem_mem (h:=hkY))
   have htk:Y.take (k+1)=Y.take k++[Y[k]]:=List.take_succ_eq_append_getElem hkY
   generalize Y[k]=pf at*
   generalize X[k]=fr at*
   have HTK:=LH htk
   have hL1:∀y∈wr.heap.size::(E++Lk),y<wr.heap.size+1:=fun y hy=>by
    rcases List.mem_cons.1 hy with rfl|hy
    ·omega
    ·rcases List.mem_append.1 hy with hy|hy
     ·have:=HE.out y hy;have:=C.out.size;omega
     ·have:=(O.out.lt y hy).2;omega
   have A1:=LH (fun w' (hc:Chg [] wr w') (hz:wr.heap.size+1≤w'.heap.size)=>mvals_any (L':=wr.heap.size::(E++Lk)) ((hfa.lo.mv (.none C.out) (by simp)).mv (.none hc) (by simp)) hsz.1 (fun y hy=>Nat.lt_of_lt_of_le (hL1 y hy) hz))
   have A2:=LH (fun w' (v1:Value) (hc:Chg [] wr w') (hz:wr.heap.size+1≤w'.heap.size) (hv:∀y∈v1.ownBlock.toList,y<w'.heap.size)=>mvals_any (L':=v1.ownBlock.toList++wr.heap.size::(E++Lk)) ((hfa.st.mv (.none C.out) (by simp)).mv (.none hc) (by simp)) hsz.2 (fun y hy=>by
    rcases List.mem_append.1 hy with hy|hy
    ·exact hv y hy
    ·exact Nat.lt_of_lt_of_le (hL1 y hy) hz))
   have HF:=LH (show fr.fn=pf.fn∧fr.pc=pf.pc from⟨hfa.fn,hfa.pc⟩)
   have hk0:(0:Int)≤(k:Int):=by omega
   have hk1:(k:Int)<(X.length:Int):=by omega
   have q6:=heap_alloc_new wr (.cells #[.int .i64 fr.fn, .int .i64 fr.pc, .slice fr.la fr.ln fr.lc, .slice fr.sa fr.sn fr.sc] 251 (0,0))
   have k6:=blk_cell q6
   have f6:=blk_free q6
   have C6:=LH (show Chg [] wr (wr.alloc (.cells #[.int .i64 fr.fn, .int .i64 fr.pc, .slice fr.la fr.ln fr.lc, .slice fr.sa fr.sn fr.sc] 251 (0,0)))from(Chg.refl _ _).alloc _)
   have Q6:=LH q6
   have HL1:=LH hL1
   unfold Fr'.lv at A1
   unfold Fr'.sv at A2
   rename_i A20
   clear hcc hfa hsz htk q6 A20 hL1
   go_wp2_with fail
   go_region_law (first
    |(show(if _ then Oper.wp _ ⟨_,Op.call ⟨Callee.value (Operand.func 103),_,_⟩,_,_,_,_⟩ _ _ _ _ else _);refine(if_pos (by simp[Region.wanted])).mpr ?_;go_simp;with_reducible refine(A1.out _ C6.out.drew (by simp)).mono ?_;rintro e w5 ⟨v1,rfl,hv1,hc5⟩;obtain⟨a1,n1,c1,rfl⟩:=hv1.shape;have V1:=LH hv1;have C7:=LH (C6.out.drew.thenSame hc5);have D7:=LH ((Chg.refl [] (wr.alloc (.cells #[.int .i64 fr.fn, .int .i64 fr.pc, .slice fr.la fr.ln fr.lc, .slice fr.sa fr.sn fr.sc] 251 (0,0)))).drew.thenSame hc5);have k7:=blk_cell (D7.out.at (by simp) Q6.out);have f7:=blk_free (D7.out.at (by simp) Q6.out);clear hv1 hc5)
    |(show(if _ then Oper.wp _ ⟨_,Op.call ⟨Callee.value (Operand.func 103),_,_⟩,_,_,_,_⟩ _ _ _ _ else _);refine(if_pos (by simp[Region.wanted])).mpr ?_;go_simp;with_reducible refine(A2.out w5 (.slice a1 n1 c1) C7.out (by have:=D7.out.size;simp at this;omega) (fun y hy=>(own_lt V1.out y hy).2)).mono ?_;rintro e w6 ⟨v2,rfl,hv2,hc6⟩;obtain⟨a2,n2,c2,rfl⟩:=hv2.shape;have V2:=LH hv2;have D8E:=LH hc6;have C8:=LH (C7.out.thenSame hc6);have D8:=LH (D7.out.thenSame hc6);have k8:=blk_cell (D8.out.at (by simp) Q6.out);have f8:=blk_free (D8.out.at (by simp) Q6.out);have l8:=lt_of_heap (D8.out.at (by simp) Q6.out);clear hv2 hc6)
    |fail)
   all_goals (
    generalize hW9:(w6.setCell ⟨wr.heap.size,2,none⟩ (.slice a1 n1 c1)).setCell ⟨wr.heap.size,3,none⟩ (.slice a2 n2 c2)=W9
    have h9:Chg [wr.heap.size] w6 W9:=by rw[←hW9];exact((Chg.refl _ _).setCell _ _ (fun _=>by simp)).setCell _ _ (fun _=>by simp)
    have Q9:W9.heap[wr.heap.size]? =some (.cells #[.int .i64 fr.fn, .int .i64 fr.pc, .slice a1 n1 c1, .slice a2 n2 c2] 251 (0,0)):=by rw[←hW9];exact blk_set (blk_set (D8.out.at (by simp) Q6.out) 2 _) 3 _
    have C9:=LH (show Chg [] wr W9 by rw[←hW9];exact(C8.out.setCell _ _ (fun h=>by simp at h)).setCell _ _ (fun h=>by simp at h))
    have k9:=blk_cell Q9
    have l9:=lt_of_heap Q9
    have O9:=O.out.kept C9.out
    have kb9:=blk_cell O9.blk
    have lb9:=lt_of_heap O9.blk
    have B9:=LH O9.blk
    have R9:=LH (ow_rows V1.out (by simp) D8E.out V2.out (by have:=D7.out.size;simp at this;omega) h9 (.cells #[.int .i64 fr.fn, .int .i64 fr.pc, .slice a1 n1 c1, .slice a2 n2 c2] 251))
    have F9:=LH O9.frs
    have Z9:=LH O9.lo
    have M9:Hid (w.heap.size∉(Value.slice fa Fk.length fcap).ownBlock.toList):=LH (fun hm=>by
     have nd:=O9.nd
     rw[O9.own]at nd
     exact(List.nodup_cons.1 nd).1 (List.mem_append_left _ (List.mem_cons_of_mem _ hm)))
    have N9:Hid (w.heap.size+1∉(Value.slice fa Fk.length fcap).ownBlock.toList):=LH (fun hm=>by
     have:=(F9.out.block _ (by simpa using hm)).1
     omega)
    clear hW9 Q9 O9 k7 f7 k8 f8 l8 k6 f6 h9
    go_wp2_with (first
     |(at_builtin;go_loud (refine wpl_appendsB rfl _ _ 44 rfl (w.heap.size+2) 251 _ 64 Tryz.underlying44 frInfo rfl (by decide) frC_len frC_one (.slice fa Fk.length fcap) Fk rfl (RowOf.kept F9.out ((Chg.refl [] _).alloc _) (by simp)) _ 1 1 [⟨fr.fn,fr.pc,a1,n1,c1,a2,n2,c2⟩] _ _ _ rfl (heap_alloc_new _ _) rfl rfl (by omega) (by unfold maxLen;omega) (by omega) (by have h1:=lt_of_heap BX.out;have h2:=C9.out.size;simp only[World.size_alloc];omega) ?_;intro g4 c4 w4 hr4 hg4 ho4 hl4;have R4:=LH hr4;have G4:=LH (Chg.ofRow hg4);have O4:=LH ho4;have kb4:=blk_cell ((Chg.ofRow hg4).at M9.out (((Chg.refl [] _).alloc _).at (by simp) B9.out));have fb4:=blk_free ((Chg.ofRow hg4).at M9.out (((Chg.refl [] _).alloc _).at (by simp) B9.out));have lb4:=lt_of_heap ((Chg.ofRow hg4).at M9.out (((Chg.refl [] _).alloc _).at (by simp) B9.out));clear hr4 hg4 ho4)))
    obtain⟨L',O'⟩:=O.out.step (w3:=W9.alloc (.cells #[.int .i64 fr.fn, .int .i64 fr.pc, .slice a1 n1 c1, .slice a2 n2 c2] 251)) (w5:=w4) (f':=⟨fr.fn,fr.pc,a1,n1,c1,a2,n2,c2⟩) (C9.out.alloc _) (by have h1:=lt_of_heap BX.out;omega) R9.out.1 R9.out.2.1 R9.out.2.2 HF.out G4.out R4.out (fun g hg=>by
     simp only[Value.ownBlock,Option.some.injEq]at hg
     subst hg
     rcases O4.out with e|e
     ·exact .inl e
     ·exact .inr (by omega))
    exact⟨⟨k+1,_,L',_,by go_num,by omega,LH (by rw[HTK.out];exact O'),LH (((C.out.thenSame (C9.out.alloc _)).then G4.out (fun y hy hl=>by have:=(F9.out.block y (by simpa using hy)).1;omega)).setCell _ _ (fun h=>by simp at h)),LH (((Chg.refl [w.heap.size] _).setCell _ _ (fun _=>by simp)).at (by simp) (G4.out.at N9.out ((C9.out.alloc _).at (by simp) BX.out)))⟩,by simp[intOf];omega⟩)
  ·have hke:k=X.length:=by omega
   subst hke
   clear hlt hk
   obtain⟨fa,fcap,rfl⟩:=RowOf.shape O.out.frs
   have kbo:=blk_cell O.out.blk
   have lbo:=lt_of_heap O.out.blk
   have kx:=blk_cell BX.out
   have fx:=blk_free BX.out
   have lx:=lt_of_heap BX.out
   go_wp2_with fail
   go_loopw [42] (fun i ws=>i= .int .i64 0∧ws=wr) (fun _ _=>0)
   case atStart=>exact⟨rfl,rfl⟩
   case round=>
    rename_i hrel
    obtain⟨rfl,rfl⟩:=hrel
    go_wp2_with fail
    have o3:=st9_at (.int .i64 M.st) (.int .i64 M.er) (.slice q.a q.n q.c) (.slice fa Fk.length fcap) (.slice none 0 0) (.int .i64 M.ls) (.int .i64 M.lm) (.int .i64 M.steps) (.int .i64 M.peak) BX.out
    have r1:=blk_cell o3
    have hc9:=st9_self (w:=wr) (b:=w.heap.size+1) (.int .i64 M.st) (.int .i64 M.er) (.slice q.a q.n q.c) (.slice fa Fk.length fcap) (.slice none 0 0) (.int .i64 M.ls) (.int .i64 M.lm) (.int .i64 M.steps) (.int .i64 M.peak)
    obtain⟨L',h9⟩:=ow_fin (B:=w.heap.size) O.out (by rw[show Y.take X.length=Y by rw[HLn.out,List.take_length]];exact HY.out) HQ.out (by omega) hc9
    exact bodyPost_ret (v:= .agg #[.int .i64 M.st, .int .i64 M.er, .slice q.a q.n q.c, .slice fa Fk.length fcap, .slice none 0 0, .int .i64 M.ls, .int .i64 M.lm, .int .i64 M.steps, .int .i64 M.peak]) (by simp[results,Tryz.results51,go_sem,r1]) rfl ⟨_,_,_,L',rfl,h9,C.out.then hc9 (fun y hy hl=>by simp at hy;omega)⟩
end
end Go.Proofs.YtmofknmeljdodaaGreatDoor
