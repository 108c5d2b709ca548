/- Layer 13: machine.Run: the region that makes the executor. No condition but those that the statements name. -/
import Derived.Test.YtmofknmeljdodaaGreatDoorZS01
import Derived.Test.YtmofknmeljdodaaGreatDoorZS17
import Derived.Test.YtmofknmeljdodaaGreatDoorZS03
set_option maxHeartbeats 100000000
set_option maxRecDepth 100000
set_option linter.unusedVariables false
set_option linter.unusedSimpArgs false
open List renaming getElem_toArray→gTA,getElem_cons_zero→gCZ,getElem_cons_succ→gCS,setIfInBounds_toArray→sTA,set_cons_zero→sCZ,set_cons_succ→sCS
namespace Go.Proofs.YtmofknmeljdodaaGreatDoor
section
open Go.RowKit
variable {w w0 w1 w2 w3 w5 w':World} {S L L':List Nat} {B b fb n fc:Nat} {cv iv fv rv:Value} {val val':Vp} {f f':Fr'} {Fr F:List Fr'} {R:List Rq'} {M M':PMa} {pf pf2:PFr} {pfs:List PFr}
def runZ (stp:PMa→PMa):Nat→PMa→PMa
 |0,M=>M
 |n+1,M=>if M.st=1 then runZ stp n (stp M)else M
def StepOk (w0:World) (cv iv:Value) (stp:PMa→PMa) (Ok:PMa→Prop):Prop:=
 ∀M,Ok M→M.st=1→Ok (stp M)∧∀(w:World) (B b:Nat) (L:List Nat) (tb:Nat),Chg [] w0 w→w0.heap.size≤B→MaIs w B b L cv iv M→TaIs w L tb→
  Calls Tryz.prog 101 #[.pointer (some ⟨b,0,none⟩), .slice (some ⟨tb,0,none⟩) 21 21] w fun e w'=>e= .returned (.tuple #[])∧∃L',MaIs w' B b L' cv iv (stp M)∧Tr L w L' w'
theorem MvE.sub {E E':List Nat} (h:MvE w B E L fv rv val F R M) (hs:∀y∈E',y∈E):MvE w B E' L fv rv val F R M:=by
 have hs2:∀y∈E'++L,y∈E++L:=fun y hy=>by
  rcases List.mem_append.1 hy with hy|hy
  ·exact List.mem_append_left _ (hs y hy)
  ·exact List.mem_append_right _ hy
 have hm:∀{u:Value} {vs:List Vl},RvIs w B (E++L) u vs→RvIs w B (E'++L) u vs:=fun⟨ps,h1,h2⟩=>⟨ps,h1,h2.mono (fun _ _ _ k=>k.sub hs2)⟩
 exact⟨h.val.sub hs2,h.frs,h.fra.mono (fun _ _ _ k=>⟨k.fn,k.pc,hm k.lo,hm k.st⟩),h.rqs,h.rqa.mono (fun _ _ _ k=>⟨k.op,hm k.args⟩),h.own,h.nd⟩
theorem st11_at {w:World} {b:Nat} {t:TypeId} {c0 c1 c2 c3 c4 c5 c6 c7 c8 c9 c10:Value} (x0 x1 x2 x3 x4 x5 x6 x7 x8 x9 x10:Value) (h:w.heap[b]? =some (.cells #[c0,c1,c2,c3,c4,c5,c6,c7,c8,c9,c10] t (0,0))):
 (((((((((((w.setCell ⟨b,0,none⟩ x0).setCell ⟨b,1,none⟩ x1).setCell ⟨b,2,none⟩ x2).setCell ⟨b,3,none⟩ x3).setCell ⟨b,4,none⟩ x4).setCell ⟨b,5,none⟩ x5).setCell ⟨b,6,none⟩ x6).setCell ⟨b,7,none⟩ x7).setCell ⟨b,8,none⟩ x8).setCell ⟨b,9,none⟩ x9).setCell ⟨b,10,none⟩ x10).heap[b]? =some (.cells #[x0,x1,x2,x3,x4,x5,x6,x7,x8,x9,x10] t (0,0)):=by
 have h0:(w.setCell ⟨b,0,none⟩ x0).heap[b]? =some (.cells #[x0,c1,c2,c3,c4,c5,c6,c7,c8,c9,c10] t (0,0)):=blk_set h 0 x0
 have h1:((w.setCell ⟨b,0,none⟩ x0).setCell ⟨b,1,none⟩ x1).heap[b]? =some (.cells #[x0,x1,c2,c3,c4,c5,c6,c7,c8,c9,c10] t (0,0)):=blk_set h0 1 x1
 have h2:(((w.setCell ⟨b,0,none⟩ x0).setCell ⟨b,1,none⟩ x1).setCell ⟨b,2,none⟩ x2).heap[b]? =some (.cells #[x0,x1,x2,c3,c4,c5,c6,c7,c8,c9,c10] t (0,0)):=blk_set h1 2 x2
 have h3:((((w.setCell ⟨b,0,none⟩ x0).setCell ⟨b,1,none⟩ x1).setCell ⟨b,2,none⟩ x2).setCell ⟨b,3,none⟩ x3).heap[b]? =some (.cells #[x0,x1,x2,x3,c4,c5,c6,c7,c8,c9,c10] t (0,0)):=blk_set h2 3 x3
 have h4:(((((w.setCell ⟨b,0,none⟩ x0).setCell ⟨b,1,none⟩ x1).setCell ⟨b,2,none⟩ x2).setCell ⟨b,3,none⟩ x3).setCell ⟨b,4,none⟩ x4).heap[b]? =some (.cells #[x0,x1,x2,x3,x4,c5,c6,c7,c8,c9,c10] t (0,0)):=blk_set h3 4 x4
 have h5:((((((w.setCell ⟨b,0,none⟩ x0).setCell ⟨b,1,none⟩ x1).setCell ⟨b,2,none⟩ x2).setCell ⟨b,3,none⟩ x3).setCell ⟨b,4,none⟩ x4).setCell ⟨b,5,none⟩ x5).heap[b]? =some (.cells #[x0,x1,x2,x3,x4,x5,c6,c7,c8,c9,c10] t (0,0)):=blk_set h4 5 x5
 have h6:(((((((w.setCell ⟨b,0,none⟩ x0).setCell ⟨b,1,none⟩ x1).setCell ⟨b,2,none⟩ x2).setCell ⟨b,3,none⟩ x3).setCell ⟨b,4,none⟩ x4).setCell ⟨b,5,none⟩ x5).setCell ⟨b,6,none⟩ x6).heap[b]? =some (.cells #[x0,x1,x2,x3,x4,x5,x6,c7,c8,c9,c10] t (0,0)):=blk_set h5 6 x6
 have h7:((((((((w.setCell ⟨b,0,none⟩ x0).setCell ⟨b,1,none⟩ x1).setCell ⟨b,2,none⟩ x2).setCell ⟨b,3,none⟩ x3).setCell ⟨b,4,none⟩ x4).setCell ⟨b,5,none⟩ x5).setCell ⟨b,6,none⟩ x6).setCell ⟨b,7,none⟩ x7).heap[b]? =some (.cells #[x0,x1,x2,x3,x4,x5,x6,x7,c8,c9,c10] t (0,0)):=blk_set h6 7 x7
 have h8:(((((((((w.setCell ⟨b,0,none⟩ x0).setCell ⟨b,1,none⟩ x1).setCell ⟨b,2,none⟩ x2).setCell ⟨b,3,none⟩ x3).setCell ⟨b,4,none⟩ x4).setCell ⟨b,5,none⟩ x5).setCell ⟨b,6,none⟩ x6).setCell ⟨b,7,none⟩ x7).setCell ⟨b,8,none⟩ x8).heap[b]? =some (.cells #[x0,x1,x2,x3,x4,x5,x6,x7,x8,c9,c10] t (0,0)):=blk_set h7 8 x8
 have h9:((((((((((w.setCell ⟨b,0,none⟩ x0).setCell ⟨b,1,none⟩ x1).setCell ⟨b,2,none⟩ x2).setCell ⟨b,3,none⟩ x3).setCell ⟨b,4,none⟩ x4).setCell ⟨b,5,none⟩ x5).setCell ⟨b,6,none⟩ x6).setCell ⟨b,7,none⟩ x7).setCell ⟨b,8,none⟩ x8).setCell ⟨b,9,none⟩ x9).heap[b]? =some (.cells #[x0,x1,x2,x3,x4,x5,x6,x7,x8,x9,c10] t (0,0)):=blk_set h8 9 x9
 have h10:(((((((((((w.setCell ⟨b,0,none⟩ x0).setCell ⟨b,1,none⟩ x1).setCell ⟨b,2,none⟩ x2).setCell ⟨b,3,none⟩ x3).setCell ⟨b,4,none⟩ x4).setCell ⟨b,5,none⟩ x5).setCell ⟨b,6,none⟩ x6).setCell ⟨b,7,none⟩ x7).setCell ⟨b,8,none⟩ x8).setCell ⟨b,9,none⟩ x9).setCell ⟨b,10,none⟩ x10).heap[b]? =some (.cells #[x0,x1,x2,x3,x4,x5,x6,x7,x8,x9,x10] t (0,0)):=blk_set h9 10 x10
 exact h10
theorem st11_self {w:World} {b:Nat} (x0 x1 x2 x3 x4 x5 x6 x7 x8 x9 x10:Value):Chg [b] w (((((((((((w.setCell ⟨b,0,none⟩ x0).setCell ⟨b,1,none⟩ x1).setCell ⟨b,2,none⟩ x2).setCell ⟨b,3,none⟩ x3).setCell ⟨b,4,none⟩ x4).setCell ⟨b,5,none⟩ x5).setCell ⟨b,6,none⟩ x6).setCell ⟨b,7,none⟩ x7).setCell ⟨b,8,none⟩ x8).setCell ⟨b,9,none⟩ x9).setCell ⟨b,10,none⟩ x10):=by
 have q:∀j,(⟨b,j,none⟩:Addr).block<w.heap.size→(⟨b,j,none⟩:Addr).block∈[b]:=fun j _=>by simp
 exact((((((((((((Chg.refl [b] w).setCell _ _ (q 0)).setCell _ _ (q 1)).setCell _ _ (q 2)).setCell _ _ (q 3)).setCell _ _ (q 4)).setCell _ _ (q 5)).setCell _ _ (q 6)).setCell _ _ (q 7)).setCell _ _ (q 8)).setCell _ _ (q 9)).setCell _ _ (q 10))
theorem MvE.low {E:List Nat} {B':Nat} (h:MvE w B E L fv rv val F R M) (hb:B'≤B):MvE w B' E L fv rv val F R M:=by
 have hm:∀{u:Value} {vs:List Vl},RvIs w B (E++L) u vs→RvIs w B' (E++L) u vs:=fun⟨ps,h1,h2⟩=>⟨ps,h1.mono hb,h2⟩
 exact⟨h.val,h.frs.mono hb,h.fra.mono (fun _ _ _ k=>⟨k.fn,k.pc,hm k.lo,hm k.st⟩),h.rqs.mono hb,h.rqa.mono (fun _ _ _ k=>⟨k.op,hm k.args⟩),h.own,h.nd⟩
theorem run_r1 {z0 z1 z2 z5 z6 z7 z8 z9 z10 z11 z12 z13 z14 z15 z16 z17 z18 z19 z20 z21 z22 z23 z24 z25 z26 z27 z28:Value} {ops:Array Oper} (hops:ops=rgnF Tryz.f48 1) {W:World} {m1 m2 fl fcap cn cc inn ic rc:Nat} {ca ia ra fa:Option Addr} (b1:W.heap[m1]? =some (.cells #[.slice ca cn cc, .slice ia inn ic] 35 (0,0))) (b2:W.heap[m2]? =some (.cells #[.int .i64 M.st, .int .i64 M.er, .slice val.a val.n val.c, .slice fa fl fcap, .slice ra 0 rc, .int .i64 M.ls, .int .i64 M.lm, .int .i64 M.steps, .int .i64 M.peak] 48 (0,0)))
 (h:MvAt W B L (.slice fa fl fcap) (.slice ra 0 rc) val F [] M) (hs:smF M.fr) (hvl:M.val.length≤1048576) (Q:Exit→Act→World→Prop)
 (hQ:∀(b:Nat) y9 y10 y11 y12 (wz:World) (L5:List Nat),Hid (MaIs wz W.heap.size b L5 (.slice ca cn cc) (.slice ia inn ic) M)→Hid (Chg [] W wz)→Q .normal ⟨#[z0,z1,z2, .pointer (some ⟨m1,0,none⟩), .pointer (some ⟨m2,0,none⟩),z5,z6, .pointer (some ⟨b,0,none⟩),z8,y9,y10,y11,y12,z13,z14,z15,z16,z17,z18,z19,z20,z21,z22,z23,z24,z25,z26,z27,z28],[]⟩ wz):
 (Code.region 1 ops true).wp Tryz.prog Q ⟨#[z0,z1,z2, .pointer (some ⟨m1,0,none⟩), .pointer (some ⟨m2,0,none⟩),z5,z6,z7,z8,z9,z10,z11,z12,z13,z14,z15,z16,z17,z18,z19,z20,z21,z22,z23,z24,z25,z26,z27,z28],[]⟩ W:=by
 subst hops
 simp only[rgnF,Tryz.f48,Option.bind_some,rgn,Nat.reduceEqDiff,↓reduceIte,Option.orElse_some,Option.orElse_none,Option.getD_some,Option.orElse]
 have OW:=LH (fun w' (hc:Chg [] W w') (x:Nat)=>mown_any (E:=List.range' x (w'.heap.size-x)) (fun y hy=>by rw[List.mem_range'_1]at hy;omega) (h.kept hc) hs hvl)
 unfold mvV at OW
 have k1:=blk_cell b1
 have k2:=blk_cell b2
 have l1:=lt_of_heap b1
 have l2:=lt_of_heap b2
 have B1:=LH b1
 have CW:=LH (Chg.refl [] W)
 clear b1 b2 h hs hvl
 refine wp_region_noPanic ?_
 go_region_law (first
  |(show(if _ then Oper.wp _ ⟨_,Op.call ⟨Callee.value (Operand.func 51),_,_⟩,_,_,_,_⟩ _ _ _ _ else _);refine(if_pos (by simp[Region.wanted])).mpr ?_;go_simp;with_reducible refine(OW.out (World.drew (World.alloc W _)) ((CW.out.alloc _).drew) W.heap.size).mono ?_;rintro e w5 ⟨fv5,val5,F5,L5,rfl,hm5,hc5⟩;obtain⟨fa5,fc5,rfl⟩:=RowOf.shape hm5.frs;rw[List.length_reverse]at hm5;have M5:=LH hm5;have K5:=LH hc5;have kb5:=blk_cell (hc5.at (by simp) (heap_alloc_new W _));have fb5:=blk_free (hc5.at (by simp) (heap_alloc_new W _));have lb5:=lt_of_heap (hc5.at (by simp) (heap_alloc_new W _));have kc5:=blk_cell ((((Chg.refl [] W).alloc _).drew.thenSame hc5).at (by simp) B1.out);have lc5:=lt_of_heap ((((Chg.refl [] W).alloc _).drew.thenSame hc5).at (by simp) B1.out);clear hm5 hc5)
  |(show(if _ then Oper.wp _ ⟨_,Op.call ⟨Callee.value (Operand.func 51),_,_⟩,_,_,_,_⟩ _ _ _ _ else _);refine(if_pos (by simp[Region.wanted])).mpr ?_;go_simp;with_reducible refine(OW.out (World.alloc (World.drew W) _) ((CW.out.drew).alloc _) W.heap.size).mono ?_;rintro e w5 ⟨fv5,val5,F5,L5,rfl,hm5,hc5⟩;obtain⟨fa5,fc5,rfl⟩:=RowOf.shape hm5.frs;rw[List.length_reverse]at hm5;have M5:=LH hm5;have K5:=LH hc5;have kb5:=blk_cell (hc5.at (by simp) (heap_alloc_new (World.drew W) _));have fb5:=blk_free (hc5.at (by simp) (heap_alloc_new (World.drew W) _));have lb5:=lt_of_heap (hc5.at (by simp) (heap_alloc_new (World.drew W) _));have kc5:=blk_cell ((((Chg.refl [] W).drew.alloc _).thenSame hc5).at (by simp) B1.out);have lc5:=lt_of_heap ((((Chg.refl [] W).drew.alloc _).thenSame hc5).at (by simp) B1.out);clear hm5 hc5)
  |(show(if _ then Oper.wp _ ⟨_,Op.call ⟨Callee.value (Operand.func 51),_,_⟩,_,_,_,_⟩ _ _ _ _ else _);refine(if_pos (by simp[Region.wanted])).mpr ?_;go_simp;with_reducible refine(OW.out (World.drew W) CW.out.drew W.heap.size).mono ?_;rintro e w5 ⟨fv5,val5,F5,L5,rfl,hm5,hc5⟩;obtain⟨fa5,fc5,rfl⟩:=RowOf.shape hm5.frs;rw[List.length_reverse]at hm5;have M5:=LH hm5;have K5:=LH hc5;have kc5:=blk_cell (((Chg.refl [] W).drew.thenSame hc5).at (by simp) B1.out);have lc5:=lt_of_heap (((Chg.refl [] W).drew.thenSame hc5).at (by simp) B1.out);clear hm5 hc5)
  |fail)
 all_goals refine NoPanic.normal ?_
 all_goals
  first
  |exact hQ w5.heap.size _ _ _ _ _ _ (LH ⟨_,_,_,_,_,(M5.out.low (B':=W.heap.size) (by simp)).mv.toMa (by have h9:=K5.out.size;simp only[heap_drew,World.size_alloc]at h9;omega)⟩) (LH (((Chg.refl [] W).drew.thenSame K5.out).alloc _))
  |refine hQ W.heap.size _ _ _ _ _ _ (LH ⟨_,_,_,_,_,((M5.out.sub (E':=[W.heap.size]) (fun y hy=>by simp at hy;subst hy;rw[List.mem_range'_1];simp)).low (B':=W.heap.size) (by simp)).toMa (st11_at (.slice ca cn cc) (.slice ia inn ic) (.int .i64 M.st) (.int .i64 M.er) (.slice val5.a val5.n val5.c) (.slice fa5 F5.length fc5) (.slice none 0 0) (.int .i64 M.ls) (.int .i64 M.lm) (.int .i64 M.steps) (.int .i64 M.peak) (K5.out.at (by simp) (heap_alloc_new W _))) (st11_self (.slice ca cn cc) (.slice ia inn ic) (.int .i64 M.st) (.int .i64 M.er) (.slice val5.a val5.n val5.c) (.slice fa5 F5.length fc5) (.slice none 0 0) (.int .i64 M.ls) (.int .i64 M.lm) (.int .i64 M.steps) (.int .i64 M.peak)) (fun hm=>by have h9:=(M5.out.mv.lt _ hm).1;simp only[heap_drew,World.size_alloc]at h9;omega) (Nat.le_refl _) (by have h9:=K5.out.size;simp only[heap_drew,World.size_alloc]at h9;omega)⟩) (LH ((((Chg.refl [] W).alloc _).drew.thenSame K5.out).then (st11_self (.slice ca cn cc) (.slice ia inn ic) (.int .i64 M.st) (.int .i64 M.er) (.slice val5.a val5.n val5.c) (.slice fa5 F5.length fc5) (.slice none 0 0) (.int .i64 M.ls) (.int .i64 M.lm) (.int .i64 M.steps) (.int .i64 M.peak)) (fun y hy hl=>by simp at hy;omega)))
  |refine hQ W.heap.size _ _ _ _ _ _ (LH ⟨_,_,_,_,_,((M5.out.sub (E':=[W.heap.size]) (fun y hy=>by simp at hy;subst hy;rw[List.mem_range'_1];simp)).low (B':=W.heap.size) (by simp)).toMa (st11_at (.slice ca cn cc) (.slice ia inn ic) (.int .i64 M.st) (.int .i64 M.er) (.slice val5.a val5.n val5.c) (.slice fa5 F5.length fc5) (.slice none 0 0) (.int .i64 M.ls) (.int .i64 M.lm) (.int .i64 M.steps) (.int .i64 M.peak) (K5.out.at (by simp) (heap_alloc_new (World.drew W) _))) (st11_self (.slice ca cn cc) (.slice ia inn ic) (.int .i64 M.st) (.int .i64 M.er) (.slice val5.a val5.n val5.c) (.slice fa5 F5.length fc5) (.slice none 0 0) (.int .i64 M.ls) (.int .i64 M.lm) (.int .i64 M.steps) (.int .i64 M.peak)) (fun hm=>by have h9:=(M5.out.mv.lt _ hm).1;simp only[heap_drew,World.size_alloc]at h9;omega) (Nat.le_refl _) (by have h9:=K5.out.size;simp only[heap_drew,World.size_alloc]at h9;omega)⟩) (LH ((((Chg.refl [] W).drew.alloc _).thenSame K5.out).then (st11_self (.slice ca cn cc) (.slice ia inn ic) (.int .i64 M.st) (.int .i64 M.er) (.slice val5.a val5.n val5.c) (.slice fa5 F5.length fc5) (.slice none 0 0) (.int .i64 M.ls) (.int .i64 M.lm) (.int .i64 M.steps) (.int .i64 M.peak)) (fun y hy hl=>by simp at hy;omega)))
end
end Go.Proofs.YtmofknmeljdodaaGreatDoor
