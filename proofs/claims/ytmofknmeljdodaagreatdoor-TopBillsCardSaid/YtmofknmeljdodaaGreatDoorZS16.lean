/- Layer 10: contracts: values of one Int cell: value.Check, checked, value.Int. No condition but those that the statements name. -/
import Derived.Test.YtmofknmeljdodaaGreatDoorZS01
import Derived.Test.YtmofknmeljdodaaGreatDoorZS05
import Derived.Test.YtmofknmeljdodaaGreatDoorZS15
import Derived.Test.YtmofknmeljdodaaGreatDoorZS02
import Derived.Test.YtmofknmeljdodaaGreatDoorZS06
set_option maxHeartbeats 100000000
set_option maxRecDepth 100000
set_option linter.unusedVariables false
set_option linter.unusedSimpArgs false
open List renaming getElem_toArray→gTA,getElem_cons_zero→gCZ,getElem_cons_succ→gCS,setIfInBounds_toArray→sTA,set_cons_zero→sCZ,set_cons_succ→sCS
namespace Go.Proofs.YtmofknmeljdodaaGreatDoor
section
open Go.RowKit
variable {w w':World} {a:Option Addr} {c:Nat} {n:Int}
def oneC (n:Int):Ce:=⟨3,n,⟨#[]⟩,0⟩
def VI (n:Int) (w:World) (a:Option Addr) (c:Nat):Prop:=InIs ceC 4 w a c [oneC n]
theorem VI.kept (h:VI n w a c) (hc:Chg [] w w'):VI n w' a c:=InIs.kept h hc
def fitV (n:Int):Prop:=checkZ [oneC n]=0∧(oneC n).good
theorem fit21:fitV 21:=⟨by decide+kernel,by simp only[oneC,Ce.good];decide⟩
theorem fit42:fitV 42:=⟨by decide+kernel,by simp only[oneC,Ce.good];decide⟩
theorem vcheck_one (h:VI n w a c) (hf:fitV n) (ht:TabW w):Calls Tryz.prog 45 #[.slice a 1 c] w fun e w'=>e= .returned (.int .i64 0)∧Chg [] w w':=by
 have A:=vcheck_any a c [oneC n] w h.1 (by simp) (by intro x hx;simp at hx;subst hx;exact hf.2) ht
 rw[hf.1]at A
 exact A
theorem vchecked_one (h:VI n w a c) (hf:fitV n) (ht:TabW w):Calls Tryz.prog 239 #[.slice a 1 c] w fun e w'=>e= .returned (.tuple #[.slice a 1 c, .int .i64 0])∧Chg [] w w':=by
 have A:=LH (vcheck_one h hf ht)
 clear h hf ht
 go_enter Tryz.func239,Tryz.ntmps239
 go_wp2_with (first|(go_at_call 45;(with_reducible refine Calls.mono A.out ?_);rintro e w2 ⟨rfl,hc2⟩))
 go_ret2
 exact⟨rfl,hc2⟩
theorem vi_new (w:World) (n:Int):VI n (w.alloc (.cells #[.int .i64 3, .int .i64 n, .string ⟨#[]⟩, .int .i64 0] 63 (0,0))) (some ⟨w.heap.size,0,none⟩) 1:=
 (InIs.ofRow (row_blk (base:=0) [oneC n] (Nat.zero_le _) (heap_alloc_new w _) ceC_len rfl (by unfold maxLen;simp)) ceC_len).2
theorem vint_one (hf:fitV n) (w:World) (ht:TabW w):Calls Tryz.prog 163 #[.int .i64 n] w fun e w'=>∃q,e= .returned (.tuple #[.slice (some ⟨q,0,none⟩) 1 1, .int .i64 0])∧VI n w' (some ⟨q,0,none⟩) 1∧Chg [] w w'∧w.heap.size≤q∧w'.heap[q]? =some (.cells #[.int .i64 3, .int .i64 n, .string ⟨#[]⟩, .int .i64 0] 63 (0,0)):=by
 have C1:Chg [] w (w.alloc (.cells #[.int .i64 3, .int .i64 n, .string ⟨#[]⟩, .int .i64 0] 63 (0,0))):=(Chg.refl _ _).alloc _
 have A:=LH (vchecked_one (vi_new w n) hf (ht.kept C1))
 have C1:=LH C1
 rename_i C0
 clear C0 hf ht
 go_enter Tryz.func163,Tryz.ntmps163
 go_wp2_with (first|(go_at_call 239;(with_reducible refine Calls.mono A.out ?_);rintro e w2 ⟨rfl,hc2⟩))
 go_ret2
 exact⟨_,rfl,(vi_new w n).kept hc2,C1.out.thenSame hc2,Nat.le_refl _,hc2.at (by simp) (heap_alloc_new w _)⟩
end
section
open Go.RowKit
variable {w w':World} {a a1 a2:Option Addr} {c c1 c2:Nat} {n:Int}
theorem arith_dbl (w:World) (ht:TabW w):Calls Tryz.prog 292 #[.string ⟨#[43]⟩, .int .i64 21, .int .i64 21] w fun e w'=>∃q,e= .returned (.tuple #[.slice (some ⟨q,0,none⟩) 1 1, .int .i64 0])∧VI 42 w' (some ⟨q,0,none⟩) 1∧Chg [] w w'∧w.heap.size≤q∧w'.heap[q]? =some (.cells #[.int .i64 3, .int .i64 42, .string ⟨#[]⟩, .int .i64 0] 63 (0,0)):=by
 have A1:Hid (∀w',Calls Tryz.prog 255 #[.int .i64 21, .int .i64 21] w' fun e w''=>e= .returned (.tuple #[.int .i64 42, .int .i64 0])∧Chg [] w' w''):=LH (fun w'=>nadd_any 21 21 w')
 have A2:=LH (fun w' (hc:Chg [] w w')=>vint_one fit42 w' (ht.kept hc))
 clear ht
 go_enter Tryz.func292,Tryz.ntmps292
 go_wp2_with (first
  |(go_at_call 255;(with_reducible refine Calls.mono (A1.out _) ?_);rintro e w2 ⟨rfl,hc2⟩;have C2:=LH hc2;clear hc2)
  |(go_at_call 163;(with_reducible refine Calls.mono (A2.out _ C2.out) ?_);rintro e w3 ⟨q3,rfl,hv3,hc3,hq3,ht3⟩;have Q3:=LH hq3;have T3:=LH ht3;clear hq3 ht3))
 go_ret2
 exact⟨q3,rfl,hv3,C2.out.thenSame hc3,by have:=C2.out.size;have:=Q3.out;omega,T3.out⟩
theorem echeck_two (h1:VI 21 w a1 c1) (h2:VI 21 w a2 c2) (ht:TabW w) {q:Nat} (hq:w.heap[q]? =some (.cells #[.slice a1 1 c1, .slice a2 1 c2] 22 (0,0))):Calls Tryz.prog 38 #[.slice (some ⟨q,0,none⟩) 2 2] w fun e w'=>e= .returned (.int .i64 0)∧Chg [] w w':=by
 have A1:=LH (fun w' (hc:Chg [] w w')=>vcheck_one (h1.kept hc) fit21 (ht.kept hc))
 have A2:=LH (fun w' (hc:Chg [] w w')=>vcheck_one (h2.kept hc) fit21 (ht.kept hc))
 have HQ:=LH hq
 clear h1 h2 ht hq
 go_enter Tryz.func38,Tryz.ntmps38
 go_wp2_with fail
 go_loopw [8] (fun u wr=>(u= .int .i64 0∨u= .int .i64 1∨u= .int .i64 2)∧Hid (Chg [] w wr)) (fun u _=>2-(intOf u).toNat)
 case atStart=>exact⟨Or.inl rfl,LH (Chg.refl _ _)⟩
 case round=>
  obtain⟨hu,C⟩:=hrel
  have B:=C.out.at (by simp) HQ.out
  have kb:=blk_cell B
  have lb:=lt_of_heap B
  clear B
  rcases hu with rfl|rfl|rfl
  ·go_wp2_with (first|(go_at_call 45;(with_reducible refine Calls.mono (A1.out _ C.out) ?_);rintro e w2 ⟨rfl,hc2⟩;have C2:=LH (C.out.thenSame hc2);clear hc2))
   exact⟨⟨Or.inr (Or.inl rfl),C2⟩,by simp[intOf]⟩
  ·go_wp2_with (first|(go_at_call 45;(with_reducible refine Calls.mono (A2.out _ C.out) ?_);rintro e w2 ⟨rfl,hc2⟩;have C2:=LH (C.out.thenSame hc2);clear hc2))
   exact⟨⟨Or.inr (Or.inr rfl),C2⟩,by simp[intOf]⟩
  ·go_wp2_with fail
   go_ret
   exact⟨rfl,C.out⟩
end
section
open Go.RowKit
variable {w w':World} {a1 a2:Option Addr} {c1 c2:Nat} {n:Int}
theorem VI.cells {a:Option Addr} {c:Nat} (h:VI n w a c):∃q o,a=some ⟨q,o,none⟩∧∀w',Chg [] w w'→w'.cell? ⟨q,o,none⟩=some (.int .i64 3)∧w'.cell? ⟨q,o+1,none⟩=some (.int .i64 n)∧w'.cell? ⟨q,o+2,none⟩=some (.string ⟨#[]⟩)∧w'.cell? ⟨q,o+3,none⟩=some (.int .i64 0)∧q<w'.heap.size:=by
 obtain⟨q,o,ha, -,gq, -⟩:=h.1.elem (Chg.refl _ _) 0 (by simp)
 refine⟨q,o,ha,fun w' hc=> ?_⟩
 obtain⟨q',o',ha', -,gq',cc⟩:=h.1.elem hc 0 (by simp)
 rw[ha]at ha'
 cases ha'
 have c0:=cc 0 (by omega)
 have c1:=cc 1 (by omega)
 have c2:=cc 2 (by omega)
 have c3:=cc 3 (by omega)
 simp only[oneC,ceC,gCZ,List.getElem?_cons_zero,List.getElem?_cons_succ,Nat.add_zero,Nat.zero_mul]at c0 c1 c2 c3
 exact⟨c0,c1,c2,c3,by simpa using gq'⟩
theorem binary_dbl (h1:VI 21 w a1 c1) (h2:VI 21 w a2 c2) (ht:TabW w):Calls Tryz.prog 244 #[.string ⟨#[43]⟩, .slice a1 1 c1, .slice a2 1 c2] w fun e w'=>∃q,e= .returned (.tuple #[.slice (some ⟨q,0,none⟩) 1 1, .int .i64 0])∧VI 42 w' (some ⟨q,0,none⟩) 1∧Chg [] w w'∧w.heap.size≤q∧w'.heap[q]? =some (.cells #[.int .i64 3, .int .i64 42, .string ⟨#[]⟩, .int .i64 0] 63 (0,0)):=by
 obtain⟨q1,o1,rfl,F1⟩:=h1.cells
 obtain⟨q2,o2,rfl,F2⟩:=h2.cells
 have H1:=LH h1
 have H2:=LH h2
 have HT:=LH ht
 have F1:=LH F1
 have F2:=LH F2
 rename_i F10 F20
 clear F10 F20 h1 h2 ht
 have A3:=LH (fun w' (hc:Chg [] w w')=>arith_dbl w' (HT.out.kept hc))
 have A4:Hid (∀w',Calls Tryz.prog 289 #[.string ⟨#[60,61,62,61]⟩, .string ⟨#[43]⟩] w' fun e w''=>e= .returned (.bool false)∧w''=w'):=LH (fun w'=>Tryz.strings_Contains_one ⟨#[60,61,62,61]⟩ 43 w')
 go_enter Tryz.func244,Tryz.ntmps244
 go_wp2_with fail
 refine(contB ⟨#[43]⟩ (heap_alloc_new w _) (L:=[⟨#[43]⟩,⟨#[45]⟩,⟨#[42]⟩,⟨#[47]⟩,⟨#[37]⟩,⟨#[61,61]⟩,⟨#[33,61]⟩,⟨#[60]⟩,⟨#[60,61]⟩,⟨#[62]⟩,⟨#[62,61]⟩]) (by simp[skC]) rfl (by decide)).mono ?_;rintro e w2 ⟨he,rfl⟩
 rw[show([⟨#[43]⟩,⟨#[45]⟩,⟨#[42]⟩,⟨#[47]⟩,⟨#[37]⟩,⟨#[61,61]⟩,⟨#[33,61]⟩,⟨#[60]⟩,⟨#[60,61]⟩,⟨#[62]⟩,⟨#[62,61]⟩]:List ByteArray).any (fun x=>(⟨#[43]⟩:ByteArray)==x)=true by kernel_rfl]at he
 subst he
 go_wp2_with fail
 refine(echeck_two (H1.out.kept (((Chg.refl [] w).alloc _).alloc _)) (H2.out.kept (((Chg.refl [] w).alloc _).alloc _)) (HT.out.kept (((Chg.refl [] w).alloc _).alloc _)) (alloc2_at w _ _)).mono ?_;rintro e w3 ⟨rfl,hc3⟩
 have C3:Hid (Chg [] w w3):=LH ((((Chg.refl [] w).alloc _).alloc _).thenSame hc3)
 clear hc3
 obtain⟨x0,x1,x2,x3,xl⟩:=F1.out w3 C3.out
 obtain⟨y0,y1,y2,y3,yl⟩:=F2.out w3 C3.out
 go_wp2_with (first
  |(go_at_call 289;(with_reducible refine Calls.mono (A4.out _) ?_);rintro e w4 ⟨rfl,rfl⟩))
 go_region_law (first
  |(show(if _ then Oper.wp _ ⟨_,Op.call ⟨Callee.value (Operand.func 292),_,_⟩,_,_,_,_⟩ _ _ _ _ else _);refine(if_pos (by simp[Region.wanted])).mpr ?_;go_simp;refine(A3.out _ C3.out.drew).mono ?_;rintro e w5 ⟨q5,rfl,hv5,hc5,hq5,ht5⟩;have T5:=LH ht5;have V5:=LH hv5;have C5:=LH (C3.out.drew.thenSame hc5);have Q5:=LH (Nat.le_trans C3.out.drew.size hq5);clear hv5 hc5 hq5 ht5)
  |fail)
 all_goals go_wp2_with fail
 all_goals go_ret2
 all_goals exact⟨q5,rfl,V5.out,C5.out,Q5.out,T5.out⟩
end
section
open Go.RowKit
variable {w w0 w1 w2 w3 w5 w':World} {S L L':List Nat} {B b fb n fc:Nat} {cv iv fv rv:Value} {val val':Vp} {f f':Fr'} {Fr F:List Fr'} {R:List Rq'} {M M':PMa} {pf pf2:PFr} {pfs:List PFr}
def maV (fv rv:Value) (F:List Fr') (R:List Rq'):List Nat:=F.flatMap frB++(fv.ownBlock.toList++(rv.ownBlock.toList++R.flatMap rqB))
structure MvAt (w:World) (B:Nat) (L:List Nat) (fv rv:Value) (val:Vp) (F:List Fr') (R:List Rq') (M:PMa):Prop where
 val:VaIs w L val M.val
 frs:RowOf frC 4 w B 251 fv F.reverse
 fra:All2 (FrIs w B L) F M.fr
 rqs:RowOf rqC 2 w B 164 rv R
 rqa:All2 (RqIs w B L) R M.rq
 own:L=maV fv rv F R
 nd:L.Nodup
structure MvE (w:World) (B:Nat) (E L:List Nat) (fv rv:Value) (val:Vp) (F:List Fr') (R:List Rq') (M:PMa):Prop where
 val:VaIs w (E++L) val M.val
 frs:RowOf frC 4 w B 251 fv F.reverse
 fra:All2 (FrIs w B (E++L)) F M.fr
 rqs:RowOf rqC 2 w B 164 rv R
 rqa:All2 (RqIs w B (E++L)) R M.rq
 own:L=maV fv rv F R
 nd:L.Nodup
theorem MvE.mv {E:List Nat} (h:MvE w B E L fv rv val F R M):MvAt w B L fv rv val F R M:=by
 have hs:∀y∈L,y∈E++L:=fun y hy=>List.mem_append_right _ hy
 have hm:∀{u:Value} {vs:List Vl},RvIs w B (E++L) u vs→RvIs w B L u vs:=fun⟨ps,h1,h2⟩=>⟨ps,h1,h2.mono (fun _ _ _ k=>k.sub hs)⟩
 exact⟨h.val.sub hs,h.frs,h.fra.mono (fun _ _ _ k=>⟨k.fn,k.pc,hm k.lo,hm k.st⟩),h.rqs,h.rqa.mono (fun _ _ _ k=>⟨k.op,hm k.args⟩),h.own,h.nd⟩
theorem MvE.toMa (h:MvE w B [b] L fv rv val F R M) (hb:w'.heap[b]? =some (.cells #[cv,iv, .int .i64 M.st, .int .i64 M.er, .slice val.a val.n val.c,fv,rv, .int .i64 M.ls, .int .i64 M.lm, .int .i64 M.steps, .int .i64 M.peak] 158 (0,0))) (hc:Chg [b] w w') (hn:b∉L) (hB:B≤b) (hlt:b<w.heap.size):MaAt w' B b (maB b fv rv F R) cv iv fv rv val F R M:=by
 have hm:Mv [b] ([b]++L) (maB b fv rv F R) w w':=by
  refine⟨hc,fun y hy=>List.mem_append_left _ hy,fun y hy=> .inl ?_⟩
  rw[h.own]
  simp only[maV,maB,List.mem_append,List.mem_cons,List.not_mem_nil,or_false]at hy⊢
  rcases hy with h|h|h|h
  ·exact .inr (.inl h)
  ·exact .inl h
  ·exact .inr (.inr (.inl h))
  ·exact .inr (.inr (.inr h))
 have hs:∀y∈L,y∉[b]:=fun y hy hs=>by simp at hs;subst hs;exact hn hy
 have e:=h.own
 have q1:∀g,fv.ownBlock=some g→g∈L:=fun g hg=>by rw[e];simp[maV,hg]
 have q2:∀g,rv.ownBlock=some g→g∈L:=fun g hg=>by rw[e];simp[maV,hg]
 have q3:∀f∈F,∀y∈frB f,y∈L:=fun f hf y hy=>by rw[e];exact List.mem_append_left _ (List.mem_flatMap.2 ⟨f,hf,hy⟩)
 have q4:∀r∈R,∀y∈rqB r,y∈L:=fun f hf y hy=>by rw[e];exact List.mem_append_right _ (List.mem_append_right _ (List.mem_append_right _ (List.mem_flatMap.2 ⟨f,hf,hy⟩)))
 refine⟨hb,h.val.mv hm,h.frs.kept hc (fun g hg=>hs g (q1 g hg)),h.fra.mono (fun f _ hf k=>k.mv hm (fun y hy=>hs y (q3 f hf y hy))),h.rqs.kept hc (fun g hg=>hs g (q2 g hg)),h.rqa.mono (fun r _ hr k=>k.mv hm (fun y hy=>hs y (q4 r hr y hy))),rfl, ?_,hB⟩
 have nd:=h.nd
 rw[e]at nd hn
 rw[maV]at nd hn
 rw[maB]
 revert nd hn
 generalize F.flatMap frB=X1
 generalize fv.ownBlock.toList++(rv.ownBlock.toList++R.flatMap rqB)=X2
 intro hn nd
 obtain⟨n1,n2,n3⟩:=List.nodup_append.1 nd
 refine List.nodup_append.2 ⟨n1,List.nodup_cons.2 ⟨fun hm=>hn (List.mem_append_right _ hm),n2⟩,fun x hx y hy=> ?_⟩
 rcases List.mem_cons.1 hy with rfl|hy
 ·exact fun e=>hn (List.mem_append_left _ (e▸hx))
 ·exact n3 x hx y hy
def MvIs (w:World) (B:Nat) (L:List Nat) (v:Value) (M:PMa):Prop:=∃fv rv val F R,v=mvV fv rv val M∧MvAt w B L fv rv val F R M
theorem MvAt.kept (h:MvAt w B L fv rv val F R M) (hc:Chg [] w w'):MvAt w' B L fv rv val F R M:=
 ⟨h.val.mv (.none hc),h.frs.kept hc (by simp),h.fra.mono (fun _ _ _ k=>k.mv (.none hc) (by simp)),h.rqs.kept hc (by simp),h.rqa.mono (fun _ _ _ k=>k.mv (.none hc) (by simp)),h.own,h.nd⟩
theorem MvIs.kept {v:Value} (h:MvIs w B L v M) (hc:Chg [] w w'):MvIs w' B L v M:=by
 obtain⟨_,_,_,_,_,e,h⟩:=h
 exact⟨_,_,_,_,_,e,h.kept hc⟩
theorem maV_sub:∀y∈maV fv rv F R,y∈maB b fv rv F R:=by
 intro y hy
 simp only[maV,maB,List.mem_append,List.mem_cons]at hy⊢
 rcases hy with h|h|h
 ·exact .inl h
 ·exact .inr (.inr (.inl h))
 ·exact .inr (.inr (.inr h))
theorem MaAt.toMv (h:MaAt w B b L cv iv fv rv val F R M):MvAt w B (maV fv rv F R) fv rv val F R M:=by
 have hs:∀y∈maV fv rv F R,y∈L:=fun y hy=>by rw[h.own];exact maV_sub y hy
 have hm:∀{u:Value} {vs:List Vl},RvIs w B L u vs→RvIs w B (maV fv rv F R) u vs:=fun⟨ps,h1,h2⟩=>⟨ps,h1,h2.mono (fun _ _ _ k=>k.sub hs)⟩
 refine⟨h.val.sub hs,h.frs,h.fra.mono (fun _ _ _ k=>⟨k.fn,k.pc,hm k.lo,hm k.st⟩),h.rqs,h.rqa.mono (fun _ _ _ k=>⟨k.op,hm k.args⟩),rfl, ?_⟩
 have nd:=h.nd
 rw[h.own,maB]at nd
 rw[maV]
 revert nd
 generalize F.flatMap frB=X1
 generalize fv.ownBlock.toList++(rv.ownBlock.toList++R.flatMap rqB)=X2
 intro nd
 obtain⟨n1,n2,n3⟩:=List.nodup_append.1 nd
 exact List.nodup_append.2 ⟨n1,(List.nodup_cons.1 n2).2,fun x hx y hy=>n3 x hx y (List.mem_cons_of_mem _ hy)⟩
theorem MvAt.lt (h:MvAt w B L fv rv val F R M):∀y∈L,B≤y∧y<w.heap.size:=by
 intro y hy
 rw[h.own]at hy
 simp only[maV,List.mem_append,List.mem_flatMap,Option.mem_toList]at hy
 rcases hy with ⟨f,hf,hy⟩|hy|hy|⟨r,hr,hy⟩
 ·obtain⟨k,hk,rfl⟩:=List.getElem_of_mem hf
  have:=h.fra.at k hk (by rw[←h.fra.len];exact hk)
  simp only[frB,List.mem_append,Option.mem_toList]at hy
  rcases hy with hy|hy
  ·obtain⟨ps,h1, -⟩:=this.st
   exact h1.block y hy
  ·obtain⟨ps,h1, -⟩:=this.lo
   exact h1.block y hy
 ·exact h.frs.block y hy
 ·exact h.rqs.block y hy
 ·obtain⟨k,hk,rfl⟩:=List.getElem_of_mem hr
  obtain⟨ps,h1, -⟩:=(h.rqa.at k hk (by rw[←h.rqa.len];exact hk)).args
  exact h1.block y (by simpa[rqB]using hy)
theorem MvAt.toMa (h:MvAt w B L fv rv val F R M) (hB:B≤w.heap.size):MaAt (w.alloc (.cells #[cv,iv, .int .i64 M.st, .int .i64 M.er, .slice val.a val.n val.c,fv,rv, .int .i64 M.ls, .int .i64 M.lm, .int .i64 M.steps, .int .i64 M.peak] 158 (0,0))) B w.heap.size (maB w.heap.size fv rv F R) cv iv fv rv val F R M:=by
 have hlt:=h.lt
 have hc:Chg [] w (w.alloc (.cells #[cv,iv, .int .i64 M.st, .int .i64 M.er, .slice val.a val.n val.c,fv,rv, .int .i64 M.ls, .int .i64 M.lm, .int .i64 M.steps, .int .i64 M.peak] 158 (0,0))):=(Chg.refl _ _).alloc _
 have hb:∀y∈maB w.heap.size fv rv F R,y∈L∨w.heap.size≤y:=by
  intro y hy
  rw[h.own]
  simp only[maV,maB,List.mem_append,List.mem_cons]at hy⊢
  rcases hy with h|rfl|h|h
  ·exact .inl (.inl h)
  ·exact .inr (Nat.le_refl _)
  ·exact .inl (.inr (.inl h))
  ·exact .inl (.inr (.inr h))
 have hm:Mv [] L (maB w.heap.size fv rv F R) w (w.alloc (.cells #[cv,iv, .int .i64 M.st, .int .i64 M.er, .slice val.a val.n val.c,fv,rv, .int .i64 M.ls, .int .i64 M.lm, .int .i64 M.steps, .int .i64 M.peak] 158 (0,0))):=⟨hc,by simp,hb⟩
 refine⟨heap_alloc_new w _,h.val.mv hm,h.frs.kept hc (by simp),h.fra.mono (fun _ _ _ k=>k.mv hm (by simp)),h.rqs.kept hc (by simp),h.rqa.mono (fun _ _ _ k=>k.mv hm (by simp)),rfl, ?_,hB⟩
 have nd:=h.nd
 rw[h.own]at nd hlt
 rw[maV]at nd hlt
 rw[maB]
 revert nd hlt
 generalize F.flatMap frB=X1
 generalize fv.ownBlock.toList++(rv.ownBlock.toList++R.flatMap rqB)=X2
 intro hlt nd
 obtain⟨n1,n2,n3⟩:=List.nodup_append.1 nd
 refine List.nodup_append.2 ⟨n1,List.nodup_cons.2 ⟨fun hm=>by have:=(hlt _ (List.mem_append_right _ hm)).2;omega,n2⟩,fun x hx y hy=> ?_⟩
 rcases List.mem_cons.1 hy with rfl|hy
 ·have:=(hlt _ (List.mem_append_left _ hx)).2;omega
 ·exact n3 x hx y hy
structure OwI (E:List Nat) (lo m:Nat) (L:List Nat) (fv:Value) (val:Vp) (F:List Fr') (M:PMa) (Y:List PFr) (w:World):Prop where
 blk:w.heap[m]? =some (.cells #[.int .i64 M.st, .int .i64 M.er, .slice val.a val.n val.c,fv, .slice none 0 0, .int .i64 M.ls, .int .i64 M.lm, .int .i64 M.steps, .int .i64 M.peak] 48 (0,0))
 val:VaIs w (E++L) val M.val
 frs:RowOf frC 4 w lo 251 fv F
 fra:All2 (FrIs w lo (E++L)) F Y
 own:L=m::(((m+1)::fv.ownBlock.toList)++F.flatMap frB)
 nd:L.Nodup
 lo:m+1<lo
 lt2:m+1<w.heap.size
 hE:∀y∈E,y<m
theorem OwI.kept {E:List Nat} {lo m:Nat} {Y:List PFr} (h:OwI E lo m L fv val F M Y w) (hc:Chg [] w w'):OwI E lo m L fv val F M Y w':=
 ⟨hc.at (by simp) h.blk,h.val.mv (.none hc),h.frs.kept hc (by simp),h.fra.mono (fun _ _ _ k=>k.mv (.none hc) (by simp)),h.own,h.nd,h.lo,hc.lt h.lt2,h.hE⟩
theorem OwI.lt {E:List Nat} {lo m:Nat} {Y:List PFr} (h:OwI E lo m L fv val F M Y w):∀y∈L,(y=m∨y=m+1∨lo≤y)∧y<w.heap.size:=by
 intro y hy
 rw[h.own]at hy
 simp only[List.mem_cons,List.mem_append,List.mem_flatMap,Option.mem_toList]at hy
 rcases hy with rfl|(rfl|hy)|⟨f,hf,hy⟩
 ·exact⟨.inl rfl,lt_of_heap h.blk⟩
 ·exact⟨.inr (.inl rfl),h.lt2⟩
 ·exact⟨.inr (.inr (h.frs.block y hy).1),(h.frs.block y hy).2⟩
 ·obtain⟨k,hk,rfl⟩:=List.getElem_of_mem hf
  have:=h.fra.at k hk (by rw[←h.fra.len];exact hk)
  simp only[frB,List.mem_append,Option.mem_toList]at hy
  rcases hy with hy|hy
  ·obtain⟨ps,h1, -⟩:=this.st
   exact⟨.inr (.inr (h1.block y hy).1),(h1.block y hy).2⟩
  ·obtain⟨ps,h1, -⟩:=this.lo
   exact⟨.inr (.inr (h1.block y hy).1),(h1.block y hy).2⟩
theorem nd_more {G G' X A C:List Nat} {m z z3:Nat} (nd:(m::(G++X)).Nodup) (hG:∀y∈G',y∈G∨z3≤y) (n':G'.Nodup) (hX:∀y∈m::(G++X),y<z) (hA:∀y∈A,z≤y∧y<z3) (hC:∀y∈C,z≤y∧y<z3) (nA:A.Nodup) (nC:C.Nodup) (hd:∀y∈A,y∉C) (hz:z≤z3):
 (m::(G'++(X++(A++C)))).Nodup:=by
 rw[List.nodup_cons,List.nodup_append]at nd⊢
 obtain⟨n1,n2,n3,n4⟩:=nd
 refine⟨?_,n', ?_, ?_⟩
 ·simp only[List.mem_append,not_or]at n1⊢
  have hm:=hX m (by simp)
  refine⟨fun h=> ?_,n1.2,fun h=> ?_,fun h=> ?_⟩
  ·rcases hG m h with e|e
   ·exact n1.1 e
   ·omega
  ·have:=hA m h;omega
  ·have:=hC m h;omega
 ·rw[List.nodup_append]
  refine⟨n3,List.nodup_append.2 ⟨nA,nC,fun x hx y hy e=>hd x hx (e▸hy)⟩,fun x hx y hy e=> ?_⟩
  subst e
  have hm:=hX x (by simp[hx])
  rcases List.mem_append.1 hy with h|h
  ·have:=hA x h;omega
  ·have:=hC x h;omega
 ·intro x hx y hy e
  subst e
  rcases hG x hx with e|e
  ·rcases List.mem_append.1 hy with h|h
   ·exact n4 x e x h rfl
   ·have hm:=hX x (by simp[e])
    rcases List.mem_append.1 h with h|h
    ·have:=hA x h;omega
    ·have:=hC x h;omega
  ·rcases List.mem_append.1 hy with h|h
   ·have hm:=hX x (by simp[h]);omega
   ·rcases List.mem_append.1 h with h|h
    ·have:=hA x h;omega
    ·have:=hC x h;omega
theorem OwI.step {E:List Nat} {lo m:Nat} {Y:List PFr} {fv':Value} (h:OwI E lo m L fv val F M Y w) (hc:Chg [] w w3) (hlo:lo≤w.heap.size)
 (hl:RvIs w3 w.heap.size (f'.sv.ownBlock.toList++(f'.lv.ownBlock.toList++(E++L))) f'.lv pf.lo) (hs:RvIs w3 w.heap.size (f'.sv.ownBlock.toList++(f'.lv.ownBlock.toList++(E++L))) f'.sv pf.st)
 (hd:∀y∈f'.sv.ownBlock.toList,y∉f'.lv.ownBlock.toList) (hf:f'.fn=pf.fn∧f'.pc=pf.pc) (hc5:Chg fv.ownBlock.toList w3 w5) (hr:RowOf frC 4 w5 lo 251 fv' (F++[f'])) (ho:∀g,fv'.ownBlock=some g→fv.ownBlock=some g∨w3.heap.size≤g):
 ∃L',OwI E lo m L' fv' val (F++[f']) M (Y++[pf]) (w5.setCell ⟨m,3,none⟩ fv'):=by
 have hlt:=h.lt
 have h3:=h.kept hc
 have nd:=h.nd
 rw[h.own]at nd
 have hmS:m∉fv.ownBlock.toList:=fun hm=>(List.nodup_cons.1 nd).1 (List.mem_append_left _ (List.mem_cons_of_mem _ hm))
 have hc9:Chg [m] w5 (w5.setCell ⟨m,3,none⟩ fv'):=(Chg.refl _ _).setCell _ _ (fun _=>by simp)
 have hC:Chg (m::fv.ownBlock.toList) w3 (w5.setCell ⟨m,3,none⟩ fv'):=hc5.trans hc9 (fun y hy _=>List.mem_cons_of_mem _ hy) (fun y hy _=>by simp at hy;simp[hy])
 have hl0:=hl
 have hs0:=hs
 obtain⟨ls,hl1,hl2⟩:=hl
 obtain⟨ss,hs1,hs2⟩:=hs
 have kl:∀y∈f'.lv.ownBlock.toList,w.heap.size≤y∧y<w3.heap.size:=fun y hy=>hl1.block y (by simpa using hy)
 have ks:∀y∈f'.sv.ownBlock.toList,w.heap.size≤y∧y<w3.heap.size:=fun y hy=>hs1.block y (by simpa using hy)
 have hmw:m<w.heap.size:=lt_of_heap h.blk
 have hSL:∀y∈m::fv.ownBlock.toList,y<w.heap.size:=fun y hy=>(hlt y (by rw[h.own];rcases List.mem_cons.1 hy with rfl|hy;simp;exact List.mem_cons_of_mem _ (List.mem_append_left _ (List.mem_cons_of_mem _ hy)))).2
 have efl:(F++[f']).flatMap frB=F.flatMap frB++(f'.sv.ownBlock.toList++f'.lv.ownBlock.toList):=by simp[frB]
 have hG:∀y∈fv'.ownBlock.toList,y∈fv.ownBlock.toList∨w3.heap.size≤y:=fun y hy=>by
  rcases ho y (by simpa using hy)with e|e
  ·exact .inl (ownMem e)
  ·exact .inr e
 have hown:∀y∈E++m::(((m+1)::fv'.ownBlock.toList)++(F++[f']).flatMap frB),y∈f'.sv.ownBlock.toList++(f'.lv.ownBlock.toList++(E++L))∨w3.heap.size≤y:=by
  intro y hy
  rw[efl]at hy
  rw[h.own]
  simp only[List.mem_append,List.mem_cons]at hy⊢
  rcases hy with h|h|(h|h)|h|h|h
  ·exact .inl (.inr (.inr (.inl h)))
  ·exact .inl (.inr (.inr (.inr (.inl h))))
  ·exact .inl (.inr (.inr (.inr (.inr (.inl (.inl h))))))
  ·rcases hG y h with e|e
   ·exact .inl (.inr (.inr (.inr (.inr (.inl (.inr e))))))
   ·exact .inr e
  ·exact .inl (.inr (.inr (.inr (.inr (.inr h)))))
  ·exact .inl (.inl h)
  ·exact .inl (.inr (.inl h))
 have hmv:Mv (m::fv.ownBlock.toList) (f'.sv.ownBlock.toList++(f'.lv.ownBlock.toList++(E++L))) (E++m::(((m+1)::fv'.ownBlock.toList)++(F++[f']).flatMap frB)) w3 (w5.setCell ⟨m,3,none⟩ fv'):=
  ⟨hC,fun y hy=>List.mem_append_right _ (List.mem_append_right _ (List.mem_append_right _ (by rw[h.own];rcases List.mem_cons.1 hy with rfl|hy;simp;exact List.mem_cons_of_mem _ (List.mem_append_left _ (List.mem_cons_of_mem _ hy))))),hown⟩
 have old:∀{p:Vp} {v:Vl},VaIs w (E++L) p v→VaIs w3 (f'.sv.ownBlock.toList++(f'.lv.ownBlock.toList++(E++L))) p v:=fun k=>by
  have k3:=k.mv (.none hc)
  refine⟨k3.ins,k3.len,fun ad ha=>⟨fun hm=> ?_,(k3.off ad ha).2⟩,k3.ty⟩
  have h1:=(k.off ad ha).2
  rcases List.mem_append.1 hm with hm|hm
  ·have:=(ks _ hm).1;omega
  ·rcases List.mem_append.1 hm with hm|hm
   ·have:=(kl _ hm).1;omega
   ·exact(k.off ad ha).1 hm
 have oldR:∀{u:Value} {vs:List Vl},RvIs w lo (E++L) u vs→(∀g,u.ownBlock=some g→g∈F.flatMap frB)→RvIs (w5.setCell ⟨m,3,none⟩ fv') lo (E++m::(((m+1)::fv'.ownBlock.toList)++(F++[f']).flatMap frB)) u vs:=fun {u vs} k hn=>by
  obtain⟨ps,k1,k2⟩:=k
  refine RvIs.mv (L:=f'.sv.ownBlock.toList++(f'.lv.ownBlock.toList++(E++L))) ⟨ps,k1.kept hc (by simp),k2.mono (fun _ _ _ k=>old k)⟩ hmv (fun g hg hs=> ?_)
  have h1:=hn g hg
  rw[List.nodup_cons,List.nodup_append]at nd
  rcases List.mem_cons.1 hs with rfl|hs
  ·exact nd.1 (List.mem_append_right _ h1)
  ·exact nd.2.2.2 g (List.mem_cons_of_mem _ hs) g h1 rfl
 refine⟨_,⟨?_,(old h.val).mv hmv,hr.kept hc9 (fun g hg hs=> ?_), ?_,rfl, ?_,h.lo,hC.lt (hc.lt h.lt2),h.hE⟩⟩
 ·exact blk_set (hc5.at hmS h3.blk) 3 fv'
 ·simp at hs
  subst hs
  rcases hG g (ownMem hg)with e|e
  ·exact hmS e
  ·have:=hc.size;omega
 ·refine All2.app (h.fra.mono (fun a _ ha k=>⟨k.fn,k.pc,oldR k.lo (fun g hg=>List.mem_flatMap.2 ⟨a,ha,by simp[frB,hg]⟩),oldR k.st (fun g hg=>List.mem_flatMap.2 ⟨a,ha,by simp[frB,hg]⟩)⟩)) ⟨⟨hf.1,hf.2, ?_, ?_⟩,trivial⟩
  ·obtain⟨ps,k1,k2⟩:=hl0.mv hmv (fun g hg hs=>by have:=(kl g (ownMem hg)).1;have:=hSL g hs;omega)
   exact⟨ps,k1.mono hlo,k2⟩
  ·obtain⟨ps,k1,k2⟩:=hs0.mv hmv (fun g hg hs=>by have:=(ks g (ownMem hg)).1;have:=hSL g hs;omega)
   exact⟨ps,k1.mono hlo,k2⟩
 ·rw[efl]
  have hG2:∀y∈(m+1)::fv'.ownBlock.toList,y∈(m+1)::fv.ownBlock.toList∨w3.heap.size≤y:=fun y hy=>by
   rcases List.mem_cons.1 hy with rfl|hy
   ·exact .inl (by simp)
   ·rcases hG y hy with e|e
    ·exact .inl (List.mem_cons_of_mem _ e)
    ·exact .inr e
  have hN2:((m+1)::fv'.ownBlock.toList).Nodup:=List.nodup_cons.2 ⟨fun hm=>by
   rcases hG _ hm with e|e
   ·rw[List.nodup_cons,List.nodup_append]at nd
    exact(List.nodup_cons.1 nd.2.1).1 e
   ·have:=hc.lt h.lt2;omega,toList_nodup _⟩
  exact nd_more nd hG2 hN2 (fun y hy=>(hlt y (by rw[h.own];exact hy)).2) ks kl (toList_nodup _) (toList_nodup _) hd hc.size
end
end Go.Proofs.YtmofknmeljdodaaGreatDoor
