/- Layer 13: contracts: machine.Start at the example. No condition but those that the statements name. -/
import Derived.OpenShut
import Derived.Test.YtmofknmeljdodaaGreatDoorZS01
import Derived.Test.YtmofknmeljdodaaGreatDoorZS16
import Derived.Test.YtmofknmeljdodaaGreatDoorZS19
import Derived.Test.YtmofknmeljdodaaGreatDoorZS13
set_option maxHeartbeats 100000000
set_option maxRecDepth 100000
set_option linter.unusedVariables false
set_option linter.unusedSimpArgs false
open List renaming getElem_toArray→gTA,getElem_cons_zero→gCZ,getElem_cons_succ→gCS,setIfInBounds_toArray→sTA,set_cons_zero→sCZ,set_cons_succ→sCS
namespace Go.Proofs.YtmofknmeljdodaaGreatDoor
section
open Go.RowKit
variable {w w0 w1 w2 w3 w5 w':World} {S L L':List Nat} {B b fb n fc:Nat} {cv iv fv fv' rv:Value} {val val':Vp} {f f':Fr'} {Fr F:List Fr'} {R:List Rq'} {M M':PMa} {pf pf2:PFr} {pfs:List PFr} {vs:List Vl}
theorem MvAt.box {x:Nat} {D:Array Value} {T:TypeId} {fr:Nat×Nat} (h:MvAt w B L fv rv val F R M) (hx:w.heap[x]? =some (.cells D T fr)) (hT:T≠63) (hn:x∉L) (hc:Chg [x] w w'):MvAt w' B L fv rv val F R M:=by
 have hm:Mv [x] (x::L) L w w':=⟨hc,fun y hy=>by simp at hy;simp[hy],fun y hy=> .inl (List.mem_cons_of_mem _ hy)⟩
 have va:∀{p:Vp} {v:Vl},VaIs w L p v→VaIs w' L p v:=fun k=>(k.offTy hx hT).mv hm
 have hs:∀y∈L,y∉[x]:=fun y hy hs=>by simp at hs;subst hs;exact hn hy
 have e:=h.own
 have q1:∀g,fv.ownBlock=some g→g∈L:=fun g hg=>by rw[e];simp[maV,hg]
 have q2:∀g,rv.ownBlock=some g→g∈L:=fun g hg=>by rw[e];simp[maV,hg]
 have q3:∀f∈F,∀y∈frB f,y∈L:=fun f hf y hy=>by rw[e];exact List.mem_append_left _ (List.mem_flatMap.2 ⟨f,hf,hy⟩)
 have q4:∀r∈R,∀y∈rqB r,y∈L:=fun f hf y hy=>by rw[e];exact List.mem_append_right _ (List.mem_append_right _ (List.mem_append_right _ (List.mem_flatMap.2 ⟨f,hf,hy⟩)))
 have rv':∀{u:Value} {l:List Vl},RvIs w B L u l→(∀g,u.ownBlock=some g→g∈L)→RvIs w' B L u l:=fun⟨ps,k1,k2⟩ hu=>⟨ps,k1.kept hc (fun g hg=>hs g (hu g hg)),k2.mono (fun _ _ _ k=>va k)⟩
 exact⟨va h.val,h.frs.kept hc (fun g hg=>hs g (q1 g hg)),h.fra.mono (fun f _ hf k=>⟨k.fn,k.pc,rv' k.lo (fun g hg=>q3 f hf g (by simp[frB,hg])),rv' k.st (fun g hg=>q3 f hf g (by simp[frB,hg]))⟩),h.rqs.kept hc (fun g hg=>hs g (q2 g hg)),h.rqa.mono (fun r _ hr k=>⟨k.op,rv' k.args (fun g hg=>q4 r hr g (by simp[rqB,hg]))⟩),h.own,h.nd⟩
theorem MvAt.low (h:MvAt w B L fv rv val F R M) {B':Nat} (hb:B'≤B):MvAt w B' L fv rv val F R M:=
 ⟨h.val,h.frs.mono hb,h.fra.mono (fun _ _ _ k=>⟨k.fn,k.pc,k.lo.low hb (fun _ h=>h),k.st.low hb (fun _ h=>h)⟩),h.rqs.mono hb,h.rqa.mono (fun _ _ _ k=>⟨k.op,k.args.low hb (fun _ h=>h)⟩),h.own,h.nd⟩
def dM (k:Nat):PMa:=
 match k with
 |0=>⟨1,0,[],[⟨0,0,[[oneC 21]],[]⟩],[],100,100,0,1⟩
 |1=>⟨1,0,[],[⟨0,1,[[oneC 21]],[[oneC 21]]⟩],[],100,100,1,2⟩
 |2=>⟨1,0,[],[⟨0,2,[[oneC 21]],[[oneC 21],[oneC 21]]⟩],[],100,100,2,3⟩
 |3=>⟨1,0,[],[⟨0,3,[[oneC 21]],[[oneC 42]]⟩],[],100,100,3,3⟩
 |_=>⟨3,0,[oneC 42],[],[],100,100,4,3⟩
def dM':PMa:=⟨1,0,[],[],[],100,100,0,0⟩
theorem start_ma {cv iv:Value} (w:World):MaAt (w.alloc (.cells #[cv,iv, .int .i64 1, .int .i64 0, .slice none 0 0, .slice none 0 0, .slice none 0 0, .int .i64 100, .int .i64 100, .int .i64 0, .int .i64 0] 158 (0,0))) w.heap.size w.heap.size [w.heap.size] cv iv (.slice none 0 0) (.slice none 0 0) ⟨none,0,0⟩ [] [] dM':=
 MvAt.toMa (M:=dM') (val:=⟨none,0,0⟩) (F:=[]) (R:=[]) (B:=w.heap.size) (L:=[]) ⟨VaIs.nil,RowOf.nil _ _ _,trivial,RowOf.nil _ _ _,trivial,rfl,List.nodup_nil⟩ (Nat.le_refl _)
theorem start_po {w6:World} {q:Vp} {v:Vl} {z:Nat} (hq:VaIs w6 [] q v) (hn:∀ad,q.a=some ad→z<ad.block) (hz:z<w6.heap.size):PoIs (w6.alloc (.cells #[.slice q.a q.n q.c] 22 (0,0))) z [z] (.slice (some ⟨w6.heap.size,0,none⟩) 1 1) [v]:=by
 have hc:Chg [] w6 (w6.alloc (.cells #[.slice q.a q.n q.c] 22 (0,0))):=(Chg.refl _ _).alloc _
 refine⟨⟨[q],row_blk [q] (by omega) (heap_alloc_new w6 _) vpC_len rfl (by unfold maxLen;simp),⟨(hq.new (L:=[z]) (fun ad ha hm=>by have:=hn ad ha;simp at hm;omega)).mv (.none hc),trivial⟩⟩,fun g hg hm=> ?_⟩
 simp only[Value.ownBlock,Option.some.injEq]at hg
 simp at hm
 omega
theorem count_dM:countM {dM' with fr:=[⟨0,0,[[oneC 21]],[]⟩]}=dM 0:=by
 simp[countM,dM',dM,memN,cellsN]
 decide
theorem sm1':smF ({dM' with fr:=[⟨0,0,[[oneC 21]],[]⟩]}:PMa).fr:=⟨by simp,fun p hp=>by simp at hp;subst hp;exact⟨⟨by simp,by simp⟩,⟨by simp,by simp⟩⟩⟩
theorem start_en {g o gi oi fcap ic:Nat} {w4 w6:World} {q:Vp} (hcd:CdAt g o gi oi w4) (hc6:Chg [] (w4.alloc (.cells #[.slice (some ⟨g,o,none⟩) 1 fcap, .slice (some ⟨gi,oi,none⟩) 6 ic, .int .i64 1, .int .i64 0, .slice none 0 0, .slice none 0 0, .slice none 0 0, .int .i64 100, .int .i64 100, .int .i64 0, .int .i64 0] 158 (0,0))) w6) (hq:VaIs w6 [] q [oneC 21])
 (hn:∀ad,q.a=some ad→(w4.alloc (.cells #[.slice (some ⟨g,o,none⟩) 1 fcap, .slice (some ⟨gi,oi,none⟩) 6 ic, .int .i64 1, .int .i64 0, .slice none 0 0, .slice none 0 0, .slice none 0 0, .int .i64 100, .int .i64 100, .int .i64 0, .int .i64 0] 158 (0,0))).heap.size≤ad.block):
 Calls Tryz.prog 46 #[.pointer (some ⟨w4.heap.size,0,none⟩), .int .i64 0, .slice (some ⟨w6.heap.size,0,none⟩) 1 1] (w6.alloc (.cells #[.slice q.a q.n q.c] 22 (0,0))) fun e w'=>e= .returned (.tuple #[])∧∃L',MaIs w' w4.heap.size w4.heap.size L' (.slice (some ⟨g,o,none⟩) 1 fcap) (.slice (some ⟨gi,oi,none⟩) 6 ic) {dM' with fr:=[⟨0,0,[[oneC 21]],[]⟩]}∧Chg [w4.heap.size] (w6.alloc (.cells #[.slice q.a q.n q.c] 22 (0,0))) w':=by
 have hz:=hc6.size
 simp only[World.size_alloc]at hz hn
 have hA:Chg [] w4 (w6.alloc (.cells #[.slice q.a q.n q.c] 22 (0,0))):=(((Chg.refl _ _).alloc _).thenSame hc6).alloc _
 have hcd2:=hcd.kept hA
 have EN:=menter_eq (k:=0) (vs:=[[oneC 21]]) (en:=0) (pa:=1) (ed:=6) (nm:=dMain) (h:=⟨_,_,_,_,_,((start_ma w4).kept hc6).kept ((Chg.refl _ _).alloc _)⟩) (start_po hq (fun ad ha=>by have:=hn ad ha;omega) (by omega)) (nF:=1) (by omega) (by omega) (by simpa using hcd2.cf0) (by simpa using hcd2.cf1) (by simpa using hcd2.cf2) (by simpa using hcd2.cf3) (by simpa using hcd2.cf4) hcd2.lf (by simp) (by simp[dM'])
 refine EN.mono ?_
 rintro e w' ⟨rfl,L',h1,h2, -⟩
 exact⟨rfl,L',h1,h2⟩
theorem mstart_dbl {g o gi oi fcap ic:Nat} {p:Vp} (hcd:CdAt g o gi oi w) (hs:ShW w) (ht:TabW w) (hev:VaIs w [] p [oneC 21]):
 Calls Tryz.prog 10 #[.agg #[.slice (some ⟨g,o,none⟩) 1 fcap, .slice (some ⟨gi,oi,none⟩) 6 ic], .slice p.a p.n p.c, .agg #[.int .i64 100, .int .i64 100]] w fun e w'=>∃fv ra rc val F L',e= .returned (.tuple #[mvV fv (.slice ra 0 rc) val (dM 0), .int .i64 0])∧MvAt w' w.heap.size L' fv (.slice ra 0 rc) val F [] (dM 0)∧Chg [] w w':=by
 have hpn:p.n=1:=hev.len
 have VC:=LH (fun w' (hc:Chg [] w w')=>vcheck_one (show VI 21 w' p.a p.c from(hev.mv (.none hc)).ins) fit21 (ht.kept hc))
 have CK:=LH (fun w' (hc:Chg [] w w')=>ccheck_dbl (hcd.kept hc) (hs.kept hc) fcap ic)
 have FD:=LH (fun w' (hc:Chg [] w w')=>cfind_dbl (hcd.kept hc) fcap ic)
 have CL:=LH (fun w' (hc:Chg [] w w')=>vclone_any (hev.mv (.none hc)) (by simp))
 unfold dMain at FD
 have CD:=LH hcd
 rw[hpn]at CL⊢
 clear hcd hs ht hev
 obtain⟨W,hW⟩:∃W,W=((w.alloc (.cells #[.slice (some ⟨g,o,none⟩) 1 fcap, .slice (some ⟨gi,oi,none⟩) 6 ic] 35 (0,0))).alloc (.cells #[.int .i64 100, .int .i64 100] 46 (0,0))).alloc (.cells #[.int .i64 0, .int .i64 0, .slice none 0 0, .slice none 0 0, .slice none 0 0, .int .i64 0, .int .i64 0, .int .i64 0, .int .i64 0] 48 (0,0)):=⟨_,rfl⟩
 have CW:Hid (Chg [] w W):=LH (by rw[hW];exact(((Chg.refl _ _).alloc _).alloc _).alloc _)
 have B1:W.heap[w.heap.size]? =some (.cells #[.slice (some ⟨g,o,none⟩) 1 fcap, .slice (some ⟨gi,oi,none⟩) 6 ic] 35 (0,0)):=by rw[hW];exact blk_alloc (blk_alloc (heap_alloc_new _ _))
 have B2:W.heap[w.heap.size+1]? =some (.cells #[.int .i64 100, .int .i64 100] 46 (0,0)):=by rw[hW];exact blk_alloc (by have h:=heap_alloc_new (w.alloc (.cells #[.slice (some ⟨g,o,none⟩) 1 fcap, .slice (some ⟨gi,oi,none⟩) 6 ic] 35 (0,0))) (.cells #[.int .i64 100, .int .i64 100] 46 (0,0));rw[World.size_alloc]at h;exact h)
 have B3:W.heap[w.heap.size+2]? =some (.cells #[.int .i64 0, .int .i64 0, .slice none 0 0, .slice none 0 0, .slice none 0 0, .int .i64 0, .int .i64 0, .int .i64 0, .int .i64 0] 48 (0,0)):=by rw[hW];have h:=heap_alloc_new ((w.alloc (.cells #[.slice (some ⟨g,o,none⟩) 1 fcap, .slice (some ⟨gi,oi,none⟩) 6 ic] 35 (0,0))).alloc (.cells #[.int .i64 100, .int .i64 100] 46 (0,0))) (.cells #[.int .i64 0, .int .i64 0, .slice none 0 0, .slice none 0 0, .slice none 0 0, .int .i64 0, .int .i64 0, .int .i64 0, .int .i64 0] 48 (0,0));rw[World.size_alloc,World.size_alloc]at h;exact h
 have KB:=LH (fun w' (hc:Chg [] W w')=>(⟨blk_cell (hc.at (by simp) B1),lt_of_heap (hc.at (by simp) B1),blk_cell (hc.at (by simp) B2),lt_of_heap (hc.at (by simp) B2)⟩:_∧_∧_∧_))
 have KC:=LH (fun w' (hc:Chg [] W w')=>CD.out.kept (CW.out.thenSame hc))
 have B3:=LH B3
 have HW:=LH hW
 have k1:=(KB.out W (Chg.refl _ _)).1
 have l1:=(KB.out W (Chg.refl _ _)).2.1
 rename_i B30
 clear B30 hW B1 B2
 go_enter Tryz.func10,Tryz.ntmps10
 go_wp2_with (first
  |(rw[←HW.out];go_at_call 36;(with_reducible refine Calls.mono (CK.out _ CW.out) ?_);rintro e w2 ⟨rfl,hc2⟩;have C2:=LH hc2;have k2:=(KB.out w2 hc2).1;have l2:=(KB.out w2 hc2).2.1;clear hc2)
  |(go_at_call 44;(with_reducible refine Calls.mono (FD.out _ (CW.out.thenSame C2.out)) ?_);rintro e w3 ⟨rfl,hc3⟩;have C3:=LH (C2.out.thenSame hc3);have k3:=(KB.out w3 (C2.out.thenSame hc3)).1;have l3:=(KB.out w3 (C2.out.thenSame hc3)).2.1;have d3:=(KC.out w3 (C2.out.thenSame hc3)).cf1;have ld3:=(KC.out w3 (C2.out.thenSame hc3)).lf;clear hc3)
  |(go_at_call 45;(with_reducible refine Calls.mono (VC.out _ (CW.out.thenSame C3.out)) ?_);rintro e w4 ⟨rfl,hc4⟩;have C4:=LH (C3.out.thenSame hc4);obtain⟨k4,l4,m4,n4⟩:=KB.out w4 (C3.out.thenSame hc4);clear hc4)
  |(go_at_call 43;(with_reducible refine Calls.mono (CL.out _ ((CW.out.thenSame C4.out).alloc _)) ?_);rintro e w6 ⟨q,rfl,hq,hn,hc6⟩;have Q6:=LH hq;have N6:=LH hn;have C6:=LH hc6;clear hq hn hc6)
  |(go_at_call 46;have EN:=start_en (KC.out _ C4.out) (C6.out) Q6.out N6.out;(with_reducible refine Calls.mono EN ?_);rintro e w8 ⟨rfl,L8,hm8,hc8⟩;have M8:=LH hm8;have C8:=LH hc8;clear hm8 hc8 EN)
  |(go_at_call 47;(with_reducible refine Calls.mono (mcount_any M8.out (sm1')) ?_);rintro e w9 ⟨rfl,L9,hm9,ht9⟩;rw[count_dM]at hm9;have T9:=LH ht9;obtain⟨fv9,rv9,val9,F9,R9,hm9⟩:=hm9;have hR9:R9=[]:=List.eq_nil_of_length_eq_zero (by rw[hm9.rqa.len];rfl);subst hR9;obtain⟨ra9,rc9,rfl⟩:=RowOf.shape hm9.rqs;obtain⟨fa9,fc9,rfl⟩:=RowOf.shape hm9.frs;rw[List.length_reverse]at hm9;rw[List.length_nil]at hm9;have M9:=LH hm9;have kb9:=blk_cell hm9.blk;have lb9:=lt_of_heap hm9.blk;have BX:=LH (ht9.chg.at (fun hm=>by have h1:=M8.out.ge _ hm;have h2:=C4.out.size;have h3:=lt_of_heap B3.out;omega) (C8.out.at (fun hm=>by simp at hm;have h2:=C4.out.size;have h3:=lt_of_heap B3.out;omega) ((((C4.out.alloc _).thenSame C6.out).alloc _).at (by simp) B3.out)));have kx9:=blk_cell BX.out;have fx9:=blk_free BX.out;have lx9:=lt_of_heap BX.out;clear hm9 ht9))
 simp only[dM]at*
 have o3:=st9_at (b:=w.heap.size+1+1) (.int .i64 1) (.int .i64 0) (.slice val9.a val9.n val9.c) (.slice fa9 F9.length fc9) (.slice ra9 0 rc9) (.int .i64 100) (.int .i64 100) (.int .i64 0) (.int .i64 1) BX.out
 have r1:=blk_cell o3
 have hc9:=st9_self (w:=w9) (b:=w.heap.size+1+1) (.int .i64 1) (.int .i64 0) (.slice val9.a val9.n val9.c) (.slice fa9 F9.length fc9) (.slice ra9 0 rc9) (.int .i64 100) (.int .i64 100) (.int .i64 0) (.int .i64 1)
 have z4:=C4.out.size
 have z3:=lt_of_heap B3.out
 have h9:=((M9.out.toMv).box BX.out (by decide) (fun hm=>by have:=(M9.out.toMv.lt _ hm).1;omega) hc9).low (B':=w.heap.size) (by have:=CW.out.size;omega)
 have D1:Chg [] w (w6.alloc (.cells #[.slice q.a q.n q.c] 22 (0,0))):=(((CW.out.thenSame C4.out).alloc _).thenSame C6.out).alloc _
 have D2:=D1.then C8.out (fun y hy hl=>by simp at hy;have:=CW.out.size;omega)
 have D3:=D2.then T9.out.chg (fun y hy hl=>by have:=M8.out.ge _ hy;have:=CW.out.size;omega)
 have D4:=D3.then hc9 (fun y hy hl=>by simp at hy;omega)
 exact bodyPost_ret (v:= .tuple #[.agg #[.int .i64 1, .int .i64 0, .slice val9.a val9.n val9.c, .slice fa9 F9.length fc9, .slice ra9 0 rc9, .int .i64 100, .int .i64 100, .int .i64 0, .int .i64 1], .int .i64 0]) (by simp[results,Tryz.results10,go_sem,r1]) rfl ⟨_,_,_,_,_,_,rfl,h9,D4⟩
end
section
open Go.RowKit
variable {w w0 w1 w2 w3 w5 w':World} {S L L':List Nat} {B b fb n fc:Nat} {cv iv fv fv' rv:Value} {val val':Vp} {f f':Fr'} {Fr F:List Fr'} {R:List Rq'} {M M':PMa} {pf pf2:PFr} {pfs:List PFr} {vs:List Vl}
theorem binOk_dbl (ht:TabW w0):BinOk w0 ⟨#[43]⟩ [oneC 21] [oneC 21] [oneC 42] 0:=by
 intro w' L p1 p2 hc h1 h2 hL
 have e1:p1.n=1:=h1.len
 have e2:p2.n=1:=h2.len
 rw[e1,e2]
 refine(binary_dbl (show VI 21 w' p1.a p1.c from h1.ins) (show VI 21 w' p2.a p2.c from h2.ins) (ht.kept hc)).mono ?_
 rintro e w'' ⟨q,rfl,hv,hc2,hq,hty⟩
 refine⟨⟨some ⟨q,0,none⟩,1,1⟩,rfl,fun _=>⟨hv,rfl,fun ad ha=> ?_,fun ad ha=> ?_⟩,hc2⟩
 ·cases ha
  exact⟨fun hm=>by have:=hL q hm;omega,lt_of_heap hty⟩
 ·cases ha
  exact⟨_,_,hty⟩
def dOk (M:PMa):Prop:=∃k,k≤4∧M=dM k
def dStp (M:PMa):PMa:=dM (M.steps.toNat+1)
theorem dOk_sm:∀M,dOk M→smF M.fr∧M.val.length≤1048576∧M.rq=[]:=by
 rintro M ⟨k,hk,rfl⟩
 rcases(show k=0∨k=1∨k=2∨k=3∨k=4 by omega)with rfl|rfl|rfl|rfl|rfl<;>
  refine⟨⟨by simp[dM], ?_⟩,by simp[dM],rfl⟩<;>intro p hp<;>simp[dM]at hp<;>subst hp<;>exact⟨⟨by simp,by simp⟩,⟨by simp,by simp⟩⟩
theorem insAt_dbl {g o gi oi:Nat} (h:CdAt g o gi oi w):InsAt w gi oi 0 5 0 ⟨#[]⟩ (.slice none 0 0)∧InsAt w gi oi 1 5 0 ⟨#[]⟩ (.slice none 0 0)∧InsAt w gi oi 2 9 0 ⟨#[43]⟩ (.slice none 0 0)∧InsAt w gi oi 3 20 0 ⟨#[]⟩ (.slice none 0 0):=
 ⟨⟨h.li,h.ci 0 (by decide),h.ci 1 (by decide),h.ci 2 (by decide),h.ci 3 (by decide)⟩,⟨h.li,h.ci 4 (by decide),h.ci 5 (by decide),h.ci 6 (by decide),h.ci 7 (by decide)⟩,⟨h.li,h.ci 8 (by decide),h.ci 9 (by decide),h.ci 10 (by decide),h.ci 11 (by decide)⟩,⟨h.li,h.ci 12 (by decide),h.ci 13 (by decide),h.ci 14 (by decide),h.ci 15 (by decide)⟩⟩
theorem sm1 {l:List PFr} (h1:l.length≤1) (h:∀p∈l,p.lo.length≤1∧p.st.length≤2∧(∀v∈p.lo,v.length≤1)∧∀v∈p.st,v.length≤1):smF l:=by
 refine⟨by omega,fun p hp=> ?_⟩
 obtain⟨a1,a2,a3,a4⟩:=h p hp
 exact⟨⟨by omega,fun v hv=>by have:=a3 v hv;omega⟩,⟨by omega,fun v hv=>by have:=a4 v hv;omega⟩⟩
theorem stepOk_dbl {g o gi oi fcap ic:Nat} (hcd:CdAt g o gi oi w0) (ht:TabW w0):StepOk w0 (.slice (some ⟨g,o,none⟩) 1 fcap) (.slice (some ⟨gi,oi,none⟩) 6 ic) dStp dOk:=by
 obtain⟨i0,i1,i2,i3⟩:=insAt_dbl hcd
 rintro M ⟨k,hk,rfl⟩ hst
 rcases(show k=0∨k=1∨k=2∨k=3∨k=4 by omega)with rfl|rfl|rfl|rfl|rfl
 ·refine⟨⟨1,by omega,rfl⟩,fun w B b L tb hc hB hm hT=> ?_⟩
  refine(mstep_load (k:=0) (M2:=⟨1,0,[],[⟨0,1,[[oneC 21]],[[oneC 21]]⟩],[],100,100,1,1⟩) hm rfl rfl (by omega) (by omega) i0 hc hB (by decide) (by decide) (by decide) hT (fun w' L' hm' hc'=>mload_ok (k:=0) hm' rfl rfl (by simp) (by simp) 5 ⟨#[]⟩ _) (sm1 (by simp) (by simp))).mono ?_
  rintro e w' ⟨rfl,L',hm',ht'⟩
  exact⟨rfl,L',hm',ht'⟩
 ·refine⟨⟨2,by omega,rfl⟩,fun w B b L tb hc hB hm hT=> ?_⟩
  refine(mstep_load (k:=1) (M2:=⟨1,0,[],[⟨0,2,[[oneC 21]],[[oneC 21],[oneC 21]]⟩],[],100,100,2,2⟩) hm rfl rfl (by omega) (by omega) i1 hc hB (by decide) (by decide) (by decide) hT (fun w' L' hm' hc'=>mload_ok (k:=0) hm' rfl rfl (by simp) (by simp) 5 ⟨#[]⟩ _) (sm1 (by simp) (by simp))).mono ?_
  rintro e w' ⟨rfl,L',hm',ht'⟩
  exact⟨rfl,L',hm',ht'⟩
 ·refine⟨⟨3,by omega,rfl⟩,fun w B b L tb hc hB hm hT=> ?_⟩
  refine(mstep_bin (k:=2) (M2:=⟨1,0,[],[⟨0,3,[[oneC 21]],[[oneC 42]]⟩],[],100,100,3,3⟩) hm rfl rfl (by omega) (by omega) i2 hc hB (by decide) (by decide) (by decide) hT (fun w' L' hm' hc'=>moper_bin (S0:=[]) hm' rfl rfl (by simp) (binOk_dbl ht) hc' hB 0 _) (sm1 (by simp) (by simp))).mono ?_
  rintro e w' ⟨rfl,L',hm',ht'⟩
  exact⟨rfl,L',hm',ht'⟩
 ·refine⟨⟨4,by omega,rfl⟩,fun w B b L tb hc hB hm hT=> ?_⟩
  refine(mstep_back (k:=3) (M2:=⟨3,0,[oneC 42],[],[],100,100,4,3⟩) hm rfl rfl (by omega) (by omega) i3 hc hB (by decide) (by decide) (by decide) hT (fun w' L' hm' hc'=>mback_last (S0:=[]) hm' rfl rfl (by simp) 0 ⟨#[]⟩ _) (sm1 (by simp) (by simp))).mono ?_
  rintro e w' ⟨rfl,L',hm',ht'⟩
  exact⟨rfl,L',hm',ht'⟩
 ·exact absurd hst (by decide)
end
section
open Go.RowKit
variable {w w0 w1 w2 w3 w5 w':World} {S L L':List Nat} {B b fb n fc:Nat} {cv iv fv fv' rv:Value} {val val':Vp} {f f':Fr'} {Fr F:List Fr'} {R:List Rq'} {M M':PMa} {pf pf2:PFr} {pfs:List PFr} {vs:List Vl}
theorem runZ_dbl (n:Nat):runZ dStp (n+4) (dM 0)=dM 4:=by
 show runZ dStp n (dM 4)=dM 4
 exact runZ_stop (by decide)
theorem finish_dbl {g o gi oi fcap ic rc:Nat} {ra:Option Addr} (h:MvAt w B L fv (.slice ra 0 rc) val F [] (dM 0)) (hcd:CdAt g o gi oi w) (ht:TabW w) (hB:B≤w.heap.size):
 Calls Tryz.prog 11 #[.agg #[.slice (some ⟨g,o,none⟩) 1 fcap, .slice (some ⟨gi,oi,none⟩) 6 ic],mvV fv (.slice ra 0 rc) val (dM 0), .slice none 0 0] w fun e w'=>∃fa' fl' fc' val',e= .returned (mvV (.slice fa' fl' fc') (.slice none 0 0) val' (dM 4))∧VaIs w' [] val' [oneC 42]∧Chg [] w w':=by
 obtain⟨fa,fcp,rfl⟩:=RowOf.shape h.frs
 have RN:=LH (fun w' (hc:Chg [] w w')=>mrun_any (w0:=w') (stepOk_dbl (fcap:=fcap) (ic:=ic) (hcd.kept hc) (ht.kept hc)) dOk_sm (h.kept hc) ⟨0,by omega,rfl⟩ 20001 (by omega) (Chg.refl _ _))
 rw[show runZ dStp 20001 (dM 0)=dM 4 from runZ_dbl 19997,show((20001:Nat):Int)=20001 from rfl]at RN
 generalize F.reverse.length=fl at*
 unfold mvV at*
 simp only[dM]at*
 clear h hcd ht
 go_enter Tryz.func11,Tryz.ntmps11
 go_wp2_with fail
 generalize hW:World.alloc _ _=W
 have CW:Hid (Chg [] w W):=LH (by rw[←hW];exact(((Chg.refl _ _).alloc _).alloc _).alloc _)
 have B1:W.heap[w.heap.size]? =some (.cells #[.slice (some ⟨g,o,none⟩) 1 fcap, .slice (some ⟨gi,oi,none⟩) 6 ic] 35 (0,0)):=by rw[←hW];exact blk_alloc (blk_alloc (heap_alloc_new _ _))
 have B2:W.heap[w.heap.size+1]? =some (.cells #[.int .i64 1, .int .i64 0, .slice val.a val.n val.c, .slice fa fl fcp, .slice ra 0 rc, .int .i64 100, .int .i64 100, .int .i64 0, .int .i64 1] 48 (0,0)):=by rw[←hW];exact blk_alloc (by have h:=heap_alloc_new (w.alloc (.cells #[.slice (some ⟨g,o,none⟩) 1 fcap, .slice (some ⟨gi,oi,none⟩) 6 ic] 35 (0,0))) (.cells #[.int .i64 1, .int .i64 0, .slice val.a val.n val.c, .slice fa fl fcp, .slice ra 0 rc, .int .i64 100, .int .i64 100, .int .i64 0, .int .i64 1] 48 (0,0));rw[World.size_alloc]at h;exact h)
 have B3:W.heap[w.heap.size+1+1]? =some (.cells #[.int .i64 0, .int .i64 0, .slice none 0 0, .slice none 0 0, .slice none 0 0, .int .i64 0, .int .i64 0, .int .i64 0, .int .i64 0] 48 (0,0)):=by rw[←hW];have h:=heap_alloc_new ((w.alloc (.cells #[.slice (some ⟨g,o,none⟩) 1 fcap, .slice (some ⟨gi,oi,none⟩) 6 ic] 35 (0,0))).alloc (.cells #[.int .i64 1, .int .i64 0, .slice val.a val.n val.c, .slice fa fl fcp, .slice ra 0 rc, .int .i64 100, .int .i64 100, .int .i64 0, .int .i64 1] 48 (0,0))) (.cells #[.int .i64 0, .int .i64 0, .slice none 0 0, .slice none 0 0, .slice none 0 0, .int .i64 0, .int .i64 0, .int .i64 0, .int .i64 0] 48 (0,0));rw[World.size_alloc,World.size_alloc]at h;exact h
 have k1:=blk_cell B1
 have l1:=lt_of_heap B1
 have k2:=blk_cell B2
 have l2:=lt_of_heap B2
 have B3:=LH B3
 have B2:=LH B2
 rename_i B30 B20
 clear B30 B20 hW B1
 go_loopw [7] (fun u wr=>u= .int .i64 0∧wr=W) (fun _ _=>0)
 case atStart=>exact⟨rfl,rfl⟩
 case round=>
  obtain⟨rfl,rfl⟩:=hrel
  go_wp2_with (first
   |(go_at_call 48;(with_reducible refine Calls.mono (RN.out _ CW.out) ?_);rintro e w2 ⟨fv2,val2,F2,L2,rfl,hm2,hc2⟩;obtain⟨fa2,fc2,rfl⟩:=RowOf.shape hm2.frs;rw[List.length_reverse]at hm2;have M2:=LH hm2;have C2:=LH hc2;have kb2:=blk_cell (hc2.at (by simp) B2.out);have fb2:=blk_free (hc2.at (by simp) B2.out);have lb2:=lt_of_heap (hc2.at (by simp) B2.out);have kb3:=blk_cell (hc2.at (by simp) B3.out);have fb3:=blk_free (hc2.at (by simp) B3.out);have lb3:=lt_of_heap (hc2.at (by simp) B3.out);clear hm2 hc2))
  have hc1:=st9_self (w:=w2) (b:=w.heap.size+1) (.int .i64 3) (.int .i64 0) (.slice val2.a val2.n val2.c) (.slice fa2 F2.length fc2) (.slice none 0 0) (.int .i64 100) (.int .i64 100) (.int .i64 4) (.int .i64 3)
  have BY:=hc1.at (by simp) (C2.out.at (by simp) B3.out)
  have o3:=st9_at (b:=w.heap.size+1+1) (.int .i64 3) (.int .i64 0) (.slice val2.a val2.n val2.c) (.slice fa2 F2.length fc2) (.slice none 0 0) (.int .i64 100) (.int .i64 100) (.int .i64 4) (.int .i64 3) BY
  have r1:=blk_cell o3
  have va1:=(((M2.out.val.sub (L':=[]) (by simp)).offTy (C2.out.at (by simp) B2.out) (by decide)).mv (L':=[]) ⟨hc1,fun y hy=>hy,by simp⟩)
  have va2:=(va1.offTy BY (by decide)).mv (L':=[]) ⟨st9_self (b:=w.heap.size+1+1) (.int .i64 3) (.int .i64 0) (.slice val2.a val2.n val2.c) (.slice fa2 F2.length fc2) (.slice none 0 0) (.int .i64 100) (.int .i64 100) (.int .i64 4) (.int .i64 3),fun y hy=>hy,by simp⟩
  have D1:=((CW.out.thenSame C2.out).then hc1 (fun y hy hl=>by simp at hy;omega)).then (st9_self (b:=w.heap.size+1+1) (.int .i64 3) (.int .i64 0) (.slice val2.a val2.n val2.c) (.slice fa2 F2.length fc2) (.slice none 0 0) (.int .i64 100) (.int .i64 100) (.int .i64 4) (.int .i64 3)) (fun y hy hl=>by simp at hy;omega)
  exact bodyPost_ret (v:= .agg #[.int .i64 3, .int .i64 0, .slice val2.a val2.n val2.c, .slice fa2 F2.length fc2, .slice none 0 0, .int .i64 100, .int .i64 100, .int .i64 4, .int .i64 3]) (by simp[results,Tryz.results11,go_sem,r1]) rfl ⟨_,_,_,_,rfl,va2,D1⟩
theorem ev_in (w:World):VaIs (w.alloc (.cells #[.int .i64 3, .int .i64 21, .string ⟨#[]⟩, .int .i64 0] 63 (0,0))) [] ⟨some ⟨w.heap.size,0,none⟩,1,1⟩ [oneC 21]:=
 ⟨vi_new w 21,rfl,fun ad ha=>by cases ha;exact⟨by simp,by simp⟩,fun ad ha=>by cases ha;exact⟨_,_,heap_alloc_new w _⟩⟩
theorem double_yes (w:World) (ht:TabW w) (hs:ShW w):Calls Tryz.prog 7 #[] w fun e w'=>e= .returned (.bool true)∧Chg [] w w':=by
 have PA:=LH (parse_dbl w ht)
 have PG:=LH (fun w' (x:Pr) (hc:Chg [] w w') (hx:PrIn w' x) (hp:x.p=dP)=>program_at hx hp (ht.kept hc) (hs.kept hc))
 have HT:=LH ht
 have HS:=LH hs
 unfold dSrc at PA
 clear ht hs
 go_enter Tryz.func7,Tryz.ntmps7
 go_wp2_with (first
  |(go_at_call 6;(with_reducible refine Calls.mono PA.out ?_);rintro e w2 ⟨x,hx,rfl,hp,hc2⟩;have X2:=LH hx;have P2:=LH hp;have C2:=LH hc2;obtain⟨na,nn,nc,en⟩:∃a n c,nvOf x= .slice a n c:=⟨_,_,_,rfl⟩;obtain⟨fa,fn,fc,ef⟩:∃a n c,fvOf x= .slice a n c:=⟨_,_,_,rfl⟩;rw[en,ef];have EN:=LH en;have EF:=LH ef;clear hx hp hc2 en ef)
  |(go_at_call 8;have PGx:=PG.out _ x (C2.out.alloc (.cells #[.slice na nn nc, .slice fa fn fc] 27 (0,0))) (P2.out.kept ((Chg.refl _ _).alloc _)) X2.out;rw[EN.out,EF.out]at PGx;(with_reducible refine Calls.mono PGx ?_);rintro e w3 ⟨g,o,gi,oi,fcap,ic,rfl,hcd,hc3⟩;have D3:=LH hcd;have C3:=LH ((C2.out.alloc _).thenSame hc3);clear hcd hc3 PGx)
  |(go_at_call 10;have SX:=mstart_dbl (fcap:=fcap) (ic:=ic) (D3.out.kept (((Chg.refl _ _).alloc (.cells #[.slice (some ⟨g,o,none⟩) 1 fcap, .slice (some ⟨gi,oi,none⟩) 6 ic] 35 (0,0))).alloc (.cells #[.int .i64 3, .int .i64 21, .string ⟨#[]⟩, .int .i64 0] 63 (0,0)))) (HS.out.kept ((C3.out.alloc _).alloc _)) (HT.out.kept ((C3.out.alloc _).alloc _)) (ev_in (w3.alloc (.cells #[.slice (some ⟨g,o,none⟩) 1 fcap, .slice (some ⟨gi,oi,none⟩) 6 ic] 35 (0,0))));simp only[World.size_alloc,dM,mvV]at SX;(with_reducible refine Calls.mono SX ?_);rintro e w5 ⟨fv5,ra,rc,val,F,L5,rfl,hm5,hc5⟩;obtain⟨fa5,fc5,rfl⟩:=RowOf.shape hm5.frs;have M5:=LH hm5;have C5:=LH (((C3.out.alloc _).alloc _).thenSame hc5);have E5:=LH ((((Chg.refl [] w3).alloc _).alloc _).thenSame hc5);have ZZ:=LH (hc5.size);have BC:=LH (hc5.at (by simp) (blk_alloc (heap_alloc_new w3 (.cells #[.slice (some ⟨g,o,none⟩) 1 fcap, .slice (some ⟨gi,oi,none⟩) 6 ic] 35 (0,0)))));have kc5:=blk_cell BC.out;have lc5:=lt_of_heap BC.out;generalize F.reverse.length=fl5 at*;clear hm5 hc5 SX)
  |(go_at_call 11;have FX:=finish_dbl (fcap:=fcap) (ic:=ic) (h:=M5.out.kept ((Chg.refl [] w5).alloc (.cells #[.int .i64 1, .int .i64 0, .slice val.a val.n val.c, .slice fa5 fl5 fc5, .slice ra 0 rc, .int .i64 100, .int .i64 100, .int .i64 0, .int .i64 1] 48 (0,0)))) (D3.out.kept (E5.out.alloc _)) (HT.out.kept (C5.out.alloc _)) (by have:=E5.out.size;have h2:=lt_of_heap BC.out;have h3:=ZZ.out;simp only[World.size_alloc];omega);simp only[dM,mvV]at FX;(with_reducible refine Calls.mono FX ?_);rintro e w7 ⟨fa7,fl7,fc7,val7,rfl,hv7,hc7⟩;have V7:=LH hv7;have C7:=LH ((C5.out.alloc _).thenSame hc7);have BM:=LH (hc7.at (by simp) (heap_alloc_new w5 _));have kb7:=blk_cell BM.out;have fb7:=blk_free BM.out;have lb7:=lt_of_heap BM.out;have hn7:val7.n=1:=hv7.len;obtain⟨vq,vo,hva,hvc⟩:=VI.cells (show VI 42 w7 val7.a val7.c from hv7.ins);have cv:=(hvc w7 (Chg.refl _ _)).2.1;have lv:=(hvc w7 (Chg.refl _ _)).2.2.2.2;have nv:vq≠w5.heap.size:=fun e=>(((hv7.offTy BM.out (by decide)).off ⟨vq,vo,none⟩ hva).1 (by simp[e]));have nv2:w5.heap.size≠vq:=fun e=>nv e.symm;rw[hn7,hva];clear hvc hv7 hc7 FX))
 have hc9:=st9_self (w:=w7) (b:=w5.heap.size) (.int .i64 3) (.int .i64 0) (.slice val7.a val7.n val7.c) (.slice fa7 fl7 fc7) (.slice none 0 0) (.int .i64 100) (.int .i64 100) (.int .i64 4) (.int .i64 3)
 rw[hn7,hva]at hc9
 go_ret
 exact⟨rfl,C7.out.then hc9 (fun y hy hl=>by simp at hy;have:=C5.out.size;omega)⟩
end
section
open Go.RowKit
section
variable {H:Type} {enc:TypeId×Value→H} {w:World} {base:Nat} {spare:Nat→Bool} {held:Bool}
end
end
end Go.Proofs.YtmofknmeljdodaaGreatDoor
