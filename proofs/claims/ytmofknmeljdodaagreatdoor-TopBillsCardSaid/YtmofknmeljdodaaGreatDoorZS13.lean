/- Layer 8: contract: Parse of the example's text. No condition but those that the statements name. -/
import Derived.Test.YtmofknmeljdodaaGreatDoorZS01
import Derived.Test.YtmofknmeljdodaaGreatDoorZS12
import Derived.Test.YtmofknmeljdodaaGreatDoorZS05
set_option maxHeartbeats 100000000
set_option maxRecDepth 100000
set_option linter.unusedVariables false
set_option linter.unusedSimpArgs false
open List renaming getElem_toArray→gTA,getElem_cons_zero→gCZ,getElem_cons_succ→gCS,setIfInBounds_toArray→sTA,set_cons_zero→sCZ,set_cons_succ→sCS
namespace Go.Proofs.YtmofknmeljdodaaGreatDoor
section
open Go.RowKit
variable {b:Nat} {T:List Tk} {tv:Value} {en:Int} {at':Nat} {x:Pr} {g g2 f f' S:List Nat} {w w':World} {P:PPr}
def dP:PPr:=⟨dN,[⟨dMain,[dE],4⟩]⟩
theorem PaAt.prIn (h:PaAt b T tv en at' x g w):PrIn w x:=by
 refine⟨⟨(InIs.ofRow h.nd ndC_len).2,fun d hd=> ?_⟩,(InIs.ofRow h.fn fnC_len).2,fun d hd=> ?_⟩
 ·exact⟨(InIs.ofRow (h.nds d hd).1.1 skC_len).2,(InIs.ofRow (h.nds d hd).2.1 icI_len1).2⟩
 ·exact(InIs.ofRow (h.fns d hd).1 skC_len).2
def gNd (p:PNd):Prop:=(Lit.int .i64 p.kind).wf=true∧p.text.size≤maxLen∧(Lit.int .i64 p.n).wf=true∧(∀s∈p.keys,s.size≤maxLen)∧∀k∈p.kids,(Lit.int .i64 k).wf=true
def gFn (p:PFn):Prop:=p.name.size≤maxLen∧(∀s∈p.params,s.size≤maxLen)∧(Lit.int .i64 p.body).wf=true
theorem dP_nd:∀p∈dP.nodes,gNd p:=by
 intro p hp
 simp only[dP,dN,List.mem_cons,List.not_mem_nil,or_false]at hp
 rcases hp with rfl|rfl|rfl|rfl|rfl<;>(unfold gNd;decide)
theorem dP_fn:∀p∈dP.funcs,gFn p:=by
 intro p hp
 simp only[dP,List.mem_cons,List.not_mem_nil,or_false]at hp
 subst hp
 unfold gFn;decide
theorem good_dP (h:x.p=dP):goodPr x:=by
 constructor
 ·intro d hd
  exact dP_nd d.p (by rw[←h];exact List.mem_map_of_mem hd)
 ·intro d hd
  exact dP_fn d.p (by rw[←h];exact List.mem_map_of_mem hd)
theorem scheck_dP:scheckZ dP=0:=by decide+kernel
theorem start_paJ {a:Option Addr} {c:Nat} {B:Nat} {w2:World} (hr:RowOf tkC 4 w2 B 224 (.slice a 12 c) dT):PaJ w2.heap.size dT (.slice a 12 c) en 0 ⟨[],[]⟩ (w2.heap.size::(Value.slice a 12 c).ownBlock.toList) (w2.alloc (.cells #[.slice a 12 c, .int .i64 0, .int .i64 en, .slice none 0 0, .slice none 0 0] 121)):=by
 refine⟨⟨none,0,[],none,0,[]⟩,[],rfl,⟨heap_alloc_new _ _,(hr.mono (Nat.zero_le _)).kept ((Chg.refl [] _).alloc _) (by simp),RowOf.nil _ _ _,RowOf.nil _ _ _,fun d hd=>by simp at hd,fun d hd=>by simp at hd, ?_,fun y hy=>by simp at hy,fun y hy=>by simp at hy⟩, ?_⟩
 ·have h1:(nvOf (⟨none,0,[],none,0,[]⟩:Pr)).ownBlock=none:=rfl
  have h2:(fvOf (⟨none,0,[],none,0,[]⟩:Pr)).ownBlock=none:=rfl
  unfold ownP
  rw[h1,h2]
  simp only[Option.toList_none,List.append_nil,List.nodup_cons,Option.mem_toList]
  refine⟨fun e=> ?_,by cases (Value.slice a 12 c).ownBlock<;>simp⟩
  have:=(hr.block _ e).2
  omega
 ·have h1:(nvOf (⟨none,0,[],none,0,[]⟩:Pr)).ownBlock=none:=rfl
  have h2:(fvOf (⟨none,0,[],none,0,[]⟩:Pr)).ownBlock=none:=rfl
  unfold ownP
  rw[h1,h2]
  simp
theorem parse_dbl (w:World) (ht:TabW w):Calls Tryz.prog 6 #[.string dSrc] w fun e w'=>∃x:Pr,x.p=dP∧e= .returned (.tuple #[.agg #[nvOf x,fvOf x], .int .i64 0, .int .i64 0])∧PrIn w' x∧Chg [] w w':=by
 have hmf:∀(fn:Fn) (first cap:Array Value) (w:World),(Instr.makeFunc fn first cap).run Tryz.prog w= .ok (.func fn first cap) w:=fun _ _ _ _=>rfl
 obtain⟨W1,hW1⟩:∃W1,W1=((w.alloc (.cells #[.slice none 0 0, .slice none 0 0] 27)).alloc (.cells #[.int .i64 0] 3)).alloc (.cells #[.int .i64 0] 28):=⟨_,rfl⟩
 have C1:=LH (show Chg [] w W1 from hW1▸(((Chg.refl _ _).alloc _).alloc _).alloc _)
 have X1:=LH (show W1.heap[w.heap.size]? =some (.cells #[.slice none 0 0, .slice none 0 0] 27)from hW1▸blk_alloc (blk_alloc (heap_alloc_new _ _)))
 have X2:=LH (show W1.heap[w.heap.size+1]? =some (.cells #[.int .i64 0] 3)from hW1▸blk_alloc (alloc2_at _ _ _))
 have X3:=LH (show W1.heap[w.heap.size+2]? =some (.cells #[.int .i64 0] 28)from by
  have h:=heap_alloc_new ((w.alloc (.cells #[.slice none 0 0, .slice none 0 0] 27)).alloc (.cells #[.int .i64 0] 3)) (.cells #[.int .i64 0] 28)
  rw[World.size_alloc,World.size_alloc]at h
  rw[hW1];exact h)
 have HW1:=LH hW1
 have HT:=LH ht
 have A1:=LH (dTokens W1)
 generalize dSrc=src at*
 clear hW1 ht
 go_enter_defers Tryz.func6,Tryz.ntmps6
 go_wp2_with fail
 rw[←HW1.out]
 go_wp2_with fail
 refine A1.out.mono ?_;rintro e w2 ⟨ta,tc,rfl,hr2,hc2⟩
 have P3:=LH (start_paJ (en:=(src.size:Int)) hr2)
 have C2:=LH (C1.out.thenSame hc2)
 have K2:=LH hc2
 have R2:=LH hr2
 clear hr2 hc2
 go_wp2_with fail
 refine(program_dbl P3.out).mono ?_;rintro e w4 ⟨rfl,f4,hp4,ht4⟩
 have HFN:=LH (show ∀y∈(w2.heap.size::(Value.slice ta 12 tc).ownBlock.toList),W1.heap.size≤y from fun y hy=>by
  simp only[List.mem_cons,Option.mem_toList]at hy
  rcases hy with rfl|hy
  ·exact K2.out.size
  ·exact(R2.out.block y hy).1)
 have hs1:=C1.out.size
 have C4:=LH (show Chg [] w w4 from(C2.out.alloc _).then ht4.chg (fun y hy hl=>by have:=HFN.out y hy;omega))
 have Y1:=LH (ht4.at (fun e=>by have:=HFN.out _ e;have:=lt_of_heap X1.out;omega) (blk_alloc (K2.out.at (by simp) X1.out))).1
 have Y2:=LH (ht4.at (fun e=>by have:=HFN.out _ e;have:=lt_of_heap X2.out;omega) (blk_alloc (K2.out.at (by simp) X2.out))).1
 have Y3:=LH (ht4.at (fun e=>by have:=HFN.out _ e;have:=lt_of_heap X3.out;omega) (blk_alloc (K2.out.at (by simp) X3.out))).1
 obtain⟨x,g,hx,h4,hf4⟩:=hp4
 have A5:=LH (scheck_any x w4 h4.prIn (good_dP hx) (HT.out.kept C4.out))
 rw[hx,show scheckZ (⟨dN,[⟨dMain,[dE],4⟩]⟩:PPr)=0 from scheck_dP]at A5
 have HO4:=LH (show ∀y∈ownP w2.heap.size (.slice ta 12 tc) x++g,W1.heap.size≤y from fun y hy=>by
  rcases ht4.own y (hf4▸hy)with q|q
  ·exact HFN.out y q
  ·have:=K2.out.size;rw[World.size_alloc]at q;omega)
 have HW3:=LH (lt_of_heap X3.out)
 have H4:=LH h4
 have HX:=LH hx
 obtain⟨na,nn,nc,hnv⟩:∃na nn nc, .slice na nn nc=nvOf x:=⟨_,_,_,rfl⟩
 obtain⟨fa,fn,fc,hfv⟩:∃fa fn fc, .slice fa fn fc=fvOf x:=⟨_,_,_,rfl⟩
 have HNV:=LH hnv
 have HFV:=LH hfv
 have k4:=blk_cell h4.blk
 have l4:=lt_of_heap h4.blk
 have A5:=LH (show Calls Tryz.prog 31 #[.agg #[.slice na nn nc, .slice fa fn fc]] w4 fun e w'=>e= .returned (.int .i64 0)∧Chg [] w4 w' from by rw[hnv,hfv];exact A5.out)
 rw[←hnv,←hfv]at k4
 clear h4 hx hf4 ht4 hnv hfv
 go_wp2_with fail
 refine A5.out.mono ?_;rintro e w5 ⟨rfl,hc5⟩
 have C5:=LH (C4.out.thenSame hc5)
 have H5:=LH (H4.out.keptN hc5)
 have Z1:=LH (hc5.at (by simp) Y1.out)
 have Z2:=LH (hc5.at (by simp) Y2.out)
 have Z3:=LH (hc5.at (by simp) Y3.out)
 have k5:=blk_cell H5.out.blk
 have l5:=lt_of_heap H5.out.blk
 rw[←HNV.out,←HFV.out]at k5
 have z1:=blk_cell Z1.out
 have z2:=blk_cell Z2.out
 have z3:=blk_cell Z3.out
 have y1:=blk_free Z1.out
 have y2:=blk_free Z2.out
 have y3:=blk_free Z3.out
 have m1:=lt_of_heap Z1.out
 have m2:=lt_of_heap Z2.out
 have m3:=lt_of_heap Z3.out
 clear hc5 k4 l4
 go_wp2_with fail
 obtain⟨W9,hW9⟩:∃W9,W9=((((w5.setCell ⟨w.heap.size,0,none⟩ (.slice na nn nc)).setCell ⟨w.heap.size,1,none⟩ (.slice fa fn fc)).setCell ⟨w.heap.size+1,0,none⟩ (.int .i64 0)).setCell ⟨w.heap.size+1+1,0,none⟩ (.int .i64 0)):=⟨_,rfl⟩
 rw[←hW9]
 have V1:=LH (show W9.heap[w.heap.size]? =some (.cells #[.slice na nn nc, .slice fa fn fc] 27 (0,0))from hW9▸(blk_set_ne 0 _ (by omega)).trans ((blk_set_ne 0 _ (by omega)).trans (blk_set (blk_set Z1.out 0 _) 1 _)))
 have V2:=LH (show W9.heap[w.heap.size+1]? =some (.cells #[.int .i64 0] 3 (0,0))from hW9▸(blk_set_ne 0 _ (by omega)).trans (blk_set ((blk_set_ne 1 _ (by omega)).trans ((blk_set_ne 0 _ (by omega)).trans Z2.out)) 0 _))
 have V3:=LH (show W9.heap[w.heap.size+1+1]? =some (.cells #[.int .i64 0] 28 (0,0))from hW9▸blk_set ((blk_set_ne 0 _ (by omega)).trans ((blk_set_ne 1 _ (by omega)).trans ((blk_set_ne 0 _ (by omega)).trans Z3.out))) 0 _)
 have qn:∀(u j:Nat),w.heap.size≤u→(⟨u,j,none⟩:Addr).block<w.heap.size→(⟨u,j,none⟩:Addr).block∈([]:List Nat):=fun u j h hj=>absurd (show u<w.heap.size from hj) (by omega)
 have C9:=LH (show Chg [] w W9 from hW9▸(((C5.out.setCell _ _ (qn _ _ (Nat.le_refl _))).setCell _ _ (qn _ _ (Nat.le_refl _))).setCell _ _ (qn _ _ (by omega))).setCell _ _ (qn _ _ (by omega)))
 have hc9:Chg [w.heap.size,w.heap.size+1,w.heap.size+1+1] w5 W9:=hW9▸((((Chg.refl _ _).setCell _ _ (by simp)).setCell _ _ (by simp)).setCell _ _ (by simp)).setCell _ _ (by simp)
 have H9:=LH (H5.out.kept hc9 (fun y hy e=>by have h1:=HO4.out y (List.mem_append_left _ hy);have h2:=HW3.out;simp at e;omega) (fun y hy e=>by have h1:=HO4.out y (List.mem_append_right _ hy);have h2:=HW3.out;simp at e;omega))
 clear hW9 hc9
 refine leaves_cons (f:=29) (args:= #[.pointer (some ⟨w.heap.size,0,none⟩), .pointer (some ⟨w.heap.size+1,0,none⟩), .pointer (some ⟨w.heap.size+1+1,0,none⟩)]) (by simp) (by simp[go_sem]) ?_
 refine(parse1_idle _ _ _ W9).mono ?_
 rintro e u' w10 ⟨rfl,rfl,hc10⟩
 have v1:=blk_cell (hc10.at (by simp) V1.out)
 have v2:=blk_cell (hc10.at (by simp) V2.out)
 have v3:=blk_cell (hc10.at (by simp) V3.out)
 have C10:=LH (C9.out.thenSame hc10)
 have H10:=LH (H9.out.keptN hc10)
 simp[Leaves,settle,results,Tryz.results6,go_sem,v1,v2,v3]
 exact⟨x,HX.out,⟨HNV.out,HFV.out⟩,H10.out.prIn,C10.out⟩
end
section
open Go.RowKit
structure In where
 op:Int
 a:Int
 s:ByteArray
def inC (x:In):List Value:=[.int .i64 x.op, .int .i64 x.a, .string x.s, .slice none 0 0]
theorem inC_len (x:In):(inC x).length=4:=rfl
theorem inC_one (x:In):∀u∈inC x,u.oneCell'=true:=by intro u hu;simp[inC]at hu;rcases hu with rfl|rfl|rfl|rfl<;>rfl
theorem inInfo:(Tryz.prog.info? 235).map (fun i=>(i.zero,i.size,i.bytes))=some (some (.agg #[.int .i64 0, .int .i64 0, .string ⟨#[]⟩, .slice none 0 0]),4,56):=by kernel_rfl
structure WrAt (W0:World) (b:Nat) (x:Pr) (sa:Option Addr) (sc:Nat) (SL:List Int) (I:List In) (v:Value) (w:World):Prop where
 blk:w.heap[b]? =some (.cells #[nvOf x,fvOf x, .slice sa SL.length sc, .int .i64 0,v] 137 (0,0))
 ins:RowOf inC 4 w W0.heap.size 235 v I
 new:W0.heap.size≤b
 ne:∀y,v.ownBlock=some y→y≠b
 chg:Chg [] W0 w
def WrJ (W0:World) (b:Nat) (x:Pr) (sa:Option Addr) (sc:Nat) (SL:List Int) (I:List In) (f:List Nat) (w:World):Prop:=
 ∃v,WrAt W0 b x sa sc SL I v w∧f=b::v.ownBlock.toList
section
variable {W0 w w':World} {b:Nat} {x:Pr} {sa:Option Addr} {sc:Nat} {SL:List Int} {I J:List In} {v:Value} {f f':List Nat}
theorem WrAt.keptN (h:WrAt W0 b x sa sc SL I v w) (hc:Chg [] w w'):WrAt W0 b x sa sc SL I v w':=
 ⟨hc.at (by simp) h.blk,h.ins.kept hc (by simp),h.new,h.ne,h.chg.thenSame hc⟩
theorem WrJ.keptN (h:WrJ W0 b x sa sc SL I f w) (hc:Chg [] w w'):WrJ W0 b x sa sc SL I f w':=by
 obtain⟨v,h1,h2⟩:=h
 exact⟨v,h1.keptN hc,h2⟩
theorem WrJ.lt (h:WrJ W0 b x sa sc SL I f w):∀y∈f,W0.heap.size≤y∧y<w.heap.size:=by
 obtain⟨v,h1,rfl⟩:=h
 intro y hy
 simp only[List.mem_cons,Option.mem_toList]at hy
 rcases hy with rfl|hy
 ·exact⟨h1.new,lt_of_heap h1.blk⟩
 ·exact h1.ins.block y hy
theorem WrJ.chg (h:WrJ W0 b x sa sc SL I f w):Chg [] W0 w:=by
 obtain⟨v,h1, -⟩:=h
 exact h1.chg
theorem wadd_fin (h1:WrAt W0 b x sa sc SL I v w) {L:List In} {g' cap:Nat} {w4:World} (hr:RowOf inC 4 w4 W0.heap.size 235 (.slice (some ⟨g',0,none⟩) (I.length+L.length) cap) (I++L)) (hg:Chg v.ownBlock.toList w w4) (ho:v.ownBlock=some g'∨g'=w.heap.size):
 WrJ W0 b x sa sc SL (I++L) [b,g'] (w4.setCell ⟨b,4,none⟩ (.slice (some ⟨g',0,none⟩) (I.length+L.length) cap))∧Tr (b::v.ownBlock.toList) w [b,g'] (w4.setCell ⟨b,4,none⟩ (.slice (some ⟨g',0,none⟩) (I.length+L.length) cap)):=by
 have hb:=lt_of_heap h1.blk
 have hne:g'≠b:=by
  rcases ho with e|e
  ·exact h1.ne g' e
  ·omega
 have hc9:Chg [b] w4 (w4.setCell ⟨b,4,none⟩ (.slice (some ⟨g',0,none⟩) (I.length+L.length) cap)):=(Chg.refl _ _).setCell _ _ (fun _=>by simp)
 have hc:Chg (b::v.ownBlock.toList) w (w4.setCell ⟨b,4,none⟩ (.slice (some ⟨g',0,none⟩) (I.length+L.length) cap)):=hg.trans hc9 (fun y hy _=>by simp[hy]) (fun y hy _=>by simp at hy;simp[hy])
 have hbl:=hg.at (fun e=>h1.ne b (by simpa using e) rfl) h1.blk
 refine⟨⟨_,⟨blk_set hbl 4 _,hr.kept hc9 (fun y hy e=>by simp[Value.ownBlock]at hy;simp at e;omega),h1.new,fun y hy=>by simp[Value.ownBlock]at hy;omega,h1.chg.then hc (fun y hy hl=> ?_)⟩,rfl⟩,hc,fun y hy=> ?_⟩
 ·simp only[List.mem_cons,Option.mem_toList]at hy
  rcases hy with rfl|hy
  ·have:=h1.new;omega
  ·have:=(h1.ins.block y hy).1;omega
 ·simp only[List.mem_cons,List.not_mem_nil,or_false]at hy
  rcases hy with rfl|rfl
  ·left;simp
  ·rcases ho with e|e
   ·left;simp[e]
   ·right;omega
theorem wadd_any (h:WrJ W0 b x sa sc SL I f w) {q n:Nat} {cur:Array Value} {L:List In} (hg:w.heap[q]? =some (.cells cur 235 (0,0))) (hl:cur.toList=L.flatMap inC) (hn:L.length=n) (hp:0<n) (hm:n≤100) (hI:I.length≤1000):
 Calls Tryz.prog 91 #[.pointer (some ⟨b,0,none⟩), .slice (some ⟨q,0,none⟩) n n] w fun e w'=>e= .returned (.tuple #[])∧∃f',WrJ W0 b x sa sc SL (I++L) f' w'∧Tr f w f' w':=by
 obtain⟨v,h1,rfl⟩:=h
 obtain⟨va,vc,rfl⟩:=RowOf.shape h1.ins
 have H:=LH h1
 have kb:=blk_cell h1.blk
 have fb:=blk_free h1.blk
 have lb:=lt_of_heap h1.blk
 have HG:=LH hg
 have HL:=LH hl
 have QB:=LH (show b∉(Value.slice va I.length vc).ownBlock.toList from fun e=>h1.ne b (by simpa using e) rfl)
 have hb0:=h1.chg.size
 clear h1 hg hl
 go_enter Tryz.func91,Tryz.ntmps91
 go_wp2_with (at_builtin;refine wpl_appendsB rfl _ _ 33 rfl W0.heap.size 235 _ 56 Tryz.underlying33 inInfo rfl (by decide) inC_len inC_one (.slice va I.length vc) I rfl H.out.ins q n n L _ _ _ rfl HG.out HL.out hn hp (by unfold maxLen;omega) (by omega) hb0 ?_;intro g4 c4 w4 hr4 hg4 ho4 hl4;rw[←hn]at hr4;have FN:=LH (wadd_fin H.out hr4 (chg_grown hg4) ho4);have B4:=LH ((chg_grown hg4).at QB.out H.out.blk);have k4:=blk_cell B4.out;have f4:=blk_free B4.out;have l4:=lt_of_heap B4.out;clear hr4 hg4 ho4)
 go_end0
 subst hn
 exact⟨rfl,_,FN.out.1,FN.out.2⟩
end
end
section
open Go.RowKit
variable {W0 w w':World} {b:Nat} {x:Pr} {sa:Option Addr} {sc:Nat} {SL:List Int} {I J:List In} {v:Value} {f f':List Nat}
theorem wlast_var (h:WrJ W0 b x sa sc SL I f w) (hS:SlIs icI 1 W0 sa SL.length SL) {tx:ByteArray} {nn:Int} {ka da:Option Addr} {kn kc dn dc k:Nat} {z:Int} (hz:SL[k]? =some z):Calls Tryz.prog 155 #[.pointer (some ⟨b,0,none⟩), .agg #[.int .i64 5, .string tx, .int .i64 nn, .slice ka kn kc, .slice da dn dc], .int .i64 k] w fun e w'=>e= .returned (.tuple #[.agg #[.int .i64 5, .int .i64 z, .string ⟨#[]⟩, .slice none 0 0], .bool true])∧Chg [] w w':=by
 obtain⟨v,h1, -⟩:=h
 obtain⟨hk,hz⟩:=List.getElem?_eq_some_iff.1 hz
 have kb:=blk_cell h1.blk
 have lb:=lt_of_heap h1.blk
 obtain⟨sb,so,rfl, -,gs,cc⟩:=hS.elem h1.chg k hk
 have c0:=cc 0 (by omega)
 rw[hz]at c0
 simp only[icI,List.getElem?_cons_zero,Nat.add_zero,Nat.mul_one]at c0
 have hk0:(0:Int)≤(k:Int):=by omega
 have hk1:(k:Int)<(SL.length:Int):=by omega
 unfold nvOf fvOf at kb
 clear cc h1 hk hS hz
 go_enter Tryz.func155,Tryz.ntmps155
 go_wp2_with fail
 have r1:=blk_cell (alloc2_at w (.cells #[.int .i64 5, .string tx, .int .i64 nn, .slice ka kn kc, .slice da dn dc] 297) (.cells #[.int .i64 5, .int .i64 z, .string ⟨#[]⟩, .slice none 0 0] 235))
 refine bodyPost_ret (v:= .tuple #[.agg #[.int .i64 5, .int .i64 z, .string ⟨#[]⟩, .slice none 0 0], .bool true]) (by simp[results,Tryz.results155,go_sem,r1]) rfl ?_
 exact⟨rfl,((Chg.refl _ _).alloc _).alloc _⟩
theorem wlast_ret (w:World) (b:Nat) {tx:ByteArray} {nn at':Int} {ka da:Option Addr} {kn kc dn dc:Nat}:Calls Tryz.prog 155 #[.pointer (some ⟨b,0,none⟩), .agg #[.int .i64 17, .string tx, .int .i64 nn, .slice ka kn kc, .slice da dn dc], .int .i64 at'] w fun e w'=>e= .returned (.tuple #[.agg #[.int .i64 20, .int .i64 0, .string ⟨#[]⟩, .slice none 0 0], .bool true])∧Chg [] w w':=by
 go_enter Tryz.func155,Tryz.ntmps155
 go_wp2_with fail
 have r1:=blk_cell (alloc2_at w (.cells #[.int .i64 17, .string tx, .int .i64 nn, .slice ka kn kc, .slice da dn dc] 297) (.cells #[.int .i64 20, .int .i64 0, .string ⟨#[]⟩, .slice none 0 0] 235))
 refine bodyPost_ret (v:= .tuple #[.agg #[.int .i64 20, .int .i64 0, .string ⟨#[]⟩, .slice none 0 0], .bool true]) (by simp[results,Tryz.results155,go_sem,r1]) rfl ?_
 exact⟨rfl,((Chg.refl _ _).alloc _).alloc _⟩
theorem wlast_blk (w:World) (b:Nat) {tx:ByteArray} {nn at':Int} {ka da:Option Addr} {kn kc dn dc:Nat}:Calls Tryz.prog 155 #[.pointer (some ⟨b,0,none⟩), .agg #[.int .i64 19, .string tx, .int .i64 nn, .slice ka kn kc, .slice da dn dc], .int .i64 at'] w fun e w'=>e= .returned (.tuple #[.agg #[.int .i64 0, .int .i64 0, .string ⟨#[]⟩, .slice none 0 0], .bool false])∧Chg [] w w':=by
 go_enter Tryz.func155,Tryz.ntmps155
 go_wp2_with fail
 have r1:=blk_cell (alloc2_at w (.cells #[.int .i64 19, .string tx, .int .i64 nn, .slice ka kn kc, .slice da dn dc] 297) (.cells #[.int .i64 0, .int .i64 0, .string ⟨#[]⟩, .slice none 0 0] 235))
 refine bodyPost_ret (v:= .tuple #[.agg #[.int .i64 0, .int .i64 0, .string ⟨#[]⟩, .slice none 0 0], .bool false]) (by simp[results,Tryz.results155,go_sem,r1]) rfl ?_
 exact⟨rfl,((Chg.refl _ _).alloc _).alloc _⟩
end
section
open Go.RowKit
variable {W0 w w':World} {b:Nat} {x:Pr} {sa:Option Addr} {sc:Nat} {SL:List Int} {I J:List In} {v:Value} {f f':List Nat}
def NodC (W0:World) (b:Nat) (x:Pr) (sa:Option Addr) (sc:Nat) (SL:List Int) (k:Nat) (J:List In):Prop:=
 ∀I f w,I.length+J.length≤900→WrJ W0 b x sa sc SL I f w→Calls Tryz.prog 90 #[.pointer (some ⟨b,0,none⟩), .int .i64 k] w fun e w'=>e= .returned (.tuple #[])∧∃f',WrJ W0 b x sa sc SL (I++J) f' w'∧Tr f w f' w'
theorem flat_take {Js:List (List In)} {i:Nat} (h:i<Js.length):(Js.take (i+1)).flatten=(Js.take i).flatten++Js[i]:=by
 rw[List.take_succ_eq_append_getElem h,List.flatten_append];simp
theorem flat_le (Js:List (List In)) (i:Nat):(Js.take i).flatten.length≤Js.flatten.length:=by
 have h:Js.flatten=(Js.take i).flatten++(Js.drop i).flatten:=by rw[←List.flatten_append,List.take_append_drop]
 rw[h,List.length_append];omega
theorem all_any {K:List Nat} {Js:List (List In)} (hl:Js.length=K.length) (hN:∀i (h:i<K.length),NodC W0 b x sa sc SL K[i] (Js[i]'(by omega))) (hI:I.length+Js.flatten.length≤900) (h:WrJ W0 b x sa sc SL I f w) {da:Option Addr} {dc:Nat} (hk:SlIs icI 1 W0 da K.length (K.map (fun n:Nat=>(n:Int)))) (hm:K.length≤maxLen):
 Calls Tryz.prog 154 #[.slice da K.length dc, .func (.func 90) #[.pointer (some ⟨b,0,none⟩)] #[]] w fun e w'=>e= .returned (.tuple #[])∧∃f',WrJ W0 b x sa sc SL (I++Js.flatten) f' w'∧Tr f w f' w':=by
 have H0:=LH h
 have HN:=LH hN
 have HK:=LH hk
 unfold maxLen at hm
 clear h hN hk
 go_enter Tryz.func154,Tryz.ntmps154
 go_wp2_with fail
 go_loopw [8] (fun u wr=>∃(i:Nat) (f5:List Nat),u= .int .i64 i∧i≤K.length∧Hid (WrJ W0 b x sa sc SL (I++(Js.take i).flatten) f5 wr)∧Hid (Tr f w f5 wr)) (fun u _=>K.length-(intOf u).toNat)
 case atStart=>exact⟨0,f,rfl,Nat.zero_le _,LH (by simpa using H0.out),LH (Tr.refl _ _)⟩
 case round=>
  obtain⟨i,f5,rfl,hi,P5,T5⟩:=hrel
  by_cases hik:i<K.length
  ·obtain⟨kb,ko,rfl, -,g1,cc⟩:=HK.out.elem P5.out.chg i (by simpa using hik)
   have c0:=cc 0 (by omega)
   rw[List.getElem_map]at c0
   have hle:=flat_le Js (i+1)
   rw[flat_take (by omega),List.length_append]at hle
   have A:=LH (HN.out i hik (I++(Js.take i).flatten) f5 wr (by rw[List.length_append];omega) P5.out)
   have HF:=LH (flat_take (Js:=Js) (i:=i) (by omega))
   generalize K[i]=k at*
   simp only[icI,List.getElem?_cons_zero,Nat.add_zero,Nat.mul_one]at c0
   have hi0:(0:Int)≤(i:Int):=by omega
   have hi1:(i:Int)<(K.length:Int):=by omega
   clear cc hle
   go_wp2_with fail
   refine A.out.mono ?_;rintro e w2 ⟨rfl,f2,hp2,ht2⟩
   have P2:=LH (show WrJ W0 b x sa sc SL (I++(Js.take (i+1)).flatten) f2 w2 from by rw[HF.out,←List.append_assoc];exact hp2)
   have T2:=LH (T5.out.trans ht2)
   clear hp2 ht2
   go_wp2_with fail
   exact⟨⟨i+1,f2,by go_num,by omega,P2,T2⟩,by simp[intOf];omega⟩
  ·have hie:i=K.length:=by omega
   have hi2: ¬(i:Int)<(K.length:Int):=by omega
   have P6:=LH (show WrJ W0 b x sa sc SL (I++Js.flatten) f5 wr from by have:=P5.out;rwa[List.take_of_length_le (by omega)]at this)
   clear hie
   go_wp2_with fail
   go_end0
   exact⟨rfl,f5,P6.out,T5.out⟩
theorem node_blk (hx:PrIn W0 x) {k:Nat} {d:Nd} (hd:x.nodes[k]? =some d) {K:List Nat} {Js:List (List In)} (hkids:d.kids=K.map (fun n:Nat=>(n:Int))) (hkd:d.kind=19) (hl:Js.length=K.length) (hN:∀i (h:i<K.length),NodC W0 b x sa sc SL K[i] (Js[i]'(by omega))):NodC W0 b x sa sc SL k Js.flatten:=by
 intro I f w hI100 h
 have hmf:∀(fn:Fn) (first cap:Array Value) (w:World),(Instr.makeFunc fn first cap).run Tryz.prog w= .ok (.func fn first cap) w:=fun _ _ _ _=>rfl
 have HI:=LH h
 obtain⟨v,h1, -⟩:=h
 obtain⟨hk,he⟩:=List.getElem?_eq_some_iff.1 hd
 have kb:=blk_cell h1.blk
 have lb:=lt_of_heap h1.blk
 unfold nvOf fvOf at kb
 obtain⟨nb,no,hna, -,gn,cc⟩:=hx.1.1.1.elem h1.chg k hk
 have c0:=cc 0 (by omega)
 have c1:=cc 1 (by omega)
 have c2:=cc 2 (by omega)
 have c3:=cc 3 (by omega)
 have c4:=cc 4 (by omega)
 rw[he]at c0 c1 c2 c3 c4
 have hdi:=hx.1.2 d (he▸List.getElem_mem hk)
 obtain⟨kd,tx,nn,ka,kc,keys,da,dc,kids⟩:=d
 simp only at hkd hkids
 subst hkids
 simp only[ndC,List.getElem?_cons_zero,List.getElem?_cons_succ,Nat.add_zero]at c0 c1 c2 c3 c4
 rw[hna]at kb
 have hk0:(0:Int)≤(k:Int):=by omega
 have hk1:(k:Int)<(x.nodes.length:Int):=by omega
 have hkl:(K.map (fun n:Nat=>(n:Int))).length=K.length:=by simp
 rw[hkl]at c4
 have A1:=LH (fun w' (hc:Chg [] w w')=>all_any (dc:=dc) hl hN (by(try simp only[List.length_append]at hI100);omega) (HI.out.keptN hc) (hkl▸hdi.2.1) (by have h1:=hdi.2.2.1;have h2:=hdi.2.2.2.1;rw[hkl]at h1;omega))
 have UN:=LH (show w.heap.size∉f from fun e=>by have:=HI.out.lt _ e;omega)
 clear cc h1 hd hN hdi he hx hk
 subst hkd
 go_enter Tryz.func90,Tryz.ntmps90
 go_wp2_with fail
 refine(A1.out _ ((Chg.refl [] w).alloc _)).mono ?_;rintro e w2 ⟨rfl,f2,hp2,ht2⟩
 have X2:=LH (ht2.at UN.out (heap_alloc_new w (.cells #[.int .i64 19, .string tx, .int .i64 nn, .slice ka keys.length kc, .slice da K.length dc] 297))).1
 have P2:=LH hp2
 have T2:=LH (((Tr.refl f w).same ((Chg.refl [] w).alloc _)).trans ht2)
 have k2:=blk_cell X2.out
 have l2:=lt_of_heap X2.out
 clear hp2 ht2
 go_wp2_with fail
 refine(wlast_blk w2 b).mono ?_;rintro e w3 ⟨rfl,hc3⟩
 have D3:=LH hc3
 clear hc3
 go_wp2_with fail
 go_end0
 exact⟨rfl,f2,P2.out.keptN (D3.out.alloc _),T2.out.same (D3.out.alloc _)⟩
theorem node_ret (hx:PrIn W0 x) {k:Nat} {d:Nd} (hd:x.nodes[k]? =some d) {K:List Nat} {Js:List (List In)} (hkids:d.kids=K.map (fun n:Nat=>(n:Int))) (hkd:d.kind=17) (hl:Js.length=K.length) (hN:∀i (h:i<K.length),NodC W0 b x sa sc SL K[i] (Js[i]'(by omega))):NodC W0 b x sa sc SL k (Js.flatten++[⟨20,0,⟨#[]⟩⟩]):=by
 intro I f w hI100 h
 have hmf:∀(fn:Fn) (first cap:Array Value) (w:World),(Instr.makeFunc fn first cap).run Tryz.prog w= .ok (.func fn first cap) w:=fun _ _ _ _=>rfl
 have HI:=LH h
 obtain⟨v,h1, -⟩:=h
 obtain⟨hk,he⟩:=List.getElem?_eq_some_iff.1 hd
 have kb:=blk_cell h1.blk
 have lb:=lt_of_heap h1.blk
 unfold nvOf fvOf at kb
 obtain⟨nb,no,hna, -,gn,cc⟩:=hx.1.1.1.elem h1.chg k hk
 have c0:=cc 0 (by omega)
 have c1:=cc 1 (by omega)
 have c2:=cc 2 (by omega)
 have c3:=cc 3 (by omega)
 have c4:=cc 4 (by omega)
 rw[he]at c0 c1 c2 c3 c4
 have hdi:=hx.1.2 d (he▸List.getElem_mem hk)
 obtain⟨kd,tx,nn,ka,kc,keys,da,dc,kids⟩:=d
 simp only at hkd hkids
 subst hkids
 simp only[ndC,List.getElem?_cons_zero,List.getElem?_cons_succ,Nat.add_zero]at c0 c1 c2 c3 c4
 rw[hna]at kb
 have hk0:(0:Int)≤(k:Int):=by omega
 have hk1:(k:Int)<(x.nodes.length:Int):=by omega
 have hkl:(K.map (fun n:Nat=>(n:Int))).length=K.length:=by simp
 rw[hkl]at c4
 have A1:=LH (fun w' (hc:Chg [] w w')=>all_any (dc:=dc) hl hN (by(try simp only[List.length_append]at hI100);omega) (HI.out.keptN hc) (hkl▸hdi.2.1) (by have h1:=hdi.2.2.1;have h2:=hdi.2.2.2.1;rw[hkl]at h1;omega))
 have UN:=LH (show w.heap.size∉f from fun e=>by have:=HI.out.lt _ e;omega)
 clear cc h1 hd hN hdi he hx hk
 subst hkd
 go_enter Tryz.func90,Tryz.ntmps90
 go_wp2_with fail
 refine(A1.out _ ((Chg.refl [] w).alloc _)).mono ?_;rintro e w2 ⟨rfl,f2,hp2,ht2⟩
 have X2:=LH (ht2.at UN.out (heap_alloc_new w (.cells #[.int .i64 17, .string tx, .int .i64 nn, .slice ka keys.length kc, .slice da K.length dc] 297))).1
 have P2:=LH hp2
 have T2:=LH (((Tr.refl f w).same ((Chg.refl [] w).alloc _)).trans ht2)
 have k2:=blk_cell X2.out
 have l2:=lt_of_heap X2.out
 clear hp2 ht2
 go_wp2_with fail
 refine(wlast_ret w2 b).mono ?_;rintro e w3 ⟨rfl,hc3⟩
 have D3:=LH hc3
 have P3:=LH (P2.out.keptN hc3)
 have C3:=LH (Chg.refl [] w3)
 clear hc3
 go_wp2_with fail
 refine(wadd_any (P3.out.keptN ((C3.out.alloc _).alloc _)) (alloc2_at w3 _ _) (L:=[⟨20,0,⟨#[]⟩⟩]) rfl rfl (by simp) (by simp) (by simp only[List.length_append]at hI100⊢;omega)).mono ?_;rintro e w4 ⟨rfl,f4,hp4,ht4⟩
 have P4:=LH hp4
 have T4:=LH ((T2.out.same (D3.out.thenSame ((C3.out.alloc _).alloc _))).trans ht4)
 clear hp4 ht4
 go_wp2_with fail
 go_end0
 exact⟨rfl,f4,by rw[←List.append_assoc];exact P4.out,T4.out⟩
theorem node_var (hS:SlIs icI 1 W0 sa SL.length SL) (hx:PrIn W0 x) {k:Nat} {d:Nd} (hd:x.nodes[k]? =some d) {K:List Nat} {Js:List (List In)} (hkids:d.kids=K.map (fun n:Nat=>(n:Int))) (hkd:d.kind=5) {z:Int} (hz:SL[k]? =some z) (hl:Js.length=K.length) (hN:∀i (h:i<K.length),NodC W0 b x sa sc SL K[i] (Js[i]'(by omega))):NodC W0 b x sa sc SL k (Js.flatten++[⟨5,z,⟨#[]⟩⟩]):=by
 intro I f w hI100 h
 have hmf:∀(fn:Fn) (first cap:Array Value) (w:World),(Instr.makeFunc fn first cap).run Tryz.prog w= .ok (.func fn first cap) w:=fun _ _ _ _=>rfl
 have HI:=LH h
 obtain⟨v,h1, -⟩:=h
 obtain⟨hk,he⟩:=List.getElem?_eq_some_iff.1 hd
 have kb:=blk_cell h1.blk
 have lb:=lt_of_heap h1.blk
 unfold nvOf fvOf at kb
 obtain⟨nb,no,hna, -,gn,cc⟩:=hx.1.1.1.elem h1.chg k hk
 have c0:=cc 0 (by omega)
 have c1:=cc 1 (by omega)
 have c2:=cc 2 (by omega)
 have c3:=cc 3 (by omega)
 have c4:=cc 4 (by omega)
 rw[he]at c0 c1 c2 c3 c4
 have hdi:=hx.1.2 d (he▸List.getElem_mem hk)
 obtain⟨kd,tx,nn,ka,kc,keys,da,dc,kids⟩:=d
 simp only at hkd hkids
 subst hkids
 simp only[ndC,List.getElem?_cons_zero,List.getElem?_cons_succ,Nat.add_zero]at c0 c1 c2 c3 c4
 rw[hna]at kb
 have hk0:(0:Int)≤(k:Int):=by omega
 have hk1:(k:Int)<(x.nodes.length:Int):=by omega
 have hkl:(K.map (fun n:Nat=>(n:Int))).length=K.length:=by simp
 rw[hkl]at c4
 have A1:=LH (fun w' (hc:Chg [] w w')=>all_any (dc:=dc) hl hN (by(try simp only[List.length_append]at hI100);omega) (HI.out.keptN hc) (hkl▸hdi.2.1) (by have h1:=hdi.2.2.1;have h2:=hdi.2.2.2.1;rw[hkl]at h1;omega))
 have UN:=LH (show w.heap.size∉f from fun e=>by have:=HI.out.lt _ e;omega)
 clear cc h1 hd hN hdi he hx hk
 subst hkd
 go_enter Tryz.func90,Tryz.ntmps90
 go_wp2_with fail
 refine(A1.out _ ((Chg.refl [] w).alloc _)).mono ?_;rintro e w2 ⟨rfl,f2,hp2,ht2⟩
 have X2:=LH (ht2.at UN.out (heap_alloc_new w (.cells #[.int .i64 5, .string tx, .int .i64 nn, .slice ka keys.length kc, .slice da K.length dc] 297))).1
 have P2:=LH hp2
 have T2:=LH (((Tr.refl f w).same ((Chg.refl [] w).alloc _)).trans ht2)
 have k2:=blk_cell X2.out
 have l2:=lt_of_heap X2.out
 clear hp2 ht2
 go_wp2_with fail
 refine(wlast_var P2.out hS hz).mono ?_;rintro e w3 ⟨rfl,hc3⟩
 have D3:=LH hc3
 have P3:=LH (P2.out.keptN hc3)
 have C3:=LH (Chg.refl [] w3)
 clear hc3
 go_wp2_with fail
 refine(wadd_any (P3.out.keptN ((C3.out.alloc _).alloc _)) (alloc2_at w3 _ _) (L:=[⟨5,z,⟨#[]⟩⟩]) rfl rfl (by simp) (by simp) (by simp only[List.length_append]at hI100⊢;omega)).mono ?_;rintro e w4 ⟨rfl,f4,hp4,ht4⟩
 have P4:=LH hp4
 have T4:=LH ((T2.out.same (D3.out.thenSame ((C3.out.alloc _).alloc _))).trans ht4)
 clear hp4 ht4
 go_wp2_with fail
 go_end0
 exact⟨rfl,f4,by rw[←List.append_assoc];exact P4.out,T4.out⟩
theorem node_bin (hx:PrIn W0 x) {k:Nat} {d:Nd} (hd:x.nodes[k]? =some d) {K:List Nat} {Js:List (List In)} (hkids:d.kids=K.map (fun n:Nat=>(n:Int))) (hkd:d.kind=9) {op:ByteArray} (htx:d.text=op) (h1':op≠⟨#[97,110,100]⟩) (h2':op≠⟨#[111,114]⟩) (hl:Js.length=K.length) (hN:∀i (h:i<K.length),NodC W0 b x sa sc SL K[i] (Js[i]'(by omega))):NodC W0 b x sa sc SL k (Js.flatten++[⟨9,0,op⟩]):=by
 have q1:=ne_list [97,110,100] h1'
 have q2:=ne_list [111,114] h2'
 clear h1' h2'
 intro I f w hI100 h
 have hmf:∀(fn:Fn) (first cap:Array Value) (w:World),(Instr.makeFunc fn first cap).run Tryz.prog w= .ok (.func fn first cap) w:=fun _ _ _ _=>rfl
 have HI:=LH h
 obtain⟨v,h1, -⟩:=h
 obtain⟨hk,he⟩:=List.getElem?_eq_some_iff.1 hd
 have kb:=blk_cell h1.blk
 have lb:=lt_of_heap h1.blk
 unfold nvOf fvOf at kb
 obtain⟨nb,no,hna, -,gn,cc⟩:=hx.1.1.1.elem h1.chg k hk
 have c0:=cc 0 (by omega)
 have c1:=cc 1 (by omega)
 have c2:=cc 2 (by omega)
 have c3:=cc 3 (by omega)
 have c4:=cc 4 (by omega)
 rw[he]at c0 c1 c2 c3 c4
 have hdi:=hx.1.2 d (he▸List.getElem_mem hk)
 obtain⟨kd,tx,nn,ka,kc,keys,da,dc,kids⟩:=d
 simp only at hkd hkids
 subst hkids
 simp only[ndC,List.getElem?_cons_zero,List.getElem?_cons_succ,Nat.add_zero]at c0 c1 c2 c3 c4
 rw[hna]at kb
 have hk0:(0:Int)≤(k:Int):=by omega
 have hk1:(k:Int)<(x.nodes.length:Int):=by omega
 have hkl:(K.map (fun n:Nat=>(n:Int))).length=K.length:=by simp
 rw[hkl]at c4
 have A1:=LH (fun w' (hc:Chg [] w w')=>all_any (dc:=dc) hl hN (by(try simp only[List.length_append]at hI100);omega) (HI.out.keptN hc) (hkl▸hdi.2.1) (by have h1:=hdi.2.2.1;have h2:=hdi.2.2.2.1;rw[hkl]at h1;omega))
 have UN:=LH (show w.heap.size∉f from fun e=>by have:=HI.out.lt _ e;omega)
 clear cc h1 hd hN hdi he hx hk
 simp only at htx
 subst htx
 subst hkd
 go_enter Tryz.func90,Tryz.ntmps90
 go_wp2_with fail
 refine(A1.out _ ((Chg.refl [] w).alloc _)).mono ?_;rintro e w2 ⟨rfl,f2,hp2,ht2⟩
 have X2:=LH (ht2.at UN.out (heap_alloc_new w (.cells #[.int .i64 9, .string tx, .int .i64 nn, .slice ka keys.length kc, .slice da K.length dc] 297))).1
 have P2:=LH hp2
 have T2:=LH (((Tr.refl f w).same ((Chg.refl [] w).alloc _)).trans ht2)
 have k2:=blk_cell X2.out
 have l2:=lt_of_heap X2.out
 clear hp2 ht2
 go_wp2_with fail
 refine(wadd_any (P2.out.keptN ((Chg.refl [] w2).alloc _)) (heap_alloc_new w2 _) (L:=[⟨9,0,tx⟩]) rfl rfl (by simp) (by simp) (by simp only[List.length_append]at hI100⊢;omega)).mono ?_;rintro e w4 ⟨rfl,f4,hp4,ht4⟩
 have P4:=LH hp4
 have T4:=LH ((T2.out.same ((Chg.refl [] w2).alloc _)).trans ht4)
 clear hp4 ht4
 go_wp2_with fail
 go_end0
 exact⟨rfl,f4,by rw[←List.append_assoc];exact P4.out,T4.out⟩
end
section
open Go.RowKit
variable {W0 w w':World} {b:Nat} {x:Pr} {sa:Option Addr} {sc:Nat} {SL:List Int} {I J:List In} {v:Value} {f f':List Nat}
theorem nodes_at (h:x.p=dP) {k:Nat} {p:PNd} (hp:dN[k]? =some p):∃d,x.nodes[k]? =some d∧d.p=p:=by
 have h1:x.nodes.map Nd.p=dN:=congrArg PPr.nodes h
 rw[←h1,List.getElem?_map]at hp
 cases e:x.nodes[k]? with
 |none=>rw[e]at hp;cases hp
 |some d=>rw[e]at hp;exact⟨d,rfl,by simpa using hp⟩
def dSl:List Int:=[0,0, -1, -1, -1]
def dIns:List In:=[⟨5,0,⟨#[]⟩⟩,⟨5,0,⟨#[]⟩⟩,⟨9,0,⟨#[43]⟩⟩,⟨20,0,⟨#[]⟩⟩]
theorem node_dbl (hx:PrIn W0 x) (h:x.p=dP) (hS:SlIs icI 1 W0 sa 5 dSl):NodC W0 b x sa sc dSl 4 dIns:=by
 obtain⟨d0,e0,p0⟩:=nodes_at h (k:=0) rfl
 obtain⟨d1,e1,p1⟩:=nodes_at h (k:=1) rfl
 obtain⟨d2,e2,p2⟩:=nodes_at h (k:=2) rfl
 obtain⟨d3,e3,p3⟩:=nodes_at h (k:=3) rfl
 obtain⟨d4,e4,p4⟩:=nodes_at h (k:=4) rfl
 have n0:NodC W0 b x sa sc dSl 0 [⟨5,0,⟨#[]⟩⟩]:=node_var (K:=[]) (Js:=[]) hS hx e0 (congrArg PNd.kids p0) (congrArg PNd.kind p0) rfl rfl (fun i h=>by simp at h)
 have n1:NodC W0 b x sa sc dSl 1 [⟨5,0,⟨#[]⟩⟩]:=node_var (K:=[]) (Js:=[]) hS hx e1 (congrArg PNd.kids p1) (congrArg PNd.kind p1) rfl rfl (fun i h=>by simp at h)
 have n2:NodC W0 b x sa sc dSl 2 [⟨5,0,⟨#[]⟩⟩,⟨5,0,⟨#[]⟩⟩,⟨9,0,⟨#[43]⟩⟩]:=node_bin (K:=[0,1]) (Js:=[[⟨5,0,⟨#[]⟩⟩],[⟨5,0,⟨#[]⟩⟩]]) hx e2 (congrArg PNd.kids p2) (congrArg PNd.kind p2) (op:=⟨#[43]⟩) (congrArg PNd.text p2) (by decide) (by decide) rfl (fun i h=>by
  match i,h with
  |0,_=>exact n0
  |1,_=>exact n1)
 have n3:NodC W0 b x sa sc dSl 3 dIns:=node_ret (K:=[2]) (Js:=[[⟨5,0,⟨#[]⟩⟩,⟨5,0,⟨#[]⟩⟩,⟨9,0,⟨#[43]⟩⟩]]) hx e3 (congrArg PNd.kids p3) (congrArg PNd.kind p3) rfl (fun i h=>by
  match i,h with
  |0,_=>exact n2)
 exact node_blk (K:=[3]) (Js:=[dIns]) hx e4 (congrArg PNd.kids p4) (congrArg PNd.kind p4) rfl (fun i h=>by
  match i,h with
  |0,_=>exact n3)
theorem study_dP:studyZ dP=(dSl,[1],0,0):=by decide+kernel
def dAll:List In:=dIns++[⟨1,0,⟨#[]⟩⟩,⟨20,0,⟨#[]⟩⟩]
theorem where_any (h:WrJ W0 b x sa sc SL I f w) (hI:I.length≤900):Calls Tryz.prog 33 #[.pointer (some ⟨b,0,none⟩)] w fun e w'=>e= .returned (.int .i64 I.length)∧Chg [] w w':=by
 obtain⟨v,h1, -⟩:=h
 obtain⟨va,vc,rfl⟩:=RowOf.shape h1.ins
 have k1:=blk_cell h1.blk
 have l1:=lt_of_heap h1.blk
 have hI2:(I.length:Int)≤900:=by omega
 have hw:IntKind.i64.wrap (I.length:Int)=(I.length:Int):=by rw[IntKind.wrap_i64];omega
 clear h1
 go_enter Tryz.func33,Tryz.ntmps33
 go_wp2_with fail
 go_quiet (fail)
 go_wp2_with fail
 go_ret
 exact⟨by simp[hw],(Chg.refl _ _).drewN _⟩
theorem func_dbl (hx:PrIn W0 x) (hp:x.p=dP) (hS:SlIs icI 1 W0 sa 5 dSl) (h:WrJ W0 b x sa sc dSl [] f w):Calls Tryz.prog 34 #[.pointer (some ⟨b,0,none⟩), .int .i64 0] w fun e w'=>e= .returned (.tuple #[])∧∃f',WrJ W0 b x sa sc dSl dAll f' w'∧Tr f w f' w':=by
 have A1:=LH (node_dbl (b:=b) (sc:=sc) hx hp hS [] f w (by decide) h)
 obtain⟨v,h1, -⟩:=h
 obtain⟨d,e0,p0⟩:∃d,x.funcs[0]? =some d∧d.p=⟨dMain,[dE],4⟩:=by
  have h1:x.funcs.map Fn'.p=[⟨dMain,[dE],4⟩]:=congrArg PPr.funcs hp
  cases e:x.funcs with
  |nil=>rw[e]at h1;cases h1
  |cons d l=>rw[e]at h1;simp at h1;exact⟨d,rfl,h1.1⟩
 obtain⟨hk,he⟩:=List.getElem?_eq_some_iff.1 e0
 have hb:d.body=4:=congrArg PFn.body p0
 obtain⟨nb,no,hna, -,gn,cc⟩:=hx.2.1.1.elem h1.chg 0 hk
 have c2:=cc 2 (by omega)
 rw[he]at c2
 simp only[fnC,List.getElem?_cons_zero,List.getElem?_cons_succ,Nat.add_zero,Nat.zero_mul,hb]at c2
 have kb:=blk_cell h1.blk
 have lb:=lt_of_heap h1.blk
 unfold nvOf fvOf at kb
 rw[hna]at kb
 have hk1:(0:Int)<(x.funcs.length:Int):=by omega
 clear cc h1 e0 he p0 hb hx hk hp
 go_enter Tryz.func34,Tryz.ntmps34
 go_wp2_with fail
 refine A1.out.mono ?_;rintro e w2 ⟨rfl,f2,hp2,ht2⟩
 have P2:=LH hp2
 have T2:=LH ht2
 clear hp2 ht2
 go_wp2_with fail
 refine(wadd_any (P2.out.keptN ((Chg.refl [] w2).alloc _)) (heap_alloc_new w2 _) (L:=[⟨1,0,⟨#[]⟩⟩,⟨20,0,⟨#[]⟩⟩]) rfl rfl (by decide) (by decide) (by decide)).mono ?_;rintro e w4 ⟨rfl,f4,hp4,ht4⟩
 have P4:=LH hp4
 have T4:=LH ((T2.out.same ((Chg.refl [] w2).alloc _)).trans ht4)
 clear hp4 ht4
 go_wp2_with fail
 go_end0
 exact⟨rfl,f4,P4.out,T4.out⟩
end
section
open Go.RowKit
def shRow:Nat→List Value
 |1=>[.string ⟨#[110,117,108,108]⟩, .bool false, .bool false, .bool false, .int .i64 0, .int .i64 1]
 |5=>[.string ⟨#[108,111,97,100]⟩, .bool true, .bool false, .bool false, .int .i64 0, .int .i64 1]
 |9=>[.string ⟨#[98,105,110,97,114,121]⟩, .bool false, .bool true, .bool false, .int .i64 2, .int .i64 1]
 |20=>[.string ⟨#[114,101,116,117,114,110]⟩, .bool false, .bool false, .bool false, .int .i64 1, .int .i64 0]
 |_=>[]
def ShW (w:World):Prop:=0<w.heap.size∧∀o,(o=1∨o=5∨o=9∨o=20)→∀j,j<6→w.cell? ⟨0,o*6+j,none⟩=(shRow o)[j]?
theorem ShW.kept {w w':World} (h:ShW w) (hc:Chg [] w w'):ShW w':=
 ⟨hc.lt h.1,fun o ho j hj=>(World.cell?_of_block (w:=w) (hc.block 0 h.1 (by simp))).trans (h.2 o ho j hj)⟩
theorem cname_main (w:World):Calls Tryz.prog 233 #[.string dMain] w fun e w'=>e= .returned (.bool true)∧Chg [] w w':=by
 have A1:=LH (mTokens w)
 obtain⟨s,hs⟩:∃s,s=dMain:=⟨_,rfl⟩
 rw[←hs]at A1⊢
 clear hs
 go_enter Tryz.func233,Tryz.ntmps233
 go_wp2_with fail
 refine A1.out.mono ?_;rintro e w2 ⟨a,c,rfl,hr2,hc2⟩
 obtain⟨g,o,rfl, -,g1,cc⟩:=(RowOf.sl hr2 tkC_len).1.elem (Chg.refl _ _) 0 (by simp)
 have c0:=cc 0 (by omega)
 have c1:=cc 1 (by omega)
 simp only[tkC,gCZ,List.getElem?_cons_zero,List.getElem?_cons_succ,Nat.add_zero,Nat.zero_mul]at c0 c1
 have C2:=LH hc2
 clear hr2 hc2 cc
 go_wp2_with fail
 go_ret
 exact⟨by simp,C2.out⟩
theorem contB {w:World} {g n:Nat} {cur:Array Value} {L:List ByteArray} (s:ByteArray) (hg:w.heap[g]? =some (.cells cur 9 (0,0))) (hl:cur.toList=L.flatMap skC) (hn:L.length=n) (hm:n≤100):Calls Tryz.prog 228 #[.slice (some ⟨g,0,none⟩) n n, .string s] w fun e w'=>e= .returned (.bool (L.any (fun x=>s==x)))∧w=w':=by
 subst hn
 exact scont_w s (InIs.ofRow (row_blk (base:=0) L (Nat.zero_le _) hg skC_len hl (by unfold maxLen;omega)) skC_len).2
theorem alloc4_at (w:World) (o1 o2 o3 o4:Obj):((((w.alloc o1).alloc o2).alloc o3).alloc o4).heap[w.heap.size+1+1+1]? =some o4:=by
 have h:=heap_alloc_new (((w.alloc o1).alloc o2).alloc o3) o4
 rwa[World.size_alloc,World.size_alloc,World.size_alloc]at h
theorem in_any (n lo hi:Int) (w:World):Calls Tryz.prog 234 #[.int .i64 n, .int .i64 lo, .int .i64 hi] w fun e w'=>e= .returned (.bool (decide (lo≤n)&&decide (n≤hi)))∧w'=w:=by
 by_cases h:lo≤n
 ·rw[decide_eq_true h,Bool.true_and]
  go_enter Tryz.func234,Tryz.ntmps234
  go_wp2_with fail
  go_ret
  exact⟨rfl,rfl⟩
 ·have h':n<lo:=by omega
  rw[decide_eq_false h,Bool.false_and]
  clear h
  go_enter Tryz.func234,Tryz.ntmps234
  go_wp2_with fail
  go_ret
  exact⟨rfl,rfl⟩
theorem known_yes (o:Int) (h1:1≤o) (h2:o≤20) (w:World):Calls Tryz.prog 235 #[.int .i64 o] w fun e w'=>e= .returned (.bool true)∧w'=w:=by
 go_enter Tryz.func235,Tryz.ntmps235
 go_wp2_with fail
 go_ret
 exact⟨by simp[h1,h2],rfl⟩
theorem opd_null (fa ia:Option Addr) (fc ic:Nat) (w:World):Calls Tryz.prog 236 #[.agg #[.slice fa 1 fc, .slice ia 6 ic], .agg #[.string dMain, .int .i64 1, .int .i64 1, .int .i64 0, .int .i64 6], .agg #[.int .i64 1, .int .i64 0, .string ⟨#[]⟩, .slice none 0 0]] w fun e w'=>e= .returned (.bool true)∧Chg [] w w':=by
 generalize dMain=s
 go_enter Tryz.func236,Tryz.ntmps236
 go_wp2_with fail
 go_ret
 exact⟨rfl,(((Chg.refl _ _).alloc _).alloc _).alloc _⟩
theorem opd_ret (fa ia:Option Addr) (fc ic:Nat) (w:World):Calls Tryz.prog 236 #[.agg #[.slice fa 1 fc, .slice ia 6 ic], .agg #[.string dMain, .int .i64 1, .int .i64 1, .int .i64 0, .int .i64 6], .agg #[.int .i64 20, .int .i64 0, .string ⟨#[]⟩, .slice none 0 0]] w fun e w'=>e= .returned (.bool true)∧Chg [] w w':=by
 generalize dMain=s
 go_enter Tryz.func236,Tryz.ntmps236
 go_wp2_with fail
 go_ret
 exact⟨rfl,(((Chg.refl _ _).alloc _).alloc _).alloc _⟩
theorem opd_load (fa ia:Option Addr) (fc ic:Nat) (w:World):Calls Tryz.prog 236 #[.agg #[.slice fa 1 fc, .slice ia 6 ic], .agg #[.string dMain, .int .i64 1, .int .i64 1, .int .i64 0, .int .i64 6], .agg #[.int .i64 5, .int .i64 0, .string ⟨#[]⟩, .slice none 0 0]] w fun e w'=>e= .returned (.bool true)∧Chg [] w w':=by
 generalize dMain=s
 have A:=LH (fun w'=>in_any 0 0 0 w')
 go_enter Tryz.func236,Tryz.ntmps236
 go_wp2_with (go_at_call 234;(with_reducible refine Calls.mono (A.out _) ?_);rintro e w2 ⟨rfl,rfl⟩)
 go_ret
 exact⟨by simp,(((Chg.refl _ _).alloc _).alloc _).alloc _⟩
theorem opd_bin (fa ia:Option Addr) (fc ic:Nat) (w:World):Calls Tryz.prog 236 #[.agg #[.slice fa 1 fc, .slice ia 6 ic], .agg #[.string dMain, .int .i64 1, .int .i64 1, .int .i64 0, .int .i64 6], .agg #[.int .i64 9, .int .i64 0, .string ⟨#[43]⟩, .slice none 0 0]] w fun e w'=>e= .returned (.bool true)∧Chg [] w w':=by
 generalize dMain=s
 go_enter Tryz.func236,Tryz.ntmps236
 go_wp2_with fail
 refine(contB ⟨#[43]⟩ (alloc4_at w _ _ _ _) (L:=[⟨#[43]⟩,⟨#[45]⟩,⟨#[42]⟩,⟨#[47]⟩,⟨#[37]⟩,⟨#[61,61]⟩,⟨#[33,61]⟩,⟨#[60]⟩,⟨#[60,61]⟩,⟨#[62]⟩,⟨#[62,61]⟩]) (by simp[skC]) rfl (by decide)).mono ?_;rintro e w2 ⟨rfl,rfl⟩
 go_wp2_with fail
 go_ret
 exact⟨by kernel_rfl,((((Chg.refl _ _).alloc _).alloc _).alloc _).alloc _⟩
theorem form_null (fa ia:Option Addr) (fc ic:Nat) (w:World) (h:ShW w):Calls Tryz.prog 159 #[.agg #[.slice fa 1 fc, .slice ia 6 ic], .agg #[.string dMain, .int .i64 1, .int .i64 1, .int .i64 0, .int .i64 6], .agg #[.int .i64 1, .int .i64 0, .string ⟨#[]⟩, .slice none 0 0]] w fun e w'=>e= .returned (.bool true)∧Chg [] w w':=by
 have A1:=LH (fun w'=>known_yes 1 (by decide) (by decide) w')
 have A2:=LH (fun w'=>opd_null fa ia fc ic w')
 have s0:=h.2 1 (by simp) 0 (by decide)
 have s1:=h.2 1 (by simp) 1 (by decide)
 have s2:=h.2 1 (by simp) 2 (by decide)
 have s3:=h.2 1 (by simp) 3 (by decide)
 have s4:=h.2 1 (by simp) 4 (by decide)
 have s5:=h.2 1 (by simp) 5 (by decide)
 have l0:=h.1
 simp only[shRow,List.getElem?_cons_zero,List.getElem?_cons_succ,Nat.add_zero,Nat.reduceMul,Nat.reduceAdd]at s0 s1 s2 s3 s4 s5
 generalize dMain=s at*
 clear h
 go_enter Tryz.func159,Tryz.ntmps159
 go_wp2_with (first|(go_at_call 235;(with_reducible refine Calls.mono (A1.out _) ?_);rintro e w2 ⟨rfl,rfl⟩)|(go_at_call 236;(with_reducible refine Calls.mono (A2.out _) ?_);rintro e w3 ⟨rfl,hc3⟩))
 go_ret
 exact⟨rfl,((((((Chg.refl _ _).alloc _).alloc _).alloc _).alloc _)).thenSame hc3⟩
theorem form_load (fa ia:Option Addr) (fc ic:Nat) (w:World) (h:ShW w):Calls Tryz.prog 159 #[.agg #[.slice fa 1 fc, .slice ia 6 ic], .agg #[.string dMain, .int .i64 1, .int .i64 1, .int .i64 0, .int .i64 6], .agg #[.int .i64 5, .int .i64 0, .string ⟨#[]⟩, .slice none 0 0]] w fun e w'=>e= .returned (.bool true)∧Chg [] w w':=by
 have A1:=LH (fun w'=>known_yes 5 (by decide) (by decide) w')
 have A2:=LH (fun w'=>opd_load fa ia fc ic w')
 have s0:=h.2 5 (by simp) 0 (by decide)
 have s1:=h.2 5 (by simp) 1 (by decide)
 have s2:=h.2 5 (by simp) 2 (by decide)
 have s3:=h.2 5 (by simp) 3 (by decide)
 have s4:=h.2 5 (by simp) 4 (by decide)
 have s5:=h.2 5 (by simp) 5 (by decide)
 have l0:=h.1
 simp only[shRow,List.getElem?_cons_zero,List.getElem?_cons_succ,Nat.add_zero,Nat.reduceMul,Nat.reduceAdd]at s0 s1 s2 s3 s4 s5
 generalize dMain=s at*
 clear h
 go_enter Tryz.func159,Tryz.ntmps159
 go_wp2_with (first|(go_at_call 235;(with_reducible refine Calls.mono (A1.out _) ?_);rintro e w2 ⟨rfl,rfl⟩)|(go_at_call 236;(with_reducible refine Calls.mono (A2.out _) ?_);rintro e w3 ⟨rfl,hc3⟩))
 go_ret
 exact⟨rfl,((((((Chg.refl _ _).alloc _).alloc _).alloc _).alloc _)).thenSame hc3⟩
theorem form_bin (fa ia:Option Addr) (fc ic:Nat) (w:World) (h:ShW w):Calls Tryz.prog 159 #[.agg #[.slice fa 1 fc, .slice ia 6 ic], .agg #[.string dMain, .int .i64 1, .int .i64 1, .int .i64 0, .int .i64 6], .agg #[.int .i64 9, .int .i64 0, .string ⟨#[43]⟩, .slice none 0 0]] w fun e w'=>e= .returned (.bool true)∧Chg [] w w':=by
 have A1:=LH (fun w'=>known_yes 9 (by decide) (by decide) w')
 have A2:=LH (fun w'=>opd_bin fa ia fc ic w')
 have s0:=h.2 9 (by simp) 0 (by decide)
 have s1:=h.2 9 (by simp) 1 (by decide)
 have s2:=h.2 9 (by simp) 2 (by decide)
 have s3:=h.2 9 (by simp) 3 (by decide)
 have s4:=h.2 9 (by simp) 4 (by decide)
 have s5:=h.2 9 (by simp) 5 (by decide)
 have l0:=h.1
 simp only[shRow,List.getElem?_cons_zero,List.getElem?_cons_succ,Nat.add_zero,Nat.reduceMul,Nat.reduceAdd]at s0 s1 s2 s3 s4 s5
 generalize dMain=s at*
 clear h
 go_enter Tryz.func159,Tryz.ntmps159
 go_wp2_with (first|(go_at_call 235;(with_reducible refine Calls.mono (A1.out _) ?_);rintro e w2 ⟨rfl,rfl⟩)|(go_at_call 236;(with_reducible refine Calls.mono (A2.out _) ?_);rintro e w3 ⟨rfl,hc3⟩))
 go_ret
 exact⟨rfl,((((((Chg.refl _ _).alloc _).alloc _).alloc _).alloc _)).thenSame hc3⟩
theorem form_ret (fa ia:Option Addr) (fc ic:Nat) (w:World) (h:ShW w):Calls Tryz.prog 159 #[.agg #[.slice fa 1 fc, .slice ia 6 ic], .agg #[.string dMain, .int .i64 1, .int .i64 1, .int .i64 0, .int .i64 6], .agg #[.int .i64 20, .int .i64 0, .string ⟨#[]⟩, .slice none 0 0]] w fun e w'=>e= .returned (.bool true)∧Chg [] w w':=by
 have A1:=LH (fun w'=>known_yes 20 (by decide) (by decide) w')
 have A2:=LH (fun w'=>opd_ret fa ia fc ic w')
 have s0:=h.2 20 (by simp) 0 (by decide)
 have s1:=h.2 20 (by simp) 1 (by decide)
 have s2:=h.2 20 (by simp) 2 (by decide)
 have s3:=h.2 20 (by simp) 3 (by decide)
 have s4:=h.2 20 (by simp) 4 (by decide)
 have s5:=h.2 20 (by simp) 5 (by decide)
 have l0:=h.1
 simp only[shRow,List.getElem?_cons_zero,List.getElem?_cons_succ,Nat.add_zero,Nat.reduceMul,Nat.reduceAdd]at s0 s1 s2 s3 s4 s5
 generalize dMain=s at*
 clear h
 go_enter Tryz.func159,Tryz.ntmps159
 go_wp2_with (first|(go_at_call 235;(with_reducible refine Calls.mono (A1.out _) ?_);rintro e w2 ⟨rfl,rfl⟩)|(go_at_call 236;(with_reducible refine Calls.mono (A2.out _) ?_);rintro e w3 ⟨rfl,hc3⟩))
 go_ret
 exact⟨rfl,((((((Chg.refl _ _).alloc _).alloc _).alloc _).alloc _)).thenSame hc3⟩
end
section
open Go.RowKit
theorem pops_load (fa ia:Option Addr) (fc ic:Nat) (w:World) (h:ShW w):Calls Tryz.prog 237 #[.agg #[.slice fa 1 fc, .slice ia 6 ic], .agg #[.int .i64 5, .int .i64 0, .string ⟨#[]⟩, .slice none 0 0]] w fun e w'=>e= .returned (.int .i64 0)∧Chg [] w w':=by
 have s4:=h.2 5 (by simp) 4 (by decide)
 have l0:=h.1
 simp only[shRow,List.getElem?_cons_zero,List.getElem?_cons_succ,Nat.add_zero,Nat.reduceMul,Nat.reduceAdd]at s4
 clear h
 go_enter Tryz.func237,Tryz.ntmps237
 go_wp2_with fail
 go_ret
 exact⟨rfl,((Chg.refl _ _).alloc _).alloc _⟩
theorem pops_bin (fa ia:Option Addr) (fc ic:Nat) (w:World) (h:ShW w):Calls Tryz.prog 237 #[.agg #[.slice fa 1 fc, .slice ia 6 ic], .agg #[.int .i64 9, .int .i64 0, .string ⟨#[43]⟩, .slice none 0 0]] w fun e w'=>e= .returned (.int .i64 2)∧Chg [] w w':=by
 have s4:=h.2 9 (by simp) 4 (by decide)
 have l0:=h.1
 simp only[shRow,List.getElem?_cons_zero,List.getElem?_cons_succ,Nat.add_zero,Nat.reduceMul,Nat.reduceAdd]at s4
 clear h
 go_enter Tryz.func237,Tryz.ntmps237
 go_wp2_with fail
 go_ret
 exact⟨rfl,((Chg.refl _ _).alloc _).alloc _⟩
theorem pops_ret (fa ia:Option Addr) (fc ic:Nat) (w:World) (h:ShW w):Calls Tryz.prog 237 #[.agg #[.slice fa 1 fc, .slice ia 6 ic], .agg #[.int .i64 20, .int .i64 0, .string ⟨#[]⟩, .slice none 0 0]] w fun e w'=>e= .returned (.int .i64 1)∧Chg [] w w':=by
 have s4:=h.2 20 (by simp) 4 (by decide)
 have l0:=h.1
 simp only[shRow,List.getElem?_cons_zero,List.getElem?_cons_succ,Nat.add_zero,Nat.reduceMul,Nat.reduceAdd]at s4
 clear h
 go_enter Tryz.func237,Tryz.ntmps237
 go_wp2_with fail
 go_ret
 exact⟨rfl,((Chg.refl _ _).alloc _).alloc _⟩
theorem succ_load (at':Nat) (hk:at'≤10) (w:World):Calls Tryz.prog 238 #[.agg #[.int .i64 5, .int .i64 0, .string ⟨#[]⟩, .slice none 0 0], .int .i64 at'] w fun e w'=>∃q,e= .returned (.slice (some ⟨q,0,none⟩) 1 1)∧Chg [] w w'∧w.heap.size≤q∧w'.heap[q]? =some (.cells #[.int .i64 ((at':Int)+1)] 3 (0,0)):=by
 have hw:IntKind.i64.wrap ((at':Int)+1)=(at':Int)+1:=by rw[IntKind.wrap_i64];omega
 go_enter Tryz.func238,Tryz.ntmps238
 go_wp2_with fail
 go_ret
 refine⟨_,rfl,(((Chg.refl _ _).alloc _).alloc _), ?_, ?_⟩
 ·first|omega|simp
 ·exact alloc2_at _ _ _
theorem succ_bin (at':Nat) (hk:at'≤10) (w:World):Calls Tryz.prog 238 #[.agg #[.int .i64 9, .int .i64 0, .string ⟨#[43]⟩, .slice none 0 0], .int .i64 at'] w fun e w'=>∃q,e= .returned (.slice (some ⟨q,0,none⟩) 1 1)∧Chg [] w w'∧w.heap.size≤q∧w'.heap[q]? =some (.cells #[.int .i64 ((at':Int)+1)] 3 (0,0)):=by
 have hw:IntKind.i64.wrap ((at':Int)+1)=(at':Int)+1:=by rw[IntKind.wrap_i64];omega
 go_enter Tryz.func238,Tryz.ntmps238
 go_wp2_with fail
 go_ret
 refine⟨_,rfl,(((Chg.refl _ _).alloc _).alloc _), ?_, ?_⟩
 ·first|omega|simp
 ·exact alloc2_at _ _ _
theorem succ_ret (at':Nat) (w:World):Calls Tryz.prog 238 #[.agg #[.int .i64 20, .int .i64 0, .string ⟨#[]⟩, .slice none 0 0], .int .i64 at'] w fun e w'=>e= .returned (.slice none 0 0)∧Chg [] w w':=by
 go_enter Tryz.func238,Tryz.ntmps238
 go_wp2_with fail
 go_ret
 exact⟨rfl,(Chg.refl _ _).alloc _⟩
end
section
open Go.RowKit
def cfL:List Value:=[.string dMain, .int .i64 1, .int .i64 1, .int .i64 0, .int .i64 6]
def cfC (_:Unit):List Value:=cfL
def ciL:List Value:=dAll.flatMap inC
structure CdAt (g o gi oi:Nat) (w:World):Prop where
 lf:g<w.heap.size
 li:gi<w.heap.size
 cf:∀j,j<5→w.cell? ⟨g,o+j,none⟩=cfL[j]?
 ci:∀j,j<24→w.cell? ⟨gi,oi+j,none⟩=ciL[j]?
theorem CdAt.kept {g o gi oi:Nat} {w w':World} (h:CdAt g o gi oi w) (hc:Chg [] w w'):CdAt g o gi oi w':=
 ⟨hc.lt h.lf,hc.lt h.li,fun j hj=>(World.cell?_of_block (w:=w) (hc.block g h.lf (by simp))).trans (h.cf j hj),fun j hj=>(World.cell?_of_block (w:=w) (hc.block gi h.li (by simp))).trans (h.ci j hj)⟩
variable {g o gi oi:Nat} {w:World}
theorem CdAt.cf0 (h:CdAt g o gi oi w):w.cell? ⟨g,o,none⟩=some (.string dMain):=h.cf 0 (by decide)
theorem CdAt.cf1 (h:CdAt g o gi oi w):w.cell? ⟨g,o+1,none⟩=some (.int .i64 1):=h.cf 1 (by decide)
theorem CdAt.cf2 (h:CdAt g o gi oi w):w.cell? ⟨g,o+2,none⟩=some (.int .i64 1):=h.cf 2 (by decide)
theorem CdAt.cf3 (h:CdAt g o gi oi w):w.cell? ⟨g,o+3,none⟩=some (.int .i64 0):=h.cf 3 (by decide)
theorem CdAt.cf4 (h:CdAt g o gi oi w):w.cell? ⟨g,o+4,none⟩=some (.int .i64 6):=h.cf 4 (by decide)
theorem find1_dbl (b:Nat) (w:World) (hb:w.cell? ⟨b,0,none⟩=some (.string dMain)) (hl:b<w.heap.size):Calls Tryz.prog 96 #[.agg #[.string dMain, .int .i64 1, .int .i64 1, .int .i64 0, .int .i64 6], .pointer (some ⟨b,0,none⟩)] w fun e w'=>e= .returned (.bool true)∧Chg [] w w':=by
 generalize dMain=s at*
 have e:(s.toList==s.toList)=true:=by simp
 go_enter Tryz.func96,Tryz.ntmps96
 go_wp2_with fail
 go_ret
 exact⟨by simp,(Chg.refl _ _).alloc _⟩
theorem cindex_dbl (h:CdAt g o gi oi w) (fc:Nat) (b:Nat) (hb:w.cell? ⟨b,0,none⟩=some (.string dMain)) (hl:b<w.heap.size):Calls Tryz.prog 95 #[.slice (some ⟨g,o,none⟩) 1 fc, .func (.func 96) #[] #[.pointer (some ⟨b,0,none⟩)]] w fun e w'=>e= .returned (.int .i64 0)∧Chg [] w w':=by
 have A:=LH (find1_dbl b w hb hl)
 have c0:=h.cf0
 have c1:=h.cf1
 have c2:=h.cf2
 have c3:=h.cf3
 have c4:=h.cf4
 have lf:=h.lf
 generalize dMain=s at*
 clear h hb
 go_enter Tryz.func95,Tryz.ntmps95
 go_wp2_with fail
 go_loopw [8] (fun u wr=>u= .int .i64 0∧wr=w) (fun u _=>0)
 case atStart=>exact⟨rfl,rfl⟩
 case round=>
  obtain⟨rfl,rfl⟩:=hrel
  go_wp2_with (first|(with_reducible refine Calls.mono A.out ?_);rintro e w2 ⟨rfl,hc2⟩)
  go_ret
  exact⟨rfl,hc2⟩
theorem cfind_dbl (h:CdAt g o gi oi w) (fc ic:Nat):Calls Tryz.prog 44 #[.agg #[.slice (some ⟨g,o,none⟩) 1 fc, .slice (some ⟨gi,oi,none⟩) 6 ic], .string dMain] w fun e w'=>e= .returned (.int .i64 0)∧Chg [] w w':=by
 have H:=LH h
 have lf:=h.lf
 clear h
 obtain⟨s,hs⟩:∃s,s=dMain:=⟨_,rfl⟩
 rw[←hs]
 have HS:=LH hs
 clear hs
 have A:=LH (cindex_dbl (H.out.kept (((Chg.refl [] w).alloc (.cells #[.slice (some ⟨g,o,none⟩) 1 fc, .slice (some ⟨gi,oi,none⟩) 6 ic] 35 (0,0))).alloc (.cells #[.string s] 9 (0,0)))) fc (w.heap.size+1) (by rw[←HS.out];exact blk_cell (alloc2_at _ _ _) (i:=0)) (by simp only[World.size_alloc];omega))
 go_enter Tryz.func44,Tryz.ntmps44
 go_wp2_with (first|(go_at_call 95;(with_reducible refine Calls.mono A.out ?_);rintro e w2 ⟨rfl,hc2⟩))
 go_ret
 exact⟨rfl,(((Chg.refl _ _).alloc _).alloc _).thenSame hc2⟩
end
section
open Go.RowKit
variable {g o gi oi:Nat} {w:World}
theorem in_yes (n lo hi:Int) (h:(decide (lo≤n)&&decide (n≤hi))=true) (w:World):Calls Tryz.prog 234 #[.int .i64 n, .int .i64 lo, .int .i64 hi] w fun e w'=>e= .returned (.bool true)∧w'=w:=by
 have:=in_any n lo hi w
 rwa[h]at this
theorem cfuncs_dbl (h:CdAt g o gi oi w) (fc ic:Nat):Calls Tryz.prog 158 #[.agg #[.slice (some ⟨g,o,none⟩) 1 fc, .slice (some ⟨gi,oi,none⟩) 6 ic]] w fun e w'=>e= .returned (.tuple #[.int .i64 0, .int .i64 0])∧Chg [] w w':=by
 have H:=LH h
 have lf:=h.lf
 have A2:=LH (fun(w':World) (hc:Chg [] w w')=>cfind_dbl (h.kept hc) fc ic)
 have A3:=LH (fun w'=>in_yes 1 0 8 (by decide) w')
 have A4:=LH (fun w'=>in_yes 1 1 32 (by decide) w')
 have A1:=LH (fun w'=>cname_main w')
 clear h
 go_enter Tryz.func158,Tryz.ntmps158
 go_wp2_with fail
 go_loopw [4,10] (fun u v wr=>(u= .int .i64 0∧v= .int .i64 0∨u= .int .i64 6∧v= .int .i64 1)∧Hid (wr.heap[w.heap.size]? =some (.cells #[.slice (some ⟨g,o,none⟩) 1 fc, .slice (some ⟨gi,oi,none⟩) 6 ic] 35 (0,0)))∧Hid (Chg [] w wr)) (fun _ v _=>1-(intOf v).toNat)
 case atStart=>exact⟨Or.inl ⟨rfl,rfl⟩,LH (heap_alloc_new w _),LH ((Chg.refl _ _).alloc _)⟩
 case round=>
  obtain⟨hv,HB,HC⟩:=hrel
  have kb:=blk_cell HB.out
  have lb:=lt_of_heap HB.out
  rcases hv with ⟨rfl,rfl⟩|⟨rfl,rfl⟩
  ·have HR:=H.out.kept HC.out
   have c0:=HR.cf0
   have c1:=HR.cf1
   have c2:=HR.cf2
   have c3:=HR.cf3
   have c4:=HR.cf4
   have lf':=HR.lf
   clear HR
   generalize dMain=s at*
   go_wp2_with (first
    |(go_at_call 233;(with_reducible refine Calls.mono (A1.out _) ?_);rintro e w2 ⟨rfl,hc2⟩;have HC2:=LH (((HC.out.alloc _)).thenSame hc2);have HB2:=LH (hc2.at (by simp) (((Chg.refl [] _).alloc _).at (by simp) HB.out));have kb2:=blk_cell HB2.out;have lb2:=lt_of_heap HB2.out;have HF2:=LH (hc2.at (by simp) (heap_alloc_new _ _));have kf2:=blk_cell HF2.out;have lf2:=lt_of_heap HF2.out;clear hc2)
    |(go_at_call 44;(with_reducible refine Calls.mono (A2.out _ HC2.out) ?_);rintro e w3 ⟨rfl,hc3⟩;have HC3:=LH (HC2.out.thenSame hc3);have HB3:=LH (hc3.at (by simp) HB2.out);have kb3:=blk_cell HB3.out;have lb3:=lt_of_heap HB3.out;have HF3:=LH (hc3.at (by simp) HF2.out);have kf3:=blk_cell HF3.out;have lf3:=lt_of_heap HF3.out;clear hc3)
    |(go_at_call 234;(with_reducible refine Calls.mono (A3.out _) ?_);rintro e w4 ⟨rfl,rfl⟩)
    |(go_at_call 234;(with_reducible refine Calls.mono (A4.out _) ?_);rintro e w5 ⟨rfl,rfl⟩))
   exact⟨⟨Or.inr ⟨rfl,rfl⟩,HB3,HC3⟩,by simp[intOf]⟩
  ·go_wp2_with fail
   go_ret2
   exact⟨rfl,HC.out⟩
end
end Go.Proofs.YtmofknmeljdodaaGreatDoor
