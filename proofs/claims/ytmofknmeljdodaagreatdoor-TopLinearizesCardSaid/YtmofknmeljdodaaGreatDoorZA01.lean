/- Over any program: a slice of slices of the call's own, as a side. No condition but those that the statements name. -/
import Derived.Deep.DeepCutAuto
import Derived.Test.YtmofknmeljdodaaGreatDoorZS01
import Derived.Test.YtmofknmeljdodaaGreatDoorZS03
import Derived.Test.YtmofknmeljdodaaGreatDoorZS05
set_option maxHeartbeats 100000000
set_option maxRecDepth 100000
set_option linter.unusedVariables false
set_option linter.unusedSimpArgs false
open List renaming getElem_toArray→gTA,getElem_cons_zero→gCZ,getElem_cons_succ→gCS,setIfInBounds_toArray→sTA,set_cons_zero→sCZ,set_cons_succ→sCS
namespace Go.Proofs.YtmofknmeljdodaaGreatDoor
section
open Go.RowKit
structure Rr (α:Type) where
 a:Option Addr
 c:Nat
 L:List α
section
variable {α:Type} {cf:α→List Value} {sz:Nat} {te ts:TypeId} {w w':World} {g:Nat} {D:List (Rr α)} {f S:List Nat}
def Rr.v (d:Rr α):Value:= .slice d.a d.L.length d.c
def rrC (d:Rr α):List Value:=[.slice d.a d.L.length d.c]
theorem rrC_len (d:Rr α):(rrC d).length=1:=rfl
structure RrAt (cf:α→List Value) (sz:Nat) (ts te:TypeId) (w:World) (g:Nat) (D:List (Rr α)) (f:List Nat):Prop where
 row:RowOf rrC 1 w 0 ts (.slice (some ⟨g,0,none⟩) D.length D.length) D
 rows:∀d∈D,RowOf cf sz w 0 te d.v d.L
 apart:D.Pairwise (fun d d'=>∀x,d.v.ownBlock=some x→d'.v.ownBlock≠some x)
 out:∀d∈D,d.v.ownBlock≠some g
 ing:g∈f
 inr:∀d∈D,∀x,d.v.ownBlock=some x→x∈f
 lt:∀x∈f,x<w.heap.size
theorem RrAt.kept (h:RrAt cf sz ts te w g D f) (hc:Chg S w w') (hS:∀x∈f,x∉S):RrAt cf sz ts te w' g D f where
 row:=h.row.kept hc (fun y hy=>by cases hy;exact hS _ h.ing)
 rows:=fun d hd=>(h.rows d hd).kept hc (fun y hy=>hS _ (h.inr d hd y hy))
 apart:=h.apart
 out:=h.out
 ing:=h.ing
 inr:=h.inr
 lt:=fun x hx=>hc.lt (h.lt x hx)
theorem RrAt.cell (h:RrAt cf sz ts te w g D f) (k:Nat) (hk:k<D.length):w.cell? ⟨g,k,none⟩=some (.slice (D[k]).a (D[k]).L.length (D[k]).c):=by
 obtain⟨-, -, -,h4, -⟩:=RowOf.atS h.row rrC_len
 have:=h4 k hk 0 (by omega)
 simpa[rrC]using this
theorem RrAt.free (h:RrAt cf sz ts te w g D f):∀i,w.frozen? ⟨g,i,none⟩=false:=by
 obtain⟨-, -, -, -,h5, -⟩:=RowOf.atS h.row rrC_len
 exact h5
theorem RrAt.sl (h:RrAt cf sz ts te w g D f) (hc:∀x,(cf x).length=sz) (k:Nat) (hk:k<D.length):SlIs cf sz w (D[k]).a (D[k]).L.length (D[k]).L:=(RowOf.sl (h.rows _ (List.getElem_mem hk)) hc).1
theorem RrAt.made {n:Nat} (hr:RowOf rrC 1 w 0 ts (.slice (some ⟨g,0,none⟩) n n) (List.replicate n (⟨none,0,[]⟩:Rr α))) (hg:g<w.heap.size):RrAt cf sz ts te w g (List.replicate n (⟨none,0,[]⟩:Rr α)) [g] where
 row:=by rw[List.length_replicate];exact hr
 rows:=fun d hd=>by rw[List.eq_of_mem_replicate hd];exact RowOf.nil _ _ _
 apart:=List.pairwise_replicate.2 (.inr (fun x hx=>by cases hx))
 out:=fun d hd=>by rw[List.eq_of_mem_replicate hd];intro h;cases h
 ing:=by simp
 inr:=fun d hd x hx=>by rw[List.eq_of_mem_replicate hd]at hx;cases hx
 lt:=fun x hx=>by simp at hx;subst hx;exact hg
theorem pairwise_setR {R:α→α→Prop} (hs:∀a b,R a b→R b a):∀{l:List α},l.Pairwise R→∀(k:Nat) (hk:k<l.length) (x:α),(∀i (hi:i<l.length),i≠k→R x l[i])→(l.set k x).Pairwise R:=by
 intro l h k hk x hx
 rw[List.pairwise_iff_getElem]at h⊢
 intro i j hi hj hij
 rw[List.length_set]at hi hj
 rw[List.getElem_set,List.getElem_set]
 split
 ·rename_i e
  subst e
  rw[if_neg (by omega)]
  exact hx j hj (by omega)
 ·split
  ·rename_i e
   subst e
   exact hs _ _ (hx i hi (by omega))
  ·exact h i j hi hj hij
theorem RrAt.put {wy:World} (h:RrAt cf sz ts te w g D f) (k:Nat) (hk:k<D.length) (a':Option Addr) (c':Nat) (L':List α) (hc:Chg (D[k]).v.ownBlock.toList w wy) (hr:RowOf cf sz wy 0 te (.slice a' L'.length c') L') (hl:∀x,(Value.slice a' L'.length c').ownBlock=some x→(D[k]).v.ownBlock=some x∨w.heap.size≤x):
 ∃f',RrAt cf sz ts te (wy.setCell ⟨g,k,none⟩ (.slice a' L'.length c')) g (D.set k ⟨a',c',L'⟩) f'∧Chg f w (wy.setCell ⟨g,k,none⟩ (.slice a' L'.length c'))∧∀x∈f',x∈f∨w.heap.size≤x:=by
 have hmem:D[k]∈D:=List.getElem_mem hk
 have hc2:Chg [g] wy (wy.setCell ⟨g,k,none⟩ (.slice a' L'.length c')):=(Chg.refl _ _).setCell _ _ (by simp)
 have hcf:Chg f w (wy.setCell ⟨g,k,none⟩ (.slice a' L'.length c')):=Chg.thenSame (hc.mono (fun x hx _=>h.inr _ hmem x (by simpa using hx))) (hc2.mono (fun x hx _=>by simp at hx;subst hx;exact h.ing))
 have hgk:(D[k]).v.ownBlock≠some g:=h.out _ hmem
 have hnew:∀x,(Value.slice a' L'.length c').ownBlock=some x→x≠g:=fun x hx e=>by
  subst e
  rcases hl x hx with h1|h1
  ·exact hgk h1
  ·have:=h.lt x h.ing;omega
 have hap:∀i (hi:i<D.length),i≠k→∀x,(D[i]).v.ownBlock=some x→(D[k]).v.ownBlock≠some x:=by
  intro i hi hik x hx hm
  have hp:=List.pairwise_iff_getElem.1 h.apart
  rcases Nat.lt_or_ge i k with hlt|hge
  ·exact hp i k hi hk hlt x hx hm
  ·exact hp k i hk hi (by omega) x hm hx
 have hset:∀d∈D.set k ⟨a',c',L'⟩,d=⟨a',c',L'⟩∨∃i,∃hi:i<D.length,i≠k∧d=D[i]:=by
  intro d hd
  obtain⟨i,hi,rfl⟩:=List.mem_iff_getElem.1 hd
  rw[List.length_set]at hi
  by_cases hik:i=k
  ·subst hik;left;simp
  ·right;exact⟨i,hi,hik,by rw[List.getElem_set,if_neg (by omega)]⟩
 refine⟨f++(Value.slice a' L'.length c').ownBlock.toList,⟨?_, ?_, ?_, ?_,by simp[h.ing], ?_, ?_⟩,hcf, ?_⟩
 ·have h1:RowOf rrC 1 wy 0 ts (.slice (some ⟨g,0,none⟩) D.length D.length) D:=h.row.kept hc (fun y hy hm=>by cases hy;exact hgk (by simpa using hm))
  have h2:=RowOf.stored h1 rfl rrC_len k hk 0 (by omega) (.slice a' L'.length c') ⟨a',c',L'⟩ rfl
  rw[List.length_set]
  simpa using h2
 ·intro d hd
  rcases hset d hd with rfl|⟨i,hi,hik,rfl⟩
  ·exact hr.kept hc2 (fun y hy hm=>by simp at hm;exact hnew y hy hm)
  ·refine((h.rows _ (List.getElem_mem hi)).kept hc (fun y hy hm=>hap i hi hik y hy (by simpa using hm))).kept hc2 (fun y hy hm=> ?_)
   simp at hm;subst hm
   exact h.out _ (List.getElem_mem hi) hy
 ·refine pairwise_setR (fun a b hab x hx hx2=>hab x hx2 hx) h.apart k hk _ (fun i hi hik x hx hx2=> ?_)
  rcases hl x hx with h1|h1
  ·exact hap i hi hik x hx2 h1
  ·have:=h.lt x (h.inr _ (List.getElem_mem hi) x hx2);omega
 ·intro d hd
  rcases hset d hd with rfl|⟨i,hi,hik,rfl⟩
  ·intro hx;exact hnew g hx rfl
  ·exact h.out _ (List.getElem_mem hi)
 ·intro d hd x hx
  rcases hset d hd with rfl|⟨i,hi,hik,rfl⟩
  ·exact List.mem_append_right _ (by rw[show(Rr.v ⟨a',c',L'⟩:Value)= .slice a' L'.length c' from rfl]at hx;simp[hx])
  ·exact List.mem_append_left _ (h.inr _ (List.getElem_mem hi) x hx)
 ·intro x hx
  rcases List.mem_append.1 hx with hx|hx
  ·exact hcf.lt (h.lt x hx)
  ·exact hc2.lt ((hr.block x (by simpa using hx)).2)
 ·intro x hx
  rcases List.mem_append.1 hx with hx|hx
  ·exact .inl hx
  ·rcases hl x (by simpa using hx)with h1|h1
   ·exact .inl (h.inr _ hmem x h1)
   ·exact .inr h1
end
end
section
open Go.RowKit
def opRead:ByteArray:=⟨#[114,101,97,100]⟩
def opWrite:ByteArray:=⟨#[119,114,105,116,101]⟩
def opAdd:ByteArray:=⟨#[97,100,100]⟩
def opCas:ByteArray:=⟨#[99,97,115]⟩
def arL:List (ByteArray×Int):=[(opRead,0),(opWrite,1),(opAdd,1),(opCas,2)]
def arV (x:ByteArray×Int):Value:= .int .i64 x.2
def opN (s:ByteArray):Nat:=if s=opRead then 1 else if s=opWrite then 2 else if s=opAdd then 3 else if s=opCas then 4 else 0
def ariN (k:Nat):Nat:=if k=4 then 2 else if k=2∨k=3 then 1 else 0
theorem opN_cases (s:ByteArray):(s=opRead∧opN s=1)∨(s=opWrite∧opN s=2)∨(s=opAdd∧opN s=3)∨(s=opCas∧opN s=4)∨((s≠opRead∧s≠opWrite∧s≠opAdd∧s≠opCas)∧opN s=0):=by
 unfold opN
 by_cases h1:s=opRead
 ·exact .inl ⟨h1,by rw[if_pos h1]⟩
 rw[if_neg h1]
 by_cases h2:s=opWrite
 ·exact .inr (.inl ⟨h2,by rw[if_pos h2]⟩)
 rw[if_neg h2]
 by_cases h3:s=opAdd
 ·exact .inr (.inr (.inl ⟨h3,by rw[if_pos h3]⟩))
 rw[if_neg h3]
 by_cases h4:s=opCas
 ·exact .inr (.inr (.inr (.inl ⟨h4,by rw[if_pos h4]⟩)))
 rw[if_neg h4]
 exact .inr (.inr (.inr (.inr ⟨⟨h1,h2,h3,h4⟩,rfl⟩)))
theorem arL_look (s:ByteArray):((lookL Prod.fst arL s).map arV).getD (.int .i64 0)= .int .i64 (ariN (opN s):Nat)∧(lookL Prod.fst arL s).isSome=decide (opN s≠0):=by
 rcases opN_cases s with ⟨rfl,h⟩|⟨rfl,h⟩|⟨rfl,h⟩|⟨rfl,h⟩|⟨⟨h1,h2,h3,h4⟩,h⟩
 ·rw[h];exact⟨rfl,rfl⟩
 ·rw[h];exact⟨rfl,rfl⟩
 ·rw[h];exact⟨rfl,rfl⟩
 ·rw[h];exact⟨rfl,rfl⟩
 ·have:lookL Prod.fst arL s=none:=lookL_miss (by
   intro x hx
   simp only[arL,List.mem_cons,List.not_mem_nil,or_false]at hx
   rcases hx with rfl|rfl|rfl|rfl
   ·exact fun e=>h1 e.symm
   ·exact fun e=>h2 e.symm
   ·exact fun e=>h3 e.symm
   ·exact fun e=>h4 e.symm)
  rw[h,this];exact⟨rfl,rfl⟩
section
variable {α:Type} {kf:α→ByteArray} {vf:α→Value} {P:Program} (w:World) {ops:Array Oper} {rest:List Oper} {o:Oper} {a:Act} {Q:Exit→Act→World→Prop}
theorem wpl_insert (hg:o.guard=none) (m x v:Operand) (t:TypeId) (hop:o.op=Op.insert t m x v) (k e:TypeId) (ht:P.underlying t=some (.map k e)) (hk:P.underlying k=some .string)
 (b:Nat) (l:List α) (hm:a.eval m= .map (some b)) (h:MapIs kf vf w b l) (y:α) (hx:a.eval x= .string (kf y)) (hv:a.eval v=vf y)
 (hK:∀w',MapIs kf vf w' b (putL kf l y)→Chg [b] w w'→w'.heap.size=w.heap.size→wpList P ops Q rest (a.put o.dst undef) w'):wpList P ops Q (o::rest) a w:=by
 refine wpList_plain hg fun K' hK'=> ?_
 obtain⟨w',hrun,h1,h2,h3⟩:=h.store ht hk y
 unfold Oper.wp
 simp[execOp,hop,hm,hx,hv,hrun,Result.andThen]
 exact hK' _ _ (hK w' h1 h2 h3)
end
theorem zeroI (w:World):(zeroValue 3).run Tryz.prog w= .ok (.int .i64 0) w:=by kernel_rfl
theorem arL_puts:putL Prod.fst (putL Prod.fst (putL Prod.fst (putL Prod.fst ([]:List (ByteArray×Int)) (opRead,0)) (opWrite,1)) (opAdd,1)) (opCas,2)=arL:=by kernel_rfl
theorem arity_any (s:ByteArray) (w:World):Calls Tryz.prog 105 #[.string s] w fun e w'=>e= .returned (.tuple #[.int .i64 (ariN (opN s):Nat), .bool (decide (opN s≠0))])∧Chg [] w w':=by
 obtain⟨R,hR⟩:∃R,R=decide (opN s≠0):=⟨_,rfl⟩
 obtain⟨n,hn⟩:∃n:Int,n=(ariN (opN s):Nat):=⟨_,rfl⟩
 rw[←hR,←hn]
 have HL:=LH (arL_look s)
 rw[←hR,←hn]at HL
 clear hR hn
 have M:=LH (mapIs_new (kf:=Prod.fst) (vf:=arV) w)
 have C:=LH ((Chg.refl [w.heap.size] w).alloc (.map #[] 0))
 have hmm:= @run_makeMap Tryz.prog
 go_enter Tryz.func105,Tryz.ntmps105
 go_wp2_with (first
  |(refine wpl_insert _ rfl _ _ _ 195 rfl 9 3 Tryz.underlying195 Tryz.underlying9 w.heap.size _ rfl M.out ((opRead,0):ByteArray×Int) rfl rfl ?_;intro w1 hm1 hc1 hs1;have M:=LH hm1;have C:=LH (C.out.thenSame hc1);clear hm1 hc1 hs1)
  |(refine wpl_insert _ rfl _ _ _ 195 rfl 9 3 Tryz.underlying195 Tryz.underlying9 w.heap.size _ rfl M.out ((opWrite,1):ByteArray×Int) rfl rfl ?_;intro w1 hm1 hc1 hs1;have M:=LH hm1;have C:=LH (C.out.thenSame hc1);clear hm1 hc1 hs1)
  |(refine wpl_insert _ rfl _ _ _ 195 rfl 9 3 Tryz.underlying195 Tryz.underlying9 w.heap.size _ rfl M.out ((opAdd,1):ByteArray×Int) rfl rfl ?_;intro w1 hm1 hc1 hs1;have M:=LH hm1;have C:=LH (C.out.thenSame hc1);clear hm1 hc1 hs1)
  |(refine wpl_insert _ rfl _ _ _ 195 rfl 9 3 Tryz.underlying195 Tryz.underlying9 w.heap.size _ rfl M.out ((opCas,2):ByteArray×Int) rfl rfl ?_;intro w1 hm1 hc1 hs1;have M:=LH hm1;have C:=LH (C.out.thenSame hc1);clear hm1 hc1 hs1)
  |(at_lookup;have M:=LH M.out;rw[arL_puts]at M;refine wpl_lookup_ok _ rfl _ _ 195 rfl 9 3 Tryz.underlying195 Tryz.underlying9 (zeroI _) w.heap.size _ rfl M.out s rfl ?_;rw[HL.out.1,HL.out.2]))
 go_ret2
 exact⟨rfl,C.out.mono (by intro x hx hlt;simp at hx;omega)⟩
structure POp where
 ent:ByteArray
 id:ByteArray
 op:ByteArray
 args:List (List Ce)
structure EOp where
 ent:ByteArray
 id:ByteArray
 op:ByteArray
 aa:Option Addr
 ac:Nat
 args:List (Rr Ce)
def EOp.p (o:EOp):POp:=⟨o.ent,o.id,o.op,o.args.map Rr.L⟩
def eoC (o:EOp):List Value:=[.string o.ent, .string o.id, .string o.op, .slice o.aa o.args.length o.ac]
def ArgsIn (w:World) (aa:Option Addr) (ac:Nat) (args:List (Rr Ce)):Prop:=InIs rrC 1 w aa ac args∧∀d∈args,InIs ceC 4 w d.a d.c d.L
theorem ArgsIn.kept {w w':World} {aa:Option Addr} {ac:Nat} {args:List (Rr Ce)} (h:ArgsIn w aa ac args) (hc:Chg [] w w'):ArgsIn w' aa ac args:=⟨h.1.kept hc,fun d hd=>(h.2 d hd).kept hc⟩
def goodL (l:List Ce):Prop:=l.length≤3518437208780∧∀x∈l,x.good
def EOp.good (o:EOp):Prop:=o.ent.size≤maxLen∧o.id.size≤maxLen∧o.op.size≤maxLen∧o.args.length≤9223372036854775806∧∀d∈o.args,goodL d.L
def firstE:List (List Ce)→Int
 |[]=>0
 |v::r=>if checkZ v=0 then firstE r else checkZ v
def chkZ (o:POp):Int:=if(idB o.ent&&idB o.id)=false then 4 else if opN o.op=0 then 4 else if o.args.length≠ariN (opN o.op)then 7 else firstE o.args
theorem firstE_at {l:List (List Ce)} {k:Nat} {v:List Ce} (h:l[k]? =some v) (hb:∀j,j<k→∀u,l[j]? =some u→checkZ u=0) (hv:checkZ v≠0):firstE l=checkZ v:=by
 induction l generalizing k with
 |nil=>simp at h
 |cons u r ih=>
  cases k with
  |zero=>simp at h;subst h;simp[firstE,hv]
  |succ k=>
   have h0:=hb 0 (by omega) u rfl
   rw[firstE,if_pos h0]
   exact ih (by simpa using h) (fun j hj x hx=>hb (j+1) (by omega) x (by simpa using hx))
theorem firstE_all {l:List (List Ce)} (hb:∀v∈l,checkZ v=0):firstE l=0:=by
 induction l with
 |nil=>rfl
 |cons u r ih=>rw[firstE,if_pos (hb u (by simp))];exact ih (fun v hv=>hb v (by simp[hv]))
theorem firstE_zero {l:List (List Ce)} (h:firstE l=0):∀v∈l,checkZ v=0:=by
 induction l with
 |nil=>simp
 |cons u r ih=>
  rw[firstE]at h
  split at h
  ·rename_i h0
   intro v hv
   rcases List.mem_cons.1 hv with rfl|hv
   ·exact h0
   ·exact ih h v hv
  ·rename_i h0;exact absurd h h0
def eoO (o:EOp):Obj:= .cells #[.string o.ent, .string o.id, .string o.op, .slice o.aa o.args.length o.ac] 67
theorem echk_any (o:EOp) (w:World) (ha:ArgsIn w o.aa o.ac o.args) (hg:o.good) (ht:TabW w):
 Calls Tryz.prog 55 #[.agg (eoC o).toArray] w fun e w'=>e= .returned (.int .i64 (chkZ o.p))∧Chg [] w w':=by
 obtain⟨ent,id,op,aa,ac,args⟩:=o
 obtain⟨R,hR⟩:∃R,R=chkZ (EOp.p ⟨ent,id,op,aa,ac,args⟩):=⟨_,rfl⟩
 rw[←hR]
 simp only[chkZ,EOp.p,List.length_map]at hR
 obtain⟨g1,g2,g3,g4,g5⟩:=hg
 simp only at g1 g2 g3 g4 g5 ha
 have A0:=LH (fun w'=>arity_any op w')
 have A1:=LH (fun w'=>ID_any ent w' g1)
 have A2:=LH (fun w'=>ID_any id w' g2)
 have HA:=LH ha
 have HG:=LH g5
 have HT:=LH ht
 simp only[eoC]
 obtain⟨W1,hW1⟩:∃W1,W1=w.alloc (eoO ⟨ent,id,op,aa,ac,args⟩):=⟨_,rfl⟩
 have C:=LH (show Chg [] w W1 by rw[hW1];exact(Chg.refl _ _).alloc _)
 have B:=LH (show W1.heap[w.heap.size]? =some (eoO ⟨ent,id,op,aa,ac,args⟩) by rw[hW1];exact heap_alloc_new _ _)
 unfold eoO at hW1 B
 have k:=blk_cell B.out
 have HW1:=LH hW1
 clear hW1 g1 g2 g3 g5 ha ht
 generalize idB ent=q1 at*
 generalize idB id=q2 at*
 generalize hk:opN op=K at*
 clear hk
 obtain⟨N,hN⟩:∃N:Int,N=(ariN K:Nat):=⟨_,rfl⟩
 rw[←hN]at A0
 by_cases hK:K=0
 ·have hKd:decide (K≠0)=false:=by simp[hK]
  rw[hKd]at A0
  cases q1
  ·have HF:=LH (hR.trans (if_pos rfl))
   clear hR
   go_enter Tryz.func55,Tryz.ntmps55
   go_wp2_with fail
   rw[←HW1.out]
   go_wp2_with (first|(go_at_call 105;(with_reducible refine(A0.out _).mono ?_);rintro e wn ⟨rfl,hcn⟩;have C:=LH (C.out.thenSame hcn);have B:=LH (hcn.at (by simp) B.out);have k:=blk_cell B.out;clear hcn)|(go_at_call 67;(with_reducible refine(A1.out _).mono ?_);rintro e wn ⟨rfl,hcn⟩;have C:=LH (C.out.thenSame (Chg.ofBelow hcn));have B:=LH ((Chg.ofBelow (S:=[]) hcn).at (by simp) B.out);have k:=blk_cell B.out;clear hcn)|(go_at_call 67;(with_reducible refine(A2.out _).mono ?_);rintro e wn ⟨rfl,hcn⟩;have C:=LH (C.out.thenSame (Chg.ofBelow hcn));have B:=LH ((Chg.ofBelow (S:=[]) hcn).at (by simp) B.out);have k:=blk_cell B.out;clear hcn))
   go_ret
   exact⟨retI HF.out.symm,C.out⟩
  cases q2
  ·have HF:=LH (hR.trans (if_pos rfl))
   clear hR
   go_enter Tryz.func55,Tryz.ntmps55
   go_wp2_with fail
   rw[←HW1.out]
   go_wp2_with (first|(go_at_call 105;(with_reducible refine(A0.out _).mono ?_);rintro e wn ⟨rfl,hcn⟩;have C:=LH (C.out.thenSame hcn);have B:=LH (hcn.at (by simp) B.out);have k:=blk_cell B.out;clear hcn)|(go_at_call 67;(with_reducible refine(A1.out _).mono ?_);rintro e wn ⟨rfl,hcn⟩;have C:=LH (C.out.thenSame (Chg.ofBelow hcn));have B:=LH ((Chg.ofBelow (S:=[]) hcn).at (by simp) B.out);have k:=blk_cell B.out;clear hcn)|(go_at_call 67;(with_reducible refine(A2.out _).mono ?_);rintro e wn ⟨rfl,hcn⟩;have C:=LH (C.out.thenSame (Chg.ofBelow hcn));have B:=LH ((Chg.ofBelow (S:=[]) hcn).at (by simp) B.out);have k:=blk_cell B.out;clear hcn))
   go_ret
   exact⟨retI HF.out.symm,C.out⟩
  rw[if_neg (by decide)]at hR
  have HF:=LH (hR.trans (if_pos hK))
  clear hR
  go_enter Tryz.func55,Tryz.ntmps55
  go_wp2_with fail
  rw[←HW1.out]
  go_wp2_with (first|(go_at_call 105;(with_reducible refine(A0.out _).mono ?_);rintro e wn ⟨rfl,hcn⟩;have C:=LH (C.out.thenSame hcn);have B:=LH (hcn.at (by simp) B.out);have k:=blk_cell B.out;clear hcn)|(go_at_call 67;(with_reducible refine(A1.out _).mono ?_);rintro e wn ⟨rfl,hcn⟩;have C:=LH (C.out.thenSame (Chg.ofBelow hcn));have B:=LH ((Chg.ofBelow (S:=[]) hcn).at (by simp) B.out);have k:=blk_cell B.out;clear hcn)|(go_at_call 67;(with_reducible refine(A2.out _).mono ?_);rintro e wn ⟨rfl,hcn⟩;have C:=LH (C.out.thenSame (Chg.ofBelow hcn));have B:=LH ((Chg.ofBelow (S:=[]) hcn).at (by simp) B.out);have k:=blk_cell B.out;clear hcn))
  go_ret
  exact⟨retI HF.out.symm,C.out⟩
 have hKd:decide (K≠0)=true:=by simp[hK]
 rw[hKd]at A0
 clear hKd
 cases q1
 ·have HF:=LH (hR.trans (if_pos rfl))
  clear hR
  go_enter Tryz.func55,Tryz.ntmps55
  go_wp2_with fail
  rw[←HW1.out]
  go_wp2_with (first|(go_at_call 105;(with_reducible refine(A0.out _).mono ?_);rintro e wn ⟨rfl,hcn⟩;have C:=LH (C.out.thenSame hcn);have B:=LH (hcn.at (by simp) B.out);have k:=blk_cell B.out;clear hcn)|(go_at_call 67;(with_reducible refine(A1.out _).mono ?_);rintro e wn ⟨rfl,hcn⟩;have C:=LH (C.out.thenSame (Chg.ofBelow hcn));have B:=LH ((Chg.ofBelow (S:=[]) hcn).at (by simp) B.out);have k:=blk_cell B.out;clear hcn)|(go_at_call 67;(with_reducible refine(A2.out _).mono ?_);rintro e wn ⟨rfl,hcn⟩;have C:=LH (C.out.thenSame (Chg.ofBelow hcn));have B:=LH ((Chg.ofBelow (S:=[]) hcn).at (by simp) B.out);have k:=blk_cell B.out;clear hcn))
  go_ret
  exact⟨retI HF.out.symm,C.out⟩
 cases q2
 ·have HF:=LH (hR.trans (if_pos rfl))
  clear hR
  go_enter Tryz.func55,Tryz.ntmps55
  go_wp2_with fail
  rw[←HW1.out]
  go_wp2_with (first|(go_at_call 105;(with_reducible refine(A0.out _).mono ?_);rintro e wn ⟨rfl,hcn⟩;have C:=LH (C.out.thenSame hcn);have B:=LH (hcn.at (by simp) B.out);have k:=blk_cell B.out;clear hcn)|(go_at_call 67;(with_reducible refine(A1.out _).mono ?_);rintro e wn ⟨rfl,hcn⟩;have C:=LH (C.out.thenSame (Chg.ofBelow hcn));have B:=LH ((Chg.ofBelow (S:=[]) hcn).at (by simp) B.out);have k:=blk_cell B.out;clear hcn)|(go_at_call 67;(with_reducible refine(A2.out _).mono ?_);rintro e wn ⟨rfl,hcn⟩;have C:=LH (C.out.thenSame (Chg.ofBelow hcn));have B:=LH ((Chg.ofBelow (S:=[]) hcn).at (by simp) B.out);have k:=blk_cell B.out;clear hcn))
  go_ret
  exact⟨retI HF.out.symm,C.out⟩
 rw[if_neg (by decide),if_neg hK]at hR
 by_cases hl:args.length=ariN K
 ·rw[if_neg (by omega)]at hR
  have hlb:((args.length:Int)==N)=true:=beq_iff_eq.2 (by omega)
  have hlb2:((args.length:Int)!=N)=false:=by rw[bne,hlb];rfl
  have HL:=LH hl
  have HR:=LH hR
  clear hl hR hK hN
  go_enter Tryz.func55,Tryz.ntmps55
  go_wp2_with fail
  rw[←HW1.out]
  go_wp2_with (first|(go_at_call 105;(with_reducible refine(A0.out _).mono ?_);rintro e wn ⟨rfl,hcn⟩;have C:=LH (C.out.thenSame hcn);have B:=LH (hcn.at (by simp) B.out);have k:=blk_cell B.out;clear hcn)|(go_at_call 67;(with_reducible refine(A1.out _).mono ?_);rintro e wn ⟨rfl,hcn⟩;have C:=LH (C.out.thenSame (Chg.ofBelow hcn));have B:=LH ((Chg.ofBelow (S:=[]) hcn).at (by simp) B.out);have k:=blk_cell B.out;clear hcn)|(go_at_call 67;(with_reducible refine(A2.out _).mono ?_);rintro e wn ⟨rfl,hcn⟩;have C:=LH (C.out.thenSame (Chg.ofBelow hcn));have B:=LH ((Chg.ofBelow (S:=[]) hcn).at (by simp) B.out);have k:=blk_cell B.out;clear hcn))
  go_loopw [36] (fun i wr=>∃j:Nat,i= .int .i64 j∧j≤args.length∧Hid (∀m,m<j→∀u,(args.map Rr.L)[m]? =some u→checkZ u=0)∧Hid (Chg [] w wr)) (fun i _=>args.length-(intOf i).toNat)
  case atStart=>exact⟨0,rfl,Nat.zero_le _,LH (fun m hm=>by omega),C⟩
  case round=>
   obtain⟨j,rfl,hj,HJ,D⟩:=hrel
   have hj0:(0:Int)≤(j:Int):=by omega
   by_cases hjl:j<args.length
   ·obtain⟨b1,o1,rfl, -,hbr1,hcc1⟩:=HA.out.1.1.elem D.out j hjl
    have I1:=LH ((HA.out.2 _ (List.getElem_mem hjl)).kept D.out)
    have G1:=LH (HG.out _ (List.getElem_mem hjl))
    have HX:=LH (show(args.map Rr.L)[j]? =some (args[j]).L by rw[List.getElem?_map,List.getElem?_eq_getElem hjl];rfl)
    generalize args[j]=d at*
    obtain⟨da,dc,dL⟩:=d
    have c0:=hcc1 0 (by omega)
    simp only[rrC,List.getElem?_cons_zero,Nat.add_zero,Nat.mul_one]at c0
    have V:=LH (vcheck_any da dc dL wr I1.out.1 G1.out.1 G1.out.2 (HT.out.kept D.out))
    have hj1:(j:Int)<(args.length:Int):=by omega
    have HY:=LH (fun h=>firstE_at HX.out HJ.out h)
    clear hcc1
    simp only at HX HY
    generalize hz:checkZ dL=z at*
    have HZ:=LH hz
    clear hz
    by_cases hz0:z=0
    ·subst hz0
     go_wp2_with fail
     refine V.out.mono ?_;rintro e w2 ⟨rfl,hc2⟩
     have D2:=LH (D.out.thenSame hc2)
     clear hc2
     go_wp2_with fail
     have HJ2:=LH (show ∀m,m<j+1→∀u,(args.map Rr.L)[m]? =some u→checkZ u=0 from fun m hm u hu=>by
      by_cases hmj:m<j
      ·exact HJ.out m hmj u hu
      ·have:m=j:=by omega
       subst this
       rw[HX.out]at hu
       cases hu
       exact HZ.out)
     exact⟨⟨j+1,by go_num,by omega,HJ2,D2⟩,by simp[intOf];omega⟩
    ·have hzb:(z !=0)=true:=by simpa using hz0
     have HF:=LH (HR.out.trans (HY.out hz0))
     clear hz0
     go_wp2_with fail
     refine V.out.mono ?_;rintro e w2 ⟨rfl,hc2⟩
     have D2:=LH (D.out.thenSame hc2)
     clear hc2
     go_wp2_with fail
     go_ret
     exact⟨by rw[HF.out];rfl,D2.out⟩
   ·have hjs:j=args.length:=by omega
    have HF:=LH (show R=0 by
     rw[HR.out]
     refine firstE_all (fun v hv=> ?_)
     obtain⟨m,hm,rfl⟩:=List.mem_iff_getElem.1 hv
     exact HJ.out m (by simpa[hjs]using hm) _ (List.getElem?_eq_getElem hm))
    clear hjs
    go_wp2_with fail
    go_ret
    exact⟨by rw[HF.out];rfl,D.out⟩
 ·have hlb:((args.length:Int)!=N)=true:=by rw[bne,beq_eq_false_iff_ne.2 (show(args.length:Int)≠N by omega)];rfl
  have HF:=LH (hR.trans (if_pos hl))
  clear hR
  go_enter Tryz.func55,Tryz.ntmps55
  go_wp2_with fail
  rw[←HW1.out]
  go_wp2_with (first|(go_at_call 105;(with_reducible refine(A0.out _).mono ?_);rintro e wn ⟨rfl,hcn⟩;have C:=LH (C.out.thenSame hcn);have B:=LH (hcn.at (by simp) B.out);have k:=blk_cell B.out;clear hcn)|(go_at_call 67;(with_reducible refine(A1.out _).mono ?_);rintro e wn ⟨rfl,hcn⟩;have C:=LH (C.out.thenSame (Chg.ofBelow hcn));have B:=LH ((Chg.ofBelow (S:=[]) hcn).at (by simp) B.out);have k:=blk_cell B.out;clear hcn)|(go_at_call 67;(with_reducible refine(A2.out _).mono ?_);rintro e wn ⟨rfl,hcn⟩;have C:=LH (C.out.thenSame (Chg.ofBelow hcn));have B:=LH ((Chg.ofBelow (S:=[]) hcn).at (by simp) B.out);have k:=blk_cell B.out;clear hcn))
  go_ret
  exact⟨retI HF.out.symm,C.out⟩
end
section
open Go.RowKit
structure PCl where
 o:POp
 err:Int
 ans:List Ce
 from_:Int
 to_:Int
structure Cl where
 o:EOp
 err:Int
 va:Option Addr
 vc:Nat
 ans:List Ce
 from_:Int
 to_:Int
def Cl.p (x:Cl):PCl:=⟨x.o.p,x.err,x.ans,x.from_,x.to_⟩
def clC (x:Cl):List Value:=[.string x.o.ent, .string x.o.id, .string x.o.op, .slice x.o.aa x.o.args.length x.o.ac, .int .i64 x.err, .slice x.va x.ans.length x.vc, .int .i64 x.from_, .int .i64 x.to_]
theorem clC_len (x:Cl):(clC x).length=8:=rfl
theorem clC_one (x:Cl):∀u∈clC x,u.oneCell'=true:=by intro u hu;simp[clC]at hu;rcases hu with rfl|rfl|rfl|rfl|rfl|rfl|rfl|rfl<;>rfl
def clO (x:Cl):Obj:= .cells #[.string x.o.ent, .string x.o.id, .string x.o.op, .slice x.o.aa x.o.args.length x.o.ac, .int .i64 x.err, .slice x.va x.ans.length x.vc, .int .i64 x.from_, .int .i64 x.to_] 71
def ClIn (w:World) (x:Cl):Prop:=ArgsIn w x.o.aa x.o.ac x.o.args∧InIs ceC 4 w x.va x.vc x.ans
theorem ClIn.kept {w w':World} {x:Cl} (h:ClIn w x) (hc:Chg [] w w'):ClIn w' x:=⟨h.1.kept hc,h.2.kept hc⟩
def LIn (w:World) (a:Option Addr) (c:Nat) (l:List Cl):Prop:=InIs clC 8 w a c l∧∀x∈l,ClIn w x
theorem LIn.kept {w w':World} {a:Option Addr} {c:Nat} {l:List Cl} (h:LIn w a c l) (hc:Chg [] w w'):LIn w' a c l:=⟨h.1.kept hc,fun x hx=>(h.2 x hx).kept hc⟩
def goodCl (x:Cl):Prop:=x.o.good∧(Lit.int .i64 x.err).wf=true∧(Lit.int .i64 x.from_).wf=true∧(Lit.int .i64 x.to_).wf=true
def At8 (w:World) (g o:Nat) (x:Cl):Prop:=w.cell? ⟨g,o,none⟩=some (.string x.o.ent)∧w.cell? ⟨g,o+1,none⟩=some (.string x.o.id)∧w.cell? ⟨g,o+2,none⟩=some (.string x.o.op)∧w.cell? ⟨g,o+3,none⟩=some (.slice x.o.aa x.o.args.length x.o.ac)∧w.cell? ⟨g,o+4,none⟩=some (.int .i64 x.err)∧w.cell? ⟨g,o+5,none⟩=some (.slice x.va x.ans.length x.vc)∧w.cell? ⟨g,o+6,none⟩=some (.int .i64 x.from_)∧w.cell? ⟨g,o+7,none⟩=some (.int .i64 x.to_)
theorem at8_of {w:World} {g o:Nat} {x:Cl} (h:∀j,j<8→w.cell? ⟨g,o+j,none⟩=(clC x)[j]?):At8 w g o x:=
 ⟨h 0 (by omega),h 1 (by omega),h 2 (by omega),h 3 (by omega),h 4 (by omega),h 5 (by omega),h 6 (by omega),h 7 (by omega)⟩
theorem LIn.at8 {w w':World} {a:Option Addr} {c:Nat} {l:List Cl} (h:LIn w a c l) (k:Nat) (hk:k<l.length):∃b off,a=some ⟨b,off,none⟩∧b<w.heap.size∧∀w',Chg [] w w'→At8 w' b (off+k*8) l[k]:=by
 obtain⟨b,off,h1,h2,h3⟩:=h.1.1.2 k hk
 exact⟨b,off,h1,h2,fun w' hc=>at8_of (fun j hj=>(World.cell?_of_block (w:=w) (hc.block b h2 (by simp))).trans (h3 j hj))⟩
def openB (x:PCl):Bool:=x.to_== -1
def timeB (n:Int):Bool:=decide (0≤n)&&decide (n≤1073741824)
def befB (x y:PCl):Bool:= !openB x&&decide (x.to_<y.from_)
theorem lopen_any (x:Cl) (w:World):Calls Tryz.prog 112 #[.agg (clC x).toArray] w fun e w'=>e= .returned (.bool (openB x.p))∧Chg [] w w':=by
 obtain⟨⟨ent,id,op,aa,ac,args⟩,err,va,vc,ans,fr,to_⟩:=x
 simp only[clC,Cl.p,openB]
 cases hq:(to_== -1)
 ·go_enter Tryz.func112,Tryz.ntmps112
  go_wp2_with fail
  go_ret
  exact⟨rfl,(Chg.refl _ _).alloc _⟩
 ·go_enter Tryz.func112,Tryz.ntmps112
  go_wp2_with fail
  go_ret
  exact⟨rfl,(Chg.refl _ _).alloc _⟩
theorem ltime_any (n:Int) (w:World):Calls Tryz.prog 195 #[.int .i64 n] w fun e w'=>e= .returned (.bool (timeB n))∧w=w':=by
 unfold timeB
 by_cases h1:0≤n
 ·by_cases h2:n≤1073741824
  ·rw[decide_eq_true h1,decide_eq_true h2]
   go_enter Tryz.func195,Tryz.ntmps195
   go_wp2_with fail
   go_ret
   exact⟨rfl,rfl⟩
  ·rw[decide_eq_true h1,decide_eq_false h2]
   go_enter Tryz.func195,Tryz.ntmps195
   go_wp2_with fail
   go_ret
   exact⟨rfl,rfl⟩
 ·rw[decide_eq_false h1]
  go_enter Tryz.func195,Tryz.ntmps195
  go_wp2_with fail
  go_ret
  exact⟨rfl,rfl⟩
theorem lbef_any (x y:Cl) (w:World):Calls Tryz.prog 62 #[.agg (clC x).toArray, .agg (clC y).toArray] w fun e w'=>e= .returned (.bool (befB x.p y.p))∧Chg [] w w':=by
 obtain⟨W1,hW1⟩:∃W1,W1=(w.alloc (clO x)).alloc (clO y):=⟨_,rfl⟩
 have C1:=LH (show Chg [] w W1 by rw[hW1];exact((Chg.refl _ _).alloc _).alloc _)
 have B1:=LH (show W1.heap[w.heap.size]? =some (clO x) by rw[hW1];exact blk_alloc (heap_alloc_new _ _))
 have B2:=LH (show W1.heap[w.heap.size+1]? =some (clO y) by rw[hW1];have:=heap_alloc_new (w.alloc (clO x)) (clO y);rwa[World.size_alloc]at this)
 have A:=LH (fun w'=>lopen_any x w')
 obtain⟨R,hR⟩:∃R,R=befB x.p y.p:=⟨_,rfl⟩
 rw[←hR]
 have HF:Hid (R=(!openB x.p&&decide (x.to_<y.from_))):=LH hR
 clear hR
 generalize openB x.p=q at*
 obtain⟨⟨ent,id,op,aa,ac,args⟩,err,va,vc,ans,fr,to_⟩:=x
 obtain⟨⟨ent2,id2,op2,aa2,ac2,args2⟩,err2,va2,vc2,ans2,fr2,to2⟩:=y
 simp only[clO,clC]at*
 have k1:=blk_cell B1.out
 have HW1:=LH hW1
 clear hW1
 cases q
 ·by_cases hlt:to_<fr2
  ·have HE:=LH (show R=true by rw[HF.out];simp[hlt])
   go_enter Tryz.func62,Tryz.ntmps62
   go_upto_region 1 with fail
   rw[←HW1.out]
   go_wp2_with (go_at_call 112;(with_reducible refine(A.out _).mono ?_);rintro e w2 ⟨rfl,hc⟩;have C2:=LH (C1.out.thenSame hc);have k2:=blk_cell (hc.at (by simp) B1.out);have k3:=blk_cell (hc.at (by simp) B2.out);clear hc)
   go_ret
   refine⟨?_,C2.out⟩
   first|exact retB HE.out.symm|exact retB (HD.out.trans HE.out.symm)
  ·have HE:=LH (show R=false by rw[HF.out];simp[hlt])
   have HD:=LH (decide_eq_false hlt)
   go_enter Tryz.func62,Tryz.ntmps62
   go_upto_region 1 with fail
   rw[←HW1.out]
   go_wp2_with (go_at_call 112;(with_reducible refine(A.out _).mono ?_);rintro e w2 ⟨rfl,hc⟩;have C2:=LH (C1.out.thenSame hc);have k2:=blk_cell (hc.at (by simp) B1.out);have k3:=blk_cell (hc.at (by simp) B2.out);clear hc)
   go_ret
   refine⟨?_,C2.out⟩
   first|exact retB HE.out.symm|exact retB (HD.out.trans HE.out.symm)
 ·have HE:=LH (show R=false by rw[HF.out];simp)
  go_enter Tryz.func62,Tryz.ntmps62
  go_upto_region 1 with fail
  rw[←HW1.out]
  go_wp2_with (go_at_call 112;(with_reducible refine(A.out _).mono ?_);rintro e w2 ⟨rfl,hc⟩;have C2:=LH (C1.out.thenSame hc);have k2:=blk_cell (hc.at (by simp) B1.out);have k3:=blk_cell (hc.at (by simp) B2.out);clear hc)
  go_ret
  refine⟨?_,C2.out⟩
  first|exact retB HE.out.symm|exact retB (HD.out.trans HE.out.symm)
end
section
open Go.RowKit
variable {a:Option Addr} {c:Nat} {l:List Cl} {w:World}
theorem chk1_any (x:Cl) (p:Nat) (id:ByteArray) (w:World) (h:w.cell? ⟨p,1,none⟩=some (.string id)) (hp:p<w.heap.size):Calls Tryz.prog 194 #[.agg (clC x).toArray, .pointer (some ⟨p,0,none⟩)] w fun e w'=>e= .returned (.bool (x.o.id==id))∧Chg [] w w':=by
 obtain⟨⟨ent,id1,op,aa,ac,args⟩,err,va,vc,ans,fr,to_⟩:=x
 simp only[clC]
 have qs:(id1==id)=(id1.toList==id.toList):=beq_toListBytes id1 id
 have hk:=World.cell?_of_block (w:=w) (w':=w.alloc (.cells #[.string ent, .string id1, .string op, .slice aa args.length ac, .int .i64 err, .slice va ans.length vc, .int .i64 fr, .int .i64 to_] 71)) (a:=⟨p,1,none⟩) (heap_alloc_old _ _ hp)
 rw[h]at hk
 go_enter Tryz.func194,Tryz.ntmps194
 go_wp2_with fail
 go_ret
 exact⟨by rw[qs];rfl,(Chg.refl _ _).alloc _⟩
end
section
open Go.RowKit
variable {a:Option Addr} {c:Nat} {l:List Cl} {w:World}
def hasId (l:List Cl) (id:ByteArray):Bool:=l.any (fun x=>x.o.id==id)
theorem hasId_step {l:List Cl} {id:ByteArray} {k:Nat} (hk:k<l.length):hasId (l.take (k+1)) id=(hasId (l.take k) id||(l[k].o.id==id)):=by
 unfold hasId
 rw[List.take_succ_eq_append_getElem hk,List.any_append]
 simp
theorem hasId_yes {l:List Cl} {id:ByteArray} {k:Nat} (hk:k<l.length) (h:(l[k].o.id==id)=true):hasId l id=true:=List.any_eq_true.2 ⟨_,List.getElem_mem hk,h⟩
theorem indexf_any (h:SlIs clC 8 w a l.length l) (hm:l.length≤maxLen) (p:Nat) (id:ByteArray) (hp:w.cell? ⟨p,1,none⟩=some (.string id)) (hpl:p<w.heap.size):
 Calls Tryz.prog 256 #[.slice a l.length c, .func (.func 194) #[] #[.pointer (some ⟨p,0,none⟩)]] w fun e w'=>∃n:Int,e= .returned (.int .i64 n)∧(decide (0≤n))=hasId l id∧Chg [] w w':=by
 have H:=LH h
 have HP:=LH (fun w' (hc:Chg [] w w')=>And.intro ((World.cell?_of_block (w:=w) (hc.block p hpl (by simp))).trans hp) (hc.lt hpl))
 unfold maxLen at hm
 clear h hp hpl
 go_enter Tryz.func256,Tryz.ntmps256
 go_wp2_with fail
 go_loopw [8] (fun i wr=>∃k:Nat,i= .int .i64 k∧k≤l.length∧Hid (hasId (l.take k) id=false)∧Hid (Chg [] w wr)) (fun i _=>l.length-(intOf i).toNat)
 case atStart=>exact⟨0,rfl,Nat.zero_le _,LH rfl,LH (Chg.refl _ _)⟩
 case round=>
  obtain⟨k,rfl,hkl,HS,D⟩:=hrel
  by_cases hk:k<l.length
  ·obtain⟨b,off,rfl, -,hbr,hcc⟩:=H.out.elem D.out k hk
   have hst:=hasId_step (id:=id) hk
   rw[HS.out,Bool.false_or]at hst
   have hy:=fun h=>hasId_yes (id:=id) hk h
   generalize l[k]=x at*
   obtain⟨hp1,hp2⟩:=HP.out _ D.out
   have A:=LH (chk1_any x p id wr hp1 hp2)
   have X:=LH (at8_of hcc)
   obtain⟨d0,d1,d2,d3,d4,d5,d6,d7⟩:=X.out
   have hk0:(0:Int)≤(k:Int):=by omega
   have hk1:(k:Int)<(l.length:Int):=by omega
   unfold clC at A
   clear hcc hp1 hp2
   cases hq:(x.o.id==id)
   ·rw[hq]at A hst
    have HST:=LH hst
    clear hst hy hq
    go_wp2_with (first|(with_reducible refine Calls.mono A.out ?_);rintro e w2 ⟨rfl,hc⟩;have D2:=LH (D.out.thenSame hc);clear hc)
    exact⟨⟨k+1,by go_num,by omega,HST,D2⟩,by simp[intOf];omega⟩
   ·rw[hq]at A
    have HY:=LH (hy hq)
    clear hst hy hq
    go_wp2_with (first|(with_reducible refine Calls.mono A.out ?_);rintro e w2 ⟨rfl,hc⟩;have D2:=LH (D.out.thenSame hc);clear hc)
    go_ret
    exact⟨_,rfl,by rw[HY.out];exact decide_eq_true hk0,D2.out⟩
  ·have hks:k=l.length:=by omega
   have HE:Hid (hasId l id=false):=LH (by have:=HS.out;rwa[hks,List.take_of_length_le (Nat.le_refl _)]at this)
   clear hks
   go_wp2_with fail
   go_ret
   exact⟨_,rfl,by rw[HE.out];rfl,D.out⟩
theorem contf_any (h:SlIs clC 8 w a l.length l) (hm:l.length≤maxLen) (p:Nat) (id:ByteArray) (hp:w.cell? ⟨p,1,none⟩=some (.string id)) (hpl:p<w.heap.size):
 Calls Tryz.prog 193 #[.slice a l.length c, .func (.func 194) #[] #[.pointer (some ⟨p,0,none⟩)]] w fun e w'=>e= .returned (.bool (hasId l id))∧Chg [] w w':=by
 have A:=LH (indexf_any (c:=c) h hm p id hp hpl)
 clear h hm hp hpl
 generalize hasId l id=q at*
 go_enter Tryz.func193,Tryz.ntmps193
 go_wp2_with fail
 refine A.out.mono ?_;rintro e w2 ⟨n,rfl,hn,hc⟩
 have C:=LH hc
 have HN:=LH hn
 clear hc hn
 go_wp2_with fail
 go_ret
 exact⟨retB HN.out,C.out⟩
end
section
open Go.RowKit
def stL:List (ByteArray×Nat):=[(opRead,189),(opWrite,190),(opAdd,191),(opCas,192)]
def stV (x:ByteArray×Nat):Value:= .func (.func x.2) #[] #[]
theorem stL_puts:putL Prod.fst (putL Prod.fst (putL Prod.fst (putL Prod.fst ([]:List (ByteArray×Nat)) (opRead,189)) (opWrite,190)) (opAdd,191)) (opCas,192)=stL:=by kernel_rfl
theorem steps_any (w:World):Calls Tryz.prog 104 #[] w fun e w'=>e= .returned (.map (some w.heap.size))∧MapIs Prod.fst stV w' w.heap.size stL∧Chg [] w w':=by
 have M:=LH (mapIs_new (kf:=Prod.fst) (vf:=stV) w)
 have C:=LH ((Chg.refl [w.heap.size] w).alloc (.map #[] 0))
 have hmm:= @run_makeMap Tryz.prog
 go_enter Tryz.func104,Tryz.ntmps104
 go_wp2_with (first
  |(refine wpl_insert _ rfl _ _ _ 262 rfl 9 261 Tryz.underlying262 Tryz.underlying9 w.heap.size _ rfl M.out ((opRead,189):ByteArray×Nat) rfl rfl ?_;intro w1 hm1 hc1 hs1;have M:=LH hm1;have C:=LH (C.out.thenSame hc1);clear hm1 hc1 hs1)
  |(refine wpl_insert _ rfl _ _ _ 262 rfl 9 261 Tryz.underlying262 Tryz.underlying9 w.heap.size _ rfl M.out ((opWrite,190):ByteArray×Nat) rfl rfl ?_;intro w1 hm1 hc1 hs1;have M:=LH hm1;have C:=LH (C.out.thenSame hc1);clear hm1 hc1 hs1)
  |(refine wpl_insert _ rfl _ _ _ 262 rfl 9 261 Tryz.underlying262 Tryz.underlying9 w.heap.size _ rfl M.out ((opAdd,191):ByteArray×Nat) rfl rfl ?_;intro w1 hm1 hc1 hs1;have M:=LH hm1;have C:=LH (C.out.thenSame hc1);clear hm1 hc1 hs1)
  |(refine wpl_insert _ rfl _ _ _ 262 rfl 9 261 Tryz.underlying262 Tryz.underlying9 w.heap.size _ rfl M.out ((opCas,192):ByteArray×Nat) rfl rfl ?_;intro w1 hm1 hc1 hs1;have M:=LH hm1;have C:=LH (C.out.thenSame hc1);clear hm1 hc1 hs1))
 go_ret
 have M:=M.out
 rw[stL_puts]at M
 exact⟨rfl,M,C.out.mono (by intro x hx hlt;simp at hx;omega)⟩
theorem zeroSt (w:World):(zeroValue 261).run Tryz.prog w= .ok .nilFunc w:=by kernel_rfl
def ansW (w:World) (b:Nat) (e:Int) (a:Option Addr) (n c:Nat):World:=(w.setCell ⟨b,0,none⟩ (.int .i64 e)).setCell ⟨b,1,none⟩ (.slice a n c)
theorem ans_two {w:World} {b:Nat} {x y:Value} (hb:w.heap[b]? =some (.cells #[x,y] 69 (0,0))) (e:Int) (a:Option Addr) (n c:Nat):
 (ansW w b e a n c).heap[b]? =some (.cells #[.int .i64 e, .slice a n c] 69 (0,0))∧Chg [b] w (ansW w b e a n c):=
 ⟨blk_set (blk_set hb 0 _) 1 _,((Chg.refl _ _).setCell _ _ (by simp)).setCell _ _ (by simp)⟩
theorem SlIs.keptN {α:Type} {cf:α→List Value} {sz:Nat} {w w':World} {a:Option Addr} {len:Nat} {l:List α} {S:List Nat} (h:SlIs cf sz w a len l) (hc:Chg S w w') (hn:∀x,a=some x→x.block∉S):SlIs cf sz w' a len l:=
 ⟨h.1,fun k hk=>by
   obtain⟨b,off,h1,h2,h3⟩:=h.2 k hk
   refine⟨b,off,h1,hc.lt h2,fun j hj=> ?_⟩
   rw[←h3 j hj]
   exact World.cell?_of_block (w:=w) (hc.block b h2 (hn _ h1))⟩
theorem InIs.keptN {α:Type} {cf:α→List Value} {sz:Nat} {w w':World} {a:Option Addr} {c:Nat} {l:List α} {S:List Nat} (h:InIs cf sz w a c l) (hc:Chg S w w') (hn:∀x,a=some x→x.block∉S):InIs cf sz w' a c l:=⟨h.1.keptN hc hn,h.2⟩
def StepP (w:World) (sa:Option Addr) (r:List Ce×Int×List Ce) (e:Ending) (w':World):Prop:=
 ∃na nc va vc,e= .returned (.tuple #[.slice na r.1.length nc, .agg #[.int .i64 r.2.1, .slice va r.2.2.length vc]])∧InIs ceC 4 w' na nc r.1∧InIs ceC 4 w' va vc r.2.2∧(∀x,(na=some x→sa=some x∨w.heap.size≤x.block)∧(va=some x→w.heap.size≤x.block))∧Chg [] w w'
theorem stepP_end {w w1:World} {b:Nat} {x y:Value} {r:List Ce×Int×List Ce} {na va sa:Option Addr} {nc vc:Nat} (hfr:∀x,na=some x→sa=some x∨w.heap.size≤x.block) (hfv:∀x,va=some x→w.heap.size≤x.block) (hb:w1.heap[b]? =some (.cells #[x,y] 69 (0,0))) (hlt:w.heap.size≤b) (hc:Chg [] w w1)
 (hn:Chg [] w (ansW w1 b r.2.1 va r.2.2.length vc)→Chg [b] w1 (ansW w1 b r.2.1 va r.2.2.length vc)→InIs ceC 4 (ansW w1 b r.2.1 va r.2.2.length vc) na nc r.1)
 (hv:Chg [b] w1 (ansW w1 b r.2.1 va r.2.2.length vc)→InIs ceC 4 (ansW w1 b r.2.1 va r.2.2.length vc) va vc r.2.2):
 StepP w sa r (.returned (.tuple #[.slice na r.1.length nc, .agg #[.int .i64 r.2.1, .slice va r.2.2.length vc]])) (ansW w1 b r.2.1 va r.2.2.length vc):=by
 have hz:=(ans_two hb r.2.1 va r.2.2.length vc).2
 have hall:Chg [] w (ansW w1 b r.2.1 va r.2.2.length vc):=hc.then hz (by intro x hx hlt;simp at hx;omega)
 exact⟨na,nc,va,vc,rfl,hn hall hz,hv hz,fun x=>⟨hfr x,hfv x⟩,hall⟩
theorem InIs.nil {w:World}:InIs ceC 4 w none 0 []:=⟨⟨rfl,fun k hk=>by simp at hk⟩,Nat.le_refl _,Nat.zero_le _,fun _=>rfl⟩
theorem step1_any (sa:Option Addr) (sc:Nat) (st:List Ce) (va:Value) (w:World) (h:InIs ceC 4 w sa sc st) (hl:st.length≤1048576):
 Calls Tryz.prog 189 #[.slice sa st.length sc,va] w (StepP w sa (st,0,st)):=by
 have C1:=LH ((Chg.refl [] w).alloc (.cells #[.int .i64 0, .slice none 0 0] 69))
 have B1:=LH (heap_alloc_new w (.cells #[.int .i64 0, .slice none 0 0] 69))
 have hs:=World.size_alloc w (.cells #[.int .i64 0, .slice none 0 0] 69)
 obtain⟨W1,hW1⟩:∃W1,W1=w.alloc (.cells #[.int .i64 0, .slice none 0 0] 69):=⟨_,rfl⟩
 rw[←hW1]at C1 B1 hs
 have H:=LH h
 have k:=blk_cell B1.out
 have f:=blk_free B1.out
 have HS:=LH hs
 have HW1:=LH hW1
 clear h hW1 hs
 have A:=LH (clonec_in sa sc st _ (H.out.kept C1.out) (by omega))
 go_enter Tryz.func189,Tryz.ntmps189
 go_wp2_with fail
 rw[←HW1.out]
 go_wp2_with fail
 refine A.out.mono ?_;rintro e w1 ⟨a,c,rfl,hi,hb,hc⟩
 have B2:=LH (hc.at (by simp) B1.out)
 have k:=blk_cell B2.out
 have f:=blk_free B2.out
 have I:=LH hi
 have K:=LH hc
 have HB:=LH hb
 clear hi hc hb
 go_wp2_with fail
 have r1:=blk_cell (ans_two B2.out 0 a st.length c).1
 unfold ansW at r1
 refine bodyPost_ret (v:= .tuple #[.slice sa st.length sc, .agg #[.int .i64 0, .slice a st.length c]]) (by simp[results,Tryz.results189,go_sem,r1]) rfl ?_
 exact stepP_end (r:=(st,0,st)) (fun x hx=> .inl hx) (fun x hx=>by have:=HB.out x hx;have:=HS.out;omega) B2.out (Nat.le_refl _) (C1.out.thenSame K.out) (fun h1 _=>H.out.kept h1) (fun h2=>I.out.keptN h2 (fun x hx hm=>by have:=HB.out x hx;have:=HS.out;simp at hm;omega))
theorem step2_any (sa0:Option Addr) (sv:Value) (aa:Option Addr) (ac:Nat) (d:Rr Ce) (w:World) (h:ArgsIn w aa ac [d]) (hl:d.L.length≤1048576):
 Calls Tryz.prog 190 #[sv, .slice aa 1 ac] w (StepP w sa0 (d.L,0,[nullC])):=by
 have C1:=LH ((Chg.refl [] w).alloc (.cells #[.int .i64 0, .slice none 0 0] 69))
 have B1:=LH (heap_alloc_new w (.cells #[.int .i64 0, .slice none 0 0] 69))
 have hs:=World.size_alloc w (.cells #[.int .i64 0, .slice none 0 0] 69)
 obtain⟨W1,hW1⟩:∃W1,W1=w.alloc (.cells #[.int .i64 0, .slice none 0 0] 69):=⟨_,rfl⟩
 rw[←hW1]at C1 B1 hs
 have H:=LH h
 have k:=blk_cell B1.out
 have f:=blk_free B1.out
 have HS:=LH hs
 have HW1:=LH hW1
 clear h hW1 hs
 obtain⟨b1,o1,rfl, -,hbr1,hcc1⟩:=H.out.1.1.elem C1.out 0 (by simp)
 have I1:=LH ((H.out.2 d (by simp)).kept C1.out)
 have c0:=hcc1 0 (by omega)
 obtain⟨da,dc,dL⟩:=d
 simp only[rrC,gCZ,List.getElem?_cons_zero,Nat.add_zero,Nat.zero_mul]at c0
 simp only at I1 hl
 have A:=LH (clonec_in da dc dL W1 I1.out (by omega))
 clear hcc1
 go_enter Tryz.func190,Tryz.ntmps190
 go_upto_region 1 with fail
 rw[←HW1.out]
 go_wp2_with fail
 refine A.out.mono ?_;rintro e w1 ⟨a,c,rfl,hi,hb,hc⟩
 have B2:=LH (hc.at (by simp) B1.out)
 have I:=LH hi
 have K:=LH hc
 have HB:=LH hb
 clear hi hc hb k f
 go_wp2_with fail
 refine(vnull_any w1).mono ?_;rintro e w2 ⟨a2,c2,rfl,hi,hb,hc⟩
 have B3:=LH (hc.at (by simp) B2.out)
 have k:=blk_cell B3.out
 have f:=blk_free B3.out
 have I2:=LH hi
 have K2:=LH hc
 have HB2:=LH hb
 clear hi hc hb
 go_wp2_with fail
 have hs1:=HS.out
 have hs2:=K.out.size
 have r1:=blk_cell (ans_two B3.out 0 a2 1 c2).1
 unfold ansW at r1
 refine bodyPost_ret (v:= .tuple #[.slice a dL.length c, .agg #[.int .i64 0, .slice a2 1 c2]]) (by simp[results,Tryz.results190,go_sem,r1]) rfl ?_
 exact stepP_end (r:=(dL,0,[nullC])) (fun x hx=> .inr (by have:=HB.out x hx;omega)) (fun x hx=>by have:=HB2.out x hx;omega) B3.out (Nat.le_refl _) ((C1.out.thenSame K.out).thenSame K2.out) (fun _ h2=>(I.out.kept K2.out).keptN h2 (fun x hx hm=>by have:=HB.out x hx;simp at hm;omega)) (fun h2=>I2.out.keptN h2 (fun x hx hm=>by have:=HB2.out x hx;simp at hm;omega))
def addF (st a:List Ce):List Ce×Int×List Ce:=
 match st,a with
 |s::_,x::_=>if s.kind=3∨s.kind=1 then(if x.kind=3 then(if(addZ (if s.kind=3 then s.n else 0) x.n).2=0 then([intC (addZ (if s.kind=3 then s.n else 0) x.n).1],0,[intC (addZ (if s.kind=3 then s.n else 0) x.n).1])else(st,(addZ (if s.kind=3 then s.n else 0) x.n).2,[]))else(st,7,[]))else(st,7,[])
 |_,_=>(st,7,[])
theorem addF_bad {s x:Ce} {r rx:List Ce} (h:(s.kind≠3∧s.kind≠1)∨x.kind≠3):addF (s::r) (x::rx)=(s::r,7,[]):=by
 simp only[addF]
 rcases h with ⟨h1,h2⟩|h
 ·rw[if_neg (by simp[h1,h2])]
 ·rw[if_neg h];split<;>rfl
theorem addF_ok {s x:Ce} {r rx:List Ce} (hs:s.kind=3∨s.kind=1) (hx:x.kind=3):addF (s::r) (x::rx)=if(addZ (if s.kind=3 then s.n else 0) x.n).2=0 then([intC (addZ (if s.kind=3 then s.n else 0) x.n).1],0,[intC (addZ (if s.kind=3 then s.n else 0) x.n).1])else(s::r,(addZ (if s.kind=3 then s.n else 0) x.n).2,[]):=by
 simp only[addF]
 rw[if_pos hs,if_pos hx]
theorem step3_any (sa:Option Addr) (sc:Nat) (s:Ce) (r:List Ce) (aa:Option Addr) (ac:Nat) (da:Option Addr) (dc:Nat) (x:Ce) (rx:List Ce) (w:World) (h:InIs ceC 4 w sa sc (s::r)) (hA:ArgsIn w aa ac [⟨da,dc,x::rx⟩]):
 Calls Tryz.prog 191 #[.slice sa (s::r).length sc, .slice aa 1 ac] w (StepP w sa (addF (s::r) (x::rx))):=by
 have C1:=LH ((Chg.refl [] w).alloc (.cells #[.int .i64 0, .slice none 0 0] 69))
 have B1:=LH (heap_alloc_new w (.cells #[.int .i64 0, .slice none 0 0] 69))
 have hs:=World.size_alloc w (.cells #[.int .i64 0, .slice none 0 0] 69)
 obtain⟨W1,hW1⟩:∃W1,W1=w.alloc (.cells #[.int .i64 0, .slice none 0 0] 69):=⟨_,rfl⟩
 rw[←hW1]at C1 B1 hs
 have H:=LH h
 have k:=blk_cell B1.out
 have f:=blk_free B1.out
 have HS:=LH hs
 have HW1:=LH hW1
 clear h hW1 hs
 obtain⟨b1,o1,rfl, -,hbr1,hcc1⟩:=H.out.1.elem C1.out 0 (by simp)
 obtain⟨b2,o2,rfl, -,hbr2,hcc2⟩:=hA.1.1.elem C1.out 0 (by simp)
 have hI2:=hA.2 _ (List.mem_singleton.2 rfl)
 simp only at hI2
 obtain⟨b3,o3,rfl, -,hbr3,hcc3⟩:=hI2.1.elem C1.out 0 (by simp)
 have c0:=hcc1 0 (by omega)
 have c1:=hcc1 1 (by omega)
 have y0:=hcc2 0 (by omega)
 have x0:=hcc3 0 (by omega)
 have x1:=hcc3 1 (by omega)
 simp only[rrC,ceC,gCZ,List.getElem?_cons_zero,List.getElem?_cons_succ,Nat.add_zero,Nat.zero_mul,List.length_cons]at c0 c1 y0 x0 x1
 clear hcc1 hcc2 hcc3 hI2 hA
 have hr0:(0:Int)<((r.length:Int)+1):=by omega
 have hr1:(0:Int)<((rx.length:Int)+1):=by omega
 have hr2:(r.length:Int)+1≤9223372036854775807:=by have h1:=H.out.2.1;have h2:=H.out.2.2.1;unfold maxLen at h2;simp at h1;omega
 have hr3:(0:Int)≤(r.length:Int):=by omega
 obtain⟨sk,sn,ss,sm⟩:=s
 obtain⟨xk,xn,xs,xm⟩:=x
 simp only at c0 c1 x0 x1
 simp only[List.length_cons]at*
 by_cases hx:xk=3
 ·subst hx
  by_cases h3:sk=3
  ·subst h3
   have N:=LH (fun w'=>nadd_any sn xn w')
   rw[show addF (⟨3,sn,ss,sm⟩::r) (⟨3,xn,xs,xm⟩::rx)=(if(addZ sn xn).2=0 then([intC (addZ sn xn).1],0,[intC (addZ sn xn).1])else(⟨3,sn,ss,sm⟩::r,(addZ sn xn).2,[]))from addF_ok (.inl rfl) rfl]
   generalize addZ sn xn=R at*
   obtain⟨u,v⟩:=R
   simp only at N
   by_cases hv:v=0
   ·subst hv
    rw[if_pos rfl]
    go_enter Tryz.func191,Tryz.ntmps191
    go_upto_region 1 with fail
    rw[←HW1.out]
    go_wp2_with fail
    refine(N.out _).mono ?_;rintro e w2 ⟨rfl,hc⟩
    have B2:=LH (hc.at (by simp) B1.out)
    have K2:=LH (C1.out.thenSame hc)
    have S2:=LH hc.size
    clear hc k f c0 c1 x0 x1 y0
    have N1:=LH (heap_alloc_new w2 (.cells #[.int .i64 3, .int .i64 u, .string ⟨#[]⟩, .int .i64 0] 63))
    have I1:=LH (one_in (x:=intC u) N1.out)
    have E1:=LH ((Chg.refl [] w2).alloc (.cells #[.int .i64 3, .int .i64 u, .string ⟨#[]⟩, .int .i64 0] 63))
    have A:=LH (clonec_in _ _ [intC u] _ I1.out (by simp))
    go_wp2_with fail
    refine A.out.mono ?_;rintro e w3 ⟨a,c,rfl,hi,hb,hc⟩
    have B3:=LH (hc.at (by simp) (E1.out.at (by simp) B2.out))
    have k:=blk_cell B3.out
    have f:=blk_free B3.out
    have I3:=LH hi
    have K3:=LH hc
    have HB:=LH hb
    clear hi hc hb
    go_wp2_with fail
    have hs1:=HS.out
    have hs2:=K3.out.size
    have hs3:=S2.out
    have hs4:=E1.out.size
    have r1:=blk_cell (ans_two B3.out 0 a 1 c).1
    unfold ansW at r1
    refine bodyPost_ret (v:= .tuple #[.slice (some ⟨w2.heap.size,0,none⟩) 1 1, .agg #[.int .i64 0, .slice a 1 c]]) (by simp[results,Tryz.results191,go_sem,r1]) rfl ?_
    exact stepP_end (r:=([intC u],0,[intC u])) (fun x hx=> .inr (by cases hx;simp only;omega)) (fun x hx=>by have:=HB.out x hx;omega) B3.out (Nat.le_refl _) ((K2.out.thenSame E1.out).thenSame K3.out) (fun _ h2=>(I1.out.kept K3.out).keptN h2 (fun x hx hm=>by cases hx;simp at hm;omega)) (fun h2=>I3.out.keptN h2 (fun x hx hm=>by have:=HB.out x hx;simp at hm;omega))
   ·rw[if_neg hv]
    have hvb:(v !=0)=true:=by simpa using hv
    clear hv
    go_enter Tryz.func191,Tryz.ntmps191
    go_upto_region 1 with fail
    rw[←HW1.out]
    go_wp2_with fail
    refine(N.out _).mono ?_;rintro e w2 ⟨rfl,hc⟩
    have B2:=LH (hc.at (by simp) B1.out)
    have K2:=LH (C1.out.thenSame hc)
    clear hc k f c0 c1 x0 x1 y0
    have k:=blk_cell B2.out
    have f:=blk_free B2.out
    go_wp2_with fail
    have r1:=blk_cell (ans_two B2.out v none 0 0).1
    unfold ansW at r1
    refine bodyPost_ret (v:= .tuple #[.slice (some ⟨b1,o1,none⟩) (r.length+1) sc, .agg #[.int .i64 v, .slice none 0 0]]) (by simp[results,Tryz.results191,go_sem,r1]) rfl ?_
    exact stepP_end (r:=(_::r,v,[])) (fun x hx=> .inl hx) (fun x hx=>by cases hx) B2.out (Nat.le_refl _) K2.out (fun h1 _=>H.out.kept h1) (fun _=>InIs.nil)
  by_cases h1:sk=1
  ·subst h1
   have N:=LH (fun w'=>nadd_any 0 xn w')
   rw[show addF (⟨1,sn,ss,sm⟩::r) (⟨3,xn,xs,xm⟩::rx)=(if(addZ 0 xn).2=0 then([intC (addZ 0 xn).1],0,[intC (addZ 0 xn).1])else(⟨1,sn,ss,sm⟩::r,(addZ 0 xn).2,[]))from addF_ok (.inr rfl) rfl]
   generalize addZ 0 xn=R at*
   obtain⟨u,v⟩:=R
   simp only at N
   by_cases hv:v=0
   ·subst hv
    rw[if_pos rfl]
    go_enter Tryz.func191,Tryz.ntmps191
    go_upto_region 1 with fail
    rw[←HW1.out]
    go_wp2_with fail
    refine(N.out _).mono ?_;rintro e w2 ⟨rfl,hc⟩
    have B2:=LH (hc.at (by simp) B1.out)
    have K2:=LH (C1.out.thenSame hc)
    have S2:=LH hc.size
    clear hc k f c0 c1 x0 x1 y0
    have N1:=LH (heap_alloc_new w2 (.cells #[.int .i64 3, .int .i64 u, .string ⟨#[]⟩, .int .i64 0] 63))
    have I1:=LH (one_in (x:=intC u) N1.out)
    have E1:=LH ((Chg.refl [] w2).alloc (.cells #[.int .i64 3, .int .i64 u, .string ⟨#[]⟩, .int .i64 0] 63))
    have A:=LH (clonec_in _ _ [intC u] _ I1.out (by simp))
    go_wp2_with fail
    refine A.out.mono ?_;rintro e w3 ⟨a,c,rfl,hi,hb,hc⟩
    have B3:=LH (hc.at (by simp) (E1.out.at (by simp) B2.out))
    have k:=blk_cell B3.out
    have f:=blk_free B3.out
    have I3:=LH hi
    have K3:=LH hc
    have HB:=LH hb
    clear hi hc hb
    go_wp2_with fail
    have hs1:=HS.out
    have hs2:=K3.out.size
    have hs3:=S2.out
    have hs4:=E1.out.size
    have r1:=blk_cell (ans_two B3.out 0 a 1 c).1
    unfold ansW at r1
    refine bodyPost_ret (v:= .tuple #[.slice (some ⟨w2.heap.size,0,none⟩) 1 1, .agg #[.int .i64 0, .slice a 1 c]]) (by simp[results,Tryz.results191,go_sem,r1]) rfl ?_
    exact stepP_end (r:=([intC u],0,[intC u])) (fun x hx=> .inr (by cases hx;simp only;omega)) (fun x hx=>by have:=HB.out x hx;omega) B3.out (Nat.le_refl _) ((K2.out.thenSame E1.out).thenSame K3.out) (fun _ h2=>(I1.out.kept K3.out).keptN h2 (fun x hx hm=>by cases hx;simp at hm;omega)) (fun h2=>I3.out.keptN h2 (fun x hx hm=>by have:=HB.out x hx;simp at hm;omega))
   ·rw[if_neg hv]
    have hvb:(v !=0)=true:=by simpa using hv
    clear hv
    go_enter Tryz.func191,Tryz.ntmps191
    go_upto_region 1 with fail
    rw[←HW1.out]
    go_wp2_with fail
    refine(N.out _).mono ?_;rintro e w2 ⟨rfl,hc⟩
    have B2:=LH (hc.at (by simp) B1.out)
    have K2:=LH (C1.out.thenSame hc)
    clear hc k f c0 c1 x0 x1 y0
    have k:=blk_cell B2.out
    have f:=blk_free B2.out
    go_wp2_with fail
    have r1:=blk_cell (ans_two B2.out v none 0 0).1
    unfold ansW at r1
    refine bodyPost_ret (v:= .tuple #[.slice (some ⟨b1,o1,none⟩) (r.length+1) sc, .agg #[.int .i64 v, .slice none 0 0]]) (by simp[results,Tryz.results191,go_sem,r1]) rfl ?_
    exact stepP_end (r:=(_::r,v,[])) (fun x hx=> .inl hx) (fun x hx=>by cases hx) B2.out (Nat.le_refl _) K2.out (fun h1 _=>H.out.kept h1) (fun _=>InIs.nil)
  have h3b:(sk==3)=false:=by simpa using h3
  have h1b:(sk==1)=false:=by simpa using h1
  have HE:=LH (show addF (⟨sk,sn,ss,sm⟩::r) (⟨3,xn,xs,xm⟩::rx)=(⟨sk,sn,ss,sm⟩::r,7,[])from addF_bad (.inl ⟨h3,h1⟩))
  clear h3 h1
  rw[HE.out]
  clear hr0
  go_enter Tryz.func191,Tryz.ntmps191
  go_upto_region 1 with fail
  rw[←HW1.out]
  go_wp2_with fail
  have r1:=blk_cell (ans_two B1.out 7 none 0 0).1
  unfold ansW at r1
  refine bodyPost_ret (v:= .tuple #[.slice (some ⟨b1,o1,none⟩) (r.length+1) sc, .agg #[.int .i64 7, .slice none 0 0]]) (by simp[results,Tryz.results191,go_sem,r1]) rfl ?_
  exact stepP_end (r:=(_::r,7,[])) (fun x hx=> .inl hx) (fun x hx=>by cases hx) B1.out (Nat.le_refl _) C1.out (fun h1 _=>H.out.kept h1) (fun _=>InIs.nil)
 ·have hxb:(xk !=3)=true:=by simpa using hx
  have hxc:(xk==3)=false:=by simpa using hx
  by_cases h3:sk=3
  ·subst h3
   have HE:=LH (show addF (⟨3,sn,ss,sm⟩::r) (⟨xk,xn,xs,xm⟩::rx)=(⟨3,sn,ss,sm⟩::r,7,[])from addF_bad (.inr hx))
   clear hx
   rw[HE.out]
   clear hr0
   go_enter Tryz.func191,Tryz.ntmps191
   go_upto_region 1 with fail
   rw[←HW1.out]
   go_wp2_with fail
   have r1:=blk_cell (ans_two B1.out 7 none 0 0).1
   unfold ansW at r1
   refine bodyPost_ret (v:= .tuple #[.slice (some ⟨b1,o1,none⟩) (r.length+1) sc, .agg #[.int .i64 7, .slice none 0 0]]) (by simp[results,Tryz.results191,go_sem,r1]) rfl ?_
   exact stepP_end (r:=(_::r,7,[])) (fun x hx=> .inl hx) (fun x hx=>by cases hx) B1.out (Nat.le_refl _) C1.out (fun h1 _=>H.out.kept h1) (fun _=>InIs.nil)
  by_cases h1:sk=1
  ·subst h1
   have HE:=LH (show addF (⟨1,sn,ss,sm⟩::r) (⟨xk,xn,xs,xm⟩::rx)=(⟨1,sn,ss,sm⟩::r,7,[])from addF_bad (.inr hx))
   clear hx
   rw[HE.out]
   clear hr0
   go_enter Tryz.func191,Tryz.ntmps191
   go_upto_region 1 with fail
   rw[←HW1.out]
   go_wp2_with fail
   have r1:=blk_cell (ans_two B1.out 7 none 0 0).1
   unfold ansW at r1
   refine bodyPost_ret (v:= .tuple #[.slice (some ⟨b1,o1,none⟩) (r.length+1) sc, .agg #[.int .i64 7, .slice none 0 0]]) (by simp[results,Tryz.results191,go_sem,r1]) rfl ?_
   exact stepP_end (r:=(_::r,7,[])) (fun x hx=> .inl hx) (fun x hx=>by cases hx) B1.out (Nat.le_refl _) C1.out (fun h1 _=>H.out.kept h1) (fun _=>InIs.nil)
  have h3b:(sk==3)=false:=by simpa using h3
  have h1b:(sk==1)=false:=by simpa using h1
  have HE:=LH (show addF (⟨sk,sn,ss,sm⟩::r) (⟨xk,xn,xs,xm⟩::rx)=(⟨sk,sn,ss,sm⟩::r,7,[])from addF_bad (.inl ⟨h3,h1⟩))
  clear h3 h1 hx
  rw[HE.out]
  clear hr0
  go_enter Tryz.func191,Tryz.ntmps191
  go_upto_region 1 with fail
  rw[←HW1.out]
  go_wp2_with fail
  have r1:=blk_cell (ans_two B1.out 7 none 0 0).1
  unfold ansW at r1
  refine bodyPost_ret (v:= .tuple #[.slice (some ⟨b1,o1,none⟩) (r.length+1) sc, .agg #[.int .i64 7, .slice none 0 0]]) (by simp[results,Tryz.results191,go_sem,r1]) rfl ?_
  exact stepP_end (r:=(_::r,7,[])) (fun x hx=> .inl hx) (fun x hx=>by cases hx) B1.out (Nat.le_refl _) C1.out (fun h1 _=>H.out.kept h1) (fun _=>InIs.nil)
theorem step4_any (sa:Option Addr) (sc:Nat) (st:List Ce) (aa:Option Addr) (ac:Nat) (d d2:Rr Ce) (w:World) (h:InIs ceC 4 w sa sc st) (hA:ArgsIn w aa ac [d,d2]) (hl:st.length≤1048576) (hl2:d2.L.length≤1048576):
 Calls Tryz.prog 192 #[.slice sa st.length sc, .slice aa 2 ac] w (StepP w sa (if sameB ceE st d.L then(d2.L,0,[boolC true])else(st,0,[boolC false]))):=by
 have C1:=LH ((Chg.refl [] w).alloc (.cells #[.int .i64 0, .slice none 0 0] 69))
 have B1:=LH (heap_alloc_new w (.cells #[.int .i64 0, .slice none 0 0] 69))
 have hs:=World.size_alloc w (.cells #[.int .i64 0, .slice none 0 0] 69)
 obtain⟨W1,hW1⟩:∃W1,W1=w.alloc (.cells #[.int .i64 0, .slice none 0 0] 69):=⟨_,rfl⟩
 rw[←hW1]at C1 B1 hs
 have H:=LH h
 have k:=blk_cell B1.out
 have f:=blk_free B1.out
 have HS:=LH hs
 have HW1:=LH hW1
 clear h hW1 hs
 have hs1:=HS.out
 obtain⟨b1,o1,rfl, -,hbr1,hcc1⟩:=hA.1.1.elem C1.out 0 (by simp)
 have I1:=LH ((hA.2 d (by simp)).kept C1.out)
 have J1:=LH ((hA.2 d2 (by simp)).kept C1.out)
 have c0:=hcc1 0 (by omega)
 have HCC:=LH (fun w' (hc:Chg [] W1 w')=>hA.1.1.elem (C1.out.thenSame hc) 1 (by simp))
 obtain⟨da,dc,dL⟩:=d
 obtain⟨ea,ec,eL⟩:=d2
 simp only[rrC,gCZ,List.getElem?_cons_zero,Nat.add_zero,Nat.zero_mul]at c0
 simp only at I1 J1 hl2
 have A:=LH (vsame_any sa sc st da dc dL W1 (H.out.kept C1.out).1 I1.out.1 hl)
 clear hcc1 hA
 generalize hq:sameB ceE st dL=q at*
 clear hq
 cases q
 ·rw[if_neg (by decide)]
  clear HCC
  go_enter Tryz.func192,Tryz.ntmps192
  go_upto_region 1 with fail
  rw[←HW1.out]
  go_wp2_with fail
  refine A.out.mono ?_;rintro e w1 ⟨rfl,hc⟩
  have B2:=LH (hc.at (by simp) B1.out)
  have K:=LH (C1.out.thenSame hc)
  have S2:=LH hc.size
  clear hc c0 k f
  go_wp2_with fail
  refine(vbool_any false w1).mono ?_;rintro e w2 ⟨a2,c2,rfl,hi,hb,hc⟩
  have B3:=LH (hc.at (by simp) B2.out)
  have k:=blk_cell B3.out
  have f:=blk_free B3.out
  have I2:=LH hi
  have K2:=LH hc
  have HB2:=LH hb
  clear hi hc hb
  go_wp2_with fail
  have hs2:=S2.out
  have r1:=blk_cell (ans_two B3.out 0 a2 1 c2).1
  unfold ansW at r1
  refine bodyPost_ret (v:= .tuple #[.slice sa st.length sc, .agg #[.int .i64 0, .slice a2 1 c2]]) (by simp[results,Tryz.results192,go_sem,r1]) rfl ?_
  exact stepP_end (r:=(st,0,[boolC false])) (fun x hx=> .inl hx) (fun x hx=>by have:=HB2.out x hx;omega) B3.out (Nat.le_refl _) (K.out.thenSame K2.out) (fun h1 _=>H.out.kept h1) (fun h2=>I2.out.keptN h2 (fun x hx hm=>by have:=HB2.out x hx;simp at hm;omega))
 ·rw[if_pos rfl]
  go_enter Tryz.func192,Tryz.ntmps192
  go_upto_region 1 with fail
  rw[←HW1.out]
  go_wp2_with fail
  refine A.out.mono ?_;rintro e w1 ⟨rfl,hc⟩
  have B2:=LH (hc.at (by simp) B1.out)
  have K:=LH (C1.out.thenSame hc)
  have S2:=LH hc.size
  obtain⟨b9,o9,heq, -, -,hcc9⟩:=HCC.out w1 hc
  cases heq
  have c1:=hcc9 0 (by omega)
  simp only[rrC,gCZ,gCS,List.getElem?_cons_zero,Nat.add_zero,Nat.mul_one]at c1
  have A2:=LH (clonec_in ea ec eL w1 (J1.out.kept hc) (by omega))
  clear hc c0 k f hcc9
  go_wp2_with fail
  refine A2.out.mono ?_;rintro e w2 ⟨a,c,rfl,hi,hb,hc⟩
  have B3:=LH (hc.at (by simp) B2.out)
  have I:=LH hi
  have K2:=LH hc
  have HB:=LH hb
  clear hi hc hb c1
  go_wp2_with fail
  refine(vbool_any true w2).mono ?_;rintro e w3 ⟨a2,c2,rfl,hi,hb,hc⟩
  have B4:=LH (hc.at (by simp) B3.out)
  have k:=blk_cell B4.out
  have f:=blk_free B4.out
  have I2:=LH hi
  have K3:=LH hc
  have HB2:=LH hb
  clear hi hc hb
  go_wp2_with fail
  have hs2:=S2.out
  have hs3:=K2.out.size
  have r1:=blk_cell (ans_two B4.out 0 a2 1 c2).1
  unfold ansW at r1
  refine bodyPost_ret (v:= .tuple #[.slice a eL.length c, .agg #[.int .i64 0, .slice a2 1 c2]]) (by simp[results,Tryz.results192,go_sem,r1]) rfl ?_
  exact stepP_end (r:=(eL,0,[boolC true])) (fun x hx=> .inr (by have:=HB.out x hx;omega)) (fun x hx=>by have:=HB2.out x hx;omega) B4.out (Nat.le_refl _) ((K.out.thenSame K2.out).thenSame K3.out) (fun _ h2=>(I.out.kept K3.out).keptN h2 (fun x hx hm=>by have:=HB.out x hx;simp at hm;omega)) (fun h2=>I2.out.keptN h2 (fun x hx hm=>by have:=HB2.out x hx;simp at hm;omega))
end
section
open Go.RowKit
def doF (k:Nat) (st:List Ce) (args:List (List Ce)):List Ce×Int×List Ce:=
 if k=1 then(st,0,st)else if k=2 then(args.headD [],0,[nullC])else if k=3 then addF st (args.headD [])else if sameB ceE st (args.headD [])then((args.drop 1).headD [],0,[boolC true])else(st,0,[boolC false])
def doZ (st:List Ce) (o:POp):Int×List Ce×Int×List Ce:=
 if chkZ o≠0 then(chkZ o,[],0,[])else if checkZ st≠0 then(checkZ st,[],0,[])else(0,doF (opN o.op) st o.args)
def DoP (w:World) (r:Int×List Ce×Int×List Ce) (e:Ending) (w':World):Prop:=
 ∃na nc va vc,e= .returned (.tuple #[.slice na r.2.1.length nc, .agg #[.int .i64 r.2.2.1, .slice va r.2.2.2.length vc], .int .i64 r.1])∧InIs ceC 4 w' na nc r.2.1∧InIs ceC 4 w' va vc r.2.2.2∧(∀x,na=some x∨va=some x→w.heap.size≤x.block)∧Chg [] w w'
theorem doP_end {w w1:World} {b:Nat} {x y:Value} {r:Int×List Ce×Int×List Ce} {na va:Option Addr} {nc vc:Nat} (hfr:∀x,na=some x∨va=some x→w.heap.size≤x.block) (hb:w1.heap[b]? =some (.cells #[x,y] 69 (0,0))) (hlt:w.heap.size≤b) (hc:Chg [] w w1)
 (hn:Chg [b] w1 (ansW w1 b r.2.2.1 va r.2.2.2.length vc)→InIs ceC 4 (ansW w1 b r.2.2.1 va r.2.2.2.length vc) na nc r.2.1)
 (hv:Chg [b] w1 (ansW w1 b r.2.2.1 va r.2.2.2.length vc)→InIs ceC 4 (ansW w1 b r.2.2.1 va r.2.2.2.length vc) va vc r.2.2.2):
 DoP w r (.returned (.tuple #[.slice na r.2.1.length nc, .agg #[.int .i64 r.2.2.1, .slice va r.2.2.2.length vc], .int .i64 r.1])) (ansW w1 b r.2.2.1 va r.2.2.2.length vc):=by
 have hz:=(ans_two hb r.2.2.1 va r.2.2.2.length vc).2
 have hall:Chg [] w (ansW w1 b r.2.2.1 va r.2.2.2.length vc):=hc.then hz (by intro x hx hlt;simp at hx;omega)
 exact⟨na,nc,va,vc,rfl,hn hz,hv hz,hfr,hall⟩
theorem do_err (sa:Option Addr) (sc:Nat) (st:List Ce) (o:EOp) (w:World) (h:InIs ceC 4 w sa sc st) (hg:goodL st) (ha:ArgsIn w o.aa o.ac o.args) (hog:o.good) (ht:TabW w) (hz:chkZ o.p≠0∨checkZ st≠0):
 Calls Tryz.prog 53 #[.slice sa st.length sc, .agg (eoC o).toArray] w (DoP w (doZ st o.p)):=by
 have A:=LH (fun w' (hc:Chg [] w w')=>echk_any o w' (ha.kept hc) hog (ht.kept hc))
 have A2:=LH (fun w' (hc:Chg [] w w')=>vcheck_any sa sc st w' (h.1.kept hc) hg.1 hg.2 (ht.kept hc))
 by_cases h1:chkZ o.p=0
 ·have h2:checkZ st≠0:=hz.resolve_left (by simp[h1])
  have HZ:Hid (doZ st o.p=(checkZ st,[],0,[])):=LH (by unfold doZ;rw[if_neg (by simp[h1]),if_pos h2])
  rw[HZ.out]
  rw[h1]at A
  have h2b:(checkZ st !=0)=true:=by simpa using h2
  obtain⟨ent,id,op,aa,ac,args⟩:=o
  simp only[eoC]
  clear hz ha hog ht hg h1 h2 h HZ
  generalize checkZ st=z at*
  have C1:=LH (((Chg.refl [] w).alloc (eoO ⟨ent,id,op,aa,ac,args⟩)).alloc (.cells #[.int .i64 0, .slice none 0 0] 69))
  have B1:=LH (blk_alloc (o':= .cells #[.int .i64 0, .slice none 0 0] 69) (heap_alloc_new w (eoO ⟨ent,id,op,aa,ac,args⟩)))
  have B5:=LH (heap_alloc_new (w.alloc (eoO ⟨ent,id,op,aa,ac,args⟩)) (.cells #[.int .i64 0, .slice none 0 0] 69))
  rw[World.size_alloc]at B5
  obtain⟨W1,hW1⟩:∃W1,W1=(w.alloc (eoO ⟨ent,id,op,aa,ac,args⟩)).alloc (.cells #[.int .i64 0, .slice none 0 0] 69):=⟨_,rfl⟩
  have hs:W1.heap.size=w.heap.size+2:=by rw[hW1,World.size_alloc,World.size_alloc]
  rw[←hW1]at C1 B1 B5
  unfold eoO at hW1 B1
  have k:=blk_cell B1.out
  have HS:=LH hs
  have HW1:=LH hW1
  clear hW1 hs
  go_enter Tryz.func53,Tryz.ntmps53
  go_upto_region 1 with fail
  rw[←HW1.out]
  go_wp2_with fail
  refine(A.out _ C1.out).mono ?_;rintro e w2 ⟨rfl,hc⟩
  have C2:=LH (C1.out.thenSame hc)
  have E5:=LH (hc.at (by simp) B5.out)
  clear hc k
  go_wp2_with fail
  refine(A2.out _ C2.out).mono ?_;rintro e w3 ⟨rfl,hc⟩
  have C3:=LH (C2.out.thenSame hc)
  have F5:=LH (hc.at (by simp) E5.out)
  have k5:=blk_cell F5.out
  have f5:=blk_free F5.out
  clear hc
  go_wp2_with fail
  have r1:=blk_cell (ans_two F5.out 0 none 0 0).1
  unfold ansW at r1
  refine bodyPost_ret (v:= .tuple #[.slice none 0 0, .agg #[.int .i64 0, .slice none 0 0], .int .i64 z]) (by simp[results,Tryz.results53,go_sem,r1]) rfl ?_
  exact doP_end (r:=(z,[],0,[])) (fun x hx=>by rcases hx with hx|hx<;>cases hx) F5.out (by omega) C3.out (fun _=>InIs.nil) (fun _=>InIs.nil)
 ·have HZ:Hid (doZ st o.p=(chkZ o.p,[],0,[])):=LH (by unfold doZ;rw[if_pos h1])
  rw[HZ.out]
  have h2b:(chkZ o.p !=0)=true:=by simpa using h1
  obtain⟨ent,id,op,aa,ac,args⟩:=o
  simp only[eoC]
  clear hz ha hog ht hg h1 h HZ A2
  generalize chkZ (EOp.p ⟨ent,id,op,aa,ac,args⟩)=z at*
  have C1:=LH (((Chg.refl [] w).alloc (eoO ⟨ent,id,op,aa,ac,args⟩)).alloc (.cells #[.int .i64 0, .slice none 0 0] 69))
  have B1:=LH (blk_alloc (o':= .cells #[.int .i64 0, .slice none 0 0] 69) (heap_alloc_new w (eoO ⟨ent,id,op,aa,ac,args⟩)))
  have B5:=LH (heap_alloc_new (w.alloc (eoO ⟨ent,id,op,aa,ac,args⟩)) (.cells #[.int .i64 0, .slice none 0 0] 69))
  rw[World.size_alloc]at B5
  obtain⟨W1,hW1⟩:∃W1,W1=(w.alloc (eoO ⟨ent,id,op,aa,ac,args⟩)).alloc (.cells #[.int .i64 0, .slice none 0 0] 69):=⟨_,rfl⟩
  have hs:W1.heap.size=w.heap.size+2:=by rw[hW1,World.size_alloc,World.size_alloc]
  rw[←hW1]at C1 B1 B5
  unfold eoO at hW1 B1
  have k:=blk_cell B1.out
  have HS:=LH hs
  have HW1:=LH hW1
  clear hW1 hs
  go_enter Tryz.func53,Tryz.ntmps53
  go_upto_region 1 with fail
  rw[←HW1.out]
  go_wp2_with fail
  refine(A.out _ C1.out).mono ?_;rintro e w2 ⟨rfl,hc⟩
  have C2:=LH (C1.out.thenSame hc)
  have E5:=LH (hc.at (by simp) B5.out)
  have k5:=blk_cell E5.out
  have f5:=blk_free E5.out
  clear hc k
  go_wp2_with fail
  have r1:=blk_cell (ans_two E5.out 0 none 0 0).1
  unfold ansW at r1
  refine bodyPost_ret (v:= .tuple #[.slice none 0 0, .agg #[.int .i64 0, .slice none 0 0], .int .i64 z]) (by simp[results,Tryz.results53,go_sem,r1]) rfl ?_
  exact doP_end (r:=(z,[],0,[])) (fun x hx=>by rcases hx with hx|hx<;>cases hx) E5.out (by omega) C2.out (fun _=>InIs.nil) (fun _=>InIs.nil)
theorem two_cells {w:World} {b:Nat} {x0 x1 x2 x3:Value} {t:TypeId} (h:w.heap[b]? =some (.cells #[x0,x1,x2,x3] t (0,0))):w.cell? ⟨b,2,none⟩=some x2∧w.cell? ⟨b,3,none⟩=some x3:=⟨blk_cell h 2,blk_cell h 3⟩
theorem InIs.keptAns {w w':World} {a:Option Addr} {c b:Nat} {l:List Ce} {x y:Value} {t:TypeId} {f:Nat×Nat} (h:InIs ceC 4 w a c l) (hb:w.heap[b]? =some (.cells #[x,y] t f)) (hc:Chg [b] w w'):InIs ceC 4 w' a c l:=by
 refine⟨⟨rfl,fun k hk=> ?_⟩,h.2⟩
 obtain⟨b1,off,h1,h2,h3⟩:=h.1.2 k hk
 have hne:b1≠b:=by
  rintro rfl
  have h4:=h3 3 (by omega)
  rw[blk_cell hb]at h4
  have h5:(#[x,y]:Array Value)[off+k*4+3]? =none:=Array.getElem?_eq_none (by simp)
  rw[h5]at h4
  simp[ceC]at h4
 refine⟨b1,off,h1,hc.lt h2,fun j hj=> ?_⟩
 rw[←h3 j hj]
 exact World.cell?_of_block (w:=w) (hc.block b1 h2 (by simpa using hne))
theorem size_drew (w:World):w.drew.heap.size=w.heap.size:=rfl
theorem two_far {w:World} {b b2:Nat} {x0 x1 x2 x3 y0 y1 u v:Value} {t t2:TypeId} (h:w.heap[b]? =some (.cells #[x0,x1,x2,x3] t (0,0))) (h2:w.heap[b2]? =some (.cells #[y0,y1] t2 (0,0))):
 ((w.setCell ⟨b2,0,none⟩ u).setCell ⟨b2,1,none⟩ v).cell? ⟨b,2,none⟩=some x2∧((w.setCell ⟨b2,0,none⟩ u).setCell ⟨b2,1,none⟩ v).cell? ⟨b,3,none⟩=some x3:=by
 have hne:b≠b2:=by
  rintro rfl
  rw[h]at h2
  simp at h2
 exact two_cells ((blk_set_ne 1 _ hne).trans ((blk_set_ne 0 _ hne).trans h))
theorem lk_of {w:World} {b fn:Nat} {op:ByteArray} (hm:MapIs Prod.fst stV w b stL) (hf:lookL Prod.fst stL op=some (op,fn)):(Instr.lookup 262 (.map (some b)) (.string op) false).run Tryz.prog w= .ok (.func (.func fn) #[] #[]) w:=by
 have:=hm.lookup Tryz.underlying262 Tryz.underlying9 (zeroSt w) op false
 rw[hf]at this
 exact this
theorem MapIs.al {w:World} {b:Nat} {α:Type} {kf:α→ByteArray} {vf:α→Value} {l:List α} (h:MapIs kf vf w b l) (o:Obj):MapIs kf vf (w.alloc o) b l:=h.kept ((Chg.refl [] w).alloc o) (by simp)
def D7 (w:World) (r:List Ce×Int×List Ce) (b5:Nat) (x9 x10:Value) (wx:World):Prop:=
 ∃na nc va vc b10,x9= .slice na r.1.length nc∧x10= .pointer (some ⟨b10,0,none⟩)∧wx.heap[b10]? =some (.cells #[.int .i64 r.2.1, .slice va r.2.2.length vc] 69 (0,0))∧b10≠b5∧wx.heap[b5]? =some (.cells #[.int .i64 0, .slice none 0 0] 69 (0,0))∧InIs ceC 4 wx na nc r.1∧InIs ceC 4 wx va vc r.2.2∧(∀x,na=some x∨va=some x→w.heap.size≤x.block)∧Chg [] w wx
theorem DoP.drew {w w':World} {r:Int×List Ce×Int×List Ce} {e:Ending} (h:DoP w r e w'):DoP w r e w'.drew:=by
 obtain⟨na,nc,va,vc,h1,h2,h3,hf,h4⟩:=h
 exact⟨na,nc,va,vc,h1,h2.kept ((Chg.refl [] _).drew),h3.kept ((Chg.refl [] _).drew),hf,h4.drew⟩
theorem d7_c {w w6:World} {r:List Ce×Int×List Ce} {na va:Option Addr} {nc vc b5 b10:Nat} {x y:Value} (TT:w6.heap[b10]? =some (.cells #[x,y] 69 (0,0))) (QQ:w6.heap[b5]? =some (.cells #[.int .i64 0, .slice none 0 0] 69 (0,0)))
 (LT:b5<b10) (hb:w.heap.size≤b10) (CC:Chg [] w w6) (HN:InIs ceC 4 w6 na nc r.1) (HV:InIs ceC 4 w6 va vc r.2.2) (hfr:∀x,na=some x∨va=some x→w.heap.size≤x.block):
 D7 w r b5 (.slice na r.1.length nc) (.pointer (some ⟨b10,0,none⟩)) ((w6.setCell ⟨b10,0,none⟩ (.int .i64 r.2.1)).setCell ⟨b10,1,none⟩ (.slice va r.2.2.length vc)):=by
 obtain⟨h1,h2⟩:=ans_two TT r.2.1 va r.2.2.length vc
 exact⟨na,nc,va,vc,b10,rfl,rfl,h1,by omega,h2.at (by simp;omega) QQ,HN.keptAns TT h2,HV.keptAns TT h2,hfr,CC.then h2 (by intro x hx hlt;simp at hx;omega)⟩
theorem d7_b {w w6:World} {r:List Ce×Int×List Ce} {na va:Option Addr} {nc vc b5:Nat} {x y:Value} (QQ:w6.heap[b5]? =some (.cells #[.int .i64 0, .slice none 0 0] 69 (0,0)))
 (CC:Chg [] w w6) (HN:InIs ceC 4 w6 na nc r.1) (HV:InIs ceC 4 w6 va vc r.2.2) (hfr:∀x,na=some x∨va=some x→w.heap.size≤x.block):
 D7 w r b5 (.slice na r.1.length nc) (.pointer (some ⟨w6.heap.size,0,none⟩)) (((w6.alloc (.cells #[x,y] 69)).setCell ⟨w6.heap.size,0,none⟩ (.int .i64 r.2.1)).setCell ⟨w6.heap.size,1,none⟩ (.slice va r.2.2.length vc)):=
 d7_c (heap_alloc_new w6 _) (blk_alloc QQ) (lt_of_heap QQ) CC.size (CC.alloc _) (HN.kept ((Chg.refl [] _).alloc _)) (HV.kept ((Chg.refl [] _).alloc _)) hfr
theorem d7_a {w w6:World} {r:List Ce×Int×List Ce} {na va:Option Addr} {nc vc b5:Nat} (QQ:w6.heap[b5]? =some (.cells #[.int .i64 0, .slice none 0 0] 69 (0,0)))
 (CC:Chg [] w w6) (HN:InIs ceC 4 w6 na nc r.1) (HV:InIs ceC 4 w6 va vc r.2.2) (hfr:∀x,na=some x∨va=some x→w.heap.size≤x.block):
 D7 w r b5 (.slice na r.1.length nc) (.pointer (some ⟨w6.heap.size,0,none⟩)) (w6.alloc (.cells #[.int .i64 r.2.1, .slice va r.2.2.length vc] 69)):=
 ⟨na,nc,va,vc,w6.heap.size,rfl,rfl,heap_alloc_new w6 _,by have:=lt_of_heap QQ;omega,blk_alloc QQ,HN.kept ((Chg.refl [] _).alloc _),HV.kept ((Chg.refl [] _).alloc _),hfr,CC.alloc _⟩
end
section
open Go.RowKit
theorem do_ok1 (sa:Option Addr) (sc:Nat) (st:List Ce) (o:EOp) (r:List Ce×Int×List Ce) (w:World) (h:InIs ceC 4 w sa sc st) (hg:goodL st) (ha:ArgsIn w o.aa o.ac o.args) (hog:o.good) (ht:TabW w) (h1:chkZ o.p=0) (h2:checkZ st=0) (hl:st.length≤1048576)
 (hf:lookL Prod.fst stL o.op=some (o.op,189))
 (F:∀w' (_:Chg [] w w') a c,InIs ceC 4 w' a c st→Calls Tryz.prog 189 #[.slice a st.length c, .slice o.aa o.args.length o.ac] w' (StepP w' a r)):
 Calls Tryz.prog 53 #[.slice sa st.length sc, .agg (eoC o).toArray] w (DoP w (0,r)):=by
 have A:=LH (fun w' (hc:Chg [] w w')=>echk_any o w' (ha.kept hc) hog (ht.kept hc))
 have A2:=LH (fun w' (hc:Chg [] w w')=>vcheck_any sa sc st w' (h.1.kept hc) hg.1 hg.2 (ht.kept hc))
 have H:=LH h
 have HF:=LH hf
 have F:=LH F
 have HL:=LH hl
 rename_i F0
 rw[h1]at A
 rw[h2]at A2
 obtain⟨ent,id,op,aa,ac,args⟩:=o
 simp only[eoC]
 simp only at F HF
 clear ha hog ht hg h1 h h2 F0 hf hl
 have C1:=LH (((Chg.refl [] w).alloc (eoO ⟨ent,id,op,aa,ac,args⟩)).alloc (.cells #[.int .i64 0, .slice none 0 0] 69))
 have B1:=LH (blk_alloc (o':= .cells #[.int .i64 0, .slice none 0 0] 69) (heap_alloc_new w (eoO ⟨ent,id,op,aa,ac,args⟩)))
 have B5:=LH (heap_alloc_new (w.alloc (eoO ⟨ent,id,op,aa,ac,args⟩)) (.cells #[.int .i64 0, .slice none 0 0] 69))
 rw[World.size_alloc]at B5
 obtain⟨W1,hW1⟩:∃W1,W1=(w.alloc (eoO ⟨ent,id,op,aa,ac,args⟩)).alloc (.cells #[.int .i64 0, .slice none 0 0] 69):=⟨_,rfl⟩
 have hs:W1.heap.size=w.heap.size+2:=by rw[hW1,World.size_alloc,World.size_alloc]
 rw[←hW1]at C1 B1 B5
 unfold eoO at hW1 B1
 have k:=blk_cell B1.out
 have HS:=LH hs
 have HW1:=LH hW1
 clear hW1 hs
 go_enter Tryz.func53,Tryz.ntmps53
 go_upto_region 1 with fail
 rw[←HW1.out]
 go_wp2_with fail
 refine(A.out _ C1.out).mono ?_;rintro e w2 ⟨rfl,hc⟩
 have C2:=LH (C1.out.thenSame hc)
 have E1:=LH (hc.at (by simp) B1.out)
 have E5:=LH (hc.at (by simp) B5.out)
 clear hc k
 go_wp2_with fail
 refine(A2.out _ C2.out).mono ?_;rintro e w3 ⟨rfl,hc⟩
 have CC0:=LH (C2.out.thenSame hc)
 have PP0:=LH (hc.at (by simp) E1.out)
 have QQ0:=LH (hc.at (by simp) E5.out)
 have C3:=LH ((C2.out.thenSame hc).drew)
 have F1:=LH (((Chg.refl [] w3).drew).at (by simp) (hc.at (by simp) E1.out))
 have F5:=LH (((Chg.refl [] w3).drew).at (by simp) (hc.at (by simp) E5.out))
 clear hc
 have PP:=F1
 have QQ:=F5
 have CC:=C3
 have CL:=LH (fun w' (hc:Chg [] w w')=>clonec_in sa sc st w' (H.out.kept hc) (Nat.le_trans HL.out (by decide)))
 go_upto_region 7 with fail
 go_cut [9,10] (fun x9 x10 wx=>Hid (D7 w r (w.heap.size+1) x9 x10 wx))
 case first=>
  go_region_held3 (fun w'=>w'.cell? ⟨w.heap.size,2,none⟩=some (.string op)∧w'.cell? ⟨w.heap.size,3,none⟩=some (.slice aa args.length ac))
   (with_reducible first|exact two_cells PP.out|exact two_cells (blk_alloc PP.out)|exact two_cells (((Chg.refl [] _).drew).at (by simp) (blk_alloc PP0.out))|exact two_far PP.out TT.out|exact two_far (blk_alloc PP.out) (heap_alloc_new _ _))
   (first
     |(go_at_call 104;(with_reducible refine Calls.mono (steps_any _) ?_);rintro e w4 ⟨rfl,hm,hc⟩;have TT:=LH (hc.at (by simp) TT.out);have CC:=LH (CC.out.thenSame hc);have PP:=LH (hc.at (by simp) PP.out);have QQ:=LH (hc.at (by simp) QQ.out);have k10:=blk_cell TT.out;have f10:=blk_free TT.out;have MM:=LH hm;have l1:=lk_of MM.out HF.out;have l2:=lk_of (MM.out.al (.cells #[.int .i64 0, .slice none 0 0] 69)) HF.out;(try simp only[World.size_alloc,size_drew]at l1 l2);clear hm hc)
     |(go_at_call 104;(with_reducible refine Calls.mono (steps_any _) ?_);rintro e w4 ⟨rfl,hm,hc⟩;have CC:=LH (CC.out.thenSame hc);have PP:=LH (hc.at (by simp) PP.out);have QQ:=LH (hc.at (by simp) QQ.out);have MM:=LH hm;have l1:=lk_of MM.out HF.out;have l2:=lk_of (MM.out.al (.cells #[.int .i64 0, .slice none 0 0] 69)) HF.out;(try simp only[World.size_alloc,size_drew]at l1 l2);clear hm hc)
     |(go_at_call 104;(with_reducible refine Calls.mono (steps_any _) ?_);rintro e w4 ⟨rfl,hm,hc⟩;have LT:=LH (lt_of_heap QQ.out);have TT:=LH (hc.at (by simp) (heap_alloc_new _ (.cells #[.int .i64 0, .slice none 0 0] 69)));have CC:=LH ((CC.out.alloc _).thenSame hc);have PP:=LH (hc.at (by simp) (blk_alloc PP.out));have QQ:=LH (hc.at (by simp) (blk_alloc QQ.out));have k10:=blk_cell TT.out;have f10:=blk_free TT.out;have MM:=LH hm;have l1:=lk_of MM.out HF.out;have l2:=lk_of (MM.out.al (.cells #[.int .i64 0, .slice none 0 0] 69)) HF.out;(try simp only[World.size_alloc,size_drew]at l1 l2);clear hm hc)
     |(go_at_call 104;(with_reducible refine Calls.mono (steps_any _) ?_);rintro e w4 ⟨rfl,hm,hc⟩;have LT:=LH (lt_of_heap QQ0.out);have TT:=LH (hc.at (by simp) (((Chg.refl [] _).drew).at (by simp) (heap_alloc_new w3 (.cells #[.int .i64 0, .slice none 0 0] 69))));have CC:=LH (((CC0.out.alloc _).drew).thenSame hc);have PP:=LH (hc.at (by simp) (((Chg.refl [] _).drew).at (by simp) (blk_alloc PP0.out)));have QQ:=LH (hc.at (by simp) (((Chg.refl [] _).drew).at (by simp) (blk_alloc QQ0.out)));have k10:=blk_cell TT.out;have f10:=blk_free TT.out;have MM:=LH hm;have l1:=lk_of MM.out HF.out;have l2:=lk_of (MM.out.al (.cells #[.int .i64 0, .slice none 0 0] 69)) HF.out;(try simp only[World.size_alloc,size_drew]at l1 l2);clear hm hc)
     |(go_at_call 43;(with_reducible refine Calls.mono (CL.out _ CC.out) ?_);rintro e w5 ⟨ca,cc,rfl,hi,hb,hc⟩;have HCB:=LH (fun x hx=>Nat.le_trans CC.out.size (hb x hx));have TT:=LH (hc.at (by simp) TT.out);have CC:=LH (CC.out.thenSame hc);have PP:=LH (hc.at (by simp) PP.out);have QQ:=LH (hc.at (by simp) QQ.out);have k10:=blk_cell TT.out;have f10:=blk_free TT.out;have MM:=LH (MM.out.kept hc (by simp));have l1:=lk_of MM.out HF.out;have l2:=lk_of (MM.out.al (.cells #[.int .i64 0, .slice none 0 0] 69)) HF.out;(try simp only[World.size_alloc,size_drew]at l1 l2);have II:=LH hi;clear hi hb hc)
     |(go_at_call 43;(with_reducible refine Calls.mono (CL.out _ CC.out) ?_);rintro e w5 ⟨ca,cc,rfl,hi,hb,hc⟩;have HCB:=LH (fun x hx=>Nat.le_trans CC.out.size (hb x hx));have CC:=LH (CC.out.thenSame hc);have PP:=LH (hc.at (by simp) PP.out);have QQ:=LH (hc.at (by simp) QQ.out);have MM:=LH (MM.out.kept hc (by simp));have l1:=lk_of MM.out HF.out;have l2:=lk_of (MM.out.al (.cells #[.int .i64 0, .slice none 0 0] 69)) HF.out;(try simp only[World.size_alloc,size_drew]at l1 l2);have II:=LH hi;clear hi hb hc)
     |(go_at_call 43;(with_reducible refine Calls.mono (CL.out _ (CC.out.alloc _)) ?_);rintro e w5 ⟨ca,cc,rfl,hi,hb,hc⟩;have HCB:=LH (fun x hx=>Nat.le_trans (CC.out.alloc (.cells #[.int .i64 0, .slice none 0 0] 69)).size (hb x hx));have LT:=LH (lt_of_heap QQ.out);have TT:=LH (hc.at (by simp) (heap_alloc_new _ (.cells #[.int .i64 0, .slice none 0 0] 69)));have CC:=LH ((CC.out.alloc _).thenSame hc);have PP:=LH (hc.at (by simp) (blk_alloc PP.out));have QQ:=LH (hc.at (by simp) (blk_alloc QQ.out));have k10:=blk_cell TT.out;have f10:=blk_free TT.out;have MM:=LH ((MM.out.al _).kept hc (by simp));have l1:=lk_of MM.out HF.out;have l2:=lk_of (MM.out.al (.cells #[.int .i64 0, .slice none 0 0] 69)) HF.out;(try simp only[World.size_alloc,size_drew]at l1 l2);have II:=LH hi;clear hi hb hc)
     |((with_reducible refine Calls.mono (F.out _ CC.out _ _ II.out) ?_);rintro e w6 ⟨na,nc,va,vc,rfl,hn,hv,hfr,hc⟩;have HFR:=LH (fun x (hx:na=some x∨va=some x)=>hx.elim (fun hx=>((hfr x).1 hx).elim (fun e=>HCB.out x e) (fun e=>Nat.le_trans CC.out.size e)) (fun hx=>Nat.le_trans CC.out.size ((hfr x).2 hx)));have TT:=LH (hc.at (by simp) TT.out);have CC:=LH (CC.out.thenSame hc);have PP:=LH (hc.at (by simp) PP.out);have QQ:=LH (hc.at (by simp) QQ.out);have k10:=blk_cell TT.out;have f10:=blk_free TT.out;have HN:=LH hn;have HV:=LH hv;clear hn hv hfr hc)
     |((with_reducible refine Calls.mono (F.out _ CC.out _ _ II.out) ?_);rintro e w6 ⟨na,nc,va,vc,rfl,hn,hv,hfr,hc⟩;have HFR:=LH (fun x (hx:na=some x∨va=some x)=>hx.elim (fun hx=>((hfr x).1 hx).elim (fun e=>HCB.out x e) (fun e=>Nat.le_trans CC.out.size e)) (fun hx=>Nat.le_trans CC.out.size ((hfr x).2 hx)));have CC:=LH (CC.out.thenSame hc);have PP:=LH (hc.at (by simp) PP.out);have QQ:=LH (hc.at (by simp) QQ.out);have HN:=LH hn;have HV:=LH hv;clear hn hv hfr hc)
     |((with_reducible refine Calls.mono (F.out _ (CC.out.alloc _) _ _ (II.out.kept ((Chg.refl [] _).alloc _))) ?_);rintro e w6 ⟨na,nc,va,vc,rfl,hn,hv,hfr,hc⟩;have HFR:=LH (fun x (hx:na=some x∨va=some x)=>hx.elim (fun hx=>((hfr x).1 hx).elim (fun e=>HCB.out x e) (fun e=>Nat.le_trans (CC.out.alloc (.cells #[.int .i64 0, .slice none 0 0] 69)).size e)) (fun hx=>Nat.le_trans (CC.out.alloc (.cells #[.int .i64 0, .slice none 0 0] 69)).size ((hfr x).2 hx)));have LT:=LH (lt_of_heap QQ.out);have TT:=LH (hc.at (by simp) (heap_alloc_new _ (.cells #[.int .i64 0, .slice none 0 0] 69)));have CC:=LH ((CC.out.alloc _).thenSame hc);have PP:=LH (hc.at (by simp) (blk_alloc PP.out));have QQ:=LH (hc.at (by simp) (blk_alloc QQ.out));have k10:=blk_cell TT.out;have f10:=blk_free TT.out;have HN:=LH hn;have HV:=LH hv;clear hn hv hfr hc))
  all_goals go_wp2_with fail
  all_goals go_meet
  all_goals first
   |(with_reducible exact LH (d7_a QQ.out CC.out HN.out HV.out HFR.out))
   |(with_reducible exact LH (d7_b QQ.out CC.out HN.out HV.out HFR.out))
   |(have hlb:=LT.out;(try simp only[size_drew]at hlb);have hlc:=Nat.le_of_succ_le (Nat.le_of_lt hlb);with_reducible exact LH (d7_c TT.out QQ.out hlb hlc CC.out HN.out HV.out HFR.out))
 case rest=>
  obtain⟨na,nc,va,vc,b10,rfl,rfl,h10,hne,h5,hn,hv,hfr,hcc⟩:=hcut.out
  have K10:=LH h10
  have K5:=LH h5
  have HN:=LH hn
  have HV:=LH hv
  have HC:=LH hcc
  have HFR:=LH hfr
  have k10:=blk_cell h10
  have k5:=blk_cell h5
  have f5:=blk_free h5
  clear hcut h10 h5 hn hv hfr hcc
  go_upto_region 8 with fail
  go_region_law (fail)
  all_goals go_wp2_with fail
  all_goals
   have r1:=blk_cell (ans_two K5.out r.2.1 va r.2.2.length vc).1
   unfold ansW at r1
   refine bodyPost_ret (v:= .tuple #[.slice na r.1.length nc, .agg #[.int .i64 r.2.1, .slice va r.2.2.length vc], .int .i64 0]) (by simp[results,Tryz.results53,go_sem,r1]) rfl ?_
   exact(doP_end (r:=(0,r)) HFR.out K5.out (by omega) HC.out (fun h2=>HN.out.keptAns K5.out h2) (fun h2=>HV.out.keptAns K5.out h2)).drew
theorem do_ok2 (sa:Option Addr) (sc:Nat) (st:List Ce) (o:EOp) (r:List Ce×Int×List Ce) (w:World) (h:InIs ceC 4 w sa sc st) (hg:goodL st) (ha:ArgsIn w o.aa o.ac o.args) (hog:o.good) (ht:TabW w) (h1:chkZ o.p=0) (h2:checkZ st=0) (hl:st.length≤1048576)
 (hf:lookL Prod.fst stL o.op=some (o.op,190))
 (F:∀w' (_:Chg [] w w') a c,InIs ceC 4 w' a c st→Calls Tryz.prog 190 #[.slice a st.length c, .slice o.aa o.args.length o.ac] w' (StepP w' a r)):
 Calls Tryz.prog 53 #[.slice sa st.length sc, .agg (eoC o).toArray] w (DoP w (0,r)):=by
 have A:=LH (fun w' (hc:Chg [] w w')=>echk_any o w' (ha.kept hc) hog (ht.kept hc))
 have A2:=LH (fun w' (hc:Chg [] w w')=>vcheck_any sa sc st w' (h.1.kept hc) hg.1 hg.2 (ht.kept hc))
 have H:=LH h
 have HF:=LH hf
 have F:=LH F
 have HL:=LH hl
 rename_i F0
 rw[h1]at A
 rw[h2]at A2
 obtain⟨ent,id,op,aa,ac,args⟩:=o
 simp only[eoC]
 simp only at F HF
 clear ha hog ht hg h1 h h2 F0 hf hl
 have C1:=LH (((Chg.refl [] w).alloc (eoO ⟨ent,id,op,aa,ac,args⟩)).alloc (.cells #[.int .i64 0, .slice none 0 0] 69))
 have B1:=LH (blk_alloc (o':= .cells #[.int .i64 0, .slice none 0 0] 69) (heap_alloc_new w (eoO ⟨ent,id,op,aa,ac,args⟩)))
 have B5:=LH (heap_alloc_new (w.alloc (eoO ⟨ent,id,op,aa,ac,args⟩)) (.cells #[.int .i64 0, .slice none 0 0] 69))
 rw[World.size_alloc]at B5
 obtain⟨W1,hW1⟩:∃W1,W1=(w.alloc (eoO ⟨ent,id,op,aa,ac,args⟩)).alloc (.cells #[.int .i64 0, .slice none 0 0] 69):=⟨_,rfl⟩
 have hs:W1.heap.size=w.heap.size+2:=by rw[hW1,World.size_alloc,World.size_alloc]
 rw[←hW1]at C1 B1 B5
 unfold eoO at hW1 B1
 have k:=blk_cell B1.out
 have HS:=LH hs
 have HW1:=LH hW1
 clear hW1 hs
 go_enter Tryz.func53,Tryz.ntmps53
 go_upto_region 1 with fail
 rw[←HW1.out]
 go_wp2_with fail
 refine(A.out _ C1.out).mono ?_;rintro e w2 ⟨rfl,hc⟩
 have C2:=LH (C1.out.thenSame hc)
 have E1:=LH (hc.at (by simp) B1.out)
 have E5:=LH (hc.at (by simp) B5.out)
 clear hc k
 go_wp2_with fail
 refine(A2.out _ C2.out).mono ?_;rintro e w3 ⟨rfl,hc⟩
 have CC0:=LH (C2.out.thenSame hc)
 have PP0:=LH (hc.at (by simp) E1.out)
 have QQ0:=LH (hc.at (by simp) E5.out)
 have C3:=LH ((C2.out.thenSame hc).drew)
 have F1:=LH (((Chg.refl [] w3).drew).at (by simp) (hc.at (by simp) E1.out))
 have F5:=LH (((Chg.refl [] w3).drew).at (by simp) (hc.at (by simp) E5.out))
 clear hc
 have PP:=F1
 have QQ:=F5
 have CC:=C3
 have CL:=LH (fun w' (hc:Chg [] w w')=>clonec_in sa sc st w' (H.out.kept hc) (Nat.le_trans HL.out (by decide)))
 go_upto_region 7 with fail
 go_cut [9,10] (fun x9 x10 wx=>Hid (D7 w r (w.heap.size+1) x9 x10 wx))
 case first=>
  go_region_held3 (fun w'=>w'.cell? ⟨w.heap.size,2,none⟩=some (.string op)∧w'.cell? ⟨w.heap.size,3,none⟩=some (.slice aa args.length ac))
   (with_reducible first|exact two_cells PP.out|exact two_cells (blk_alloc PP.out)|exact two_cells (((Chg.refl [] _).drew).at (by simp) (blk_alloc PP0.out))|exact two_far PP.out TT.out|exact two_far (blk_alloc PP.out) (heap_alloc_new _ _))
   (first
     |(go_at_call 104;(with_reducible refine Calls.mono (steps_any _) ?_);rintro e w4 ⟨rfl,hm,hc⟩;have TT:=LH (hc.at (by simp) TT.out);have CC:=LH (CC.out.thenSame hc);have PP:=LH (hc.at (by simp) PP.out);have QQ:=LH (hc.at (by simp) QQ.out);have k10:=blk_cell TT.out;have f10:=blk_free TT.out;have MM:=LH hm;have l1:=lk_of MM.out HF.out;have l2:=lk_of (MM.out.al (.cells #[.int .i64 0, .slice none 0 0] 69)) HF.out;(try simp only[World.size_alloc,size_drew]at l1 l2);clear hm hc)
     |(go_at_call 104;(with_reducible refine Calls.mono (steps_any _) ?_);rintro e w4 ⟨rfl,hm,hc⟩;have CC:=LH (CC.out.thenSame hc);have PP:=LH (hc.at (by simp) PP.out);have QQ:=LH (hc.at (by simp) QQ.out);have MM:=LH hm;have l1:=lk_of MM.out HF.out;have l2:=lk_of (MM.out.al (.cells #[.int .i64 0, .slice none 0 0] 69)) HF.out;(try simp only[World.size_alloc,size_drew]at l1 l2);clear hm hc)
     |(go_at_call 104;(with_reducible refine Calls.mono (steps_any _) ?_);rintro e w4 ⟨rfl,hm,hc⟩;have LT:=LH (lt_of_heap QQ.out);have TT:=LH (hc.at (by simp) (heap_alloc_new _ (.cells #[.int .i64 0, .slice none 0 0] 69)));have CC:=LH ((CC.out.alloc _).thenSame hc);have PP:=LH (hc.at (by simp) (blk_alloc PP.out));have QQ:=LH (hc.at (by simp) (blk_alloc QQ.out));have k10:=blk_cell TT.out;have f10:=blk_free TT.out;have MM:=LH hm;have l1:=lk_of MM.out HF.out;have l2:=lk_of (MM.out.al (.cells #[.int .i64 0, .slice none 0 0] 69)) HF.out;(try simp only[World.size_alloc,size_drew]at l1 l2);clear hm hc)
     |(go_at_call 104;(with_reducible refine Calls.mono (steps_any _) ?_);rintro e w4 ⟨rfl,hm,hc⟩;have LT:=LH (lt_of_heap QQ0.out);have TT:=LH (hc.at (by simp) (((Chg.refl [] _).drew).at (by simp) (heap_alloc_new w3 (.cells #[.int .i64 0, .slice none 0 0] 69))));have CC:=LH (((CC0.out.alloc _).drew).thenSame hc);have PP:=LH (hc.at (by simp) (((Chg.refl [] _).drew).at (by simp) (blk_alloc PP0.out)));have QQ:=LH (hc.at (by simp) (((Chg.refl [] _).drew).at (by simp) (blk_alloc QQ0.out)));have k10:=blk_cell TT.out;have f10:=blk_free TT.out;have MM:=LH hm;have l1:=lk_of MM.out HF.out;have l2:=lk_of (MM.out.al (.cells #[.int .i64 0, .slice none 0 0] 69)) HF.out;(try simp only[World.size_alloc,size_drew]at l1 l2);clear hm hc)
     |(go_at_call 43;(with_reducible refine Calls.mono (CL.out _ CC.out) ?_);rintro e w5 ⟨ca,cc,rfl,hi,hb,hc⟩;have HCB:=LH (fun x hx=>Nat.le_trans CC.out.size (hb x hx));have TT:=LH (hc.at (by simp) TT.out);have CC:=LH (CC.out.thenSame hc);have PP:=LH (hc.at (by simp) PP.out);have QQ:=LH (hc.at (by simp) QQ.out);have k10:=blk_cell TT.out;have f10:=blk_free TT.out;have MM:=LH (MM.out.kept hc (by simp));have l1:=lk_of MM.out HF.out;have l2:=lk_of (MM.out.al (.cells #[.int .i64 0, .slice none 0 0] 69)) HF.out;(try simp only[World.size_alloc,size_drew]at l1 l2);have II:=LH hi;clear hi hb hc)
     |(go_at_call 43;(with_reducible refine Calls.mono (CL.out _ CC.out) ?_);rintro e w5 ⟨ca,cc,rfl,hi,hb,hc⟩;have HCB:=LH (fun x hx=>Nat.le_trans CC.out.size (hb x hx));have CC:=LH (CC.out.thenSame hc);have PP:=LH (hc.at (by simp) PP.out);have QQ:=LH (hc.at (by simp) QQ.out);have MM:=LH (MM.out.kept hc (by simp));have l1:=lk_of MM.out HF.out;have l2:=lk_of (MM.out.al (.cells #[.int .i64 0, .slice none 0 0] 69)) HF.out;(try simp only[World.size_alloc,size_drew]at l1 l2);have II:=LH hi;clear hi hb hc)
     |(go_at_call 43;(with_reducible refine Calls.mono (CL.out _ (CC.out.alloc _)) ?_);rintro e w5 ⟨ca,cc,rfl,hi,hb,hc⟩;have HCB:=LH (fun x hx=>Nat.le_trans (CC.out.alloc (.cells #[.int .i64 0, .slice none 0 0] 69)).size (hb x hx));have LT:=LH (lt_of_heap QQ.out);have TT:=LH (hc.at (by simp) (heap_alloc_new _ (.cells #[.int .i64 0, .slice none 0 0] 69)));have CC:=LH ((CC.out.alloc _).thenSame hc);have PP:=LH (hc.at (by simp) (blk_alloc PP.out));have QQ:=LH (hc.at (by simp) (blk_alloc QQ.out));have k10:=blk_cell TT.out;have f10:=blk_free TT.out;have MM:=LH ((MM.out.al _).kept hc (by simp));have l1:=lk_of MM.out HF.out;have l2:=lk_of (MM.out.al (.cells #[.int .i64 0, .slice none 0 0] 69)) HF.out;(try simp only[World.size_alloc,size_drew]at l1 l2);have II:=LH hi;clear hi hb hc)
     |((with_reducible refine Calls.mono (F.out _ CC.out _ _ II.out) ?_);rintro e w6 ⟨na,nc,va,vc,rfl,hn,hv,hfr,hc⟩;have HFR:=LH (fun x (hx:na=some x∨va=some x)=>hx.elim (fun hx=>((hfr x).1 hx).elim (fun e=>HCB.out x e) (fun e=>Nat.le_trans CC.out.size e)) (fun hx=>Nat.le_trans CC.out.size ((hfr x).2 hx)));have TT:=LH (hc.at (by simp) TT.out);have CC:=LH (CC.out.thenSame hc);have PP:=LH (hc.at (by simp) PP.out);have QQ:=LH (hc.at (by simp) QQ.out);have k10:=blk_cell TT.out;have f10:=blk_free TT.out;have HN:=LH hn;have HV:=LH hv;clear hn hv hfr hc)
     |((with_reducible refine Calls.mono (F.out _ CC.out _ _ II.out) ?_);rintro e w6 ⟨na,nc,va,vc,rfl,hn,hv,hfr,hc⟩;have HFR:=LH (fun x (hx:na=some x∨va=some x)=>hx.elim (fun hx=>((hfr x).1 hx).elim (fun e=>HCB.out x e) (fun e=>Nat.le_trans CC.out.size e)) (fun hx=>Nat.le_trans CC.out.size ((hfr x).2 hx)));have CC:=LH (CC.out.thenSame hc);have PP:=LH (hc.at (by simp) PP.out);have QQ:=LH (hc.at (by simp) QQ.out);have HN:=LH hn;have HV:=LH hv;clear hn hv hfr hc)
     |((with_reducible refine Calls.mono (F.out _ (CC.out.alloc _) _ _ (II.out.kept ((Chg.refl [] _).alloc _))) ?_);rintro e w6 ⟨na,nc,va,vc,rfl,hn,hv,hfr,hc⟩;have HFR:=LH (fun x (hx:na=some x∨va=some x)=>hx.elim (fun hx=>((hfr x).1 hx).elim (fun e=>HCB.out x e) (fun e=>Nat.le_trans (CC.out.alloc (.cells #[.int .i64 0, .slice none 0 0] 69)).size e)) (fun hx=>Nat.le_trans (CC.out.alloc (.cells #[.int .i64 0, .slice none 0 0] 69)).size ((hfr x).2 hx)));have LT:=LH (lt_of_heap QQ.out);have TT:=LH (hc.at (by simp) (heap_alloc_new _ (.cells #[.int .i64 0, .slice none 0 0] 69)));have CC:=LH ((CC.out.alloc _).thenSame hc);have PP:=LH (hc.at (by simp) (blk_alloc PP.out));have QQ:=LH (hc.at (by simp) (blk_alloc QQ.out));have k10:=blk_cell TT.out;have f10:=blk_free TT.out;have HN:=LH hn;have HV:=LH hv;clear hn hv hfr hc))
  all_goals go_wp2_with fail
  all_goals go_meet
  all_goals first
   |(with_reducible exact LH (d7_a QQ.out CC.out HN.out HV.out HFR.out))
   |(with_reducible exact LH (d7_b QQ.out CC.out HN.out HV.out HFR.out))
   |(have hlb:=LT.out;(try simp only[size_drew]at hlb);have hlc:=Nat.le_of_succ_le (Nat.le_of_lt hlb);with_reducible exact LH (d7_c TT.out QQ.out hlb hlc CC.out HN.out HV.out HFR.out))
 case rest=>
  obtain⟨na,nc,va,vc,b10,rfl,rfl,h10,hne,h5,hn,hv,hfr,hcc⟩:=hcut.out
  have K10:=LH h10
  have K5:=LH h5
  have HN:=LH hn
  have HV:=LH hv
  have HC:=LH hcc
  have HFR:=LH hfr
  have k10:=blk_cell h10
  have k5:=blk_cell h5
  have f5:=blk_free h5
  clear hcut h10 h5 hn hv hfr hcc
  go_upto_region 8 with fail
  go_region_law (fail)
  all_goals go_wp2_with fail
  all_goals
   have r1:=blk_cell (ans_two K5.out r.2.1 va r.2.2.length vc).1
   unfold ansW at r1
   refine bodyPost_ret (v:= .tuple #[.slice na r.1.length nc, .agg #[.int .i64 r.2.1, .slice va r.2.2.length vc], .int .i64 0]) (by simp[results,Tryz.results53,go_sem,r1]) rfl ?_
   exact(doP_end (r:=(0,r)) HFR.out K5.out (by omega) HC.out (fun h2=>HN.out.keptAns K5.out h2) (fun h2=>HV.out.keptAns K5.out h2)).drew
end
end Go.Proofs.YtmofknmeljdodaaGreatDoor
