/- Chapter 52: the arguments: records and calls. No condition but those that the statements name. -/
import Derived.Laws.StructEq
import Derived.StillTailTactics
import Derived.Lib.MinMax
import Derived.Test.YtmofknmeljdodaaGreatDoorZS06
import Derived.Test.YtmofknmeljdodaaGreatDoorZS03
import Derived.Test.YtmofknmeljdodaaGreatDoorZB03
import Derived.Test.YtmofknmeljdodaaGreatDoorZS01
import Derived.Test.YtmofknmeljdodaaGreatDoorZB07
import Derived.Test.YtmofknmeljdodaaGreatDoorZS02
import Derived.Test.YtmofknmeljdodaaGreatDoorZB08
set_option maxHeartbeats 100000000
set_option maxRecDepth 100000
set_option linter.unusedVariables false
set_option linter.unusedSimpArgs false
open List renaming getElem_toArray→gTA,getElem_cons_zero→gCZ,getElem_cons_succ→gCS,setIfInBounds_toArray→sTA,set_cons_zero→sCZ,set_cons_succ→sCS
namespace Go.Proofs.YtmofknmeljdodaaGreatDoor
section
open Go.RowKit Go.ChangeShapes Go.WideShapes Go.Deep
structure UR where
 id:ByteArray
 tn:ByteArray
 fn:ByteArray
 per:Int
 us:Us
 fl:Bool
structure OpU where
 k:Int
 r:UR
 p:Int
def Us.good (u:Us):Prop:=(Lit.int .i64 u.inv).wf=true∧(Lit.int .i64 u.steps).wf=true∧(Lit.int .i64 u.ticks).wf=true∧(Lit.int .i64 u.units).wf=true
def UR.good (r:UR):Prop:=r.id.size≤maxLen∧r.tn.size≤maxLen∧r.fn.size≤maxLen∧(Lit.int .i64 r.per).wf=true∧r.us.good
def OpU.good (o:OpU):Prop:=(Lit.int .i64 o.k).wf=true∧o.r.good∧(Lit.int .i64 o.p).wf=true
section
variable {H:Type} {enc:TypeId×Value→H} {w:World} {base:Nat} {spare:Nat→Bool} {held:Bool}
end
end
section
open Go.RowKit
def eqU (a b:Us):Bool:=a.inv==b.inv&&a.steps==b.steps&&a.ticks==b.ticks&&a.units==b.units
def eqR (a b:UR):Bool:=a.id==b.id&&a.tn==b.tn&&a.fn==b.fn&&a.per==b.per&&eqU a.us b.us&&a.fl==b.fl
theorem eqU_iff {a b:Us}:eqU a b=true↔a=b:=by
 obtain⟨a1,a2,a3,a4⟩:=a
 obtain⟨b1,b2,b3,b4⟩:=b
 simp[eqU,and_assoc]
theorem eqR_iff {a b:UR}:eqR a b=true↔a=b:=by
 obtain⟨a1,a2,a3,a4,a5,a6⟩:=a
 obtain⟨b1,b2,b3,b4,b5,b6⟩:=b
 simp[eqR,eqU_iff,and_assoc]
def urV (r:UR):Value:= .agg #[.string r.id, .string r.tn, .string r.fn, .int .i64 r.per, .int .i64 r.us.inv, .int .i64 r.us.steps, .int .i64 r.us.ticks, .int .i64 r.us.units, .bool r.fl]
theorem structUs:Tryz.prog.underlying 96=some (.struct (Tryz.prog.fieldsOf 96)):=by kernel_rfl
theorem structUr:Tryz.prog.underlying 103=some (.struct (Tryz.prog.fieldsOf 103)):=by kernel_rfl
theorem heldUs:Tryz.prog.stoodInHeld 96=false:=by kernel_rfl
theorem heldUr:Tryz.prog.stoodInHeld 103=false:=by kernel_rfl
theorem listSU (a b:ByteArray):a.toList=b.toList↔a=b:=by
 have:=beq_toListBytes a b
 constructor
 ·intro h
  rw[h]at this
  simpa using this
 ·rintro rfl
  rfl
theorem eqlU_in (d:Nat) (a b:Us) (w:World):(Op.equalIn (d+2) 96 (usV a) (usV b)).run Tryz.prog w= .ok (eqU a b) w:=by
 obtain⟨a1,a2,a3,a4⟩:=a
 obtain⟨b1,b2,b3,b4⟩:=b
 simp only[usV,eqU]
 rw[show d+2=(d+1)+1 from rfl,run_equalIn_struct w (d+1) 96 _ _ structUs heldUs]
 simp only[Program.fieldsOf,Tryz.underlying96]
 go_simp
 by_cases h1:a1=b1<;>by_cases h2:a2=b2<;>by_cases h3:a3=b3<;>by_cases h4:a4=b4<;>simp[h1,h2,h3,h4]
theorem eqlR_in (d:Nat) (a b:UR) (w:World):(Op.equalIn (d+3) 103 (urV a) (urV b)).run Tryz.prog w= .ok (eqR a b) w:=by
 obtain⟨a1,a2,a3,a4,a5,a6⟩:=a
 obtain⟨b1,b2,b3,b4,b5,b6⟩:=b
 have hU:=eqlU_in d a5 b5
 simp only[urV,eqR]
 obtain⟨a51,a52,a53,a54⟩:=a5
 obtain⟨b51,b52,b53,b54⟩:=b5
 simp only[usV]at hU⊢
 generalize eqU _ _=ub at*
 rw[show d+3=(d+2)+1 from rfl,run_equalIn_struct w (d+2) 103 _ _ structUr heldUr]
 simp only[Program.fieldsOf,Tryz.underlying103]
 go_simp
 cases h1:a1==b1<;>cases h2:a2==b2<;>cases h3:a3==b3<;>cases h4:a4==b4<;>cases ub<;>cases h6:a6==b6<;>simp[hU,listSU]<;>simp_all
theorem neqR (a b:UR) (w:World):(binOp .neq 103 (urV a) (urV b)).run Tryz.prog w= .ok (.bool (!eqR a b)) w:=by
 unfold urV
 rw[run_neq_struct]
 have:=eqlR_in 9997 a b w
 unfold urV at this
 rw[this]
 rfl
end
section
section
variable {α:Type} {kf:α→ByteArray}
theorem lookL_none {l:List α} {k:ByteArray}:lookL kf l k=none↔∀x∈l,kf x≠k:=by
 unfold lookL;rw[List.find?_eq_none];simp
theorem putL_new {l:List α} {x:α} (h:lookL kf l (kf x)=none):putL kf l x=l++[x]:=by
 unfold putL
 rw[if_neg]
 simp only[List.any_eq_true,beq_iff_eq,not_exists,not_and]
 exact fun y hy=>lookL_none.1 h y hy
end
end
section
open Go.RowKit
structure CR where
 r:UR
 p:Int
def crC (c:CR):List Value:=[.string c.r.id, .string c.r.tn, .string c.r.fn, .int .i64 c.r.per, .int .i64 c.r.us.inv, .int .i64 c.r.us.steps, .int .i64 c.r.us.ticks, .int .i64 c.r.us.units, .bool c.r.fl, .int .i64 c.p]
def crV (c:CR):Value:= .agg #[.string c.r.id, .string c.r.tn, .string c.r.fn, .int .i64 c.r.per, .int .i64 c.r.us.inv, .int .i64 c.r.us.steps, .int .i64 c.r.us.ticks, .int .i64 c.r.us.units, .bool c.r.fl, .int .i64 c.p]
theorem crLen (c:CR):(crC c).length=10:=rfl
theorem crOne (c:CR):∀u∈crC c,u.oneCell'=true:=by
 intro u hu;simp only[crC,List.mem_cons,List.not_mem_nil,or_false]at hu
 rcases hu with rfl|rfl|rfl|rfl|rfl|rfl|rfl|rfl|rfl|rfl<;>rfl
structure Led where
 l:List CR
 p:Int
def idxFrom (n:Nat):List CR→List (ByteArray×Int)
 |[]=>[]
 |c::l=>(c.r.id,(n:Int))::idxFrom (n+1) l
def plV (x:ByteArray×Int):Value:= .int .i64 x.2
def LIs (w:World) (b mb:Nat) (v:Value) (s:Led):Prop:=
 w.heap[b]? =some (.cells #[v, .map (some mb), .int .i64 s.p] 198 (0,0))∧MapIs Prod.fst plV w mb (idxFrom 0 s.l)∧RowOf crC 10 w 0 205 v s.l
theorem row_block {α:Type} {cf:α→List Value} {sz:Nat} {w:World} {base:Nat} {e:TypeId} {v:Value} {l:List α} (h:RowOf cf sz w base e v l) {g:Nat} (hg:v.ownBlock=some g):∃cur,w.heap[g]? =some (.cells cur e (0,0)):=by
 rcases h.2 with ⟨h2,_⟩|⟨g',cap,cur,hv,_,hh,_⟩
 ·rw[h2]at hg;cases hg
 ·rw[hv]at hg
  cases hg
  exact⟨cur,hh⟩
def lfp (b mb:Nat) (v:Value):List Nat:=b::mb::v.ownBlock.toList
variable {w w':World} {b mb:Nat} {v:Value} {s:Led}
theorem mem_lfp {x:Nat}:x∈lfp b mb v↔x=b∨x=mb∨v.ownBlock=some x:=by
 unfold lfp;simp
theorem LIs.lt (h:LIs w b mb v s):∀x∈lfp b mb v,x<w.heap.size:=by
 intro x hx
 rcases mem_lfp.1 hx with rfl|rfl|hx
 ·exact lt_of_heap h.1
 ·exact h.2.1.lt
 ·exact(h.2.2.block x hx).2
theorem LIs.kept {S:List Nat} (h:LIs w b mb v s) (hc:Chg S w w') (hS:∀x∈lfp b mb v,x∉S):LIs w' b mb v s:=
 ⟨hc.at (hS _ (mem_lfp.2 (.inl rfl))) h.1,h.2.1.kept hc (hS _ (mem_lfp.2 (.inr (.inl rfl)))),h.2.2.kept hc (fun g hg=>hS g (mem_lfp.2 (.inr (.inr hg))))⟩
theorem LIs.keptN (h:LIs w b mb v s) (hc:Chg [] w w'):LIs w' b mb v s:=h.kept hc (by simp)
theorem LIs.apart (h:LIs w b mb v s):b≠mb∧v.ownBlock≠some b∧v.ownBlock≠some mb:=by
 refine⟨fun e=> ?_,fun e=> ?_,fun e=> ?_⟩
 ·obtain⟨es,c,hm,_⟩:=h.2.1
  rw[←e,h.1]at hm;cases hm
 ·obtain⟨cur,hh⟩:=row_block h.2.2 e
  rw[h.1]at hh;simp at hh
 ·obtain⟨cur,hh⟩:=row_block h.2.2 e
  obtain⟨es,c,hm,_⟩:=h.2.1
  rw[hm]at hh;cases hh
theorem new_any (w:World):Calls Tryz.prog 21 #[] w fun e w'=>∃b mb,e= .returned (.pointer (some ⟨b,0,none⟩))∧LIs w' b mb (.slice none 0 0) ⟨[],0⟩∧w.heap.size≤b∧w.heap.size≤mb∧Chg [] w w':=by
 have hmm:= @run_makeMap Tryz.prog
 go_enter Tryz.func21,Tryz.ntmps21
 go_wp2
 go_ret
 have hc:Chg [] w ((w.alloc (.map #[] 0)).alloc (.cells #[.slice none 0 0, .map (some w.heap.size), .int .i64 0] 198)):=((Chg.refl _ _).alloc _).alloc _
 refine⟨w.heap.size+1,w.heap.size,rfl,⟨?_, ?_,RowOf.nil _ _ _⟩,by omega,by omega,hc⟩
 ·have:=heap_alloc_new (w.alloc (.map #[] 0)) (.cells #[.slice none 0 0, .map (some w.heap.size), .int .i64 0] 198)
  rw[World.size_alloc]at this
  exact this
 ·exact(mapIs_new (kf:=Prod.fst) (vf:=plV) w).kept (S:=[]) ((Chg.refl _ _).alloc _) (by simp)
theorem made_any (h:LIs w b mb v s):Calls Tryz.prog 66 #[.pointer (some ⟨b,0,none⟩)] w fun e w'=>e= .returned (.bool true)∧w=w':=by
 have c:=blk_cell h.1
 clear h
 have hm:=fun w=>run_neq_map_nil (P:=Tryz.prog) w 195 9 3 (some mb) Tryz.underlying195
 go_enter Tryz.func66,Tryz.ntmps66
 go_wp2
 go_ret
 exact⟨rfl,rfl⟩
end
section
open Go.RowKit
end
section
open Go.RowKit
def findC (l:List CR) (id:ByteArray):Option CR:=l.find? (fun c=>c.r.id==id)
def checkR (r:UR):Int:=if(idB r.id&&nameB r.tn&&nameB r.fn)=true then(if r.per<0∨1073741824<r.per then 2 else if usB r.us=true then 0 else 2)else 4
def recE (s:Led) (r:UR):Int:=if checkR r=0 then(match findC s.l r.id with|some c=>if eqR c.r r=true then 0 else 19|none=>if s.l.length=4000 then 3 else 0)else checkR r
def recS (s:Led) (r:UR):Led:=if checkR r=0 then(match findC s.l r.id with|some _=>s|none=>if s.l.length=4000 then s else⟨s.l++[⟨r,max r.per s.p⟩],s.p⟩)else s
theorem idx_none:∀(l:List CR) (n:Nat) (id:ByteArray),findC l id=none→lookL Prod.fst (idxFrom n l) id=none:=by
 intro l
 induction l with
 |nil=>intro n id _;rfl
 |cons c l ih=>
  intro n id h
  unfold findC at h
  rw[List.find?_cons]at h
  unfold idxFrom lookL
  rw[List.find?_cons]
  cases hc:c.r.id==id with
  |true=>rw[hc]at h;simp at h
  |false=>
   rw[hc]at h
   simp only[]
   exact ih (n+1) id h
theorem idx_some:∀(l:List CR) (n:Nat) (id:ByteArray) (c:CR),findC l id=some c→∃i:Nat,lookL Prod.fst (idxFrom n l) id=some (c.r.id,((n+i:Nat):Int))∧l[i]? =some c:=by
 intro l
 induction l with
 |nil=>intro n id c h;cases h
 |cons d l ih=>
  intro n id c h
  unfold findC at h
  rw[List.find?_cons]at h
  unfold idxFrom lookL
  rw[List.find?_cons]
  cases hc:d.r.id==id with
  |true=>
   rw[hc]at h
   simp only[Option.some.injEq]at h
   subst h
   exact⟨0,rfl,rfl⟩
  |false=>
   rw[hc]at h
   simp only[]
   obtain⟨i,h1,h2⟩:=ih (n+1) id c h
   refine⟨i+1, ?_,by simpa using h2⟩
   rw[show n+(i+1)=n+1+i by omega]
   exact h1
theorem idx_snoc:∀(l:List CR) (n:Nat) (c:CR),idxFrom n l++[(c.r.id,((n+l.length:Nat):Int))]=idxFrom n (l++[c]):=by
 intro l
 induction l with
 |nil=>intro n c;rfl
 |cons d l ih=>
  intro n c
  have:=ih (n+1) c
  simp only[idxFrom,List.cons_append,List.length_cons]
  rw[←this,show n+1+l.length=n+(l.length+1) by omega]
end
section
open Go.RowKit
variable {w w':World} {b mb:Nat} {v:Value} {s:Led}
theorem crInfo:(Tryz.prog.info? 205).map (fun i=>(i.zero,i.size,i.bytes))=some (some (.agg #[.string ⟨#[]⟩, .string ⟨#[]⟩, .string ⟨#[]⟩, .int .i64 0, .int .i64 0, .int .i64 0, .int .i64 0, .int .i64 0, .bool false, .int .i64 0]),10,104):=by kernel_rfl
theorem zeroI (w:World):(zeroValue 3).run Tryz.prog w= .ok (.int .i64 0) w:=by kernel_rfl
def RecPost (w:World) (b mb:Nat) (v:Value) (n:Int) (S:Led) (e:Ending) (w':World):Prop:=
 e= .returned (.int .i64 n)∧∃v',LIs w' b mb v' S∧(∀g,v'.ownBlock=some g→v.ownBlock=some g∨w.heap.size≤g)∧Chg (lfp b mb v) w w'
theorem RecPost.same (h:LIs w b mb v s) (hc:Chg [] w w') (n:Int):RecPost w b mb v n s (.returned (.int .i64 n)) w':=⟨rfl,v,h.keptN hc,fun g hg=> .inl hg,hc.mono (by simp)⟩
def urO (r:UR):Obj:= .cells #[.string r.id, .string r.tn, .string r.fn, .int .i64 r.per, .int .i64 r.us.inv, .int .i64 r.us.steps, .int .i64 r.us.ticks, .int .i64 r.us.units, .bool r.fl] 103
theorem rec_name (r:UR) (hg:r.good) (h:LIs w b mb v s) (hn:(idB r.id&&nameB r.tn&&nameB r.fn)=false):Calls Tryz.prog 23 #[.pointer (some ⟨b,0,none⟩),urV r] w (RecPost w b mb v 4 s):=by
 have H:=LH h
 clear h
 have hbx:=LH (heap_alloc_new w (urO r))
 have hC0:=LH (show Chg [] w (w.alloc (urO r))from(Chg.refl _ _).alloc _)
 obtain⟨W1,hW1⟩:∃W1,W1=w.alloc (urO r):=⟨_,rfl⟩
 have k1:=blk_cell hbx.out
 rw[←hW1]at hbx hC0 k1
 unfold urO at hW1 hbx
 have HW1:=LH hW1
 have A1:=LH (fun w'=>ID_any r.id w' hg.1)
 have A2:=LH (fun w'=>name_any r.tn w' hg.2.1)
 have A3:=LH (fun w'=>name_any r.fn w' hg.2.2.1)
 have M1:=LH (fun w' (hc:Chg [] w w')=>made_any (H.out.keptN hc))
 clear hW1
 have hn':(idB r.id=false)∨(idB r.id=true∧nameB r.tn=false)∨(idB r.id=true∧nameB r.tn=true∧nameB r.fn=false):=by
  cases h1:idB r.id<;>cases h2:nameB r.tn<;>cases h3:nameB r.fn<;>simp_all
 clear hn
 unfold urV
 rcases hn' with h1|⟨h1,h2⟩|⟨h1,h2,h3⟩
 all_goals
  go_enter Tryz.func23,Tryz.ntmps23
  go_wp2_with (first|(rw[←HW1.out];(go_at_call 66;(with_reducible refine(M1.out _ hC0.out).mono ?_);rintro e w1 ⟨rfl,rfl⟩))|(go_at_call 67;(with_reducible refine(A1.out _).mono ?_);rw[h1];rintro e w2 ⟨rfl,hc2⟩;have C2:=LH (hC0.out.thenSame (Chg.ofBelow hc2));have B2:=LH ((Chg.ofBelow (S:=[]) hc2).at (by simp) hbx.out);have k2:=blk_cell B2.out;clear hc2)|(go_at_call 68;(with_reducible refine(A2.out _).mono ?_);rw[h2];rintro e w3 ⟨rfl,hc3⟩;have C3:=LH (C2.out.thenSame hc3);have B3:=LH (hc3.at (by simp) B2.out);have k3:=blk_cell B3.out;clear hc3)|(go_at_call 68;(with_reducible refine(A3.out _).mono ?_);rw[h3];rintro e w4 ⟨rfl,hc4⟩;have C4:=LH (C3.out.thenSame hc4);clear hc4))
  go_ret
  first|exact RecPost.same H.out C2.out _|exact RecPost.same H.out C3.out _|exact RecPost.same H.out C4.out _
theorem rec_range (r:UR) (hg:r.good) (h:LIs w b mb v s) (hn:(idB r.id&&nameB r.tn&&nameB r.fn)=true) (hr:(r.per<0∨1073741824<r.per)∨usB r.us=false):Calls Tryz.prog 23 #[.pointer (some ⟨b,0,none⟩),urV r] w (RecPost w b mb v 2 s):=by
 have H:=LH h
 clear h
 have hbx:=LH (heap_alloc_new w (urO r))
 have hC0:=LH (show Chg [] w (w.alloc (urO r))from(Chg.refl _ _).alloc _)
 obtain⟨W1,hW1⟩:∃W1,W1=w.alloc (urO r):=⟨_,rfl⟩
 have k1:=blk_cell hbx.out
 rw[←hW1]at hbx hC0 k1
 unfold urO at hW1 hbx
 have HW1:=LH hW1
 have A1:=LH (fun w'=>ID_any r.id w' hg.1)
 have A2:=LH (fun w'=>name_any r.tn w' hg.2.1)
 have A3:=LH (fun w'=>name_any r.fn w' hg.2.2.1)
 have M1:=LH (fun w' (hc:Chg [] w w')=>made_any (H.out.keptN hc))
 clear hW1
 have A4:=LH (fun w'=>mvalid_any r.us w')
 unfold usV at A4
 simp only[Bool.and_eq_true]at hn
 obtain⟨⟨h1,h2⟩,h3⟩:=hn
 have hr':(r.per<0)∨(0≤r.per∧1073741824<r.per)∨(0≤r.per∧r.per≤1073741824∧usB r.us=false):=by
  by_cases q1:r.per<0
  ·exact .inl q1
  ·by_cases q2:1073741824<r.per
   ·exact .inr (.inl ⟨by omega,q2⟩)
   ·exact .inr (.inr ⟨by omega,by omega,hr.resolve_left (by omega)⟩)
 clear hr hg
 unfold urV
 rcases hr' with q1|⟨q1,q2⟩|⟨q1,q2,h4⟩
 all_goals
  go_enter Tryz.func23,Tryz.ntmps23
  go_wp2_with (first|(rw[←HW1.out];(go_at_call 66;(with_reducible refine(M1.out _ hC0.out).mono ?_);rintro e w1 ⟨rfl,rfl⟩))|(go_at_call 67;(with_reducible refine(A1.out _).mono ?_);rw[h1];rintro e w2 ⟨rfl,hc2⟩;have C2:=LH (hC0.out.thenSame (Chg.ofBelow hc2));have B2:=LH ((Chg.ofBelow (S:=[]) hc2).at (by simp) hbx.out);have k2:=blk_cell B2.out;clear hc2)|(go_at_call 68;(with_reducible refine(A2.out _).mono ?_);rw[h2];rintro e w3 ⟨rfl,hc3⟩;have C3:=LH (C2.out.thenSame hc3);have B3:=LH (hc3.at (by simp) B2.out);have k3:=blk_cell B3.out;clear hc3)|(go_at_call 68;(with_reducible refine(A3.out _).mono ?_);rw[h3];rintro e w4 ⟨rfl,hc4⟩;have C4:=LH (C3.out.thenSame hc4);have B4:=LH (hc4.at (by simp) B3.out);have k4:=blk_cell B4.out;clear hc4)|(go_at_call 69;(with_reducible refine(A4.out _).mono ?_);rw[h4];rintro e w5 ⟨rfl,hc5⟩;have C5:=LH (C4.out.thenSame hc5);clear hc5))
  go_ret
  first|exact RecPost.same H.out C4.out _|exact RecPost.same H.out C5.out _
end
section
open Go.RowKit
variable {w w':World} {b mb:Nat} {v:Value} {s:Led}
theorem hit_run (h:LIs w b mb v s) (id:ByteArray) (k:ByteArray) (n:Int) (hl:lookL Prod.fst (idxFrom 0 s.l) id=some (k,n)):(Instr.lookup 195 (.map (some mb)) (.string id) true).run Tryz.prog w= .ok (.tuple #[.int .i64 n, .bool true]) w:=by
 rw[h.2.1.lookup Tryz.underlying195 Tryz.underlying9 (zeroI w) id true,hl]
 rfl
theorem miss_run (h:LIs w b mb v s) (id:ByteArray) (hl:lookL Prod.fst (idxFrom 0 s.l) id=none):(Instr.lookup 195 (.map (some mb)) (.string id) true).run Tryz.prog w= .ok (.tuple #[.int .i64 0, .bool false]) w:=by
 rw[h.2.1.lookup Tryz.underlying195 Tryz.underlying9 (zeroI w) id true,hl]
 rfl
theorem rec_known (r:UR) (hg:r.good) (h:LIs w b mb v s) (hn:(idB r.id&&nameB r.tn&&nameB r.fn)=true) (q1:0≤r.per) (q2:r.per≤1073741824) (h4:usB r.us=true) (c:CR) (hf:findC s.l r.id=some c) (hl:s.l.length≤4000):Calls Tryz.prog 23 #[.pointer (some ⟨b,0,none⟩),urV r] w (RecPost w b mb v (if eqR c.r r=true then 0 else 19) s):=by
 obtain⟨i,hi1,hi2⟩:=idx_some s.l 0 r.id c hf
 have Hl:=LH hi1
 have hL:=fun w' (hc:Chg [] w w')=>blk_cell (h.keptN hc).1
 obtain⟨hil,hie⟩:=List.getElem?_eq_some_iff.1 hi2
 obtain⟨g,cap,rfl,hcells⟩:∃g cap,v= .slice (some ⟨g,0,none⟩) s.l.length cap∧∀w',Chg [] w w'→∀j,j<10→w'.cell? ⟨g,i*10+j,none⟩=(crC c)[j]? :=by
  rcases RowOf.at h.2.2 crLen with ⟨_,hl⟩|⟨g,cap',hv,hlc,hcm,hcell,_,_,hgl⟩
  ·rw[hl]at hil;simp at hil
  ·refine⟨g,_,hv,fun w' hc j hj=> ?_⟩
   have h9:=(h.keptN hc).2.2
   rw[hv]at h9
   rcases RowOf.at h9 crLen with ⟨h0,_⟩|⟨g',cap2,hv',_,_,hcell',_,_,_⟩
   ·cases h0
   ·cases hv'
    rw[←hie]
    exact hcell' i hil j hj
 have H:=LH h
 have HL:=LH hL
 have HC:=LH hcells
 clear h hL hf hi1 hi2 hcells
 have hbx:=LH (heap_alloc_new w (urO r))
 have hC0:=LH (show Chg [] w (w.alloc (urO r))from(Chg.refl _ _).alloc _)
 obtain⟨W1,hW1⟩:∃W1,W1=w.alloc (urO r):=⟨_,rfl⟩
 have k1:=blk_cell hbx.out
 rw[←hW1]at hbx hC0 k1
 unfold urO at hW1 hbx
 have HW1:=LH hW1
 have A1:=LH (fun w'=>ID_any r.id w' hg.1)
 have A2:=LH (fun w'=>name_any r.tn w' hg.2.1)
 have A3:=LH (fun w'=>name_any r.fn w' hg.2.2.1)
 have M1:=LH (fun w' (hc:Chg [] w w')=>made_any (H.out.keptN hc))
 clear hW1
 have A4:=LH (fun w'=>mvalid_any r.us w')
 unfold usV at A4
 simp only[Bool.and_eq_true]at hn
 obtain⟨⟨h1,h2⟩,h3⟩:=hn
 obtain⟨N,hN⟩:∃N:Int,N=if eqR c.r r=true then 0 else 19:=⟨_,rfl⟩
 rw[←hN]
 have Q:=LH (fun w'=>neqR c.r r w')
 unfold urV at Q
 clear hg
 unfold urV
 generalize eqR c.r r=E at*
 have HN:=LH hN
 rw[Nat.zero_add]at Hl
 have hi0:(0:Int)≤(i:Int):=by omega
 have hi1:(i:Int)<(s.l.length:Int):=by omega
 clear hN
 go_enter Tryz.func23,Tryz.ntmps23
 go_wp2_with (first|(rw[←HW1.out];(go_at_call 66;(with_reducible refine(M1.out _ hC0.out).mono ?_);rintro e w1 ⟨rfl,rfl⟩))|(go_at_call 67;(with_reducible refine(A1.out _).mono ?_);rw[h1];rintro e w2 ⟨rfl,hc2⟩;have C2:=LH (hC0.out.thenSame (Chg.ofBelow hc2));have B2:=LH ((Chg.ofBelow (S:=[]) hc2).at (by simp) hbx.out);have k2:=blk_cell B2.out;clear hc2)|(go_at_call 68;(with_reducible refine(A2.out _).mono ?_);rw[h2];rintro e w3 ⟨rfl,hc3⟩;have C3:=LH (C2.out.thenSame hc3);have B3:=LH (hc3.at (by simp) B2.out);have k3:=blk_cell B3.out;clear hc3)|(go_at_call 68;(with_reducible refine(A3.out _).mono ?_);rw[h3];rintro e w4 ⟨rfl,hc4⟩;have C4:=LH (C3.out.thenSame hc4);have B4:=LH (hc4.at (by simp) B3.out);have k4:=blk_cell B4.out;clear hc4)|(go_at_call 69;(with_reducible refine(A4.out _).mono ?_);rw[h4];rintro e w5 ⟨rfl,hc5⟩;have C5:=LH (C4.out.thenSame hc5);have B5:=LH (hc5.at (by simp) B4.out);have k5:=blk_cell B5.out;have c5:=HL.out _ C5.out;have L5:=LH (H.out.keptN C5.out);clear k2 k3 k4 B2 B3 B4 C2 C3 C4;clear hc5)|fail)
 have lk5:=fun n=>hit_run (L5.out.keptN ((Chg.refl [] _).drewN n)) r.id _ _ Hl.out
 go_wp2_with fail
 go_quiet (fail)
 clear lk5
 have C6:=LH (C5.out.drewN nq)
 have c0:=HC.out _ C5.out 0 (by omega)
 have c1:=HC.out _ C5.out 1 (by omega)
 have c2:=HC.out _ C5.out 2 (by omega)
 have c3:=HC.out _ C5.out 3 (by omega)
 have c4:=HC.out _ C5.out 4 (by omega)
 have c5':=HC.out _ C5.out 5 (by omega)
 have c6:=HC.out _ C5.out 6 (by omega)
 have c7:=HC.out _ C5.out 7 (by omega)
 have c8:=HC.out _ C5.out 8 (by omega)
 simp only[crC,List.getElem?_cons_zero,List.getElem?_cons_succ,Nat.add_zero]at c0 c1 c2 c3 c4 c5' c6 c7 c8
 have Q6:=Q.out
 cases E
 ·go_wp2_with fail
  go_quiet (fail)
  go_wp2_with fail
  go_ret
  rw[HN.out]
  exact RecPost.same H.out (C6.out.drewN nq) _
 ·go_wp2_with fail
  go_quiet (fail)
  go_wp2_with fail
  go_ret
  rw[HN.out]
  exact RecPost.same H.out (C6.out.drewN nq) _
end
section
open Go.RowKit
variable {w w':World} {b mb:Nat} {v:Value} {s:Led}
theorem rec_full (r:UR) (hg:r.good) (h:LIs w b mb v s) (hn:(idB r.id&&nameB r.tn&&nameB r.fn)=true) (q1:0≤r.per) (q2:r.per≤1073741824) (h4:usB r.us=true) (hf:findC s.l r.id=none) (hl:s.l.length=4000):Calls Tryz.prog 23 #[.pointer (some ⟨b,0,none⟩),urV r] w (RecPost w b mb v 3 s):=by
 obtain⟨a,cap,rfl⟩:=RowOf.shape h.2.2
 have Hl:=LH (idx_none s.l 0 r.id hf)
 have hL:=fun w' (hc:Chg [] w w')=>blk_cell (h.keptN hc).1
 have H:=LH h
 have HL:=LH hL
 clear h hL hf
 have hbx:=LH (heap_alloc_new w (urO r))
 have hC0:=LH (show Chg [] w (w.alloc (urO r))from(Chg.refl _ _).alloc _)
 obtain⟨W1,hW1⟩:∃W1,W1=w.alloc (urO r):=⟨_,rfl⟩
 have k1:=blk_cell hbx.out
 rw[←hW1]at hbx hC0 k1
 unfold urO at hW1 hbx
 have HW1:=LH hW1
 have A1:=LH (fun w'=>ID_any r.id w' hg.1)
 have A2:=LH (fun w'=>name_any r.tn w' hg.2.1)
 have A3:=LH (fun w'=>name_any r.fn w' hg.2.2.1)
 have M1:=LH (fun w' (hc:Chg [] w w')=>made_any (H.out.keptN hc))
 clear hW1
 have A4:=LH (fun w'=>mvalid_any r.us w')
 unfold usV at A4
 simp only[Bool.and_eq_true]at hn
 obtain⟨⟨h1,h2⟩,h3⟩:=hn
 clear hg
 unfold urV
 have hl0:(s.l.length:Int)=4000:=by omega
 go_enter Tryz.func23,Tryz.ntmps23
 go_wp2_with (first|(rw[←HW1.out];(go_at_call 66;(with_reducible refine(M1.out _ hC0.out).mono ?_);rintro e w1 ⟨rfl,rfl⟩))|(go_at_call 67;(with_reducible refine(A1.out _).mono ?_);rw[h1];rintro e w2 ⟨rfl,hc2⟩;have C2:=LH (hC0.out.thenSame (Chg.ofBelow hc2));have B2:=LH ((Chg.ofBelow (S:=[]) hc2).at (by simp) hbx.out);have k2:=blk_cell B2.out;clear hc2)|(go_at_call 68;(with_reducible refine(A2.out _).mono ?_);rw[h2];rintro e w3 ⟨rfl,hc3⟩;have C3:=LH (C2.out.thenSame hc3);have B3:=LH (hc3.at (by simp) B2.out);have k3:=blk_cell B3.out;clear hc3)|(go_at_call 68;(with_reducible refine(A3.out _).mono ?_);rw[h3];rintro e w4 ⟨rfl,hc4⟩;have C4:=LH (C3.out.thenSame hc4);have B4:=LH (hc4.at (by simp) B3.out);have k4:=blk_cell B4.out;clear hc4)|(go_at_call 69;(with_reducible refine(A4.out _).mono ?_);rw[h4];rintro e w5 ⟨rfl,hc5⟩;have C5:=LH (C4.out.thenSame hc5);have B5:=LH (hc5.at (by simp) B4.out);have k5:=blk_cell B5.out;have c5:=HL.out _ C5.out;have L5:=LH (H.out.keptN C5.out);clear k2 k3 k4 B2 B3 B4 C2 C3 C4;clear hc5)|fail)
 have lk5:=fun n=>miss_run (L5.out.keptN ((Chg.refl [] _).drewN n)) r.id Hl.out
 go_wp2_with fail
 go_quiet (fail)
 clear lk5
 have C6:=LH (C5.out.drewN nq)
 go_wp2_with fail
 go_ret
 exact RecPost.same H.out C6.out _
theorem rec_fin {w7 w8:World} {a:Option Addr} {cap g8 cap8:Nat} {x:CR} {o:Obj} (HA:b≠mb∧(Value.slice a s.l.length cap).ownBlock≠some b∧(Value.slice a s.l.length cap).ownBlock≠some mb)
 (C7:Chg [mb] w w7) (hb7:w7.heap[b]? =some (.cells #[.slice a s.l.length cap, .map (some mb), .int .i64 s.p] 198 (0,0))) (hm7:MapIs Prod.fst plV w7 mb (idxFrom 0 (s.l++[x])))
 (hr8:RowOf crC 10 w8 0 205 (.slice (some ⟨g8,0,none⟩) (s.l.length+1) cap8) (s.l++[x])) (hg8:(w7.drew.alloc o).grownBy w8 (Value.slice a s.l.length cap).ownBlock)
 (ho8:(Value.slice a s.l.length cap).ownBlock=some g8∨g8=(w7.drew.alloc o).heap.size):
 RecPost w b mb (.slice a s.l.length cap) 0 ⟨s.l++[x],s.p⟩ (.returned (.int .i64 0)) (w8.setCell ⟨b,0,none⟩ (.slice (some ⟨g8,0,none⟩) (s.l.length+1) cap8)):=by
 have hca:Chg [] w7 (w7.drew.alloc o):=((Chg.refl [] w7).drew).alloc o
 have hcr:=Chg.ofRow hg8
 have hb8:=hcr.at (b:=b) (by intro e;exact HA.2.1 (by simpa using e)) (hca.at (by simp) hb7)
 have hm8:=(hm7.kept hca (by simp)).kept hcr (by intro e;exact HA.2.2 (by simpa using e))
 have hgb:g8≠b:=by
  rintro rfl
  obtain⟨cur,hh⟩:=row_block hr8 (g:=g8) rfl
  rw[hb8]at hh;simp at hh
 have hst:Chg [b] w8 (w8.setCell ⟨b,0,none⟩ (.slice (some ⟨g8,0,none⟩) (s.l.length+1) cap8)):=(Chg.refl _ _).setCell _ _ (by simp)
 refine⟨rfl, .slice (some ⟨g8,0,none⟩) (s.l.length+1) cap8,⟨blk_set hb8 0 _,hm8.kept hst (by simpa using fun e=>HA.1 e.symm),hr8.kept hst (fun g hg=>by cases hg;simpa using hgb)⟩, ?_, ?_⟩
 ·intro g hg
  cases hg
  rcases ho8 with h|h
  ·exact .inl h
  ·right;show _≤g8;rw[h];exact Nat.le_trans C7.size hca.size
 ·have h1:Chg (lfp b mb (.slice a s.l.length cap)) w (w7.drew.alloc o):=(C7.mono (T:=lfp b mb (.slice a s.l.length cap)) (by intro y hy _;simp at hy;subst hy;exact mem_lfp.2 (.inr (.inl rfl)))).then hca (by simp)
  have h2:=h1.then hcr (by intro y hy _;exact mem_lfp.2 (.inr (.inr (by simpa using hy))))
  exact h2.then hst (by intro y hy _;simp at hy;subst hy;exact mem_lfp.2 (.inl rfl))
end
end Go.Proofs.YtmofknmeljdodaaGreatDoor
