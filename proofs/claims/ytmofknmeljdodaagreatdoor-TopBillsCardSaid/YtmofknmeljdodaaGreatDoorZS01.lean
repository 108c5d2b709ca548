/- Over any program: worlds that keep all blocks but a few named ones; blocks of cells; maps with string keys, read as lists of entries. No condition but those that the statements name. -/
import Derived.WalkKit
import Derived.WalkSpells
import Derived.WalkLawsBesides
import Derived.Maps.RangeWalk
import Derived.Maps.OwnSet
import Derived.Lib.Hide
import Derived.Lib.QuietBelow
import Derived.BigQuiet
import Derived.Deep.QuietTactic
import Derived.Deep.AppendLies
import Derived.Deep.RegionHeld3
import Derived.Deep.RegionLaw
import Derived.Deep.DeepAppendWide
set_option maxHeartbeats 100000000
set_option maxRecDepth 100000
set_option linter.unusedVariables false
set_option linter.unusedSimpArgs false
namespace Go.Proofs.YtmofknmeljdodaaGreatDoor
theorem LH {p : Prop} (h : p) : RowKit.Hid p := Lib.hid h
end Go.Proofs.YtmofknmeljdodaaGreatDoor
open List renaming getElem_toArray→gTA,getElem_cons_zero→gCZ,getElem_cons_succ→gCS,setIfInBounds_toArray→sTA,set_cons_zero→sCZ,set_cons_succ→sCS
namespace Go.Proofs.YtmofknmeljdodaaGreatDoor
section
open Go.RowKit
open Go.ChangeMaps (setBlock heap_setBlock_same heap_setBlock_other)
structure Chg (S:List Nat) (w w':World):Prop where
 os:w'.os=w.os
 tape:w'.tape=w.tape
 output:w'.output=w.output
 size:w.heap.size≤w'.heap.size
 block:∀k,k<w.heap.size→k∉S→w'.heap[k]? =w.heap[k]?
theorem Chg.refl (S:List Nat) (w:World):Chg S w w:=⟨rfl,rfl,rfl,Nat.le_refl _,fun _ _ _=>rfl⟩
theorem Chg.trans {S S' T:List Nat} {a b c:World} (h:Chg S a b) (k:Chg S' b c) (h1:∀x∈S,x<a.heap.size→x∈T) (h2:∀x∈S',x<a.heap.size→x∈T):Chg T a c:=
 ⟨k.os.trans h.os,k.tape.trans h.tape,k.output.trans h.output,Nat.le_trans h.size k.size,fun i hi hn=>
   (k.block i (Nat.lt_of_lt_of_le hi h.size) (fun e=>hn (h2 i e hi))).trans (h.block i hi (fun e=>hn (h1 i e hi)))⟩
theorem Chg.mono {S T:List Nat} {a b:World} (h:Chg S a b) (h1:∀x∈S,x<a.heap.size→x∈T):Chg T a b:=
 ⟨h.os,h.tape,h.output,h.size,fun i hi hn=>h.block i hi (fun e=>hn (h1 i e hi))⟩
theorem Chg.then {S S':List Nat} {a b c:World} (h:Chg S a b) (k:Chg S' b c) (h2:∀x∈S',x<a.heap.size→x∈S):Chg S a c:=
 h.trans k (fun _ hx _=>hx) h2
theorem Chg.thenSame {S:List Nat} {a b c:World} (h:Chg S a b) (k:Chg S b c):Chg S a c:=h.then k (fun _ hx _=>hx)
theorem Chg.alloc {S:List Nat} {a b:World} (h:Chg S a b) (o:Obj):Chg S a (b.alloc o):=
 ⟨h.os,h.tape,h.output,Nat.le_trans h.size (by simp),fun i hi hn=>by
   rw[←h.block i hi hn];exact heap_alloc_old b o (Nat.lt_of_lt_of_le hi h.size)⟩
theorem Chg.drew {S:List Nat} {a b:World} (h:Chg S a b):Chg S a b.drew:=⟨h.os,h.tape,h.output,h.size,h.block⟩
theorem Chg.drewN {S:List Nat} {a b:World} (h:Chg S a b) (n:Nat):Chg S a (b.drewN n):=⟨h.os,h.tape,h.output,h.size,h.block⟩
theorem Chg.setCell {S:List Nat} {a b:World} (h:Chg S a b) (p:Addr) (v:Value) (hp:p.block<a.heap.size→p.block∈S):Chg S a (b.setCell p v):=
 ⟨h.os,h.tape,h.output,Nat.le_trans h.size (by simp[World.setCell]),fun i hi hn=>by
   rw[←h.block i hi hn]
   exact Below.heap_setCell b p v i (fun e=>hn (e▸hp (e▸hi)))⟩
theorem Chg.setBlock {S:List Nat} {a b:World} (h:Chg S a b) (p:Nat) (o:Obj) (hp:p<a.heap.size→p∈S):Chg S a (setBlock b p o):=
 ⟨h.os,h.tape,h.output,Nat.le_trans h.size (by simp[Go.ChangeMaps.setBlock]),fun i hi hn=>by
   rw[←h.block i hi hn]
   simp only[Go.ChangeMaps.setBlock,Array.getElem?_setIfInBounds]
   rw[if_neg (fun e:p=i=>hn (e▸hp (e.symm▸hi)))]⟩
theorem Chg.ofBelow {S:List Nat} {w w':World} (h:Below w.heap.size w w'):Chg S w w':=⟨h.os,h.tape,h.output,h.size,fun k hk _=>h.block k hk⟩
theorem Chg.toBelow {S:List Nat} {B:Nat} {w w':World} (h:Chg S w w') (hB:B≤w.heap.size) (hS:∀x∈S,B≤x):Below B w w':=
 ⟨h.os,h.tape,h.output,h.size,fun k hk=>h.block k (by omega) (fun e=>by have:=hS k e;omega)⟩
theorem Chg.ofGrown {w w':World} {b:Nat} (h:w.grownBy w' (some b)):Chg [b] w w':=
 ⟨h.os,h.tape,h.output,h.size,fun k hk hn=>h.block k hk (fun e=>hn (by cases e;simp))⟩
theorem Chg.ofGrownNone {S:List Nat} {w w':World} (h:w.grownBy w' none):Chg S w w':=
 ⟨h.os,h.tape,h.output,h.size,fun k hk _=>h.block k hk (by simp)⟩
theorem Chg.at {S:List Nat} {w w':World} {b:Nat} {o:Obj} (h:Chg S w w') (hn:b∉S) (hb:w.heap[b]? =some o):w'.heap[b]? =some o:=
 (h.block b (Array.getElem?_eq_some_iff.1 hb).1 hn).trans hb
theorem lt_of_heap {w:World} {b:Nat} {o:Obj} (hb:w.heap[b]? =some o):b<w.heap.size:=(Array.getElem?_eq_some_iff.1 hb).1
theorem Chg.lt {S:List Nat} {w w':World} {b:Nat} (h:Chg S w w') (hb:b<w.heap.size):b<w'.heap.size:=Nat.lt_of_lt_of_le hb h.size
theorem retB {a b:Bool} (h:a=b):Ending.returned (.bool a)= .returned (.bool b):=by rw[h]
theorem retI {k:IntKind} {a b:Int} (h:a=b):Ending.returned (.int k a)= .returned (.int k b):=by rw[h]
theorem blk_cell {w:World} {b:Nat} {c:Array Value} {t:TypeId} {f:Nat×Nat} (h:w.heap[b]? =some (.cells c t f)) (i:Nat):w.cell? ⟨b,i,none⟩=c[i]? :=by
 simp[World.cell?,h]
theorem blk_free {w:World} {b:Nat} {c:Array Value} {t:TypeId} (h:w.heap[b]? =some (.cells c t (0,0))) (i:Nat):w.frozen? ⟨b,i,none⟩=false:=by
 simp[World.frozen?,h]
theorem blk_set {w:World} {b:Nat} {c:Array Value} {t:TypeId} {f:Nat×Nat} (h:w.heap[b]? =some (.cells c t f)) (i:Nat) (v:Value):
 (w.setCell ⟨b,i,none⟩ v).heap[b]? =some (.cells (c.setIfInBounds i v) t f):=by
 simp[World.setCell,Array.getElem?_modify,h]
theorem blk_set_ne {w:World} {b b':Nat} (i:Nat) (v:Value) (hne:b'≠b):
 (w.setCell ⟨b,i,none⟩ v).heap[b']? =w.heap[b']? :=Below.heap_setCell w ⟨b,i,none⟩ v b' hne
theorem blk_alloc {w:World} {b:Nat} {o o':Obj} (h:w.heap[b]? =some o):(w.alloc o').heap[b]? =some o:=(heap_alloc_old w o' (lt_of_heap h)).trans h
instance:LawfulBEq ByteArray where
 eq_of_beq h:=(Go.MapKept.bytes_beq _ _).1 h
 rfl:=(Go.MapKept.bytes_beq _ _).2 rfl
section maps
variable {α:Type} {kf:α→ByteArray} {vf:α→Value}
def EntsAre (kf:α→ByteArray) (vf:α→Value) (es:Array MapEntry) (clock:Nat) (l:List α):Prop:=
 es.toList.map (fun e=>(e.key,e.val))=l.map (fun x=>(Value.string (kf x),vf x))∧es.toList.Pairwise (fun a b=>a.born<b.born)∧(∀e∈es.toList,e.born<clock)∧(l.map kf).Nodup
def MapIs (kf:α→ByteArray) (vf:α→Value) (w:World) (b:Nat) (l:List α):Prop:=∃es clock,w.heap[b]? =some (.map es clock)∧EntsAre kf vf es clock l
theorem MapIs.lt {w:World} {b:Nat} {l:List α} (h:MapIs kf vf w b l):b<w.heap.size:=by
 obtain⟨_,_,hb,_⟩:=h;exact lt_of_heap hb
theorem MapIs.kept {w w':World} {b:Nat} {l:List α} {S:List Nat} (h:MapIs kf vf w b l) (hc:Chg S w w') (hn:b∉S):MapIs kf vf w' b l:=by
 obtain⟨es,c,hb,he⟩:=h;exact⟨es,c,hc.at hn hb,he⟩
theorem MapIs.same {w w':World} {b:Nat} {l:List α} (h:MapIs kf vf w b l) (hh:w'.heap[b]? =w.heap[b]?):MapIs kf vf w' b l:=by
 obtain⟨es,c,hb,he⟩:=h;exact⟨es,c,hh.trans hb,he⟩
theorem MapIs.nodup {w:World} {b:Nat} {l:List α} (h:MapIs kf vf w b l):(l.map kf).Nodup:=by
 obtain⟨_,_,_,_,_,_,h⟩:=h;exact h
theorem mapIs_new (w:World):MapIs kf vf (w.alloc (.map #[] 0)) w.heap.size []:=
 ⟨#[],0,heap_alloc_new w _,by simp,by simp,by simp,by simp⟩
theorem findNow_string (s:ByteArray):∀(es:List MapEntry) (l:List α) (i:Nat),es.map (fun e=>(e.key,e.val))=l.map (fun x=>(Value.string (kf x),vf x))→
 (∃j x,l[j]? =some x∧kf x=s∧(∀y∈l.take j,kf y≠s)∧Instr.findNow .string (.string s) es i=some (some (i+j,vf x)))∨((∀x∈l,kf x≠s)∧Instr.findNow .string (.string s) es i=some none)
 |[],[],i,_=> .inr ⟨by simp,rfl⟩
 |[],_::_,_,h=>by simp at h
 |_::_,[],_,h=>by simp at h
 |e::es,x::l,i,h=>by
  simp only[List.map_cons,List.cons.injEq,Prod.mk.injEq]at h
  obtain⟨⟨hk,hv⟩,ht⟩:=h
  by_cases hx:kf x=s
  ·exact .inl ⟨0,x,rfl,hx,by simp,by simp[Instr.findNow,hk,Instr.sameNow,hx,hv]⟩
  ·have hne:(s==kf x)=false:=by simp;exact fun e=>hx e.symm
   rcases findNow_string s es l (i+1) ht with ⟨j,y,hj,hy,hb,hf⟩|⟨hn,hf⟩
   ·refine .inl ⟨j+1,y,by simpa using hj,hy, ?_, ?_⟩
    ·intro z hz
     simp only[List.take_succ_cons,List.mem_cons]at hz
     rcases hz with rfl|hz
     ·exact hx
     ·exact hb z hz
    ·simp only[Instr.findNow,hk,Instr.sameNow,hne,hf];congr 3;omega
   ·refine .inr ⟨?_, ?_⟩
    ·intro z hz
     rcases List.mem_cons.1 hz with rfl|hz
     ·exact hx
     ·exact hn z hz
    ·simp only[Instr.findNow,hk,Instr.sameNow,hne,hf]
variable {P:Program}
theorem run_findKey_string {k:TypeId} (hk:P.underlying k=some .string) (s:ByteArray) (es:List MapEntry) (w:World) {r:Option (Nat×Value)} (h:Instr.findNow .string (.string s) es 0=some r):
 (Instr.findKey k (.string s) es).run P w= .ok r w:=by
 simp[Instr.findKey,run_underlying hk,h,Result.andThen]
theorem run_checkKey_string {k:TypeId} (hk:P.underlying k=some .string) (em:Bool) (s:ByteArray) (w:World):
 (Instr.checkKey em 10000 k (.string s)).run P w= .ok () w:=by
 unfold Instr.checkKey
 simp[run_underlying hk,Result.andThen]
def lookL (kf:α→ByteArray) (l:List α) (s:ByteArray):Option α:=l.find? (fun x=>kf x==s)
theorem lookL_hit {l:List α} {s:ByteArray} {j:Nat} {x:α} (h:l[j]? =some x) (hx:kf x=s) (hb:∀y∈l.take j,kf y≠s):lookL kf l s=some x:=by
 unfold lookL
 have hj:=(List.getElem?_eq_some_iff.1 h)
 obtain⟨hlt,he⟩:=hj
 have hl:l=l.take j++x::l.drop (j+1):=by
  rw[←he,←List.drop_eq_getElem_cons hlt,List.take_append_drop]
 rw[hl,List.find?_append,List.find?_eq_none.2 (by intro y hy;simpa using hb y hy)]
 simp[hx]
theorem lookL_miss {l:List α} {s:ByteArray} (h:∀x∈l,kf x≠s):lookL kf l s=none:=by
 unfold lookL
 exact List.find?_eq_none.2 (by intro y hy;simpa using h y hy)
theorem MapIs.lookup {w:World} {b:Nat} {l:List α} (h:MapIs kf vf w b l) {t k e:TypeId} (ht:P.underlying t=some (.map k e)) (hk:P.underlying k=some .string) {z:Value}
 (hz:(zeroValue e).run P w= .ok z w) (s:ByteArray) (c:Bool):
 (Instr.lookup t (.map (some b)) (.string s) c).run P w= .ok (if c then .tuple #[((lookL kf l s).map vf).getD z, .bool (lookL kf l s).isSome]else((lookL kf l s).map vf).getD z) w:=by
 obtain⟨es,clock,hb,he,_,_,_⟩:=h
 rcases findNow_string s es.toList l 0 he with ⟨j,x,hj,hx,hbf,hf⟩|⟨hn,hf⟩
 ·rw[lookL_hit hj hx hbf]
  simp[Instr.lookup,run_underlying ht,MapKept.run_getObj_map hb,run_checkKey_string hk,run_findKey_string hk s es.toList w hf,Result.andThen]
 ·rw[lookL_miss hn]
  simp[Instr.lookup,run_underlying ht,MapKept.run_getObj_map hb,run_checkKey_string hk,run_findKey_string hk s es.toList w hf,hz,Result.andThen]
def putL (kf:α→ByteArray) (l:List α) (x:α):List α:=if l.any (fun y=>kf y==kf x)then l.map (fun y=>if kf y==kf x then x else y)else l++[x]
theorem modify_toList (es:Array MapEntry) (i:Nat) (f:MapEntry→MapEntry):(es.modify i f).toList=es.toList.modify i f:=by simp
theorem map_modify_eq {β γ:Type} (g:β→γ) (f:β→β):∀(l:List β) (i:Nat) (y:γ),(∀b,l[i]? =some b→g (f b)=y)→(l.modify i f).map g=(l.map g).set i y
 |[],i,y,_=>by simp
 |b::l,0,y,h=>by simp[h b rfl]
 |b::l,i+1,y,h=>by simp[map_modify_eq g f l i y (fun b hb=>h b (by simpa using hb))]
theorem set_eq_map {l:List α} {j:Nat} {x y:α} (hj:l[j]? =some y) (hxy:kf y=kf x) (hd:(l.map kf).Nodup):l.set j x=l.map (fun z=>if kf z==kf x then x else z):=by
 induction l generalizing j with
 |nil=>simp at hj
 |cons z l ih=>
  simp only[List.map_cons,List.nodup_cons]at hd
  cases j with
  |zero=>
   simp only[List.getElem?_cons_zero,Option.some.injEq]at hj
   subst hj
   simp only[sCZ,List.map_cons,hxy,beq_self_eq_true,if_true,List.cons.injEq,true_and]
   have:∀a∈l,(fun z=>if kf z==kf x then x else z) a=a:=by
    intro a ha
    have:kf a≠kf x:=fun e=>hd.1 (by rw[hxy,←e];exact List.mem_map.2 ⟨a,ha,rfl⟩)
    simp[this]
   exact(List.map_id' l).symm.trans (List.map_congr_left (fun a ha=>(this a ha).symm))
  |succ j=>
   simp only[List.getElem?_cons_succ]at hj
   have hz:kf z≠kf x:=fun e=>hd.1 (by rw[e,←hxy];exact List.mem_map.2 ⟨y,List.mem_of_getElem? hj,rfl⟩)
   simp[hz,ih hj hd.2]
theorem putL_nodup {l:List α} {x:α} (hd:(l.map kf).Nodup):((putL kf l x).map kf).Nodup:=by
 unfold putL
 split
 ·have:(l.map (fun y=>if kf y==kf x then x else y)).map kf=l.map kf:=by
   rw[List.map_map]
   refine List.map_congr_left fun a _=> ?_
   by_cases h:kf a=kf x<;>simp[h]
  rw[this];exact hd
 ·rename_i h
  simp only[List.any_eq_true,beq_iff_eq,not_exists,not_and]at h
  rw[List.map_append,List.map_singleton,List.nodup_append]
  exact⟨hd,by simp,by rintro a ha b hb;simp at hb;subst hb;obtain⟨y,hy,rfl⟩:=List.mem_map.1 ha;exact h y hy⟩
theorem MapIs.store {w:World} {b:Nat} {l:List α} (h:MapIs kf vf w b l) {t k e:TypeId} (ht:P.underlying t=some (.map k e)) (hk:P.underlying k=some .string) (x:α):
 ∃w',(Instr.mapUpdate t (.map (some b)) (.string (kf x)) (vf x)).run P w= .ok () w'∧MapIs kf vf w' b (putL kf l x)∧Chg [b] w w'∧w'.heap.size=w.heap.size:=by
 have hd:=h.nodup
 obtain⟨es,clock,hb,he,hp,hc,_⟩:=h
 rcases findNow_string (kf x) es.toList l 0 he with ⟨j,y,hj,hy,hbf,hf⟩|⟨hn,hf⟩
 ·have hlen:es.toList.length=l.length:=by have:=congrArg List.length he;simpa using this
  have hjl:j<es.toList.length:=by rw[hlen];exact(List.getElem?_eq_some_iff.1 hj).1
  have hkey:(es[j]?).map (·.key)=some (.string (kf x)):=by
   have h1:=congrArg (fun m=>(m[j]?).map Prod.fst) he
   simp only[List.getElem?_map,hj,Option.map_some,Option.map_map]at h1
   rw[hy]at h1
   rw[←Array.getElem?_toList,←h1];rfl
  have hst:∀w:World,(Instr.keyThatStays (.string (kf x)) (.string (kf x))).run P w= .ok (.string (kf x)) w:=by
   intro w;simp[Instr.keyThatStays,Instr.sameBits]
  refine⟨setBlock w b (.map (es.modify j fun e=>{e with key:= .string (kf x),val:=vf x}) clock), ?_,⟨_,clock,heap_setBlock_same hb _, ?_, ?_, ?_,putL_nodup hd⟩,(Chg.refl _ _).setBlock _ _ (by simp),by simp[Go.ChangeMaps.setBlock]⟩
  ·simp only[Nat.zero_add]at hf
   have hkd:((es[j]?).map (·.key)).getD (.string (kf x))= .string (kf x):=by rw[hkey];rfl
   simp only[Instr.mapUpdate,Sem.run_bind,run_underlying ht,MapKept.run_getObj_map hb,run_checkKey_string hk,run_findKey_string hk (kf x) es.toList w hf,Result.andThen,hkd,hst]
   simp[MapKept.run_setObj_map _ hb,Go.ChangeMaps.setBlock]
  ·rw[modify_toList,map_modify_eq (fun e:MapEntry=>(e.key,e.val)) (fun e=>{e with key:= .string (kf x),val:=vf x}) _ _ (Value.string (kf x),vf x) (fun _ _=>rfl),he]
   have hany:l.any (fun z=>kf z==kf x)=true:=List.any_eq_true.2 ⟨y,List.mem_of_getElem? hj,by simp[hy]⟩
   simp only[putL,hany,if_true]
   rw[←set_eq_map hj hy hd,List.map_set]
  ·rw[modify_toList]
   have:=List.pairwise_map.2 hp
   refine List.pairwise_map.1 (?_:List.Pairwise (·<·) ((es.toList.modify j fun e=>{e with key:= .string (kf x),val:=vf x}).map (·.born)))
   have hb':(es.toList.modify j fun e=>{e with key:=Value.string (kf x),val:=vf x}).map (·.born)=es.toList.map (·.born):=by
    rw[map_modify_eq MapEntry.born (fun e=>{e with key:=Value.string (kf x),val:=vf x}) es.toList j ((es.toList.map (·.born)).getD j 0) (fun b hb=>by simp at hb;simp[hb])]
    refine List.ext_getElem? fun i=> ?_
    rw[List.getElem?_set]
    split
    ·rename_i e;subst e;rw[if_pos (by simpa using hjl)];simp[List.getElem?_eq_getElem hjl]
    ·rfl
   rw[hb'];exact this
  ·intro e he'
   rw[modify_toList]at he'
   obtain⟨i,hi,rfl⟩:=List.mem_iff_getElem.1 he'
   rw[List.getElem_modify]
   have hi':i<es.toList.length:=by simpa using hi
   have:=hc es.toList[i] (List.getElem_mem hi')
   split
   ·exact this
   ·exact this
 ·have hany:l.any (fun z=>kf z==kf x)=false:=by
   rw[List.any_eq_false];intro y hy;simpa using hn y hy
  refine⟨setBlock w b (.map (es.push {key:= .string (kf x),val:=vf x,born:=clock}) (clock+1)), ?_,⟨_,clock+1,heap_setBlock_same hb _, ?_, ?_, ?_,putL_nodup hd⟩,(Chg.refl _ _).setBlock _ _ (by simp),by simp[Go.ChangeMaps.setBlock]⟩
  ·simp only[Instr.mapUpdate,Sem.run_bind,run_underlying ht,MapKept.run_getObj_map hb,run_checkKey_string hk,run_findKey_string hk (kf x) es.toList w hf,Result.andThen]
   simp[MapKept.run_setObj_map _ hb,Go.ChangeMaps.setBlock]
  ·simp[putL,hany,he]
  ·rw[Array.toList_push,List.pairwise_append]
   exact⟨hp,by simp,by intro a ha b hb';simp at hb';subst hb';exact hc a ha⟩
  ·intro e he'
   rw[Array.toList_push,List.mem_append]at he'
   rcases he' with he'|he'
   ·have:=hc e he';omega
   ·simp at he';subst he';simp
def delL (kf:α→ByteArray) (l:List α) (s:ByteArray):List α:=l.filter (fun x=>kf x !=s)
theorem eraseIdx_eq_filter {β:Type} (p:β→Bool):∀(l:List β) (j:Nat),j<l.length→(∀b,l[j]? =some b→p b=false)→(∀i b,i≠j→l[i]? =some b→p b=true)→l.eraseIdx j=l.filter p
 |[],_,h,_,_=>by simp at h
 |b::l,0,_,h,h'=>by
  have hb:=h b rfl
  rw[List.eraseIdx_cons_zero,List.filter_cons,if_neg (by simp[hb])]
  refine(List.filter_eq_self.2 fun a ha=> ?_).symm
  obtain⟨i,hi,rfl⟩:=List.mem_iff_getElem.1 ha
  exact h' (i+1) _ (by omega) (by simp[hi])
 |b::l,j+1,hl,h,h'=>by
  have hb:=h' 0 b (by omega) rfl
  rw[List.eraseIdx_cons_succ,List.filter_cons,if_pos hb,eraseIdx_eq_filter p l j (by simpa using hl) (fun b hb=>h b (by simpa using hb)) (fun i b hi hb=>h' (i+1) b (by omega) (by simpa using hb))]
def keyNe (s:ByteArray) (e:MapEntry):Bool:=match e.key with| .string s'=>s' !=s|_=>true
theorem keyNe_of {s s':ByteArray} {e:MapEntry} (h:e.key= .string s'):keyNe s e=(s' !=s):=by simp[keyNe,h]
theorem nodup_getElem {β:Type} {l:List β} (h:l.Nodup) {i j:Nat} (hi:i<l.length) (hj:j<l.length) (e:l[i]=l[j]):i=j:=by
 rcases Nat.lt_trichotomy i j with h1|h1|h1
 ·exact absurd e (List.pairwise_iff_getElem.1 h i j hi hj h1)
 ·exact h1
 ·exact absurd e.symm (List.pairwise_iff_getElem.1 h j i hj hi h1)
theorem nodup_at {l:List α} {i j:Nat} {x y:α} (hd:(l.map kf).Nodup) (hi:l[i]? =some x) (hj:l[j]? =some y) (hk:kf x=kf y):i=j:=by
 obtain⟨hi',rfl⟩:=List.getElem?_eq_some_iff.1 hi
 obtain⟨hj',rfl⟩:=List.getElem?_eq_some_iff.1 hj
 exact nodup_getElem hd (by simpa using hi') (by simpa using hj') (by simpa using hk)
theorem eraseIdx_eq_delL {l:List α} {j:Nat} {y:α} (hj:l[j]? =some y) (hd:(l.map kf).Nodup):l.eraseIdx j=delL kf l (kf y):=by
 refine eraseIdx_eq_filter _ _ _ (List.getElem?_eq_some_iff.1 hj).1 (fun b hb=> ?_) (fun i b hi hb=> ?_)
 ·rw[hj]at hb;cases hb;simp
 ·have:kf b≠kf y:=fun e=>hi (nodup_at hd hb hj e)
  simpa using this
theorem delL_miss {l:List α} {s:ByteArray} (h:∀x∈l,kf x≠s):delL kf l s=l:=by
 unfold delL
 exact List.filter_eq_self.2 fun a ha=>by simpa using h a ha
theorem delL_nodup {l:List α} {s:ByteArray} (hd:(l.map kf).Nodup):((delL kf l s).map kf).Nodup:=
 List.Sublist.nodup (List.Sublist.map _ List.filter_sublist) hd
theorem eraseIf_toList (es:Array MapEntry) {j:Nat} (h:j<es.size):(es.eraseIdxIfInBounds j).toList=es.toList.eraseIdx j:=by
 simp[Array.eraseIdxIfInBounds,h]
theorem MapIs.drop_who {w:World} {b:Nat} {l:List α} {es:Array MapEntry} {clock:Nat} (hb:w.heap[b]? =some (.map es clock)) (h:EntsAre kf vf es clock l) {t k e:TypeId} (ht:P.underlying t=some (.map k e)) (hk:P.underlying k=some .string) (s:ByteArray) (ty:TypeId):
 ∃es',(Builtin.delete_ #[t,k] ty #[.map (some b), .string s]).run P w= .ok (.tuple #[]) (setBlock w b (.map es' clock))∧EntsAre kf vf es' clock (delL kf l s)∧es'.toList=es.toList.filter (keyNe s):=by
 obtain⟨he,hp,hc,hd⟩:=h
 rcases findNow_string s es.toList l 0 he with ⟨j,y,hj,hy,hbf,hf⟩|⟨hn,hf⟩
 ·have hlen:es.toList.length=l.length:=by have:=congrArg List.length he;simpa using this
  have hjl:j<es.size:=by have:=(List.getElem?_eq_some_iff.1 hj).1;simp at hlen;omega
  have hall:∀(i:Nat) (e:MapEntry),es.toList[i]? =some e→∃z,l[i]? =some z∧e.key= .string (kf z):=by
   intro i e hi
   have h1:=congrArg (fun m=>(m[i]?).map Prod.fst) he
   simp only[List.getElem?_map,hi,Option.map_some,Option.map_map]at h1
   cases hz:l[i]? with
   |none=>rw[hz]at h1;simp at h1
   |some z=>rw[hz]at h1;simp only[Option.map_some,Function.comp]at h1;exact⟨z,rfl,by simpa using h1⟩
  refine⟨es.eraseIdxIfInBounds j, ?_,⟨?_, ?_, ?_,delL_nodup hd⟩, ?_⟩
  ·simp only[Nat.zero_add]at hf
   simp[Builtin.delete_,run_underlying ht,MapKept.run_getObj_map hb,run_checkKey_string hk,run_findKey_string hk s es.toList w hf,Result.andThen,MapKept.run_setObj_map _ hb,Go.ChangeMaps.setBlock]
  ·rw[eraseIf_toList es hjl,←hy,←eraseIdx_eq_delL hj hd,List.eraseIdx_eq_take_drop_succ,List.eraseIdx_eq_take_drop_succ]
   simp only[List.map_append,List.map_take,List.map_drop,he]
  ·rw[eraseIf_toList es hjl];exact hp.sublist (List.eraseIdx_sublist _ _)
  ·intro x hx
   rw[eraseIf_toList es hjl]at hx
   exact hc x ((List.eraseIdx_sublist _ _).subset hx)
  ·rw[eraseIf_toList es hjl]
   refine eraseIdx_eq_filter _ _ _ (by simpa using hjl) (fun b hb=> ?_) (fun i b hi hb=> ?_)
   ·obtain⟨z,hz,hzk⟩:=hall j b hb
    rw[hj]at hz;cases hz
    rw[keyNe_of hzk,hy];simp
   ·obtain⟨z,hz,hzk⟩:=hall i b hb
    have:kf z≠s:=fun e=>hi (nodup_at hd hz hj (e.trans hy.symm))
    rw[keyNe_of hzk];simpa using this
 ·refine⟨es, ?_, ?_, ?_⟩
  ·simp[Builtin.delete_,run_underlying ht,MapKept.run_getObj_map hb,run_checkKey_string hk,run_findKey_string hk s es.toList w hf,Result.andThen,MapKept.run_setObj_map _ hb,Go.ChangeMaps.setBlock]
  ·rw[delL_miss hn];exact⟨he,hp,hc,hd⟩
  ·refine(List.filter_eq_self.2 fun e hm=> ?_).symm
   have h1:(e.key,e.val)∈l.map (fun x=>(Value.string (kf x),vf x)):=by rw[←he];exact List.mem_map.2 ⟨e,hm,rfl⟩
   obtain⟨z,hz,hzk⟩:=List.mem_map.1 h1
   simp only[Prod.mk.injEq]at hzk
   rw[keyNe_of hzk.1.symm];simpa using hn z hz
theorem MapIs.drop {w:World} {b:Nat} {l:List α} (h:MapIs kf vf w b l) {t k e:TypeId} (ht:P.underlying t=some (.map k e)) (hk:P.underlying k=some .string) (s:ByteArray) (ty:TypeId):
 ∃w',(Builtin.delete_ #[t,k] ty #[.map (some b), .string s]).run P w= .ok (.tuple #[]) w'∧MapIs kf vf w' b (delL kf l s)∧Chg [b] w w'∧w'.heap.size=w.heap.size:=by
 obtain⟨es,clock,hb,he⟩:=h
 obtain⟨es',hr,he',_⟩:=MapIs.drop_who hb he ht hk s ty
 exact⟨_,hr,⟨es',clock,heap_setBlock_same hb _,he'⟩,(Chg.refl _ _).setBlock _ _ (by simp),by simp[Go.ChangeMaps.setBlock]⟩
theorem EntsAre.length {es:Array MapEntry} {clock:Nat} {l:List α} (h:EntsAre kf vf es clock l):es.size=l.length:=by
 have:=congrArg List.length h.1;simpa using this
theorem MapIs.len {w:World} {b:Nat} {l:List α} (h:MapIs kf vf w b l) {t k e:TypeId} (ht:P.underlying t=some (.map k e)) (ty:TypeId):
 (Builtin.len_ #[t] ty #[.map (some b)]).run P w= .ok (.int .i64 (l.length:Int)) w:=by
 obtain⟨es,clock,hb,he⟩:=h
 simp[Builtin.len_,run_underlying ht,MapKept.run_getObj_map hb,Result.andThen,he.length,goInt]
def IterIs (kf:α→ByteArray) (vf:α→Value) (w:World) (b r:Nat) (l todo:List α):Prop:=
 ∃es clock since seen c0,w.heap[b]? =some (.map es clock)∧EntsAre kf vf es clock l∧w.heap[r]? =some (.mapIter (some b) since seen c0)∧(∀x∈es.toList,x.born<since)∧since≤c0∧since≤clock∧
  (es.toList.filter fun e=> !seen.contains e.born).map (fun e=>(e.key,e.val))=todo.map (fun x=>(Value.string (kf x),vf x))∧todo.Sublist l
theorem IterIs.map {w:World} {b r:Nat} {l todo:List α} (h:IterIs kf vf w b r l todo):MapIs kf vf w b l:=by
 obtain⟨es,clock,_,_,_,hb,he,_⟩:=h;exact⟨es,clock,hb,he⟩
theorem IterIs.sub {w:World} {b r:Nat} {l todo:List α} (h:IterIs kf vf w b r l todo):todo.Sublist l:=by
 obtain⟨_,_,_,_,_,_,_,_,_,_,_,_,h⟩:=h;exact h
theorem IterIs.ne {w:World} {b r:Nat} {l todo:List α} (h:IterIs kf vf w b r l todo):r≠b:=by
 obtain⟨es,clock,since,seen,c0,hb,_,hr,_⟩:=h
 intro e;rw[e,hb]at hr;cases hr
theorem IterIs.lt {w:World} {b r:Nat} {l todo:List α} (h:IterIs kf vf w b r l todo):r<w.heap.size:=by
 obtain⟨es,clock,since,seen,c0,hb,_,hr,_⟩:=h;exact lt_of_heap hr
theorem IterIs.kept {w w':World} {b r:Nat} {l todo:List α} {S:List Nat} (h:IterIs kf vf w b r l todo) (hc:Chg S w w') (hb:b∉S) (hr:r∉S):IterIs kf vf w' b r l todo:=by
 obtain⟨es,clock,since,seen,c0,h1,h2,h3,h4⟩:=h
 exact⟨es,clock,since,seen,c0,hc.at hb h1,h2,hc.at hr h3,h4⟩
theorem IterIs.left {w:World} {b r:Nat} {l todo:List α} (h:IterIs kf vf w b r l todo):w.rangeLeft b r=todo.length:=by
 obtain⟨es,clock,since,seen,c0,hb,_,hr,_,_,_,ht,_⟩:=h
 have:=congrArg List.length ht
 simp only[World.rangeLeft,hb,hr,leftOf]
 rw[←Array.length_toList,Array.toList_filter]
 simpa using this
theorem MapIs.range {w:World} {b:Nat} {l:List α} (h:MapIs kf vf w b l) {t k e:TypeId} (ht:P.underlying t=some (.map k e)):
 ∃w',(Instr.range t (.map (some b))).run P w= .ok (.pointer (some ⟨w.heap.size,0,none⟩)) w'∧IterIs kf vf w' b w.heap.size l l∧Chg [] w w'∧w'.heap.size=w.heap.size+1:=by
 obtain⟨es,clock,hb,he⟩:=h
 refine⟨_,run_range_map w t k e b es clock ht hb,⟨es,clock,clock, #[],clock,blk_alloc hb,he,heap_alloc_new _ _,he.2.2.1,Nat.le_refl _,Nat.le_refl _, ?_,List.Sublist.refl _⟩,(Chg.refl _ _).alloc _,by simp⟩
 have hf:es.toList.filter (fun e=> !(#[]:Array Nat).contains e.born)=es.toList:=List.filter_eq_self.2 (by intro a _;simp)
 rw[hf];exact he.1
theorem nodup_born {es:List MapEntry} (h:es.Pairwise (fun a b=>a.born<b.born)):(es.map (·.born)).Nodup:=by
 rw[List.nodup_iff_pairwise_ne,List.pairwise_map]
 exact h.imp (fun h=>by omega)
theorem filter_push {es:List MapEntry} {seen:Array Nat} (e0:MapEntry):
 es.filter (fun e=> !(seen.push e0.born).contains e.born)=(es.filter (fun e=> !seen.contains e.born)).filter (fun e=>e.born !=e0.born):=by
 rw[List.filter_filter]
 refine List.filter_congr fun x _=> ?_
 by_cases h1:x.born=e0.born<;>simp[h1]
theorem filter_map_key {es:List MapEntry} {l:List α} (h:es.map (fun e=>(e.key,e.val))=l.map (fun x=>(Value.string (kf x),vf x))) (p:MapEntry→Bool) (q:α→Bool)
 (hpq:∀(e:MapEntry) (x:α),e∈es→x∈l→e.key= .string (kf x)→p e=q x):(es.filter p).map (fun e=>(e.key,e.val))=(l.filter q).map (fun x=>(Value.string (kf x),vf x)):=by
 induction es generalizing l with
 |nil=>cases l with
  |nil=>rfl
  |cons=>simp at h
 |cons e es ih=>
  cases l with
  |nil=>simp at h
  |cons x l=>
   have h':=h
   simp only[List.map_cons,List.cons.injEq,Prod.mk.injEq]at h'
   have ih':=ih h'.2 (fun e x he hx=>hpq e x (by simp[he]) (by simp[hx]))
   have hq:=hpq e x (by simp) (by simp) h'.1.1
   simp only[List.filter_cons,hq]
   split
   ·simp[h'.1.1,h'.1.2,ih']
   ·exact ih'
theorem IterIs.next {w:World} {b r:Nat} {l todo:List α} (h:IterIs kf vf w b r l todo) (ty:TypeId):
 (todo=[]∧(Instr.next (.pointer (some ⟨r,0,none⟩)) false ty).run P w= .ok (.tuple #[.bool false]) w)∨
 ∃x∈todo,∃w',(Instr.next (.pointer (some ⟨r,0,none⟩)) false ty).run P w= .ok (.tuple #[.bool true, .string (kf x),vf x]) w'∧IterIs kf vf w' b r l (delL kf todo (kf x))∧Chg [r] w w'∧w'.heap.size=w.heap.size∧
  (Instr.entry (.pointer (some ⟨r,0,none⟩))).run P w'= .ok (.tuple #[.string (kf x),vf x]) w':=by
 have hne:=h.ne
 obtain⟨es,clock,since,seen,c0,hb,he,hr,hold,hsc,hcl,htd,hsub⟩:=h
 rcases run_next_at (P:=P) w ty r b since c0 seen es clock hr hb hold hsc with ⟨h0,hrun⟩|⟨e,hm,w1,hw1,hrun⟩
 ·refine .inl ⟨?_,hrun⟩
  have:=congrArg List.length htd
  unfold leftOf at h0
  rw[←Array.length_toList,Array.toList_filter]at h0
  simp only[List.length_map]at this
  exact List.eq_nil_of_length_eq_zero (by rw[←this];exact h0)
 ·right
  have hm':e∈es.toList.filter (fun e=> !seen.contains e.born):=by unfold leftOf at hm;rw[Array.toList_filter]at hm;exact hm
  have hmem:e∈es.toList:=(List.mem_filter.1 hm').1
  obtain⟨j,hj,hje⟩:=List.mem_iff_getElem.1 hm'
  have hex:∃x∈todo,e.key= .string (kf x)∧e.val=vf x:=by
   have h1:=congrArg (fun m=>m[j]?) htd
   simp only[List.getElem?_map,List.getElem?_eq_getElem hj,hje,Option.map_some]at h1
   cases hx:todo[j]? with
   |none=>rw[hx]at h1;simp at h1
   |some x=>
    rw[hx]at h1
    simp only[Option.map_some,Option.some.injEq,Prod.mk.injEq]at h1
    exact⟨x,List.mem_of_getElem? hx,h1.1,h1.2⟩
  obtain⟨x,hx,hk,hv⟩:=hex
  have hw1h:w1.heap=w.heap:=by rcases hw1 with rfl|rfl<;>rfl
  have hb1:w1.heap[b]? =some (.map es clock):=by rw[hw1h];exact hb
  have hr1:w1.heap[r]? =some (.mapIter (some b) since seen c0):=by rw[hw1h];exact hr
  have hb2:(setBlock w1 r (.mapIter (some b) since (seen.push e.born) clock)).heap[b]? =some (.map es clock):=by
   simp only[Go.ChangeMaps.setBlock,Array.getElem?_setIfInBounds,if_neg hne];exact hb1
  have hr2:(setBlock w1 r (.mapIter (some b) since (seen.push e.born) clock)).heap[r]? =some (.mapIter (some b) since (seen.push e.born) clock):=by
   simp only[Go.ChangeMaps.setBlock,Array.getElem?_setIfInBounds,if_pos,lt_of_heap hr1]
  refine⟨x,hx,setBlock w1 r (.mapIter (some b) since (seen.push e.born) clock),by rw[hrun,hk,hv],⟨es,clock,since,seen.push e.born,clock,hb2,he,hr2,hold,hcl,hcl, ?_, ?_⟩, ?_,by simp[Go.ChangeMaps.setBlock,hw1h], ?_⟩
  ·rw[filter_push e]
   unfold delL
   refine filter_map_key htd (fun e'=>e'.born !=e.born) (fun x'=>kf x' !=kf x) fun e' x' he' hx' hk'=> ?_
   show(e'.born !=e.born)=(kf x' !=kf x)
   have hmem':e'∈es.toList:=(List.mem_filter.1 he').1
   by_cases hkk:kf x'=kf x
   ·have:e'=e:=by
     have hdn:(es.toList.map (·.key)).Nodup:=by
      have h2:=congrArg (fun m=>m.map Prod.fst) he.1
      simp only[List.map_map]at h2
      have h3:es.toList.map (·.key)=(l.map kf).map Value.string:=by rw[List.map_map];exact h2
      rw[h3,List.nodup_iff_pairwise_ne,List.pairwise_map]
      exact(List.nodup_iff_pairwise_ne.1 he.2.2.2).imp (fun h e=>h (by injection e))
     rw[List.nodup_iff_pairwise_ne,List.pairwise_map]at hdn
     exact Go.entry_eq_of_key hdn hmem' hmem (by rw[hk',hk,hkk])
    subst this
    simp[hkk]
   ·have:e'.born≠e.born:=by
     intro hbn
     have hbd:=nodup_born he.2.1
     have:e'=e:=by
      obtain⟨i1,hi1,rfl⟩:=List.mem_iff_getElem.1 hmem'
      obtain⟨i2,hi2,rfl⟩:=List.mem_iff_getElem.1 hmem
      have:=nodup_getElem hbd (by simpa using hi1) (by simpa using hi2) (by simpa using hbn)
      subst this;rfl
     subst this
     rw[hk]at hk'
     injection hk' with h5
     exact hkk h5.symm
    rw[bne_iff_ne.2 this,bne_iff_ne.2 hkk]
  ·exact List.filter_sublist.trans hsub
  ·have hc1:Chg [r] w w1:=by rcases hw1 with rfl|rfl<;>first|exact Chg.refl _ _|exact(Chg.refl _ _).drew
   exact hc1.setBlock _ _ (by simp)
  ·have:=run_entry_at (P:=P) _ r b since seen es clock e hr2 hb2 hmem (nodup_born he.2.1)
   rw[this,hk,hv]
theorem IterIs.drop {w:World} {b r:Nat} {l todo:List α} (h:IterIs kf vf w b r l todo) {t k e:TypeId} (ht:P.underlying t=some (.map k e)) (hk:P.underlying k=some .string) (s:ByteArray) (ty:TypeId):
 ∃w',(Builtin.delete_ #[t,k] ty #[.map (some b), .string s]).run P w= .ok (.tuple #[]) w'∧IterIs kf vf w' b r (delL kf l s) (delL kf todo s)∧Chg [b] w w'∧w'.heap.size=w.heap.size:=by
 have hne:=h.ne
 obtain⟨es,clock,since,seen,c0,hb,he,hr,hold,hsc,hcl,htd,hsub⟩:=h
 obtain⟨es',hrun,he',hwho⟩:=MapIs.drop_who hb he ht hk s ty
 refine⟨_,hrun,⟨es',clock,since,seen,c0,heap_setBlock_same hb _,he',by rw[heap_setBlock_other hb _ hne];exact hr, ?_,hsc,hcl, ?_,hsub.filter _⟩,(Chg.refl _ _).setBlock _ _ (by simp),by simp[Go.ChangeMaps.setBlock]⟩
 ·intro x hx
  rw[hwho]at hx
  exact hold x (List.mem_filter.1 hx).1
 ·rw[hwho,List.filter_filter]
  have:es.toList.filter (fun a=>(!seen.contains a.born)&&keyNe s a)=(es.toList.filter (fun e=> !seen.contains e.born)).filter (keyNe s):=by
   rw[List.filter_filter];exact List.filter_congr fun x _=>Bool.and_comm _ _
  rw[this]
  unfold delL
  exact filter_map_key htd _ _ fun e' x' _ _ hk'=>keyNe_of hk'
end maps
section rows
variable {α:Type} {cf:α→List Value} {sz:Nat}
def RowOf (cf:α→List Value) (sz:Nat) (w:World) (base:Nat) (e:TypeId) (v:Value) (l:List α):Prop:=w.ownsRow base e sz v l.length (l.flatMap cf)
theorem flatMap_len (hc:∀x,(cf x).length=sz) (l:List α):(l.flatMap cf).length=l.length*sz:=by
 induction l with
 |nil=>simp
 |cons x l ih=>rw[List.flatMap_cons,List.length_append,hc,ih,List.length_cons,Nat.add_mul];omega
theorem flatMap_at (hc:∀x,(cf x).length=sz) (l:List α) (k:Nat) (h:k<l.length) (j:Nat) (hj:j<sz):(l.flatMap cf)[k*sz+j]? =(cf l[k])[j]? :=by
 induction l generalizing k with
 |nil=>simp at h
 |cons x l ih=>
  cases k with
  |zero=>simp only[List.flatMap_cons,gCZ,Nat.zero_mul,Nat.zero_add];rw[List.getElem?_append_left (by rw[hc];exact hj)]
  |succ k=>
   simp only[List.flatMap_cons,gCS]
   rw[List.getElem?_append_right (by rw[hc,Nat.add_mul];omega),←ih k (by simpa using h),hc]
   congr 1
   rw[Nat.add_mul];omega
theorem RowOf.nil (w:World) (base:Nat) (e:TypeId):RowOf cf sz w base e (.slice none 0 0) []:=World.ownsRow_nil _ _ _ _
theorem RowOf.kept {w w':World} {base:Nat} {e:TypeId} {v:Value} {l:List α} {S:List Nat} (h:RowOf cf sz w base e v l) (hc:Chg S w w') (hn:∀g,v.ownBlock=some g→g∉S):RowOf cf sz w' base e v l:=by
 obtain⟨h1,h2⟩:=h
 refine⟨h1, ?_⟩
 rcases h2 with h2|⟨g,cap,cur,hv,hg,hh,r⟩
 ·exact .inl h2
 ·exact .inr ⟨g,cap,cur,hv,hg,hc.at (hn g (by rw[hv];rfl)) hh,r⟩
theorem RowOf.mono {w:World} {base base':Nat} {e:TypeId} {v:Value} {l:List α} (h:RowOf cf sz w base e v l) (hb:base'≤base):RowOf cf sz w base' e v l:=by
 obtain⟨h1,h2⟩:=h
 refine⟨h1, ?_⟩
 rcases h2 with h2|⟨g,cap,cur,hv,hg,r⟩
 ·exact .inl h2
 ·exact .inr ⟨g,cap,cur,hv,Nat.le_trans hb hg,r⟩
theorem RowOf.block {w:World} {base:Nat} {e:TypeId} {v:Value} {l:List α} (h:RowOf cf sz w base e v l):∀g,v.ownBlock=some g→base≤g∧g<w.heap.size:=World.ownsRow.lt h
theorem RowOf.at {w:World} {base:Nat} {e:TypeId} {v:Value} {l:List α} (h:RowOf cf sz w base e v l) (hc:∀x,(cf x).length=sz):(v= .slice none 0 0∧l=[])∨
 ∃g cap,v= .slice (some ⟨g,0,none⟩) l.length cap∧l.length≤cap∧cap≤maxLen∧(∀k (hk:k<l.length) j,j<sz→w.cell? ⟨g,k*sz+j,none⟩=(cf l[k])[j]?)∧(∀i,w.frozen? ⟨g,i,none⟩=false)∧base≤g∧g<w.heap.size:=by
 rcases h.2 with ⟨h2,h3⟩|⟨g,cap,cur,hv,hg,hh,h4,h5,h6,h7⟩
 ·exact .inl ⟨h2,List.eq_nil_of_length_eq_zero h3⟩
 ·refine .inr ⟨g,cap,hv,h4,h5,fun k hk j hj=> ?_,fun i=>blk_free hh i,hg,lt_of_heap hh⟩
  rw[blk_cell hh,←flatMap_at hc l k hk j hj,←h7,List.getElem?_take,if_pos ?_,Array.getElem?_toList]
  calc k*sz+j<k*sz+sz:=by omega
   _=(k+1)*sz:=by rw[Nat.add_mul];omega
   _≤l.length*sz:=Nat.mul_le_mul_right _ hk
theorem RowOf.shape {w:World} {base:Nat} {e:TypeId} {v:Value} {l:List α} (h:RowOf cf sz w base e v l):∃a cap,v= .slice a l.length cap:=by
 rcases h.2 with ⟨h2,h3⟩|⟨g,cap,cur,hv,_⟩
 ·exact⟨none,0,by rw[h2,h3]⟩
 ·exact⟨_,_,hv⟩
theorem wpl_append {P:Program} {w:World} {ops:Array Oper} {rest:List Oper} {o:Oper} {a:Act} {Q:Exit→Act→World→Prop} (hgd:o.guard=none) (s x:Operand) (t:TypeId)
 (ho:o.op= .call {callee:= .builtin .append,args:= #[s,x],argTypes:= #[t,t]}) (base:Nat) (e:TypeId) (z:Value) (bytes:Nat) (ht:P.underlying t=some (.slice e)) (hi:(P.info? e).map (fun i=>(i.zero,i.size,i.bytes))=some (some z,sz,bytes))
 (hzs:z.cells.size=sz) (hsz:0<sz) (hc:∀x,(cf x).length=sz) (h1:∀x,∀u∈cf x,u.oneCell'=true) (v:Value) (l:List α) (hs:a.eval s=v) (hown:RowOf cf sz w base e v l)
 (g c:Nat) (y:α) (cur:Array Value) (tt:TypeId) (fr:Nat×Nat) (hx:a.eval x= .slice (some ⟨g,0,none⟩) 1 c) (hnew:w.heap[g]? =some (.cells cur tt fr)) (hcur:cur.toList=cf y) (h63:l.length+1≤maxLen) (hbytes:(l.length+1)*bytes≤140737488355328) (hbase:base≤w.heap.size)
 (h:∀v' w',RowOf cf sz w' base e v' (l++[y])→w.grownBy w' v.ownBlock→wpList P ops Q rest (a.put o.dst v') w'):wpList P ops Q (o::rest) a w:=by
 obtain⟨i,hi0,hz0,hz1,hz2⟩:=info_parts hi
 refine wpList_append_own _ hgd s x t ho base e i z sz bytes ht hi0 hz0 hz1 hz2 hzs hsz v l.length (l.flatMap cf) hs hown ⟨g,0,none⟩ 1 c (cf y) hx (by rw[hc];omega) ?_ (h1 y) h63 hbytes hbase ?_
 ·intro j u hj
  have:(⟨g,0,none⟩:Addr).add j=⟨g,j,none⟩:=by
   unfold Addr.add;split
   ·rename_i e;rw[e]
   ·simp
  rw[this,blk_cell hnew,←Array.getElem?_toList,hcur];exact hj
 ·intro v' w' hown' hg _
  exact h v' w' (by unfold RowOf;simpa using hown') hg
theorem Chg.ofRow {w w':World} {v:Value} (h:w.grownBy w' v.ownBlock):Chg v.ownBlock.toList w w':=
 ⟨h.os,h.tape,h.output,h.size,fun k hk hn=>h.block k hk (fun e=>hn (by rw[←e];simp))⟩
end rows
theorem calls_regrown {P:Program} {f:FuncId} {args:Array Value} {w:World} {d:Nat} {os:Array Obj} {v:Value}
 (h:Calls P f args (Go.Sort.grow (redrawn w d) os) fun e w'=>e= .returned v∧Chg [] (Go.Sort.grow (redrawn w d) os) w'):Calls P f args (Go.Sort.grow (redrawn w d) os) fun e w''=>e= .returned v∧∃p:Regrown,w''=Go.Sort.grow (redrawn w p.d) p.os:=
 Calls.regrown_of (h.mono fun _ _ ⟨he,hc⟩=>⟨he,hc.toBelow (Nat.le_refl _) (by simp)⟩)
theorem chg_regrown (w:World) (d:Nat) (os:Array Obj):Chg [] w (Go.Sort.grow (redrawn w d) os):=Chg.ofBelow (below_regrown w d os)
section ops
variable {α:Type} {kf:α→ByteArray} {vf:α→Value} {P:Program} (w:World) {ops:Array Oper} {rest:List Oper} {o:Oper} {a:Act} {Q:Exit→Act→World→Prop}
theorem wpl_lookup_ok (hg:o.guard=none) (m x:Operand) (t:TypeId) (hop:o.op=Op.lookup t m x true) (k e:TypeId) (ht:P.underlying t=some (.map k e)) (hk:P.underlying k=some .string) {z:Value} (hz:(zeroValue e).run P w= .ok z w)
 (b:Nat) (l:List α) (hm:a.eval m= .map (some b)) (h:MapIs kf vf w b l) (s:ByteArray) (hx:a.eval x= .string s)
 (hK:wpList P ops Q rest (a.put o.dst (.tuple #[((lookL kf l s).map vf).getD z, .bool (lookL kf l s).isSome])) w):wpList P ops Q (o::rest) a w:=by
 refine wpList_plain hg fun K' hK'=> ?_
 have hrun:=h.lookup ht hk hz s true
 unfold Oper.wp
 simp only[if_true]at hrun
 simp[execOp,hop,hm,hx,hrun,Result.andThen]
 exact hK' _ _ hK
theorem wpl_store (hg:o.guard=none) (m x v:Operand) (t:TypeId) (hop:o.op=Op.mapUpdate t m x v) (k e:TypeId) (ht:P.underlying t=some (.map k e)) (hk:P.underlying k=some .string)
 (b:Nat) (l:List α) (hm:a.eval m= .map (some b)) (h:MapIs kf vf w b l) (y:α) (hx:a.eval x= .string (kf y)) (hv:a.eval v=vf y)
 (hK:∀w',MapIs kf vf w' b (putL kf l y)→Chg [b] w w'→w'.heap.size=w.heap.size→wpList P ops Q rest (a.put o.dst undef) w'):wpList P ops Q (o::rest) a w:=by
 refine wpList_plain hg fun K' hK'=> ?_
 obtain⟨w',hrun,h1,h2,h3⟩:=h.store ht hk y
 unfold Oper.wp
 simp[execOp,hop,hm,hx,hv,hrun,Result.andThen]
 exact hK' _ _ (hK w' h1 h2 h3)
theorem wpl_delete (hg:o.guard=none) (m x:Operand) (t k:TypeId) (hop:o.op=Op.call {callee:=Callee.builtin Builtin.delete,args:= #[m,x],argTypes:= #[t,k]}) (e:TypeId) (ht:P.underlying t=some (.map k e)) (hk:P.underlying k=some .string)
 (b:Nat) (l:List α) (hm:a.eval m= .map (some b)) (h:MapIs kf vf w b l) (s:ByteArray) (hx:a.eval x= .string s)
 (hK:∀w',MapIs kf vf w' b (delL kf l s)→Chg [b] w w'→w'.heap.size=w.heap.size→wpList P ops Q rest (a.put o.dst (.tuple #[])) w'):wpList P ops Q (o::rest) a w:=by
 refine wpList_plain hg fun K' hK'=> ?_
 obtain⟨w',hrun,h1,h2,h3⟩:=h.drop ht hk s o.type
 unfold Oper.wp
 simp[execOp,hop,resolve,invoke,builtin,hm,hx,hrun,Result.andThen]
 exact hK' _ _ (hK w' h1 h2 h3)
end ops
end
section
open Go.RowKit
section
variable {P:Program} {α:Type} {cf:α→List Value} {sz:Nat}
theorem step_appendR {w:World} {ops:Array Oper} {o:Oper} {a:Act} {K:Act→World→Prop} {Q:Exit→Act→World→Prop} {E:Prop} (hgd:o.guard=none) (s x:Operand) (t:TypeId)
 (ho:o.op= .call {callee:= .builtin .append,args:= #[s,x],argTypes:= #[t,t]}) (base:Nat) (e:TypeId) (z:Value) (bytes:Nat) (ht:P.underlying t=some (.slice e)) (hi:(P.info? e).map (fun i=>(i.zero,i.size,i.bytes))=some (some z,sz,bytes))
 (hzs:z.cells.size=sz) (hsz:0<sz) (hc:∀x,(cf x).length=sz) (h1:∀x,∀u∈cf x,u.oneCell'=true) (v:Value) (l:List α) (hs:a.eval s=v) (hown:RowOf cf sz w base e v l)
 (g c:Nat) (y:α) (cur:Array Value) (tt:TypeId) (fr:Nat×Nat) (hx:a.eval x= .slice (some ⟨g,0,none⟩) 1 c) (hnew:w.heap[g]? =some (.cells cur tt fr)) (hcur:cur.toList=cf y) (h63:l.length+1≤maxLen) (hbytes:(l.length+1)*bytes≤140737488355328) (hbase:base≤w.heap.size)
 (h:∀g' cap w',RowOf cf sz w' base e (.slice (some ⟨g',0,none⟩) (l.length+1) cap) (l++[y])→w.grownBy w' v.ownBlock→(v.ownBlock=some g'∨g'=w.heap.size)→g'<w'.heap.size→K (a.put o.dst (.slice (some ⟨g',0,none⟩) (l.length+1) cap)) w'):
 if Region.wanted o (yielded ops a.tmps)=true then Oper.wp P o a w K Q else E:=by
 obtain⟨i,hi0,hz0,hz1,hz2⟩:=info_parts hi
 refine step_append_lies w hgd s x t ho base e i z sz bytes ht hi0 hz0 hz1 hz2 hzs hsz v l.length (l.flatMap cf) hs hown ⟨g,0,none⟩ 1 c (cf y) hx (by rw[hc];omega) ?_ (h1 y) (by omega) h63 hbytes hbase w.heap.size rfl ?_
 ·intro j u hj
  have:(⟨g,0,none⟩:Addr).add j=⟨g,j,none⟩:=by
   unfold Addr.add;split
   ·rename_i e;rw[e]
   ·simp
  rw[this,blk_cell hnew,←Array.getElem?_toList,hcur];exact hj
 ·intro g' cap w' hown' hg hat hlt
  exact h g' cap w' (by unfold RowOf;simpa using hown') hg hat hlt
end
end
section
open Go.RowKit
section
variable {P:Program} {α:Type} {cf:α→List Value} {sz:Nat}
theorem wpl_appendW {w:World} {ops:Array Oper} {rest:List Oper} {o:Oper} {a:Act} {Q:Exit→Act→World→Prop} (hgd:o.guard=none) (s x:Operand) (t:TypeId)
 (ho:o.op= .call {callee:= .builtin .append,args:= #[s,x],argTypes:= #[t,t]}) (base:Nat) (e:TypeId) (z:Value) (bytes:Nat) (ht:P.underlying t=some (.slice e)) (hi:(P.info? e).map (fun i=>(i.zero,i.size,i.bytes))=some (some z,sz,bytes))
 (hzs:z.cells.size=sz) (hsz:0<sz) (hc:∀x,(cf x).length=sz) (h1:∀x,∀u∈cf x,u.oneCell'=true) (v:Value) (l:List α) (hs:a.eval s=v) (hown:RowOf cf sz w base e v l)
 (g c:Nat) (y:α) (cur:Array Value) (tt:TypeId) (fr:Nat×Nat) (hx:a.eval x= .slice (some ⟨g,0,none⟩) 1 c) (hnew:w.heap[g]? =some (.cells cur tt fr)) (hcur:cur.toList=cf y) (h63:l.length+1≤maxLen) (hbytes:((l.length+1)+(l.length+1)/4+192)*bytes≤281474976710656) (hbase:base≤w.heap.size)
 (h:∀v' w',RowOf cf sz w' base e v' (l++[y])→w.grownBy w' v.ownBlock→wpList P ops Q rest (a.put o.dst v') w'):wpList P ops Q (o::rest) a w:=by
 obtain⟨i,hi0,hz0,hz1,hz2⟩:=info_parts hi
 refine wpList_append_own_wide _ hgd s x t ho base e i z sz bytes ht hi0 hz0 hz1 hz2 hzs hsz v l.length (l.flatMap cf) hs hown ⟨g,0,none⟩ 1 c (cf y) hx (by rw[hc];omega) ?_ (h1 y) h63 hbytes hbase ?_
 ·intro j u hj
  have:(⟨g,0,none⟩:Addr).add j=⟨g,j,none⟩:=by
   unfold Addr.add;split
   ·rename_i e;rw[e]
   ·simp
  rw[this,blk_cell hnew,←Array.getElem?_toList,hcur];exact hj
 ·intro v' w' hown' hg _
  exact h v' w' (by unfold RowOf;simpa using hown') hg
end
end
end Go.Proofs.YtmofknmeljdodaaGreatDoor
