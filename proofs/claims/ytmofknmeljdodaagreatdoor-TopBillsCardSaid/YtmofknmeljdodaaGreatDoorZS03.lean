/- Over any program: slices of structs (one-cell fields) that came in, read as lists; structs that came in by value. No condition but those that the statements name. -/
import Derived.Deep.Slices
import Derived.Deep.Fields
import Derived.ChangeSame
import Derived.Lib.SmallJoins
import Derived.ProofKit
import Derived.OpenShut
import Derived.Sort.OwnSorted
import Derived.Sort.KeysCollected
import Derived.OwnWalk
import Derived.StillTailTactics
import Derived.Laws.AppendOwnNone
import Derived.Deep.RegionHeld3
import Derived.Deep.RegionLaw
import Derived.Lib.MinMax
import Derived.Test.YtmofknmeljdodaaGreatDoorZS01
import Derived.Test.YtmofknmeljdodaaGreatDoorZS02
set_option maxHeartbeats 100000000
set_option maxRecDepth 100000
set_option linter.unusedVariables false
set_option linter.unusedSimpArgs false
open List renaming getElem_toArray→gTA,getElem_cons_zero→gCZ,getElem_cons_succ→gCS,setIfInBounds_toArray→sTA,set_cons_zero→sCZ,set_cons_succ→sCS
namespace Go.Proofs.YtmofknmeljdodaaGreatDoor
section
open Go.RowKit Go.ChangeShapes Go.WideShapes Go.Deep
def SlIs {α:Type} (cf:α→List Value) (sz:Nat) (w:World) (a:Option Addr) (len:Nat) (l:List α):Prop:=
 l.length=len∧∀k (hk:k<l.length),∃b off,a=some ⟨b,off,none⟩∧b<w.heap.size∧∀j,j<sz→w.cell? ⟨b,off+k*sz+j,none⟩=(cf l[k])[j]?
theorem SlIs.kept {α:Type} {cf:α→List Value} {sz:Nat} {w w':World} {a:Option Addr} {len:Nat} {l:List α} (h:SlIs cf sz w a len l) (hc:Chg [] w w'):SlIs cf sz w' a len l:=
 ⟨h.1,fun k hk=>by
   obtain⟨b,off,h1,h2,h3⟩:=h.2 k hk
   refine⟨b,off,h1,hc.lt h2,fun j hj=> ?_⟩
   rw[←h3 j hj]
   exact World.cell?_of_block (w:=w) (hc.block b h2 (by simp))⟩
theorem SlIs.below {α:Type} {cf:α→List Value} {sz:Nat} {w w':World} {a:Option Addr} {len:Nat} {l:List α} (h:SlIs cf sz w a len l) (hc:Below w.heap.size w w'):SlIs cf sz w' a len l:=h.kept (Chg.ofBelow hc)
section
variable {H:Type} {enc:TypeId×Value→H} {P:Program} {w:World} {base:Nat} {spare:Nat→Bool} {held:Bool}
end
end
section
open Go.RowKit
section rows
variable {α:Type} {cf:α→List Value} {sz:Nat}
theorem addr_none (b off j:Nat):(⟨b,off,none⟩:Addr).add j=⟨b,off+j,none⟩:=by
 unfold Addr.add;split
 ·rename_i e;rw[e];rfl
 ·rfl
theorem wpl_appends {P:Program} {w:World} {ops:Array Oper} {rest:List Oper} {o:Oper} {a:Act} {Q:Exit→Act→World→Prop} (hgd:o.guard=none) (s x:Operand) (t:TypeId)
 (ho:o.op= .call {callee:= .builtin .append,args:= #[s,x],argTypes:= #[t,t]}) (base:Nat) (e:TypeId) (z:Value) (bytes:Nat) (ht:P.underlying t=some (.slice e)) (hi:(P.info? e).map (fun i=>(i.zero,i.size,i.bytes))=some (some z,sz,bytes))
 (hzs:z.cells.size=sz) (hsz:0<sz) (hc:∀x,(cf x).length=sz) (h1:∀x,∀u∈cf x,u.oneCell'=true) (v:Value) (l:List α) (hs:a.eval s=v) (hown:RowOf cf sz w base e v l)
 (g off c m:Nat) (ys:List α) (hx:a.eval x= .slice (some ⟨g,off,none⟩) m c) (hm:m=ys.length) (hys:∀k (hk:k<ys.length) j,j<sz→w.cell? ⟨g,off+(k*sz+j),none⟩=(cf ys[k])[j]?) (h63:l.length+ys.length≤maxLen) (hbytes:(l.length+ys.length)*bytes≤140737488355328) (hbase:base≤w.heap.size)
 (h:∀v' w',RowOf cf sz w' base e v' (l++ys)→w.grownBy w' v.ownBlock→(v'= .slice none 0 0↔v= .slice none 0 0∧ys=[])→wpList P ops Q rest (a.put o.dst v') w'):wpList P ops Q (o::rest) a w:=by
 obtain⟨i,hi0,hz0,hz1,hz2⟩:=info_parts hi
 subst hm
 refine wpList_append_own _ hgd s x t ho base e i z sz bytes ht hi0 hz0 hz1 hz2 hzs hsz v l.length (l.flatMap cf) hs hown ⟨g,off,none⟩ ys.length c (ys.flatMap cf) hx (flatMap_len hc ys) ?_ ?_ h63 hbytes hbase ?_
 ·intro j u hj
  have hjl:j<ys.length*sz:=by rw[←flatMap_len hc ys];exact(List.getElem?_eq_some_iff.1 hj).1
  have hk:j/sz<ys.length:=Nat.div_lt_of_lt_mul (by rw[Nat.mul_comm];exact hjl)
  have hr:j%sz<sz:=Nat.mod_lt _ hsz
  have e1:j/sz*sz+j%sz=j:=by rw[Nat.mul_comm];exact Nat.div_add_mod j sz
  have:=flatMap_at hc ys (j/sz) hk (j%sz) hr
  rw[e1,hj]at this
  rw[addr_none,←e1,hys _ hk _ hr,←this]
 ·intro u hu
  obtain⟨y,_,hy⟩:=List.mem_flatMap.1 hu
  exact h1 y u hy
 ·intro v' w' hown' hg hn
  refine h v' w' (by unfold RowOf;simpa using hown') hg (hn.trans ?_)
  rw[List.length_eq_zero_iff]
theorem wpl_slice_h {P:Program} {k:Nat} {w:World} {ops:Array Oper} {rest:List Oper} {o:Oper} {a:Act} {Q:Exit→Act→World→Prop} (hgd:o.guard=none) (s h:Operand) (t:TypeId) (ho:o.op=Op.slice t s none (some h) none) (ht:P.underlying t=some (.slice (P.elem t)))
 (hsz:(sizeOf (P.elem t)).run P w= .ok k w) (g off n c m:Nat) (hs:a.eval s= .slice (some ⟨g,off,none⟩) n c) (hh:a.eval h= .int .i64 (m:Int)) (hm:m≤c) (hK:wpList P ops Q rest (a.put o.dst (.slice (some ⟨g,off,none⟩) m c)) w):wpList P ops Q (o::rest) a w:=by
 refine wpList_plain hgd fun K' hK'=> ?_
 have hrun:=run_slice_h (P:=P) (w:=w) t (some ⟨g,off,none⟩) n c ht .i64 (m:Int) (by omega) (by omega)
 rw[hsz]at hrun
 simp only[Result.andThen,sliced,Int.toNat_natCast,Nat.sub_zero,Nat.zero_mul,Option.map_some,addr_none,Nat.add_zero,ite_self]at hrun
 rw[←run_sliceAt_slice (P:=P) (h:=ht)]at hrun
 unfold Oper.wp
 simp[execOp,ho,hs,hh,hrun,Result.andThen]
 exact hK' _ _ hK
theorem wpl_slice_l {P:Program} {k:Nat} {w:World} {ops:Array Oper} {rest:List Oper} {o:Oper} {a:Act} {Q:Exit→Act→World→Prop} (hgd:o.guard=none) (s h:Operand) (t:TypeId) (ho:o.op=Op.slice t s (some h) none none) (ht:P.underlying t=some (.slice (P.elem t)))
 (hsz:(sizeOf (P.elem t)).run P w= .ok k w) (g off n c m:Nat) (hs:a.eval s= .slice (some ⟨g,off,none⟩) n c) (hh:a.eval h= .int .i64 (m:Int)) (hm:m≤n) (hn:n≤c) (hK:∀off',(off'=off+m*k∨m=n)→wpList P ops Q rest (a.put o.dst (.slice (some ⟨g,off',none⟩) (n-m) (c-m))) w):wpList P ops Q (o::rest) a w:=by
 refine wpList_plain hgd fun K' hK'=> ?_
 have hrun:=run_slice_l (P:=P) (w:=w) t (some ⟨g,off,none⟩) n c ht .i64 (m:Int) (by omega) (by omega)
 rw[hsz]at hrun
 simp only[Result.andThen,sliced,Int.toNat_natCast,Option.map_some,addr_none]at hrun
 rw[←run_sliceAt_slice (P:=P) (h:=ht)]at hrun
 unfold Oper.wp
 simp[execOp,ho,hs,hh,hrun,Result.andThen]
 by_cases hc:c=m
 ·rw[if_pos hc];exact hK' _ _ (hK off (.inr (by omega)))
 ·rw[if_neg hc];exact hK' _ _ (hK _ (.inl rfl))
theorem RowOf.empty {w:World} {base g:Nat} {e:TypeId} {cur:Array Value} (hb:base≤g) (h:w.heap[g]? =some (.cells cur e (0,0))) (hc:cur.size=0):RowOf cf sz w base e (.slice (some ⟨g,0,none⟩) 0 0) []:=
 ⟨by simp, .inr ⟨g,0,cur,rfl,hb,h,Nat.le_refl _,by unfold maxLen;omega,by simpa using hc,by simp⟩⟩
end rows
def kc (b:List UInt8):List Value:=[encStr b]
def bs (b:ByteArray):List UInt8:=b.data.toList
theorem kLen (x:List UInt8):(kc x).length=1:=rfl
theorem kOne (x:List UInt8):∀u∈kc x,u.oneCell'=true:=by intro u hu;simp[kc]at hu;subst hu;rfl
theorem flat_kc (l:List (List UInt8)):l.flatMap kc=l.map encStr:=by induction l with
 |nil=>rfl
 |cons x l ih=>simp[kc,ih]
theorem sort_row {P:Program} {f:FuncId}
 (hS:∀(blk off cap:Nat) (ss:List (List UInt8)) (w:World) (_:Sort.Holds encStr w blk off ss.toArray) (_:blk<w.heap.size) (_:ss.length<4611686018427387904),
   Calls P f #[.slice (some ⟨blk,off,none⟩) ss.length cap] w fun e w'=>e= .returned (.tuple #[])∧∃n os,w'=Go.Sort.grow (Go.Sort.putRow encStr (Sort.ahead w n) blk off (ss.mergeSort fun x y=>decide (x≤y)).toArray) os)
 (hN:∀(p:Option Addr) (cap:Nat) (w:World),Calls P f #[.slice p 0 cap] w fun e w'=>e= .returned (.tuple #[])∧w'=w)
 {w:World} {base:Nat} {e:TypeId} {v:Value} {l:List (List UInt8)} (h:RowOf kc 1 w base e v l) (hl:l.length<4611686018427387904):
 Calls P f #[v] w fun ex w'=>ex= .returned (.tuple #[])∧RowOf kc 1 w' base e v (l.mergeSort leB)∧Chg v.ownBlock.toList w w':=by
 rcases h.2 with ⟨h2,h3⟩|⟨g,cap,cur,hv,hg,hh,h4,h5,h6,h7⟩
 ·have hl0:=List.eq_nil_of_length_eq_zero h3
  subst hl0
  subst h2
  refine(hN none 0 w).mono ?_
  rintro ex w' ⟨rfl,rfl⟩
  exact⟨rfl,by simpa using h,Chg.refl _ _⟩
 ·subst hv
  rw[flat_kc,Nat.mul_one]at h7
  refine(hS g 0 cap l w (holds_of_block hh h7) (lt_of_heap hh) hl).mono ?_
  rintro ex w' ⟨rfl,n,os,rfl⟩
  refine⟨rfl, ?_,Chg.ofRow (v:= .slice (some ⟨g,0,none⟩) l.length cap) (grownBy_sorted _)⟩
  have:=ownsRow_sorted (n:=n) (os:=os) (ts:=l.mergeSort leB) (by simp) hg hh h4 h5 h6
  unfold RowOf
  rw[flat_kc]
  have e1:(l.mergeSort leB).length=l.length:=by simp
  rw[e1]
  exact this
end
section
open Go.RowKit
section
variable {α:Type} {cf:α→List Value} {sz:Nat}
theorem flatMap_set (hc:∀x,(cf x).length=sz) (l:List α) (k:Nat) (h:k<l.length) (j:Nat) (hj:j<sz) (u:Value) (x':α) (hx:cf x'=(cf l[k]).set j u):(l.set k x').flatMap cf=(l.flatMap cf).set (k*sz+j) u:=by
 induction l generalizing k with
 |nil=>simp at h
 |cons x l ih=>
  cases k with
  |zero=>
   simp only[gCZ]at hx
   simp only[sCZ,List.flatMap_cons,Nat.zero_mul,Nat.zero_add]
   rw[List.set_append_left _ _ (by rw[hc];exact hj),hx]
  |succ k=>
   simp only[gCS]at hx
   simp only[sCS,List.flatMap_cons]
   rw[ih k (by simpa using h) hx,List.set_append_right _ _ (by rw[hc,Nat.add_mul];omega),hc]
   congr 1
   rw[Nat.add_mul]
   congr 1
   omega
theorem RowOf.stored {w:World} {base:Nat} {e:TypeId} {g cap n:Nat} {l:List α} (h:RowOf cf sz w base e (.slice (some ⟨g,0,none⟩) n cap) l) (hn:n=l.length) (hc:∀x,(cf x).length=sz) (k:Nat) (hk:k<l.length) (j:Nat) (hj:j<sz) (u:Value) (x':α) (hx:cf x'=(cf l[k]).set j u):
 RowOf cf sz (w.setCell ⟨g,k*sz+j,none⟩ u) base e (.slice (some ⟨g,0,none⟩) n cap) (l.set k x'):=by
 subst hn
 unfold RowOf
 rw[List.length_set,flatMap_set hc l k hk j hj u x' hx]
 exact(World.ownsRow.stored h _ _).1
end
end
section
open Go.RowKit
section
variable {α:Type} {cf:α→List Value} {sz:Nat}
theorem made_flat {zc:Array Value} {z0:α} (hz:zc.toList=cf z0) (hs:zc.size=sz) (n:Nat):(madeCells zc (n*sz)).toList=(List.replicate n z0).flatMap cf:=by
 have key:(List.range sz).map (fun i=>zc[i]!)=cf z0:=by
  rw[←hz]
  refine List.ext_getElem (by simp[hs]) fun i h1 h2=> ?_
  have h3:i<zc.size:=by simpa using h2
  simp[h3]
 have hm:∀m,(madeCells zc m).toList=(List.range m).map (fun i=>zc[i%sz]!):=by intro m;unfold madeCells;rw[Array.toList_map,Array.toList_range,hs]
 rw[hm]
 induction n with
 |zero=>simp
 |succ n ih=>
  rw[Nat.add_mul,Nat.one_mul,List.range_add,List.map_append,ih,List.replicate_succ',List.flatMap_append]
  congr 1
  rw[List.flatMap_cons,List.flatMap_nil,List.append_nil,←key,List.map_map]
  refine List.map_congr_left fun i hi=> ?_
  have hi':i<sz:=by simpa using hi
  show zc[(n*sz+i)%sz]! =_
  rw[Nat.mul_add_mod_self_right,Nat.mod_eq_of_lt hi']
theorem wpl_make {P:Program} {w:World} {ops:Array Oper} {rest:List Oper} {o:Oper} {a:Act} {Q:Exit→Act→World→Prop} (hg:o.guard=none) (l c:Operand) (t:TypeId) (hop:o.op=Op.makeSlice t l c)
 (base:Nat) (e:TypeId) (z:Value) (bytes:Nat) (ht:P.underlying t=some (.slice e)) (hi:(P.info? e).map (fun i=>(i.zero,i.size,i.bytes))=some (some z,sz,bytes)) (z0:α) (hz:z.cells.toList=cf z0) (hzs:z.cells.size=sz)
 (n:Nat) (hl:a.eval l= .int .i64 (n:Int)) (hc:a.eval c= .int .i64 (n:Int)) (hb:bytes*n≤281474976710656) (hn:n≤maxLen) (hbase:base≤w.heap.size)
 (hK:∀w',RowOf cf sz w' base e (.slice (some ⟨w.heap.size,0,none⟩) n n) (List.replicate n z0)→Chg [] w w'→w.heap.size<w'.heap.size→wpList P ops Q rest (a.put o.dst (.slice (some ⟨w.heap.size,0,none⟩) n n)) w'):wpList P ops Q (o::rest) a w:=by
 obtain⟨i,hi0,hz0,hz1,hz2⟩:=info_parts hi
 refine wpList_make_full _ hg l c t hop base e i z sz ht hi0 hz0 hz1 .i64 .i64 _ _ n hl hc rfl rfl (by rw[hz2];exact hb) hn hbase ?_
 intro w' hown hgr
 have hr:RowOf cf sz w' base e (.slice (some ⟨w.heap.size,0,none⟩) n n) (List.replicate n z0):=by
  unfold RowOf
  rw[List.length_replicate,←made_flat hz hzs n]
  exact hown
 exact hK w' hr (Chg.ofGrownNone hgr) (RowOf.block hr _ rfl).2
theorem RowOf.sl {w:World} {base:Nat} {e:TypeId} {a:Option Addr} {n c:Nat} {l:List α} (h:RowOf cf sz w base e (.slice a n c) l) (hc:∀x,(cf x).length=sz):SlIs cf sz w a n l∧n≤c∧n≤maxLen:=by
 rcases RowOf.at h hc with ⟨h1,h2⟩|⟨g,cap,h1,h2,h3,h4,_,_,h5⟩
 ·cases h1;subst h2
  exact⟨⟨rfl,fun k hk=>by simp at hk⟩,Nat.le_refl _,Nat.zero_le _⟩
 ·cases h1
  exact⟨⟨rfl,fun k hk=>⟨g,0,rfl,h5,fun j hj=>by rw[Nat.zero_add];exact h4 k hk j hj⟩⟩,h2,by omega⟩
theorem RowOf.atS {w:World} {base:Nat} {e:TypeId} {a:Addr} {n c:Nat} {l:List α} (h:RowOf cf sz w base e (.slice (some a) n c) l) (hc:∀x,(cf x).length=sz):
 n=l.length∧l.length≤c∧c≤maxLen∧(∀k (hk:k<l.length) j,j<sz→w.cell? ⟨a.block,k*sz+j,none⟩=(cf l[k])[j]?)∧(∀i,w.frozen? ⟨a.block,i,none⟩=false)∧base≤a.block∧a.block<w.heap.size:=by
 obtain⟨g,cap,hv,h1,h2,h3,h4,h5,h6⟩:=(RowOf.at h hc).resolve_left (fun h=>by simp at h)
 simp only[Value.slice.injEq,Option.some.injEq]at hv
 obtain⟨rfl,rfl,rfl⟩:=hv
 exact⟨rfl,h1,h2,h3,h4,h5,h6⟩
theorem SlIs.drop {w:World} {a:Option Addr} {n c m:Nat} {l:List α} (h:SlIs cf sz w a n l) (hm:m≤n) (hn:n≤c):SlIs cf sz w (if c=m then a else a.map (·.add (m*sz))) (n-m) (l.drop m):=by
 obtain⟨hl,hc⟩:=h
 refine⟨by simp[hl],fun k hk=> ?_⟩
 have hk':m+k<l.length:=by simp at hk;omega
 obtain⟨b,off,rfl,hb,hcell⟩:=hc (m+k) hk'
 rw[if_neg (by omega)]
 refine⟨b,off+m*sz,by simp[addr_none],hb,fun j hj=> ?_⟩
 have:=hcell j hj
 rw[List.getElem_drop,←this,Nat.add_mul]
 congr 2
 omega
theorem wpl_slice_lo {P:Program} {w:World} {ops:Array Oper} {rest:List Oper} {o:Oper} {a:Act} {Q:Exit→Act→World→Prop} (hgd:o.guard=none) (s h:Operand) (t:TypeId) (ho:o.op=Op.slice t s (some h) none none) (ht:P.underlying t=some (.slice (P.elem t)))
 (hsz:(sizeOf (P.elem t)).run P w= .ok sz w) (a0:Option Addr) (n c m:Nat) (l:List α) (hs:a.eval s= .slice a0 n c) (hh:a.eval h= .int .i64 (m:Int)) (hm:m≤n) (hn:n≤c) (hsl:SlIs cf sz w a0 n l)
 (hK:∀a',SlIs cf sz w a' (n-m) (l.drop m)→wpList P ops Q rest (a.put o.dst (.slice a' (n-m) (c-m))) w):wpList P ops Q (o::rest) a w:=by
 refine wpList_plain hgd fun K' hK'=> ?_
 have hrun:=run_slice_l (P:=P) (w:=w) t a0 n c ht .i64 (m:Int) (by omega) (by omega)
 rw[hsz]at hrun
 simp only[Result.andThen,sliced,Int.toNat_natCast]at hrun
 rw[←run_sliceAt_slice (P:=P) (h:=ht)]at hrun
 unfold Oper.wp
 simp[execOp,ho,hs,hh,hrun,Result.andThen]
 exact hK' _ _ (hK _ (hsl.drop hm hn))
theorem SlIs.ofBlock {w:World} {b:Nat} {cur:Array Value} {t:TypeId} {fr:Nat×Nat} (l:List α) (h:w.heap[b]? =some (.cells cur t fr)) (hc:∀x,(cf x).length=sz) (hl:cur.toList=l.flatMap cf):SlIs cf sz w (some ⟨b,0,none⟩) l.length l:=
 ⟨rfl,fun k hk=>⟨b,0,rfl,lt_of_heap h,fun j hj=>by rw[Nat.zero_add,blk_cell h,←flatMap_at hc l k hk j hj,←hl,Array.getElem?_toList]⟩⟩
def storeEl (w:World) (g p:Nat):Nat→List Value→World
 |_,[]=>w
 |j,u::us=>storeEl (w.setCell ⟨g,p+j,none⟩ u) g p (j+1) us
def putLs (xs:List Value) (p:Nat):Nat→List Value→List Value
 |_,[]=>xs
 |j,u::us=>putLs (xs.set (p+j) u) p (j+1) us
theorem putLs_mid (p:Nat):∀(us pre seg rest:List Value) (j:Nat),pre.length=p+j→seg.length=us.length→putLs (pre++(seg++rest)) p j us=pre++(us++rest):=by
 intro us
 induction us with
 |nil=>intro pre seg rest j _ h2;cases seg with|nil=>rfl|cons=>simp at h2
 |cons u us ih=>
  intro pre seg rest j h1 h2
  cases seg with
  |nil=>simp at h2
  |cons s seg=>
   unfold putLs
   rw[List.set_append_right _ _ (by omega),show p+j-pre.length=0 by omega]
   have:=ih (pre++[u]) seg rest (j+1) (by simp;omega) (by simpa using h2)
   simpa using this
theorem RowOf.putEl {w:World} {base:Nat} {e:TypeId} {g n c:Nat} {l:List α} (h:RowOf cf sz w base e (.slice (some ⟨g,0,none⟩) n c) l) (hc:∀x,(cf x).length=sz) (k:Nat) (hk:k<l.length) (x:α):
 RowOf cf sz (storeEl w g (k*sz) 0 (cf x)) base e (.slice (some ⟨g,0,none⟩) n c) (l.set k x):=by
 have hn:n=l.length:=(RowOf.atS h hc).1
 subst hn
 have key:∀(us:List Value) (w:World) (xs:List Value) (j:Nat),w.ownsRow base e sz (.slice (some ⟨g,0,none⟩) l.length c) l.length xs→(storeEl w g (k*sz) j us).ownsRow base e sz (.slice (some ⟨g,0,none⟩) l.length c) l.length (putLs xs (k*sz) j us):=by
  intro us
  induction us with
  |nil=>intro w xs j h;exact h
  |cons u us ih=>intro w xs j h;exact ih _ _ _ (World.ownsRow.stored h _ _).1
 have h2:=key (cf x) w _ 0 h
 unfold RowOf
 have e:putLs (l.flatMap cf) (k*sz) 0 (cf x)=(l.set k x).flatMap cf:=by
  have hl:l=l.take k++l[k]::l.drop (k+1):=by rw[←List.drop_eq_getElem_cons hk,List.take_append_drop]
  have hs:l.set k x=l.take k++x::l.drop (k+1):=by
   rw[List.set_eq_take_append_cons_drop,if_pos hk]
  rw[hs]
  conv=>lhs;rw[hl]
  rw[List.flatMap_append,List.flatMap_append,List.flatMap_cons,List.flatMap_cons]
  exact putLs_mid _ _ _ _ _ _ (by rw[flatMap_len hc,List.length_take,Nat.min_eq_left (by omega)];omega) (by rw[hc,hc])
 rw[←e,List.length_set]
 exact h2
theorem Chg.putEl {w:World} {g p:Nat} (us:List Value):∀j,Chg [g] w (storeEl w g p j us):=by
 induction us generalizing w with
 |nil=>intro j;exact Chg.refl _ _
 |cons u us ih=>intro j;exact((Chg.refl [g] w).setCell _ _ (by simp)).thenSame (ih _)
theorem SlIs.elem {w w':World} {a:Option Addr} {n:Nat} {l:List α} (h:SlIs cf sz w a n l) (hc:Chg [] w w') (k:Nat) (hk:k<l.length):
 ∃b off,a=some ⟨b,off,none⟩∧b<w.heap.size∧b<w'.heap.size∧∀j,j<sz→w'.cell? ⟨b,off+k*sz+j,none⟩=(cf l[k])[j]? :=by
 obtain⟨b,off,h1,h2,h3⟩:=h.2 k hk
 exact⟨b,off,h1,h2,hc.lt h2,fun j hj=>by rw[←h3 j hj];exact World.cell?_of_block (w:=w) (hc.block b h2 (by simp))⟩
end
end
section
open Go.RowKit
section
variable {α:Type} {cf:α→List Value} {sz:Nat}
def SrcIs (cf:α→List Value) (sz:Nat) (w:World) (v:Value) (l:List α):Prop:=
 (v= .slice none 0 0∧l=[])∨∃g off c,v= .slice (some ⟨g,off,none⟩) l.length c∧l.length≤c∧c≤maxLen∧g<w.heap.size∧∀k (hk:k<l.length) j,j<sz→w.cell? ⟨g,off+(k*sz+j),none⟩=(cf l[k])[j]?
theorem SrcIs.kept {w w':World} {v:Value} {l:List α} (h:SrcIs cf sz w v l) (hc:Chg [] w w'):SrcIs cf sz w' v l:=by
 rcases h with h|⟨g,off,c,h1,h2,h3,h4,h5⟩
 ·exact .inl h
 ·refine .inr ⟨g,off,c,h1,h2,h3,hc.lt h4,fun k hk j hj=> ?_⟩
  rw[←h5 k hk j hj]
  exact World.cell?_of_block (w:=w) (hc.block g h4 (by simp))
theorem RowOf.src {w:World} {base:Nat} {e:TypeId} {v:Value} {l:List α} (h:RowOf cf sz w base e v l) (hc:∀x,(cf x).length=sz):SrcIs cf sz w v l:=by
 rcases RowOf.at h hc with h1|⟨g,cap,h1,h2,h3,h4,_,_,h5⟩
 ·exact .inl h1
 ·exact .inr ⟨g,0,cap,h1,h2,h3,h5,fun k hk j hj=>by rw[Nat.zero_add];exact h4 k hk j hj⟩
theorem wpl_slice_lX {P:Program} {w:World} {ops:Array Oper} {rest:List Oper} {o:Oper} {a:Act} {Q:Exit→Act→World→Prop} (hgd:o.guard=none) (s h:Operand) (t:TypeId) (ho:o.op=Op.slice t s (some h) none none) (ht:P.underlying t=some (.slice (P.elem t)))
 (hsz:(sizeOf (P.elem t)).run P w= .ok sz w) (v:Value) (l:List α) (m:Nat) (hs:a.eval s=v) (hsrc:SrcIs cf sz w v l) (hh:a.eval h= .int .i64 (m:Int)) (hm:m≤l.length)
 (hK:∀v',SrcIs cf sz w v' (l.drop m)→wpList P ops Q rest (a.put o.dst v') w):wpList P ops Q (o::rest) a w:=by
 rcases hsrc with ⟨rfl,rfl⟩|⟨g,off,c,rfl,h2,h3,h4,h5⟩
 ·have hm0:m=0:=by simpa using hm
  refine wpList_plain hgd fun K' hK'=> ?_
  have hrun:=run_slice_l (P:=P) (w:=w) t none 0 0 ht .i64 (m:Int) (by omega) (by omega)
  rw[hsz]at hrun
  simp only[Result.andThen,sliced,Int.toNat_natCast,Option.map_none,ite_self]at hrun
  rw[←run_sliceAt_slice (P:=P) (h:=ht)]at hrun
  unfold Oper.wp
  simp[execOp,ho,hs,hh,hrun,Result.andThen]
  exact hK' _ _ (hK _ (.inl ⟨by first|rfl|rw[hm0],by simp⟩))
 ·refine wpl_slice_l hgd s h t ho ht hsz g off l.length c m hs hh (by omega) h2 ?_
  intro off' hoff
  have e1:(l.drop m).length=l.length-m:=List.length_drop
  refine hK _ (.inr ⟨g,off',c-m,by rw[e1],by omega,by omega,h4,fun k hk j hj=> ?_⟩)
  rcases hoff with rfl|rfl
  ·have:=h5 (m+k) (by omega) j hj
   rw[List.getElem_drop,←this,Nat.add_mul]
   congr 2
   omega
  ·simp at hk
theorem wpl_appendsX {P:Program} {w:World} {ops:Array Oper} {rest:List Oper} {o:Oper} {a:Act} {Q:Exit→Act→World→Prop} (hgd:o.guard=none) (s x:Operand) (t:TypeId)
 (ho:o.op= .call {callee:= .builtin .append,args:= #[s,x],argTypes:= #[t,t]}) (base:Nat) (e:TypeId) (z:Value) (bytes:Nat) (ht:P.underlying t=some (.slice e)) (hi:(P.info? e).map (fun i=>(i.zero,i.size,i.bytes))=some (some z,sz,bytes))
 (hzs:z.cells.size=sz) (hsz:0<sz) (hc:∀x,(cf x).length=sz) (h1:∀x,∀u∈cf x,u.oneCell'=true) (v:Value) (l:List α) (hs:a.eval s=v) (hown:RowOf cf sz w base e v l)
 (vx:Value) (ys:List α) (hx:a.eval x=vx) (hsrc:SrcIs cf sz w vx ys) (h63:l.length+ys.length≤maxLen) (hbytes:(l.length+ys.length)*bytes≤140737488355328) (hbase:base≤w.heap.size)
 (h:∀v' w',RowOf cf sz w' base e v' (l++ys)→Chg v.ownBlock.toList w w'→wpList P ops Q rest (a.put o.dst v') w'):wpList P ops Q (o::rest) a w:=by
 rcases hsrc with ⟨rfl,rfl⟩|⟨g,off,c,rfl,h2,h3,h4,h5⟩
 ·obtain⟨i,hi0,_⟩:=info_parts hi
  refine wpList_append_own_none hgd s x t ho base e i sz ht hi0 v l.length (l.flatMap cf) hs hown hx ?_
  exact h v w (by simpa using hown) (Chg.refl _ _)
 ·refine wpl_appends hgd s x t ho base e z bytes ht hi hzs hsz hc h1 v l hs hown g off c ys.length ys hx rfl h5 h63 hbytes hbase ?_
  intro v' w' hr hg _
  exact h v' w' hr (Chg.ofRow hg)
end
end
section
open Go.RowKit
section
variable {P:Program} {α:Type} {cf:α→List Value} {sz:Nat}
def InIs (cf:α→List Value) (sz:Nat) (w:World) (a:Option Addr) (c:Nat) (l:List α):Prop:=SlIs cf sz w a l.length l∧l.length≤c∧c≤maxLen∧(a=none→c=0)
theorem InIs.kept {w w':World} {a:Option Addr} {c:Nat} {l:List α} (h:InIs cf sz w a c l) (hc:Chg [] w w'):InIs cf sz w' a c l:=⟨h.1.kept hc,h.2⟩
theorem SlIs.none {w:World} {n:Nat} {l:List α} (h:SlIs cf sz w none n l):n=0∧l=[]:=by
 obtain⟨h1,h2⟩:=h
 cases l with
 |nil=>exact⟨h1.symm,rfl⟩
 |cons x l=>
  obtain⟨b,o,h,_⟩:=h2 0 (by simp)
  cases h
theorem InIs.src {w:World} {a:Option Addr} {c:Nat} {l:List α} (h:InIs cf sz w a c l) (hl:0<l.length):SrcIs cf sz w (.slice a l.length c) l:=by
 obtain⟨h1,h2,h3,h4⟩:=h
 obtain⟨b,o,rfl,hb,_⟩:=h1.2 0 hl
 refine .inr ⟨b,o,c,rfl,h2,h3,hb,fun k hk j hj=> ?_⟩
 obtain⟨b',o',e,_,h5⟩:=h1.2 k hk
 cases e
 rw[←h5 j hj]
 congr 2
 omega
theorem InIs.ofRow {w:World} {base:Nat} {e:TypeId} {a:Option Addr} {n c:Nat} {l:List α} (h:RowOf cf sz w base e (.slice a n c) l) (hc:∀x,(cf x).length=sz):n=l.length∧InIs cf sz w a c l:=by
 have hs:=RowOf.sl h hc
 have hn:n=l.length:=hs.1.1.symm
 subst hn
 refine⟨rfl,hs.1,hs.2.1, ?_, ?_⟩
 ·rcases RowOf.at h hc with ⟨h1,h2⟩|⟨g,cap,h1,h2,h3,_⟩
  ·simp only[Value.slice.injEq]at h1;unfold maxLen;omega
  ·simp only[Value.slice.injEq]at h1;omega
 ·rintro rfl
  rcases RowOf.at h hc with ⟨h1,h2⟩|⟨g,cap,h1,h2,h3,_⟩
  ·simp only[Value.slice.injEq]at h1;exact h1.2.2
  ·simp at h1
theorem wpl_appendsI {w:World} {ops:Array Oper} {rest:List Oper} {o:Oper} {a:Act} {Q:Exit→Act→World→Prop} (hgd:o.guard=none) (s x:Operand) (t:TypeId)
 (ho:o.op= .call {callee:= .builtin .append,args:= #[s,x],argTypes:= #[t,t]}) (base:Nat) (e:TypeId) (z:Value) (bytes:Nat) (ht:P.underlying t=some (.slice e)) (hi:(P.info? e).map (fun i=>(i.zero,i.size,i.bytes))=some (some z,sz,bytes))
 (hzs:z.cells.size=sz) (hsz:0<sz) (hc:∀x,(cf x).length=sz) (h1:∀x,∀u∈cf x,u.oneCell'=true) (v:Value) (l:List α) (hs:a.eval s=v) (hown:RowOf cf sz w base e v l)
 (ax:Option Addr) (c:Nat) (ys:List α) (hx:a.eval x= .slice ax ys.length c) (hsrc:InIs cf sz w ax c ys) (h63:l.length+ys.length≤maxLen) (hbytes:(l.length+ys.length)*bytes≤140737488355328) (hbase:base≤w.heap.size)
 (h:∀v' w',RowOf cf sz w' base e v' (l++ys)→Chg v.ownBlock.toList w w'→wpList P ops Q rest (a.put o.dst v') w'):wpList P ops Q (o::rest) a w:=by
 by_cases hys:0<ys.length
 ·exact wpl_appendsX hgd s x t ho base e z bytes ht hi hzs hsz hc h1 v l hs hown _ ys hx (hsrc.src hys) h63 hbytes hbase h
 ·have hn:ys=[]:=by simpa using hys
  subst hn
  obtain⟨i,hi0,hz0,hz1,hz2⟩:=info_parts hi
  cases ax with
  |none=>
   have hc0:=hsrc.2.2.2 rfl
   subst hc0
   exact wpl_appendsX hgd s x t ho base e z bytes ht hi hzs hsz hc h1 v l hs hown _ [] hx (.inl ⟨rfl,rfl⟩) h63 hbytes hbase h
  |some ad=>
   refine wpList_append_own _ hgd s x t ho base e i z sz bytes ht hi0 hz0 hz1 hz2 hzs hsz v l.length (l.flatMap cf) hs hown ad 0 c [] hx (by simp) (by intro j u hj;simp at hj) (by intro u hu;simp at hu) h63 hbytes hbase ?_
   intro v' w' hown' hg _
   exact h v' w' (by unfold RowOf;simpa using hown') (Chg.ofRow hg)
theorem step_list {ops:Array Oper} {o:Oper} {a:Act} {w:World} {K:Act→World→Prop} {Q:Exit→Act→World→Prop} {E:Prop} {tm:Array Value} (hgd:o.guard=none)
 (h:wpList P ops (fun e a' w'=>e= .normal∧K a' w') [o] a w):if Region.wanted o (yielded ops tm)=true then Oper.wp P o a w K Q else E:=by
 have hw:∀tm,Region.wanted o (yielded ops tm)=true:=fun tm=>by simp[Region.wanted,hgd]
 rw[if_pos (hw _)]
 have h2:Oper.wp P o a w (fun a' w'=>True∧K a' w') (fun e a' w'=>e= .normal∧K a' w'):=by
  unfold wpList at h
  rw[if_pos (hw _)]at h
  rcases h with h|⟨_,a',w',h,_⟩
  ·exact Oper.wp_mono (fun a w h=>⟨trivial,h.2⟩) h
  ·cases h
 unfold Oper.wp Oper.upon at h2⊢
 revert h2
 generalize (execOp a.eval o).run P w=r
 rcases r with ⟨r,w'⟩|⟨r,w'⟩
 ·cases r with
  |value v=>exact fun h=>h.2
  |skip=>exact fun h=>h.2
  |defer d=>exact fun h=>h.2
  |enter f args=>
   intro h
   refine Calls.mono h ?_
   intro e w'' he
   cases e with
   |returned v=>exact he.2
   |panicked chain=>exact absurd he.1 (by simp)
   |outgrown=>obtain⟨a',w',h,_⟩:=he;cases h
  |row r args=>intro h;exact Rows.mono h (fun v w h=>h.2)
  |_=>exact fun h=>h
 ·cases r with
  |panic v=>intro h;exact absurd h.1 (by simp)
  |_=>exact fun h=>h
end
end
section
open Go.RowKit Go.ChangeShapes Go.WideShapes
open Go.ChangeMaps (open_string)
structure Ce where
 kind:Int
 n:Int
 str:ByteArray
 cn:Int
def ceC (x:Ce):List Value:=[.int .i64 x.kind, .int .i64 x.n, .string x.str, .int .i64 x.cn]
def Ce.good (x:Ce):Prop:=(Lit.int .i64 x.kind).wf=true∧(Lit.int .i64 x.n).wf=true∧x.str.size≤maxLen∧(Lit.int .i64 x.cn).wf=true
theorem ceC_len (x:Ce):(ceC x).length=4:=rfl
theorem ceC_one (x:Ce):∀u∈ceC x,u.oneCell'=true:=by intro u hu;simp[ceC]at hu;rcases hu with rfl|rfl|rfl|rfl<;>rfl
def ceV (x:Ce):Value:= .agg #[.int .i64 x.kind, .int .i64 x.n, .string x.str, .int .i64 x.cn]
def ceO (x:Ce):Obj:= .cells #[.int .i64 x.kind, .int .i64 x.n, .string x.str, .int .i64 x.cn] 63
def textB (s:ByteArray):Bool:=s.data.toList.all (fun c=>decide (32≤c.toNat)&&decide (c.toNat≤126))
theorem text_any (s:ByteArray) (w:World) (hs:s.size≤maxLen):Calls Tryz.prog 249 #[.string s] w fun e w'=>e= .returned (.bool (textB s))∧w=w':=by
 unfold maxLen at hs
 obtain⟨R,hR⟩:∃R,R=textB s:=⟨_,rfl⟩
 rw[←hR]
 have HR:=LH hR
 clear hR
 go_enter Tryz.func249,Tryz.ntmps249
 go_wp2_with fail
 go_loop [6] (fun i=>∃p:Nat,i= .int .i64 p∧p≤s.size∧(s.data.toList.take p).all (fun c=>decide (32≤c.toNat)&&decide (c.toNat≤126))=true) (fun i=>s.size-(intOf i).toNat)
 case atStart=>exact⟨0,rfl,Nat.zero_le _,by simp⟩
 case round=>
  obtain⟨p,rfl,hp,hall⟩:=hrel
  have Hall:=LH hall
  clear hall
  by_cases hlt:p<s.size
  ·have hst:=all_take_succ s.data.toList (fun c=>decide (32≤c.toNat)&&decide (c.toNat≤126)) p (by simpa using hlt)
   rw[Hall.out,Bool.true_and]at hst
   have hno:(decide (32≤(s[p]'hlt).toNat)&&decide ((s[p]'hlt).toNat≤126))=false→textB s=false:=fun h=>by
    unfold textB
    rw[List.all_eq_false]
    exact⟨s[p]'hlt,by simp[ByteArray.getElem_eq_getElem_data],by simp[h]⟩
   have he:s.data.toList[p]'(by simpa using hlt)=s[p]'hlt:=by simp[ByteArray.getElem_eq_getElem_data]
   rw[he]at hst
   have HST:=LH hst
   have HNO:=LH hno
   clear hst hno he
   by_cases h1:((s[p]'hlt).toNat:Int)<32
   ·have HE:Hid (R=false):=LH (by rw[HR.out,HNO.out];rw[decide_eq_false (by omega)];rfl)
    go_wp2_with fail
    go_ret
    exact⟨by rw[HE.out];rfl,rfl⟩
   ·have h1':(32:Int)≤((s[p]'hlt).toNat:Int):=by omega
    by_cases h2:(126:Int)<((s[p]'hlt).toNat:Int)
    ·have HE:Hid (R=false):=LH (by rw[HR.out,HNO.out];rw[show decide ((s[p]'hlt).toNat≤126)=false from decide_eq_false (by omega),Bool.and_false])
     go_wp2_with fail
     go_ret
     exact⟨by rw[HE.out];rfl,rfl⟩
    ·have h2':((s[p]'hlt).toNat:Int)≤126:=by omega
     have HS2:=LH (HST.out.trans (show(decide (32≤(s[p]'hlt).toNat)&&decide ((s[p]'hlt).toNat≤126))=true by rw[decide_eq_true (by omega),decide_eq_true (by omega)];rfl))
     go_wp2_with fail
     exact⟨⟨p+1,by go_num,by omega,HS2.out⟩,by simp[intOf];omega⟩
  ·have hps:p=s.size:=by omega
   have HE:Hid (R=true):=LH (by
    rw[HR.out]
    have:=Hall.out
    rw[List.take_of_length_le (by simp;omega)]at this
    exact this)
   subst hps
   go_wp2_with fail
   go_ret
   exact⟨by rw[HE.out];rfl,rfl⟩
def validB (n:Int):Bool:=decide (-1000000000000≤n)&&decide (n≤1000000000000)
theorem valid_any (n:Int) (w:World):Calls Tryz.prog 173 #[.int .i64 n] w fun e w'=>e= .returned (.bool (validB n))∧w=w':=by
 by_cases h1: -1000000000000≤n
 ·go_enter Tryz.func173,Tryz.ntmps173
  go_wp2
  go_ret
  exact⟨by simp[validB,h1],rfl⟩
 ·go_enter Tryz.func173,Tryz.ntmps173
  go_wp2
  go_ret
  exact⟨by simp[validB,h1];try omega,rfl⟩
def quotZ (s:ByteArray):Int:=IntKind.i64.wrap (IntKind.i64.wrap (IntKind.i64.wrap ((s.size:Int)+2)+(Lib.countByte s.data.toList 34:Nat))+(Lib.countByte s.data.toList 92:Nat))
theorem quoted_any (s:ByteArray) (w:World):Calls Tryz.prog 171 #[.string s] w fun e w'=>e= .returned (.int .i64 (quotZ s))∧w=w':=by
 have A1:=LH (fun w'=>Tryz.strings_Count_one s 34 w')
 have A2:=LH (fun w'=>Tryz.strings_Count_one s 92 w')
 unfold quotZ
 generalize Lib.countByte s.data.toList 34=c1 at*
 generalize Lib.countByte s.data.toList 92=c2 at*
 go_enter Tryz.func171,Tryz.ntmps171
 go_wp2_with fail
 refine(A1.out _).mono ?_;rintro e w1 ⟨rfl,rfl⟩
 go_wp2_with fail
 refine(A2.out _).mono ?_;rintro e w2 ⟨rfl,rfl⟩
 go_wp2_with fail
 go_ret
 exact⟨by simp[IntWalk.i64_left],rfl⟩
end
section
open Go.RowKit
def emptyB (s:ByteArray):Bool:=s.toList.isEmpty
theorem empty_cases (s:ByteArray):(s.toList=[]∧s.toList.isEmpty=true)∨(¬s.toList=[]∧s.toList.isEmpty=false):=by
 cases h:s.toList<;>simp
def plainB (x:Ce):Bool:=
 if x.kind=1 then x.n==0&&emptyB x.str&&x.cn==0
 else if x.kind=2 then(x.n==0||x.n==1)&&emptyB x.str&&x.cn==0
 else if x.kind=3 then emptyB x.str&&x.cn==0
 else if x.kind=4 then x.n==0&&x.cn==0&&textB x.str
 else if x.kind=5∨x.kind=6 then x.n==0&&emptyB x.str&&decide (0≤x.cn)
 else false
theorem plain_any (x:Ce) (w:World) (hs:x.str.size≤maxLen):Calls Tryz.prog 170 #[ceV x] w fun e w'=>e= .returned (.bool (plainB x))∧Chg [] w w':=by
 have C1:=LH (show Chg [] w (w.alloc (ceO x))from(Chg.refl _ _).alloc _)
 have A1:=LH (fun w'=>text_any x.str w' hs)
 obtain⟨k,n,s,cn⟩:=x
 obtain⟨R,hR⟩:∃R,R=plainB ⟨k,n,s,cn⟩:=⟨_,rfl⟩
 rw[←hR]
 unfold plainB emptyB at hR
 simp only at hR A1
 unfold ceV
 unfold ceO at C1
 generalize textB s=tb at*
 have HR:=LH hR
 have hb:=empty_cases s
 clear hR hs
 by_cases h1:k=1
 ·subst h1
  cases b1:n==0<;>rcases hb with ⟨b2,b2e⟩|⟨b2,b2e⟩<;>cases b3:cn==0
  all_goals
   have HE:=LH (HR.out.trans (by rw[if_pos rfl,b1,b2e,b3]))
   go_enter Tryz.func170,Tryz.ntmps170
   go_wp2_with fail
   go_ret
   exact⟨by rw[HE.out];rfl,C1.out⟩
 have k1:(k==1)=false:=by simpa using h1
 by_cases h2:k=2
 ·subst h2
  by_cases n0:n=0
  ·subst n0
   rcases hb with ⟨b2,b2e⟩|⟨b2,b2e⟩<;>cases b3:cn==0
   all_goals
    have HE:=LH (HR.out.trans (by rw[if_neg (by decide),if_pos rfl,b2e,b3]))
    go_enter Tryz.func170,Tryz.ntmps170
    go_wp2_with fail
    go_ret
    exact⟨by rw[HE.out];rfl,C1.out⟩
  ·have n0':(n==0)=false:=by simpa using n0
   cases b1:n==1<;>rcases hb with ⟨b2,b2e⟩|⟨b2,b2e⟩<;>cases b3:cn==0
   all_goals
    have HE:=LH (HR.out.trans (by rw[if_neg (by decide),if_pos rfl,n0',b1,b2e,b3]))
    go_enter Tryz.func170,Tryz.ntmps170
    go_wp2_with fail
    go_ret
    exact⟨by rw[HE.out];rfl,C1.out⟩
 have k2:(k==2)=false:=by simpa using h2
 by_cases h3:k=3
 ·subst h3
  rcases hb with ⟨b2,b2e⟩|⟨b2,b2e⟩<;>cases b3:cn==0
  all_goals
   have HE:=LH (HR.out.trans (by rw[if_neg (by decide),if_neg (by decide),if_pos rfl,b2e,b3]))
   go_enter Tryz.func170,Tryz.ntmps170
   go_wp2_with fail
   go_ret
   exact⟨by rw[HE.out];rfl,C1.out⟩
 have k3:(k==3)=false:=by simpa using h3
 by_cases h4:k=4
 ·subst h4
  cases b1:n==0<;>cases b3:cn==0
  all_goals
   have HE:=LH (HR.out.trans (by rw[if_neg (by decide),if_neg (by decide),if_neg (by decide),if_pos rfl,b1,b3]))
   go_enter Tryz.func170,Tryz.ntmps170
   go_wp2_with (go_at_call 249;(with_reducible refine(A1.out _).mono ?_);rintro e w2 ⟨rfl,rfl⟩)
   go_ret
   exact⟨by rw[HE.out];rfl,C1.out⟩
 have k4:(k==4)=false:=by simpa using h4
 by_cases h56:k=5∨k=6
 ·have HR2:=LH (HR.out.trans (by rw[if_neg h1,if_neg h2,if_neg h3,if_neg h4,if_pos h56]))
  clear HR
  by_cases hc:0≤cn
  ·rcases h56 with rfl|rfl
   all_goals
    cases b1:n==0<;>rcases hb with ⟨b2,b2e⟩|⟨b2,b2e⟩
    all_goals
     have HE:=LH (HR2.out.trans (by rw[b1,b2e,decide_eq_true hc]))
     go_enter Tryz.func170,Tryz.ntmps170
     go_wp2_with fail
     go_ret
     exact⟨by rw[HE.out];rfl,C1.out⟩
  ·have hc':cn<0:=by omega
   rcases h56 with rfl|rfl
   all_goals
    cases b1:n==0<;>rcases hb with ⟨b2,b2e⟩|⟨b2,b2e⟩
    all_goals
     have HE:=LH (HR2.out.trans (by rw[b1,b2e,decide_eq_false hc]))
     go_enter Tryz.func170,Tryz.ntmps170
     go_wp2_with fail
     go_ret
     exact⟨by rw[HE.out];rfl,C1.out⟩
 ·have HE:=LH (HR.out.trans (by rw[if_neg h1,if_neg h2,if_neg h3,if_neg h4,if_neg h56]))
  have k5:(k==5)=false:=by simp;intro h;exact h56 (.inl h)
  have k6:(k==6)=false:=by simp;intro h;exact h56 (.inr h)
  go_enter Tryz.func170,Tryz.ntmps170
  go_wp2_with fail
  go_ret
  exact⟨by rw[HE.out];rfl,C1.out⟩
def TabW (w:World):Prop:=Lib.TabIs Tryz.prog w "internal/strconv.uint64pow10" .u64 Lib.pow10Tab
def sizeZ (x:Ce):Int:=
 if x.kind=1 then 4
 else if x.kind=2 then IntKind.i64.wrap (5-x.n)
 else if x.kind=3 then((Lib.itoa x.n).length:Int)
 else if x.kind=4 then quotZ x.str
 else IntKind.i64.wrap (2+max 0 (IntKind.i64.wrap (x.cn-1)))
theorem format_any (n:Int) (h0: -9223372036854775808≤n) (h1:n≤9223372036854775807) (w:World) (ht:TabW w):Calls Tryz.prog 251 #[.int .i64 n] w fun e w'=>e= .returned (.string ⟨(Lib.itoa n).toArray⟩)∧Chg [] w w':=by
 have A1:=LH (Tryz.strconv_Itoa n h0 h1 w ht)
 go_enter Tryz.func251,Tryz.ntmps251
 go_wp2_with fail
 refine A1.out.mono ?_;rintro e w1 ⟨rfl,k,os,rfl⟩
 have C1:=LH (chg_regrown (w.drewN k) (w.drewN k).drawn os)
 go_wp2_with fail
 go_ret
 exact⟨rfl,((Chg.refl _ _).drewN k).thenSame C1.out⟩
end
section
open Go.RowKit
theorem size_any (x:Ce) (w:World) (hg:x.good) (ht:TabW (w.alloc (ceO x))):Calls Tryz.prog 172 #[ceV x] w fun e w'=>e= .returned (.int .i64 (sizeZ x))∧Chg [] w w':=by
 have C1:=LH (show Chg [] w (w.alloc (ceO x))from(Chg.refl _ _).alloc _)
 have hwf:=hg.2.1
 obtain⟨k,n,s,cn⟩:=x
 have hn: -9223372036854775808≤n∧n≤9223372036854775807:=by
  simp[Lit.wf,IntKind.min,IntKind.max,IntKind.signed,IntKind.bits]at hwf
  omega
 have A1:=LH (format_any n hn.1 hn.2 _ ht)
 have A2:=LH (fun w'=>quoted_any s w')
 obtain⟨R,hR⟩:∃R,R=sizeZ ⟨k,n,s,cn⟩:=⟨_,rfl⟩
 rw[←hR]
 unfold sizeZ at hR
 simp only at hR
 unfold ceV
 unfold ceO at C1 A1
 generalize quotZ s=qz at*
 have HR:=LH hR
 clear hR hg ht hwf hn
 by_cases h1:k=1
 ·subst h1
  have HE:=LH (HR.out.trans (by rw[if_pos rfl]))
  go_enter Tryz.func172,Tryz.ntmps172
  go_wp2_with fail
  go_ret
  exact⟨by rw[HE.out];rfl,C1.out⟩
 have k1:(k==1)=false:=by simpa using h1
 by_cases h2:k=2
 ·subst h2
  have HE:=LH (HR.out.trans (by rw[if_neg (by decide),if_pos rfl]))
  go_enter Tryz.func172,Tryz.ntmps172
  go_wp2_with fail
  go_ret
  exact⟨by rw[HE.out];simp[IntWalk.i64_left],C1.out⟩
 have k2:(k==2)=false:=by simpa using h2
 by_cases h3:k=3
 ·subst h3
  have HE:=LH (HR.out.trans (by rw[if_neg (by decide),if_neg (by decide),if_pos rfl]))
  generalize Lib.itoa n=it at*
  go_enter Tryz.func172,Tryz.ntmps172
  go_wp2_with fail
  refine A1.out.mono ?_;rintro e w1 ⟨rfl,hc1⟩
  have C2:=LH (C1.out.thenSame hc1)
  clear hc1
  go_wp2_with fail
  go_ret
  exact⟨by rw[HE.out];simp,C2.out⟩
 have k3:(k==3)=false:=by simpa using h3
 by_cases h4:k=4
 ·subst h4
  have HE:=LH (HR.out.trans (by rw[if_neg (by decide),if_neg (by decide),if_neg (by decide),if_pos rfl]))
  go_enter Tryz.func172,Tryz.ntmps172
  go_wp2_with fail
  refine(A2.out _).mono ?_;rintro e w1 ⟨rfl,rfl⟩
  go_wp2_with fail
  go_ret
  exact⟨by rw[HE.out];rfl,C1.out⟩
 have k4:(k==4)=false:=by simpa using h4
 have HE:=LH (HR.out.trans (by rw[if_neg h1,if_neg h2,if_neg h3,if_neg h4]))
 go_enter Tryz.func172,Tryz.ntmps172
 go_wp2_with fail
 go_ret
 exact⟨by rw[HE.out];simp[IntWalk.i64_left],C1.out⟩
end
section
open Go.RowKit Go.ChangeShapes Go.WideShapes
open Go.ChangeMaps (open_string)
theorem TabW.kept {w w':World} (h:TabW w) (hc:Chg [] w w'):TabW w':=by
 unfold TabW Lib.TabIs World.var? at h⊢
 cases hg:Tryz.prog.globalNamed "internal/strconv.uint64pow10" with
 |none=>rw[hg]at h;simp at h
 |some g=>
  rw[hg]at h
  simp only[Option.bind_some]at h⊢
  have hlt:g<w.heap.size:=by
   rcases Nat.lt_or_ge g w.heap.size with h'|h'
   ·exact h'
   ·rw[Array.getElem?_eq_none h']at h;simp at h
  rw[hc.block g hlt (by simp)]
  exact h
theorem RowOf.shrink {α:Type} {cf:α→List Value} {sz:Nat} {w:World} {base g cap:Nat} {e:TypeId} {l1 l2:List α} (hc:∀x,(cf x).length=sz) (h:RowOf cf sz w base e (.slice (some ⟨g,0,none⟩) (l1++l2).length cap) (l1++l2)):RowOf cf sz w base e (.slice (some ⟨g,0,none⟩) l1.length cap) l1:=by
 obtain⟨h1,h2⟩:=h
 refine⟨flatMap_len hc l1, ?_⟩
 rcases h2 with ⟨h2,_⟩|⟨g',cap',cur,hv,hg,hh,h4,h5,h6,h7⟩
 ·cases h2
 ·cases hv
  rw[List.length_append]at h4 h7
  refine .inr ⟨g,cap,cur,rfl,hg,hh,by omega,h5,h6, ?_⟩
  have h8:=congrArg (List.take (l1.length*sz)) h7
  rw[List.take_take,Nat.min_eq_left (Nat.mul_le_mul_right _ (Nat.le_add_right _ _)),List.flatMap_append,List.take_append_of_le_length (by rw[flatMap_len hc];exact Nat.le_refl _),List.take_of_length_le (l:=l1.flatMap cf) (by rw[flatMap_len hc];exact Nat.le_refl _)]at h8
  exact h8
structure Opn where
 pairs:Bool
 left:Int
 key:Bool
 last:ByteArray
 started:Bool
def opnC (x:Opn):List Value:=[.bool x.pairs, .int .i64 x.left, .bool x.key, .string x.last, .bool x.started]
theorem opnC_len (x:Opn):(opnC x).length=5:=rfl
theorem opnC_one (x:Opn):∀u∈opnC x,u.oneCell'=true:=by intro u hu;simp[opnC]at hu;rcases hu with rfl|rfl|rfl|rfl|rfl<;>rfl
def lenOf:Value→Nat
 | .slice _ n _=>n
 |_=>0
def closedR:List Opn→List Opn
 |[]=>[]
 |t::r=>if 0<t.left-1 then {t with left:=t.left-1,key:=t.pairs}::r else closedR r
def closedL (st:List Opn):List Opn:=(closedR st.reverse).reverse
theorem closed_snoc (i:List Opn) (t:Opn):closedL (i++[t])=if 0<t.left-1 then i++[{t with left:=t.left-1,key:=t.pairs}]else closedL i:=by
 unfold closedL
 rw[List.reverse_append]
 show(closedR (t::i.reverse)).reverse=_
 rw[closedR]
 split
 ·rw[List.reverse_cons,List.reverse_reverse]
 ·rfl
theorem closed_any {w:World} {base:Nat} {v:Value} {st:List Opn} (h:RowOf opnC 5 w base 323 v st) (hb:∀o∈st,1≤o.left∧o.left≤9223372036854775807) (hl:st.length≤4398046511104):
 Calls Tryz.prog 174 #[v] w fun e w'=>∃v',e= .returned v'∧RowOf opnC 5 w' base 323 v' (closedL st)∧Chg v.ownBlock.toList w w'∧v'.ownBlock=v.ownBlock:=by
 obtain⟨a,c,rfl⟩:=RowOf.shape h
 obtain⟨R,hR⟩:∃R,R=closedL st:=⟨_,rfl⟩
 rw[←hR]
 have H:=LH h
 have HB:=LH hb
 have HR:=LH hR
 clear h hb hR
 go_enter Tryz.func174,Tryz.ntmps174
 go_wp2_with fail
 go_loopw [0] (fun s wr=>∃S:List Opn,s= .slice a S.length c∧Hid (R=closedL S)∧Hid (RowOf opnC 5 wr base 323 s S)∧Hid (Chg (Value.slice a st.length c).ownBlock.toList w wr)∧Hid (∀o∈S,1≤o.left∧o.left≤9223372036854775807)∧S.length≤4398046511104) (fun s _=>lenOf s)
 case atStart=>exact⟨st,rfl,HR,H,LH (Chg.refl _ _),HB,hl⟩
 case round=>
  obtain⟨S,rfl,HE,HS,D,HB,hsl⟩:=hrel
  rcases List.eq_nil_or_concat S with rfl|⟨i,t,hit⟩
  ·go_wp2_with fail
   go_ret
   exact⟨.slice a 0 c,rfl,by rw[HE.out];exact HS.out,D.out,by cases a<;>rfl⟩
  ·rw[List.concat_eq_append]at hit
   subst hit
   have hlen:(i++[t]).length=i.length+1:=by rw[List.length_append];rfl
   obtain⟨g,rfl⟩:∃g,a=some ⟨g,0,none⟩:=by
    rcases RowOf.at HS.out opnC_len with ⟨_,h0⟩|⟨g,cap,hv,_⟩
    ·simp at h0
    ·simp only[Value.slice.injEq]at hv;exact⟨g,hv.1⟩
   obtain⟨-,q2,q3,q4,q5,q6,q7⟩:=RowOf.atS HS.out opnC_len
   have hki:i.length<(i++[t]).length:=by omega
   have hti:(i++[t])[i.length]=t:=by simp
   have q4':=q4 i.length hki
   rw[hti]at q4'
   have d0:=q4' 0 (by omega)
   have d1:=q4' 1 (by omega)
   have d2:=q4' 2 (by omega)
   have f1:=q5 (i.length*5+1)
   have f2:=q5 (i.length*5+2)
   obtain⟨hb1,hb2⟩:=HB.out t (by simp)
   have HE2:=HE.out
   rw[closed_snoc]at HE2
   have hst1:=RowOf.stored HS.out rfl opnC_len i.length hki 1 (by omega) (.int .i64 (t.left-1)) {t with left:=t.left-1} (by rw[hti];rfl)
   have hset:∀y,(i++[t]).set i.length y=i++[y]:=fun y=>by simp
   rw[hset]at hst1
   simp only[opnC,List.getElem?_cons_zero,List.getElem?_cons_succ,Nat.add_zero]at d0 d1 d2
   rw[hlen]at*
   have HSI:=LH (show ∀o∈i,1≤o.left∧o.left≤9223372036854775807 from fun o ho=>HB.out o (by simp[ho]))
   have hi0:(0:Int)≤(i.length:Int):=by omega
   have hsl':(i.length:Int)≤4398046511103:=by omega
   have HH1:=LH hst1
   have hil:i.length<c:=by omega
   clear q4 q4' q2 q3 q5 hst1 hti hki hlen
   simp only at f1 f2 q6 q7
   by_cases hp:0<t.left-1
   ·rw[if_pos hp]at HE2
    have HF:=LH HE2
    have hst2:=RowOf.stored HH1.out (by rw[List.length_append];rfl) opnC_len i.length (by rw[List.length_append];simp) 2 (by omega) (.bool t.pairs) {t with left:=t.left-1,key:=t.pairs} (by simp[opnC])
    have hset2:(i++[({t with left:=t.left-1}:Opn)]).set i.length {t with left:=t.left-1,key:=t.pairs}=i++[{t with left:=t.left-1,key:=t.pairs}]:=by simp
    rw[hset2]at hst2
    have HH2:=LH hst2
    clear HE2 hst2 hset hset2 hsl
    have hmh:=LH (show i.length=i.length from rfl)
    generalize i.length=m at hmh d0 d1 d2 f1 f2 hi0 hsl' hil HH2 HH1 HS⊢
    go_wp2_with fail
    go_ret
    exact⟨.slice (some ⟨g,0,none⟩) (m+1) c,rfl,by rw[HF.out];exact HH2.out,(D.out.setCell _ _ (by simp[Value.ownBlock])).setCell _ _ (by simp[Value.ownBlock]),rfl⟩
   ·rw[if_neg hp]at HE2
    have HF:=LH HE2
    have hp':t.left-1≤0:=by omega
    clear HE2 hset
    go_wp2_with fail
    exact⟨⟨i,rfl,HF,LH (RowOf.shrink opnC_len (by rw[List.length_append];exact HH1.out)),LH (D.out.setCell _ _ (by simp[Value.ownBlock])),HSI,by omega⟩,by simp[lenOf]⟩
end
section
open Go.RowKit
structure Sh where
 depth:Int
 bytes:Int
 outside:Bool
 long:Bool
def shC (s:Sh):Array Value:= #[.int .i64 s.depth, .int .i64 s.bytes, .bool s.outside, .bool s.long]
def shO (s:Sh):Obj:= .cells #[.int .i64 s.depth, .int .i64 s.bytes, .bool s.outside, .bool s.long] 246
def leS (a b:ByteArray):Bool:=Op.bytesLess a.toList b.toList||a.toList==b.toList
inductive Lk where
 |fail (s:Sh)
 |done (s:Sh)
 |next (s:Sh) (st:List Opn)
def keyTop (st:List Opn):Option (List Opn×Opn):=match st.getLast? with
 |some t=>if t.key=true then some (st.dropLast,t)else none
 |none=>none
def keySh (c:Ce) (s:Sh):Sh:={s with bytes:=IntKind.i64.wrap (s.bytes+IntKind.i64.wrap (quotZ c.str+1)),long:=s.long||decide (200<(c.str.size:Int))}
def valSh (c:Ce) (s:Sh) (n:Nat):Sh:={depth:=max s.depth ((n:Int)+1),bytes:=IntKind.i64.wrap (s.bytes+sizeZ c),outside:=s.outside||(c.kind==3&& !validB c.n),long:=s.long||decide (200<(c.str.size:Int))}
def valL (len:Nat) (c:Ce) (s:Sh) (st:List Opn):Lk:=
 if 0<c.cn then(if(len:Int)<c.cn then .fail (valSh c s st.length)else .next (valSh c s st.length) (st++[⟨c.kind==6,c.cn,c.kind==6,⟨#[]⟩,false⟩]))
 else if(closedL st).length=0 then .done (valSh c s st.length)else .next (valSh c s st.length) (closedL st)
def lookC (len:Nat) (c:Ce) (s:Sh) (st:List Opn):Lk:=
 if plainB c=false then .fail s
 else match keyTop st with
  |some (i,t)=>if(!(c.kind==4)||(t.started&&leS c.str t.last))=true then .fail s else .next (keySh c s) (i++[{t with last:=c.str,started:=true,key:=false}])
  |none=>valL len c s st
def lookR (len:Nat):List Ce→Nat→Sh→List Opn→Int×Sh×Bool
 |[],_,s,_=>(0,s,false)
 |c::r,i,s,st=>match lookC len c s st with
  | .fail s=>(0,s,false)
  | .done s=>((i:Int)+1,s,true)
  | .next s st=>lookR len r (i+1) s st
def sh0:Sh:=⟨0,0,false,false⟩
def lookS (l:List Ce):Int×Sh×Bool:=lookR l.length l 0 sh0 []
theorem look_nil (len i:Nat) (s:Sh) (st:List Opn):lookR len [] i s st=(0,s,false):=rfl
theorem look_fail {len i:Nat} {c:Ce} {r:List Ce} {s s':Sh} {st:List Opn} (h:lookC len c s st= .fail s'):lookR len (c::r) i s st=(0,s',false):=by rw[lookR,h]
theorem look_done {len i:Nat} {c:Ce} {r:List Ce} {s s':Sh} {st:List Opn} (h:lookC len c s st= .done s'):lookR len (c::r) i s st=((i:Int)+1,s',true):=by rw[lookR,h]
theorem look_next {len i:Nat} {c:Ce} {r:List Ce} {s s':Sh} {st st':List Opn} (h:lookC len c s st= .next s' st'):lookR len (c::r) i s st=lookR len r (i+1) s' st':=by rw[lookR,h]
theorem keyTop_nil:keyTop []=none:=rfl
theorem keyTop_yes (i:List Opn) {t:Opn} (h:t.key=true):keyTop (i++[t])=some (i,t):=by unfold keyTop;simp[h]
theorem keyTop_no (i:List Opn) {t:Opn} (h:t.key=false):keyTop (i++[t])=none:=by unfold keyTop;simp[h]
theorem lookC_plain {len:Nat} {c:Ce} {s:Sh} {st:List Opn} (h:plainB c=false):lookC len c s st= .fail s:=by unfold lookC;rw[if_pos h]
theorem lookC_key {len:Nat} {c:Ce} {s:Sh} {i:List Opn} {t:Opn} (h:plainB c=true) (hk:t.key=true):lookC len c s (i++[t])=if(!(c.kind==4)||(t.started&&leS c.str t.last))=true then .fail s else .next (keySh c s) (i++[{t with last:=c.str,started:=true,key:=false}]):=by
 unfold lookC
 rw[if_neg (by rw[h];decide),keyTop_yes i hk]
theorem lookC_val {len:Nat} {c:Ce} {s:Sh} {st:List Opn} (h:plainB c=true) (hk:keyTop st=none):lookC len c s st=valL len c s st:=by
 unfold lookC
 rw[if_neg (by rw[h];decide),hk]
theorem closed_bounds {st:List Opn} (h:∀o∈st,1≤o.left∧o.left≤9223372036854775807):(∀o∈closedL st,1≤o.left∧o.left≤9223372036854775807)∧(closedL st).length≤st.length:=by
 have key:∀r:List Opn,(∀o∈r,1≤o.left∧o.left≤9223372036854775807)→(∀o∈closedR r,1≤o.left∧o.left≤9223372036854775807)∧(closedR r).length≤r.length:=by
  intro r
  induction r with
  |nil=>intro _;exact⟨by simp[closedR],Nat.le_refl _⟩
  |cons t r ih=>
   intro h
   have ht:=h t (by simp)
   rw[closedR]
   split
   ·refine⟨fun o ho=> ?_,by simp⟩
    rcases List.mem_cons.1 ho with rfl|ho
    ·exact⟨by show 1≤t.left-1;omega,by show t.left-1≤_;omega⟩
    ·exact h o (by simp[ho])
   ·obtain⟨h1,h2⟩:=ih (fun o ho=>h o (by simp[ho]))
    exact⟨h1,by simp;omega⟩
 obtain⟨h1,h2⟩:=key st.reverse (fun o ho=>h o (by simpa using ho))
 unfold closedL
 exact⟨fun o ho=>h1 o (by simpa using ho),by simpa using h2⟩
theorem sh_at {w:World} {q:Nat} {x0 x1 x2 x3:Value} (y0 y1 y2 y3:Value) (h:w.heap[q]? =some (.cells #[x0,x1,x2,x3] 246 (0,0))):
 ((((w.setCell ⟨q,0,none⟩ y0).setCell ⟨q,1,none⟩ y1).setCell ⟨q,2,none⟩ y2).setCell ⟨q,3,none⟩ y3).heap[q]? =some (.cells #[y0,y1,y2,y3] 246 (0,0)):=
 blk_set (blk_set (blk_set (blk_set h 0 y0) 1 y1) 2 y2) 3 y3
theorem keyTop_some {S:List Opn} {i:List Opn} {t:Opn} (h:keyTop S=some (i,t)):S=i++[t]∧t.key=true:=by
 rcases List.eq_nil_or_concat S with rfl|⟨i',t',e⟩
 ·simp[keyTop_nil]at h
 ·rw[List.concat_eq_append]at e
  subst e
  cases hk:t'.key with
  |true=>
   rw[keyTop_yes i' hk]at h
   simp only[Option.some.injEq,Prod.mk.injEq]at h
   obtain⟨rfl,rfl⟩:=h
   exact⟨rfl,hk⟩
  |false=>rw[keyTop_no i' hk]at h;simp at h
def Mid (b3 b5 n8 B:Nat) (W:World) (x:Ce) (s:Sh) (v:Value) (S:List Opn) (wx:World):Prop:=
 wx.heap[b3]? =some (shO sh0)∧wx.heap[b5]? =some (shO s)∧wx.heap[n8]? =some (ceO x)∧RowOf opnC 5 wx B 323 v S∧Chg [] W wx∧B≤wx.heap.size
theorem Mid.chg {b3 b5 n8 B:Nat} {W:World} {x:Ce} {s:Sh} {v:Value} {S:List Opn} {wx wy:World} (h:Mid b3 b5 n8 B W x s v S wx) (hc:Chg [] wx wy):Mid b3 b5 n8 B W x s v S wy:=
 ⟨hc.at (by simp) h.1,hc.at (by simp) h.2.1,hc.at (by simp) h.2.2.1,h.2.2.2.1.kept hc (by simp),h.2.2.2.2.1.thenSame hc,Nat.le_trans h.2.2.2.2.2 hc.size⟩
theorem Mid.set5 {b3 b5 n8 B:Nat} {W:World} {x:Ce} {s s':Sh} {v:Value} {S:List Opn} {wx:World} (h:Mid b3 b5 n8 B W x s v S wx) (h1:b3≠b5) (h2:n8≠b5) (h3:b5<B) (h4:W.heap.size≤b5) (j:Nat) (u:Value)
 (hs:(shC s).setIfInBounds j u=shC s'):Mid b3 b5 n8 B W x s' v S (wx.setCell ⟨b5,j,none⟩ u):=by
 obtain⟨m1,m2,m3,m4,m5,m6⟩:=h
 have hc:Chg [b5] wx (wx.setCell ⟨b5,j,none⟩ u):=(Chg.refl _ _).setCell _ _ (by simp)
 refine⟨hc.at (by simpa using h1) m1, ?_,hc.at (by simpa using h2) m3,m4.kept hc (fun g hg hm=> ?_),m5.setCell _ _ (by intro hlt;simp at hlt;omega),Nat.le_trans m6 hc.size⟩
 ·have:=blk_set m2 j u
  rw[this]
  show some (Obj.cells ((shC s).setIfInBounds j u) _ _)=_
  rw[hs]
  rfl
 ·have:=(m4.block g hg).1
  simp at hm
  omega
theorem Mid.setg {b3 b5 n8 B g n c:Nat} {W:World} {x:Ce} {s:Sh} {S S':List Opn} {wx:World} (h:Mid b3 b5 n8 B W x s (.slice (some ⟨g,0,none⟩) n c) S wx) (h1:b3<B) (h2:b5<B) (h3:g≠n8) (h4:W.heap.size≤B) (j:Nat) (u:Value)
 (hr:RowOf opnC 5 (wx.setCell ⟨g,j,none⟩ u) B 323 (.slice (some ⟨g,0,none⟩) n c) S'):Mid b3 b5 n8 B W x s (.slice (some ⟨g,0,none⟩) n c) S' (wx.setCell ⟨g,j,none⟩ u):=by
 obtain⟨m1,m2,m3,m4,m5,m6⟩:=h
 have hg:=(m4.block g rfl).1
 have hc:Chg [g] wx (wx.setCell ⟨g,j,none⟩ u):=(Chg.refl _ _).setCell _ _ (by simp)
 exact⟨hc.at (by simp;omega) m1,hc.at (by simp;omega) m2,hc.at (by simpa using Ne.symm h3) m3,hr,m5.setCell _ _ (by intro hlt;simp at hlt;omega),Nat.le_trans m6 hc.size⟩
theorem Mid.top {b3 b5 n8 B g c:Nat} {W:World} {x:Ce} {s:Sh} {i:List Opn} {t:Opn} {wx:World} (h:Mid b3 b5 n8 B W x s (.slice (some ⟨g,0,none⟩) (i.length+1) c) (i++[t]) wx) (h1:b3<B) (h2:b5<B) (h3:g≠n8) (h4:W.heap.size≤B) (j:Nat) (hj:j<5) (u:Value) (t':Opn)
 (ht:opnC t'=(opnC t).set j u):Mid b3 b5 n8 B W x s (.slice (some ⟨g,0,none⟩) (i.length+1) c) (i++[t']) (wx.setCell ⟨g,i.length*5+j,none⟩ u):=by
 refine h.setg h1 h2 h3 h4 _ _ ?_
 have hr:=RowOf.stored h.2.2.2.1 (by simp) opnC_len i.length (by simp) j hj u t' (by simpa using ht)
 have hs:(i++[t]).set i.length t'=i++[t']:=by simp
 rw[hs]at hr
 exact hr
end
section
def rgn (n:Nat):Code→Option (Array Oper)
 | .region id ops _=>if id=n then some ops else none
 | .seq a b=>(rgn n a).orElse fun _=>rgn n b
 | .cond _ a b=>(rgn n a).orElse fun _=>rgn n b
 | .block _ c=>rgn n c
 | .loop c=>rgn n c
 | .scope c=>rgn n c
 |_=>none
def rgnF (f:Func) (n:Nat):Array Oper:=((f.body).bind (rgn n)).getD #[]
end
section
open Go.RowKit
theorem cells8 {w':World} {n8:Nat} {x:Ce} (h:w'.heap[n8]? =some (ceO x)):w'.cell? ⟨n8,0,none⟩=some (.int .i64 x.kind)∧w'.cell? ⟨n8,1,none⟩=some (.int .i64 x.n)∧w'.cell? ⟨n8,2,none⟩=some (.string x.str)∧w'.cell? ⟨n8,3,none⟩=some (.int .i64 x.cn):=by
 have x1:=blk_cell h
 exact⟨x1 0,x1 1,x1 2,x1 3⟩
theorem cells8s {w':World} {n8 b5 j:Nat} {u:Value} {x:Ce} (h:w'.heap[n8]? =some (ceO x)) (hne:n8≠b5):(w'.setCell ⟨b5,j,none⟩ u).cell? ⟨n8,0,none⟩=some (.int .i64 x.kind)∧(w'.setCell ⟨b5,j,none⟩ u).cell? ⟨n8,1,none⟩=some (.int .i64 x.n)∧(w'.setCell ⟨b5,j,none⟩ u).cell? ⟨n8,2,none⟩=some (.string x.str)∧(w'.setCell ⟨b5,j,none⟩ u).cell? ⟨n8,3,none⟩=some (.int .i64 x.cn):=
 cells8 ((blk_set_ne j u hne).trans h)
theorem look_r14 {z0 z1 z2 z3 z4 z6 z7 z9 z10 z11 z12 z13 z14 z15 z16 z17 z18 z19 z20 z21 z22 z23 z24 z25 z26 z27 z28 z29 z30 z31 z32 z33 z34 z35 z36 z37 z38 z39 z40 z41 z42 z43 z44 z45 z46 z47 z48 z49 z50 z51 z52 z53 z54 z55 z56 z57 z58 z59 z60 z61 z62 z63 z64 z65 z66 z67 z68 z69 z70 z71 z72 z73 z74 z75 z76 z77 z78 z79 z80 z81 z82 z83 z84 z85 z86 z87 z88 z89 z90 z91 z92 z93 z94 z95 z96 z97 z98 z99 z100 z101 z102 z103 z104 z105 z106 z107 z108 z109 z110 z111 z112 z113 z114 z115 z116 z117 z118 z119 z120 z121 z122 z123 z124 z125 z126 z127 z128 z129 z130 z131 z132 z133 z134 z135 z136 z137 z138 z139 z140 z141 z142 z143 z144 z145 z146 z147 z148 z149 z150 z151:Value} {b3 b5 n8 B:Nat} {W wc:World} {x:Ce} {s:Sh} {v:Value} {S:List Opn} {ops:Array Oper} (hops:ops=rgnF Tryz.f97 14) (M5:Hid (Mid b3 b5 n8 B W x s v S wc)) (h35:b3≠b5) (hN8:n8≠b5) (hB5:b5<B) (hW5:W.heap.size≤b5) (Q:Exit→Act→World→Prop)
 (hQ:∀y68 y69 y70 y71 y72 y73 y74 y75 wz,Hid (Mid b3 b5 n8 B W x {s with bytes:=IntKind.i64.wrap (s.bytes+IntKind.i64.wrap (quotZ x.str+1))} v S wz)→Q .normal ⟨#[z0,z1,z2,z3,z4, .pointer (some ⟨b5,0,none⟩),z6,z7, .pointer (some ⟨n8,0,none⟩),z9,z10,z11,z12,z13,z14,z15,z16,z17,z18,z19,z20,z21,z22,z23,z24,z25,z26,z27,z28,z29,z30,z31,z32,z33,z34,z35,z36,z37,z38,z39,z40,z41,z42,z43,z44,z45,z46,z47,z48,z49,z50,z51,z52,z53,z54,z55,z56,z57,z58,z59,z60,z61,z62,z63,z64,z65,z66,z67,y68,y69,y70,y71,y72,y73,y74,y75,z76,z77,z78,z79,z80,z81,z82,z83,z84,z85,z86,z87,z88,z89,z90,z91,z92,z93,z94,z95,z96,z97,z98,z99,z100,z101,z102,z103,z104,z105,z106,z107,z108,z109,z110,z111,z112,z113,z114,z115,z116,z117,z118,z119,z120,z121,z122,z123,z124,z125,z126,z127,z128,z129,z130,z131,z132,z133,z134,z135,z136,z137,z138,z139,z140,z141,z142,z143,z144,z145,z146,z147,z148,z149,z150,z151],[]⟩ wz):
 (Code.region 14 ops true).wp Tryz.prog Q ⟨#[z0,z1,z2,z3,z4, .pointer (some ⟨b5,0,none⟩),z6,z7, .pointer (some ⟨n8,0,none⟩),z9,z10,z11,z12,z13,z14,z15,z16,z17,z18,z19,z20,z21,z22,z23,z24,z25,z26,z27,z28,z29,z30,z31,z32,z33,z34,z35,z36,z37,z38,z39,z40,z41,z42,z43,z44,z45,z46,z47,z48,z49,z50,z51,z52,z53,z54,z55,z56,z57,z58,z59,z60,z61,z62,z63,z64,z65,z66,z67,z68,z69,z70,z71,z72,z73,z74,z75,z76,z77,z78,z79,z80,z81,z82,z83,z84,z85,z86,z87,z88,z89,z90,z91,z92,z93,z94,z95,z96,z97,z98,z99,z100,z101,z102,z103,z104,z105,z106,z107,z108,z109,z110,z111,z112,z113,z114,z115,z116,z117,z118,z119,z120,z121,z122,z123,z124,z125,z126,z127,z128,z129,z130,z131,z132,z133,z134,z135,z136,z137,z138,z139,z140,z141,z142,z143,z144,z145,z146,z147,z148,z149,z150,z151],[]⟩ wc:=by
 subst hops
 simp only[rgnF,Tryz.f97,Option.bind_some,rgn,Nat.reduceEqDiff,↓reduceIte,Option.orElse_some,Option.orElse_none,Option.getD_some,Option.orElse]
 refine wp_region_noPanic ?_
 have M6:=LH (M5.out.chg (Chg.refl [] _).drew)
 refine wp_region_held_drew (S:=(fun w'=>w'.cell? ⟨n8,0,none⟩=some (.int .i64 x.kind)∧w'.cell? ⟨n8,1,none⟩=some (.int .i64 x.n)∧w'.cell? ⟨n8,2,none⟩=some (.string x.str)∧w'.cell? ⟨n8,3,none⟩=some (.int .i64 x.cn))) (by kernel_rfl) (cells8 M6.out.2.2.1) (fun hHeld=> ?_)
 have y6:=blk_cell M6.out.2.1
 have f6:=blk_free M6.out.2.1
 have m6:=lt_of_heap M6.out.2.1
 refine wpAnyH_take (i:=0) (oi:=_) (v:= ?vL_0) rfl (by kernel_rfl) (by kernel_rfl) (by kernel_rfl) (fun _ _ _ h=>h) (Or.inl ⟨by rfl, ?yL_0⟩) hHeld ?rL_0
 case yL_0=>(intro w hSw;(try dsimp only at hSw);(try simp only[gTA,gCZ,gCS]);go_simp<;>with_reducible rfl)
 (try simp only[gTA,gCZ,gCS,Act.put,sTA,sCZ,sCS])
 refine wpAnyH_take (i:=2) (oi:=_) (v:= ?vL_2) rfl (by kernel_rfl) (by kernel_rfl) (by kernel_rfl) (fun _ _ _ h=>h) (Or.inl ⟨by rfl, ?yL_2⟩) hHeld ?rL_2
 case yL_2=>(intro w hSw;(try dsimp only at hSw);(try simp only[gTA,gCZ,gCS]);go_simp<;>with_reducible rfl)
 (try simp only[gTA,gCZ,gCS,Act.put,sTA,sCZ,sCS])
 refine wpAnyH_take (i:=3) (oi:=_) (v:= ?vL_3) rfl (by kernel_rfl) (by kernel_rfl) (by kernel_rfl) (fun _ _ _ h=>h) (Or.inl ⟨by rfl, ?yL_3⟩) hHeld ?rL_3
 case yL_3=>(intro w hSw;(try dsimp only at hSw);(try simp only[gTA,gCZ,gCS]);go_simp<;>with_reducible rfl)
 (try simp only[gTA,gCZ,gCS,Act.put,sTA,sCZ,sCS])
 refine wpAnyH_ready (rs:=[1,4]) (by kernel_rfl) (by simp) ?_
 refine AllReadyH.cons (o:=_) rfl (fun K hK=> ?_) (AllReadyH.cons (o:=_) rfl (fun K hK=> ?_) AllReadyH.nil)
 ·
  (try simp only[gTA,gCZ,gCS])
  go_simp
  skip
  refine hK.out _ _ ?_ (fun hHeld=> ?_)
  exact cells8 M6.out.2.2.1
  clear hK K
  (try simp only[gTA,gCZ,gCS,Act.put,sTA,sCZ,sCS])
  refine wpAnyH_ready (rs:=[4]) (by kernel_rfl) (by simp) ?_
  refine AllReadyH.cons (o:=_) rfl (fun K hK=> ?_) AllReadyH.nil
  (try simp only[gTA,gCZ,gCS])
  go_simp
  (refine Calls.mono (quoted_any _ _) ?_;rintro e w7 ⟨rfl,rfl⟩)
  refine hK.out _ _ ?_ (fun hHeld=> ?_)
  exact cells8 M6.out.2.2.1
  clear hK K
  (try simp only[gTA,gCZ,gCS,Act.put,sTA,sCZ,sCS])
  refine wpAnyH_take (i:=5) (oi:=_) (v:= ?vL_5) rfl (by kernel_rfl) (by kernel_rfl) (by kernel_rfl) (fun _ _ _ h=>h) (Or.inl ⟨by rfl, ?yL_5⟩) hHeld ?rL_5
  case yL_5=>(intro w hSw;(try dsimp only at hSw);(try simp only[gTA,gCZ,gCS]);go_simp<;>with_reducible rfl)
  (try simp only[gTA,gCZ,gCS,Act.put,sTA,sCZ,sCS])
  refine wpAnyH_take (i:=6) (oi:=_) (v:= ?vL_6) rfl (by kernel_rfl) (by kernel_rfl) (by kernel_rfl) (fun _ _ _ h=>h) (Or.inl ⟨by rfl, ?yL_6⟩) hHeld ?rL_6
  case yL_6=>(intro w hSw;(try dsimp only at hSw);(try simp only[gTA,gCZ,gCS]);go_simp<;>with_reducible rfl)
  (try simp only[gTA,gCZ,gCS,Act.put,sTA,sCZ,sCS])
  refine wpAnyH_take (i:=7) (oi:=_) (v:= ?vL_7) rfl (by kernel_rfl) (by kernel_rfl) (by kernel_rfl) (fun _ _ _ h=>h) (Or.inl ⟨by rfl, ?yL_7⟩) hHeld ?rL_7
  case yL_7=>(intro w hSw;(try dsimp only at hSw);(try simp only[gTA,gCZ,gCS]);go_simp<;>with_reducible rfl)
  (try simp only[gTA,gCZ,gCS,Act.put,sTA,sCZ,sCS])
  refine wpAnyH_ready (rs:=[8]) (by kernel_rfl) (by simp) ?_
  refine AllReadyH.cons (o:=_) rfl (fun K hK=> ?_) AllReadyH.nil
  (try simp only[gTA,gCZ,gCS])
  go_simp
  skip
  refine hK.out _ _ ?_ (fun hHeld=> ?_)
  exact cells8s M6.out.2.2.1 hN8
  clear hK K
  (try simp only[gTA,gCZ,gCS,Act.put,sTA,sCZ,sCS])
  refine wpAnyH_done (by kernel_rfl) ?_ _
  refine NoPanic.normal ?_
  exact hQ _ _ _ _ _ _ _ _ _ (LH (by rw[IntWalk.i64_left,IntWalk.i64_left];exact M6.out.set5 h35 hN8 hB5 hW5 1 _ rfl))
 ·
  (try simp only[gTA,gCZ,gCS])
  go_simp
  (refine Calls.mono (quoted_any _ _) ?_;rintro e w7 ⟨rfl,rfl⟩)
  refine hK.out _ _ ?_ (fun hHeld=> ?_)
  exact cells8 M6.out.2.2.1
  clear hK K
  (try simp only[gTA,gCZ,gCS,Act.put,sTA,sCZ,sCS])
  refine wpAnyH_take (i:=5) (oi:=_) (v:= ?vM_5) rfl (by kernel_rfl) (by kernel_rfl) (by kernel_rfl) (fun _ _ _ h=>h) (Or.inl ⟨by rfl, ?yM_5⟩) hHeld ?rM_5
  case yM_5=>(intro w hSw;(try dsimp only at hSw);(try simp only[gTA,gCZ,gCS]);go_simp<;>with_reducible rfl)
  (try simp only[gTA,gCZ,gCS,Act.put,sTA,sCZ,sCS])
  refine wpAnyH_ready (rs:=[1]) (by kernel_rfl) (by simp) ?_
  refine AllReadyH.cons (o:=_) rfl (fun K hK=> ?_) AllReadyH.nil
  (try simp only[gTA,gCZ,gCS])
  go_simp
  skip
  refine hK.out _ _ ?_ (fun hHeld=> ?_)
  exact cells8 M6.out.2.2.1
  clear hK K
  (try simp only[gTA,gCZ,gCS,Act.put,sTA,sCZ,sCS])
  refine wpAnyH_take (i:=6) (oi:=_) (v:= ?vM_6) rfl (by kernel_rfl) (by kernel_rfl) (by kernel_rfl) (fun _ _ _ h=>h) (Or.inl ⟨by rfl, ?yM_6⟩) hHeld ?rM_6
  case yM_6=>(intro w hSw;(try dsimp only at hSw);(try simp only[gTA,gCZ,gCS]);go_simp<;>with_reducible rfl)
  (try simp only[gTA,gCZ,gCS,Act.put,sTA,sCZ,sCS])
  refine wpAnyH_take (i:=7) (oi:=_) (v:= ?vM_7) rfl (by kernel_rfl) (by kernel_rfl) (by kernel_rfl) (fun _ _ _ h=>h) (Or.inl ⟨by rfl, ?yM_7⟩) hHeld ?rM_7
  case yM_7=>(intro w hSw;(try dsimp only at hSw);(try simp only[gTA,gCZ,gCS]);go_simp<;>with_reducible rfl)
  (try simp only[gTA,gCZ,gCS,Act.put,sTA,sCZ,sCS])
  refine wpAnyH_ready (rs:=[8]) (by kernel_rfl) (by simp) ?_
  refine AllReadyH.cons (o:=_) rfl (fun K hK=> ?_) AllReadyH.nil
  (try simp only[gTA,gCZ,gCS])
  go_simp
  skip
  refine hK.out _ _ ?_ (fun hHeld=> ?_)
  exact cells8s M6.out.2.2.1 hN8
  clear hK K
  (try simp only[gTA,gCZ,gCS,Act.put,sTA,sCZ,sCS])
  refine wpAnyH_done (by kernel_rfl) ?_ _
  refine NoPanic.normal ?_
  exact hQ _ _ _ _ _ _ _ _ _ (LH (by rw[IntWalk.i64_left,IntWalk.i64_left];exact M6.out.set5 h35 hN8 hB5 hW5 1 _ rfl))
theorem look_r17 {z0 z1 z2 z3 z4 z6 z7 z9 z10 z11 z12 z13 z14 z15 z16 z17 z18 z19 z20 z21 z22 z23 z24 z25 z26 z27 z28 z29 z30 z31 z32 z33 z34 z35 z36 z37 z38 z39 z40 z41 z42 z43 z44 z45 z46 z47 z48 z49 z50 z51 z52 z53 z54 z55 z56 z57 z58 z59 z60 z61 z62 z63 z64 z65 z66 z67 z68 z69 z70 z71 z72 z73 z74 z75 z76 z77 z78 z79 z80 z81 z82 z83 z84 z85 z86 z87 z88 z89 z90 z91 z92 z93 z94 z95 z96 z97 z98 z99 z100 z101 z102 z103 z104 z105 z106 z107 z108 z109 z110 z111 z112 z113 z114 z115 z116 z117 z118 z119 z120 z121 z122 z123 z124 z125 z126 z127 z128 z129 z130 z131 z132 z133 z134 z135 z136 z137 z138 z139 z140 z141 z142 z143 z144 z145 z146 z147 z148 z149 z150 z151:Value} {b3 b5 n8 B:Nat} {W wc:World} {x:Ce} {s:Sh} {v:Value} {S:List Opn} {ops:Array Oper} (hops:ops=rgnF Tryz.f97 17) (M4:Hid (Mid b3 b5 n8 B W x s v S wc)) (HGX:Hid x.good) (HT:Hid (TabW W)) (h35:b3≠b5) (hN8:n8≠b5) (hB5:b5<B) (hW5:W.heap.size≤b5) (Q:Exit→Act→World→Prop)
 (hQ:∀y92 y93 y94 y95 y96 y97 wz,Hid (Mid b3 b5 n8 B W x {s with bytes:=IntKind.i64.wrap (s.bytes+sizeZ x)} v S wz)→Q .normal ⟨#[z0,z1,z2,z3,z4, .pointer (some ⟨b5,0,none⟩),z6,z7, .pointer (some ⟨n8,0,none⟩),z9,z10,z11,z12,z13,z14,z15,z16,z17,z18,z19,z20,z21,z22,z23,z24,z25,z26,z27,z28,z29,z30,z31,z32,z33,z34,z35,z36,z37,z38,z39,z40,z41,z42,z43,z44,z45,z46,z47,z48,z49,z50,z51,z52,z53,z54,z55,z56,z57,z58,z59,z60,z61,z62,z63,z64,z65,z66,z67,z68,z69,z70,z71,z72,z73,z74,z75,z76,z77,z78,z79,z80,z81,z82,z83,z84,z85,z86,z87,z88,z89,z90,z91,y92,y93,y94,y95,y96,y97,z98,z99,z100,z101,z102,z103,z104,z105,z106,z107,z108,z109,z110,z111,z112,z113,z114,z115,z116,z117,z118,z119,z120,z121,z122,z123,z124,z125,z126,z127,z128,z129,z130,z131,z132,z133,z134,z135,z136,z137,z138,z139,z140,z141,z142,z143,z144,z145,z146,z147,z148,z149,z150,z151],[]⟩ wz):
 (Code.region 17 ops true).wp Tryz.prog Q ⟨#[z0,z1,z2,z3,z4, .pointer (some ⟨b5,0,none⟩),z6,z7, .pointer (some ⟨n8,0,none⟩),z9,z10,z11,z12,z13,z14,z15,z16,z17,z18,z19,z20,z21,z22,z23,z24,z25,z26,z27,z28,z29,z30,z31,z32,z33,z34,z35,z36,z37,z38,z39,z40,z41,z42,z43,z44,z45,z46,z47,z48,z49,z50,z51,z52,z53,z54,z55,z56,z57,z58,z59,z60,z61,z62,z63,z64,z65,z66,z67,z68,z69,z70,z71,z72,z73,z74,z75,z76,z77,z78,z79,z80,z81,z82,z83,z84,z85,z86,z87,z88,z89,z90,z91,z92,z93,z94,z95,z96,z97,z98,z99,z100,z101,z102,z103,z104,z105,z106,z107,z108,z109,z110,z111,z112,z113,z114,z115,z116,z117,z118,z119,z120,z121,z122,z123,z124,z125,z126,z127,z128,z129,z130,z131,z132,z133,z134,z135,z136,z137,z138,z139,z140,z141,z142,z143,z144,z145,z146,z147,z148,z149,z150,z151],[]⟩ wc:=by
 subst hops
 simp only[rgnF,Tryz.f97,Option.bind_some,rgn,Nat.reduceEqDiff,↓reduceIte,Option.orElse_some,Option.orElse_none,Option.getD_some,Option.orElse]
 refine wp_region_noPanic ?_
 have M5:=LH (M4.out.chg (Chg.refl [] _).drew)
 have A5:=LH (fun w' (hm:Mid b3 b5 n8 B W x s v S w')=>size_any x w' HGX.out (HT.out.kept (hm.2.2.2.2.1.alloc _)))
 unfold ceV at A5
 refine wp_region_held_drew (S:=(fun w'=>w'.cell? ⟨n8,0,none⟩=some (.int .i64 x.kind)∧w'.cell? ⟨n8,1,none⟩=some (.int .i64 x.n)∧w'.cell? ⟨n8,2,none⟩=some (.string x.str)∧w'.cell? ⟨n8,3,none⟩=some (.int .i64 x.cn))) (by kernel_rfl) (cells8 M5.out.2.2.1) (fun hHeld=> ?_)
 refine wpAnyH_take (i:=0) (oi:=_) (v:= ?vE_0) rfl (by kernel_rfl) (by kernel_rfl) (by kernel_rfl) (fun _ _ _ h=>h) (Or.inl ⟨by rfl, ?yE_0⟩) hHeld ?rE_0
 case yE_0=>(intro w hSw;(try dsimp only at hSw);(try simp only[gTA,gCZ,gCS]);go_simp<;>with_reducible rfl)
 (try simp only[gTA,gCZ,gCS,Act.put,sTA,sCZ,sCS])
 refine wpAnyH_take (i:=2) (oi:=_) (v:= ?vE_2) rfl (by kernel_rfl) (by kernel_rfl) (by kernel_rfl) (fun _ _ _ h=>h) (Or.inl ⟨by rfl, ?yE_2⟩) hHeld ?rE_2
 case yE_2=>(intro w hSw;(try dsimp only at hSw);(try simp only[gTA,gCZ,gCS]);go_simp<;>with_reducible rfl)
 (try simp only[gTA,gCZ,gCS,Act.put,sTA,sCZ,sCS])
 refine wpAnyH_ready (rs:=[1,3]) (by kernel_rfl) (by simp) ?_
 refine AllReadyH.cons (o:=_) rfl (fun K hK=> ?_) (AllReadyH.cons (o:=_) rfl (fun K hK=> ?_) AllReadyH.nil)
 ·
  have y5:=blk_cell M5.out.2.1
  have m5:=lt_of_heap M5.out.2.1
  (try simp only[gTA,gCZ,gCS])
  go_simp
  skip
  refine hK.out _ _ ?_ (fun hHeld=> ?_)
  exact cells8 M5.out.2.2.1
  clear hK K
  (try simp only[gTA,gCZ,gCS,Act.put,sTA,sCZ,sCS])
  clear y5 m5
  refine wpAnyH_ready (rs:=[3]) (by kernel_rfl) (by simp) ?_
  refine AllReadyH.cons (o:=_) rfl (fun K hK=> ?_) AllReadyH.nil
  (try simp only[gTA,gCZ,gCS])
  go_simp
  (refine Calls.mono (A5.out _ M5.out) ?_;rintro e w6 ⟨rfl,hc6⟩;have M6:=LH (M5.out.chg hc6);clear hc6)
  refine hK.out _ _ ?_ (fun hHeld=> ?_)
  exact cells8 M6.out.2.2.1
  clear hK K
  (try simp only[gTA,gCZ,gCS,Act.put,sTA,sCZ,sCS])
  have y6:=blk_cell M6.out.2.1
  have f6:=blk_free M6.out.2.1
  have m6:=lt_of_heap M6.out.2.1
  refine wpAnyH_take (i:=4) (oi:=_) (v:= ?vE_4) rfl (by kernel_rfl) (by kernel_rfl) (by kernel_rfl) (fun _ _ _ h=>h) (Or.inl ⟨by rfl, ?yE_4⟩) hHeld ?rE_4
  case yE_4=>(intro w hSw;(try dsimp only at hSw);(try simp only[gTA,gCZ,gCS]);go_simp<;>with_reducible rfl)
  (try simp only[gTA,gCZ,gCS,Act.put,sTA,sCZ,sCS])
  refine wpAnyH_take (i:=5) (oi:=_) (v:= ?vE_5) rfl (by kernel_rfl) (by kernel_rfl) (by kernel_rfl) (fun _ _ _ h=>h) (Or.inl ⟨by rfl, ?yE_5⟩) hHeld ?rE_5
  case yE_5=>(intro w hSw;(try dsimp only at hSw);(try simp only[gTA,gCZ,gCS]);go_simp<;>with_reducible rfl)
  (try simp only[gTA,gCZ,gCS,Act.put,sTA,sCZ,sCS])
  refine wpAnyH_ready (rs:=[6]) (by kernel_rfl) (by simp) ?_
  refine AllReadyH.cons (o:=_) rfl (fun K hK=> ?_) AllReadyH.nil
  (try simp only[gTA,gCZ,gCS])
  go_simp
  skip
  refine hK.out _ _ ?_ (fun hHeld=> ?_)
  exact cells8s M6.out.2.2.1 hN8
  clear hK K
  (try simp only[gTA,gCZ,gCS,Act.put,sTA,sCZ,sCS])
  refine wpAnyH_done (by kernel_rfl) ?_ _
  refine NoPanic.normal ?_
  exact hQ _ _ _ _ _ _ _ (LH (by rw[IntWalk.i64_left];exact M6.out.set5 h35 hN8 hB5 hW5 1 _ rfl))
 ·
  (try simp only[gTA,gCZ,gCS])
  go_simp
  (refine Calls.mono (A5.out _ M5.out) ?_;rintro e w6 ⟨rfl,hc6⟩;have M6:=LH (M5.out.chg hc6);clear hc6)
  refine hK.out _ _ ?_ (fun hHeld=> ?_)
  exact cells8 M6.out.2.2.1
  clear hK K
  (try simp only[gTA,gCZ,gCS,Act.put,sTA,sCZ,sCS])
  have y6:=blk_cell M6.out.2.1
  have f6:=blk_free M6.out.2.1
  have m6:=lt_of_heap M6.out.2.1
  refine wpAnyH_ready (rs:=[1]) (by kernel_rfl) (by simp) ?_
  refine AllReadyH.cons (o:=_) rfl (fun K hK=> ?_) AllReadyH.nil
  (try simp only[gTA,gCZ,gCS])
  go_simp
  skip
  refine hK.out _ _ ?_ (fun hHeld=> ?_)
  exact cells8 M6.out.2.2.1
  clear hK K
  (try simp only[gTA,gCZ,gCS,Act.put,sTA,sCZ,sCS])
  refine wpAnyH_take (i:=4) (oi:=_) (v:= ?vF_4) rfl (by kernel_rfl) (by kernel_rfl) (by kernel_rfl) (fun _ _ _ h=>h) (Or.inl ⟨by rfl, ?yF_4⟩) hHeld ?rF_4
  case yF_4=>(intro w hSw;(try dsimp only at hSw);(try simp only[gTA,gCZ,gCS]);go_simp<;>with_reducible rfl)
  (try simp only[gTA,gCZ,gCS,Act.put,sTA,sCZ,sCS])
  refine wpAnyH_take (i:=5) (oi:=_) (v:= ?vF_5) rfl (by kernel_rfl) (by kernel_rfl) (by kernel_rfl) (fun _ _ _ h=>h) (Or.inl ⟨by rfl, ?yF_5⟩) hHeld ?rF_5
  case yF_5=>(intro w hSw;(try dsimp only at hSw);(try simp only[gTA,gCZ,gCS]);go_simp<;>with_reducible rfl)
  (try simp only[gTA,gCZ,gCS,Act.put,sTA,sCZ,sCS])
  refine wpAnyH_ready (rs:=[6]) (by kernel_rfl) (by simp) ?_
  refine AllReadyH.cons (o:=_) rfl (fun K hK=> ?_) AllReadyH.nil
  (try simp only[gTA,gCZ,gCS])
  go_simp
  skip
  refine hK.out _ _ ?_ (fun hHeld=> ?_)
  exact cells8s M6.out.2.2.1 hN8
  clear hK K
  (try simp only[gTA,gCZ,gCS,Act.put,sTA,sCZ,sCS])
  refine wpAnyH_done (by kernel_rfl) ?_ _
  refine NoPanic.normal ?_
  exact hQ _ _ _ _ _ _ _ (LH (by rw[IntWalk.i64_left];exact M6.out.set5 h35 hN8 hB5 hW5 1 _ rfl))
end
end Go.Proofs.YtmofknmeljdodaaGreatDoor
