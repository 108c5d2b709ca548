/- Openers and tables that the last text names. No condition but those that the statements name. -/
import Derived.Deep.Slices
import Derived.Deep.Fields
import Derived.ChangeSame
import Derived.Lib.SmallJoins
import Derived.ProofKit
import Derived.OpenShut
import Derived.Sort.OwnSorted
import Derived.Sort.KeysCollected
import Derived.OwnWalk
import Derived.StillTailTactics
import Derived.Laws.AppendOwnNone
import Derived.Deep.RegionHeld3
import Derived.Deep.RegionLaw
import Derived.Lib.MinMax
import Derived.Laws.BytesArg
import Derived.Laws.Cover1
import Derived.DataShut
import Derived.Test.YtmofknmeljdodaaGreatDoorZTblY
set_option maxHeartbeats 100000000
set_option maxRecDepth 100000
set_option linter.unusedVariables false
set_option linter.unusedSimpArgs false
open List renaming getElem_toArray→gTA,getElem_cons_zero→gCZ,getElem_cons_succ→gCS,setIfInBounds_toArray→sTA,set_cons_zero→sCZ,set_cons_succ→sCS
namespace Go.Proofs.YtmofknmeljdodaaGreatDoor
section
open Go.RowKit Go.ChangeShapes Go.WideShapes Go.Deep
theorem choose_list {α:Type} (n:Nat) (P:Nat→α→Prop) (h:∀i,i<n→∃x,P i x):∃l:List α,l.length=n∧∀i (hi:i<l.length),P i l[i]:=by
 induction n with
 |zero=>exact⟨[],rfl,fun i hi=>by simp at hi⟩
 |succ n ih=>
  obtain⟨l,hl,hp⟩:=ih (fun i hi=>h i (by omega))
  obtain⟨x,hx⟩:=h n (by omega)
  refine⟨l++[x],by simp[hl],fun i hi=> ?_⟩
  by_cases hin:i<l.length
  ·rw[List.getElem_append_left hin];exact hp i hin
  ·have:i=n:=by simp at hi;omega
   subst this
   rw[List.getElem_append_right (by omega)]
   simpa[hl]using hx
section
variable {H:Type} {enc:TypeId×Value→H} {P:Program} {w:World} {base:Nat} {spare:Nat→Bool} {held:Bool}
theorem open_slice_fields {t e:TypeId} {fs:Array Field} {fuel:Nat} {cs:List Value} {x:DataW H×List MemPlace} (ht:P.underlying t=some (.slice e)) (he:P.underlying e=some (.struct fs))
 (hone:oneCellFields P fs=true) (hC:P.cellsOf e=fs.size) (h:DataW.trod enc P w base spare held fuel t cs=some x):
 (cs=[.slice none 0 0])∨
 ∃(a:Addr) (len cap m:Nat),cs=[.slice (some a) len cap]∧len≤cap∧cap≤maxLen∧len≤m∧
  ∀i,i<m→∃(ys:List (DataW H×List MemPlace)) (n:Nat),ys.length=fs.size∧
   ∀(j:Nat) (f:Field),fs[j]? =some f→∃(v:Value) (y:DataW H×List MemPlace),w.cell? (a.add (i*fs.size+j))=some v∧ys[j]? =some y∧DataW.trod enc P w base spare held n f.type [v]=some y:=by
 rcases open_slice ht h with h0|⟨a,len,cap,m,n,D,Pl,hcs,hb,hl,hm,hmm,hx,hi⟩
 ·exact .inl h0.1
 ·refine .inr ⟨a,len,cap,m,hcs,hl,hm,by rw[hmm];split<;>omega,fun i him=> ?_⟩
  obtain⟨cs',hc,ht'⟩:=hi i him
  rw[hC]at hc
  obtain⟨ys,n',hn',hy,hlen,hyl,hf⟩:=DataW.trod_struct he ht'
  obtain⟨_,hcl,hat⟩:=World.cells?_some hc
  refine⟨ys,n',hyl,fun j f hj=> ?_⟩
  obtain⟨ho,hk⟩:=hone_of hone j f hj
  have hjl:j<fs.size:=(Array.getElem?_eq_some_iff.1 hj).1
  have hcell:=hat j hjl
  have hv:cs'[j]? =some (cs'[j]'(by omega)):=List.getElem?_eq_getElem (by omega)
  have h1:=hf j f hj
  rw[ho,hk]at h1
  have hone':(cs'.drop j).take 1=[cs'[j]'(by omega)]:=by
   rw[List.drop_eq_getElem_cons (by omega)]
   rfl
  rw[hone']at h1
  have hys:ys[j]? =some (ys[j]'(by omega)):=List.getElem?_eq_getElem (by omega)
  refine⟨_,_, ?_,hys,h1.trans hys⟩
  rw[←Go.Deep.add_add,hcell,hv]
theorem open_sl {α:Type} (cf:α→List Value) (good:α→Prop) {t e:TypeId} {fs:Array Field} {a:Option Addr} {len cap:Nat} {d:DataW H} {ps:List MemPlace} (ht:P.underlying t=some (.slice e)) (he:P.underlying e=some (.struct fs))
 (hone:oneCellFields P fs=true) (hC:P.cellsOf e=fs.size) (hpos:0<fs.size) (hcf:∀x,(cf x).length=fs.size)
 (dec:∀f:Nat→Value,(∀(j:Nat) (fd:Field),fs[j]? =some fd→∃(y:DataW H×List MemPlace) (n:Nat),DataW.trod enc P w base spare held n fd.type [f j]=some y)→∃x:α,good x∧∀j,j<fs.size→(cf x)[j]? =some (f j))
 (h:DataW.Trod enc P w base spare held t (.slice a len cap) d ps):∃l:List α,SlIs cf fs.size w a len l∧(∀x∈l,good x)∧len≤maxLen:=by
 obtain⟨fuel,hf⟩:=h
 rcases open_slice_fields ht he hone hC hf with hcs|⟨x,l,c,m,hcs,hl,hm,hlm,hi⟩
 ·simp[Value.cells]at hcs
  obtain⟨rfl,rfl,rfl⟩:=hcs
  exact⟨[],⟨rfl,fun k hk=>by simp at hk⟩,by simp,Nat.zero_le _⟩
 ·simp[Value.cells]at hcs
  obtain⟨rfl,rfl,rfl⟩:=hcs
  have hstep:∀i,i<len→∃y:α,good y∧∀j,j<fs.size→w.cell? (x.add (i*fs.size+j))=(cf y)[j]? :=by
   intro i hin
   obtain⟨ys,n,hys,hfd⟩:=hi i (by omega)
   have hval:∀j,j<fs.size→∃v,w.cell? (x.add (i*fs.size+j))=some v:=by
    intro j hj
    obtain⟨v,y,h1,_⟩:=hfd j fs[j] (by simp[hj])
    exact⟨v,h1⟩
   obtain⟨y,hg,hy⟩:=dec (fun j=>(w.cell? (x.add (i*fs.size+j))).getD (.bool false)) (fun j fd hj=>by
    obtain⟨v,y,h1,h2,h3⟩:=hfd j fd hj
    exact⟨y,n,by simpa[h1]using h3⟩)
   refine⟨y,hg,fun j hj=> ?_⟩
   obtain⟨v,hv⟩:=hval j hj
   rw[hy j hj,hv];rfl
  obtain⟨l,hll,hp⟩:=choose_list len _ hstep
  refine⟨l,⟨hll,fun k hk=> ?_⟩,fun y hy=> ?_,Nat.le_trans hl hm⟩
  ·obtain⟨b,off,spot⟩:=x
   have h0:=(hp 0 (by omega)).2 0 hpos
   have hsp:spot=none:=by
    cases spot with
    |none=>rfl
    |some s=>
     exfalso
     have e0:(⟨b,off,some s⟩:Addr).add (0*fs.size+0)=⟨b,off,some s⟩:=by simp[Addr.add]
     rw[e0]at h0
     have:w.cell? ⟨b,off,some s⟩=none:=by unfold World.cell?;split<;>simp
     rw[this]at h0
     have hlt:(cf l[0])[0]? =some ((cf l[0])[0]'(by rw[hcf];exact hpos)):=List.getElem?_eq_getElem _
     rw[hlt]at h0;cases h0
   subst hsp
   have hadd:∀m,(⟨b,off,none⟩:Addr).add m=⟨b,off+m,none⟩:=by
    intro m;unfold Addr.add;split
    ·rename_i e;rw[e];rfl
    ·rfl
   refine⟨b,off,rfl, ?_,fun j hj=> ?_⟩
   ·have h1:=(hp k hk).2 0 hpos
    have hlt:(cf l[k])[0]? =some ((cf l[k])[0]'(by rw[hcf];exact hpos)):=List.getElem?_eq_getElem _
    rw[hlt]at h1
    exact World.block_lt_of_cell? w _ (by rw[hadd]at h1;exact h1)
   ·rw[←(hp k hk).2 j hj,hadd,Nat.add_assoc]
  ·obtain⟨k,hk,rfl⟩:=List.mem_iff_getElem.1 hy
   exact(hp k hk).1
end
end
section
open Go.RowKit
section rows
variable {α:Type} {cf:α→List Value} {sz:Nat}
end rows
end
section
open Go.RowKit
section
variable {α:Type} {cf:α→List Value} {sz:Nat}
end
end
section
open Go.RowKit
section
variable {α:Type} {cf:α→List Value} {sz:Nat}
theorem trod_cap {H:Type} {enc:TypeId×Value→H} {P:Program} {w:World} {base:Nat} {spare:Nat→Bool} {held:Bool} {t e:TypeId} {a:Option Addr} {len cap:Nat} {d:DataW H} {ps:List MemPlace} (ht:P.underlying t=some (.slice e))
 (h:DataW.Trod enc P w base spare held t (.slice a len cap) d ps):len≤cap:=by
 obtain⟨fuel,hf⟩:=h
 rcases Go.Deep.open_slice ht hf with ⟨h0,_⟩|⟨_,_,_,_,_,_,_,h0,_,h1,_⟩
 ·simp[Value.cells]at h0;omega
 ·simp[Value.cells]at h0;omega
end
end
section
open Go.RowKit
section
variable {α:Type} {cf:α→List Value} {sz:Nat}
end
end
section
open Go.RowKit
section
variable {P:Program} {α:Type} {cf:α→List Value} {sz:Nat}
end
end
section
open Go.RowKit Go.ChangeShapes Go.WideShapes
open Go.ChangeMaps (open_string)
end
section
open Go.RowKit
end
section
open Go.RowKit
end
section
open Go.RowKit Go.ChangeShapes Go.WideShapes
open Go.ChangeMaps (open_string)
end
section
open Go.RowKit
end
section
end
section
open Go.RowKit
end
section
open Go.RowKit
variable {w w0 w1 w2 w3 w5 w':World} {S L L':List Nat} {B b fb n fc:Nat} {cv iv fv fv' rv:Value} {val val':Vp} {f f':Fr'} {Fr F:List Fr'} {R:List Rq'} {M M':PMa} {pf pf2:PFr} {pfs:List PFr} {vs:List Vl}
end
section
open Go.RowKit
variable {w w0 w1 w2 w3 w5 w':World} {S L L':List Nat} {B b fb n fc:Nat} {cv iv fv fv' rv:Value} {val val':Vp} {f f':Fr'} {Fr F:List Fr'} {R:List Rq'} {M M':PMa} {pf pf2:PFr} {pfs:List PFr} {vs:List Vl}
end
section
open Go.RowKit
variable {w w0 w1 w2 w3 w5 w':World} {S L L':List Nat} {B b fb n fc:Nat} {cv iv fv fv' rv:Value} {val val':Vp} {f f':Fr'} {Fr F:List Fr'} {R:List Rq'} {M M':PMa} {pf pf2:PFr} {pfs:List PFr} {vs:List Vl}
end
section
open Go.RowKit
section
variable {H:Type} {enc:TypeId×Value→H} {w:World} {base:Nat} {spare:Nat→Bool} {held:Bool}
theorem cells_shp:Tryz.prog.cellsOf 364=6:=by kernel_rfl
theorem cells_stS:Tryz.prog.cellsOf 9=1:=by kernel_rfl
theorem cells_boS:Tryz.prog.cellsOf 4=1:=by kernel_rfl
theorem cells_inS:Tryz.prog.cellsOf 3=1:=by kernel_rfl
theorem shape_row {n:Nat} {cs:List Value} {x:DataW H×List MemPlace} {s:List UInt8} {a b c:Bool} {p q:Int} (h:DataW.trod enc Tryz.prog w base spare held n 364 cs=some x) (hx:x.1= .agg [.lit (.string s), .lit (.bool a), .lit (.bool b), .lit (.bool c), .lit (.int .i64 p), .lit (.int .i64 q)]):cs=[.string ⟨s.toArray⟩, .bool a, .bool b, .bool c, .int .i64 p, .int .i64 q]:=by
 obtain⟨xs,n',_,rfl,hl,hlen,hf⟩:=DataW.trod_struct Tryz.underlying364 h
 rw[cells_shp]at hl
 have h0:=hf 0 _ rfl
 have h1:=hf 1 _ rfl
 have h2:=hf 2 _ rfl
 have h3:=hf 3 _ rfl
 have h4:=hf 4 _ rfl
 have h5:=hf 5 _ rfl
 simp only[gTA,gCZ,gCS,cells_stS,cells_boS,cells_inS]at h0 h1 h2 h3 h4 h5
 match xs,hlen with
 |[y0,y1,y2,y3,y4,y5],_=>
  simp only[List.getElem?_cons_zero,List.getElem?_cons_succ]at h0 h1 h2 h3 h4 h5
  obtain⟨a0,e0,rfl,_⟩:=DataW.trod_string Tryz.underlying9 h0
  obtain⟨a1,e1,rfl⟩:=DataW.trod_bool Tryz.underlying4 h1
  obtain⟨a2,e2,rfl⟩:=DataW.trod_bool Tryz.underlying4 h2
  obtain⟨a3,e3,rfl⟩:=DataW.trod_bool Tryz.underlying4 h3
  obtain⟨a4,e4,rfl,_⟩:=DataW.trod_int Tryz.underlying3 h4
  obtain⟨a5,e5,rfl,_⟩:=DataW.trod_int Tryz.underlying3 h5
  simp only[List.map_cons,List.map_nil,DataW.agg.injEq,List.cons.injEq,DataW.lit.injEq,Lit.string.injEq,Lit.bool.injEq,Lit.int.injEq,true_and,and_true]at hx
  obtain⟨rfl,rfl,rfl,rfl,rfl,rfl⟩:=hx
  clear hf h0 h1 h2 h3 h4 h5 h
  match cs,hl with
  |[c0,c1,c2,c3,c4,c5],_=>
   simp at e0 e1 e2 e3 e4 e5
   subst e0 e1 e2 e3 e4 e5
   rfl
theorem shapes_at {n:Nat} {cs:List Value} {l:List (DataW H)} {p:List MemPlace} (h:DataW.trod enc Tryz.prog w base spare held n 365 cs=some (.agg l,p)) {o:Nat} (ho:o<21) {s:List UInt8} {a b c:Bool} {i j:Int} (hl:l[o]? =some (.agg [.lit (.string s), .lit (.bool a), .lit (.bool b), .lit (.bool c), .lit (.int .i64 i), .lit (.int .i64 j)])):
 ∀k,k<6→cs[o*6+k]? =([.string ⟨s.toArray⟩, .bool a, .bool b, .bool c, .int .i64 i, .int .i64 j]:List Value)[k]? :=by
 obtain⟨xs,m,_,hx,_,hlen,hg⟩:=DataW.trod_array Tryz.underlying365 h
 have h1:=hg o ho
 rw[cells_shp]at h1
 have hlo:o<xs.length:=by omega
 rw[List.getElem?_eq_getElem hlo]at h1
 simp only[Prod.mk.injEq,DataW.agg.injEq]at hx
 rw[hx.1,List.getElem?_map,List.getElem?_eq_getElem hlo]at hl
 have h2:=shape_row h1 (by simpa using hl)
 intro k hk
 rw[←h2,List.getElem?_take,if_pos hk,List.getElem?_drop]
theorem shw_of {n:Nat} {cs:Array Value} {l:List (DataW H)} {p:List MemPlace} (hv:w.var? Tryz.prog "faas/code.shapes"=some cs) (hd:DataW.trod enc Tryz.prog w base spare held n 365 cs.toList=some (.agg l,p))
 (l1:l[1]? =some (.agg [.lit (.string [110,117,108,108]), .lit (.bool false), .lit (.bool false), .lit (.bool false), .lit (.int .i64 0), .lit (.int .i64 1)])) (l5:l[5]? =some (.agg [.lit (.string [108,111,97,100]), .lit (.bool true), .lit (.bool false), .lit (.bool false), .lit (.int .i64 0), .lit (.int .i64 1)]))
 (l9:l[9]? =some (.agg [.lit (.string [98,105,110,97,114,121]), .lit (.bool false), .lit (.bool true), .lit (.bool false), .lit (.int .i64 2), .lit (.int .i64 1)])) (l20:l[20]? =some (.agg [.lit (.string [114,101,116,117,114,110]), .lit (.bool false), .lit (.bool false), .lit (.bool false), .lit (.int .i64 1), .lit (.int .i64 0)])):ShW w:=by
 have hg:Tryz.prog.globalNamed "faas/code.shapes"=some 0:=by kernel_rfl
 have hc:∀i,w.cell? ⟨0,i,none⟩=cs[i]? :=World.var?_cell hg hv
 have h0:0<w.heap.size:=by
  rcases Nat.lt_or_ge 0 w.heap.size with h|h
  ·exact h
  ·exfalso
   unfold World.var? at hv
   rw[hg]at hv
   simp only[Option.bind_some]at hv
   rw[Array.getElem?_eq_none (by omega)]at hv
   cases hv
 refine⟨h0,fun o ho j hj=> ?_⟩
 rw[hc,←Array.getElem?_toList]
 rcases ho with rfl|rfl|rfl|rfl
 ·exact shapes_at hd (by omega) l1 j hj
 ·exact shapes_at hd (by omega) l5 j hj
 ·exact shapes_at hd (by omega) l9 j hj
 ·exact shapes_at hd (by omega) l20 j hj
end
end
section
open Go.RowKit
end
section
open Go.RowKit
end
section
open Go.RowKit
end
section
open Go.RowKit
theorem dec_Ud {H:Type} {enc:TypeId×Value→H} {w:World} {base:Nat} {spare:Nat→Bool} {held:Bool} {fs:Array Field} (hfs:Tryz.prog.underlying 101=some (.struct fs)) (f:Nat→Value)
 (h:∀(j:Nat) (fd:Field),fs[j]? =some fd→∃(y:DataW H×List MemPlace) (n:Nat),DataW.trod enc Tryz.prog w base spare held n fd.type [f j]=some y):∃x:Ud,x.good∧∀j,j<fs.size→(udC x)[j]? =some (f j):=by
 rw[Tryz.underlying101]at hfs
 cases hfs
 obtain⟨y0,n0,h0⟩:=h 0 _ rfl
 obtain⟨a0,e0,_,w0⟩:=DataW.trod_int Tryz.underlying5 h0
 obtain⟨y1,n1,h1⟩:=h 1 _ rfl
 obtain⟨a1,e1,_,w1⟩:=DataW.trod_int Tryz.underlying99 h1
 obtain⟨y2,n2,h2⟩:=h 2 _ rfl
 obtain⟨a2,e2,_⟩:=DataW.trod_bool Tryz.underlying4 h2
 simp only[List.cons.injEq,and_true]at e0 e1 e2
 refine⟨⟨a0,a1,a2⟩,⟨w0,w1⟩,fun j hj=> ?_⟩
 match j,hj with
 |0,_=>simp[udC,e0]
 |1,_=>simp[udC,e1]
 |2,_=>simp[udC,e2]
theorem opens_Ud {H:Type} {enc:TypeId×Value→H} {w:World} {base:Nat} {spare:Nat→Bool} {held:Bool} {a:Option Addr} {len cap:Nat} {d:DataW H} {ps:List MemPlace}
 (h:DataW.Trod enc Tryz.prog w base spare held 84 (.slice a len cap) d ps):∃l:List Ud,SlIs udC 3 w a len l∧(∀x∈l,x.good)∧len≤maxLen∧len≤cap:=by
 obtain⟨l,h1,h2,h3⟩:=open_sl udC Ud.good Tryz.underlying84 Tryz.underlying101 (by kernel_rfl) (by kernel_rfl) (by decide) (fun _=>rfl) (dec_Ud Tryz.underlying101) h
 exact⟨l,h1,h2,h3,trod_cap Tryz.underlying84 h⟩
end
section
open Go.RowKit
end
section
open Go.RowKit
end
section
end
section
open Go.RowKit
end
section
open Go.RowKit
end
section
open Go.RowKit
end
section
open Go.RowKit
section
variable {free m0 m1:Int} {l:List Ud}
end
end
section
open Go.RowKit
end
section
open Go.RowKit Go.ChangeShapes Go.WideShapes
section
variable {H:Type} {enc:TypeId×Value→H} {w:World} {base:Nat} {spare:Nat→Bool} {held:Bool}
theorem okWide_arrayT {P:Program} {r:Reach} {b0:Nat} {t e:TypeId} {n:Nat} {v:Value} (ht:P.underlying t=some (.array n e)) (h:Value.okWide P w r b0 t v):∃cs,v= .agg cs∧cs.size=P.cellsOf t:=by
 unfold Value.okWide at h
 simp only[ht]at h
 obtain⟨cs,h1,h2,_⟩:=h
 exact⟨cs,h1,h2⟩
theorem open_arrT {P:Program} {r:Reach} {b0:Nat} {t e:TypeId} {n:Nat} {k:IntKind} {v:Value} {d:DataW H} {ps:List MemPlace} (ht:P.underlying t=some (.array n e)) (he:P.underlying e=some (.int k)) (hce:P.cellsOf e=1) (hct:P.cellsOf t=n)
 (hv:Value.okWide P w r b0 t v) (h:DataW.Trod enc P w base spare held t v d ps):∃cs:Array Value,v= .agg cs∧cs.size=n∧∀i,i<n→∃y:Int,(Lit.int k y).wf=true∧cs[i]? =some (.int k y):=by
 obtain⟨cs,rfl,hsz⟩:=okWide_arrayT ht hv
 obtain⟨fuel,hf⟩:=h
 obtain⟨xs,m,_,hx,_,hlen,hg⟩:=DataW.trod_array ht hf
 rw[hct]at hsz
 refine⟨cs,rfl,hsz, ?_⟩
 intro i hi
 have h1:=hg i hi
 rw[hce,Nat.mul_one]at h1
 have hic:i<cs.size:=by omega
 have h2:((Value.agg cs).cells.toList.drop i).take 1=[cs[i]]:=by
  show(cs.toList.drop i).take 1=_
  rw[List.drop_eq_getElem_cons (by simpa using hic)];simp
 rw[h2,List.getElem?_eq_getElem (by omega)]at h1
 obtain⟨q,e1,_,hw⟩:=DataW.trod_int he h1
 simp at e1
 exact⟨q,hw,by rw[Array.getElem?_eq_getElem hic,e1]⟩
theorem open_A2u {r:Reach} {b0:Nat} {v:Value} {d:DataW H} {ps:List MemPlace} (hv:Value.okWide Tryz.prog w r b0 83 v) (h:DataW.Trod enc Tryz.prog w base spare held 83 v d ps):∃x:Int×Int,v= .agg #[.int .u8 x.1, .int .u8 x.2]∧((Lit.int .u8 x.1).wf=true∧(Lit.int .u8 x.2).wf=true):=by
 obtain⟨cs,rfl,hsz,hc⟩:=open_arrT Tryz.underlying83 Tryz.underlying5 (by kernel_rfl) (by kernel_rfl) hv h
 obtain⟨y0,w0,e0⟩:=hc 0 (by omega)
 obtain⟨y1,w1,e1⟩:=hc 1 (by omega)
 refine⟨(y0,y1), ?_,w0,w1⟩
 congr 1
 apply Array.ext_getElem?
 intro i
 match i with
 |0=>rw[e0];rfl
 |1=>rw[e1];rfl
 |i+2=>rw[Array.getElem?_eq_none (by omega),Array.getElem?_eq_none (by simp)]
end
end
end Go.Proofs.YtmofknmeljdodaaGreatDoor
