/- Chapter 54: the reference's Share: the checks. No condition but those that the statements name. -/
import Derived.Test.YtmofknmeljdodaaGreatDoorZS01
import Derived.Test.YtmofknmeljdodaaGreatDoorZB19
import Derived.Test.YtmofknmeljdodaaGreatDoorZB10
import Derived.Test.YtmofknmeljdodaaGreatDoorZS03
import Derived.Test.YtmofknmeljdodaaGreatDoorZB18
set_option maxHeartbeats 100000000
set_option maxRecDepth 100000
set_option linter.unusedVariables false
set_option linter.unusedSimpArgs false
open List renaming getElem_toArray→gTA,getElem_cons_zero→gCZ,getElem_cons_succ→gCS,setIfInBounds_toArray→sTA,set_cons_zero→sCZ,set_cons_succ→sCS
namespace Go.Proofs.YtmofknmeljdodaaGreatDoor
section
open Go.RowKit
structure RsI (t:Int) (W:List Int) (w w0 wr:World) (la:Option Addr) (lc:Nat) (oa:Option Addr) (co:Nat) (ra:Option Addr) (cr k:Nat):Prop where
 out:RowOf icI 1 wr w.heap.size 3 (.slice oa k co) ((shQ t W).take k)
 rest:RowOf icI 1 wr w.heap.size 3 (.slice ra k cr) ((shR t W).take k)
 row:RowOf icI 1 wr w.heap.size 3 (.slice la W.length lc) (effW W)
 ne:∀g g',(Value.slice oa k co).ownBlock=some g→(Value.slice ra k cr).ownBlock=some g'→g≠g'
 ho:∀g,(Value.slice oa k co).ownBlock=some g→w0.heap.size≤g
 hr:∀g,(Value.slice ra k cr).ownBlock=some g→w0.heap.size≤g
 old:∀g,(Value.slice la W.length lc).ownBlock=some g→g<w0.heap.size
 chg:Chg [] w wr
 sz:w0.heap.size≤wr.heap.size
theorem RsI.keep {t:Int} {W:List Int} {w w0 w3 w4:World} {la:Option Addr} {lc co cr k:Nat} {oa ra:Option Addr} (h:RsI t W w w0 w3 la lc oa co ra cr k) (hc:Chg [] w3 w4):RsI t W w w0 w4 la lc oa co ra cr k:=
 ⟨h.out.kept hc (by simp),h.rest.kept hc (by simp),h.row.kept hc (by simp),h.ne,h.ho,h.hr,h.old,h.chg.thenSame hc,Nat.le_trans h.sz hc.size⟩
theorem not_toList {x:Option Nat} {g:Nat} (h:∀g',x=some g'→g'≠g):g∉x.toList:=by
 cases x with
 |none=>simp
 |some y=>simp only[Option.toList_some,List.mem_singleton];exact fun e=>h y rfl e.symm
structure RsM (t:Int) (W:List Int) (w w0 w4:World) (la:Option Addr) (lc g4 c4:Nat) (ra:Option Addr) (cr k:Nat):Prop where
 out:RowOf icI 1 w4 w.heap.size 3 (.slice (some ⟨g4,0,none⟩) (k+1) c4) ((shQ t W).take (k+1))
 rest:RowOf icI 1 w4 w.heap.size 3 (.slice ra k cr) ((shR t W).take k)
 row:RowOf icI 1 w4 w.heap.size 3 (.slice la W.length lc) (effW W)
 ne:∀g',(Value.slice ra k cr).ownBlock=some g'→g4≠g'
 ho:w0.heap.size≤g4
 hr:∀g,(Value.slice ra k cr).ownBlock=some g→w0.heap.size≤g
 old:∀g,(Value.slice la W.length lc).ownBlock=some g→g<w0.heap.size
 chg:Chg [] w w4
 sz:w0.heap.size≤w4.heap.size
theorem RsI.mid {t:Int} {W:List Int} {w w0 w3 w4:World} {la:Option Addr} {lc co cr k g4 c4:Nat} {oa ra:Option Addr} {o:Obj} (h:RsI t W w w0 w3 la lc oa co ra cr k) (hw:w.heap.size≤w0.heap.size) (hr4:RowOf icI 1 w4 w.heap.size 3 (.slice (some ⟨g4,0,none⟩) (k+1) c4) ((shQ t W).take (k+1))) (G4:Chg (Value.slice oa k co).ownBlock.toList (w3.alloc o) w4) (O4:(Value.slice oa k co).ownBlock=some g4∨g4=(w3.alloc o).heap.size):RsM t W w w0 w4 la lc g4 c4 ra cr k:=by
 have ka:=(Chg.refl [] w3).alloc o
 refine⟨hr4,(h.rest.kept ka (by simp)).kept G4 fun g hg=>not_toList fun g' hg'=>h.ne g' g hg' hg,(h.row.kept ka (by simp)).kept G4 fun g hg=>not_toList fun g' hg'=> ?_,fun g' hg'=> ?_, ?_,h.hr,h.old, ?_, ?_⟩
 ·have:=h.old g hg;have:=h.ho g' hg';omega
 ·rcases O4 with q|q
  ·exact h.ne g4 g' q hg'
  ·have:=(RowOf.block h.rest g' hg').2
   rw[q,World.size_alloc];omega
 ·rcases O4 with q|q
  ·exact h.ho g4 q
  ·rw[q,World.size_alloc];have:=h.sz;omega
 ·exact(h.chg.thenSame ka).trans G4 (by simp) (fun x hx hlt=>by
   exfalso
   have:(Value.slice oa k co).ownBlock=some x:=by
    cases q:(Value.slice oa k co).ownBlock with
    |none=>rw[q]at hx;simp at hx
    |some y=>rw[q]at hx;simp at hx;rw[hx]
   have:=h.ho x this
   omega)
 ·have:=G4.size;rw[World.size_alloc]at this;have:=h.sz;omega
theorem RsM.next {t:Int} {W:List Int} {w w0 w4 w5:World} {la:Option Addr} {lc g4 c4 cr k g5 c5:Nat} {ra:Option Addr} {o:Obj} (h:RsM t W w w0 w4 la lc g4 c4 ra cr k) (hw:w.heap.size≤w0.heap.size) (hr5:RowOf icI 1 w5 w.heap.size 3 (.slice (some ⟨g5,0,none⟩) (k+1) c5) ((shR t W).take (k+1))) (G5:Chg (Value.slice ra k cr).ownBlock.toList (w4.alloc o) w5) (O5:(Value.slice ra k cr).ownBlock=some g5∨g5=(w4.alloc o).heap.size):RsI t W w w0 w5 la lc (some ⟨g4,0,none⟩) c4 (some ⟨g5,0,none⟩) c5 (k+1):=by
 have ka:=(Chg.refl [] w4).alloc o
 have l4:=(RowOf.block h.out g4 rfl).2
 refine⟨(h.out.kept ka (by simp)).kept G5 fun g hg=>not_toList fun g' hg'=> ?_,hr5,(h.row.kept ka (by simp)).kept G5 fun g hg=>not_toList fun g' hg'=> ?_,fun g g' hg hg'=> ?_,fun g hg=> ?_,fun g hg=> ?_,h.old, ?_, ?_⟩
 ·cases hg;exact fun e=>h.ne g' hg' e.symm
 ·have:=h.old g hg;have:=h.hr g' hg';omega
 ·cases hg;cases hg'
  rcases O5 with q|q
  ·exact h.ne _ q
  ·have q2:g5=w4.heap.size+1:=by rw[q,World.size_alloc]
   show g4≠g5
   omega
 ·cases hg;exact h.ho
 ·cases hg
  rcases O5 with q|q
  ·exact h.hr _ q
  ·have q2:g5=w4.heap.size+1:=by rw[q,World.size_alloc]
   show w0.heap.size≤g5
   have:=h.sz
   omega
 ·exact(h.chg.thenSame ka).trans G5 (by simp) (fun x hx hlt=>by
   exfalso
   have:(Value.slice ra k cr).ownBlock=some x:=by
    cases q:(Value.slice ra k cr).ownBlock with
    |none=>rw[q]at hx;simp at hx
    |some y=>rw[q]at hx;simp at hx;rw[hx]
   have:=h.hr x this
   omega)
 ·have:=G5.size;rw[World.size_alloc]at this;have:=h.sz;omega
structure PBest (T:List Int) (b i:Nat):Prop where
 le:∀x,x<i→T.getD x 0≤T.getD b 0
 lt:∀x,x<b→T.getD x 0<T.getD b 0
theorem PBest.up {T:List Int} {b i:Nat} (h:PBest T b i) (hg:T.getD b 0<T.getD i 0):PBest T i (i+1):=
 ⟨fun x hx=>by rcases Nat.lt_or_ge x i with q|q
               ·have:=h.le x q;omega
               ·have:x=i:=by omega
                subst this;exact Int.le_refl _,fun x hx=>by have:=h.le x hx;omega⟩
theorem PBest.best {T:List Int} {b i:Nat} (h:PBest T b i) (hb:b<T.length) (hi:T.length=i):Best T b:=⟨hb,fun j hj=>h.le j (by omega),h.lt⟩
end
end Go.Proofs.YtmofknmeljdodaaGreatDoor
