/- Values (chapters 30, 50): contract: value.Check. No condition but those that the statements name. -/
import Derived.Laws.StructEq
import Derived.Lib.SliceRun
import Derived.Sort.OwnSortedInts
import Derived.Deep.AppendLies
import Derived.Test.YtmofknmeljdodaaGreatDoorZS04
import Derived.Test.YtmofknmeljdodaaGreatDoorZS01
import Derived.Test.YtmofknmeljdodaaGreatDoorZS03
set_option maxHeartbeats 100000000
set_option maxRecDepth 100000
set_option linter.unusedVariables false
set_option linter.unusedSimpArgs false
open List renaming getElem_toArray→gTA,getElem_cons_zero→gCZ,getElem_cons_succ→gCS,setIfInBounds_toArray→sTA,set_cons_zero→sCZ,set_cons_succ→sCS
namespace Go.Proofs.YtmofknmeljdodaaGreatDoor
section
open Go.RowKit
def checkQ (len:Nat) (q:Int×Sh×Bool):Int:=
 if q.2.2=false then 1 else if q.1≠(len:Int)then 1 else if q.2.1.outside=true then 2 else if q.2.1.long=true then 3 else if 200<(len:Int)then 3 else if 8<q.2.1.depth then 3 else if 4000<q.2.1.bytes then 3 else 0
def checkZ (l:List Ce):Int:=checkQ l.length (lookS l)
theorem vcheck_any (a:Option Addr) (c:Nat) (l:List Ce) (w:World) (h:SlIs ceC 4 w a l.length l) (hl:l.length≤3518437208780) (hg:∀x∈l,x.good) (ht:TabW w):
 Calls Tryz.prog 45 #[.slice a l.length c] w fun e w'=>e= .returned (.int .i64 (checkZ l))∧Chg [] w w':=by
 have A:=LH (look_any a c l w h hl hg ht)
 obtain⟨R,hR⟩:∃R,R=checkZ l:=⟨_,rfl⟩
 rw[←hR]
 unfold checkZ at hR
 have HL:Hid (l.length≤3518437208780):=LH hl
 clear h hg ht hl
 generalize lookS l=q at*
 obtain⟨n,s,ok⟩:=q
 obtain⟨dp,by_,os,lg⟩:=s
 unfold shC at A
 simp only[checkQ]at hR A
 generalize l.length=m at*
 cases ok
 ·have HF:=LH (hR.trans (if_pos rfl))
  clear hR
  go_enter Tryz.func45,Tryz.ntmps45
  go_wp2_with fail
  refine A.out.mono ?_;rintro e w1 ⟨rfl,hc⟩
  have D:=LH hc
  clear hc
  go_wp2_with fail
  go_ret
  exact⟨retI HF.out.symm,D.out.alloc _⟩
 rw[if_neg (by decide)]at hR
 by_cases hn:n=(m:Int)
 ·subst hn
  rw[if_neg (by simp)]at hR
  cases os
  ·rw[if_neg (by decide)]at hR
   cases lg
   ·rw[if_neg (by decide)]at hR
    by_cases h2:200<(m:Int)
    ·have HF:=LH (hR.trans (if_pos h2))
     clear hR
     go_enter Tryz.func45,Tryz.ntmps45
     go_wp2_with fail
     refine A.out.mono ?_;rintro e w1 ⟨rfl,hc⟩
     have D:=LH hc
     clear hc
     go_wp2_with fail
     go_ret
     exact⟨retI HF.out.symm,D.out.alloc _⟩
    rw[if_neg h2]at hR
    by_cases h3:8<dp
    ·have HF:=LH (hR.trans (if_pos h3))
     clear hR
     go_enter Tryz.func45,Tryz.ntmps45
     go_wp2_with fail
     refine A.out.mono ?_;rintro e w1 ⟨rfl,hc⟩
     have D:=LH hc
     clear hc
     go_wp2_with fail
     go_ret
     exact⟨retI HF.out.symm,D.out.alloc _⟩
    rw[if_neg h3]at hR
    by_cases h4:4000<by_
    ·have HF:=LH (hR.trans (if_pos h4))
     clear hR
     go_enter Tryz.func45,Tryz.ntmps45
     go_wp2_with fail
     refine A.out.mono ?_;rintro e w1 ⟨rfl,hc⟩
     have D:=LH hc
     clear hc
     go_wp2_with fail
     go_ret
     exact⟨retI HF.out.symm,D.out.alloc _⟩
    have HF:=LH (hR.trans (if_neg h4))
    clear hR
    go_enter Tryz.func45,Tryz.ntmps45
    go_wp2_with fail
    refine A.out.mono ?_;rintro e w1 ⟨rfl,hc⟩
    have D:=LH hc
    clear hc
    go_wp2_with fail
    go_ret
    exact⟨retI HF.out.symm,D.out.alloc _⟩
   ·have HF:=LH (hR.trans (if_pos rfl))
    clear hR
    go_enter Tryz.func45,Tryz.ntmps45
    go_wp2_with fail
    refine A.out.mono ?_;rintro e w1 ⟨rfl,hc⟩
    have D:=LH hc
    clear hc
    go_wp2_with fail
    go_ret
    exact⟨retI HF.out.symm,D.out.alloc _⟩
  ·have HF:=LH (hR.trans (if_pos rfl))
   clear hR
   go_enter Tryz.func45,Tryz.ntmps45
   go_wp2_with fail
   refine A.out.mono ?_;rintro e w1 ⟨rfl,hc⟩
   have D:=LH hc
   clear hc
   go_wp2_with fail
   go_ret
   exact⟨retI HF.out.symm,D.out.alloc _⟩
 ·have HF:=LH (hR.trans (if_pos hn))
  clear hR
  go_enter Tryz.func45,Tryz.ntmps45
  go_wp2_with fail
  refine A.out.mono ?_;rintro e w1 ⟨rfl,hc⟩
  have D:=LH hc
  clear hc
  go_wp2_with fail
  go_ret
  exact⟨retI HF.out.symm,D.out.alloc _⟩
end
section
open Go.RowKit
theorem listS (a b:ByteArray):a.toList=b.toList↔a=b:=by
 have:=beq_toListBytes a b
 constructor
 ·intro h
  rw[h]at this
  simpa using this
 ·rintro rfl
  rfl
def sameTo {α:Type} (e:α→α→Bool) (l m:List α) (k:Nat):Bool:=(List.range k).all (fun i=>match l[i]?,m[i]? with|some x,some y=>e x y|_,_=>true)
theorem sameTo_step {α:Type} {e:α→α→Bool} {l m:List α} {k:Nat} (h1:k<l.length) (h2:k<m.length):sameTo e l m (k+1)=(sameTo e l m k&&e l[k] m[k]):=by
 unfold sameTo
 rw[List.range_succ,List.all_append]
 simp[List.getElem?_eq_getElem h1,List.getElem?_eq_getElem h2]
def sameB {α:Type} (e:α→α→Bool) (l m:List α):Bool:=decide (l.length=m.length)&&sameTo e l m l.length
theorem same_no {α:Type} {e:α→α→Bool} {l m:List α} {k:Nat} (h1:k<l.length) (h2:k<m.length) (h:e l[k] m[k]=false):sameB e l m=false:=by
 unfold sameB sameTo
 have:(List.range l.length).all (fun i=>match l[i]?,m[i]? with|some x,some y=>e x y|_,_=>true)=false:=by
  rw[List.all_eq_false]
  refine⟨k,List.mem_range.2 h1, ?_⟩
  rw[List.getElem?_eq_getElem h1,List.getElem?_eq_getElem h2]
  simp[h]
 rw[this,Bool.and_false]
theorem same_refl {α:Type} {e:α→α→Bool} (he:∀x,e x x=true) (l:List α):sameB e l l=true:=by
 unfold sameB sameTo
 rw[decide_eq_true rfl,Bool.true_and,List.all_eq_true]
 intro i hi
 rw[List.mem_range]at hi
 rw[List.getElem?_eq_getElem hi]
 exact he _
end
section
open Go.RowKit
def ceE (a b:Ce):Bool:=a.kind==b.kind&&a.n==b.n&&a.str==b.str&&a.cn==b.cn
theorem ceE_iff {a b:Ce}:ceE a b=true↔a=b:=by
 obtain⟨a1,a2,a3,a4⟩:=a
 obtain⟨b1,b2,b3,b4⟩:=b
 simp[ceE,and_assoc]
theorem structCe:Tryz.prog.underlying 63=some (.struct (Tryz.prog.fieldsOf 63)):=by kernel_rfl
theorem heldCe:Tryz.prog.stoodInHeld 63=false:=by kernel_rfl
theorem eqlCe_in (d:Nat) (a b:Ce) (w:World):(Op.equalIn (d+2) 63 (ceV a) (ceV b)).run Tryz.prog w= .ok (ceE a b) w:=by
 obtain⟨a1,a2,a3,a4⟩:=a
 obtain⟨b1,b2,b3,b4⟩:=b
 simp only[ceV,ceE]
 rw[show d+2=(d+1)+1 from rfl,run_equalIn_struct w (d+1) 63 _ _ structCe heldCe]
 simp only[Program.fieldsOf,Tryz.underlying63]
 go_simp
 cases h1:a1==b1<;>cases h2:a2==b2<;>cases h3:a3==b3<;>cases h4:a4==b4<;>simp[listS]<;>simp_all
theorem neqCe (a b:Ce) (w:World):(binOp .neq 63 (ceV a) (ceV b)).run Tryz.prog w= .ok (.bool (!ceE a b)) w:=by
 unfold ceV
 rw[run_neq_struct]
 have:=eqlCe_in 9998 a b w
 unfold ceV at this
 rw[this]
 rfl
end
section
open Go.RowKit
theorem cellInfo:(Tryz.prog.info? 63).map (fun i=>(i.zero,i.size,i.bytes))=some (some (.agg #[.int .i64 0, .int .i64 0, .string ⟨#[]⟩, .int .i64 0]),4,40):=by kernel_rfl
theorem clonec_any (a:Option Addr) (c:Nat) (l:List Ce) (w:World) (h:InIs ceC 4 w a c l) (hl:l.length≤3518437208780):
 Calls Tryz.prog 43 #[.slice a l.length c] w fun e w'=>∃a' c',e= .returned (.slice a' l.length c')∧RowOf ceC 4 w' w.heap.size 63 (.slice a' l.length c') l∧Chg [] w w':=by
 have qn:∀(w:World) (a:Option Addr) (n c n' c':Nat),(binOp .eql 22 (.slice a n c) (.slice none n' c')).run Tryz.prog w= .ok (.bool a.isNone) w:=fun w a n c n' c'=>Lib.run_eql_slice_nil w _ _ a n c n' c' Tryz.underlying22
 cases a with
 |none=>
  obtain⟨e1,e2⟩:=SlIs.none h.1
  subst e2
  clear h
  go_enter Tryz.func43,Tryz.ntmps43
  go_wp2_with fail
  go_ret
  exact⟨none,0,rfl,RowOf.nil _ _ _,Chg.refl _ _⟩
 |some ad=>
  have H:=LH h
  clear h
  go_enter Tryz.func43,Tryz.ntmps43
  go_wp2_with (at_builtin;go_loud (refine wpl_appendsI rfl _ _ 22 rfl w.heap.size 63 _ 40 Tryz.underlying22 cellInfo rfl (by decide) ceC_len ceC_one (.slice (some ⟨w.heap.size,0,none⟩) 0 0) [] rfl (RowOf.empty (g:=w.heap.size) (Nat.le_refl _) (heap_alloc_new _ _) rfl) (some ad) c l rfl (H.out.kept ((Chg.refl _ _).alloc _)) (by unfold maxLen;simp;omega) (by simp;omega) (by simp) ?_;intro v1 w1 hr1 hc1;have R1:=LH hr1;have K1:=LH (Chg.then ((Chg.refl [] w).alloc (.cells #[] 63)) hc1 (by intro y hy hl;simp[Value.ownBlock]at hy;omega));clear hr1 hc1))
  obtain⟨a',c',rfl⟩:=RowOf.shape R1.out
  go_ret
  exact⟨a',c',rfl,R1.out,K1.out⟩
theorem clonec_in (a:Option Addr) (c:Nat) (l:List Ce) (w:World) (h:InIs ceC 4 w a c l) (hl:l.length≤3518437208780):
 Calls Tryz.prog 43 #[.slice a l.length c] w fun e w'=>∃a' c',e= .returned (.slice a' l.length c')∧InIs ceC 4 w' a' c' l∧(∀x,a'=some x→w.heap.size≤x.block)∧Chg [] w w':=
 (clonec_any a c l w h hl).mono fun e w' ⟨a',c',h1,h2,h3⟩=>⟨a',c',h1,(InIs.ofRow h2 ceC_len).2,fun x hx=>(RowOf.block h2 x.block (by subst hx;rfl)).1,h3⟩
theorem equalc_any (a:Option Addr) (c:Nat) (l:List Ce) (a2:Option Addr) (c2:Nat) (m:List Ce) (w:World) (h:SlIs ceC 4 w a l.length l) (hm:SlIs ceC 4 w a2 m.length m) (hl:l.length≤1048576):
 Calls Tryz.prog 108 #[.slice a l.length c, .slice a2 m.length c2] w fun e w'=>e= .returned (.bool (sameB ceE l m))∧Chg [] w w':=by
 have H:=LH h
 have HM:=LH hm
 obtain⟨R,hR⟩:∃R,R=sameB ceE l m:=⟨_,rfl⟩
 rw[←hR]
 have HR:=LH hR
 clear h hm hR
 by_cases hlen:l.length=m.length
 case neg=>
  have HE:Hid (R=false):=LH (by rw[HR.out];unfold sameB;rw[decide_eq_false hlen];rfl)
  have hlen':((l.length:Int)!=(m.length:Int))=true:=by rw[bne,beq_eq_false_iff_ne.2 (show(l.length:Int)≠(m.length:Int) by omega)];rfl
  have hlen2:((l.length:Int)==(m.length:Int))=false:=beq_eq_false_iff_ne.2 (by omega)
  go_enter Tryz.func108,Tryz.ntmps108
  go_wp2_with fail
  go_ret
  exact⟨by rw[HE.out];rfl,Chg.refl _ _⟩
 have hlen':((l.length:Int)==(m.length:Int))=true:=beq_iff_eq.2 (by omega)
 have HLen:=LH hlen
 clear hlen
 go_enter Tryz.func108,Tryz.ntmps108
 go_wp2_with fail
 go_loopw [13] (fun i wr=>∃k:Nat,i= .int .i64 k∧k≤l.length∧Hid (sameTo ceE l m k=true)∧Hid (Chg [] w wr)) (fun i _=>l.length-(intOf i).toNat)
 case atStart=>exact⟨0,rfl,Nat.zero_le _,LH rfl,LH (Chg.refl _ _)⟩
 case round=>
  obtain⟨k,rfl,hkl,HS,D⟩:=hrel
  by_cases hk:k<l.length
  ·have hk2:k<m.length:=by have:=HLen.out;omega
   obtain⟨g1,o1,rfl, -,hbr1,hcc1⟩:=H.out.elem D.out k hk
   obtain⟨g2,o2,rfl, -,hbr2,hcc2⟩:=HM.out.elem D.out k hk2
   have hst:=sameTo_step (e:=ceE) hk hk2
   rw[HS.out,Bool.true_and]at hst
   have hno:=same_no (e:=ceE) hk hk2
   generalize l[k]=x at*
   generalize m[k]=y at*
   have d0:=hcc1 0 (by omega)
   have d1:=hcc1 1 (by omega)
   have d2:=hcc1 2 (by omega)
   have d3:=hcc1 3 (by omega)
   have e0:=hcc2 0 (by omega)
   have e1:=hcc2 1 (by omega)
   have e2:=hcc2 2 (by omega)
   have e3:=hcc2 3 (by omega)
   simp only[ceC,List.getElem?_cons_zero,List.getElem?_cons_succ,Nat.add_zero]at d0 d1 d2 d3 e0 e1 e2 e3
   have hk0:(0:Int)≤(k:Int):=by omega
   have hk1:(k:Int)<(l.length:Int):=by omega
   have hk2':(k:Int)<(m.length:Int):=by omega
   have qn:=fun w=>neqCe x y w
   have HR0:=LH HR.out
   unfold ceV at qn
   clear hcc1 hcc2
   cases hq:ceE x y
   ·rw[hq]at qn
    have HE:Hid (R=false):=LH (by rw[HR0.out];exact hno hq)
    clear hst hno
    go_wp2_with fail
    go_quiet (fail)
    go_wp2_with fail
    go_ret
    exact⟨by rw[HE.out];rfl,D.out.drewN _⟩
   ·rw[hq]at qn hst
    have HST:=LH hst
    clear hst hno
    go_wp2_with fail
    go_quiet (fail)
    go_wp2_with fail
    exact⟨⟨k+1,by go_num,by omega,HST,LH (D.out.drewN _)⟩,by simp[intOf];omega⟩
  ·have hks:k=l.length:=by omega
   subst hks
   have HE:Hid (R=true):=LH (by rw[HR.out];unfold sameB;rw[decide_eq_true HLen.out,HS.out];rfl)
   go_wp2_with fail
   go_ret
   exact⟨by rw[HE.out];rfl,D.out⟩
theorem vsame_any (a:Option Addr) (c:Nat) (l:List Ce) (a2:Option Addr) (c2:Nat) (m:List Ce) (w:World) (h:SlIs ceC 4 w a l.length l) (hm:SlIs ceC 4 w a2 m.length m) (hl:l.length≤1048576):
 Calls Tryz.prog 113 #[.slice a l.length c, .slice a2 m.length c2] w fun e w'=>e= .returned (.bool (sameB ceE l m))∧Chg [] w w':=by
 have A:=LH (equalc_any a c l a2 c2 m w h hm hl)
 clear h hm hl
 generalize sameB ceE l m=q at*
 go_enter Tryz.func113,Tryz.ntmps113
 go_wp2_with fail
 refine A.out.mono ?_;rintro e w1 ⟨rfl,hc⟩
 have C:=LH hc
 clear hc
 go_wp2_with fail
 go_ret
 exact⟨rfl,C.out⟩
theorem one_in {w:World} {b:Nat} {x:Ce} (hb:w.heap[b]? =some (.cells #[.int .i64 x.kind, .int .i64 x.n, .string x.str, .int .i64 x.cn] 63 (0,0))):InIs ceC 4 w (some ⟨b,0,none⟩) 1 [x]:=
 ⟨SlIs.ofBlock (cf:=ceC) [x] hb ceC_len rfl,Nat.le_refl _,by unfold maxLen;omega,fun h=>by cases h⟩
def nullC:Ce:=⟨1,0,⟨#[]⟩,0⟩
def boolC (b:Bool):Ce:=⟨2,if b then 1 else 0,⟨#[]⟩,0⟩
def intC (n:Int):Ce:=⟨3,n,⟨#[]⟩,0⟩
theorem vnull_any (w:World):Calls Tryz.prog 57 #[] w fun e w'=>∃a c,e= .returned (.slice a 1 c)∧InIs ceC 4 w' a c [nullC]∧(∀x,a=some x→w.heap.size≤x.block)∧Chg [] w w':=by
 go_enter Tryz.func57,Tryz.ntmps57
 go_wp2_with fail
 go_ret
 exact⟨_,_,rfl,one_in (x:=nullC) (heap_alloc_new _ _),fun x hx=>by cases hx;exact Nat.le_refl _,(Chg.refl _ _).alloc _⟩
theorem vbool_any (b:Bool) (w:World):Calls Tryz.prog 161 #[.bool b] w fun e w'=>∃a c,e= .returned (.slice a 1 c)∧InIs ceC 4 w' a c [boolC b]∧(∀x,a=some x→w.heap.size≤x.block)∧Chg [] w w':=by
 cases b
 ·go_enter Tryz.func161,Tryz.ntmps161
  go_wp2_with fail
  go_ret
  refine⟨_,_,rfl,one_in (x:=boolC false) ?_,fun x hx=>by cases hx;simp,((Chg.refl _ _).alloc _).alloc _⟩
  have:=heap_alloc_new (w.alloc (.cells #[.int .i64 2, .int .i64 0, .string ⟨#[]⟩, .int .i64 0] 63)) (.cells #[.int .i64 2, .int .i64 0, .string ⟨#[]⟩, .int .i64 0] 63)
  rw[World.size_alloc]at this
  exact this
 ·go_enter Tryz.func161,Tryz.ntmps161
  go_wp2_with fail
  go_ret
  refine⟨_,_,rfl,one_in (x:=boolC true) ?_,fun x hx=>by cases hx;simp,((Chg.refl _ _).alloc _).alloc _⟩
  have:=heap_alloc_new (w.alloc (.cells #[.int .i64 2, .int .i64 1, .string ⟨#[]⟩, .int .i64 0] 63)) (.cells #[.int .i64 2, .int .i64 1, .string ⟨#[]⟩, .int .i64 0] 63)
  rw[World.size_alloc]at this
  exact this
end
section
open Go.RowKit
structure Side (J:List Nat→World→Prop):Prop where
 lt:∀{f:List Nat} {w:World},J f w→∀x∈f,x<w.heap.size
 kept:∀{f S:List Nat} {w w':World},J f w→Chg S w w'→(∀x∈f,x∉S)→J f w'
def NoSide:List Nat→World→Prop:=fun f _=>f=[]
def Pair (W w:World) (J K:List Nat→World→Prop):Prop:=
 ∃f g,J f w∧K g w∧(∀x∈f,W.heap.size≤x)∧(∀x∈g,W.heap.size≤x)∧(∀x∈f,x∉g)∧Chg [] W w
variable {W w w':World} {J K J' K':List Nat→World→Prop}
theorem Pair.symm (h:Pair W w J K):Pair W w K J:=by
 obtain⟨f,g,h1,h2,h3,h4,h5,h6⟩:=h
 exact⟨g,f,h2,h1,h4,h3,fun x hx hy=>h5 x hy hx,h6⟩
theorem Pair.chg (h:Pair W w J K):Chg [] W w:=by
 obtain⟨f,g,h1,h2,h3,h4,h5,h6⟩:=h
 exact h6
theorem Pair.below (h:Pair W w J K):Below W.heap.size W w:=h.chg.toBelow (Nat.le_refl _) (by simp)
theorem Pair.keptN (sJ:Side J) (sK:Side K) (h:Pair W w J K) (hc:Chg [] w w'):Pair W w' J K:=by
 obtain⟨f,g,h1,h2,h3,h4,h5,h6⟩:=h
 exact⟨f,g,sJ.kept h1 hc (by simp),sK.kept h2 hc (by simp),h3,h4,h5,h6.thenSame hc⟩
theorem Pair.turn (sK:Side K) (h:Pair W w J K) (ht:∀f,J f w→(∀x∈f,W.heap.size≤x)→∃f',J' f' w'∧Chg f w w'∧∀x∈f',x∈f∨w.heap.size≤x):Pair W w' J' K:=by
 obtain⟨f,g,h1,h2,h3,h4,h5,h6⟩:=h
 obtain⟨f',q1,q2,q3⟩:=ht f h1 h3
 refine⟨f',g,q1,sK.kept h2 q2 (fun x hx hy=>h5 x hy hx), ?_,h4, ?_,h6.then q2 (fun y hy hl=>by have:=h3 y hy;omega)⟩
 ·intro x hx
  rcases q3 x hx with h|h
  ·exact h3 x h
  ·exact Nat.le_trans h6.size h
 ·intro x hx hy
  rcases q3 x hx with h|h
  ·exact h5 x h hy
  ·have:=sK.lt h2 x hy;omega
theorem Pair.start (sK:Side K) (hK:Pair W w K NoSide) (ht:∃f',J' f' w'∧Chg [] w w'∧∀x∈f',w.heap.size≤x):Pair W w' J' K:=by
 obtain⟨f,g,h1,h2,h3,h4,h5,h6⟩:=hK
 obtain⟨f',q1,q2,q3⟩:=ht
 refine⟨f',f,q1,sK.kept h1 q2 (by simp),fun x hx=>Nat.le_trans h6.size (q3 x hx),h3, ?_,h6.thenSame q2⟩
 intro x hx hy
 have:=sK.lt h1 x hy
 have:=q3 x hx
 omega
theorem Pair.first (hc:Chg [] W w) (ht:∃f',J' f' w'∧Chg [] w w'∧∀x∈f',w.heap.size≤x):Pair W w' J' NoSide:=by
 obtain⟨f',q1,q2,q3⟩:=ht
 exact⟨f',[],q1,rfl,fun x hx=>Nat.le_trans hc.size (q3 x hx),by simp,by simp,hc.thenSame q2⟩
def AndSide (J K:List Nat→World→Prop):List Nat→World→Prop:=fun h w=>∃f g,h=f++g∧J f w∧K g w∧∀x∈f,x∉g
def Box (u:Nat) (o:Obj):List Nat→World→Prop:=fun f w=>f=[u]∧w.heap[u]? =some o
theorem Pair.box (sJ:Side J) (sK:Side K) (h:Pair W w J K) (o:Obj):Pair W (w.alloc o) J (AndSide K (Box w.heap.size o)):=by
 obtain⟨f,g,h1,h2,h3,h4,h5,h6⟩:=h
 have hc:Chg [] w (w.alloc o):=(Chg.refl _ _).alloc _
 refine⟨f,g++[w.heap.size],sJ.kept h1 hc (by simp),⟨g,[w.heap.size],rfl,sK.kept h2 hc (by simp),⟨rfl,heap_alloc_new _ _⟩, ?_⟩,h3, ?_, ?_,h6.thenSame hc⟩
 ·intro x hx hy
  simp at hy;subst hy
  have:=sK.lt h2 _ hx;omega
 ·intro x hx
  rcases List.mem_append.1 hx with hx|hx
  ·exact h4 x hx
  ·simp at hx;subst hx;exact h6.size
 ·intro x hx hy
  rcases List.mem_append.1 hy with hy|hy
  ·exact h5 x hx hy
  ·simp at hy;subst hy
   have:=sJ.lt h1 _ hx;omega
theorem Pair.swap {L:List Nat→World→Prop} (h:Pair W w J (AndSide K L)):Pair W w K (AndSide J L):=by
 obtain⟨f,g,h1,⟨g1,g2,rfl,k1,k2,k3⟩,h3,h4,h5,h6⟩:=h
 refine⟨g1,f++g2,k1,⟨f,g2,rfl,h1,k2,fun x hx hy=>h5 x hx (List.mem_append_right _ hy)⟩,fun x hx=>h4 x (List.mem_append_left _ hx), ?_, ?_,h6⟩
 ·intro x hx
  rcases List.mem_append.1 hx with hx|hx
  ·exact h3 x hx
  ·exact h4 x (List.mem_append_right _ hx)
 ·intro x hx hy
  rcases List.mem_append.1 hy with hy|hy
  ·exact h5 x hy (List.mem_append_left _ hx)
  ·exact k3 x hx hy
end
section
open Go.RowKit
def icI (n:Int):List Value:=[.int .i64 n]
theorem flat_icI (l:List Int):l.flatMap icI=l.map (Value.int .i64):=by induction l with
 |nil=>rfl
 |cons x l ih=>simp[icI,ih]
theorem icI_len (x:Int):(icI x).length=1:=rfl
theorem icI_one (x:Int):∀u∈icI x,u.oneCell'=true:=by intro u hu;simp[icI]at hu;subst hu;rfl
end
section
open Go.RowKit
theorem nvalids_any (a:Option Addr) (cap:Nat) (l:List Int) (w:World) (h:SlIs icI 1 w a l.length l) (hm:l.length≤maxLen):Calls Tryz.prog 197 #[.slice a l.length cap] w fun e w'=>e= .returned (.bool (l.all validB))∧w=w':=by
 obtain⟨R,hR⟩:∃R,R=l.all validB:=⟨_,rfl⟩
 rw[←hR]
 have HR:=LH hR
 have H:=LH h
 unfold maxLen at hm
 clear h hR
 go_enter Tryz.func197,Tryz.ntmps197
 go_wp2_with fail
 go_loop [7] (fun i=>∃k:Nat,i= .int .i64 k∧k≤l.length∧Hid ((l.take k).all validB=true)) (fun i=>l.length-(intOf i).toNat)
 case atStart=>exact⟨0,rfl,Nat.zero_le _,LH (by simp)⟩
 case round=>
  obtain⟨k,rfl,hkl,HT⟩:=hrel
  by_cases hk:k<l.length
  ·obtain⟨b,off,rfl,hb,hc⟩:=H.out.2 k hk
   have c0:=hc 0 (by omega)
   have HS:=LH (show(l.take (k+1)).all validB=validB l[k] by rw[List.take_succ_eq_append_getElem hk,List.all_append,HT.out];simp)
   have HN:=LH (show validB l[k]=false→l.all validB=false from fun hv=>List.all_eq_false.2 ⟨l[k],List.getElem_mem hk,by rw[hv];simp⟩)
   generalize l[k]=x at*
   simp only[icI,List.getElem?_cons_zero,Nat.add_zero,Nat.mul_one]at c0
   have A:=valid_any x w
   have hk0:(0:Int)≤(k:Int):=by omega
   have hk1:(k:Int)<(l.length:Int):=by omega
   cases hv:validB x
   ·rw[hv]at A
    have A:=LH A
    rename_i A0
    have HE:=LH (HR.out.trans (HN.out hv))
    clear hc A0 hv
    go_wp2_with fail
    refine A.out.mono ?_;rintro e w1 ⟨rfl,rfl⟩
    go_wp2_with fail
    go_ret
    exact⟨by rw[HE.out];rfl,rfl⟩
   ·rw[hv]at A
    have A:=LH A
    rename_i A0
    have HE:=LH (HS.out.trans hv)
    clear hc A0 hv
    go_wp2_with fail
    refine A.out.mono ?_;rintro e w1 ⟨rfl,rfl⟩
    go_wp2_with fail
    exact⟨⟨k+1,by go_num,by omega,HE⟩,by simp[intOf];omega⟩
  ·have hks:k=l.length:=by omega
   have HE:Hid (R=true):=LH (by rw[HR.out];have:=HT.out;rwa[hks,List.take_of_length_le (Nat.le_refl _)]at this)
   clear hks
   go_wp2_with fail
   go_ret
   exact⟨by rw[HE.out];rfl,rfl⟩
theorem result_any (a:Int) (w:World):Calls Tryz.prog 308 #[.int .i64 a] w fun e w'=>e= .returned (.tuple #[.int .i64 (if validB a then a else 0), .int .i64 (if validB a then 0 else 8)])∧w=w':=by
 have A:=LH (valid_any a w)
 generalize validB a=q at*
 cases q
 ·go_enter Tryz.func308,Tryz.ntmps308
  go_wp2_with fail
  refine A.out.mono ?_;rintro e w1 ⟨rfl,rfl⟩
  go_wp2_with fail
  go_ret2
  exact⟨rfl,rfl⟩
 ·go_enter Tryz.func308,Tryz.ntmps308
  go_wp2_with fail
  refine A.out.mono ?_;rintro e w1 ⟨rfl,rfl⟩
  go_wp2_with fail
  go_ret2
  exact⟨rfl,rfl⟩
def addZ (a b:Int):Int×Int:=if validB a=true∧validB b=true then(if validB (a+b)then(a+b,0)else(0,8))else(0,2)
theorem validB_iff {a:Int}:validB a=true↔-1000000000000≤a∧a≤1000000000000:=by unfold validB;simp
theorem nadd_any (a b:Int) (w:World):Calls Tryz.prog 255 #[.int .i64 a, .int .i64 b] w fun e w'=>e= .returned (.tuple #[.int .i64 (addZ a b).1, .int .i64 (addZ a b).2])∧Chg [] w w':=by
 have hb:=heap_alloc_new w (.cells #[.int .i64 a, .int .i64 b] 3)
 have A:=nvalids_any (some ⟨w.heap.size,0,none⟩) 2 [a,b] _ (SlIs.ofBlock (cf:=icI) [a,b] hb icI_len rfl) (by unfold maxLen;simp)
 have hall:[a,b].all validB=(validB a&&validB b):=by simp
 rw[hall]at A
 have A:=LH A
 rename_i A0
 clear A0 hb hall
 by_cases hv:validB a=true∧validB b=true
 ·have hva:=validB_iff.1 hv.1
  have hvb:=validB_iff.1 hv.2
  obtain⟨a1,a2⟩:=hva
  obtain⟨b1,b2⟩:=hvb
  have hw1:a+b≤9223372036854775807:=by omega
  have hw2: -9223372036854775808≤a+b:=by omega
  have B:=LH (fun w'=>result_any (a+b) w')
  have HZ:=LH (show addZ a b=(if validB (a+b)then a+b else 0,if validB (a+b)then 0 else 8) by unfold addZ;rw[if_pos hv];split<;>rfl)
  rw[HZ.out]
  rw[hv.1,hv.2]at A
  clear hv HZ
  generalize (if validB (a+b)then a+b else 0)=u at*
  generalize (if validB (a+b)then(0:Int)else 8)=v at*
  go_enter Tryz.func255,Tryz.ntmps255
  go_wp2_with fail
  refine A.out.mono ?_;rintro e w1 ⟨rfl,rfl⟩
  go_wp2_with fail
  refine(B.out _).mono ?_;rintro e w2 ⟨rfl,rfl⟩
  go_wp2_with fail
  go_ret2
  exact⟨rfl,(Chg.refl [] w).alloc _⟩
 ·have HZ:=LH (show addZ a b=(0,2) by unfold addZ;rw[if_neg hv])
  have hq:(validB a&&validB b)=false:=by
   rw[←Bool.not_eq_true,Bool.and_eq_true];exact hv
  rw[hq]at A
  rw[HZ.out]
  clear hv hq
  go_enter Tryz.func255,Tryz.ntmps255
  go_wp2_with fail
  refine A.out.mono ?_;rintro e w1 ⟨rfl,rfl⟩
  go_wp2_with fail
  go_ret2
  exact⟨rfl,(Chg.refl [] w).alloc _⟩
end
section
def nmT (i:Nat):ByteArray:=⟨#[101,UInt8.ofNat (65+i%26),UInt8.ofNat (48+i/26%10)]⟩
end
section
open Go.RowKit
structure Tr (f:List Nat) (w:World) (f':List Nat) (w':World):Prop where
 chg:Chg f w w'
 own:∀y∈f',y∈f∨w.heap.size≤y
variable {w w':World} {f f':List Nat}
theorem Tr.refl (f:List Nat) (w:World):Tr f w f w:=⟨Chg.refl _ _,fun y hy=> .inl hy⟩
theorem Tr.trans {f1 f2:List Nat} {w1 w2:World} (h:Tr f w f1 w1) (k:Tr f1 w1 f2 w2):Tr f w f2 w2:=by
 refine⟨h.chg.then k.chg (fun y hy hl=>(h.own y hy).resolve_right (by omega)),fun y hy=> ?_⟩
 rcases k.own y hy with h1|h1
 ·exact h.own y h1
 ·exact .inr (Nat.le_trans h.chg.size h1)
theorem Tr.same {f1:List Nat} {w1 w2:World} (h:Tr f w f1 w1) (k:Chg [] w1 w2):Tr f w f1 w2:=⟨h.chg.then k (by simp),h.own⟩
end
section
open Go.RowKit
def All2 {α β:Type} (R:α→β→Prop):List α→List β→Prop
 |[],[]=>True
 |a::l,b::m=>R a b∧All2 R l m
 |_,_=>False
section
variable {α β:Type} {R R':α→β→Prop} {l l':List α} {m m':List β}
theorem All2.len (h:All2 R l m):l.length=m.length:=by
 induction l generalizing m with
 |nil=>cases m with
  |nil=>rfl
  |cons=>exact h.elim
 |cons a l ih=>cases m with
  |nil=>exact h.elim
  |cons b m=>simp[ih h.2]
theorem All2.mono (h:All2 R l m) (hr:∀a b,a∈l→R a b→R' a b):All2 R' l m:=by
 induction l generalizing m with
 |nil=>cases m with
  |nil=>trivial
  |cons=>exact h.elim
 |cons a l ih=>cases m with
  |nil=>exact h.elim
  |cons b m=>exact⟨hr a b (by simp) h.1,ih h.2 (fun a b ha=>hr a b (by simp[ha]))⟩
theorem All2.app (h:All2 R l m) (h':All2 R l' m'):All2 R (l++l') (m++m'):=by
 induction l generalizing m with
 |nil=>cases m with
  |nil=>exact h'
  |cons=>exact h.elim
 |cons a l ih=>cases m with
  |nil=>exact h.elim
  |cons b m=>exact⟨h.1,ih h.2⟩
theorem All2.at (h:All2 R l m) (k:Nat) (hk:k<l.length) (hk':k<m.length):R l[k] m[k]:=by
 induction l generalizing m k with
 |nil=>simp at hk
 |cons a l ih=>cases m with
  |nil=>simp at hk'
  |cons b m=>cases k with
   |zero=>exact h.1
   |succ k=>exact ih h.2 k (by simpa using hk) (by simpa using hk')
theorem All2.of (hl:l.length=m.length) (h:∀k (hk:k<l.length) (hk':k<m.length),R l[k] m[k]):All2 R l m:=by
 induction l generalizing m with
 |nil=>cases m with
  |nil=>trivial
  |cons=>simp at hl
 |cons a l ih=>cases m with
  |nil=>simp at hl
  |cons b m=>exact⟨h 0 (by simp) (by simp),ih (by simpa using hl) (fun k hk hk'=>h (k+1) (by simpa using hk) (by simpa using hk'))⟩
theorem All2.take (h:All2 R l m) (n:Nat):All2 R (l.take n) (m.take n):=
 .of (by simp[h.len]) (fun k hk hk'=>by
  rw[List.length_take]at hk hk'
  simpa using h.at k (by omega) (by omega))
theorem All2.drop (h:All2 R l m) (n:Nat):All2 R (l.drop n) (m.drop n):=
 .of (by simp[h.len]) (fun k hk hk'=>by simp at hk hk';simpa using h.at (n+k) (by omega) (by omega))
theorem All2.set (h:All2 R l m) (n:Nat) {a:α} {b:β} (ha:R a b):All2 R (l.set n a) (m.set n b):=
 .of (by simp[h.len]) (fun k hk hk'=>by
  simp at hk hk'
  rw[List.getElem_set,List.getElem_set]
  split
  ·exact ha
  ·exact h.at k hk hk')
end
theorem RowOf.setAt {α:Type} {cf:α→List Value} {sz:Nat} {w:World} {base:Nat} {e:TypeId} {g n c:Nat} {l:List α} {y:α} {u:Value} (h:RowOf cf sz w base e (.slice (some ⟨g,0,none⟩) n c) l) (hc:∀x,(cf x).length=sz) (k j:Nat) (hk:k<l.length) (hj:j<sz) (he:(cf l[k]).set j u=cf y):
 RowOf cf sz (w.setCell ⟨g,k*sz+j,none⟩ u) base e (.slice (some ⟨g,0,none⟩) n c) (l.set k y):=by
 have hn:n=l.length:=(RowOf.atS h hc).1
 subst hn
 have h1:=(World.ownsRow.stored h (k*sz+j) u).1
 unfold RowOf
 rw[List.length_set]
 have e:(l.flatMap cf).set (k*sz+j) u=(l.set k y).flatMap cf:=by
  have hs:l.set k y=l.take k++y::l.drop (k+1):=by rw[List.set_eq_take_append_cons_drop,if_pos hk]
  have hl:l=l.take k++l[k]::l.drop (k+1):=by rw[←List.drop_eq_getElem_cons hk,List.take_append_drop]
  rw[hs]
  conv=>lhs;rw[hl]
  rw[List.flatMap_append,List.flatMap_append,List.flatMap_cons,List.flatMap_cons,←he]
  have hp:((l.take k).flatMap cf).length=k*sz:=by rw[flatMap_len hc,List.length_take,Nat.min_eq_left (by omega)]
  rw[List.set_append_right _ _ (by omega),hp,show k*sz+j-k*sz=j by omega,List.set_append_left _ _ (by rw[hc];exact hj)]
 rw[←e]
 exact h1
theorem RowOf.front {α:Type} {cf:α→List Value} {sz:Nat} {w:World} {base:Nat} {e:TypeId} {g n c:Nat} {l:List α} (h:RowOf cf sz w base e (.slice (some ⟨g,0,none⟩) n c) l) (hc:∀x,(cf x).length=sz) (k:Nat) (hk:k≤l.length):
 RowOf cf sz w base e (.slice (some ⟨g,0,none⟩) k c) (l.take k):=by
 have hlen:(l.take k).length=k:=by rw[List.length_take,Nat.min_eq_left hk]
 rcases h.2 with ⟨h2,h3⟩|⟨g',cap,cur,hv,hg,hh,h4,h5,h6,h7⟩
 ·cases h2
 ·cases hv
  refine⟨by rw[flatMap_len hc,hlen], .inr ⟨g,c,cur,by rw[hlen],hg,hh,by omega,h5,h6, ?_⟩⟩
  rw[hlen,show(l.take k).flatMap cf=(l.flatMap cf).take (k*sz)from ?_,←h7,List.take_take,Nat.min_eq_left (Nat.mul_le_mul_right _ hk)]
  have hl:l.flatMap cf=(l.take k).flatMap cf++(l.drop k).flatMap cf:=by rw[←List.flatMap_append,List.take_append_drop]
  rw[hl,List.take_left' (by rw[flatMap_len hc,hlen])]
structure Mv (S L L':List Nat) (w w':World):Prop where
 chg:Chg S w w'
 sub:∀y∈S,y∈L
 own:∀y∈L',y∈L∨w.heap.size≤y
theorem Mv.tr {S L L':List Nat} {w w':World} (h:Mv S L L' w w'):Tr L w L' w':=⟨h.chg.mono (fun x hx _=>h.sub x hx),h.own⟩
theorem Mv.same {S L:List Nat} {w w':World} (hc:Chg S w w') (hs:∀y∈S,y∈L):Mv S L L w w':=⟨hc,hs,fun _ h=> .inl h⟩
theorem Mv.none {L:List Nat} {w w':World} (hc:Chg [] w w'):Mv [] L L w w':=⟨hc,by simp,fun _ h=> .inl h⟩
structure Vp where
 a:Option Addr
 n:Nat
 c:Nat
def vpC (p:Vp):List Value:=[.slice p.a p.n p.c]
theorem vpC_len (p:Vp):(vpC p).length=1:=rfl
theorem vpC_one (p:Vp):∀u∈vpC p,u.oneCell'=true:=by intro u hu;simp[vpC]at hu;subst hu;rfl
theorem vpInfo:(Tryz.prog.info? 22).map (fun i=>(i.zero,i.size,i.bytes))=some (some (.slice none 0 0),1,24):=by kernel_rfl
abbrev Vl:=List Ce
structure VaIs (w:World) (L:List Nat) (p:Vp) (v:Vl):Prop where
 ins:InIs ceC 4 w p.a p.c v
 len:p.n=v.length
 off:∀ad,p.a=some ad→ad.block∉L∧ad.block<w.heap.size
 ty:∀ad,p.a=some ad→∃(D:Array Value) (fr:Nat×Nat),w.heap[ad.block]? =some (.cells D 63 fr)
theorem InIs.keptW {α:Type} {cf:α→List Value} {sz:Nat} {w w':World} {a:Option Addr} {c:Nat} {l:List α} {S:List Nat} (h:InIs cf sz w a c l) (hc:Chg S w w') (hn:∀ad,a=some ad→ad.block∉S):InIs cf sz w' a c l:=by
 refine⟨⟨h.1.1,fun k hk=> ?_⟩,h.2⟩
 obtain⟨b,off,rfl,h2,h3⟩:=h.1.2 k hk
 exact⟨b,off,rfl,hc.lt h2,fun j hj=>by rw[←h3 j hj];exact World.cell?_of_block (w:=w) (hc.block b h2 (hn _ rfl))⟩
variable {w w':World} {S L L':List Nat} {B b:Nat}
theorem VaIs.mv {p:Vp} {v:Vl} (h:VaIs w L p v) (m:Mv S L L' w w'):VaIs w' L' p v:=by
 refine⟨h.ins.keptW m.chg (fun ad ha hs=>(h.off ad ha).1 (m.sub _ hs)),h.len,fun ad ha=>⟨fun hm=> ?_,m.chg.lt (h.off ad ha).2⟩,fun ad ha=>by obtain⟨D,fr,e⟩:=h.ty ad ha;exact⟨D,fr,m.chg.at (fun hs=>(h.off ad ha).1 (m.sub _ hs)) e⟩⟩
 rcases m.own _ hm with e|e
 ·exact(h.off ad ha).1 e
 ·have:=(h.off ad ha).2;omega
theorem VaIs.sub {p:Vp} {v:Vl} (h:VaIs w L p v) (hs:∀y∈L',y∈L):VaIs w L' p v:=⟨h.ins,h.len,fun ad ha=>⟨fun hm=>(h.off ad ha).1 (hs _ hm),(h.off ad ha).2⟩,h.ty⟩
def RvIs (w:World) (B:Nat) (L:List Nat) (u:Value) (vs:List Vl):Prop:=∃ps:List Vp,RowOf vpC 1 w B 22 u ps∧All2 (VaIs w L) ps vs
theorem RvIs.mv {u:Value} {vs:List Vl} (h:RvIs w B L u vs) (m:Mv S L L' w w') (hu:∀g,u.ownBlock=some g→g∉S):RvIs w' B L' u vs:=by
 obtain⟨ps,h1,h2⟩:=h
 exact⟨ps,h1.kept m.chg hu,h2.mono (fun _ _ _ h=>h.mv m)⟩
structure PFr where
 fn:Int
 pc:Int
 lo:List Vl
 st:List Vl
structure Fr' where
 fn:Int
 pc:Int
 la:Option Addr
 ln:Nat
 lc:Nat
 sa:Option Addr
 sn:Nat
 sc:Nat
def Fr'.lv (f:Fr'):Value:= .slice f.la f.ln f.lc
def Fr'.sv (f:Fr'):Value:= .slice f.sa f.sn f.sc
def frC (f:Fr'):List Value:=[.int .i64 f.fn, .int .i64 f.pc, .slice f.la f.ln f.lc, .slice f.sa f.sn f.sc]
theorem frC_len (f:Fr'):(frC f).length=4:=rfl
theorem frC_one (f:Fr'):∀u∈frC f,u.oneCell'=true:=by intro u hu;simp[frC]at hu;rcases hu with rfl|rfl|rfl|rfl<;>rfl
theorem frInfo:(Tryz.prog.info? 251).map (fun i=>(i.zero,i.size,i.bytes))=some (some (.agg #[.int .i64 0, .int .i64 0, .slice none 0 0, .slice none 0 0]),4,64):=by kernel_rfl
def frB (f:Fr'):List Nat:=f.sv.ownBlock.toList++f.lv.ownBlock.toList
structure FrIs (w:World) (B:Nat) (L:List Nat) (f:Fr') (p:PFr):Prop where
 fn:f.fn=p.fn
 pc:f.pc=p.pc
 lo:RvIs w B L f.lv p.lo
 st:RvIs w B L f.sv p.st
theorem FrIs.mv {f:Fr'} {p:PFr} (h:FrIs w B L f p) (m:Mv S L L' w w') (hn:∀y∈frB f,y∉S):FrIs w' B L' f p:=
 ⟨h.fn,h.pc,h.lo.mv m (fun g hg=>hn g (by simp[frB,hg])),h.st.mv m (fun g hg=>hn g (by simp[frB,hg]))⟩
structure Rq' where
 op:ByteArray
 aa:Option Addr
 an:Nat
 ac:Nat
def Rq'.av (r:Rq'):Value:= .slice r.aa r.an r.ac
def rqC (r:Rq'):List Value:=[.string r.op, .slice r.aa r.an r.ac]
def rqB (r:Rq'):List Nat:=r.av.ownBlock.toList
structure RqIs (w:World) (B:Nat) (L:List Nat) (r:Rq') (p:ByteArray×List Vl):Prop where
 op:r.op=p.1
 args:RvIs w B L r.av p.2
theorem RqIs.mv {r:Rq'} {p:ByteArray×List Vl} (h:RqIs w B L r p) (m:Mv S L L' w w') (hn:∀y∈rqB r,y∉S):RqIs w' B L' r p:=
 ⟨h.op,h.args.mv m (fun g hg=>hn g (by simp[rqB,hg]))⟩
structure PMa where
 st:Int
 er:Int
 val:Vl
 fr:List PFr
 rq:List (ByteArray×List Vl)
 ls:Int
 lm:Int
 steps:Int
 peak:Int
def maB (b:Nat) (fv rv:Value) (F:List Fr') (R:List Rq'):List Nat:=F.flatMap frB++(b::(fv.ownBlock.toList++(rv.ownBlock.toList++R.flatMap rqB)))
structure MaAt (w:World) (B b:Nat) (L:List Nat) (cv iv fv rv:Value) (val:Vp) (F:List Fr') (R:List Rq') (M:PMa):Prop where
 blk:w.heap[b]? =some (.cells #[cv,iv, .int .i64 M.st, .int .i64 M.er, .slice val.a val.n val.c,fv,rv, .int .i64 M.ls, .int .i64 M.lm, .int .i64 M.steps, .int .i64 M.peak] 158 (0,0))
 val:VaIs w L val M.val
 frs:RowOf frC 4 w B 251 fv F.reverse
 fra:All2 (FrIs w B L) F M.fr
 rqs:RowOf rqC 2 w B 164 rv R
 rqa:All2 (RqIs w B L) R M.rq
 own:L=maB b fv rv F R
 nd:L.Nodup
 lo:B≤b
def MaIs (w:World) (B b:Nat) (L:List Nat) (cv iv:Value) (M:PMa):Prop:=∃fv rv val F R,MaAt w B b L cv iv fv rv val F R M
end
section
open Go.RowKit
variable {w w1 w':World} {S L L':List Nat} {B b fb n fc:Nat} {cv iv fv rv:Value} {val:Vp} {f f':Fr'} {Fr F:List Fr'} {R:List Rq'} {M:PMa} {pf:PFr} {pfs:List PFr}
theorem MaAt.kept (h:MaAt w B b L cv iv fv rv val F R M) (hc:Chg [] w w'):MaAt w' B b L cv iv fv rv val F R M:=
 ⟨hc.at (by simp) h.blk,h.val.mv (.none hc),h.frs.kept hc (by simp),h.fra.mono (fun _ _ _ k=>k.mv (.none hc) (by simp)),h.rqs.kept hc (by simp),h.rqa.mono (fun _ _ _ k=>k.mv (.none hc) (by simp)),h.own,h.nd,h.lo⟩
theorem MaIs.kept (h:MaIs w B b L cv iv M) (hc:Chg [] w w'):MaIs w' B b L cv iv M:=by
 obtain⟨_,_,_,_,_,h⟩:=h
 exact⟨_,_,_,_,_,h.kept hc⟩
theorem ownMem {v:Value} {g:Nat} (h:v.ownBlock=some g):g∈v.ownBlock.toList:=by simp[h]
theorem MaAt.rvLt (h:MaAt w B b L cv iv fv rv val F R M):∀y∈L,y<w.heap.size:=by
 intro y hy
 rw[h.own]at hy
 simp only[maB,List.mem_append,List.mem_cons,List.mem_flatMap,Option.mem_toList]at hy
 rcases hy with ⟨f,hf,hy⟩|rfl|hy|hy|⟨r,hr,hy⟩
 ·obtain⟨k,hk,rfl⟩:=List.getElem_of_mem hf
  have:=h.fra.at k hk (by rw[←h.fra.len];exact hk)
  simp only[frB,List.mem_append,Option.mem_toList]at hy
  rcases hy with hy|hy
  ·obtain⟨ps,h1, -⟩:=this.st
   exact(h1.block y hy).2
  ·obtain⟨ps,h1, -⟩:=this.lo
   exact(h1.block y hy).2
 ·exact lt_of_heap h.blk
 ·exact(h.frs.block y hy).2
 ·exact(h.rqs.block y hy).2
 ·obtain⟨k,hk,rfl⟩:=List.getElem_of_mem hr
  obtain⟨ps,h1, -⟩:=(h.rqa.at k hk (by rw[←h.rqa.len];exact hk)).args
  exact(h1.block y (by simpa[rqB]using hy)).2
theorem MaAt.ge (h:MaAt w B b L cv iv fv rv val F R M):∀y∈L,B≤y:=by
 intro y hy
 rw[h.own]at hy
 simp only[maB,List.mem_append,List.mem_cons,List.mem_flatMap,Option.mem_toList]at hy
 rcases hy with ⟨f,hf,hy⟩|rfl|hy|hy|⟨r,hr,hy⟩
 ·obtain⟨k,hk,rfl⟩:=List.getElem_of_mem hf
  have:=h.fra.at k hk (by rw[←h.fra.len];exact hk)
  simp only[frB,List.mem_append,Option.mem_toList]at hy
  rcases hy with hy|hy
  ·obtain⟨ps,h1, -⟩:=this.st
   exact(h1.block y hy).1
  ·obtain⟨ps,h1, -⟩:=this.lo
   exact(h1.block y hy).1
 ·exact h.lo
 ·exact(h.frs.block y hy).1
 ·exact(h.rqs.block y hy).1
 ·obtain⟨k,hk,rfl⟩:=List.getElem_of_mem hr
  obtain⟨ps,h1, -⟩:=(h.rqa.at k hk (by rw[←h.rqa.len];exact hk)).args
  exact(h1.block y (by simpa[rqB]using hy)).1
theorem MaIs.lt (h:MaIs w B b L cv iv M):∀y∈L,y<w.heap.size:=by
 obtain⟨_,_,_,_,_,h⟩:=h
 exact h.rvLt
theorem MaIs.ge (h:MaIs w B b L cv iv M):∀y∈L,B≤y:=by
 obtain⟨_,_,_,_,_,h⟩:=h
 exact h.ge
theorem MaAt.shape (h:MaAt w B b L cv iv fv rv val (f::Fr) R M):∃fb fc,fv= .slice (some ⟨fb,0,none⟩) (Fr.length+1) fc:=by
 rcases h.frs.at frC_len with ⟨-,e⟩|⟨g,c,e, -⟩
 ·simp at e
 ·exact⟨g,c,by rw[e];simp⟩
theorem MaAt.fr1 (h:MaAt w B b L cv iv fv rv val (f::Fr) R M):∃pf pfs,M.fr=pf::pfs∧FrIs w B L f pf∧All2 (FrIs w B L) Fr pfs:=by
 have h1:=h.fra
 cases e:M.fr with
 |nil=>rw[e]at h1;exact h1.elim
 |cons pf pfs=>rw[e]at h1;exact⟨pf,pfs,rfl,h1.1,h1.2⟩
theorem MaAt.fr2 (h:MaAt w B b L cv iv fv rv val F R M) (hM:M.fr=pf::pfs):∃f Fr,F=f::Fr:=by
 have h1:=h.fra
 rw[hM]at h1
 cases F with
 |nil=>exact h1.elim
 |cons f Fr=>exact⟨f,Fr,rfl⟩
theorem MaAt.cells (h:MaAt w B b L cv iv (.slice (some ⟨fb,0,none⟩) n fc) rv val (f::Fr) R M):n=Fr.length+1∧(∀w2:World,w2.heap[fb]? =w.heap[fb]?→w2.cell? ⟨fb,Fr.length*4,none⟩=some (.int .i64 f.fn)∧w2.cell? ⟨fb,Fr.length*4+1,none⟩=some (.int .i64 f.pc)∧w2.cell? ⟨fb,Fr.length*4+2,none⟩=some (.slice f.la f.ln f.lc)∧w2.cell? ⟨fb,Fr.length*4+3,none⟩=some (.slice f.sa f.sn f.sc)∧(∀i,w2.frozen? ⟨fb,i,none⟩=false))∧fb<w.heap.size:=by
 rcases h.frs.2 with ⟨e, -⟩|⟨g,cap,cur,hv,hg,hh,h4,h5,h6,h7⟩
 ·cases e
 cases hv
 have hl:((f::Fr).reverse).length=Fr.length+1:=by simp
 refine⟨hl,fun w2 hw=> ?_,lt_of_heap hh⟩
 have hh2:=hw.trans hh
 have hr:RowOf frC 4 w2 B 251 (.slice (some ⟨fb,0,none⟩) ((f::Fr).reverse).length fc) (f::Fr).reverse:=⟨h.frs.1, .inr ⟨fb,fc,cur,rfl,hg,hh2,h4,h5,h6,h7⟩⟩
 obtain⟨-, -, -,hc,hf, -⟩:=RowOf.atS hr frC_len
 have hk:Fr.length<((f::Fr).reverse).length:=by rw[hl];omega
 have he:((f::Fr).reverse)[Fr.length]=f:=by simp
 have c0:=hc Fr.length hk 0 (by omega)
 have c1:=hc Fr.length hk 1 (by omega)
 have c2:=hc Fr.length hk 2 (by omega)
 have c3:=hc Fr.length hk 3 (by omega)
 rw[he]at c0 c1 c2 c3
 exact⟨c0,c1,c2,c3,hf⟩
theorem MaAt.nd1 (h:MaAt w B b L cv iv fv rv val (f::Fr) R M):(f.sv.ownBlock.toList++(f.lv.ownBlock.toList++(Fr.flatMap frB++(b::(fv.ownBlock.toList++(rv.ownBlock.toList++R.flatMap rqB)))))).Nodup∧L=f.sv.ownBlock.toList++(f.lv.ownBlock.toList++(Fr.flatMap frB++(b::(fv.ownBlock.toList++(rv.ownBlock.toList++R.flatMap rqB))))):=by
 have h1:=h.nd
 have h2:=h.own
 simp only[maB,frB,List.flatMap_cons,List.append_assoc]at h2
 rw[h2]at h1
 exact⟨h1,h2⟩
theorem MaAt.rest (h:MaAt w B b L cv iv fv rv val (f::Fr) R M) (hM:M.fr=pf::pfs) (m:Mv S L L' w w') (hS:∀y∈S,y∉Fr.flatMap frB∧y∉rv.ownBlock.toList∧y∉R.flatMap rqB):
 VaIs w' L' val M.val∧All2 (FrIs w' B L') Fr pfs∧RowOf rqC 2 w' B 164 rv R∧All2 (RqIs w' B L') R M.rq:=by
 obtain⟨pf',pfs',e, -,h2⟩:=h.fr1
 rw[hM]at e
 cases e
 exact⟨h.val.mv m,h2.mono (fun a _ ha k=>k.mv m (fun y hy hs=>(hS y hs).1 (List.mem_flatMap.2 ⟨a,ha,hy⟩))),h.rqs.kept m.chg (fun g hg hs=>(hS g hs).2.1 (ownMem hg)),h.rqa.mono (fun a _ ha k=>k.mv m (fun y hy hs=>(hS y hs).2.2 (List.mem_flatMap.2 ⟨a,ha,hy⟩)))⟩
theorem toList_nodup (o:Option Nat):o.toList.Nodup:=by cases o<;>simp
theorem MaAt.newStack (h:MaAt w B b L cv iv (.slice (some ⟨fb,0,none⟩) n fc) rv val (f::Fr) R M) (hM:M.fr=pf::pfs) {vs':List Vl} (hf:f'.fn=f.fn∧f'.pc=f.pc∧f'.lv=f.lv) (hc:Chg f.sv.ownBlock.toList w w1)
 {ps':List Vp} (hr:RowOf vpC 1 w1 B 22 f'.sv ps') (hv:All2 (VaIs w L) ps' vs') (ho:∀g,f'.sv.ownBlock=some g→f.sv.ownBlock=some g∨w.heap.size≤g):
 ∃L',MaAt (w1.setCell ⟨fb,Fr.length*4+3,none⟩ f'.sv) B b L' cv iv (.slice (some ⟨fb,0,none⟩) n fc) rv val (f'::Fr) R {M with fr:={pf with st:=vs'}::pfs}∧Tr L w L' (w1.setCell ⟨fb,Fr.length*4+3,none⟩ f'.sv):=by
 obtain⟨nd,eL⟩:=h.nd1
 have hlt:=h.rvLt
 obtain⟨pf',pfs',e,ht,hrest⟩:=h.fr1
 rw[hM]at e
 cases e
 have hc9:Chg [fb] w1 (w1.setCell ⟨fb,Fr.length*4+3,none⟩ f'.sv):=(Chg.refl _ _).setCell _ _ (fun _=>by simp)
 have hC:Chg (fb::f.sv.ownBlock.toList) w (w1.setCell ⟨fb,Fr.length*4+3,none⟩ f'.sv):=hc.trans hc9 (fun y hy _=>List.mem_cons_of_mem _ hy) (fun y hy _=>by simp at hy;simp[hy])
 have hfb:(Value.slice (some ⟨fb,0,none⟩) n fc).ownBlock.toList=[fb]:=by simp[Value.ownBlock]
 rw[hfb]at nd eL
 have hmv:Mv (fb::f.sv.ownBlock.toList) L (f'.sv.ownBlock.toList++(f.lv.ownBlock.toList++(Fr.flatMap frB++(b::([fb]++(rv.ownBlock.toList++R.flatMap rqB)))))) w (w1.setCell ⟨fb,Fr.length*4+3,none⟩ f'.sv):=by
  refine⟨hC, ?_, ?_⟩
  ·intro y hy;rw[eL];grind
  ·intro y hy
   rw[eL]
   rcases List.mem_append.1 hy with hy|hy
   ·rcases ho y (by simpa using hy)with e|e
    ·exact .inl (List.mem_append_left _ (ownMem e))
    ·exact .inr e
   ·exact .inl (List.mem_append_right _ hy)
 have hS:∀y∈fb::f.sv.ownBlock.toList,y∉Fr.flatMap frB∧y∉rv.ownBlock.toList∧y∉R.flatMap rqB∧y∉f.lv.ownBlock.toList∧y≠b:=by
  intro y hy;grind [List.nodup_append,List.nodup_cons]
 have hfs:fb∉f.sv.ownBlock.toList:=by grind [List.nodup_append,List.nodup_cons]
 have hfs':∀g,f'.sv.ownBlock=some g→g≠fb:=by
  intro g hg e
  subst e
  rcases ho g hg with e|e
  ·exact hfs (ownMem e)
  ·have:=hlt g (by rw[eL];simp);omega
 obtain⟨r1,r2,r3,r4⟩:=h.rest hM hmv (fun y hy=>⟨(hS y hy).1,(hS y hy).2.1,(hS y hy).2.2.1⟩)
 refine⟨_,⟨hC.at (fun hb=>(hS b hb).2.2.2.2 rfl) h.blk,r1, ?_,⟨⟨hf.1.trans ht.fn,hf.2.1.trans ht.pc, ?_,⟨ps',hr.kept hc9 (fun g hg hs=>hfs' g hg (by simpa using hs)),hv.mono (fun _ _ _ k=>k.mv hmv)⟩⟩,r2⟩,r3,r4, ?_, ?_,h.lo⟩,hmv.tr⟩
 ·have h9:=(h.frs.kept hc (fun g hg hs=>by simp[Value.ownBlock]at hg;subst hg;exact hfs hs)).setAt (y:=f') (u:=f'.sv) frC_len Fr.length 3 (by simp) (by omega) (by
   have he:((f::Fr).reverse)[Fr.length]'(by simp)=f:=by simp
   have h2:f'.lv=f.lv:=hf.2.2
   unfold Fr'.lv at h2
   cases h2':f'
   rw[h2']at h2 hf
   cases f
   simp only[Value.slice.injEq]at h2
   obtain⟨rfl,rfl,rfl⟩:=h2
   obtain⟨e1,e2, -⟩:=hf
   simp only at e1 e2
   subst e1 e2
   rw[he]
   rfl)
  have e2:((f::Fr).reverse).set Fr.length f'=(f'::Fr).reverse:=by
   simp only[List.reverse_cons]
   rw[List.set_append_right _ _ (by simp)]
   simp
  rw[e2]at h9
  exact h9
 ·rw[hf.2.2]
  exact ht.lo.mv hmv (fun g hg hs=>(hS g hs).2.2.2.1 (ownMem hg))
 ·simp only[maB,frB,List.flatMap_cons,List.append_assoc,hfb,hf.2.2]
 ·have k1:=toList_nodup f'.sv.ownBlock
  have k2:∀y∈f'.sv.ownBlock.toList,y∈f.sv.ownBlock.toList∨w.heap.size≤y:=fun y hy=>by
   rcases ho y (by simpa using hy)with e|e
   ·exact .inl (ownMem e)
   ·exact .inr e
  have k3:∀y∈(f.lv.ownBlock.toList++(Fr.flatMap frB++(b::([fb]++(rv.ownBlock.toList++R.flatMap rqB))))),y<w.heap.size:=fun y hy=>hlt y (by rw[eL];exact List.mem_append_right _ hy)
  revert nd k1 k2 k3
  generalize (f.lv.ownBlock.toList++(Fr.flatMap frB++(b::([fb]++(rv.ownBlock.toList++R.flatMap rqB)))))=T
  generalize f.sv.ownBlock.toList=A
  generalize f'.sv.ownBlock.toList=A'
  intro nd k1 k2 k3
  refine List.nodup_append.2 ⟨k1,(List.nodup_append.1 nd).2.1,fun x hx y hy e=> ?_⟩
  subst e
  rcases k2 x hx with e|e
  ·exact(List.nodup_append.1 nd).2.2 x e x hy rfl
  ·have:=k3 x hy;omega
end
section
open Go.RowKit
variable {w w1 w':World} {S L L':List Nat} {B b fb n fc:Nat} {cv iv fv rv:Value} {val val':Vp} {f f':Fr'} {Fr F:List Fr'} {R:List Rq'} {M M':PMa} {pf:PFr} {pfs:List PFr}
theorem MaAt.setPc (h:MaAt w B b L cv iv (.slice (some ⟨fb,0,none⟩) n fc) rv val (f::Fr) R M) (hM:M.fr=pf::pfs) (k:Int):
 MaAt (w.setCell ⟨fb,Fr.length*4+1,none⟩ (.int .i64 k)) B b L cv iv (.slice (some ⟨fb,0,none⟩) n fc) rv val ({f with pc:=k}::Fr) R {M with fr:={pf with pc:=k}::pfs}∧Tr L w L (w.setCell ⟨fb,Fr.length*4+1,none⟩ (.int .i64 k)):=by
 obtain⟨nd,eL⟩:=h.nd1
 obtain⟨pf',pfs',e,ht,hrest⟩:=h.fr1
 rw[hM]at e
 cases e
 have hC:Chg [fb] w (w.setCell ⟨fb,Fr.length*4+1,none⟩ (.int .i64 k)):=(Chg.refl _ _).setCell _ _ (fun _=>by simp)
 have hfb:(Value.slice (some ⟨fb,0,none⟩) n fc).ownBlock.toList=[fb]:=by simp[Value.ownBlock]
 rw[hfb]at nd eL
 have hmv:Mv [fb] L L w (w.setCell ⟨fb,Fr.length*4+1,none⟩ (.int .i64 k)):= .same hC (by intro y hy;rw[eL];simp at hy;simp[hy])
 have hS:∀y∈[fb],y∉Fr.flatMap frB∧y∉rv.ownBlock.toList∧y∉R.flatMap rqB∧y∉f.lv.ownBlock.toList∧y≠b∧y∉f.sv.ownBlock.toList:=by
  intro y hy;grind [List.nodup_append,List.nodup_cons]
 obtain⟨r1,r2,r3,r4⟩:=h.rest hM hmv (fun y hy=>⟨(hS y hy).1,(hS y hy).2.1,(hS y hy).2.2.1⟩)
 refine⟨⟨hC.at (fun hb=>(hS b hb).2.2.2.2.1 rfl) h.blk,r1, ?_,⟨⟨ht.fn,rfl,ht.lo.mv hmv (fun g hg hs=>(hS g hs).2.2.2.1 (ownMem hg)),ht.st.mv hmv (fun g hg hs=>(hS g hs).2.2.2.2.2 (ownMem hg))⟩,r2⟩,r3,r4,h.own,h.nd,h.lo⟩,hmv.tr⟩
 have he:((f::Fr).reverse)[Fr.length]'(by simp)=f:=by simp
 have h9:=h.frs.setAt (y:={f with pc:=k}) (u:= .int .i64 k) frC_len Fr.length 1 (by simp) (by omega) (by rw[he];rfl)
 have e2:((f::Fr).reverse).set Fr.length {f with pc:=k}=({f with pc:=k}::Fr).reverse:=by
  simp only[List.reverse_cons]
  rw[List.set_append_right _ _ (by simp)]
  simp
 rw[e2]at h9
 exact h9
theorem MaAt.setB (h:MaAt w B b L cv iv fv rv val F R M) (hc:Chg [b] w w') (hb:w'.heap[b]? =some (.cells #[cv,iv, .int .i64 M'.st, .int .i64 M'.er, .slice val'.a val'.n val'.c,fv,rv, .int .i64 M'.ls, .int .i64 M'.lm, .int .i64 M'.steps, .int .i64 M'.peak] 158 (0,0)))
 (hv:VaIs w L val' M'.val) (hf:M'.fr=M.fr) (hr:M'.rq=M.rq):MaAt w' B b L cv iv fv rv val' F R M'∧Tr L w L w':=by
 have nd:=h.nd
 rw[h.own,maB]at nd
 have hbL:b∈L:=by rw[h.own,maB];simp
 have hmv:Mv [b] L L w w':= .same hc (by intro y hy;simp at hy;subst hy;exact hbL)
 have q1:b∉F.flatMap frB∧b∉fv.ownBlock.toList∧b∉rv.ownBlock.toList∧b∉R.flatMap rqB:=by grind [List.nodup_append,List.nodup_cons]
 refine⟨⟨hb,hv.mv hmv,h.frs.kept hc (fun g hg hs=>by simp at hs;subst hs;exact q1.2.1 (ownMem hg)), ?_,h.rqs.kept hc (fun g hg hs=>by simp at hs;subst hs;exact q1.2.2.1 (ownMem hg)), ?_,h.own,h.nd,h.lo⟩,hmv.tr⟩
 ·rw[hf]
  exact h.fra.mono (fun a _ ha k=>k.mv hmv (fun y hy hs=>by simp at hs;subst hs;exact q1.1 (List.mem_flatMap.2 ⟨a,ha,hy⟩)))
 ·rw[hr]
  exact h.rqa.mono (fun a _ ha k=>k.mv hmv (fun y hy hs=>by simp at hs;subst hs;exact q1.2.2.2 (List.mem_flatMap.2 ⟨a,ha,hy⟩)))
theorem MaAt.noFr (h:MaAt w B b L cv iv fv rv val F R M) (hc:Chg [b] w w') (hb:w'.heap[b]? =some (.cells #[cv,iv, .int .i64 M'.st, .int .i64 M'.er, .slice val'.a val'.n val'.c, .slice none 0 0,rv, .int .i64 M'.ls, .int .i64 M'.lm, .int .i64 M'.steps, .int .i64 M'.peak] 158 (0,0)))
 (hv:VaIs w L val' M'.val) (hf:M'.fr=[]) (hr:M'.rq=M.rq):∃L',MaAt w' B b L' cv iv (.slice none 0 0) rv val' [] R M'∧Tr L w L' w':=by
 have nd:=h.nd
 rw[h.own,maB]at nd
 have hbL:b∈L:=by rw[h.own,maB];simp
 have ema:maB b (.slice none 0 0) rv [] R=b::(rv.ownBlock.toList++R.flatMap rqB):=rfl
 have hmv:Mv [b] L (maB b (.slice none 0 0) rv [] R) w w':=by
  refine⟨hc,by intro y hy;simp at hy;subst hy;exact hbL,fun y hy=> .inl ?_⟩
  rw[h.own]
  rw[ema]at hy
  simp only[maB]
  grind
 have q1:b∉rv.ownBlock.toList∧b∉R.flatMap rqB:=by grind [List.nodup_append,List.nodup_cons]
 refine⟨_,⟨hb,hv.mv hmv,RowOf.nil _ _ _,by rw[hf];trivial,h.rqs.kept hc (fun g hg hs=>by simp at hs;subst hs;exact q1.1 (ownMem hg)), ?_,rfl, ?_,h.lo⟩,hmv.tr⟩
 ·rw[hr]
  exact h.rqa.mono (fun a _ ha k=>k.mv hmv (fun y hy hs=>by simp at hs;subst hs;exact q1.2 (List.mem_flatMap.2 ⟨a,ha,hy⟩)))
 ·rw[ema]
  revert nd
  generalize F.flatMap frB=X1
  generalize rv.ownBlock.toList=X2
  generalize fv.ownBlock.toList=X3
  generalize R.flatMap rqB=X4
  intro nd
  grind [List.nodup_append,List.nodup_cons]
theorem nd_offs {A C D T:List Nat} {b fb:Nat} (nd:(A++(C++(D++(b::([fb]++T))))).Nodup):fb∉A∧fb∉C∧b∉A∧b∉C∧b≠fb∧(∀y∈A,y∉C)∧(∀y∈C,y∉D∧y∉T):=by
 grind [List.nodup_append,List.nodup_cons]
theorem MaAt.offs (h:MaAt w B b L cv iv (.slice (some ⟨fb,0,none⟩) n fc) rv val (f::Fr) R M):fb∉f.sv.ownBlock.toList∧fb∉f.lv.ownBlock.toList∧b∉f.sv.ownBlock.toList∧b∉f.lv.ownBlock.toList∧b≠fb∧(∀y∈f.sv.ownBlock.toList,y∉f.lv.ownBlock.toList)∧(∀y∈f.lv.ownBlock.toList,y∉Fr.flatMap frB∧y∉rv.ownBlock.toList++R.flatMap rqB):=
 nd_offs h.nd1.1
theorem VaIs.nil {L:List Nat}:VaIs w L ⟨none,0,0⟩ []:=⟨⟨⟨rfl,fun k hk=>by simp at hk⟩,Nat.le_refl _,Nat.zero_le _,fun _=>rfl⟩,rfl,(fun _ h=>by cases h),fun _ h=>by cases h⟩
end
section
open Go.RowKit
theorem wpl_appendsB {P:Program} {α:Type} {cf:α→List Value} {sz:Nat} {w:World} {ops:Array Oper} {rest:List Oper} {o:Oper} {a:Act} {Q:Exit→Act→World→Prop} (hgd:o.guard=none) (s x:Operand) (t:TypeId)
 (ho:o.op= .call {callee:= .builtin .append,args:= #[s,x],argTypes:= #[t,t]}) (base:Nat) (e:TypeId) (z:Value) (bytes:Nat) (ht:P.underlying t=some (.slice e)) (hi:(P.info? e).map (fun i=>(i.zero,i.size,i.bytes))=some (some z,sz,bytes))
 (hzs:z.cells.size=sz) (hsz:0<sz) (hc:∀x,(cf x).length=sz) (h1:∀x,∀u∈cf x,u.oneCell'=true) (v:Value) (l:List α) (hs:a.eval s=v) (hown:RowOf cf sz w base e v l)
 (g c m:Nat) (ys:List α) (cur:Array Value) (tt:TypeId) (fr:Nat×Nat) (hx:a.eval x= .slice (some ⟨g,0,none⟩) m c) (hnew:w.heap[g]? =some (.cells cur tt fr)) (hcur:cur.toList=ys.flatMap cf) (hm:ys.length=m) (hpos:0<m) (h63:l.length+m≤maxLen) (hbytes:(l.length+m)*bytes≤140737488355328) (hbase:base≤w.heap.size)
 (h:∀g' cap w',RowOf cf sz w' base e (.slice (some ⟨g',0,none⟩) (l.length+m) cap) (l++ys)→w.grownBy w' v.ownBlock→(v.ownBlock=some g'∨g'=w.heap.size)→g'<w'.heap.size→wpList P ops Q rest (a.put o.dst (.slice (some ⟨g',0,none⟩) (l.length+m) cap)) w'):
 wpList P ops Q (o::rest) a w:=by
 obtain⟨i,hi0,hz0,hz1,hz2⟩:=info_parts hi
 refine wpList_append_lies w hgd s x t ho base e i z sz bytes ht hi0 hz0 hz1 hz2 hzs hsz v l.length (l.flatMap cf) hs hown ⟨g,0,none⟩ m c (ys.flatMap cf) hx (by rw[flatMap_len hc,hm]) ?_ ?_ hpos h63 hbytes hbase w.heap.size rfl ?_
 ·intro j u hj
  have:(⟨g,0,none⟩:Addr).add j=⟨g,j,none⟩:=by
   unfold Addr.add;split
   ·rename_i e;rw[e]
   ·simp
  rw[this,blk_cell hnew,←Array.getElem?_toList,hcur];exact hj
 ·intro u hu
  obtain⟨y,_,hy⟩:=List.mem_flatMap.1 hu
  exact h1 y u hy
 ·intro g' cap w' hown' hg hat hlt
  exact h g' cap w' (by unfold RowOf;simpa[hm]using hown') hg hat hlt
end
section
open Go.RowKit
theorem wpl_slice_hR {P:Program} {α:Type} {cf:α→List Value} {sz:Nat} {w:World} {ops:Array Oper} {rest:List Oper} {o:Oper} {a:Act} {Q:Exit→Act→World→Prop} (hgd:o.guard=none) (s h:Operand) (t:TypeId) (ho:o.op=Op.slice t s none (some h) none) (ht:P.underlying t=some (.slice (P.elem t)))
 (hsz:(sizeOf (P.elem t)).run P w= .ok sz w) (base:Nat) (e:TypeId) (v:Value) (l:List α) (m:Nat) (hs:a.eval s=v) (hrow:RowOf cf sz w base e v l) (hc:∀x,(cf x).length=sz) (hh:a.eval h= .int .i64 (m:Int)) (hm:m≤l.length)
 (hK:∀v',RowOf cf sz w base e v' (l.take m)→v'.ownBlock=v.ownBlock→wpList P ops Q rest (a.put o.dst v') w):wpList P ops Q (o::rest) a w:=by
 rcases RowOf.at hrow hc with ⟨rfl,rfl⟩|⟨g,c,rfl,h2,h3, -, -,h4,h5⟩
 ·have hm0:m=0:=by simpa using hm
  refine wpList_plain hgd fun K' hK'=> ?_
  have hrun:=run_slice_h (P:=P) (w:=w) t none 0 0 ht .i64 (m:Int) (by omega) (by omega)
  rw[hsz]at hrun
  simp only[Result.andThen,sliced,Int.toNat_natCast,Nat.sub_zero,Nat.zero_mul,Option.map_none,ite_self]at hrun
  rw[←run_sliceAt_slice (P:=P) (h:=ht)]at hrun
  unfold Oper.wp
  simp[execOp,ho,hs,hh,hrun,Result.andThen]
  refine hK' _ _ (hK _ ?_ rfl)
  rw[hm0]
  simpa using RowOf.nil w base e
 ·exact wpl_slice_h hgd s h t ho ht hsz g 0 l.length c m hs hh (by omega) (hK _ (hrow.front hc m hm) rfl)
variable {w w1 w':World} {S L L':List Nat} {B b fb n fc:Nat} {cv iv fv rv:Value} {val val':Vp} {f f':Fr'} {Fr F:List Fr'} {R:List Rq'} {M M':PMa} {pf:PFr} {pfs:List PFr}
theorem mframe_any (h:MaAt w B b L cv iv (.slice (some ⟨fb,0,none⟩) n fc) rv val (f::Fr) R M):Calls Tryz.prog 188 #[.pointer (some ⟨b,0,none⟩)] w fun e w'=>e= .returned (.pointer (some ⟨fb,Fr.length*4,none⟩))∧Chg [] w w':=by
 have kb:=blk_cell h.blk
 have lb:=lt_of_heap h.blk
 obtain⟨rfl, -,lf⟩:=h.cells
 have hm:Fr.length+1≤maxLen:=by
  obtain⟨-,h1,h2, -⟩:=RowOf.atS h.frs frC_len
  simp at h1
  omega
 unfold maxLen at hm
 have hw:IntKind.i64.wrap (((Fr.length+1:Nat):Int)-1)=(Fr.length:Int):=by
  rw[IntKind.wrap_i64];omega
 have h0:(0:Int)≤(Fr.length:Int):=by omega
 have h1:(Fr.length:Int)<((Fr.length+1:Nat):Int):=by omega
 clear h
 go_enter Tryz.func188,Tryz.ntmps188
 go_wp2_with fail
 go_quiet (fail)
 go_wp2_with fail
 go_ret
 exact⟨rfl,(Chg.refl _ _).drewN _⟩
theorem mpush_any (h:MaIs w B b L cv iv M) (hM:M.fr=pf::pfs) {p:Vp} {v:Vl} (hv:VaIs w L p v) (hl:pf.st.length≤1048576):
 Calls Tryz.prog 102 #[.pointer (some ⟨b,0,none⟩), .slice p.a p.n p.c] w fun e w'=>e= .returned (.tuple #[])∧∃L',MaIs w' B b L' cv iv {M with fr:={pf with st:=pf.st++[v]}::pfs}∧Tr L w L' w':=by
 obtain⟨fv,rv,val,F,R,h⟩:=h
 obtain⟨f,Fr,rfl⟩:=h.fr2 hM
 obtain⟨fb,fc,rfl⟩:=h.shape
 obtain⟨pf',pfs',e,ht, -⟩:=h.fr1
 rw[hM]at e
 cases e
 obtain⟨ps,hrow,hall⟩:=ht.st
 have hps:ps.length≤1048576:=by rw[hall.len];exact hl
 have H:=LH h
 have HV:=LH hv
 have HMM:=LH hM
 have HA:=LH hall
 have HR:=LH (show RowOf vpC 1 w B 22 (.slice f.sa f.sn f.sc) ps from hrow)
 have A:=LH (mframe_any h)
 obtain⟨-,hcells,lf⟩:=h.cells
 have HC:=LH hcells
 have B0:=h.lo
 have QB:=lt_of_heap h.blk
 have QF:=h.offs.1
 unfold Fr'.sv at QF
 have HLM:ps.length+1≤maxLen∧(ps.length+1)*24≤140737488355328:=⟨by unfold maxLen;omega,by omega⟩
 have HLM:=LH HLM
 rename_i HLM0
 clear h hv hcells ht hall hrow hM hl hps HLM0
 go_enter Tryz.func102,Tryz.ntmps102
 go_wp2_with (first
  |(go_at_call 188;(with_reducible refine Calls.mono A.out ?_);rintro e w2 ⟨rfl,hc2⟩;have C2:=LH hc2;obtain⟨-, -, -,c3, -⟩:=HC.out w2 (hc2.block _ lf (by simp));have l2:=hc2.lt lf;have S2:=hc2.size;clear hc2)
  |(at_builtin;go_loud (refine wpl_appendsB rfl _ _ 65 rfl B 22 _ 24 Tryz.underlying65 vpInfo rfl (by decide) vpC_len vpC_one (.slice f.sa f.sn f.sc) ps rfl (RowOf.kept HR.out (C2.out.alloc _) (by simp)) _ 1 1 [p] _ _ _ rfl (heap_alloc_new _ _) rfl rfl (by omega) HLM.out.1 HLM.out.2 (by simp;omega) ?_;intro g4 c4 w4 hr4 hg4 ho4 hl4;have R4:=LH hr4;have G4:=LH (Chg.ofRow hg4);have O4:=LH ho4;obtain⟨-, -, -,c4s,f4⟩:=HC.out w4 (((Chg.ofRow hg4).block _ (by simp;omega) QF).trans ((C2.out.alloc _).block _ lf (by simp)));have l4:=(Chg.ofRow hg4).size;clear hr4 hg4 ho4)))
 go_end0
 obtain⟨L',h9,t9⟩:=(H.out.kept (C2.out.alloc _)).newStack HMM.out (f':={f with sa:=some ⟨g4,0,none⟩,sn:=ps.length+1,sc:=c4}) ⟨rfl,rfl,rfl⟩ G4.out R4.out (All2.app (HA.out.mono (fun _ _ _ k=>k.mv (.none (C2.out.alloc _)))) (show All2 _ [p] [v]from⟨HV.out.mv (.none (C2.out.alloc _)),trivial⟩)) (fun g hg=>by
  simp only[Fr'.sv,Value.ownBlock,Option.some.injEq,↓reduceIte]at hg
  subst hg
  rcases O4.out with e|e
  ·exact .inl e
  ·exact .inr (by omega))
 exact⟨rfl,L',⟨_,_,_,_,_,h9⟩,(Tr.refl L w).same (C2.out.alloc _)|>.trans t9⟩
end
end Go.Proofs.YtmofknmeljdodaaGreatDoor
