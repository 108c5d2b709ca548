/- Chapter 53: contract of the reference: Amount. No condition but those that the statements name. -/
import Derived.Lib.SlicesS
import Derived.Test.YtmofknmeljdodaaGreatDoorZB11
import Derived.Test.YtmofknmeljdodaaGreatDoorZB12
import Derived.Test.YtmofknmeljdodaaGreatDoorZB18
import Derived.Test.YtmofknmeljdodaaGreatDoorZB20
import Derived.Test.YtmofknmeljdodaaGreatDoorZB10
import Derived.Test.YtmofknmeljdodaaGreatDoorZB17
import Derived.Test.YtmofknmeljdodaaGreatDoorZB19
import Derived.Test.YtmofknmeljdodaaGreatDoorZS01
set_option maxHeartbeats 100000000
set_option maxRecDepth 100000
set_option linter.unusedVariables false
set_option linter.unusedSimpArgs false
open List renaming getElem_toArray→gTA,getElem_cons_zero→gCZ,getElem_cons_succ→gCS,setIfInBounds_toArray→sTA,set_cons_zero→sCZ,set_cons_succ→sCS
namespace Go.Proofs.YtmofknmeljdodaaGreatDoor
section
open Go.RowKit
structure RamI (w wr:World) (p:Prc) (a:Option Addr) (cap:Nat) (b2:Int) (g co:Nat):Prop where
 row:RowOf icI 1 wr w.heap.size 3 (.slice (some ⟨g,0,none⟩) p.ts.length co) (partsL p.ts b2)
 pr:wr.heap[w.heap.size]? =some (prO p a cap)
 chg:Chg [] w wr
theorem RamI.next {w wr w':World} {p:Prc} {a:Option Addr} {cap:Nat} {b2:Int} {g co:Nat} (h:RamI w wr p a cap b2 g co) (hc:Chg [] wr w'):RamI w w' p a cap b2 g co:=⟨h.row.kept hc (by simp),hc.at (by simp) h.pr,h.chg.thenSame hc⟩
end
section
open Go.RowKit
def fB (f:List UInt8):ByteArray:=⟨f.toArray⟩
def ln0 (s:Led) (tn:ByteArray) (per:Int) (f:List UInt8):Ln:=⟨fB f,(byU s tn (fB f) per).1,0⟩
def mkErr (s:Led) (tn:ByteArray) (per:Int) (f:List UInt8):Int:=(byU s tn (fB f) per).2.2
def mkLs (s:Led) (tn:ByteArray) (per:Int):List Ln:=(fnsU s tn per).map (ln0 s tn per)
def mkW (s:Led) (tn:ByteArray) (per:Int):List Int:=(fnsU s tn per).map fun f=>(byU s tn (fB f) per).1.units
def setMi (ls:List Ln) (sh:List Int):List Ln:=(List.range ls.length).map fun k=>{(ls.getD k ⟨⟨#[]⟩,⟨0,0,0,0⟩,0⟩)with mi:=sh.getD k 0}
def mkG (s:Led) (p:Prc) (tn:ByteArray) (per:Int):Int×Int:=amtZ p (totU s tn per).1
def makeZ (s:Led) (p:Prc) (tn:ByteArray) (per:Int) (O:List Int):Inv×Int:=
 if(totU s tn per).2≠0 then(inv0,(totU s tn per).2)
 else if(mkG s p tn per).2≠0 then(inv0,(mkG s p tn per).2)
 else if errs ((fnsU s tn per).map (mkErr s tn per))≠0 then(inv0,errs ((fnsU s tn per).map (mkErr s tn per)))
 else if(weighZ (mkG s p tn per).1 (mkW s tn per)).2≠0 then(inv0,(weighZ (mkG s p tn per).1 (mkW s tn per)).2)
 else(⟨tn,per,setMi (mkLs s tn per) (shares (mkG s p tn per).1 (mkW s tn per) O),(mkG s p tn per).1,0,(mkG s p tn per).1⟩,0)
theorem setMi_len (ls:List Ln) (sh:List Int):(setMi ls sh).length=ls.length:=by simp[setMi]
theorem setMi_at {ls:List Ln} {sh:List Int} {k:Nat} {x:Ln} {m:Int} (h:ls[k]? =some x) (hm:sh[k]? =some m):(setMi ls sh)[k]? =some {x with mi:=m}:=by
 obtain⟨hk,e⟩:=List.getElem?_eq_some_iff.1 h
 unfold setMi
 rw[List.getElem?_map,List.getElem?_range hk]
 simp[List.getD_eq_getElem?_getD,h,hm]
theorem setMi_step {ls:List Ln} {sh:List Int} {k:Nat} {x:Ln} {m:Int} (h:ls[k]? =some x) (hm:sh[k]? =some m):((setMi ls sh).take k++ls.drop k).set k {x with mi:=m}=(setMi ls sh).take (k+1)++ls.drop (k+1):=by
 obtain⟨hk,e⟩:=List.getElem?_eq_some_iff.1 h
 have hl:((setMi ls sh).take k).length=k:=by rw[List.length_take,setMi_len];omega
 have e2:=setMi_at h hm
 obtain⟨hk2,e3⟩:=List.getElem?_eq_some_iff.1 e2
 rw[List.set_append,if_neg (by omega),hl,Nat.sub_self,List.take_succ_eq_append_getElem hk2,e3,show ls.drop k=ls[k]::ls.drop (k+1)from List.drop_eq_getElem_cons hk,List.append_assoc]
 rfl
theorem setMi_mid {ls:List Ln} {sh:List Int} {k:Nat} {x:Ln} (h:ls[k]? =some x):((setMi ls sh).take k++ls.drop k)[k]? =some x:=by
 obtain⟨hk,e⟩:=List.getElem?_eq_some_iff.1 h
 have hl:((setMi ls sh).take k).length=k:=by rw[List.length_take,setMi_len];omega
 rw[List.getElem?_append_right (by omega),hl,Nat.sub_self,List.getElem?_drop,Nat.add_zero,h]
theorem setMi_mlen (ls:List Ln) (sh:List Int) {k:Nat} (hk:k≤ls.length):((setMi ls sh).take k++ls.drop k).length=ls.length:=by
 rw[List.length_append,List.length_take,setMi_len,List.length_drop];omega
structure MkS (W wr:World) (ib:Nat) (tn:ByteArray) (per g:Int) (fv lv uv:Value) (fs:List (List UInt8)) (ls:List Ln) (us:List Int):Prop where
 bx:wr.heap[ib]? =some (.cells #[.string tn, .int .i64 per,lv, .int .i64 g, .int .i64 0, .int .i64 g] 108)
 rf:RowOf kc 1 wr 0 9 fv fs
 rl:RowOf lnC 6 wr W.heap.size 114 lv ls
 ru:RowOf icI 1 wr W.heap.size 3 uv us
 lt:ib<W.heap.size
 chg:Chg [ib] W wr
section
variable {W wr w':World} {ib:Nat} {tn:ByteArray} {per g:Int} {fv lv uv:Value} {fs:List (List UInt8)} {ls:List Ln} {us:List Int}
theorem MkS.next (h:MkS W wr ib tn per g fv lv uv fs ls us) (hc:Chg [] wr w'):MkS W w' ib tn per g fv lv uv fs ls us:=
 ⟨hc.at (by simp) h.bx,h.rf.kept hc (by simp),h.rl.kept hc (by simp),h.ru.kept hc (by simp),h.lt,h.chg.then hc (by simp)⟩
theorem row_ne {α β:Type} {cf:α→List Value} {cg:β→List Value} {sz sy:Nat} {w:World} {b1 b2:Nat} {e1 e2:TypeId} {v1 v2:Value} {l1:List α} {l2:List β} (h1:RowOf cf sz w b1 e1 v1 l1) (h2:RowOf cg sy w b2 e2 v2 l2) (hne:e1≠e2):∀x,v1.ownBlock=some x→x∉v2.ownBlock.toList:=by
 intro x hx hx2
 obtain⟨c1,q1⟩:=row_block h1 hx
 obtain⟨c2,q2⟩:=row_block h2 (g:=x) (by simpa using hx2)
 rw[q1]at q2
 injection q2 with q2
 injection q2 with _ q3 _
 exact hne q3
theorem box_ne {α:Type} {cf:α→List Value} {sz:Nat} {w:World} {b1 ib:Nat} {e1:TypeId} {v1:Value} {l1:List α} {cur:Array Value} {t:TypeId} {fr:Nat×Nat} (h1:RowOf cf sz w b1 e1 v1 l1) (hb:w.heap[ib]? =some (.cells cur t fr)) (hne:e1≠t):∀x,v1.ownBlock=some x→x∉[ib]:=by
 intro x hx hx2
 obtain⟨c1,q1⟩:=row_block h1 hx
 simp at hx2
 subst hx2
 rw[q1]at hb
 injection hb with hb
 injection hb with _ q3 _
 exact hne q3
theorem MkS.addL {lv':Value} {ls':List Ln} (h:MkS W wr ib tn per g fv lv uv fs ls us) (hr:RowOf lnC 6 w' W.heap.size 114 lv' ls') (hc:Chg lv.ownBlock.toList wr w'):MkS W (w'.setCell ⟨ib,2,none⟩ lv') ib tn per g fv lv' uv fs ls' us:=by
 have hb:∀x∈lv.ownBlock.toList,W.heap.size≤x:=fun x hx=>(RowOf.block h.rl x (by simpa using hx)).1
 have hni:ib∉lv.ownBlock.toList:=fun q=>by have:=hb _ q;have:=h.lt;omega
 have hs:=(Chg.refl [ib] w').setCell ⟨ib,2,none⟩ lv' (fun _=>by simp)
 have r1:=h.rf.kept hc (row_ne h.rf h.rl (by decide))
 have r2:=h.ru.kept hc (row_ne h.ru h.rl (by decide))
 have low:∀{α:Type} {cf:α→List Value} {sz:Nat} {e:TypeId} {v:Value} {l:List α},RowOf cf sz w' W.heap.size e v l→∀x,v.ownBlock=some x→x∉[ib]:=fun r x hx=>by
  have:=(RowOf.block r x hx).1
  have:=h.lt
  simp;omega
 refine⟨?_,r1.kept hs (box_ne r1 (hc.at hni h.bx) (by decide)),hr.kept hs (low hr),r2.kept hs (low r2),h.lt, ?_⟩
 ·have:=blk_set (hc.at hni h.bx) 2 lv'
  simpa using this
 ·exact(h.chg.trans hc (T:=[ib]) (fun x hx _=>hx) (fun x hx hlt=>by have:=hb _ hx;omega)).setCell _ _ (fun _=>by simp)
theorem MkS.addU {uv':Value} {us':List Int} (h:MkS W wr ib tn per g fv lv uv fs ls us) (hr:RowOf icI 1 w' W.heap.size 3 uv' us') (hc:Chg uv.ownBlock.toList wr w'):MkS W w' ib tn per g fv lv uv' fs ls us':=by
 have hb:∀x∈uv.ownBlock.toList,W.heap.size≤x:=fun x hx=>(RowOf.block h.ru x (by simpa using hx)).1
 have hni:ib∉uv.ownBlock.toList:=fun q=>by have:=hb _ q;have:=h.lt;omega
 exact⟨hc.at hni h.bx,h.rf.kept hc (row_ne h.rf h.ru (by decide)),h.rl.kept hc (row_ne h.rl h.ru (by decide)),hr,h.lt,h.chg.trans hc (fun x hx _=>hx) (fun x hx hlt=>by have:=hb _ hx;omega)⟩
theorem MkS.putMi {gl n c k:Nat} {x:Ln} {m:Int} (h:MkS W wr ib tn per g fv (.slice (some ⟨gl,0,none⟩) n c) uv fs ls us) (hx:ls[k]? =some x):MkS W (wr.setCell ⟨gl,k*6+5,none⟩ (.int .i64 m)) ib tn per g fv (.slice (some ⟨gl,0,none⟩) n c) uv fs (ls.set k {x with mi:=m}) us:=by
 obtain⟨hk,e⟩:=List.getElem?_eq_some_iff.1 hx
 have hn:n=ls.length:=by obtain⟨a,c',e'⟩:=RowOf.shape h.rl;cases e';rfl
 have hg:=(RowOf.block h.rl gl rfl).1
 have hs:=(Chg.refl [gl] wr).setCell ⟨gl,k*6+5,none⟩ (.int .i64 m) (fun _=>by simp)
 have hr:=h.rl.stored hn lnC_len k hk 5 (by decide) (.int .i64 m) {x with mi:=m} (by rw[e];rfl)
 have ne1:∀y,fv.ownBlock=some y→y∉[gl]:=fun y hy=>by have:=row_ne h.rf h.rl (by decide) y hy;simpa[Value.ownBlock]using this
 have ne2:∀y,uv.ownBlock=some y→y∉[gl]:=fun y hy=>by have:=row_ne h.ru h.rl (by decide) y hy;simpa[Value.ownBlock]using this
 exact⟨hs.at (by have:=h.lt;simp;omega) h.bx,h.rf.kept hs ne1,hr,h.ru.kept hs ne2,h.lt,h.chg.setCell _ _ (fun q=>absurd (show gl<W.heap.size from q) (by omega))⟩
end
end
section
open Go.RowKit
def zivO:Obj:= .cells #[.string ⟨#[]⟩, .int .i64 0, .slice none 0 0, .int .i64 0, .int .i64 0, .int .i64 0] 108
def uW (s:Led) (tn:ByteArray) (per:Int) (f:List UInt8):Int:=(byU s tn (fB f) per).1.units
def MkePost (w:World) (s:Led) (p:Prc) (tn:ByteArray) (per:Int) (e:Ending) (w':World):Prop:=∃O v,((makeZ s p tn per O).2=0→IsOrd (shR (mkG s p tn per).1 (mkW s tn per)) O)∧e= .returned (.tuple #[ivW (makeZ s p tn per O).1 v, .int .i64 (makeZ s p tn per O).2])∧RowOf lnC 6 w' w.heap.size 114 v (makeZ s p tn per O).1.ls∧Chg [] w w'
theorem make_err1 {s:Led} {p:Prc} {tn:ByteArray} {per:Int} {O:List Int} (h:(totU s tn per).2≠0):makeZ s p tn per O=(inv0,(totU s tn per).2):=if_pos h
theorem make_err2 {s:Led} {p:Prc} {tn:ByteArray} {per:Int} {O:List Int} (h1:(totU s tn per).2=0) (h:(mkG s p tn per).2≠0):makeZ s p tn per O=(inv0,(mkG s p tn per).2):=by
 unfold makeZ
 rw[if_neg (by simpa using h1),if_pos h]
theorem make_err3 {s:Led} {p:Prc} {tn:ByteArray} {per:Int} {O:List Int} (h1:(totU s tn per).2=0) (h2:(mkG s p tn per).2=0) (h:errs ((fnsU s tn per).map (mkErr s tn per))≠0):makeZ s p tn per O=(inv0,errs ((fnsU s tn per).map (mkErr s tn per))):=by
 unfold makeZ
 rw[if_neg (by simpa using h1),if_neg (by simpa using h2),if_pos h]
theorem make_err4 {s:Led} {p:Prc} {tn:ByteArray} {per:Int} {O:List Int} (h1:(totU s tn per).2=0) (h2:(mkG s p tn per).2=0) (h3:errs ((fnsU s tn per).map (mkErr s tn per))=0) (h:(weighZ (mkG s p tn per).1 (mkW s tn per)).2≠0):makeZ s p tn per O=(inv0,(weighZ (mkG s p tn per).1 (mkW s tn per)).2):=by
 unfold makeZ
 rw[if_neg (by simpa using h1),if_neg (by simpa using h2),if_neg (by simpa using h3),if_pos h]
theorem make_ok {s:Led} {p:Prc} {tn:ByteArray} {per:Int} {O:List Int} (h1:(totU s tn per).2=0) (h2:(mkG s p tn per).2=0) (h3:errs ((fnsU s tn per).map (mkErr s tn per))=0) (h:(weighZ (mkG s p tn per).1 (mkW s tn per)).2=0):makeZ s p tn per O=(⟨tn,per,setMi (mkLs s tn per) (shares (mkG s p tn per).1 (mkW s tn per) O),(mkG s p tn per).1,0,(mkG s p tn per).1⟩,0):=by
 unfold makeZ
 rw[if_neg (by simpa using h1),if_neg (by simpa using h2),if_neg (by simpa using h3),if_neg (by simpa using h)]
theorem takeK {α:Type} {l:List α} {k:Nat} {x:α} (h:l[k]? =some x):l.take k++[x]=l.take (k+1):=by
 obtain⟨hk,e⟩:=List.getElem?_eq_some_iff.1 h
 rw[List.take_succ_eq_append_getElem hk,e]
theorem alloc_atK {w:World} {o:Obj} {b:Nat} (h:b=w.heap.size):(w.alloc o).heap[b]? =some o:=by rw[h];exact heap_alloc_new _ _
theorem make_any {w:World} {b mb:Nat} {v:Value} {s:Led} (h:LIs w b mb v s) (hl:s.l.length≤4000) (p:Prc) (pa:Option Addr) (pc:Nat) (hp:SlIs trC 2 w pa p.ts.length p.ts) (hpm:p.ts.length≤maxLen) (tn:ByteArray) (hs:tn.size≤maxLen) (per:Int) (hF:∀f∈fnsU s tn per,(fB f).size≤maxLen) (hFl:(fnsU s tn per).length≤4000):
 Calls Tryz.prog 25 #[.pointer (some ⟨b,0,none⟩),prV p pa pc, .string tn, .int .i64 per] w (MkePost w s p tn per):=by
 have HT:=LH (fun w' (hc:Chg [] w w')=>total_any tn per (h.keptN hc) hs hl)
 have HA:=LH (fun w' (hc:Chg [] w w')=>pamt_any p (totU s tn per).1 pa pc w' (hp.kept hc) hpm)
 have HN:=LH (fun w' (hc:Chg [] w w')=>funcs_any tn per (h.keptN hc) hl)
 have HL:=LH h
 obtain⟨W1,hW1⟩:∃W1,W1=(w.alloc (prO p pa pc)).alloc zivO:=⟨_,rfl⟩
 have C1:=LH (show Chg [] w W1 from hW1▸((Chg.refl _ _).alloc _).alloc _)
 have X1:=LH (show W1.heap[w.heap.size]? =some (prO p pa pc)from hW1▸blk_alloc (heap_alloc_new _ _))
 have Y1:=LH (show W1.heap[w.heap.size+1]? =some zivO from by
  rw[hW1]
  have:=heap_alloc_new (w.alloc (prO p pa pc)) zivO
  rwa[World.size_alloc]at this)
 have HW1:=LH hW1
 have lt1:=lt_of_heap Y1.out
 clear hW1 h hp
 unfold prO zivO at HW1
 unfold prV at HA⊢
 unfold usV at HT HA
 obtain⟨T,hT⟩:∃T,T=totU s tn per:=⟨_,rfl⟩
 have HTE:=LH hT
 rw[←hT]at HT HA
 obtain⟨⟨t1,t2,t3,t4⟩,te⟩:=T
 simp only at HT HA
 have hG:mkG s p tn per=amtZ p ⟨t1,t2,t3,t4⟩:=by unfold mkG;rw[←hT]
 rw[←hG]at HA
 have hte:te=(totU s tn per).2:=by rw[←hT]
 obtain⟨G,hGG⟩:∃G,G=mkG s p tn per:=⟨_,rfl⟩
 rw[←hGG]at HA
 have HGE:=LH hGG
 have HTT:=LH hte
 clear hT hG hte hGG
 obtain⟨g,ge⟩:=G
 simp only at HA
 by_cases h1:te=0
 ·subst h1
  have E1:=LH HTT.out.symm
  by_cases h2:ge=0
  ·subst h2
   have E2:=LH (show(mkG s p tn per).2=0 by rw[←HGE.out])
   have EG:=LH (show(mkG s p tn per).1=g by rw[←HGE.out])
   obtain⟨fs,hfs⟩:∃fs,fs=fnsU s tn per:=⟨_,rfl⟩
   rw[←hfs]at HN hF hFl
   have HFS:=LH hfs
   have HF:=LH hF
   clear hfs hF
   go_enter Tryz.func25,Tryz.ntmps25
   go_wp2_with fail
   rw[←HW1.out]
   go_wp2_with fail
   refine(HT.out _ C1.out).mono ?_;rintro e w2 ⟨rfl,hc2⟩
   have C2:=LH (C1.out.thenSame hc2)
   have X2:=LH (hc2.at (by simp) X1.out)
   have Y2:=LH (hc2.at (by simp) Y1.out)
   have k2:=blk_cell X2.out
   have lt2:=lt_of_heap Y2.out
   have lt2b:=lt_of_heap X2.out
   unfold prO at k2
   clear hc2
   go_wp2_with fail
   refine(HA.out _ (C2.out.alloc _)).mono ?_;rintro e w3 ⟨rfl,hc3⟩
   have C3:=LH ((C2.out.alloc _).thenSame hc3)
   have Y3:=LH (hc3.at (by simp) (blk_alloc Y2.out))
   have k3:=blk_cell Y3.out
   have f3:=blk_free Y3.out
   have lt3:=lt_of_heap Y3.out
   clear hc3 k2
   clear k3 f3
   go_wp2_with fail
   obtain⟨W7,hW7⟩:∃W7,W7=w3.alloc (.cells #[.string tn, .int .i64 per, .slice none 0 0, .int .i64 g, .int .i64 0, .int .i64 g] 108):=⟨_,rfl⟩
   have C7:=LH (show Chg [] w W7 from hW7▸C3.out.alloc _)
   have B7:=LH (show W7.heap[w3.heap.size]? =some (.cells #[.string tn, .int .i64 per, .slice none 0 0, .int .i64 g, .int .i64 0, .int .i64 g] 108)from hW7▸heap_alloc_new _ _)
   have Y7:=LH (show W7.heap[w.heap.size+1]? =some zivO from hW7▸blk_alloc Y3.out)
   have hs7:W7.heap.size=w3.heap.size+1:=by rw[hW7,World.size_alloc]
   rw[←hW7]
   have HS7:=LH hs7
   clear hW7 hs7
   refine(HN.out _ C7.out).mono ?_;rintro e w4 ⟨fv,rfl,hr4,hc4⟩
   obtain⟨fa,fc,rfl⟩:=RowOf.shape hr4
   have S4:=LH (show MkS W7 w4 w3.heap.size tn per g (.slice fa fs.length fc) (.slice none 0 0) (.slice none 0 0) fs [] []from⟨hc4.at (by simp) B7.out,hr4.mono (Nat.zero_le _),RowOf.nil _ _ _,RowOf.nil _ _ _,by rw[HS7.out];omega,hc4.mono (by simp)⟩)
   have LW:=LH (fun w' (hc:Chg [w3.heap.size] W7 w')=>show LIs w' b mb v s from(HL.out.keptN C7.out).kept hc (fun x hx=>by have:=HL.out.lt x hx;have:=C3.out.size;simp;omega))
   have BYF:=LH (fun f (hf:f∈fs) w' (hc:Chg [w3.heap.size] W7 w')=>byf_any tn (fB f) per (LW.out w' hc) hs (HF.out f hf) hl)
   have YW:=LH (fun w' (hc:Chg [w3.heap.size] W7 w')=>show w'.heap[w.heap.size+1]? =some zivO from hc.at (by simp;omega) Y7.out)
   have CW:=LH (fun w' (hc:Chg [w3.heap.size] W7 w')=>show Chg [] w w' from C7.out.trans hc (by simp) (fun x hx hlt=>by have:=C3.out.size;simp at hx;omega))
   have hib:w3.heap.size<w4.heap.size:=lt_of_heap S4.out.bx
   clear hr4 hc4
   have k4:=blk_cell S4.out.bx
   go_wp2_with fail
   clear k4
   go_loopw [14,53] (fun uvv j wr=>∃(k:Nat) (lv:Value),j= .int .i64 k∧k≤fs.length∧Hid (errs ((fs.map (mkErr s tn per)).take k)=0)∧Hid (MkS W7 wr w3.heap.size tn per g (.slice fa fs.length fc) lv uvv fs ((fs.map (ln0 s tn per)).take k) ((fs.map (uW s tn per)).take k))) (fun _ j _=>fs.length-(intOf j).toNat)
   case atStart=>exact⟨0, .slice none 0 0,rfl,Nat.zero_le _,LH rfl,S4⟩
   case round=>
    obtain⟨k,lv,rfl,hk,HER,HI⟩:=hrel
    clear S4 hib
    have k3:=blk_cell HI.out.bx
    have f3:=blk_free HI.out.bx
    have l3:=lt_of_heap HI.out.bx
    have hlk:((fs.map (ln0 s tn per)).take k).length=k:=by simp;omega
    have huk:((fs.map (uW s tn per)).take k).length=k:=by simp;omega
    obtain⟨va,vc,hlv⟩:=RowOf.shape HI.out.rl
    obtain⟨ua,uc,huv⟩:=RowOf.shape HI.out.ru
    rw[hlk]at hlv
    rw[huk]at huv
    subst hlv huv
    have HLK:=LH hlk
    have HUK:=LH huk
    clear hlk huk
    by_cases hkn:k<fs.length
    ·obtain⟨gf,o,rfl, -,hbr,hcc⟩:=(RowOf.sl HI.out.rf kLen).1.elem (Chg.refl [] _) k hkn
     have d0:=hcc 0 (by omega)
     obtain⟨f,hf1⟩:∃f,fs[k]? =some f:=⟨fs[k],List.getElem?_eq_getElem hkn⟩
     have hfe:=(List.getElem?_eq_some_iff.1 hf1).2
     rw[hfe]at d0
     simp only[kc,encStr,List.getElem?_cons_zero,Nat.add_zero,Nat.mul_one]at d0
     have B:=BYF.out f (List.mem_of_getElem? hf1) wr HI.out.chg
     have hat:(fs.map (mkErr s tn per))[k]? =some (mkErr s tn per f):=by rw[List.getElem?_map,hf1];rfl
     have HLT:=LH (show(fs.map (ln0 s tn per)).take k++[ln0 s tn per f]=(fs.map (ln0 s tn per)).take (k+1)from takeK (show(fs.map (ln0 s tn per))[k]? =some (ln0 s tn per f) by rw[List.getElem?_map,hf1];rfl))
     have HUT:=LH (show(fs.map (uW s tn per)).take k++[uW s tn per f]=(fs.map (uW s tn per)).take (k+1)from takeK (show(fs.map (uW s tn per))[k]? =some (uW s tn per f) by rw[List.getElem?_map,hf1];rfl))
     obtain⟨U,hU⟩:∃U,U=byU s tn (fB f) per:=⟨_,rfl⟩
     have hme:mkErr s tn per f=U.2.2:=by rw[hU];rfl
     have huw:uW s tn per f=U.1.units:=by rw[hU];rfl
     have hl0:lnC (ln0 s tn per f)=[.string ⟨f.toArray⟩, .int .i64 U.1.inv, .int .i64 U.1.steps, .int .i64 U.1.ticks, .int .i64 U.1.units, .int .i64 0]:=by rw[hU];rfl
     rw[←hU]at B
     rw[hme]at hat
     rw[huw]at HUT
     unfold fB usV at B
     obtain⟨⟨u1,u2,u3,u4⟩,⟨z1,z2,z3,z4⟩,be⟩:=U
     simp only at B hat hl0 HUT
     have B:=LH B
     rename_i B0
     have HL0:=LH hl0
     have hk0:(0:Int)≤(k:Int):=by omega
     have hk1:(k:Int)<(fs.length:Int):=by omega
     have hm1:k+1≤maxLen:=by unfold maxLen;omega
     have hm2:(k+1)*56≤140737488355328:=by omega
     have hm3:(k+1)*8≤140737488355328:=by omega
     have HK1:=LH (show k+1≤fs.length from hkn)
     clear B0 hcc hf1 hfe hme huw hl0 hU
     by_cases hbe:be=0
     ·subst hbe
      have HNE:=LH (errs_next HER.out hat)
      clear hat
      go_wp2_with fail
      refine B.out.mono ?_;rintro e w5 ⟨rfl,hc5⟩
      have C5:=LH hc5
      have I5:=LH (HI.out.next hc5)
      have k5:=blk_cell I5.out.bx
      have f5:=blk_free I5.out.bx
      have l5:=lt_of_heap I5.out.bx
      have l7:=LH (show W7.heap.size≤w5.heap.size from I5.out.chg.size)
      clear hc5 k3 f3 d0
      have CX:=LH ((((Chg.refl [] w5).alloc (.cells #[.int .i64 u1, .int .i64 u2, .int .i64 u3, .int .i64 u4] 96)).alloc (.cells #[.int .i64 z1, .int .i64 z2, .int .i64 z3, .int .i64 z4] 96)).alloc (.cells #[.string ⟨f.toArray⟩, .int .i64 u1, .int .i64 u2, .int .i64 u3, .int .i64 u4, .int .i64 0] 114))
      have IX:=LH (I5.out.next CX.out)
      have UX:=LH (blk_alloc (o':= .cells #[.string ⟨f.toArray⟩, .int .i64 u1, .int .i64 u2, .int .i64 u3, .int .i64 u4, .int .i64 0] 114) (blk_alloc (o':= .cells #[.int .i64 z1, .int .i64 z2, .int .i64 z3, .int .i64 z4] 96) (heap_alloc_new w5 (.cells #[.int .i64 u1, .int .i64 u2, .int .i64 u3, .int .i64 u4] 96))))
      have LX:=LH (show(((w5.alloc (.cells #[.int .i64 u1, .int .i64 u2, .int .i64 u3, .int .i64 u4] 96)).alloc (.cells #[.int .i64 z1, .int .i64 z2, .int .i64 z3, .int .i64 z4] 96)).alloc (.cells #[.string ⟨f.toArray⟩, .int .i64 u1, .int .i64 u2, .int .i64 u3, .int .i64 u4, .int .i64 0] 114)).heap[w5.heap.size+1+1]? =some (.cells #[.string ⟨f.toArray⟩, .int .i64 u1, .int .i64 u2, .int .i64 u3, .int .i64 u4, .int .i64 0] 114)from alloc_atK (by simp only[World.size_alloc]))
      have OL:=LH (fun x (hx:x∈(Value.slice va k vc).ownBlock.toList)=>show W7.heap.size≤x∧x<w5.heap.size from RowOf.block I5.out.rl x (by simpa using hx))
      go_wp2_with (first
       |(at_builtin;refine wpl_appendL rfl _ _ 106 rfl W7.heap.size 114 _ 56 Tryz.underlying106 lnInfo rfl (by decide) lnC_len lnC_one (.slice va k vc) ((fs.map (ln0 s tn per)).take k) rfl IX.out.rl _ _ (ln0 s tn per f) _ _ _ rfl LX.out HL0.out.symm (by rw[HLK.out];exact hm1) (by rw[HLK.out];exact hm2) (Nat.le_trans l7.out CX.out.size) ?_;intro g6 c6 w6 hr6 hg6 ho6 hl6;rw[HLK.out]at hr6;rw[HLK.out];have hgc:=Chg.ofRow (v:= .slice va k vc) hg6;rw[HLT.out]at hr6;have B6:=LH (hgc.at (fun q=>by have:=(OL.out _ q).1;have:=I5.out.lt;omega) IX.out.bx);have k6:=blk_cell B6.out;have f6:=blk_free B6.out;have l6:=lt_of_heap B6.out;have U6:=LH (hgc.at (fun q=>by have:=(OL.out _ q).2;omega) UX.out);have q6:=blk_cell U6.out;have l8:=lt_of_heap U6.out;have J6:=LH (IX.out.addL hr6 hgc);have l9:=LH J6.out.chg.size;clear hr6 hg6 ho6 hl6 hgc)
       |(at_builtin;refine wpl_appendL rfl _ _ 77 rfl W7.heap.size 3 _ 8 Tryz.underlying77 iInfo rfl (by decide) icI_len icI_one (.slice ua k uc) ((fs.map (uW s tn per)).take k) rfl (J6.out.next ((Chg.refl [] _).alloc (.cells #[.int .i64 u4] 3))).ru _ _ u4 _ _ _ rfl (alloc_atK (by first|rfl|simp)) rfl (by rw[HUK.out];exact hm1) (by rw[HUK.out];exact hm3) (Nat.le_trans l9.out ((Chg.refl [] _).alloc _).size) ?_;intro g8 c8 w8 hr8 hg8 ho8 hl8;rw[HUK.out]at hr8;rw[HUK.out];have hgc:=Chg.ofRow (v:= .slice ua k uc) hg8;rw[HUT.out]at hr8;have J8:=LH ((J6.out.next ((Chg.refl [] _).alloc (.cells #[.int .i64 u4] 3))).addU hr8 hgc);clear hr8 hg8 ho8 hl8 hgc))
      exact⟨⟨k+1,_,by go_num,HK1.out,HNE,J8⟩,by simp[intOf];have:=HK1.out;omega⟩
     ·have hbb:(be !=0)=true:=by rw[bne_iff_ne];exact hbe
      have HEE:=LH (errs_at HER.out hat hbe)
      have HR:=LH (fun O=>make_err3 (O:=O) E1.out E2.out (show errs ((fnsU s tn per).map (mkErr s tn per))≠0 by rw[←HFS.out,HEE.out];exact hbe))
      clear hat
      go_wp2_with fail
      refine B.out.mono ?_;rintro e w5 ⟨rfl,hc5⟩
      have I5:=LH (HI.out.next hc5)
      have Y5:=LH (blk_alloc (o':= .cells #[.int .i64 z1, .int .i64 z2, .int .i64 z3, .int .i64 z4] 96) (blk_alloc (o':= .cells #[.int .i64 u1, .int .i64 u2, .int .i64 u3, .int .i64 u4] 96) (YW.out _ I5.out.chg)))
      have C5:=LH (((CW.out _ I5.out.chg).alloc (.cells #[.int .i64 u1, .int .i64 u2, .int .i64 u3, .int .i64 u4] 96)).alloc (.cells #[.int .i64 z1, .int .i64 z2, .int .i64 z3, .int .i64 z4] 96))
      have k5:=blk_cell Y5.out
      have f5:=blk_free Y5.out
      have l5:=lt_of_heap Y5.out
      clear hc5 k3 f3 d0
      go_wp2_with fail
      have r1:=blk_cell (st6_at (.string ⟨#[]⟩) (.int .i64 0) (.slice none 0 0) (.int .i64 0) (.int .i64 0) (.int .i64 0) Y5.out)
      refine bodyPost_ret (v:= .tuple #[.agg #[.string ⟨#[]⟩, .int .i64 0, .slice none 0 0, .int .i64 0, .int .i64 0, .int .i64 0], .int .i64 be]) (by simp[results,Tryz.results25,go_sem,r1]) rfl ?_
      refine⟨[], .slice none 0 0, ?_, ?_, ?_,st6_chg _ _ _ _ _ _ (by omega) C5.out⟩
      ·intro q;rw[HR.out,←HFS.out,HEE.out]at q;exact(hbe q).elim
      ·rw[HR.out,←HFS.out,HEE.out];rfl
      ·rw[HR.out];exact RowOf.nil _ _ _
    ·have hke:k=fs.length:=by omega
     have hkn2: ¬(k:Int)<(fs.length:Int):=by omega
     have HE3:=LH (show errs ((fnsU s tn per).map (mkErr s tn per))=0 by
      have h1:=HER.out
      rw[hke,List.take_of_length_le (by simp)]at h1
      rw[←HFS.out];exact h1)
     have S9:=HI.out
     rw[hke,List.take_of_length_le (by simp),List.take_of_length_le (by simp)]at S9
     have hW:mkW s tn per=fs.map (uW s tn per):=by unfold mkW;rw[←HFS.out];rfl
     have hLs:mkLs s tn per=fs.map (ln0 s tn per):=by unfold mkLs;rw[←HFS.out]
     obtain⟨W,hWe⟩:∃W,W=fs.map (uW s tn per):=⟨_,rfl⟩
     obtain⟨ls,hle⟩:∃ls,ls=fs.map (ln0 s tn per):=⟨_,rfl⟩
     rw[←hWe]at S9 hW
     rw[←hle]at S9 hLs
     have hWl:W.length=fs.length:=by rw[hWe];simp
     have hll:ls.length=fs.length:=by rw[hle];simp
     have S9:=LH S9
     rename_i S90
     have HW:=LH hW
     have HLS:=LH hLs
     have SW:=(RowOf.sl S9.out.ru icI_len).1
     rw[hke,←hWl]
     rw[←hWl]at SW
     have hwm:W.length≤maxLen:=by rw[hWl];unfold maxLen;omega
     have HLL:=LH hll
     have HWL:=LH hWl
     have HKE:=LH hke
     clear S90 HI k3 f3 l3 hke hW hLs hWe hle hll hWl HLK HUK HER
     by_cases h4:(weighZ g W).2=0
     ·have SH:=LH (share_ok g ua uc W wr SW h4)
      have HR:=LH (fun O=>make_ok (O:=O) E1.out E2.out HE3.out (show(weighZ (mkG s p tn per).1 (mkW s tn per)).2=0 by rw[EG.out,HW.out];exact h4))
      clear SW h4
      clear hwm
      go_wp2_with fail
      refine SH.out.mono ?_;rintro e w5 ⟨s0,O,rfl,hO,hIB,hs0,hc5⟩
      have I5:=LH (S9.out.next hc5)
      have HO:=LH hO
      obtain⟨sh,hsh⟩:∃sh,sh=shares g W O:=⟨_,rfl⟩
      rw[←hsh]at hIB
      have hsl:sh.length=W.length:=by rw[hsh];exact shares_len
      have HSE:=LH hsh
      have HSL:=LH hsl
      have HIB:=LH hIB
      have HRO:=LH (HR.out O)
      have k5:=blk_cell I5.out.bx
      have l5:=lt_of_heap I5.out.bx
      clear SH HR hc5 hO hIB hsh hsl hs0
      go_wp2_with fail
      clear k5
      go_loopw [97] (fun j wr'=>∃k:Nat,j= .int .i64 k∧k≤fs.length∧Hid (MkS W7 wr' w3.heap.size tn per g (.slice fa fs.length fc) (.slice va fs.length vc) (.slice ua W.length uc) fs ((setMi ls sh).take k++ls.drop k) W)∧Hid (IB wr' s0 sh)) (fun j _=>fs.length-(intOf j).toNat)
      case atStart=>exact⟨0,rfl,Nat.zero_le _,LH (by simpa[HWL.out]using I5.out),HIB⟩
      case round=>
       clear hkn hkn2 hk HIB
       obtain⟨k,rfl,hk,HI,HIB⟩:=hrel
       have k6:=blk_cell HI.out.bx
       have l6:=lt_of_heap HI.out.bx
       by_cases hkn:k<fs.length
       ·have hkl:k<ls.length:=by rw[HLL.out];exact hkn
        obtain⟨x,hx⟩:∃x,ls[k]? =some x:=⟨ls[k],List.getElem?_eq_getElem hkl⟩
        obtain⟨m,hm⟩:∃m,sh[k]? =some m:=⟨sh[k]'(by rw[HSL.out,HWL.out];exact hkn),List.getElem?_eq_getElem _⟩
        have hml:=setMi_mlen ls sh (k:=k) (by omega)
        obtain⟨gl,rfl⟩:∃gl,va=some ⟨gl,0,none⟩:=by
         rcases RowOf.at HI.out.rl lnC_len with ⟨_,h2⟩|⟨gl,cp,h1,_⟩
         ·exfalso;have:=congrArg List.length h2;rw[hml,List.length_nil]at this;omega
         ·rw[hml,HLL.out]at h1;cases h1;exact⟨gl,rfl⟩
        have hne:s0≠gl:=by
         intro e
         obtain⟨cur,q1⟩:=row_block HI.out.rl (g:=gl) rfl
         have q2:wr.heap[s0]? =_:=HIB.out
         rw[e,q1]at q2
         injection q2 with q2
         injection q2 with _ q3 _
         exact absurd q3 (by decide)
        have HP:=LH ((HI.out.next ((Chg.refl [] wr).drew)).putMi (m:=m) (setMi_mid (sh:=sh) hx))
        rw[setMi_step hx hm]at HP
        have HIB2:=LH (HIB.out.drew.past hne (k*6+5) (.int .i64 m))
        obtain⟨b1,b2,b3,b4,b5,b6,b7⟩:=RowOf.atS HI.out.rl lnC_len
        have hmid:=setMi_mid (sh:=sh) hx
        obtain⟨hmk,hme⟩:=List.getElem?_eq_some_iff.1 hmid
        have c5:=b4 k hmk 5 (by omega)
        rw[hme]at c5
        simp only[lnC,List.getElem?_cons_zero,List.getElem?_cons_succ]at c5 b5 b7
        have cm:=HIB.out.cell hm
        have ls0:=HIB.out.lt
        have hk0:(0:Int)≤(k:Int):=by omega
        have hk1:(k:Int)<(fs.length:Int):=by omega
        have hk2:(k:Int)<(W.length:Int):=by rw[HWL.out];exact hk1
        have HK1:=LH (show k+1≤fs.length from hkn)
        have f5:=b5 (k*6+5)
        clear b1 b2 b3 b4 b5 b6 hmid hmk hme hml hx hm hne hkl
        go_wp2_with fail
        go_still_tail 9,(by kernel_rfl)
        change wpList _ _ _ _ _ wr.drew
        have c5d:wr.drew.cell? ⟨gl,k*6+5,none⟩=some (.int .i64 x.mi):=c5
        have f5d:wr.drew.frozen? ⟨gl,k*6+5,none⟩=false:=f5
        have b7d:gl<wr.drew.heap.size:=b7
        generalize wr.drew=wd at*
        clear c5 f5 b7 k6 l6 cm ls0
        go_wp2_with fail
        exact⟨⟨k+1,by go_num,HK1.out,HP,HIB2⟩,by simp[intOf];have:=HK1.out;omega⟩
       ·have hke:k=fs.length:=by omega
        have hkn2: ¬(k:Int)<(fs.length:Int):=by omega
        have S10:=HI.out
        rw[hke,←HLL.out,List.take_of_length_le (by rw[setMi_len];exact Nat.le_refl _),List.drop_length,List.append_nil,HLL.out]at S10
        have S10:=LH S10
        rename_i S100
        have Y9:=LH (YW.out _ S10.out.chg)
        have y9:=blk_cell Y9.out
        have g9:=blk_free Y9.out
        have m9:=lt_of_heap Y9.out
        have CF:=LH (CW.out _ S10.out.chg)
        clear S100 HI hke
        go_wp2_with fail
        have r1:=blk_cell (st6_at (.string tn) (.int .i64 per) (.slice va fs.length vc) (.int .i64 g) (.int .i64 0) (.int .i64 g) Y9.out)
        refine bodyPost_ret (v:= .tuple #[.agg #[.string tn, .int .i64 per, .slice va fs.length vc, .int .i64 g, .int .i64 0, .int .i64 g], .int .i64 0]) (by simp[results,Tryz.results25,go_sem,r1]) rfl ?_
        refine⟨O, .slice va fs.length vc, ?_, ?_, ?_,st6_chg _ _ _ _ _ _ (by omega) CF.out⟩
        ·intro _;rw[EG.out,HW.out];exact HO.out
        ·rw[HRO.out,EG.out];rfl
        ·rw[HRO.out]
         show RowOf lnC 6 _ _ _ _ (setMi (mkLs s tn per) (shares (mkG s p tn per).1 (mkW s tn per) O))
         rw[EG.out,HW.out,HLS.out,←HSE.out]
         exact(S10.out.rl.kept (st6_self _ _ _ _ _ _) (fun x hx=>by have:=(RowOf.block S10.out.rl x hx).1;have:=HS7.out;simp;omega)).mono (by have:=HS7.out;omega)
     ·have SH:=LH (share_bad g ua uc W wr SW hwm h4)
      have HR:=LH (fun O=>make_err4 (O:=O) E1.out E2.out HE3.out (show(weighZ (mkG s p tn per).1 (mkW s tn per)).2≠0 by rw[EG.out,HW.out];exact h4))
      have HWZ:=LH (show(weighZ (mkG s p tn per).1 (mkW s tn per)).2=(weighZ g W).2 by rw[EG.out,HW.out])
      have hb4:((weighZ g W).2 !=0)=true:=by rw[bne_iff_ne];exact h4
      generalize (weighZ g W).2=we at*
      have Y9:=LH (YW.out _ S9.out.chg)
      have k9:=blk_cell Y9.out
      have f9:=blk_free Y9.out
      have l9:=lt_of_heap Y9.out
      clear SW
      go_wp2_with fail
      refine SH.out.mono ?_;rintro e w5 ⟨rfl,rfl⟩
      go_wp2_with fail
      have r1:=blk_cell (st6_at (.string ⟨#[]⟩) (.int .i64 0) (.slice none 0 0) (.int .i64 0) (.int .i64 0) (.int .i64 0) Y9.out)
      refine bodyPost_ret (v:= .tuple #[.agg #[.string ⟨#[]⟩, .int .i64 0, .slice none 0 0, .int .i64 0, .int .i64 0, .int .i64 0], .int .i64 we]) (by simp[results,Tryz.results25,go_sem,r1]) rfl ?_
      refine⟨[], .slice none 0 0, ?_, ?_, ?_,st6_chg _ _ _ _ _ _ (by omega) (CW.out _ S9.out.chg)⟩
      ·intro q;rw[HR.out,HWZ.out]at q;exact(h4 q).elim
      ·rw[HR.out,HWZ.out];rfl
      ·rw[HR.out];exact RowOf.nil _ _ _
  ·have hb:(ge !=0)=true:=by rw[bne_iff_ne];exact h2
   have HR:=LH (fun O=>make_err2 (O:=O) E1.out (show(mkG s p tn per).2≠0 by rw[←HGE.out];exact h2))
   have HGX:=LH (show(mkG s p tn per).2=ge by rw[←HGE.out])
   go_enter Tryz.func25,Tryz.ntmps25
   go_wp2_with fail
   rw[←HW1.out]
   go_wp2_with fail
   refine(HT.out _ C1.out).mono ?_;rintro e w2 ⟨rfl,hc2⟩
   have C2:=LH (C1.out.thenSame hc2)
   have X2:=LH (hc2.at (by simp) X1.out)
   have Y2:=LH (hc2.at (by simp) Y1.out)
   have k2:=blk_cell X2.out
   have lt2:=lt_of_heap Y2.out
   have lt2b:=lt_of_heap X2.out
   unfold prO at k2
   clear hc2
   go_wp2_with fail
   refine(HA.out _ (C2.out.alloc _)).mono ?_;rintro e w3 ⟨rfl,hc3⟩
   have C3:=LH ((C2.out.alloc _).thenSame hc3)
   have Y3:=LH (hc3.at (by simp) (blk_alloc Y2.out))
   have k3:=blk_cell Y3.out
   have f3:=blk_free Y3.out
   have lt3:=lt_of_heap Y3.out
   clear hc3 k2
   go_wp2_with fail
   have r1:=blk_cell (st6_at (.string ⟨#[]⟩) (.int .i64 0) (.slice none 0 0) (.int .i64 0) (.int .i64 0) (.int .i64 0) Y3.out)
   refine bodyPost_ret (v:= .tuple #[.agg #[.string ⟨#[]⟩, .int .i64 0, .slice none 0 0, .int .i64 0, .int .i64 0, .int .i64 0], .int .i64 ge]) (by simp[results,Tryz.results25,go_sem,r1]) rfl ?_
   refine⟨[], .slice none 0 0, ?_, ?_, ?_,st6_chg _ _ _ _ _ _ (by omega) C3.out⟩
   ·intro q;rw[HR.out]at q;exact(h2 (HGX.out.symm.trans q)).elim
   ·rw[HR.out,HGX.out];rfl
   ·rw[HR.out];exact RowOf.nil _ _ _
 ·have hb:(te !=0)=true:=by rw[bne_iff_ne];exact h1
  have HR:=LH (fun O=>make_err1 (p:=p) (O:=O) (show(totU s tn per).2≠0 by rw[←HTT.out];exact h1))
  go_enter Tryz.func25,Tryz.ntmps25
  go_wp2_with fail
  rw[←HW1.out]
  go_wp2_with fail
  refine(HT.out _ C1.out).mono ?_;rintro e w2 ⟨rfl,hc2⟩
  have C2:=LH ((C1.out.thenSame hc2).alloc (.cells #[.int .i64 t1, .int .i64 t2, .int .i64 t3, .int .i64 t4] 96))
  have Y2:=LH (blk_alloc (o':= .cells #[.int .i64 t1, .int .i64 t2, .int .i64 t3, .int .i64 t4] 96) (hc2.at (by simp) Y1.out))
  have k2:=blk_cell Y2.out
  have f2:=blk_free Y2.out
  have lt2:=lt_of_heap Y2.out
  clear hc2
  go_wp2_with fail
  have r1:=blk_cell (st6_at (.string ⟨#[]⟩) (.int .i64 0) (.slice none 0 0) (.int .i64 0) (.int .i64 0) (.int .i64 0) Y2.out)
  refine bodyPost_ret (v:= .tuple #[.agg #[.string ⟨#[]⟩, .int .i64 0, .slice none 0 0, .int .i64 0, .int .i64 0, .int .i64 0], .int .i64 te]) (by simp[results,Tryz.results25,go_sem,r1]) rfl ?_
  refine⟨[], .slice none 0 0, ?_, ?_, ?_,st6_chg _ _ _ _ _ _ (by omega) C2.out⟩
  ·intro q;rw[HR.out,←HTT.out]at q;exact(h1 q).elim
  ·rw[HR.out,←HTT.out];rfl
  ·rw[HR.out];exact RowOf.nil _ _ _
end
section
open Go.RowKit
end
section
end
end Go.Proofs.YtmofknmeljdodaaGreatDoor
