/- Chapter 50: the check of a history, plain; what its regions compute. No condition but those that the statements name. -/
import Derived.Deep.DeepCutAuto
import Derived.Lib.ItoaLen
import Derived.Maps.AppendAt
import Derived.Deep.AppendLies
import Derived.Test.YtmofknmeljdodaaGreatDoorZS01
import Derived.Test.YtmofknmeljdodaaGreatDoorZA01
import Derived.Test.YtmofknmeljdodaaGreatDoorZA02
import Derived.Test.YtmofknmeljdodaaGreatDoorZS03
set_option maxHeartbeats 100000000
set_option maxRecDepth 100000
set_option linter.unusedVariables false
set_option linter.unusedSimpArgs false
open List renaming getElem_toArray→gTA,getElem_cons_zero→gCZ,getElem_cons_succ→gCS,setIfInBounds_toArray→sTA,set_cons_zero→sCZ,set_cons_succ→sCS
namespace Go.Proofs.YtmofknmeljdodaaGreatDoor
section
open Go.RowKit
def badT (x:PCl):Bool:= !timeB x.from_||(!openB x&&(!timeB x.to_||decide (x.to_<x.from_)))
def chk1 (x:PCl) (e0:ByteArray) (prev:List PCl):Int:=
 if(idB x.o.ent&&x.o.ent==e0&&idB x.o.id)=false then 4 else if prev.any (fun y=>y.o.id==x.o.id)=true then 6 else if badT x=true then 2 else(doZ [nullC] x.o).1
def chkAt (l:List PCl) (k:Nat):Int:=match l[k]?,l[0]? with|some x,some y=>chk1 x y.o.ent (l.take k)|_,_=>0
def firstI:List Int→Int
 |[]=>0
 |v::r=>if v=0 then firstI r else v
def hcheckZ (l:List PCl):Int:=if 8<l.length then 3 else firstI ((List.range l.length).map (chkAt l))
theorem firstI_at {l:List Int} {k:Nat} {v:Int} (h:l[k]? =some v) (hb:∀j,j<k→∀u,l[j]? =some u→u=0) (hv:v≠0):firstI l=v:=by
 induction l generalizing k with
 |nil=>simp at h
 |cons u r ih=>
  cases k with
  |zero=>simp at h;subst h;simp[firstI,hv]
  |succ k=>
   have h0:=hb 0 (by omega) u rfl
   rw[firstI,if_pos h0]
   exact ih (by simpa using h) (fun j hj x hx=>hb (j+1) (by omega) x (by simpa using hx))
theorem firstI_all {l:List Int} (hb:∀v∈l,v=0):firstI l=0:=by
 induction l with
 |nil=>rfl
 |cons u r ih=>rw[firstI,if_pos (hb u (by simp))];exact ih (fun v hv=>hb v (by simp[hv]))
theorem firstI_zero {l:List Int} (h:firstI l=0):∀v∈l,v=0:=by
 induction l with
 |nil=>simp
 |cons u r ih=>
  rw[firstI]at h
  split at h
  ·rename_i h0
   intro v hv
   rcases List.mem_cons.1 hv with rfl|hv
   ·exact h0
   ·exact ih h v hv
  ·rename_i h0;exact absurd h h0
theorem hcheck_at {l:List PCl} {k:Nat} (h8:l.length≤8) (hk:k<l.length) (hb:∀j,j<k→chkAt l j=0) (hz:chkAt l k≠0):hcheckZ l=chkAt l k:=by
 unfold hcheckZ
 rw[if_neg (by omega)]
 refine firstI_at (k:=k) (by rw[List.getElem?_map,List.getElem?_range hk];rfl) (fun j hj u hu=> ?_) hz
 rw[List.getElem?_map,List.getElem?_range (by omega)]at hu
 simp only[Option.map_some,Option.some.injEq]at hu
 rw[←hu];exact hb j hj
theorem hcheck_ok {l:List PCl} (h8:l.length≤8) (hb:∀j,j<l.length→chkAt l j=0):hcheckZ l=0:=by
 unfold hcheckZ
 rw[if_neg (by omega)]
 refine firstI_all (fun v hv=> ?_)
 obtain⟨j,hj,rfl⟩:=List.mem_map.1 hv
 exact hb j (by simpa using hj)
theorem hcheck_zero {l:List PCl} (h:hcheckZ l=0):l.length≤8∧∀j,j<l.length→chkAt l j=0:=by
 unfold hcheckZ at h
 split at h
 ·simp at h
 ·exact⟨by omega,fun j hj=>firstI_zero h _ (List.mem_map.2 ⟨j,by simpa using hj,rfl⟩)⟩
theorem chkAt_cl {l:List Cl} {k:Nat} (hk:k<l.length):chkAt (l.map Cl.p) k=chk1 (l[k]).p (l[0]'(by omega)).o.ent ((l.take k).map Cl.p):=by
 unfold chkAt
 rw[List.getElem?_map,List.getElem?_map,List.getElem?_eq_getElem hk,List.getElem?_eq_getElem (by omega)]
 simp[List.map_take]
 rfl
theorem hasId_map (l:List Cl) (id:ByteArray):(l.map Cl.p).any (fun y=>y.o.id==id)=hasId l id:=by
 unfold hasId
 rw[List.any_map]
 rfl
theorem nullGood:goodL [nullC]:=⟨by simp,fun x hx=>by simp at hx;subst hx;exact⟨by decide,by decide,(show(⟨#[]⟩:ByteArray).size≤maxLen from Nat.zero_le _),by decide⟩⟩
theorem chk1_name {x:PCl} {e0:ByteArray} {prev:List PCl} (h:false=(idB x.o.ent&&x.o.ent==e0&&idB x.o.id)):chk1 x e0 prev=4:=if_pos h.symm
theorem chk1_id {x:PCl} {e0:ByteArray} {prev:List PCl} (h:true=(idB x.o.ent&&x.o.ent==e0&&idB x.o.id)) (h2:prev.any (fun y=>y.o.id==x.o.id)=true):chk1 x e0 prev=6:=by unfold chk1;rw[if_neg (by rw[←h];simp),if_pos h2]
theorem chk1_bad {x:PCl} {e0:ByteArray} {prev:List PCl} (h:true=(idB x.o.ent&&x.o.ent==e0&&idB x.o.id)) (h2:prev.any (fun y=>y.o.id==x.o.id)=false) (h3:badT x=true):chk1 x e0 prev=2:=by unfold chk1;rw[if_neg (by rw[←h];simp),if_neg (by rw[h2];simp),if_pos h3]
theorem chk1_do {x:PCl} {e0:ByteArray} {prev:List PCl} (h:true=(idB x.o.ent&&x.o.ent==e0&&idB x.o.id)) (h2:prev.any (fun y=>y.o.id==x.o.id)=false) (h3:badT x=false):chk1 x e0 prev=(doZ [nullC] x.o).1:=by unfold chk1;rw[if_neg (by rw[←h];simp),if_neg (by rw[h2];simp),if_neg (by rw[h3];simp)]
theorem clTake {w:World} {g o m:Nat} {l:List Cl} (h:SlIs clC 8 w (some ⟨g,o,none⟩) l.length l) (hm:m≤l.length):SlIs clC 8 w (some ⟨g,o,none⟩) (l.take m).length (l.take m):=
 ⟨rfl,fun k hk=>by
   rw[List.length_take]at hk
   obtain⟨b,off,h1,h2,h3⟩:=h.2 k (by omega)
   exact⟨b,off,h1,h2,fun j hj=>by rw[List.getElem_take];exact h3 j hj⟩⟩
theorem sizeCall (w:World):(sizeOf (Tryz.prog.elem 75)).run Tryz.prog w= .ok 8 w:=by kernel_rfl
theorem elemCalls:Tryz.prog.underlying 75=some (.slice (Tryz.prog.elem 75)):=by kernel_rfl
theorem four_cells {w:World} {b:Nat} {x:Cl} (h:w.heap[b]? =some (clO x)):w.cell? ⟨b,0,none⟩=some (.string x.o.ent)∧w.cell? ⟨b,1,none⟩=some (.string x.o.id)∧w.cell? ⟨b,2,none⟩=some (.string x.o.op)∧w.cell? ⟨b,3,none⟩=some (.slice x.o.aa x.o.args.length x.o.ac):=
 ⟨blk_cell (show w.heap[b]? =some (.cells _ _ (0,0))from h) 0,blk_cell (show w.heap[b]? =some (.cells _ _ (0,0))from h) 1,blk_cell (show w.heap[b]? =some (.cells _ _ (0,0))from h) 2,blk_cell (show w.heap[b]? =some (.cells _ _ (0,0))from h) 3⟩
theorem far_blk {w:World} {b b2:Nat} {x:Cl} {y0 y1 u v:Value} {t2:TypeId} (h:w.heap[b]? =some (clO x)) (h2:w.heap[b2]? =some (.cells #[y0,y1] t2 (0,0))):
 ((w.setCell ⟨b2,0,none⟩ u).setCell ⟨b2,1,none⟩ v).heap[b]? =some (clO x):=by
 have hne:b≠b2:=by
  rintro rfl
  rw[h]at h2
  simp[clO]at h2
 exact(blk_set_ne 1 _ hne).trans ((blk_set_ne 0 _ hne).trans h)
theorem chg_two {S:List Nat} {w w':World} {b2:Nat} (h:Chg S w w') (hb:w.heap.size≤b2) (u v:Value):Chg S w ((w'.setCell ⟨b2,0,none⟩ u).setCell ⟨b2,1,none⟩ v):=
 (h.setCell _ _ (fun hl=>by simp only at hl;omega)).setCell _ _ (fun hl=>by simp only at hl;omega)
theorem lcheck_any {a:Option Addr} {c:Nat} {l:List Cl} {w:World} (h:LIn w a c l) (hg:∀x∈l,goodCl x) (ht:TabW w):
 Calls Tryz.prog 109 #[.slice a l.length c] w fun e w'=>e= .returned (.int .i64 (hcheckZ (l.map Cl.p)))∧Chg [] w w':=by
 obtain⟨R,hR⟩:∃R,R=hcheckZ (l.map Cl.p):=⟨_,rfl⟩
 rw[←hR]
 have HR:=LH hR
 have H:=LH h
 have HG:=LH hg
 have HT:=LH ht
 clear h hg ht hR
 by_cases h8:8<l.length
 ·have HE:=LH (show R=3 by rw[HR.out];unfold hcheckZ;rw[List.length_map,if_pos h8])
  have h8':(8:Int)<(l.length:Int):=by omega
  go_enter Tryz.func109,Tryz.ntmps109
  go_wp2_with fail
  go_ret
  exact⟨by rw[HE.out];rfl,Chg.refl _ _⟩
 have h8':(l.length:Int)≤8:=by omega
 have H8:=LH (show(l.map Cl.p).length≤8 by rw[List.length_map];omega)
 clear h8
 go_enter Tryz.func109,Tryz.ntmps109
 go_wp2_with fail
 go_loopw [13] (fun i wr=>∃k:Nat,i= .int .i64 k∧k≤l.length∧Hid (∀j,j<k→chkAt (l.map Cl.p) j=0)∧Hid (Chg [] w wr)) (fun i _=>l.length-(intOf i).toNat)
 case atStart=>exact⟨0,rfl,Nat.zero_le _,LH (fun j hj=>by omega),LH (Chg.refl _ _)⟩
 case round=>
  obtain⟨k,rfl,hkl,HS,D⟩:=hrel
  have hk0:(0:Int)≤(k:Int):=by omega
  by_cases hk:k<l.length
  ·obtain⟨b,off,rfl, -,hcc⟩:=H.out.at8 (w':=w) k hk
   obtain⟨b',off',e, -,hcc0⟩:=H.out.at8 (w':=w) 0 (by omega)
   cases e
   have HX:=LH (chkAt_cl hk)
   have hin:=H.out.2 _ (List.getElem_mem hk)
   have hgx:=HG.out _ (List.getElem_mem hk)
   have hge:=HG.out _ (List.getElem_mem (show 0<l.length by omega))
   obtain⟨d0,d1,d2,d3,d4,d5,d6,d7⟩:=hcc _ D.out
   have HE0:=LH (fun w' hc=>(hcc0 w' hc).1)
   have HAT:=LH (fun(hz:chkAt (l.map Cl.p) k≠0)=>hcheck_at H8.out (by rw[List.length_map];exact hk) HS.out hz)
   generalize l[k]=x at*
   generalize (l[0]'(by omega)).o.ent=e0 at*
   have IN:=LH hin
   have GX:=LH hgx
   have hk1:(k:Int)<(l.length:Int):=by omega
   have hk00:0<l.length:=by omega
   obtain⟨W1,hW1⟩:∃W1,W1=wr.alloc (clO x):=⟨_,rfl⟩
   have C1:=LH (show Chg [] w W1 by rw[hW1];exact D.out.alloc _)
   have B1:=LH (show W1.heap[wr.heap.size]? =some (clO x) by rw[hW1];exact heap_alloc_new _ _)
   unfold clO at hW1
   have HW1:=LH hW1
   have A1:=LH (fun w'=>ID_any x.o.ent w' GX.out.1.1)
   have A2:=LH (fun w'=>ID_any x.o.id w' GX.out.1.2.1)
   clear hcc hcc0 hin hgx hge hW1
   obtain⟨q1,hq1⟩:∃q,q=idB x.o.ent:=⟨_,rfl⟩
   obtain⟨q2,hq2⟩:∃q,q=idB x.o.id:=⟨_,rfl⟩
   obtain⟨N,hN⟩:∃N,N=(q1&&x.o.ent==e0&&q2):=⟨_,rfl⟩
   have HN:=LH hN
   have HNQ:=LH (show N=(idB x.o.ent&&x.o.ent==e0&&idB x.o.id) by rw[hN,hq1,hq2])
   rw[←hq1]at A1
   rw[←hq2]at A2
   clear hq1 hq2 hN
   go_upto_region 6 with fail
   rw[←HW1.out]
   clear d0 d1 d2 d3 d4 d5 d6 d7
   go_cut [40] (fun v wx=>v= .bool (!N)∧Hid (wx.heap[wr.heap.size]? =some (clO x))∧Hid (Chg [] w wx))
   case first=>
    obtain⟨wd,hwd⟩:∃wd,wd=W1.drew:=⟨_,rfl⟩
    have D0:=LH (show Chg [] w wd by rw[hwd];exact C1.out.drew)
    have K0:=LH (show wd.heap[wr.heap.size]? =some (clO x) by rw[hwd];exact((Chg.refl [] W1).drew).at (by simp) B1.out)
    have CE:=LH (fun w' (hc:Chg [] w w') (hb:w'.heap[wr.heap.size]? =some (clO x))=>And.intro (blk_cell (show w'.heap[wr.heap.size]? =some (.cells _ _ (0,0))from hb) 0) (And.intro (blk_cell (show w'.heap[wr.heap.size]? =some (.cells _ _ (0,0))from hb) 1) (HE0.out w' hc)))
    simp only[List.getElem?_toArray,List.getElem?_cons_zero,List.getElem?_cons_succ,Nat.zero_mul,Nat.add_zero]at CE
    refine wp_region_noPanic ?_
    refine wp_region_held_drew (S:=(fun w'=>w'.cell? ⟨wr.heap.size,0,none⟩=some (.string x.o.ent)∧w'.cell? ⟨wr.heap.size,1,none⟩=some (.string x.o.id)∧w'.cell? ⟨b,off,none⟩=some (.string e0))) (by kernel_rfl) (by rw[←hwd];exact CE.out _ D0.out K0.out) (fun hHeld=> ?_)
    rw[←hwd]at hHeld⊢
    clear hwd
    cases q1
    ·
     refine wpAnyH_take (i:=0) (oi:=_) (v:= ?vA_0) rfl (by kernel_rfl) (by kernel_rfl) (by kernel_rfl) (fun _ _ _ h=>h) (Or.inl ⟨by rfl, ?yA_0⟩) hHeld ?rA_0
     case yA_0=>(intro w hSw;(try dsimp only at hSw);(try simp only[gTA,gCZ,gCS]);go_simp<;>with_reducible rfl)
     (try simp only[gTA,gCZ,gCS,Act.put,sTA,sCZ,sCS])
     refine wpAnyH_take (i:=1) (oi:=_) (v:= ?vA_1) rfl (by kernel_rfl) (by kernel_rfl) (by kernel_rfl) (fun _ _ _ h=>h) (Or.inl ⟨by rfl, ?yA_1⟩) hHeld ?rA_1
     case yA_1=>(intro w hSw;(try dsimp only at hSw);(try simp only[gTA,gCZ,gCS]);go_simp<;>with_reducible rfl)
     (try simp only[gTA,gCZ,gCS,Act.put,sTA,sCZ,sCS])
     refine wpAnyH_take (i:=2) (oi:=_) (v:= ?vA_2) rfl (by kernel_rfl) (by kernel_rfl) (by kernel_rfl) (fun _ _ _ h=>h) (Or.inl ⟨by rfl, ?yA_2⟩) hHeld ?rA_2
     case yA_2=>(intro w hSw;(try dsimp only at hSw);(try simp only[gTA,gCZ,gCS]);go_simp<;>with_reducible rfl)
     (try simp only[gTA,gCZ,gCS,Act.put,sTA,sCZ,sCS])
     refine wpAnyH_ready (rs:=[3]) (by kernel_rfl) (by simp) ?_
     refine AllReadyH.cons (o:=_) rfl (fun K hK=> ?_) AllReadyH.nil
     (try simp only[gTA,gCZ,gCS])
     go_simp
     (refine Calls.mono (A1.out _) ?_;rintro e w2 ⟨rfl,hc⟩;have D2:=LH (D0.out.thenSame (Chg.ofBelow hc));have K2:=LH ((Chg.ofBelow (S:=[]) hc).at (by simp) K0.out);clear hc)
     refine hK.out _ _ ?_ (fun hHeld=> ?_)
     exact CE.out _ D2.out K2.out
     clear hK K
     (try simp only[gTA,gCZ,gCS,Act.put,sTA,sCZ,sCS])
     refine wpAnyH_take (i:=4) (oi:=_) (v:= ?vA_4) rfl (by kernel_rfl) (by kernel_rfl) (by kernel_rfl) (fun _ _ _ h=>h) (Or.inl ⟨by rfl, ?yA_4⟩) hHeld ?rA_4
     case yA_4=>(intro w hSw;(try dsimp only at hSw);(try simp only[gTA,gCZ,gCS]);go_simp<;>with_reducible rfl)
     (try simp only[gTA,gCZ,gCS,Act.put,sTA,sCZ,sCS])
     refine wpAnyH_take (i:=5) (oi:=_) (v:= ?vA_5) rfl (by kernel_rfl) (by kernel_rfl) (by kernel_rfl) (fun _ _ _ h=>h) (Or.inl ⟨by rfl, ?yA_5⟩) hHeld ?rA_5
     case yA_5=>(intro w hSw;(try dsimp only at hSw);(try simp only[gTA,gCZ,gCS]);go_simp<;>with_reducible rfl)
     (try simp only[gTA,gCZ,gCS,Act.put,sTA,sCZ,sCS])
     refine wpAnyH_take (i:=6) (oi:=_) (v:=_) rfl (by kernel_rfl) (by kernel_rfl) (by kernel_rfl) (fun _ _ _ h=>h) (Or.inr ⟨by rfl,rfl⟩) hHeld ?_
     (try simp only[gTA,gCZ,gCS,Act.put,sTA,sCZ,sCS])
     refine wpAnyH_take (i:=7) (oi:=_) (v:=_) rfl (by kernel_rfl) (by kernel_rfl) (by kernel_rfl) (fun _ _ _ h=>h) (Or.inr ⟨by rfl,rfl⟩) hHeld ?_
     (try simp only[gTA,gCZ,gCS,Act.put,sTA,sCZ,sCS])
     refine wpAnyH_take (i:=8) (oi:=_) (v:=_) rfl (by kernel_rfl) (by kernel_rfl) (by kernel_rfl) (fun _ _ _ h=>h) (Or.inr ⟨by rfl,rfl⟩) hHeld ?_
     (try simp only[gTA,gCZ,gCS,Act.put,sTA,sCZ,sCS])
     refine wpAnyH_take (i:=9) (oi:=_) (v:=_) rfl (by kernel_rfl) (by kernel_rfl) (by kernel_rfl) (fun _ _ _ h=>h) (Or.inr ⟨by rfl,rfl⟩) hHeld ?_
     (try simp only[gTA,gCZ,gCS,Act.put,sTA,sCZ,sCS])
     refine wpAnyH_take (i:=10) (oi:=_) (v:=_) rfl (by kernel_rfl) (by kernel_rfl) (by kernel_rfl) (fun _ _ _ h=>h) (Or.inr ⟨by rfl,rfl⟩) hHeld ?_
     (try simp only[gTA,gCZ,gCS,Act.put,sTA,sCZ,sCS])
     refine wpAnyH_take (i:=11) (oi:=_) (v:=_) rfl (by kernel_rfl) (by kernel_rfl) (by kernel_rfl) (fun _ _ _ h=>h) (Or.inr ⟨by rfl,rfl⟩) hHeld ?_
     (try simp only[gTA,gCZ,gCS,Act.put,sTA,sCZ,sCS])
     refine wpAnyH_take (i:=12) (oi:=_) (v:=_) rfl (by kernel_rfl) (by kernel_rfl) (by kernel_rfl) (fun _ _ _ h=>h) (Or.inr ⟨by rfl,rfl⟩) hHeld ?_
     (try simp only[gTA,gCZ,gCS,Act.put,sTA,sCZ,sCS])
     refine wpAnyH_take (i:=13) (oi:=_) (v:=_) rfl (by kernel_rfl) (by kernel_rfl) (by kernel_rfl) (fun _ _ _ h=>h) (Or.inr ⟨by rfl,rfl⟩) hHeld ?_
     (try simp only[gTA,gCZ,gCS,Act.put,sTA,sCZ,sCS])
     refine wpAnyH_take (i:=14) (oi:=_) (v:=_) rfl (by kernel_rfl) (by kernel_rfl) (by kernel_rfl) (fun _ _ _ h=>h) (Or.inr ⟨by rfl,rfl⟩) hHeld ?_
     (try simp only[gTA,gCZ,gCS,Act.put,sTA,sCZ,sCS])
     refine wpAnyH_take (i:=15) (oi:=_) (v:= ?vA_15) rfl (by kernel_rfl) (by kernel_rfl) (by kernel_rfl) (fun _ _ _ h=>h) (Or.inl ⟨by rfl, ?yA_15⟩) hHeld ?rA_15
     case yA_15=>(intro w hSw;(try dsimp only at hSw);(try simp only[gTA,gCZ,gCS]);go_simp<;>with_reducible rfl)
     (try simp only[gTA,gCZ,gCS,Act.put,sTA,sCZ,sCS])
     refine wpAnyH_take (i:=16) (oi:=_) (v:= ?vA_16) rfl (by kernel_rfl) (by kernel_rfl) (by kernel_rfl) (fun _ _ _ h=>h) (Or.inl ⟨by rfl, ?yA_16⟩) hHeld ?rA_16
     case yA_16=>(intro w hSw;(try dsimp only at hSw);(try simp only[gTA,gCZ,gCS]);go_simp<;>with_reducible rfl)
     (try simp only[gTA,gCZ,gCS,Act.put,sTA,sCZ,sCS])
     refine wpAnyH_take (i:=17) (oi:=_) (v:=_) rfl (by kernel_rfl) (by kernel_rfl) (by kernel_rfl) (fun _ _ _ h=>h) (Or.inr ⟨by rfl,rfl⟩) hHeld ?_
     (try simp only[gTA,gCZ,gCS,Act.put,sTA,sCZ,sCS])
     refine wpAnyH_take (i:=18) (oi:=_) (v:=_) rfl (by kernel_rfl) (by kernel_rfl) (by kernel_rfl) (fun _ _ _ h=>h) (Or.inr ⟨by rfl,rfl⟩) hHeld ?_
     (try simp only[gTA,gCZ,gCS,Act.put,sTA,sCZ,sCS])
     refine wpAnyH_take (i:=19) (oi:=_) (v:=_) rfl (by kernel_rfl) (by kernel_rfl) (by kernel_rfl) (fun _ _ _ h=>h) (Or.inr ⟨by rfl,rfl⟩) hHeld ?_
     (try simp only[gTA,gCZ,gCS,Act.put,sTA,sCZ,sCS])
     refine wpAnyH_take (i:=20) (oi:=_) (v:=_) rfl (by kernel_rfl) (by kernel_rfl) (by kernel_rfl) (fun _ _ _ h=>h) (Or.inr ⟨by rfl,rfl⟩) hHeld ?_
     (try simp only[gTA,gCZ,gCS,Act.put,sTA,sCZ,sCS])
     refine wpAnyH_take (i:=21) (oi:=_) (v:=_) rfl (by kernel_rfl) (by kernel_rfl) (by kernel_rfl) (fun _ _ _ h=>h) (Or.inr ⟨by rfl,rfl⟩) hHeld ?_
     (try simp only[gTA,gCZ,gCS,Act.put,sTA,sCZ,sCS])
     refine wpAnyH_take (i:=22) (oi:=_) (v:= ?vA_22) rfl (by kernel_rfl) (by kernel_rfl) (by kernel_rfl) (fun _ _ _ h=>h) (Or.inl ⟨by rfl, ?yA_22⟩) hHeld ?rA_22
     case yA_22=>(intro w hSw;(try dsimp only at hSw);(try simp only[gTA,gCZ,gCS]);go_simp<;>with_reducible rfl)
     (try simp only[gTA,gCZ,gCS,Act.put,sTA,sCZ,sCS])
     refine wpAnyH_done (by kernel_rfl) ?_ _
     refine NoPanic.normal ?_
     go_wp2_with fail
     go_meet
     exact⟨by rw[HN.out];rfl,K2,D2⟩
    cases q3:(x.o.ent==e0)
    ·have s1:(x.o.ent !=e0)=true:=by rw[bne,q3];rfl
     have s2:(x.o.ent.toList !=e0.toList)=true:=by rw[bne,←beq_toListBytes,q3];rfl
     have HQ3:=LH q3
     have q4:=(beq_toListBytes x.o.ent e0).symm.trans q3
     have q5: ¬x.o.ent=e0∨x.o.ent=e0:=(Classical.em _).symm
     clear q5
     refine wpAnyH_take (i:=0) (oi:=_) (v:= ?vB_0) rfl (by kernel_rfl) (by kernel_rfl) (by kernel_rfl) (fun _ _ _ h=>h) (Or.inl ⟨by rfl, ?yB_0⟩) hHeld ?rB_0
     case yB_0=>(intro w hSw;(try dsimp only at hSw);(try simp only[gTA,gCZ,gCS]);go_simp<;>with_reducible rfl)
     (try simp only[gTA,gCZ,gCS,Act.put,sTA,sCZ,sCS])
     refine wpAnyH_take (i:=1) (oi:=_) (v:= ?vB_1) rfl (by kernel_rfl) (by kernel_rfl) (by kernel_rfl) (fun _ _ _ h=>h) (Or.inl ⟨by rfl, ?yB_1⟩) hHeld ?rB_1
     case yB_1=>(intro w hSw;(try dsimp only at hSw);(try simp only[gTA,gCZ,gCS]);go_simp<;>with_reducible rfl)
     (try simp only[gTA,gCZ,gCS,Act.put,sTA,sCZ,sCS])
     refine wpAnyH_take (i:=2) (oi:=_) (v:= ?vB_2) rfl (by kernel_rfl) (by kernel_rfl) (by kernel_rfl) (fun _ _ _ h=>h) (Or.inl ⟨by rfl, ?yB_2⟩) hHeld ?rB_2
     case yB_2=>(intro w hSw;(try dsimp only at hSw);(try simp only[gTA,gCZ,gCS]);go_simp<;>with_reducible rfl)
     (try simp only[gTA,gCZ,gCS,Act.put,sTA,sCZ,sCS])
     refine wpAnyH_ready (rs:=[3]) (by kernel_rfl) (by simp) ?_
     refine AllReadyH.cons (o:=_) rfl (fun K hK=> ?_) AllReadyH.nil
     (try simp only[gTA,gCZ,gCS])
     go_simp
     (refine Calls.mono (A1.out _) ?_;rintro e w2 ⟨rfl,hc⟩;have D2:=LH (D0.out.thenSame (Chg.ofBelow hc));have K2:=LH ((Chg.ofBelow (S:=[]) hc).at (by simp) K0.out);clear hc)
     refine hK.out _ _ ?_ (fun hHeld=> ?_)
     exact CE.out _ D2.out K2.out
     clear hK K
     (try simp only[gTA,gCZ,gCS,Act.put,sTA,sCZ,sCS])
     refine wpAnyH_take (i:=4) (oi:=_) (v:= ?vB_4) rfl (by kernel_rfl) (by kernel_rfl) (by kernel_rfl) (fun _ _ _ h=>h) (Or.inl ⟨by rfl, ?yB_4⟩) hHeld ?rB_4
     case yB_4=>(intro w hSw;(try dsimp only at hSw);(try simp only[gTA,gCZ,gCS]);go_simp<;>with_reducible rfl)
     (try simp only[gTA,gCZ,gCS,Act.put,sTA,sCZ,sCS])
     refine wpAnyH_take (i:=5) (oi:=_) (v:= ?vB_5) rfl (by kernel_rfl) (by kernel_rfl) (by kernel_rfl) (fun _ _ _ h=>h) (Or.inl ⟨by rfl, ?yB_5⟩) hHeld ?rB_5
     case yB_5=>(intro w hSw;(try dsimp only at hSw);(try simp only[gTA,gCZ,gCS]);go_simp<;>with_reducible rfl)
     (try simp only[gTA,gCZ,gCS,Act.put,sTA,sCZ,sCS])
     refine wpAnyH_take (i:=6) (oi:=_) (v:= ?vB_6) rfl (by kernel_rfl) (by kernel_rfl) (by kernel_rfl) (fun _ _ _ h=>h) (Or.inl ⟨by rfl, ?yB_6⟩) hHeld ?rB_6
     case yB_6=>(intro w hSw;(try dsimp only at hSw);(try simp only[gTA,gCZ,gCS]);go_simp<;>with_reducible rfl)
     (try simp only[gTA,gCZ,gCS,Act.put,sTA,sCZ,sCS])
     refine wpAnyH_take (i:=7) (oi:=_) (v:= ?vB_7) rfl (by kernel_rfl) (by kernel_rfl) (by kernel_rfl) (fun _ _ _ h=>h) (Or.inl ⟨by rfl, ?yB_7⟩) hHeld ?rB_7
     case yB_7=>(intro w hSw;(try dsimp only at hSw);(try simp only[gTA,gCZ,gCS]);go_simp<;>with_reducible rfl)
     (try simp only[gTA,gCZ,gCS,Act.put,sTA,sCZ,sCS])
     refine wpAnyH_take (i:=8) (oi:=_) (v:= ?vB_8) rfl (by kernel_rfl) (by kernel_rfl) (by kernel_rfl) (fun _ _ _ h=>h) (Or.inl ⟨by rfl, ?yB_8⟩) hHeld ?rB_8
     case yB_8=>(intro w hSw;(try dsimp only at hSw);(try simp only[gTA,gCZ,gCS]);go_simp<;>with_reducible rfl)
     (try simp only[gTA,gCZ,gCS,Act.put,sTA,sCZ,sCS])
     refine wpAnyH_take (i:=9) (oi:=_) (v:= ?vB_9) rfl (by kernel_rfl) (by kernel_rfl) (by kernel_rfl) (fun _ _ _ h=>h) (Or.inl ⟨by rfl, ?yB_9⟩) hHeld ?rB_9
     case yB_9=>(intro w hSw;(try dsimp only at hSw);(try simp only[gTA,gCZ,gCS]);go_simp<;>with_reducible rfl)
     (try simp only[gTA,gCZ,gCS,Act.put,sTA,sCZ,sCS])
     refine wpAnyH_take (i:=10) (oi:=_) (v:= ?vB_10) rfl (by kernel_rfl) (by kernel_rfl) (by kernel_rfl) (fun _ _ _ h=>h) (Or.inl ⟨by rfl, ?yB_10⟩) hHeld ?rB_10
     case yB_10=>(intro w hSw;(try dsimp only at hSw);(try simp only[gTA,gCZ,gCS]);go_simp<;>with_reducible rfl)
     (try simp only[gTA,gCZ,gCS,Act.put,sTA,sCZ,sCS])
     refine wpAnyH_take (i:=11) (oi:=_) (v:= ?vB_11) rfl (by kernel_rfl) (by kernel_rfl) (by kernel_rfl) (fun _ _ _ h=>h) (Or.inl ⟨by rfl, ?yB_11⟩) hHeld ?rB_11
     case yB_11=>(intro w hSw;(try dsimp only at hSw);(try simp only[gTA,gCZ,gCS]);go_simp<;>with_reducible rfl)
     (try simp only[gTA,gCZ,gCS,Act.put,sTA,sCZ,sCS])
     refine wpAnyH_take (i:=12) (oi:=_) (v:= ?vB_12) rfl (by kernel_rfl) (by kernel_rfl) (by kernel_rfl) (fun _ _ _ h=>h) (Or.inl ⟨by rfl, ?yB_12⟩) hHeld ?rB_12
     case yB_12=>(intro w hSw;(try dsimp only at hSw);(try simp only[gTA,gCZ,gCS]);go_simp<;>with_reducible rfl)
     (try simp only[gTA,gCZ,gCS,Act.put,sTA,sCZ,sCS])
     refine wpAnyH_take (i:=13) (oi:=_) (v:= ?vB_13) rfl (by kernel_rfl) (by kernel_rfl) (by kernel_rfl) (fun _ _ _ h=>h) (Or.inl ⟨by rfl, ?yB_13⟩) hHeld ?rB_13
     case yB_13=>(intro w hSw;(try dsimp only at hSw);(try simp only[gTA,gCZ,gCS]);go_simp<;>with_reducible rfl)
     (try simp only[gTA,gCZ,gCS,Act.put,sTA,sCZ,sCS])
     refine wpAnyH_take (i:=14) (oi:=_) (v:= ?vB_14) rfl (by kernel_rfl) (by kernel_rfl) (by kernel_rfl) (fun _ _ _ h=>h) (Or.inl ⟨by rfl, ?yB_14⟩) hHeld ?rB_14
     case yB_14=>(intro w hSw;(try dsimp only at hSw);(try simp only[gTA,gCZ,gCS]);go_simp<;>with_reducible rfl)
     (try simp only[gTA,gCZ,gCS,Act.put,sTA,sCZ,sCS])
     refine wpAnyH_take (i:=15) (oi:=_) (v:= ?vB_15) rfl (by kernel_rfl) (by kernel_rfl) (by kernel_rfl) (fun _ _ _ h=>h) (Or.inl ⟨by rfl, ?yB_15⟩) hHeld ?rB_15
     case yB_15=>(intro w hSw;(try dsimp only at hSw);(try simp only[gTA,gCZ,gCS]);go_simp<;>with_reducible rfl)
     (try simp only[gTA,gCZ,gCS,Act.put,sTA,sCZ,sCS])
     refine wpAnyH_take (i:=16) (oi:=_) (v:= ?vB_16) rfl (by kernel_rfl) (by kernel_rfl) (by kernel_rfl) (fun _ _ _ h=>h) (Or.inl ⟨by rfl, ?yB_16⟩) hHeld ?rB_16
     case yB_16=>(intro w hSw;(try dsimp only at hSw);(try simp only[gTA,gCZ,gCS]);go_simp<;>with_reducible rfl)
     (try simp only[gTA,gCZ,gCS,Act.put,sTA,sCZ,sCS])
     refine wpAnyH_take (i:=17) (oi:=_) (v:=_) rfl (by kernel_rfl) (by kernel_rfl) (by kernel_rfl) (fun _ _ _ h=>h) (Or.inr ⟨by rfl,rfl⟩) hHeld ?_
     (try simp only[gTA,gCZ,gCS,Act.put,sTA,sCZ,sCS])
     refine wpAnyH_take (i:=18) (oi:=_) (v:=_) rfl (by kernel_rfl) (by kernel_rfl) (by kernel_rfl) (fun _ _ _ h=>h) (Or.inr ⟨by rfl,rfl⟩) hHeld ?_
     (try simp only[gTA,gCZ,gCS,Act.put,sTA,sCZ,sCS])
     refine wpAnyH_take (i:=19) (oi:=_) (v:=_) rfl (by kernel_rfl) (by kernel_rfl) (by kernel_rfl) (fun _ _ _ h=>h) (Or.inr ⟨by rfl,rfl⟩) hHeld ?_
     (try simp only[gTA,gCZ,gCS,Act.put,sTA,sCZ,sCS])
     refine wpAnyH_take (i:=20) (oi:=_) (v:=_) rfl (by kernel_rfl) (by kernel_rfl) (by kernel_rfl) (fun _ _ _ h=>h) (Or.inr ⟨by rfl,rfl⟩) hHeld ?_
     (try simp only[gTA,gCZ,gCS,Act.put,sTA,sCZ,sCS])
     refine wpAnyH_take (i:=21) (oi:=_) (v:=_) rfl (by kernel_rfl) (by kernel_rfl) (by kernel_rfl) (fun _ _ _ h=>h) (Or.inr ⟨by rfl,rfl⟩) hHeld ?_
     (try simp only[gTA,gCZ,gCS,Act.put,sTA,sCZ,sCS])
     refine wpAnyH_take (i:=22) (oi:=_) (v:= ?vB_22) rfl (by kernel_rfl) (by kernel_rfl) (by kernel_rfl) (fun _ _ _ h=>h) (Or.inl ⟨by rfl, ?yB_22⟩) hHeld ?rB_22
     case yB_22=>(intro w hSw;(try dsimp only at hSw);(try simp only[gTA,gCZ,gCS]);go_simp<;>with_reducible rfl)
     (try simp only[gTA,gCZ,gCS,Act.put,sTA,sCZ,sCS])
     refine wpAnyH_done (by kernel_rfl) ?_ _
     refine NoPanic.normal ?_
     go_wp2_with fail
     go_meet
     exact⟨by rw[HN.out,HQ3.out];rfl,K2,D2⟩
    ·have s1:(x.o.ent !=e0)=false:=by rw[bne,q3];rfl
     have s2:(x.o.ent.toList !=e0.toList)=false:=by rw[bne,←beq_toListBytes,q3];rfl
     have HQ3:=LH q3
     have q4:=(beq_toListBytes x.o.ent e0).symm.trans q3
     have q5: ¬x.o.ent=e0∨x.o.ent=e0:=(Classical.em _).symm
     clear q5
     refine wpAnyH_take (i:=0) (oi:=_) (v:= ?vC_0) rfl (by kernel_rfl) (by kernel_rfl) (by kernel_rfl) (fun _ _ _ h=>h) (Or.inl ⟨by rfl, ?yC_0⟩) hHeld ?rC_0
     case yC_0=>(intro w hSw;(try dsimp only at hSw);(try simp only[gTA,gCZ,gCS]);go_simp<;>with_reducible rfl)
     (try simp only[gTA,gCZ,gCS,Act.put,sTA,sCZ,sCS])
     refine wpAnyH_take (i:=1) (oi:=_) (v:= ?vC_1) rfl (by kernel_rfl) (by kernel_rfl) (by kernel_rfl) (fun _ _ _ h=>h) (Or.inl ⟨by rfl, ?yC_1⟩) hHeld ?rC_1
     case yC_1=>(intro w hSw;(try dsimp only at hSw);(try simp only[gTA,gCZ,gCS]);go_simp<;>with_reducible rfl)
     (try simp only[gTA,gCZ,gCS,Act.put,sTA,sCZ,sCS])
     refine wpAnyH_take (i:=2) (oi:=_) (v:= ?vC_2) rfl (by kernel_rfl) (by kernel_rfl) (by kernel_rfl) (fun _ _ _ h=>h) (Or.inl ⟨by rfl, ?yC_2⟩) hHeld ?rC_2
     case yC_2=>(intro w hSw;(try dsimp only at hSw);(try simp only[gTA,gCZ,gCS]);go_simp<;>with_reducible rfl)
     (try simp only[gTA,gCZ,gCS,Act.put,sTA,sCZ,sCS])
     refine wpAnyH_ready (rs:=[3]) (by kernel_rfl) (by simp) ?_
     refine AllReadyH.cons (o:=_) rfl (fun K hK=> ?_) AllReadyH.nil
     (try simp only[gTA,gCZ,gCS])
     go_simp
     (refine Calls.mono (A1.out _) ?_;rintro e w2 ⟨rfl,hc⟩;have D2:=LH (D0.out.thenSame (Chg.ofBelow hc));have K2:=LH ((Chg.ofBelow (S:=[]) hc).at (by simp) K0.out);clear hc)
     refine hK.out _ _ ?_ (fun hHeld=> ?_)
     exact CE.out _ D2.out K2.out
     clear hK K
     (try simp only[gTA,gCZ,gCS,Act.put,sTA,sCZ,sCS])
     refine wpAnyH_take (i:=4) (oi:=_) (v:= ?vC_4) rfl (by kernel_rfl) (by kernel_rfl) (by kernel_rfl) (fun _ _ _ h=>h) (Or.inl ⟨by rfl, ?yC_4⟩) hHeld ?rC_4
     case yC_4=>(intro w hSw;(try dsimp only at hSw);(try simp only[gTA,gCZ,gCS]);go_simp<;>with_reducible rfl)
     (try simp only[gTA,gCZ,gCS,Act.put,sTA,sCZ,sCS])
     refine wpAnyH_take (i:=5) (oi:=_) (v:= ?vC_5) rfl (by kernel_rfl) (by kernel_rfl) (by kernel_rfl) (fun _ _ _ h=>h) (Or.inl ⟨by rfl, ?yC_5⟩) hHeld ?rC_5
     case yC_5=>(intro w hSw;(try dsimp only at hSw);(try simp only[gTA,gCZ,gCS]);go_simp<;>with_reducible rfl)
     (try simp only[gTA,gCZ,gCS,Act.put,sTA,sCZ,sCS])
     refine wpAnyH_take (i:=6) (oi:=_) (v:= ?vC_6) rfl (by kernel_rfl) (by kernel_rfl) (by kernel_rfl) (fun _ _ _ h=>h) (Or.inl ⟨by rfl, ?yC_6⟩) hHeld ?rC_6
     case yC_6=>(intro w hSw;(try dsimp only at hSw);(try simp only[gTA,gCZ,gCS]);go_simp<;>with_reducible rfl)
     (try simp only[gTA,gCZ,gCS,Act.put,sTA,sCZ,sCS])
     refine wpAnyH_take (i:=7) (oi:=_) (v:= ?vC_7) rfl (by kernel_rfl) (by kernel_rfl) (by kernel_rfl) (fun _ _ _ h=>h) (Or.inl ⟨by rfl, ?yC_7⟩) hHeld ?rC_7
     case yC_7=>(intro w hSw;(try dsimp only at hSw);(try simp only[gTA,gCZ,gCS]);go_simp<;>with_reducible rfl)
     (try simp only[gTA,gCZ,gCS,Act.put,sTA,sCZ,sCS])
     refine wpAnyH_take (i:=8) (oi:=_) (v:= ?vC_8) rfl (by kernel_rfl) (by kernel_rfl) (by kernel_rfl) (fun _ _ _ h=>h) (Or.inl ⟨by rfl, ?yC_8⟩) hHeld ?rC_8
     case yC_8=>(intro w hSw;(try dsimp only at hSw);(try simp only[gTA,gCZ,gCS]);go_simp<;>with_reducible rfl)
     (try simp only[gTA,gCZ,gCS,Act.put,sTA,sCZ,sCS])
     refine wpAnyH_take (i:=9) (oi:=_) (v:= ?vC_9) rfl (by kernel_rfl) (by kernel_rfl) (by kernel_rfl) (fun _ _ _ h=>h) (Or.inl ⟨by rfl, ?yC_9⟩) hHeld ?rC_9
     case yC_9=>(intro w hSw;(try dsimp only at hSw);(try simp only[gTA,gCZ,gCS]);go_simp<;>with_reducible rfl)
     (try simp only[gTA,gCZ,gCS,Act.put,sTA,sCZ,sCS])
     refine wpAnyH_take (i:=10) (oi:=_) (v:= ?vC_10) rfl (by kernel_rfl) (by kernel_rfl) (by kernel_rfl) (fun _ _ _ h=>h) (Or.inl ⟨by rfl, ?yC_10⟩) hHeld ?rC_10
     case yC_10=>(intro w hSw;(try dsimp only at hSw);(try simp only[gTA,gCZ,gCS]);go_simp<;>with_reducible rfl)
     (try simp only[gTA,gCZ,gCS,Act.put,sTA,sCZ,sCS])
     refine wpAnyH_take (i:=11) (oi:=_) (v:= ?vC_11) rfl (by kernel_rfl) (by kernel_rfl) (by kernel_rfl) (fun _ _ _ h=>h) (Or.inl ⟨by rfl, ?yC_11⟩) hHeld ?rC_11
     case yC_11=>(intro w hSw;(try dsimp only at hSw);(try simp only[gTA,gCZ,gCS]);go_simp<;>with_reducible rfl)
     (try simp only[gTA,gCZ,gCS,Act.put,sTA,sCZ,sCS])
     refine wpAnyH_take (i:=12) (oi:=_) (v:= ?vC_12) rfl (by kernel_rfl) (by kernel_rfl) (by kernel_rfl) (fun _ _ _ h=>h) (Or.inl ⟨by rfl, ?yC_12⟩) hHeld ?rC_12
     case yC_12=>(intro w hSw;(try dsimp only at hSw);(try simp only[gTA,gCZ,gCS]);go_simp<;>with_reducible rfl)
     (try simp only[gTA,gCZ,gCS,Act.put,sTA,sCZ,sCS])
     refine wpAnyH_take (i:=13) (oi:=_) (v:= ?vC_13) rfl (by kernel_rfl) (by kernel_rfl) (by kernel_rfl) (fun _ _ _ h=>h) (Or.inl ⟨by rfl, ?yC_13⟩) hHeld ?rC_13
     case yC_13=>(intro w hSw;(try dsimp only at hSw);(try simp only[gTA,gCZ,gCS]);go_simp<;>with_reducible rfl)
     (try simp only[gTA,gCZ,gCS,Act.put,sTA,sCZ,sCS])
     refine wpAnyH_take (i:=14) (oi:=_) (v:= ?vC_14) rfl (by kernel_rfl) (by kernel_rfl) (by kernel_rfl) (fun _ _ _ h=>h) (Or.inl ⟨by rfl, ?yC_14⟩) hHeld ?rC_14
     case yC_14=>(intro w hSw;(try dsimp only at hSw);(try simp only[gTA,gCZ,gCS]);go_simp<;>with_reducible rfl)
     (try simp only[gTA,gCZ,gCS,Act.put,sTA,sCZ,sCS])
     refine wpAnyH_take (i:=15) (oi:=_) (v:= ?vC_15) rfl (by kernel_rfl) (by kernel_rfl) (by kernel_rfl) (fun _ _ _ h=>h) (Or.inl ⟨by rfl, ?yC_15⟩) hHeld ?rC_15
     case yC_15=>(intro w hSw;(try dsimp only at hSw);(try simp only[gTA,gCZ,gCS]);go_simp<;>with_reducible rfl)
     (try simp only[gTA,gCZ,gCS,Act.put,sTA,sCZ,sCS])
     refine wpAnyH_take (i:=16) (oi:=_) (v:= ?vC_16) rfl (by kernel_rfl) (by kernel_rfl) (by kernel_rfl) (fun _ _ _ h=>h) (Or.inl ⟨by rfl, ?yC_16⟩) hHeld ?rC_16
     case yC_16=>(intro w hSw;(try dsimp only at hSw);(try simp only[gTA,gCZ,gCS]);go_simp<;>with_reducible rfl)
     (try simp only[gTA,gCZ,gCS,Act.put,sTA,sCZ,sCS])
     refine wpAnyH_take (i:=17) (oi:=_) (v:= ?vC_17) rfl (by kernel_rfl) (by kernel_rfl) (by kernel_rfl) (fun _ _ _ h=>h) (Or.inl ⟨by rfl, ?yC_17⟩) hHeld ?rC_17
     case yC_17=>(intro w hSw;(try dsimp only at hSw);(try simp only[gTA,gCZ,gCS]);go_simp<;>with_reducible rfl)
     (try simp only[gTA,gCZ,gCS,Act.put,sTA,sCZ,sCS])
     refine wpAnyH_take (i:=18) (oi:=_) (v:= ?vC_18) rfl (by kernel_rfl) (by kernel_rfl) (by kernel_rfl) (fun _ _ _ h=>h) (Or.inl ⟨by rfl, ?yC_18⟩) hHeld ?rC_18
     case yC_18=>(intro w hSw;(try dsimp only at hSw);(try simp only[gTA,gCZ,gCS]);go_simp<;>with_reducible rfl)
     (try simp only[gTA,gCZ,gCS,Act.put,sTA,sCZ,sCS])
     refine wpAnyH_take (i:=19) (oi:=_) (v:= ?vC_19) rfl (by kernel_rfl) (by kernel_rfl) (by kernel_rfl) (fun _ _ _ h=>h) (Or.inl ⟨by rfl, ?yC_19⟩) hHeld ?rC_19
     case yC_19=>(intro w hSw;(try dsimp only at hSw);(try simp only[gTA,gCZ,gCS]);go_simp<;>with_reducible rfl)
     (try simp only[gTA,gCZ,gCS,Act.put,sTA,sCZ,sCS])
     refine wpAnyH_ready (rs:=[20]) (by kernel_rfl) (by simp) ?_
     refine AllReadyH.cons (o:=_) rfl (fun K hK=> ?_) AllReadyH.nil
     (try simp only[gTA,gCZ,gCS])
     go_simp
     (refine Calls.mono (A2.out _) ?_;rintro e w3 ⟨rfl,hc⟩;have D3:=LH (D2.out.thenSame (Chg.ofBelow hc));have K3:=LH ((Chg.ofBelow (S:=[]) hc).at (by simp) K2.out);clear hc)
     refine hK.out _ _ ?_ (fun hHeld=> ?_)
     exact CE.out _ D3.out K3.out
     clear hK K
     (try simp only[gTA,gCZ,gCS,Act.put,sTA,sCZ,sCS])
     refine wpAnyH_take (i:=21) (oi:=_) (v:= ?vC_21) rfl (by kernel_rfl) (by kernel_rfl) (by kernel_rfl) (fun _ _ _ h=>h) (Or.inl ⟨by rfl, ?yC_21⟩) hHeld ?rC_21
     case yC_21=>(intro w hSw;(try dsimp only at hSw);(try simp only[gTA,gCZ,gCS]);go_simp<;>with_reducible rfl)
     (try simp only[gTA,gCZ,gCS,Act.put,sTA,sCZ,sCS])
     refine wpAnyH_take (i:=22) (oi:=_) (v:= ?vC_22) rfl (by kernel_rfl) (by kernel_rfl) (by kernel_rfl) (fun _ _ _ h=>h) (Or.inl ⟨by rfl, ?yC_22⟩) hHeld ?rC_22
     case yC_22=>(intro w hSw;(try dsimp only at hSw);(try simp only[gTA,gCZ,gCS]);go_simp<;>with_reducible rfl)
     (try simp only[gTA,gCZ,gCS,Act.put,sTA,sCZ,sCS])
     refine wpAnyH_done (by kernel_rfl) ?_ _
     refine NoPanic.normal ?_
     go_wp2_with fail
     go_meet
     exact⟨by rw[HN.out,HQ3.out];simp,K3,D3⟩
   case rest=>
    obtain⟨rfl,K6,D6⟩:=hcut
    cases N
    ·have HZ:=LH (show chkAt (l.map Cl.p) k=4 from HX.out.trans (chk1_name HNQ.out))
     have HE:=LH (show R=4 by rw[HR.out,HAT.out (by rw[HZ.out];decide),HZ.out])
     go_wp2_with fail
     go_ret
     exact⟨by rw[HE.out];rfl,D6.out⟩
    have hlen:(l.take k).length=k:=by rw[List.length_take];omega
    have hkc:k≤c:=by have:=H.out.1.2.1;omega
    have A3:=contf_any (c:=c) (clTake (H.out.1.1.kept D6.out) hkl) (by rw[hlen];unfold maxLen;omega) wr.heap.size x.o.id (blk_cell (show wc.heap[wr.heap.size]? =some (.cells _ _ (0,0))from K6.out) 1) (lt_of_heap K6.out)
    rw[hlen]at A3
    have HH:=LH (hasId_map (l.take k) x.o.id)
    obtain⟨hh,hhq⟩:∃hh,hh=hasId (l.take k) x.o.id:=⟨_,rfl⟩
    rw[←hhq]at A3 HH
    have A3:=LH A3
    rename_i A30
    clear A30 hlen hhq
    cases hh
    ·go_upto_region 10 with (first|(refine wpl_slice_h rfl _ _ 75 rfl elemCalls (sizeCall _) b off l.length c k rfl rfl hkc ?_)|(go_at_call 193;(with_reducible refine Calls.mono A3.out ?_);rintro e w8 ⟨rfl,hc⟩;have D8:=LH (D6.out.thenSame hc);have K8:=LH (hc.at (by simp) K6.out);clear hc))
     have k8:=blk_cell (show w8.heap[wr.heap.size]? =some (.cells _ _ (0,0))from K8.out)
     have AT1:=fun w'=>ltime_any x.from_ w'
     have AT2:=fun w'=>ltime_any x.to_ w'
     have AO:=fun w'=>lopen_any x w'
     obtain⟨BT,hBT⟩:∃BT,BT=badT x.p:=⟨_,rfl⟩
     obtain⟨q5,hq5⟩:∃q,q=timeB x.from_:=⟨_,rfl⟩
     obtain⟨q6,hq6⟩:∃q,q=openB x.p:=⟨_,rfl⟩
     obtain⟨q7,hq7⟩:∃q,q=timeB x.to_:=⟨_,rfl⟩
     have HB:=LH (show BT=(!q5||(!q6&&(!q7||decide (x.to_<x.from_)))) by rw[hBT,hq5,hq6,hq7];rfl)
     have HBT:=LH hBT
     rw[←hq5]at AT1
     rw[←hq7]at AT2
     rw[←hq6]at AO
     unfold clC at AO
     have AT1:=LH AT1
     have AT2:=LH AT2
     have AO:=LH AO
     rename_i AT10 AT20 AO0
     clear AT10 AT20 AO0 hq5 hq6 hq7 hBT
     go_cut [67] (fun v wx=>v= .bool BT∧Hid (wx.heap[wr.heap.size]? =some (clO x))∧Hid (Chg [] w wx))
     case first=>
      cases q5
      ·have HE:=LH (show BT=true from HB.out.trans (by first|rfl|simp[*]))
       go_wp2_with (first|(go_at_call 195;(with_reducible refine Calls.mono (AT1.out _) ?_);rintro e w9 ⟨rfl,rfl⟩)|(go_at_call 195;(with_reducible refine Calls.mono (AT2.out _) ?_);rintro e w9 ⟨rfl,rfl⟩)|(go_at_call 112;(with_reducible refine Calls.mono (AO.out _) ?_);rintro e w9 ⟨rfl,hc⟩;have D8:=LH (D8.out.thenSame hc);have K8:=LH (hc.at (by simp) K8.out);have k9:=blk_cell (show w9.heap[wr.heap.size]? =some (.cells _ _ (0,0))from K8.out);clear hc))
       go_meet
       exact⟨congrArg Value.bool HE.out.symm,K8,D8⟩
      cases q6
      ·cases q7
       ·have HE:=LH (show BT=true from HB.out.trans (by first|rfl|simp[*]))
        go_wp2_with (first|(go_at_call 195;(with_reducible refine Calls.mono (AT1.out _) ?_);rintro e w9 ⟨rfl,rfl⟩)|(go_at_call 195;(with_reducible refine Calls.mono (AT2.out _) ?_);rintro e w9 ⟨rfl,rfl⟩)|(go_at_call 112;(with_reducible refine Calls.mono (AO.out _) ?_);rintro e w9 ⟨rfl,hc⟩;have D8:=LH (D8.out.thenSame hc);have K8:=LH (hc.at (by simp) K8.out);have k9:=blk_cell (show w9.heap[wr.heap.size]? =some (.cells _ _ (0,0))from K8.out);clear hc))
        go_meet
        exact⟨congrArg Value.bool HE.out.symm,K8,D8⟩
       by_cases hlt:x.to_<x.from_
       ·have hd:=decide_eq_true hlt
        have HE:=LH (show BT=true from HB.out.trans (by first|rfl|simp[*]))
        go_wp2_with (first|(go_at_call 195;(with_reducible refine Calls.mono (AT1.out _) ?_);rintro e w9 ⟨rfl,rfl⟩)|(go_at_call 195;(with_reducible refine Calls.mono (AT2.out _) ?_);rintro e w9 ⟨rfl,rfl⟩)|(go_at_call 112;(with_reducible refine Calls.mono (AO.out _) ?_);rintro e w9 ⟨rfl,hc⟩;have D8:=LH (D8.out.thenSame hc);have K8:=LH (hc.at (by simp) K8.out);have k9:=blk_cell (show w9.heap[wr.heap.size]? =some (.cells _ _ (0,0))from K8.out);clear hc))
        go_meet
        exact⟨congrArg Value.bool HE.out.symm,K8,D8⟩
       ·have hd:=decide_eq_false hlt
        have HE:=LH (show BT=false from HB.out.trans (by first|rfl|simp[*]))
        go_wp2_with (first|(go_at_call 195;(with_reducible refine Calls.mono (AT1.out _) ?_);rintro e w9 ⟨rfl,rfl⟩)|(go_at_call 195;(with_reducible refine Calls.mono (AT2.out _) ?_);rintro e w9 ⟨rfl,rfl⟩)|(go_at_call 112;(with_reducible refine Calls.mono (AO.out _) ?_);rintro e w9 ⟨rfl,hc⟩;have D8:=LH (D8.out.thenSame hc);have K8:=LH (hc.at (by simp) K8.out);have k9:=blk_cell (show w9.heap[wr.heap.size]? =some (.cells _ _ (0,0))from K8.out);clear hc))
        go_meet
        exact⟨congrArg Value.bool HE.out.symm,K8,D8⟩
      ·have HE:=LH (show BT=false from HB.out.trans (by first|rfl|simp[*]))
       go_wp2_with (first|(go_at_call 195;(with_reducible refine Calls.mono (AT1.out _) ?_);rintro e w9 ⟨rfl,rfl⟩)|(go_at_call 195;(with_reducible refine Calls.mono (AT2.out _) ?_);rintro e w9 ⟨rfl,rfl⟩)|(go_at_call 112;(with_reducible refine Calls.mono (AO.out _) ?_);rintro e w9 ⟨rfl,hc⟩;have D8:=LH (D8.out.thenSame hc);have K8:=LH (hc.at (by simp) K8.out);have k9:=blk_cell (show w9.heap[wr.heap.size]? =some (.cells _ _ (0,0))from K8.out);clear hc))
       go_meet
       exact⟨congrArg Value.bool HE.out.symm,K8,D8⟩
     case rest=>
      obtain⟨rfl,K9,D9⟩:=hcut
      cases BT
      ·have HC:=LH (show chkAt (l.map Cl.p) k=(doZ [nullC] x.o.p).1 from HX.out.trans (chk1_do HNQ.out HH.out HBT.out.symm))
       have AD:=LH (fun w' (hc:Chg [] w w') a c (hi:InIs ceC 4 w' a c [nullC])=>do_any a c [nullC] x.o w' hi nullGood (IN.out.1.kept hc) GX.out.1 (HT.out.kept hc))
       obtain⟨Z,hZ⟩:∃Z,Z=doZ [nullC] x.o.p:=⟨_,rfl⟩
       rw[←hZ]at HC AD
       clear hZ
       unfold eoC at AD
       have CC0:=D9
       have PP0:=K9
       go_upto_region 12 with fail
       have CC:=LH (D9.out.drew)
       have PP:=LH (((Chg.refl [] _).drew).at (by simp) K9.out)
       go_cut [7] (fun v wx=>v= .int .i64 Z.1∧Hid (Chg [] w wx))
       case first=>
        go_region_held3 (fun w'=>w'.cell? ⟨wr.heap.size,0,none⟩=some (.string x.o.ent)∧w'.cell? ⟨wr.heap.size,1,none⟩=some (.string x.o.id)∧w'.cell? ⟨wr.heap.size,2,none⟩=some (.string x.o.op)∧w'.cell? ⟨wr.heap.size,3,none⟩=some (.slice x.o.aa x.o.args.length x.o.ac))
         (with_reducible first|exact four_cells PP.out|exact four_cells (blk_alloc PP.out)|exact four_cells (((Chg.refl [] _).drew).at (by simp) (blk_alloc PP0.out))|exact four_cells (far_blk PP.out TT.out)|exact four_cells (far_blk (blk_alloc PP.out) (heap_alloc_new _ _)))
         (first
           |(go_at_call 57;(with_reducible refine Calls.mono (vnull_any _) ?_);rintro e w9 ⟨ca,cc,rfl,hi, -,hc⟩;have TT:=LH (hc.at (by simp) TT.out);have CC:=LH (CC.out.thenSame hc);have PP:=LH (hc.at (by simp) PP.out);have k10:=blk_cell TT.out;have f10:=blk_free TT.out;have II:=LH hi;clear hi hc)
           |(go_at_call 57;(with_reducible refine Calls.mono (vnull_any _) ?_);rintro e w9 ⟨ca,cc,rfl,hi, -,hc⟩;have CC:=LH (CC.out.thenSame hc);have PP:=LH (hc.at (by simp) PP.out);have II:=LH hi;clear hi hc)
           |(go_at_call 57;(with_reducible refine Calls.mono (vnull_any _) ?_);rintro e w9 ⟨ca,cc,rfl,hi, -,hc⟩;have LT:=LH CC.out.size;have TT:=LH (hc.at (by simp) (heap_alloc_new _ (.cells #[.int .i64 0, .slice none 0 0] 69)));have CC:=LH ((CC.out.alloc _).thenSame hc);have PP:=LH (hc.at (by simp) (blk_alloc PP.out));have k10:=blk_cell TT.out;have f10:=blk_free TT.out;have II:=LH hi;clear hi hc)
           |(go_at_call 57;(with_reducible refine Calls.mono (vnull_any _) ?_);rintro e w9 ⟨ca,cc,rfl,hi, -,hc⟩;have LT:=LH CC0.out.size;have TT:=LH (hc.at (by simp) (((Chg.refl [] _).drew).at (by simp) (heap_alloc_new _ (.cells #[.int .i64 0, .slice none 0 0] 69))));have CC:=LH (((CC0.out.alloc _).drew).thenSame hc);have PP:=LH (hc.at (by simp) (((Chg.refl [] _).drew).at (by simp) (blk_alloc PP0.out)));have k10:=blk_cell TT.out;have f10:=blk_free TT.out;have II:=LH hi;clear hi hc)
           |(go_at_call 53;(with_reducible refine Calls.mono (AD.out _ CC.out _ _ II.out) ?_);rintro e w9 ⟨na,nc,va,vc,rfl, -, -, -,hc⟩;have TT:=LH (hc.at (by simp) TT.out);have CC:=LH (CC.out.thenSame hc);have PP:=LH (hc.at (by simp) PP.out);have k10:=blk_cell TT.out;have f10:=blk_free TT.out;clear hc)
           |(go_at_call 53;(with_reducible refine Calls.mono (AD.out _ CC.out _ _ II.out) ?_);rintro e w9 ⟨na,nc,va,vc,rfl, -, -, -,hc⟩;have CC:=LH (CC.out.thenSame hc);have PP:=LH (hc.at (by simp) PP.out);clear hc)
           |(go_at_call 53;(with_reducible refine Calls.mono (AD.out _ (CC.out.alloc _) _ _ (II.out.kept ((Chg.refl [] _).alloc _))) ?_);rintro e w9 ⟨na,nc,va,vc,rfl, -, -, -,hc⟩;have LT:=LH CC.out.size;have TT:=LH (hc.at (by simp) (heap_alloc_new _ (.cells #[.int .i64 0, .slice none 0 0] 69)));have CC:=LH ((CC.out.alloc _).thenSame hc);have PP:=LH (hc.at (by simp) (blk_alloc PP.out));have k10:=blk_cell TT.out;have f10:=blk_free TT.out;clear hc))
        all_goals go_wp2_with fail
        all_goals go_meet
        all_goals first
         |(with_reducible exact⟨rfl,LH (CC.out.alloc _)⟩)
         |exact⟨rfl,LH (chg_two CC.out LT.out _ _)⟩
       case rest=>
        obtain⟨rfl,D12⟩:=hcut
        generalize Z.1=z at*
        by_cases hz:z=0
        ·have HS2:=LH (show ∀j,j<k+1→chkAt (l.map Cl.p) j=0 from fun j hj=>by
          by_cases hjk:j<k
          ·exact HS.out j hjk
          ·have:j=k:=by omega
           rw[this,HC.out,hz])
         subst hz
         go_wp2_with fail
         exact⟨⟨k+1,by go_num,by omega,HS2,D12⟩,by simp[intOf];omega⟩
        ·have HE:=LH (show R=z by rw[HR.out,HAT.out (by rw[HC.out];exact hz),HC.out])
         have hzb:(z !=0)=true:=by simpa using hz
         clear hz
         go_wp2_with fail
         go_ret
         exact⟨retI HE.out.symm,D12.out⟩
      ·have HZ:=LH (show chkAt (l.map Cl.p) k=2 from HX.out.trans (chk1_bad HNQ.out HH.out HBT.out.symm))
       have HE:=LH (show R=2 by rw[HR.out,HAT.out (by rw[HZ.out];decide),HZ.out])
       go_wp2_with fail
       go_ret
       exact⟨by rw[HE.out];rfl,D9.out⟩
    ·have HZ:=LH (show chkAt (l.map Cl.p) k=6 from HX.out.trans (chk1_id HNQ.out HH.out))
     have HE:=LH (show R=6 by rw[HR.out,HAT.out (by rw[HZ.out];decide),HZ.out])
     go_wp2_with (first|(refine wpl_slice_h rfl _ _ 75 rfl elemCalls (sizeCall _) b off l.length c k rfl rfl hkc ?_)|(go_at_call 193;(with_reducible refine Calls.mono A3.out ?_);rintro e w8 ⟨rfl,hc⟩;have D8:=LH (D6.out.thenSame hc);clear hc))
     go_ret
     exact⟨by rw[HE.out];rfl,D8.out⟩
  ·have hks:k=l.length:=by omega
   have HE:=LH (show R=0 by rw[HR.out];exact hcheck_ok H8.out (fun j hj=>HS.out j (by rw[List.length_map]at hj;omega)))
   clear hks
   go_wp2_with fail
   go_ret
   exact⟨by rw[HE.out];rfl,D.out⟩
end
section
open Go.RowKit
theorem addZ_valid {a b:Int} (h:(addZ a b).2=0):validB (addZ a b).1=true:=by
 unfold addZ at h⊢
 by_cases h1:validB a=true∧validB b=true
 ·rw[if_pos h1]at h⊢
  by_cases h2:validB (a+b)=true
  ·rw[if_pos h2];exact h2
  ·rw[if_neg h2]at h;simp at h
 ·rw[if_neg h1]at h;simp at h
theorem addF_ans {st a:List Ce} (h:st.length≤200):(addF st a).2.2.length≤200∧((addF st a).1=st∨∃n,(addF st a).1=[intC n]∧validB n=true):=by
 cases st with
 |nil=>exact⟨by simp[addF], .inl rfl⟩
 |cons s r=>
  cases a with
  |nil=>exact⟨by simp[addF], .inl rfl⟩
  |cons x rx=>
   by_cases hs:s.kind=3∨s.kind=1
   ·by_cases hx:x.kind=3
    ·rw[addF_ok hs hx]
     have hv:=addZ_valid (a:=if s.kind=3 then s.n else 0) (b:=x.n)
     generalize addZ (if s.kind=3 then s.n else 0) x.n=R at*
     by_cases h0:R.2=0
     ·rw[if_pos h0];exact⟨by simp, .inr ⟨_,rfl,hv h0⟩⟩
     ·rw[if_neg h0];exact⟨by simp, .inl rfl⟩
    ·rw[addF_bad (.inr hx)];exact⟨by simp, .inl rfl⟩
   ·rw[addF_bad (.inl ⟨fun e=>hs (.inl e),fun e=>hs (.inr e)⟩)];exact⟨by simp, .inl rfl⟩
theorem doZ_zero {st:List Ce} {o:POp} (h:(doZ st o).1=0):chkZ o=0∧checkZ st=0∧doZ st o=(0,doF (opN o.op) st o.args):=by
 unfold doZ at h⊢
 split at h
 ·rename_i h1;exact absurd h h1
 ·rename_i h1
  split at h
  ·rename_i h2;exact absurd h h2
  ·rename_i h2
   have h1':chkZ o=0:=by simpa using h1
   have h2':checkZ st=0:=by simpa using h2
   exact⟨h1',h2',by rw[if_neg (by simp[h1']),if_neg (by simp[h2'])]⟩
theorem doZ_ans {st:List Ce} {o:POp} (h:(doZ st o).1=0):(doZ st o).2.2.2.length≤200:=by
 obtain⟨h1,h2,h3⟩:=doZ_zero h
 rw[h3]
 have hs:=(check_zero h2).2
 unfold doF
 simp only
 split
 ·exact hs
 ·split
  ·simp
  ·split
   ·exact(addF_ans hs).1
   ·split<;>simp
def fitsF (st:List Ce) (x:PCl):Option (List Ce):=
 if(doZ st x.o).1≠0 then none else if(openB x||((doZ st x.o).2.2.1==x.err&&sameB ceE (doZ st x.o).2.2.2 x.ans))=true then some (doZ st x.o).2.1 else none
def FitP (w:World) (r:Option (List Ce)) (e:Ending) (w':World):Prop:=
 ∃na nc n,e= .returned (.tuple #[.slice na n nc, .bool r.isSome])∧(∀s,r=some s→n=s.length∧InIs ceC 4 w' na nc s∧∀x,na=some x→w.heap.size≤x.block)∧Chg [] w w'
theorem fits_any (sa:Option Addr) (sc:Nat) (st:List Ce) (x:Cl) (w:World) (h:InIs ceC 4 w sa sc st) (hg:goodL st) (hx:ClIn w x) (hgx:x.o.good) (ht:TabW w):
 Calls Tryz.prog 63 #[.slice sa st.length sc, .agg (clC x).toArray] w (FitP w (fitsF st x.p)):=by
 obtain⟨W1,hW1⟩:∃W1,W1=w.alloc (clO x):=⟨_,rfl⟩
 have C1:=LH (show Chg [] w W1 by rw[hW1];exact(Chg.refl _ _).alloc _)
 have B1:=LH (show W1.heap[w.heap.size]? =some (clO x) by rw[hW1];exact heap_alloc_new _ _)
 have AD:=LH (do_any sa sc st x.o W1 (h.kept C1.out) hg (hx.1.kept C1.out) hgx (ht.kept C1.out))
 have AO:=fun w'=>lopen_any x w'
 have HX:=LH hx.2
 have HA:=LH (fun(h0:(doZ st x.p.o).1=0)=>doZ_ans h0)
 obtain⟨q,hq⟩:∃q,q=openB x.p:=⟨_,rfl⟩
 obtain⟨Z,hZ⟩:∃Z,Z=doZ st x.p.o:=⟨_,rfl⟩
 obtain⟨F,hF⟩:∃F,F=fitsF st x.p:=⟨_,rfl⟩
 have HF:=LH (show F=if Z.1≠0 then none else if(q||(Z.2.2.1==x.err&&sameB ceE Z.2.2.2 x.ans))=true then some Z.2.1 else none by rw[hF,hZ,hq];rfl)
 rw[←hF]
 rw[←hq]at AO
 have AD:Hid (Calls Tryz.prog 53 #[.slice sa st.length sc, .agg (eoC x.o).toArray] W1 (DoP W1 Z)):=LH (by rw[hZ];exact AD.out)
 rw[←hZ]at HA
 have AO:=LH AO
 rename_i AO0 AD0
 clear AO0 AD0 hq hZ hF h hg hx hgx ht
 obtain⟨⟨ent,id,op,aa,ac,args⟩,err,va,vc,ans,fr,to_⟩:=x
 obtain⟨ze,zs,zr,za⟩:=Z
 simp only[clO,clC,eoC]at*
 have k1:=blk_cell B1.out
 have HW1:=LH hW1
 clear hW1
 by_cases hz:ze=0
 case neg=>
  have hzb:(ze !=0)=true:=by simpa using hz
  have HE:=LH (show F=none from HF.out.trans (if_pos hz))
  rw[HE.out]
  clear hz
  go_enter Tryz.func63,Tryz.ntmps63
  go_upto_region 1 with fail
  rw[←HW1.out]
  go_upto_region 2 with (go_at_call 53;(with_reducible refine Calls.mono AD.out ?_);rintro e w2 ⟨na,nc,va2,vc2,rfl,hn,hv,hfr,hc⟩;have HFR:=LH (fun x (hx:na=some x)=>Nat.le_trans C1.out.size (hfr x (.inl hx)));have C2:=LH (C1.out.thenSame hc);have K2:=LH (hc.at (by simp) B1.out);have HN:=LH hn;have HV:=LH hv;clear hn hv hfr hc)
  go_wp2_with fail
  go_ret2
  exact⟨none,0,0,rfl,(fun s hs=>by cases hs),C2.out.alloc _⟩
 subst hz
 have HF2:=LH (HF.out.trans (if_neg (by simp)))
 have HL:=LH (show za.length≤1048576 from Nat.le_trans (HA.out rfl) (by omega))
 cases q
 ·cases hr:(zr==err)
  ·have HE:=LH (show F=none from HF2.out.trans (if_neg (by simp[hr])))
   rw[HE.out]
   go_enter Tryz.func63,Tryz.ntmps63
   go_upto_region 1 with fail
   rw[←HW1.out]
   go_upto_region 2 with (go_at_call 53;(with_reducible refine Calls.mono AD.out ?_);rintro e w2 ⟨na,nc,va2,vc2,rfl,hn,hv,hfr,hc⟩;have HFR:=LH (fun x (hx:na=some x)=>Nat.le_trans C1.out.size (hfr x (.inl hx)));have C2:=LH (C1.out.thenSame hc);have K2:=LH (hc.at (by simp) B1.out);have HN:=LH hn;have HV:=LH hv;clear hn hv hfr hc)
   obtain⟨W3,hW3⟩:∃W3,W3=w2.alloc (.cells #[.int .i64 zr, .slice va2 za.length vc2] 69):=⟨_,rfl⟩
   have K3:=LH (blk_alloc (o':= .cells #[.int .i64 zr, .slice va2 za.length vc2] 69) K2.out)
   have T3:=LH (heap_alloc_new w2 (.cells #[.int .i64 zr, .slice va2 za.length vc2] 69))
   rw[←hW3]at K3 T3
   have C3:=LH (show Chg [] w W3 by rw[hW3];exact C2.out.alloc _)
   have N3:=LH (show InIs ceC 4 W3 na nc zs by rw[hW3];exact HN.out.kept ((Chg.refl [] _).alloc _))
   have V3:=LH (show InIs ceC 4 W3 va2 vc2 za by rw[hW3];exact HV.out.kept ((Chg.refl [] _).alloc _))
   have k3:=blk_cell K3.out
   rw[←hW3]
   clear hW3 k1
   go_wp2_with (first|(go_at_call 112;(with_reducible refine Calls.mono (AO.out _) ?_);rintro e w4 ⟨rfl,hc⟩;have C4:=LH (C3.out.thenSame hc);have N4:=LH (N3.out.kept hc);have V4:=LH (V3.out.kept hc);have k4:=blk_cell (hc.at (by simp) K3.out);have t4:=blk_cell (hc.at (by simp) T3.out);clear hc)|(go_at_call 113;go_loud (refine Calls.mono (vsame_any _ _ _ _ _ _ _ V4.out.1 (HX.out.kept C4.out).1 HL.out) ?_);rw[HS.out];rintro e w5 ⟨rfl,hc⟩;have C4:=LH (C4.out.thenSame hc);have N4:=LH (N4.out.kept hc);clear hc))
   go_ret2
   exact⟨_,_,_,rfl,(fun s hs=>by cases hs),C4.out⟩
  ·cases hs:sameB ceE za ans
   ·have HE:=LH (show F=none from HF2.out.trans (if_neg (by simp[hr,hs])))
    have HS:=LH hs
    rw[HE.out]
    clear hs
    go_enter Tryz.func63,Tryz.ntmps63
    go_upto_region 1 with fail
    rw[←HW1.out]
    go_upto_region 2 with (go_at_call 53;(with_reducible refine Calls.mono AD.out ?_);rintro e w2 ⟨na,nc,va2,vc2,rfl,hn,hv,hfr,hc⟩;have HFR:=LH (fun x (hx:na=some x)=>Nat.le_trans C1.out.size (hfr x (.inl hx)));have C2:=LH (C1.out.thenSame hc);have K2:=LH (hc.at (by simp) B1.out);have HN:=LH hn;have HV:=LH hv;clear hn hv hfr hc)
    obtain⟨W3,hW3⟩:∃W3,W3=w2.alloc (.cells #[.int .i64 zr, .slice va2 za.length vc2] 69):=⟨_,rfl⟩
    have K3:=LH (blk_alloc (o':= .cells #[.int .i64 zr, .slice va2 za.length vc2] 69) K2.out)
    have T3:=LH (heap_alloc_new w2 (.cells #[.int .i64 zr, .slice va2 za.length vc2] 69))
    rw[←hW3]at K3 T3
    have C3:=LH (show Chg [] w W3 by rw[hW3];exact C2.out.alloc _)
    have N3:=LH (show InIs ceC 4 W3 na nc zs by rw[hW3];exact HN.out.kept ((Chg.refl [] _).alloc _))
    have V3:=LH (show InIs ceC 4 W3 va2 vc2 za by rw[hW3];exact HV.out.kept ((Chg.refl [] _).alloc _))
    have k3:=blk_cell K3.out
    rw[←hW3]
    clear hW3 k1
    go_wp2_with (first|(go_at_call 112;(with_reducible refine Calls.mono (AO.out _) ?_);rintro e w4 ⟨rfl,hc⟩;have C4:=LH (C3.out.thenSame hc);have N4:=LH (N3.out.kept hc);have V4:=LH (V3.out.kept hc);have k4:=blk_cell (hc.at (by simp) K3.out);have t4:=blk_cell (hc.at (by simp) T3.out);clear hc)|(go_at_call 113;go_loud (refine Calls.mono (vsame_any _ _ _ _ _ _ _ V4.out.1 (HX.out.kept C4.out).1 HL.out) ?_);rw[HS.out];rintro e w5 ⟨rfl,hc⟩;have C4:=LH (C4.out.thenSame hc);have N4:=LH (N4.out.kept hc);clear hc))
    go_ret2
    exact⟨_,_,_,rfl,(fun s hs=>by cases hs),C4.out⟩
   ·have HE:=LH (show F=some zs from HF2.out.trans (if_pos (by simp[hr,hs])))
    have HS:=LH hs
    rw[HE.out]
    clear hs
    go_enter Tryz.func63,Tryz.ntmps63
    go_upto_region 1 with fail
    rw[←HW1.out]
    go_upto_region 2 with (go_at_call 53;(with_reducible refine Calls.mono AD.out ?_);rintro e w2 ⟨na,nc,va2,vc2,rfl,hn,hv,hfr,hc⟩;have HFR:=LH (fun x (hx:na=some x)=>Nat.le_trans C1.out.size (hfr x (.inl hx)));have C2:=LH (C1.out.thenSame hc);have K2:=LH (hc.at (by simp) B1.out);have HN:=LH hn;have HV:=LH hv;clear hn hv hfr hc)
    obtain⟨W3,hW3⟩:∃W3,W3=w2.alloc (.cells #[.int .i64 zr, .slice va2 za.length vc2] 69):=⟨_,rfl⟩
    have K3:=LH (blk_alloc (o':= .cells #[.int .i64 zr, .slice va2 za.length vc2] 69) K2.out)
    have T3:=LH (heap_alloc_new w2 (.cells #[.int .i64 zr, .slice va2 za.length vc2] 69))
    rw[←hW3]at K3 T3
    have C3:=LH (show Chg [] w W3 by rw[hW3];exact C2.out.alloc _)
    have N3:=LH (show InIs ceC 4 W3 na nc zs by rw[hW3];exact HN.out.kept ((Chg.refl [] _).alloc _))
    have V3:=LH (show InIs ceC 4 W3 va2 vc2 za by rw[hW3];exact HV.out.kept ((Chg.refl [] _).alloc _))
    have k3:=blk_cell K3.out
    rw[←hW3]
    clear hW3 k1
    go_wp2_with (first|(go_at_call 112;(with_reducible refine Calls.mono (AO.out _) ?_);rintro e w4 ⟨rfl,hc⟩;have C4:=LH (C3.out.thenSame hc);have N4:=LH (N3.out.kept hc);have V4:=LH (V3.out.kept hc);have k4:=blk_cell (hc.at (by simp) K3.out);have t4:=blk_cell (hc.at (by simp) T3.out);clear hc)|(go_at_call 113;go_loud (refine Calls.mono (vsame_any _ _ _ _ _ _ _ V4.out.1 (HX.out.kept C4.out).1 HL.out) ?_);rw[HS.out];rintro e w5 ⟨rfl,hc⟩;have C4:=LH (C4.out.thenSame hc);have N4:=LH (N4.out.kept hc);clear hc))
    go_ret2
    exact⟨_,_,_,rfl,(fun s hs=>by cases hs;exact⟨rfl,N4.out,HFR.out⟩),C4.out⟩
 ·have HE:=LH (show F=some zs from HF2.out.trans (if_pos (by simp)))
  rw[HE.out]
  go_enter Tryz.func63,Tryz.ntmps63
  go_upto_region 1 with fail
  rw[←HW1.out]
  go_upto_region 2 with (go_at_call 53;(with_reducible refine Calls.mono AD.out ?_);rintro e w2 ⟨na,nc,va2,vc2,rfl,hn,hv,hfr,hc⟩;have HFR:=LH (fun x (hx:na=some x)=>Nat.le_trans C1.out.size (hfr x (.inl hx)));have C2:=LH (C1.out.thenSame hc);have K2:=LH (hc.at (by simp) B1.out);have HN:=LH hn;have HV:=LH hv;clear hn hv hfr hc)
  obtain⟨W3,hW3⟩:∃W3,W3=w2.alloc (.cells #[.int .i64 zr, .slice va2 za.length vc2] 69):=⟨_,rfl⟩
  have K3:=LH (blk_alloc (o':= .cells #[.int .i64 zr, .slice va2 za.length vc2] 69) K2.out)
  have T3:=LH (heap_alloc_new w2 (.cells #[.int .i64 zr, .slice va2 za.length vc2] 69))
  rw[←hW3]at K3 T3
  have C3:=LH (show Chg [] w W3 by rw[hW3];exact C2.out.alloc _)
  have N3:=LH (show InIs ceC 4 W3 na nc zs by rw[hW3];exact HN.out.kept ((Chg.refl [] _).alloc _))
  have V3:=LH (show InIs ceC 4 W3 va2 vc2 za by rw[hW3];exact HV.out.kept ((Chg.refl [] _).alloc _))
  have k3:=blk_cell K3.out
  rw[←hW3]
  clear hW3 k1
  go_wp2_with (first|(go_at_call 112;(with_reducible refine Calls.mono (AO.out _) ?_);rintro e w4 ⟨rfl,hc⟩;have C4:=LH (C3.out.thenSame hc);have N4:=LH (N3.out.kept hc);have V4:=LH (V3.out.kept hc);have k4:=blk_cell (hc.at (by simp) K3.out);have t4:=blk_cell (hc.at (by simp) T3.out);clear hc)|(go_at_call 113;go_loud (refine Calls.mono (vsame_any _ _ _ _ _ _ _ V4.out.1 (HX.out.kept C4.out).1 HL.out) ?_);rw[HS.out];rintro e w5 ⟨rfl,hc⟩;have C4:=LH (C4.out.thenSame hc);have N4:=LH (N4.out.kept hc);clear hc))
  go_ret2
  exact⟨_,_,_,rfl,(fun s hs=>by cases hs;exact⟨rfl,N4.out,HFR.out⟩),C4.out⟩
end
section
open Go.RowKit
theorem check_int {n:Int} (h:validB n=true):checkZ [intC n]=0:=by
 obtain⟨h1,h2⟩:=validB_iff.1 h
 have hlen:(Lib.itoa n).length≤21:=Lib.itoa_length_le n (by omega) (by omega)
 have hsz:sizeZ (intC n)=((Lib.itoa n).length:Int):=by simp[sizeZ,intC]
 have hw:IntKind.i64.wrap (0+((Lib.itoa n).length:Int))=((Lib.itoa n).length:Int):=by rw[Int.zero_add];exact IntWalk.i64_in _ (by omega)
 have hlk:lookS [intC n]=(1,⟨1,((Lib.itoa n).length:Int),false,false⟩,true):=by
  unfold lookS
  rw[look_done (s':=⟨1,((Lib.itoa n).length:Int),false,false⟩)]
  ·rfl
  ·have he:emptyB ⟨#[]⟩=true:=by kernel_rfl
   rw[lookC_val (by simp[plainB,intC,he]) keyTop_nil]
   unfold valL
   rw[if_neg (by simp[intC])]
   have hv:valSh (intC n) sh0 ([]:List Opn).length=⟨1,((Lib.itoa n).length:Int),false,false⟩:=by
    unfold valSh
    rw[hsz]
    simp[sh0,intC,h,hw]
    exact⟨by decide,by rw[Int.zero_add]at hw;exact hw,rfl⟩
   rw[hv]
   rfl
 unfold checkZ checkQ
 rw[hlk]
 simp
 omega
theorem check_null:checkZ [nullC]=0:=by kernel_rfl
theorem intC_good {n:Int} (h:validB n=true):(intC n).good:=by
 obtain⟨h1,h2⟩:=validB_iff.1 h
 refine⟨?_, ?_,(show(⟨#[]⟩:ByteArray).size≤maxLen from Nat.zero_le _), ?_⟩
 ·exact(by decide:(Lit.int .i64 3).wf=true)
 ·simp[Lit.wf,intC,IntKind.min,IntKind.max,IntKind.bits,IntKind.signed]
  omega
 ·exact(by decide:(Lit.int .i64 0).wf=true)
theorem intC_goodL {n:Int} (h:validB n=true):goodL [intC n]:=⟨by simp,fun x hx=>by simp at hx;subst hx;exact intC_good h⟩
theorem doZ_next {st:List Ce} {o:POp} (h:(doZ st o).1=0):checkZ (doZ st o).2.1=0:=by
 obtain⟨h1,h2,h3⟩:=doZ_zero h
 rw[h3]
 obtain⟨k0,k1,k2⟩:=chk_zero h1
 simp only[doF]
 split
 ·exact h2
 ·split
  ·rename_i e
   rw[e]at k1
   match ha:o.args,k1 with
   |[v],_=>exact k2 v (by rw[ha];simp)
  ·split
   ·rcases(addF_ans (a:=o.args.headD []) (check_zero h2).2).2 with e|⟨n,e,hv⟩
    ·rw[e];exact h2
    ·rw[e];exact check_int hv
   ·split
    ·rename_i e1 e2 e3 _
     have e4:opN o.op=4:=by
      rcases opN_cases o.op with ⟨_,e⟩|⟨_,e⟩|⟨_,e⟩|⟨_,e⟩|⟨_,e⟩<;>first|exact e|exact absurd e (by assumption)
     rw[e4]at k1
     match ha:o.args,k1 with
     |[v,u],_=>exact k2 u (by rw[ha];simp)
    ·exact h2
theorem doZ_good {st:List Ce} {o:EOp} (h:(doZ st o.p).1=0) (hg:goodL st) (ho:o.good):goodL (doZ st o.p).2.1:=by
 obtain⟨h1,h2,h3⟩:=doZ_zero h
 rw[h3]
 obtain⟨k0,k1,k2⟩:=chk_zero h1
 have hm:∀v∈o.p.args,goodL v:=fun v hv=>by
  obtain⟨d,hd,rfl⟩:=List.mem_map.1 hv
  exact ho.2.2.2.2 d hd
 simp only[doF]
 split
 ·exact hg
 ·split
  ·rename_i e
   rw[e]at k1
   match ha:o.p.args,k1 with
   |[v],_=>exact hm v (by rw[ha];simp)
  ·split
   ·rcases(addF_ans (a:=o.p.args.headD []) (check_zero h2).2).2 with e|⟨n,e,hv⟩
    ·rw[e];exact hg
    ·rw[e];exact intC_goodL hv
   ·split
    ·have e4:opN o.p.op=4:=by
      rcases opN_cases o.p.op with ⟨_,e⟩|⟨_,e⟩|⟨_,e⟩|⟨_,e⟩|⟨_,e⟩<;>first|exact e|exact absurd e (by assumption)
     rw[e4]at k1
     match ha:o.p.args,k1 with
     |[v,u],_=>exact hm u (by rw[ha];simp)
    ·exact hg
theorem sameB_iff {l m:List Ce}:sameB ceE l m=true↔l=m:=by
 constructor
 ·intro h
  unfold sameB at h
  rw[Bool.and_eq_true]at h
  obtain⟨h1,h2⟩:=h
  have h1:l.length=m.length:=by simpa using h1
  unfold sameTo at h2
  rw[List.all_eq_true]at h2
  refine List.ext_getElem h1 (fun i hi hj=> ?_)
  have:=h2 i (by simpa using hi)
  rw[List.getElem?_eq_getElem hi,List.getElem?_eq_getElem hj]at this
  exact ceE_iff.1 this
 ·rintro rfl
  exact same_refl (fun x=>ceE_iff.2 rfl) l
theorem fits_some {st s:List Ce} {x:PCl} (h:fitsF st x=some s):(doZ st x.o).1=0∧s=(doZ st x.o).2.1∧(openB x=false→(doZ st x.o).2.2.1=x.err∧(doZ st x.o).2.2.2=x.ans):=by
 unfold fitsF at h
 split at h
 ·simp at h
 ·rename_i h1
  split at h
  ·rename_i h2
   simp only[Option.some.injEq]at h
   refine⟨by simpa using h1,h.symm,fun ho=> ?_⟩
   rw[ho,Bool.false_or,Bool.and_eq_true]at h2
   exact⟨by simpa using h2.1,sameB_iff.1 h2.2⟩
  ·simp at h
theorem fits_of {st:List Ce} {x:PCl} (h:(doZ st x.o).1=0) (ho:openB x=false→(doZ st x.o).2.2.1=x.err∧(doZ st x.o).2.2.2=x.ans):fitsF st x=some (doZ st x.o).2.1:=by
 unfold fitsF
 rw[if_neg (by simp[h])]
 cases hx:openB x
 ·obtain⟨h1,h2⟩:=ho hx
  rw[if_pos (by rw[h1,h2];simp[sameB_iff.2])]
 ·rw[if_pos (by simp)]
def doneTo (l:List PCl) (pl:List Bool) (k:Nat):Bool:=(List.range k).all (fun i=>match l[i]?,pl[i]? with|some x,some b=>openB x||b|_,_=>true)
def doneB (l:List PCl) (pl:List Bool):Bool:=doneTo l pl l.length
theorem doneTo_step {l:List PCl} {pl:List Bool} {k:Nat} (h1:k<l.length) (h2:k<pl.length):doneTo l pl (k+1)=(doneTo l pl k&&(openB l[k]||pl[k])):=by
 unfold doneTo
 rw[List.range_succ,List.all_append,List.all_cons,List.all_nil,Bool.and_true,List.getElem?_eq_getElem h1,List.getElem?_eq_getElem h2]
theorem doneB_no {l:List PCl} {pl:List Bool} {k:Nat} (h1:k<l.length) (h2:k<pl.length) (h:(openB l[k]||pl[k])=false):doneB l pl=false:=by
 unfold doneB doneTo
 rw[List.all_eq_false]
 exact⟨k,by simpa using h1,by rw[List.getElem?_eq_getElem h1,List.getElem?_eq_getElem h2];simpa using h⟩
theorem doneB_iff {l:List PCl} {pl:List Bool} (hl:pl.length=l.length):doneB l pl=true↔∀k (hk:k<l.length),openB l[k]=true∨pl[k]'(by omega)=true:=by
 unfold doneB doneTo
 rw[List.all_eq_true]
 constructor
 ·intro h k hk
  have:=h k (by simpa using hk)
  rw[List.getElem?_eq_getElem hk,List.getElem?_eq_getElem (by omega)]at this
  simpa using this
 ·intro h k hk
  have hk:k<l.length:=by simpa using hk
  rw[List.getElem?_eq_getElem hk,List.getElem?_eq_getElem (by omega)]
  simpa using h k hk
def blockTo (l:List PCl) (pl:List Bool) (x:PCl) (m:Nat):Bool:=(List.range m).any (fun j=>match l[j]?,pl[j]? with|some y,some b=> !b&&befB y x|_,_=>false)
def blockB (l:List PCl) (pl:List Bool) (x:PCl):Bool:=blockTo l pl x l.length
theorem blockTo_step {l:List PCl} {pl:List Bool} {x:PCl} {k:Nat} (h1:k<l.length) (h2:k<pl.length):blockTo l pl x (k+1)=(blockTo l pl x k||(!pl[k]&&befB l[k] x)):=by
 unfold blockTo
 rw[List.range_succ,List.any_append,List.any_cons,List.any_nil,Bool.or_false,List.getElem?_eq_getElem h1,List.getElem?_eq_getElem h2]
theorem blockB_yes {l:List PCl} {pl:List Bool} {x:PCl} {k:Nat} (h1:k<l.length) (h2:k<pl.length) (h:(!pl[k]&&befB l[k] x)=true):blockB l pl x=true:=by
 unfold blockB blockTo
 rw[List.any_eq_true]
 exact⟨k,by simpa using h1,by rw[List.getElem?_eq_getElem h1,List.getElem?_eq_getElem h2];exact h⟩
def goF (F:List Ce→List Bool→List Int→Option (List Int)) (st:List Ce) (pl:List Bool) (od:List Int) (k:Nat) (x:PCl):Option (List Int):=
 match fitsF st x with
 |none=>none
 |some s=>F s (pl.set k true) (od++[(k:Int)])
def tryF (l:List PCl) (F:List Ce→List Bool→List Int→Option (List Int)) (st:List Ce) (pl:List Bool) (od:List Int) (k:Nat):Option (List Int):=
 match l[k]?,pl[k]? with
 |some x,some false=>if blockB l pl x=true then none else goF F st pl od k x
 |_,_=>none
def firstO (f:Nat→Option (List Int)):Nat→Nat→Option (List Int)
 |_,0=>none
 |k,n+1=>match f k with|some r=>some r|none=>firstO f (k+1) n
def findF (l:List PCl):Nat→List Ce→List Bool→List Int→Option (List Int)
 |0,_,pl,od=>if doneB l pl=true then some od else none
 |n+1,st,pl,od=>if doneB l pl=true then some od else firstO (tryF l (findF l n) st pl od) 0 l.length
theorem firstO_at {f:Nat→Option (List Int)}:∀{n k0 k:Nat} {r:List Int},k0≤k→k<k0+n→(∀j,k0≤j→j<k→f j=none)→f k=some r→firstO f k0 n=some r:=by
 intro n
 induction n with
 |zero=>intro k0 k r h1 h2;omega
 |succ n ih=>
  intro k0 k r h1 h2 h3 h4
  unfold firstO
  by_cases e:k0=k
  ·subst e;rw[h4]
  ·rw[h3 k0 (Nat.le_refl _) (by omega)]
   exact ih (by omega) (by omega) (fun j hj hk=>h3 j (by omega) hk) h4
theorem firstO_none {f:Nat→Option (List Int)}:∀{n k0:Nat},(∀j,k0≤j→j<k0+n→f j=none)→firstO f k0 n=none:=by
 intro n
 induction n with
 |zero=>intro k0 _;rfl
 |succ n ih=>
  intro k0 h
  unfold firstO
  rw[h k0 (Nat.le_refl _) (by omega)]
  exact ih (fun j hj hk=>h j (by omega) (by omega))
theorem firstO_some {f:Nat→Option (List Int)}:∀{n k0:Nat} {r:List Int},firstO f k0 n=some r→∃k,k0≤k∧k<k0+n∧f k=some r∧∀j,k0≤j→j<k→f j=none:=by
 intro n
 induction n with
 |zero=>intro k0 r h;simp[firstO]at h
 |succ n ih=>
  intro k0 r h
  unfold firstO at h
  cases hf:f k0 with
  |some r'=>rw[hf]at h;exact⟨k0,Nat.le_refl _,by omega,by rw[hf];exact h,fun j hj hk=>by omega⟩
  |none=>
   rw[hf]at h
   obtain⟨k,h1,h2,h3,h4⟩:=ih h
   refine⟨k,by omega,by omega,h3,fun j hj hk=> ?_⟩
   by_cases e:j=k0
   ·rw[e];exact hf
   ·exact h4 j (by omega) hk
theorem done_count {l:List PCl} {pl:List Bool} (hl:pl.length=l.length) (h:pl.count false=0):doneB l pl=true:=by
 rw[doneB_iff hl]
 intro k hk
 right
 have:=List.count_eq_zero.1 h
 cases hb:pl[k]'(by omega)with
 |true=>rfl
 |false=>exact absurd (hb▸List.getElem_mem _) this
theorem count_set {pl:List Bool} {k:Nat} (h:pl[k]? =some false):(pl.set k true).count false+1=pl.count false:=by
 induction pl generalizing k with
 |nil=>simp at h
 |cons b r ih=>
  cases k with
  |zero=>simp at h;subst h;simp
  |succ k=>
   have:=ih (by simpa using h)
   cases b<;>simp[List.count_cons]<;>omega
end
section
open Go.RowKit
def bC (b:Bool):List Value:=[.bool b]
theorem bC_len (x:Bool):(bC x).length=1:=rfl
def ob (a:Option Addr):Option Nat:=a.map (·.block)
theorem ob_eq (a:Option Addr) (n c:Nat):(Value.slice a n c).ownBlock=ob a:=by cases a<;>rfl
structure SeAt (w:World) (sb:Nat) (lv:Value) (pg:Nat) (pl:List Bool) (oa:Option Addr) (oc:Nat) (od:List Int):Prop where
 blk:w.heap[sb]? =some (.cells #[lv, .slice (some ⟨pg,0,none⟩) pl.length pl.length, .slice oa od.length oc] 189 (0,0))
 plc:RowOf bC 1 w 0 4 (.slice (some ⟨pg,0,none⟩) pl.length pl.length) pl
 ord:RowOf icI 1 w 0 3 (.slice oa od.length oc) od
 ne:sb≠pg
 ne1:ob oa≠some sb
 ne2:ob oa≠some pg
variable {w w':World} {sb pg:Nat} {lv:Value} {pl:List Bool} {oa:Option Addr} {oc:Nat} {od:List Int} {S:List Nat}
def seF (sb pg:Nat) (oa:Option Addr):List Nat:=sb::pg::(ob oa).toList
theorem SeAt.kept (h:SeAt w sb lv pg pl oa oc od) (hc:Chg S w w') (h1:sb∉S) (h2:pg∉S) (h3:∀x,ob oa=some x→x∉S):SeAt w' sb lv pg pl oa oc od where
 blk:=hc.at h1 h.blk
 plc:=h.plc.kept hc (fun y hy=>by cases hy;exact h2)
 ord:=h.ord.kept hc (fun y hy=>h3 y (by rw[ob_eq]at hy;exact hy))
 ne:=h.ne
 ne1:=h.ne1
 ne2:=h.ne2
theorem SeAt.keptN (h:SeAt w sb lv pg pl oa oc od) (hc:Chg [] w w'):SeAt w' sb lv pg pl oa oc od:=h.kept hc (by simp) (by simp) (by simp)
theorem SeAt.lt (h:SeAt w sb lv pg pl oa oc od):∀x∈seF sb pg oa,x<w.heap.size:=by
 intro x hx
 simp only[seF,List.mem_cons]at hx
 rcases hx with rfl|rfl|hx
 ·exact lt_of_heap h.blk
 ·exact(h.plc.block _ rfl).2
 ·exact(h.ord.block x (by rw[ob_eq];simpa using hx)).2
theorem doneB_stop {l:List PCl} {pl:List Bool} (hl:pl.length=l.length) {k:Nat} (hk:k=l.length) (h:doneTo l pl k=true):doneB l pl=true:=by unfold doneB;rw[←hk];exact h
theorem done_any {la:Option Addr} {lc:Nat} {l:List Cl} (h:SeAt w sb (.slice la l.length lc) pg pl oa oc od) (hl:LIn w la lc l) (hpl:pl.length=l.length) (h8:l.length≤8):
 Calls Tryz.prog 110 #[.pointer (some ⟨sb,0,none⟩)] w fun e w'=>e= .returned (.bool (doneB (l.map Cl.p) pl))∧Chg [] w w':=by
 obtain⟨R,hR⟩:∃R,R=doneB (l.map Cl.p) pl:=⟨_,rfl⟩
 rw[←hR]
 have HR:=LH hR
 have SE:=LH h
 have HL:=LH hl
 have HP:=LH hpl
 have hsb:=lt_of_heap h.blk
 have k0:=blk_cell h.blk
 have h8':(l.length:Int)≤8:=by omega
 clear h hl hR hpl
 go_enter Tryz.func110,Tryz.ntmps110
 go_wp2_with fail
 go_loopw [10] (fun i wr=>∃k:Nat,i= .int .i64 k∧k≤l.length∧Hid (doneTo (l.map Cl.p) pl k=true)∧Hid (Chg [] w wr)) (fun i _=>l.length-(intOf i).toNat)
 case atStart=>exact⟨0,rfl,Nat.zero_le _,LH rfl,LH (Chg.refl _ _)⟩
 case round=>
  obtain⟨k,rfl,hkl,HS,D⟩:=hrel
  have hk0:(0:Int)≤(k:Int):=by omega
  by_cases hk:k<l.length
  ·obtain⟨b,off,rfl, -,hcc⟩:=HL.out.at8 (w':=w) k hk
   have hkp:k<pl.length:=by have:=HP.out;omega
   have hst:=doneTo_step (l:=l.map Cl.p) (pl:=pl) (k:=k) (by rw[List.length_map];exact hk) hkp
   have hno:=doneB_no (l:=l.map Cl.p) (pl:=pl) (k:=k) (by rw[List.length_map];exact hk) hkp
   rw[HS.out,Bool.true_and]at hst
   simp only[List.getElem_map]at hst hno
   obtain⟨-, -, -,p4, -⟩:=RowOf.atS SE.out.plc bC_len
   have p5:=p4 k hkp 0 (by omega)
   obtain⟨d0,d1,d2,d3,d4,d5,d6,d7⟩:=hcc _ D.out
   have AO:=fun w'=>lopen_any l[k] w'
   obtain⟨W1,hW1⟩:∃W1,W1=wr.alloc (clO l[k]):=⟨_,rfl⟩
   have C1:=LH (show Chg [] w W1 by rw[hW1];exact D.out.alloc _)
   have B1:=LH (show W1.heap[wr.heap.size]? =some (clO l[k]) by rw[hW1];exact heap_alloc_new _ _)
   generalize l[k]=x at*
   generalize pl[k]=bp at*
   simp only[bC,List.getElem?_cons_zero,Nat.add_zero,Nat.mul_one]at p5
   have HP5:=LH (fun w' (hc:Chg [] w w')=>And.intro ((World.cell?_of_block (w:=w) (hc.block pg ((SE.out.plc.block _ rfl).2) (by simp))).trans p5) (blk_cell (hc.at (by simp) SE.out.blk)))
   unfold clO at hW1
   have HW1:=LH hW1
   have k1:=blk_cell (show W1.heap[wr.heap.size]? =some (.cells _ _ (0,0))from B1.out)
   generalize openB x.p=q at*
   unfold clC at AO
   have AO:=LH AO
   rename_i AO0
   have hk1:(k:Int)<(l.length:Int):=by omega
   have hk2:(k:Int)<(pl.length:Int):=by omega
   clear AO0 hcc p4 p5 hW1
   go_upto_region 4 with fail
   rw[←HW1.out]
   clear d0 d1 d2 d3 d4 d5 d6 d7
   cases q
   ·cases bp
    ·have HE:=LH (show R=false from HR.out.trans (hno rfl))
     clear hst hno
     go_wp2_with (go_at_call 112;(with_reducible refine Calls.mono (AO.out _) ?_);rintro e w3 ⟨rfl,hc⟩;have D3:=LH (C1.out.thenSame hc);have p6:=(HP5.out _ D3.out).1;have k6:=(HP5.out _ D3.out).2;clear hc)
     go_ret
     exact⟨retB HE.out.symm,D3.out⟩
    ·have HST:=LH hst
     clear hst hno
     go_wp2_with (go_at_call 112;(with_reducible refine Calls.mono (AO.out _) ?_);rintro e w3 ⟨rfl,hc⟩;have D3:=LH (C1.out.thenSame hc);have p6:=(HP5.out _ D3.out).1;have k6:=(HP5.out _ D3.out).2;clear hc)
     exact⟨⟨k+1,by go_num,by omega,HST,D3⟩,by simp[intOf];omega⟩
   ·have HST:=LH hst
    clear hst hno
    go_wp2_with (go_at_call 112;(with_reducible refine Calls.mono (AO.out _) ?_);rintro e w3 ⟨rfl,hc⟩;have D3:=LH (C1.out.thenSame hc);clear hc)
    exact⟨⟨k+1,by go_num,by omega,HST,D3⟩,by simp[intOf];omega⟩
  ·have hks:k=l.length:=by omega
   have HE:=LH (show R=true from HR.out.trans (doneB_stop (by rw[List.length_map];exact HP.out) (by rw[List.length_map];exact hks) HS.out))
   clear hks
   go_wp2_with fail
   go_ret
   exact⟨retB HE.out.symm,D.out⟩
end
section
open Go.RowKit
section
variable {P:Program} {α:Type} {cf:α→List Value} {sz:Nat}
theorem wpl_appendL {w:World} {ops:Array Oper} {rest:List Oper} {o:Oper} {a:Act} {Q:Exit→Act→World→Prop} (hgd:o.guard=none) (s x:Operand) (t:TypeId)
 (ho:o.op= .call {callee:= .builtin .append,args:= #[s,x],argTypes:= #[t,t]}) (base:Nat) (e:TypeId) (z:Value) (bytes:Nat) (ht:P.underlying t=some (.slice e)) (hi:(P.info? e).map (fun i=>(i.zero,i.size,i.bytes))=some (some z,sz,bytes))
 (hzs:z.cells.size=sz) (hsz:0<sz) (hc:∀x,(cf x).length=sz) (h1:∀x,∀u∈cf x,u.oneCell'=true) (v:Value) (l:List α) (hs:a.eval s=v) (hown:RowOf cf sz w base e v l)
 (g c:Nat) (y:α) (cur:Array Value) (tt:TypeId) (fr:Nat×Nat) (hx:a.eval x= .slice (some ⟨g,0,none⟩) 1 c) (hnew:w.heap[g]? =some (.cells cur tt fr)) (hcur:cur.toList=cf y) (h63:l.length+1≤maxLen) (hbytes:(l.length+1)*bytes≤140737488355328) (hbase:base≤w.heap.size)
 (h:∀g' cap w',RowOf cf sz w' base e (.slice (some ⟨g',0,none⟩) (l.length+1) cap) (l++[y])→w.grownBy w' v.ownBlock→(v.ownBlock=some g'∨g'=w.heap.size)→g'<w'.heap.size→wpList P ops Q rest (a.put o.dst (.slice (some ⟨g',0,none⟩) (l.length+1) cap)) w'):
 wpList P ops Q (o::rest) a w:=by
 obtain⟨i,hi0,hz0,hz1,hz2⟩:=info_parts hi
 refine wpList_append_lies w hgd s x t ho base e i z sz bytes ht hi0 hz0 hz1 hz2 hzs hsz v l.length (l.flatMap cf) hs hown ⟨g,0,none⟩ 1 c (cf y) hx (by rw[hc];omega) ?_ (h1 y) (by omega) h63 hbytes hbase w.heap.size rfl ?_
 ·intro j u hj
  have:(⟨g,0,none⟩:Addr).add j=⟨g,j,none⟩:=by
   unfold Addr.add;split
   ·rename_i e;rw[e]
   ·simp
  rw[this,blk_cell hnew,←Array.getElem?_toList,hcur];exact hj
 ·intro g' cap w' hown' hg hat hlt
  exact h g' cap w' (by unfold RowOf;simpa using hown') hg hat hlt
end
end
end Go.Proofs.YtmofknmeljdodaaGreatDoor
