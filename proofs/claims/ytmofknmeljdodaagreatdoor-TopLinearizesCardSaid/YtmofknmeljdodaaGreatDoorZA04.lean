/- Chapter 50: contract: try, if find serves. No condition but those that the statements name. -/
import Derived.Deep.DeepCutAuto
import Derived.WalkMore
import Derived.Deep.LoopGhost
import Derived.Test.YtmofknmeljdodaaGreatDoorZS01
import Derived.Test.YtmofknmeljdodaaGreatDoorZA03
set_option maxHeartbeats 100000000
set_option maxRecDepth 100000
set_option linter.unusedVariables false
set_option linter.unusedSimpArgs false
open List renaming getElem_toArray→gTA,getElem_cons_zero→gCZ,getElem_cons_succ→gCS,setIfInBounds_toArray→sTA,set_cons_zero→sCZ,set_cons_succ→sCS
namespace Go.Proofs.YtmofknmeljdodaaGreatDoor
section
open Go.RowKit
variable {w w':World} {sb pg:Nat} {lv:Value} {pl:List Bool} {oa:Option Addr} {oc:Nat} {od:List Int} {S:List Nat}
def FP (w:World) (sb:Nat) (lv:Value) (pg:Nat) (pl:List Bool) (oa:Option Addr) (od:List Int) (r:Option (List Int)) (e:Ending) (w':World):Prop:=
 ∃pl' oa' oc' od',e= .returned (.bool r.isSome)∧SeAt w' sb lv pg pl' oa' oc' od'∧(r=none→pl'=pl∧od'=od)∧(∀x,r=some x→od'=x)∧Chg (seF sb pg oa) w w'∧(∀x,ob oa'=some x→ob oa=some x∨w.heap.size≤x)
structure FH (W w:World) (sb:Nat) (la:Option Addr) (lc:Nat) (l:List Cl) (pg:Nat) (pl:List Bool) (oa:Option Addr) (oc:Nat) (od:List Int) (sa:Option Addr) (sc:Nat) (st:List Ce):Prop where
 se:SeAt w sb (.slice la l.length lc) pg pl oa oc od
 base:Chg [] W w
 far:∀x∈seF sb pg oa,W.heap.size≤x
 cls:LIn W la lc l
 good:∀x∈l,goodCl x
 tab:TabW W
 len:l.length≤8
 plen:pl.length=l.length
 room:od.length+pl.count false≤8
 stin:InIs ceC 4 w sa sc st
 stg:goodL st
 apart:∀x,sa=some x→x.block∉seF sb pg oa∧x.block<w.heap.size
def FindC (n:Nat):Prop:=∀(W w:World) (sb:Nat) (la:Option Addr) (lc:Nat) (l:List Cl) (pg:Nat) (pl:List Bool) (oa:Option Addr) (oc:Nat) (od:List Int) (sa:Option Addr) (sc:Nat) (st:List Ce),FH W w sb la lc l pg pl oa oc od sa sc st→pl.count false≤n→
 Calls Tryz.prog 60 #[.pointer (some ⟨sb,0,none⟩), .slice sa st.length sc] w (FP w sb (.slice la l.length lc) pg pl oa od (findF (l.map Cl.p) n st pl od))
theorem SeAt.place (h:SeAt w sb lv pg pl oa oc od) (k:Nat) (hk:k<pl.length) (b:Bool):SeAt (w.setCell ⟨pg,k,none⟩ (.bool b)) sb lv pg (pl.set k b) oa oc od∧Chg [pg] w (w.setCell ⟨pg,k,none⟩ (.bool b)):=by
 have hc:Chg [pg] w (w.setCell ⟨pg,k,none⟩ (.bool b)):=(Chg.refl _ _).setCell _ _ (by simp)
 refine⟨⟨?_, ?_, ?_,h.ne,h.ne1,h.ne2⟩,hc⟩
 ·rw[List.length_set];exact hc.at (by simpa using h.ne) h.blk
 ·have:=RowOf.stored h.plc rfl bC_len k hk 0 (by omega) (.bool b) b rfl
  rw[List.length_set]
  simpa using this
 ·exact h.ord.kept hc (fun y hy hm=>by simp at hm;subst hm;rw[ob_eq]at hy;exact h.ne2 hy)
theorem SeAt.pcell (h:SeAt w sb lv pg pl oa oc od) (k:Nat) (hk:k<pl.length):w.cell? ⟨pg,k,none⟩=some (.bool pl[k])∧w.frozen? ⟨pg,k,none⟩=false:=by
 obtain⟨-, -, -,p4,p5, -⟩:=RowOf.atS h.plc bC_len
 have:=p4 k hk 0 (by omega)
 exact⟨by simpa[bC]using this,p5 k⟩
theorem SeAt.order {wy:World} (h:SeAt w sb lv pg pl oa oc od) (oa':Option Addr) (oc':Nat) (od':List Int) (hc:Chg (ob oa).toList w wy) (hr:RowOf icI 1 wy 0 3 (.slice oa' od'.length oc') od') (hl:∀x,ob oa'=some x→ob oa=some x∨w.heap.size≤x):
 SeAt (wy.setCell ⟨sb,2,none⟩ (.slice oa' od'.length oc')) sb lv pg pl oa' oc' od'∧Chg (seF sb pg oa) w (wy.setCell ⟨sb,2,none⟩ (.slice oa' od'.length oc')):=by
 have h1:sb∉(ob oa).toList:=by simp;exact h.ne1
 have h2:pg∉(ob oa).toList:=by simp;exact h.ne2
 have hsb:=lt_of_heap h.blk
 have hpg:pg<w.heap.size:=(h.plc.block _ rfl).2
 have hn1:ob oa'≠some sb:=fun e=>by
  rcases hl sb e with e1|e1
  ·exact h.ne1 e1
  ·omega
 have hn2:ob oa'≠some pg:=fun e=>by
  rcases hl pg e with e1|e1
  ·exact h.ne2 e1
  ·omega
 have hs:Chg [sb] wy (wy.setCell ⟨sb,2,none⟩ (.slice oa' od'.length oc')):=(Chg.refl _ _).setCell _ _ (by simp)
 refine⟨⟨?_, ?_, ?_,h.ne,hn1,hn2⟩, ?_⟩
 ·have:=blk_set (hc.at h1 h.blk) 2 (.slice oa' od'.length oc')
  exact this
 ·exact(h.plc.kept hc (fun y hy=>by cases hy;exact h2)).kept hs (fun y hy=>by cases hy;simpa using h.ne.symm)
 ·exact hr.kept hs (fun y hy hm=>by simp at hm;subst hm;rw[ob_eq]at hy;exact hn1 hy)
 ·exact Chg.trans hc hs (fun x hx _=>by simp only[seF,List.mem_cons];exact .inr (.inr hx)) (fun x hx _=>by simp at hx;subst hx;simp[seF])
theorem intInfo:(Tryz.prog.info? 3).map (fun i=>(i.zero,i.size,i.bytes))=some (some (.int .i64 0),1,8):=by kernel_rfl
theorem sizeInt (w:World):(sizeOf (Tryz.prog.elem 77)).run Tryz.prog w= .ok 1 w:=by kernel_rfl
theorem elemInts:Tryz.prog.underlying 77=some (.slice (Tryz.prog.elem 77)):=by kernel_rfl
def Box1 (w:World) (p:Nat) (v:Value) (t:TypeId):Prop:=w.heap[p]? =some (.cells #[v] t (0,0))
theorem try_any (n:Nat) (F:FindC n) {W:World} {la:Option Addr} {lc:Nat} {l:List Cl} {sa:Option Addr} {sc:Nat} {st:List Ce} (h:FH W w sb la lc l pg pl oa oc od sa sc st) (p1 p2:Nat) (h1:Box1 w p1 (.slice sa st.length sc) 22) (h2:Box1 w p2 (.pointer (some ⟨sb,0,none⟩)) 186) (hf1:p1∉seF sb pg oa) (hf2:p2∉seF sb pg oa)
 (k:Nat) (hk:k<l.length) (hkp:pl[k]? =some false) (hn:pl.count false≤n+1):
 Calls Tryz.prog 111 #[.int .i64 (k:Int), .pointer (some ⟨p1,0,none⟩), .pointer (some ⟨p2,0,none⟩)] w (FP w sb (.slice la l.length lc) pg pl oa od (goF (findF (l.map Cl.p) n) st pl od k (l[k]).p)):=by
 have H:=LH h
 have HF:=LH F
 have h8:=h.len
 have hkl:k<pl.length:=by rw[h.plen];exact hk
 obtain⟨b,off,e,hbW,hcc⟩:=h.cls.at8 (w':=w) k hk
 subst e
 have HB1:=LH h1
 have HB2:=LH h2
 have HF1:=LH hf1
 have HF2:=LH hf2
 have HKP:=LH hkp
 have HC:=LH (count_set hkp)
 have HN:=LH hn
 have AF:=LH (fun w' (hc:Chg [] w w')=>fits_any sa sc st l[k] w' (h.stin.kept hc) h.stg ((h.cls.2 _ (List.getElem_mem hk)).kept (h.base.thenSame hc)) (h.good _ (List.getElem_mem hk)).1 (h.tab.kept (h.base.thenSame hc)))
 have GX:=LH (h.good _ (List.getElem_mem hk))
 have X8:=LH (fun w' (hc:Chg [] w w')=>hcc w' (h.base.thenSame hc))
 have STG:=LH h.stg
 generalize l[k]=x at*
 obtain⟨R,hR⟩:∃R,R=goF (findF (l.map Cl.p) n) st pl od k x.p:=⟨_,rfl⟩
 rw[←hR]
 have HR:=LH hR
 unfold goF at hR
 obtain⟨ft,hft⟩:∃ft,ft=fitsF st x.p:=⟨_,rfl⟩
 rw[←hft]at hR
 have AF2:=AF.out
 rw[←hft]at AF2
 have AF:=LH AF2
 rename_i AF0
 have HFT:=LH hft
 have hk0:(0:Int)≤(k:Int):=by omega
 have hk1:(k:Int)<(l.length:Int):=by omega
 have hk2:(k:Int)<(pl.length:Int):=by omega
 have SP:=LH (fun w' (hc:Chg [] w w')=>And.intro (blk_cell (hc.at (by simp) h1) 0) (And.intro (blk_cell (hc.at (by simp) h2) 0) (And.intro (blk_cell (hc.at (by simp) h.se.blk) 0) (X8.out w' hc))))
 simp only[List.getElem?_toArray,List.getElem?_cons_zero]at SP
 unfold At8 at SP
 unfold clC at AF
 clear AF0 AF2 hcc hbW h1 h2 hf1 hf2 hkp hn F h hft
 go_enter Tryz.func111,Tryz.ntmps111
 go_upto_region 1 with fail
 go_cut [5,6] (fun v5 v6 wx=>∃na nc m,v5= .slice na m nc∧v6= .bool ft.isSome∧Hid (∀s,ft=some s→m=s.length∧InIs ceC 4 wx na nc s∧∀y,na=some y→w.heap.size≤y.block)∧Hid (Chg [] w wx))
 case first=>
  go_region_held3 (fun w'=>w'.cell? ⟨p1,0,none⟩=some (.slice sa st.length sc)∧w'.cell? ⟨p2,0,none⟩=some (.pointer (some ⟨sb,0,none⟩))∧w'.cell? ⟨sb,0,none⟩=some (.slice (some ⟨b,off,none⟩) l.length lc)∧(w'.cell? ⟨b,off+k*8,none⟩=some (.string x.o.ent)∧w'.cell? ⟨b,off+k*8+1,none⟩=some (.string x.o.id)∧w'.cell? ⟨b,off+k*8+2,none⟩=some (.string x.o.op)∧w'.cell? ⟨b,off+k*8+3,none⟩=some (.slice x.o.aa x.o.args.length x.o.ac)∧w'.cell? ⟨b,off+k*8+4,none⟩=some (.int .i64 x.err)∧w'.cell? ⟨b,off+k*8+5,none⟩=some (.slice x.va x.ans.length x.vc)∧w'.cell? ⟨b,off+k*8+6,none⟩=some (.int .i64 x.from_)∧w'.cell? ⟨b,off+k*8+7,none⟩=some (.int .i64 x.to_)))
   (first|exact SP.out _ ((Chg.refl _ _).drew)|exact SP.out _ CC.out)
   (first|(go_at_call 63;(with_reducible refine Calls.mono (AF.out _ ((Chg.refl _ _).drew)) ?_);rintro e w2 ⟨na,nc,m,rfl,hs,hc⟩;have CC:=LH (((Chg.refl [] w).drew).thenSame hc);have HS:=LH hs;clear hs hc))
  go_wp2_with fail
  go_meet
  exact⟨na,nc,m,rfl,rfl,HS,CC⟩
 case rest=>
  obtain⟨na,nc,m,rfl,rfl,HS,CC⟩:=hcut
  cases ft with
  |none=>
   have HE:=LH (show R=none from hR)
   clear hR
   go_wp2_with fail
   go_ret
   refine⟨pl,oa,oc,od,by rw[HE.out];rfl,H.out.se.keptN CC.out,fun _=>⟨rfl,rfl⟩,(fun y hy=>by rw[HE.out]at hy;cases hy),CC.out.mono (by simp),fun y hy=> .inl hy⟩
  |some s=>
   have HRR:=LH (show R=findF (l.map Cl.p) n s (pl.set k true) (od++[(k:Int)])from hR)
   clear hR
   obtain⟨hm,hi,hfr⟩:=HS.out s rfl
   subst hm
   have HI:=LH hi
   have HFR:=LH hfr
   have SE2:=LH (H.out.se.keptN CC.out)
   have X2:=LH (CC.out.at (by simp) HB2.out)
   have q2:=blk_cell (show wc.heap[p2]? =some (.cells _ _ (0,0))from X2.out)
   have qs:=blk_cell SE2.out.blk
   obtain⟨pc,pf⟩:=SE2.out.pcell k hkl
   have hpk:=(List.getElem?_eq_some_iff.1 HKP.out).2
   have hroom:=H.out.room
   have hcnt:=HC.out
   have hod:od.length≤7:=by omega
   have hp2sb:p2≠sb:=fun e=>HF2.out (by rw[e];simp[seF])
   have hp2pg:p2≠pg:=fun e=>HF2.out (by rw[e];simp[seF])
   obtain⟨W3,hW3⟩:∃W3,W3=wc.setCell ⟨pg,k,none⟩ (.bool true):=⟨_,rfl⟩
   have P3:=SE2.out.place k hkl true
   rw[←hW3]at P3
   have SE3:=LH P3.1
   have K3:=LH P3.2
   have X3:=LH (K3.out.at (by simpa using hp2pg) X2.out)
   have HW3:=LH hW3
   clear P3 hW3 hi hfr
   go_upto_region 5 with fail
   rw[←HW3.out]
   clear q2 qs pc pf
   go_cut [] (fun wx=>∃g8 c8,Hid (SeAt wx sb (.slice (some ⟨b,off,none⟩) l.length lc) pg (pl.set k true) (some ⟨g8,0,none⟩) c8 (od++[(k:Int)]))∧Hid (Chg (seF sb pg oa) W3 wx)∧Hid (ob oa=some g8∨W3.heap.size≤g8))
   case first=>
    obtain⟨wd,hwd⟩:∃wd,wd=W3.drew:=⟨_,rfl⟩
    have D0:=LH (show Chg [] W3 wd by rw[hwd];exact(Chg.refl _ _).drew)
    have SE4:=LH (SE3.out.keptN D0.out)
    have X4:=LH (D0.out.at (by simp) X3.out)
    have N6:=LH (heap_alloc_new wd (.cells #[.int .i64 (k:Int)] 3))
    have K6:=LH ((Chg.refl [] wd).alloc (.cells #[.int .i64 (k:Int)] 3))
    have q3:=blk_cell SE4.out.blk 2
    have q4:=blk_cell (blk_alloc (o':= .cells #[.int .i64 (k:Int)] 3) SE4.out.blk) 2
    simp only[List.getElem?_toArray,List.getElem?_cons_zero,List.getElem?_cons_succ]at q3 q4
    have R6:=LH (SE4.out.ord.kept K6.out (by simp))
    refine wp_region_noPanic ?_
    refine wp_region_held_drew (S:=(fun w'=>w'.cell? ⟨p2,0,none⟩=some (.pointer (some ⟨sb,0,none⟩)))) (by kernel_rfl) (by rw[←hwd];exact blk_cell (show wd.heap[p2]? =some (.cells _ _ (0,0))from X4.out) 0) (fun hHeld=> ?_)
    rw[←hwd]at hHeld⊢
    clear hwd
    refine wpAnyH_take (i:=0) (oi:=_) (v:= ?vA_0) rfl (by kernel_rfl) (by kernel_rfl) (by kernel_rfl) (fun _ _ _ h=>h) (Or.inl ⟨by rfl, ?yA_0⟩) hHeld ?rA_0
    case yA_0=>(intro w hSw;(try dsimp only at hSw);(try simp only[gTA,gCZ,gCS]);go_simp<;>with_reducible rfl)
    (try simp only[gTA,gCZ,gCS,Act.put,sTA,sCZ,sCS])
    refine wpAnyH_take (i:=1) (oi:=_) (v:= ?vA_1) rfl (by kernel_rfl) (by kernel_rfl) (by kernel_rfl) (fun _ _ _ h=>h) (Or.inl ⟨by rfl, ?yA_1⟩) hHeld ?rA_1
    case yA_1=>(intro w hSw;(try dsimp only at hSw);(try simp only[gTA,gCZ,gCS]);go_simp<;>with_reducible rfl)
    (try simp only[gTA,gCZ,gCS,Act.put,sTA,sCZ,sCS])
    refine wpAnyH_take (i:=2) (oi:=_) (v:= ?vA_2) rfl (by kernel_rfl) (by kernel_rfl) (by kernel_rfl) (fun _ _ _ h=>h) (Or.inl ⟨by rfl, ?yA_2⟩) hHeld ?rA_2
    case yA_2=>(intro w hSw;(try dsimp only at hSw);(try simp only[gTA,gCZ,gCS]);go_simp<;>with_reducible rfl)
    (try simp only[gTA,gCZ,gCS,Act.put,sTA,sCZ,sCS])
    refine wpAnyH_take (i:=3) (oi:=_) (v:= ?vA_3) rfl (by kernel_rfl) (by kernel_rfl) (by kernel_rfl) (fun _ _ _ h=>h) (Or.inl ⟨by rfl, ?yA_3⟩) hHeld ?rA_3
    case yA_3=>(intro w hSw;(try dsimp only at hSw);(try simp only[gTA,gCZ,gCS]);go_simp<;>with_reducible rfl)
    (try simp only[gTA,gCZ,gCS,Act.put,sTA,sCZ,sCS])
    refine wpAnyH_take (i:=5) (oi:=_) (v:= ?vA_5) rfl (by kernel_rfl) (by kernel_rfl) (by kernel_rfl) (fun _ _ _ h=>h) (Or.inl ⟨by rfl, ?yA_5⟩) hHeld ?rA_5
    case yA_5=>(intro w hSw;(try dsimp only at hSw);(try simp only[gTA,gCZ,gCS]);go_simp<;>with_reducible rfl)
    (try simp only[gTA,gCZ,gCS,Act.put,sTA,sCZ,sCS])
    refine wpAnyH_ready (rs:=[4,6]) (by kernel_rfl) (by simp) ?_
    refine AllReadyH.cons (o:=_) rfl (fun K hK=> ?_) (AllReadyH.cons (o:=_) rfl (fun K hK=> ?_) AllReadyH.nil)
    ·
     (try simp only[gTA,gCZ,gCS])
     go_simp
     skip
     refine hK.out _ _ ?_ (fun hHeld=> ?_)
     exact blk_cell (show wd.heap[p2]? =some (.cells _ _ (0,0))from X4.out) 0
     clear hK K
     (try simp only[gTA,gCZ,gCS,Act.put,sTA,sCZ,sCS])
     refine wpAnyH_ready (rs:=[6]) (by kernel_rfl) (by simp) ?_
     refine AllReadyH.cons (o:=_) rfl (fun K hK=> ?_) AllReadyH.nil
     (try simp only[gTA,gCZ,gCS])
     go_simp
     skip
     refine hK.out _ _ ?_ (fun hHeld=> ?_)
     exact blk_cell (show(wd.alloc _).heap[p2]? =some (.cells _ _ (0,0))from blk_alloc X4.out) 0
     clear hK K
     (try simp only[gTA,gCZ,gCS,Act.put,sTA,sCZ,sCS])
     refine wpAnyH_ready (rs:=[7]) (by kernel_rfl) (by simp) ?_
     refine AllReadyH.cons (o:=_) rfl (fun K hK=> ?_) AllReadyH.nil
     (try simp only[gTA,gCZ,gCS])
     refine step_list rfl ?_
     (refine wpl_appendL rfl _ _ 77 rfl 0 3 _ 8 Tryz.underlying77 intInfo rfl (by decide) icI_len icI_one (.slice oa od.length oc) od rfl R6.out wd.heap.size 1 (k:Int) _ _ _ rfl N6.out rfl (by unfold maxLen;omega) (by omega) (Nat.zero_le _) ?_;intro g8 c8 w8 hr8 hg8 ho8 hl8;have K8:=LH (Chg.ofRow (v:= .slice oa od.length oc) hg8);have R8:=LH hr8;have O8:=LH ho8;have SX8:=LH (K8.out.at (by rw[ob_eq];simp;exact SE4.out.ne1) (K6.out.at (by simp) SE4.out.blk));have X8:=LH (K8.out.at (by rw[ob_eq];simp;exact fun e=>HF2.out (by simp[seF,e])) (K6.out.at (by simp) X4.out));clear hr8 hg8 ho8)
     refine⟨rfl,hK.out _ _ ?_ (fun hHeld=> ?_)⟩
     exact blk_cell (show w8.heap[p2]? =some (.cells _ _ (0,0))from X8.out) 0
     clear hK K
     (try simp only[gTA,gCZ,gCS,Act.put,sTA,sCZ,sCS])
     have v8:=blk_cell SX8.out
     have f8:=blk_free SX8.out
     refine wpAnyH_take (i:=8) (oi:=_) (v:= ?vA_8) rfl (by kernel_rfl) (by kernel_rfl) (by kernel_rfl) (fun _ _ _ h=>h) (Or.inl ⟨by rfl, ?yA_8⟩) hHeld ?rA_8
     case yA_8=>(intro w hSw;(try dsimp only at hSw);(try simp only[gTA,gCZ,gCS]);go_simp<;>with_reducible rfl)
     (try simp only[gTA,gCZ,gCS,Act.put,sTA,sCZ,sCS])
     refine wpAnyH_take (i:=9) (oi:=_) (v:= ?vA_9) rfl (by kernel_rfl) (by kernel_rfl) (by kernel_rfl) (fun _ _ _ h=>h) (Or.inl ⟨by rfl, ?yA_9⟩) hHeld ?rA_9
     case yA_9=>(intro w hSw;(try dsimp only at hSw);(try simp only[gTA,gCZ,gCS]);go_simp<;>with_reducible rfl)
     (try simp only[gTA,gCZ,gCS,Act.put,sTA,sCZ,sCS])
     refine wpAnyH_ready (rs:=[10]) (by kernel_rfl) (by simp) ?_
     refine AllReadyH.cons (o:=_) rfl (fun K hK=> ?_) AllReadyH.nil
     (try simp only[gTA,gCZ,gCS])
     go_simp
     skip
     refine hK.out _ _ ?_ (fun hHeld=> ?_)
     exact blk_cell (show(w8.setCell ⟨sb,2,none⟩ _).heap[p2]? =some (.cells _ _ (0,0))from(blk_set_ne 2 _ hp2sb).trans X8.out) 0
     clear hK K
     (try simp only[gTA,gCZ,gCS,Act.put,sTA,sCZ,sCS])
     refine wpAnyH_done (by kernel_rfl) ?_ _
     refine NoPanic.normal ?_
     go_wp2_with fail
     go_meet
     have hk8:Chg (ob oa).toList W3 w8:=by have:=K8.out;rw[ob_eq]at this;exact(D0.out.mono (by simp)).then ((K6.out.mono (by simp)).then this (fun x hx _=>hx)) (fun x hx _=>hx)
     have ho8':∀x,ob (some ⟨g8,0,none⟩)=some x→ob oa=some x∨W3.heap.size≤x:=by
      intro x hx
      have hx:g8=x:=by simpa[ob]using hx
      subst hx
      rcases O8.out with e|e
      ·left;rw[ob_eq]at e;exact e
      ·right;rw[e];exact Nat.le_trans D0.out.size K6.out.size
     have hfin:=SE3.out.order (some ⟨g8,0,none⟩) c8 (od++[(k:Int)]) hk8 (by rw[List.length_append];exact R8.out) ho8'
     rw[List.length_append]at hfin
     exact⟨g8,c8,LH hfin.1,LH hfin.2,LH (by have:=ho8' g8 (by simp[ob]);exact this)⟩
    ·
     (try simp only[gTA,gCZ,gCS])
     go_simp
     skip
     refine hK.out _ _ ?_ (fun hHeld=> ?_)
     exact blk_cell (show(wd.alloc _).heap[p2]? =some (.cells _ _ (0,0))from blk_alloc X4.out) 0
     clear hK K
     (try simp only[gTA,gCZ,gCS,Act.put,sTA,sCZ,sCS])
     refine wpAnyH_ready (rs:=[4]) (by kernel_rfl) (by simp) ?_
     refine AllReadyH.cons (o:=_) rfl (fun K hK=> ?_) AllReadyH.nil
     (try simp only[gTA,gCZ,gCS])
     go_simp
     skip
     refine hK.out _ _ ?_ (fun hHeld=> ?_)
     exact blk_cell (show(wd.alloc _).heap[p2]? =some (.cells _ _ (0,0))from blk_alloc X4.out) 0
     clear hK K
     (try simp only[gTA,gCZ,gCS,Act.put,sTA,sCZ,sCS])
     refine wpAnyH_ready (rs:=[7]) (by kernel_rfl) (by simp) ?_
     refine AllReadyH.cons (o:=_) rfl (fun K hK=> ?_) AllReadyH.nil
     (try simp only[gTA,gCZ,gCS])
     refine step_list rfl ?_
     (refine wpl_appendL rfl _ _ 77 rfl 0 3 _ 8 Tryz.underlying77 intInfo rfl (by decide) icI_len icI_one (.slice oa od.length oc) od rfl R6.out wd.heap.size 1 (k:Int) _ _ _ rfl N6.out rfl (by unfold maxLen;omega) (by omega) (Nat.zero_le _) ?_;intro g8 c8 w8 hr8 hg8 ho8 hl8;have K8:=LH (Chg.ofRow (v:= .slice oa od.length oc) hg8);have R8:=LH hr8;have O8:=LH ho8;have SX8:=LH (K8.out.at (by rw[ob_eq];simp;exact SE4.out.ne1) (K6.out.at (by simp) SE4.out.blk));have X8:=LH (K8.out.at (by rw[ob_eq];simp;exact fun e=>HF2.out (by simp[seF,e])) (K6.out.at (by simp) X4.out));clear hr8 hg8 ho8)
     refine⟨rfl,hK.out _ _ ?_ (fun hHeld=> ?_)⟩
     exact blk_cell (show w8.heap[p2]? =some (.cells _ _ (0,0))from X8.out) 0
     clear hK K
     (try simp only[gTA,gCZ,gCS,Act.put,sTA,sCZ,sCS])
     have v8:=blk_cell SX8.out
     have f8:=blk_free SX8.out
     refine wpAnyH_take (i:=8) (oi:=_) (v:= ?vB_8) rfl (by kernel_rfl) (by kernel_rfl) (by kernel_rfl) (fun _ _ _ h=>h) (Or.inl ⟨by rfl, ?yB_8⟩) hHeld ?rB_8
     case yB_8=>(intro w hSw;(try dsimp only at hSw);(try simp only[gTA,gCZ,gCS]);go_simp<;>with_reducible rfl)
     (try simp only[gTA,gCZ,gCS,Act.put,sTA,sCZ,sCS])
     refine wpAnyH_take (i:=9) (oi:=_) (v:= ?vB_9) rfl (by kernel_rfl) (by kernel_rfl) (by kernel_rfl) (fun _ _ _ h=>h) (Or.inl ⟨by rfl, ?yB_9⟩) hHeld ?rB_9
     case yB_9=>(intro w hSw;(try dsimp only at hSw);(try simp only[gTA,gCZ,gCS]);go_simp<;>with_reducible rfl)
     (try simp only[gTA,gCZ,gCS,Act.put,sTA,sCZ,sCS])
     refine wpAnyH_ready (rs:=[10]) (by kernel_rfl) (by simp) ?_
     refine AllReadyH.cons (o:=_) rfl (fun K hK=> ?_) AllReadyH.nil
     (try simp only[gTA,gCZ,gCS])
     go_simp
     skip
     refine hK.out _ _ ?_ (fun hHeld=> ?_)
     exact blk_cell (show(w8.setCell ⟨sb,2,none⟩ _).heap[p2]? =some (.cells _ _ (0,0))from(blk_set_ne 2 _ hp2sb).trans X8.out) 0
     clear hK K
     (try simp only[gTA,gCZ,gCS,Act.put,sTA,sCZ,sCS])
     refine wpAnyH_done (by kernel_rfl) ?_ _
     refine NoPanic.normal ?_
     go_wp2_with fail
     go_meet
     have hk8:Chg (ob oa).toList W3 w8:=by have:=K8.out;rw[ob_eq]at this;exact(D0.out.mono (by simp)).then ((K6.out.mono (by simp)).then this (fun x hx _=>hx)) (fun x hx _=>hx)
     have ho8':∀x,ob (some ⟨g8,0,none⟩)=some x→ob oa=some x∨W3.heap.size≤x:=by
      intro x hx
      have hx:g8=x:=by simpa[ob]using hx
      subst hx
      rcases O8.out with e|e
      ·left;rw[ob_eq]at e;exact e
      ·right;rw[e];exact Nat.le_trans D0.out.size K6.out.size
     have hfin:=SE3.out.order (some ⟨g8,0,none⟩) c8 (od++[(k:Int)]) hk8 (by rw[List.length_append];exact R8.out) ho8'
     rw[List.length_append]at hfin
     exact⟨g8,c8,LH hfin.1,LH hfin.2,LH (by have:=ho8' g8 (by simp[ob]);exact this)⟩
   case rest=>
    obtain⟨g8,c8,SE5,K5,O5⟩:=hcut
    have X5:=LH (K5.out.at HF2.out X3.out)
    have HLT:=LH H.out.se.lt
    have BW3:=LH ((H.out.base.thenSame CC.out).then K3.out (fun x hx hlt=>absurd hlt (Nat.not_lt.2 (H.out.far x (by simp at hx;subst hx;simp[seF])))))
    have BW:=LH (BW3.out.then K5.out (fun x hx hlt=>absurd hlt (Nat.not_lt.2 (H.out.far x hx))))
    have KW:=LH (((CC.out.mono (T:=seF sb pg oa) (by simp)).then K3.out (fun x hx _=>by simp at hx;subst hx;simp[seF])).thenSame K5.out)
    have hws:=CC.out.size
    have hw3:=K3.out.size
    have hw5:=K5.out.size
    obtain⟨fz,fs,fa⟩:=fits_some HFT.out.symm
    have hsne:=(check_zero (fs▸doZ_next fz)).1
    obtain⟨nb,no,hna,hnb, -⟩:=HI.out.1.2 0 (by cases s with|nil=>exact absurd rfl hsne|cons _ _=>simp)
    have hfrn:=HFR.out _ hna
    simp only at hfrn
    have HNA:Hid (∀x∈seF sb pg oa,nb≠x):=LH (fun x hx e=>by have:=HLT.out x hx;omega)
    have HG8:=LH (show nb≠g8 from fun e=>by
     rcases O5.out with h|h
     ·exact HNA.out g8 (by simp[seF,h]) e
     ·omega)
    have FHn:Hid (FH W wc sb (some ⟨b,off,none⟩) lc l pg (pl.set k true) (some ⟨g8,0,none⟩) c8 (od++[(k:Int)]) na nc s):=LH
     {se:=SE5.out,base:=BW.out,cls:=H.out.cls,good:=H.out.good,tab:=H.out.tab,len:=H.out.len
      far:=fun x hx=>by
       simp only[seF,List.mem_cons,ob,Option.map_some,Option.toList_some,List.not_mem_nil,or_false]at hx
       rcases hx with rfl|rfl|rfl
       ·exact H.out.far _ (by simp[seF])
       ·exact H.out.far _ (by simp[seF])
       ·rcases O5.out with h|h
        ·exact H.out.far _ (by simp[seF,h])
        ·exact Nat.le_trans BW3.out.size h
      plen:=by rw[List.length_set];exact H.out.plen
      room:=by rw[List.length_append];have:=HC.out;have:=H.out.room;simp;omega
      stin:=by
       refine(HI.out.keptN K3.out (fun y hy hm=> ?_)).keptN K5.out (fun y hy hm=> ?_)
       ·rw[hna]at hy;cases hy;exact HNA.out pg (by simp[seF]) (by simpa using hm)
       ·rw[hna]at hy;cases hy;exact HNA.out _ hm rfl
      stg:=fs▸doZ_good fz STG.out GX.out.1
      apart:=fun y hy=>by
       rw[hna]at hy;cases hy
       refine⟨fun hm=> ?_,by simp only;omega⟩
       simp only[seF,List.mem_cons,ob,Option.map_some,Option.toList_some,List.not_mem_nil,or_false]at hm
       rcases hm with e|e|e
       ·exact HNA.out sb (by simp[seF]) e
       ·exact HNA.out pg (by simp[seF]) e
       ·exact HG8.out e}
    have AFD:=LH (HF.out W wc sb (some ⟨b,off,none⟩) lc l pg (pl.set k true) (some ⟨g8,0,none⟩) c8 (od++[(k:Int)]) na nc s FHn.out (by have:=HC.out;have:=HN.out;omega))
    obtain⟨R2,hR2⟩:∃R2,R2=findF (l.map Cl.p) n s (pl.set k true) (od++[(k:Int)]):=⟨_,rfl⟩
    rw[←hR2]at HRR AFD
    have q5:=blk_cell (show wc.heap[p2]? =some (.cells _ _ (0,0))from X5.out)
    clear hR2 hfrn hna hnb hsne fz fs fa
    go_upto_region 6 with fail
    cases R2 with
    |some r=>
     go_wp2_with (go_at_call 60;(with_reducible refine Calls.mono AFD.out ?_);rintro e w6 ⟨pl6,oa6,oc6,od6,rfl,hse,hno,hyes,hc,ho⟩;have SE6:=LH hse;have HY:=LH (hyes r rfl);have K6:=LH hc;have O6:=LH ho;clear hse hno hyes hc ho)
     go_ret
     refine⟨pl6,oa6,oc6,od6,by rw[HRR.out];rfl,SE6.out,(fun h=>by rw[HRR.out]at h;cases h),(fun y hy=>by rw[HRR.out]at hy;cases hy;exact HY.out), ?_, ?_⟩
     ·refine KW.out.then K6.out (fun y hy hlt=> ?_)
      simp only[seF,List.mem_cons,ob,Option.map_some,Option.toList_some,List.not_mem_nil,or_false]at hy
      rcases hy with rfl|rfl|rfl
      ·simp[seF]
      ·simp[seF]
      ·rcases O5.out with h|h
       ·simp[seF,h]
       ·omega
     ·intro y hy
      rcases O6.out y hy with h|h
      ·have h:g8=y:=by simpa[ob]using h
       subst h
       rcases O5.out with h|h
       ·exact .inl h
       ·exact .inr (by omega)
      ·exact .inr (by omega)
    |none=>
     go_upto_region 8 with (go_at_call 60;(with_reducible refine Calls.mono AFD.out ?_);rintro e w6 ⟨pl6,oa6,oc6,od6,rfl,hse,hno,hyes,hc,ho⟩;have SE6:=LH hse;have HNO:=LH (hno rfl);have K6:=LH hc;have O6:=LH ho;clear hse hno hyes hc ho)
     obtain⟨e1,e2⟩:=HNO.out
     subst e1
     subst e2
     have FZ:∃g6,oa6=some ⟨g6,0,none⟩:=by
      rcases RowOf.at SE6.out.ord icI_len with ⟨_,h0⟩|⟨g,cap,hv,_⟩
      ·simp at h0
      ·simp only[Value.slice.injEq]at hv;exact⟨g,hv.1⟩
     obtain⟨g6,rfl⟩:=FZ
     obtain⟨wd,hwd⟩:∃wd,wd=w6.drew:=⟨_,rfl⟩
     have D6:=LH (show Chg [] w6 wd by rw[hwd];exact(Chg.refl _ _).drew)
     have SE7:=LH (SE6.out.keptN D6.out)
     have hp2g8:p2≠g8:=fun e=>by
      rcases O5.out with h|h
      ·exact HF2.out (by simp[seF,h,e])
      ·have:=lt_of_heap X3.out;omega
     have X6:=LH (D6.out.at (by simp) (K6.out.at (by simp[seF,ob];exact⟨hp2sb,hp2pg,hp2g8⟩) X5.out))
     have q7:=blk_cell SE7.out.blk
     rw[List.length_append]at q7
     simp only[List.length_cons,List.length_nil,Nat.zero_add]at q7
     have f7:=blk_free SE7.out.blk
     obtain⟨-,hoc,hom, -⟩:=RowOf.atS SE7.out.ord icI_len
     rw[List.length_append]at hoc
     simp only[List.length_cons,List.length_nil,Nat.zero_add]at hoc
     have hodc:od.length≤oc6:=by omega
     have hod7:(od.length:Int)≤7:=by omega
     have hod0:(0:Int)≤(od.length:Int):=by omega
     have hwr:IntKind.i64.wrap (od.length:Int)=(od.length:Int):=IntWalk.i64_in _ (by omega)
     refine wp_region_noPanic ?_
     refine wp_region_held_drew (S:=(fun w'=>w'.cell? ⟨p2,0,none⟩=some (.pointer (some ⟨sb,0,none⟩)))) (by kernel_rfl) (by rw[←hwd];exact blk_cell (show wd.heap[p2]? =some (.cells _ _ (0,0))from X6.out) 0) (fun hHeld=> ?_)
     rw[←hwd]at hHeld⊢
     clear hwd
     refine wpAnyH_take (i:=0) (oi:=_) (v:= ?vC_0) rfl (by kernel_rfl) (by kernel_rfl) (by kernel_rfl) (fun _ _ _ h=>h) (Or.inl ⟨by rfl, ?yC_0⟩) hHeld ?rC_0
     case yC_0=>(intro w hSw;(try dsimp only at hSw);(try simp only[gTA,gCZ,gCS]);go_simp<;>with_reducible rfl)
     (try simp only[gTA,gCZ,gCS,Act.put,sTA,sCZ,sCS])
     refine wpAnyH_take (i:=1) (oi:=_) (v:= ?vC_1) rfl (by kernel_rfl) (by kernel_rfl) (by kernel_rfl) (fun _ _ _ h=>h) (Or.inl ⟨by rfl, ?yC_1⟩) hHeld ?rC_1
     case yC_1=>(intro w hSw;(try dsimp only at hSw);(try simp only[gTA,gCZ,gCS]);go_simp<;>with_reducible rfl)
     (try simp only[gTA,gCZ,gCS,Act.put,sTA,sCZ,sCS])
     refine wpAnyH_take (i:=2) (oi:=_) (v:= ?vC_2) rfl (by kernel_rfl) (by kernel_rfl) (by kernel_rfl) (fun _ _ _ h=>h) (Or.inl ⟨by rfl, ?yC_2⟩) hHeld ?rC_2
     case yC_2=>(intro w hSw;(try dsimp only at hSw);(try simp only[gTA,gCZ,gCS]);go_simp<;>with_reducible rfl)
     (try simp only[gTA,gCZ,gCS,Act.put,sTA,sCZ,sCS])
     refine wpAnyH_take (i:=3) (oi:=_) (v:= ?vC_3) rfl (by kernel_rfl) (by kernel_rfl) (by kernel_rfl) (fun _ _ _ h=>h) (Or.inl ⟨by rfl, ?yC_3⟩) hHeld ?rC_3
     case yC_3=>(intro w hSw;(try dsimp only at hSw);(try simp only[gTA,gCZ,gCS]);go_simp<;>with_reducible rfl)
     (try simp only[gTA,gCZ,gCS,Act.put,sTA,sCZ,sCS])
     refine wpAnyH_take (i:=5) (oi:=_) (v:= ?vC_5) rfl (by kernel_rfl) (by kernel_rfl) (by kernel_rfl) (fun _ _ _ h=>h) (Or.inl ⟨by rfl, ?yC_5⟩) hHeld ?rC_5
     case yC_5=>(intro w hSw;(try dsimp only at hSw);(try simp only[gTA,gCZ,gCS]);go_simp<;>with_reducible rfl)
     (try simp only[gTA,gCZ,gCS,Act.put,sTA,sCZ,sCS])
     refine wpAnyH_take (i:=6) (oi:=_) (v:= ?vC_6) rfl (by kernel_rfl) (by kernel_rfl) (by kernel_rfl) (fun _ _ _ h=>h) (Or.inl ⟨by rfl, ?yC_6⟩) hHeld ?rC_6
     case yC_6=>(intro w hSw;(try dsimp only at hSw);(try simp only[gTA,gCZ,gCS]);go_simp<;>with_reducible rfl)
     (try simp only[gTA,gCZ,gCS,Act.put,sTA,sCZ,sCS])
     refine wpAnyH_take (i:=7) (oi:=_) (v:= ?vC_7) rfl (by kernel_rfl) (by kernel_rfl) (by kernel_rfl) (fun _ _ _ h=>h) (Or.inl ⟨by rfl, ?yC_7⟩) hHeld ?rC_7
     case yC_7=>(intro w hSw;(try dsimp only at hSw);(try simp only[gTA,gCZ,gCS]);go_simp<;>with_reducible rfl)
     (try simp only[gTA,gCZ,gCS,Act.put,sTA,sCZ,sCS])
     refine wpAnyH_ready (rs:=[4,8]) (by kernel_rfl) (by simp) ?_
     refine AllReadyH.cons (o:=_) rfl (fun K hK=> ?_) (AllReadyH.cons (o:=_) rfl (fun K hK=> ?_) AllReadyH.nil)
     ·
      (try simp only[gTA,gCZ,gCS])
      go_simp
      skip
      refine hK.out _ _ ?_ (fun hHeld=> ?_)
      exact blk_cell (show wd.heap[p2]? =some (.cells _ _ (0,0))from X6.out) 0
      clear hK K
      (try simp only[gTA,gCZ,gCS,Act.put,sTA,sCZ,sCS])
      refine wpAnyH_ready (rs:=[8]) (by kernel_rfl) (by simp) ?_
      refine AllReadyH.cons (o:=_) rfl (fun K hK=> ?_) AllReadyH.nil
      (try simp only[gTA,gCZ,gCS])
      go_simp
      skip
      refine hK.out _ _ ?_ (fun hHeld=> ?_)
      exact blk_cell (show wd.heap[p2]? =some (.cells _ _ (0,0))from X6.out) 0
      clear hK K
      (try simp only[gTA,gCZ,gCS,Act.put,sTA,sCZ,sCS])
      refine wpAnyH_take (i:=9) (oi:=_) (v:= ?vC_9) rfl (by kernel_rfl) (by kernel_rfl) (by kernel_rfl) (fun _ _ _ h=>h) (Or.inl ⟨by rfl, ?yC_9⟩) hHeld ?rC_9
      case yC_9=>(intro w hSw;(try dsimp only at hSw);(try simp only[gTA,gCZ,gCS]);go_simp<;>with_reducible rfl)
      (try simp only[gTA,gCZ,gCS,Act.put,sTA,sCZ,sCS])
      refine wpAnyH_take (i:=10) (oi:=_) (v:= ?vC_10) rfl (by kernel_rfl) (by kernel_rfl) (by kernel_rfl) (fun _ _ _ h=>h) (Or.inl ⟨by rfl, ?yC_10⟩) hHeld ?rC_10
      case yC_10=>(intro w hSw;(try dsimp only at hSw);(try simp only[gTA,gCZ,gCS]);go_simp<;>with_reducible rfl)
      (try simp only[gTA,gCZ,gCS,Act.put,sTA,sCZ,sCS])
      refine wpAnyH_ready (rs:=[11]) (by kernel_rfl) (by simp) ?_
      refine AllReadyH.cons (o:=_) rfl (fun K hK=> ?_) AllReadyH.nil
      (try simp only[gTA,gCZ,gCS])
      refine step_list rfl ?_
      (refine wpl_slice_h rfl _ _ 77 rfl elemInts (sizeInt _) g6 0 (od.length+1) oc6 od.length rfl (by show Value.int .i64 _=_;exact congrArg (Value.int .i64) (by first|rfl|exact hwr)) hodc ?_)
      refine⟨rfl,hK.out _ _ ?_ (fun hHeld=> ?_)⟩
      exact blk_cell (show wd.heap[p2]? =some (.cells _ _ (0,0))from X6.out) 0
      clear hK K
      (try simp only[gTA,gCZ,gCS,Act.put,sTA,sCZ,sCS])
      refine wpAnyH_take (i:=12) (oi:=_) (v:= ?vC_12) rfl (by kernel_rfl) (by kernel_rfl) (by kernel_rfl) (fun _ _ _ h=>h) (Or.inl ⟨by rfl, ?yC_12⟩) hHeld ?rC_12
      case yC_12=>(intro w hSw;(try dsimp only at hSw);(try simp only[gTA,gCZ,gCS]);go_simp<;>with_reducible rfl)
      (try simp only[gTA,gCZ,gCS,Act.put,sTA,sCZ,sCS])
      refine wpAnyH_take (i:=13) (oi:=_) (v:= ?vC_13) rfl (by kernel_rfl) (by kernel_rfl) (by kernel_rfl) (fun _ _ _ h=>h) (Or.inl ⟨by rfl, ?yC_13⟩) hHeld ?rC_13
      case yC_13=>(intro w hSw;(try dsimp only at hSw);(try simp only[gTA,gCZ,gCS]);go_simp<;>with_reducible rfl)
      (try simp only[gTA,gCZ,gCS,Act.put,sTA,sCZ,sCS])
      refine wpAnyH_ready (rs:=[14]) (by kernel_rfl) (by simp) ?_
      refine AllReadyH.cons (o:=_) rfl (fun K hK=> ?_) AllReadyH.nil
      (try simp only[gTA,gCZ,gCS])
      go_simp
      skip
      refine hK.out _ _ ?_ (fun hHeld=> ?_)
      exact blk_cell (show(wd.setCell ⟨sb,2,none⟩ _).heap[p2]? =some (.cells _ _ (0,0))from(blk_set_ne 2 _ hp2sb).trans X6.out) 0
      clear hK K
      (try simp only[gTA,gCZ,gCS,Act.put,sTA,sCZ,sCS])
      refine wpAnyH_done (by kernel_rfl) ?_ _
      refine NoPanic.normal ?_
      have SE8:=SE7.out.order (some ⟨g6,0,none⟩) oc6 od (Chg.refl _ _) (RowOf.shrink icI_len SE7.out.ord) (fun y hy=> .inl hy)
      have hk9:k<(pl.set k true).length:=by rw[List.length_set];exact hkl
      obtain⟨c9,f9⟩:=SE8.1.pcell k hk9
      have q9:=blk_cell SE8.1.blk
      have X9:=blk_cell (show(wd.setCell ⟨sb,2,none⟩ (.slice (some ⟨g6,0,none⟩) od.length oc6)).heap[p2]? =some (.cells _ _ (0,0))from(blk_set_ne 2 _ hp2sb).trans X6.out)
      have P9:=SE8.1.place k hk9 false
      rw[List.set_set,show pl.set k false=pl from by rw[←hpk];exact List.set_getElem_self hkl]at P9
      have SE9:=LH P9.1
      have K9:=LH P9.2
      have K8:=LH SE8.2
      clear SE8 P9 q7 f7
      go_wp2_with fail
      go_ret
      refine⟨pl,some ⟨g6,0,none⟩,oc6,od,by rw[HRR.out];rfl,SE9.out,(fun _=>⟨rfl,rfl⟩),(fun y hy=>by rw[HRR.out]at hy;cases hy), ?_, ?_⟩
      ·refine(((KW.out.then (K6.out.thenSame (D6.out.mono (by simp))) (fun y hy hlt=> ?_)).then K8.out (fun y hy hlt=> ?_)).then K9.out (fun y hy _=>by simp at hy;subst hy;simp[seF]))
       ·simp only[seF,List.mem_cons,ob,Option.map_some,Option.toList_some,List.not_mem_nil,or_false]at hy
        rcases hy with rfl|rfl|rfl
        ·simp[seF]
        ·simp[seF]
        ·rcases O5.out with h|h
         ·simp[seF,h]
         ·omega
       ·simp only[seF,List.mem_cons,ob,Option.map_some,Option.toList_some,List.not_mem_nil,or_false]at hy
        rcases hy with rfl|rfl|rfl
        ·simp[seF]
        ·simp[seF]
        ·rcases O6.out y rfl with h|h
         ·have h:g8=y:=by simpa[ob]using h
          subst h
          rcases O5.out with h|h
          ·simp[seF,h]
          ·omega
         ·omega
      ·intro y hy
       rcases O6.out y hy with h|h
       ·have h:g8=y:=by simpa[ob]using h
        subst h
        rcases O5.out with h|h
        ·exact .inl h
        ·exact .inr (by omega)
       ·exact .inr (by omega)
     ·
      (try simp only[gTA,gCZ,gCS])
      go_simp
      skip
      refine hK.out _ _ ?_ (fun hHeld=> ?_)
      exact blk_cell (show wd.heap[p2]? =some (.cells _ _ (0,0))from X6.out) 0
      clear hK K
      (try simp only[gTA,gCZ,gCS,Act.put,sTA,sCZ,sCS])
      refine wpAnyH_take (i:=9) (oi:=_) (v:= ?vD_9) rfl (by kernel_rfl) (by kernel_rfl) (by kernel_rfl) (fun _ _ _ h=>h) (Or.inl ⟨by rfl, ?yD_9⟩) hHeld ?rD_9
      case yD_9=>(intro w hSw;(try dsimp only at hSw);(try simp only[gTA,gCZ,gCS]);go_simp<;>with_reducible rfl)
      (try simp only[gTA,gCZ,gCS,Act.put,sTA,sCZ,sCS])
      refine wpAnyH_take (i:=10) (oi:=_) (v:= ?vD_10) rfl (by kernel_rfl) (by kernel_rfl) (by kernel_rfl) (fun _ _ _ h=>h) (Or.inl ⟨by rfl, ?yD_10⟩) hHeld ?rD_10
      case yD_10=>(intro w hSw;(try dsimp only at hSw);(try simp only[gTA,gCZ,gCS]);go_simp<;>with_reducible rfl)
      (try simp only[gTA,gCZ,gCS,Act.put,sTA,sCZ,sCS])
      refine wpAnyH_ready (rs:=[4]) (by kernel_rfl) (by simp) ?_
      refine AllReadyH.cons (o:=_) rfl (fun K hK=> ?_) AllReadyH.nil
      (try simp only[gTA,gCZ,gCS])
      go_simp
      skip
      refine hK.out _ _ ?_ (fun hHeld=> ?_)
      exact blk_cell (show wd.heap[p2]? =some (.cells _ _ (0,0))from X6.out) 0
      clear hK K
      (try simp only[gTA,gCZ,gCS,Act.put,sTA,sCZ,sCS])
      refine wpAnyH_ready (rs:=[11]) (by kernel_rfl) (by simp) ?_
      refine AllReadyH.cons (o:=_) rfl (fun K hK=> ?_) AllReadyH.nil
      (try simp only[gTA,gCZ,gCS])
      refine step_list rfl ?_
      (refine wpl_slice_h rfl _ _ 77 rfl elemInts (sizeInt _) g6 0 (od.length+1) oc6 od.length rfl (by show Value.int .i64 _=_;exact congrArg (Value.int .i64) (by first|rfl|exact hwr)) hodc ?_)
      refine⟨rfl,hK.out _ _ ?_ (fun hHeld=> ?_)⟩
      exact blk_cell (show wd.heap[p2]? =some (.cells _ _ (0,0))from X6.out) 0
      clear hK K
      (try simp only[gTA,gCZ,gCS,Act.put,sTA,sCZ,sCS])
      refine wpAnyH_take (i:=12) (oi:=_) (v:= ?vD_12) rfl (by kernel_rfl) (by kernel_rfl) (by kernel_rfl) (fun _ _ _ h=>h) (Or.inl ⟨by rfl, ?yD_12⟩) hHeld ?rD_12
      case yD_12=>(intro w hSw;(try dsimp only at hSw);(try simp only[gTA,gCZ,gCS]);go_simp<;>with_reducible rfl)
      (try simp only[gTA,gCZ,gCS,Act.put,sTA,sCZ,sCS])
      refine wpAnyH_take (i:=13) (oi:=_) (v:= ?vD_13) rfl (by kernel_rfl) (by kernel_rfl) (by kernel_rfl) (fun _ _ _ h=>h) (Or.inl ⟨by rfl, ?yD_13⟩) hHeld ?rD_13
      case yD_13=>(intro w hSw;(try dsimp only at hSw);(try simp only[gTA,gCZ,gCS]);go_simp<;>with_reducible rfl)
      (try simp only[gTA,gCZ,gCS,Act.put,sTA,sCZ,sCS])
      refine wpAnyH_ready (rs:=[14]) (by kernel_rfl) (by simp) ?_
      refine AllReadyH.cons (o:=_) rfl (fun K hK=> ?_) AllReadyH.nil
      (try simp only[gTA,gCZ,gCS])
      go_simp
      skip
      refine hK.out _ _ ?_ (fun hHeld=> ?_)
      exact blk_cell (show(wd.setCell ⟨sb,2,none⟩ _).heap[p2]? =some (.cells _ _ (0,0))from(blk_set_ne 2 _ hp2sb).trans X6.out) 0
      clear hK K
      (try simp only[gTA,gCZ,gCS,Act.put,sTA,sCZ,sCS])
      refine wpAnyH_done (by kernel_rfl) ?_ _
      refine NoPanic.normal ?_
      have SE8:=SE7.out.order (some ⟨g6,0,none⟩) oc6 od (Chg.refl _ _) (RowOf.shrink icI_len SE7.out.ord) (fun y hy=> .inl hy)
      have hk9:k<(pl.set k true).length:=by rw[List.length_set];exact hkl
      obtain⟨c9,f9⟩:=SE8.1.pcell k hk9
      have q9:=blk_cell SE8.1.blk
      have X9:=blk_cell (show(wd.setCell ⟨sb,2,none⟩ (.slice (some ⟨g6,0,none⟩) od.length oc6)).heap[p2]? =some (.cells _ _ (0,0))from(blk_set_ne 2 _ hp2sb).trans X6.out)
      have P9:=SE8.1.place k hk9 false
      rw[List.set_set,show pl.set k false=pl from by rw[←hpk];exact List.set_getElem_self hkl]at P9
      have SE9:=LH P9.1
      have K9:=LH P9.2
      have K8:=LH SE8.2
      clear SE8 P9 q7 f7
      go_wp2_with fail
      go_ret
      refine⟨pl,some ⟨g6,0,none⟩,oc6,od,by rw[HRR.out];rfl,SE9.out,(fun _=>⟨rfl,rfl⟩),(fun y hy=>by rw[HRR.out]at hy;cases hy), ?_, ?_⟩
      ·refine(((KW.out.then (K6.out.thenSame (D6.out.mono (by simp))) (fun y hy hlt=> ?_)).then K8.out (fun y hy hlt=> ?_)).then K9.out (fun y hy _=>by simp at hy;subst hy;simp[seF]))
       ·simp only[seF,List.mem_cons,ob,Option.map_some,Option.toList_some,List.not_mem_nil,or_false]at hy
        rcases hy with rfl|rfl|rfl
        ·simp[seF]
        ·simp[seF]
        ·rcases O5.out with h|h
         ·simp[seF,h]
         ·omega
       ·simp only[seF,List.mem_cons,ob,Option.map_some,Option.toList_some,List.not_mem_nil,or_false]at hy
        rcases hy with rfl|rfl|rfl
        ·simp[seF]
        ·simp[seF]
        ·rcases O6.out y rfl with h|h
         ·have h:g8=y:=by simpa[ob]using h
          subst h
          rcases O5.out with h|h
          ·simp[seF,h]
          ·omega
         ·omega
      ·intro y hy
       rcases O6.out y hy with h|h
       ·have h:g8=y:=by simpa[ob]using h
        subst h
        rcases O5.out with h|h
        ·exact .inl h
        ·exact .inr (by omega)
       ·exact .inr (by omega)
end
section
open Go.RowKit
variable {W w w':World} {sb pg:Nat} {la:Option Addr} {lc:Nat} {l:List Cl} {lv:Value} {pl:List Bool} {oa oa':Option Addr} {oc oc':Nat} {od:List Int} {sa:Option Addr} {sc:Nat} {st:List Ce}
theorem FH.next (h:FH W w sb la lc l pg pl oa oc od sa sc st) (hs:SeAt w' sb (.slice la l.length lc) pg pl oa' oc' od) (hc:Chg (seF sb pg oa) w w') (ho:∀x,ob oa'=some x→ob oa=some x∨w.heap.size≤x):FH W w' sb la lc l pg pl oa' oc' od sa sc st:=
 {se:=hs,cls:=h.cls,good:=h.good,tab:=h.tab,len:=h.len,plen:=h.plen,room:=h.room,stg:=h.stg
  base:=h.base.then hc (fun x hx hlt=>absurd hlt (Nat.not_lt.2 (h.far x hx)))
  far:=fun x hx=>by
   simp only[seF,List.mem_cons]at hx
   rcases hx with rfl|rfl|hx
   ·exact h.far _ (by simp[seF])
   ·exact h.far _ (by simp[seF])
   ·rcases ho x (by simpa using hx)with e|e
    ·exact h.far _ (by simp[seF,e])
    ·exact Nat.le_trans h.base.size e
  stin:=h.stin.keptN hc (fun x hx=>(h.apart x hx).1)
  apart:=fun x hx=>by
   obtain⟨h1,h2⟩:=h.apart x hx
   refine⟨fun hm=> ?_,Nat.lt_of_lt_of_le h2 hc.size⟩
   simp only[seF,List.mem_cons]at hm
   rcases hm with e|e|e
   ·exact h1 (by simp[seF,e])
   ·exact h1 (by simp[seF,e])
   ·rcases ho x.block (by simpa using e)with e|e
    ·exact h1 (by simp[seF,e])
    ·omega}
theorem FH.keptN (h:FH W w sb la lc l pg pl oa oc od sa sc st) (hc:Chg [] w w'):FH W w' sb la lc l pg pl oa oc od sa sc st:=h.next (h.se.keptN hc) (hc.mono (by simp)) (fun _ hx=> .inl hx)
theorem FP.back {r:Option (List Int)} {e:Ending} {W1:World} (h:FP w sb lv pg pl oa' od r e w') (hc:Chg (seF sb pg oa) W1 w) (ho:∀x,ob oa'=some x→ob oa=some x∨W1.heap.size≤x):FP W1 sb lv pg pl oa od r e w':=by
 obtain⟨p,a,c,o,h1,h2,h3,h4,h5,h6⟩:=h
 refine⟨p,a,c,o,h1,h2,h3,h4,hc.then h5 (fun x hx hlt=> ?_),fun x hx=> ?_⟩
 ·simp only[seF,List.mem_cons]at hx
  rcases hx with rfl|rfl|hx
  ·simp[seF]
  ·simp[seF]
  ·rcases ho x (by simpa using hx)with e|e
   ·simp[seF,e]
   ·omega
 ·rcases h6 x hx with e|e
  ·exact ho x e
  ·exact .inr (Nat.le_trans hc.size e)
theorem seF_box {p:Nat} (h:SeAt w sb lv pg pl oa oc od) (hp:w.heap.size≤p):p∉seF sb pg oa:=fun hm=>by have:=h.lt p hm;omega
theorem find_done (h:FH W w sb la lc l pg pl oa oc od sa sc st) (hd:doneB (l.map Cl.p) pl=true):Calls Tryz.prog 60 #[.pointer (some ⟨sb,0,none⟩), .slice sa st.length sc] w (FP w sb (.slice la l.length lc) pg pl oa od (some od)):=by
 obtain⟨W1,hW1⟩:∃W1,W1=(w.alloc (.cells #[.pointer (some ⟨sb,0,none⟩)] 186)).alloc (.cells #[.slice sa st.length sc] 22):=⟨_,rfl⟩
 have C1:=LH (show Chg [] w W1 by rw[hW1];exact((Chg.refl _ _).alloc _).alloc _)
 have X2:=LH (show Box1 W1 w.heap.size (.pointer (some ⟨sb,0,none⟩)) 186 by unfold Box1;rw[hW1];exact blk_alloc (heap_alloc_new _ _))
 have A:=done_any (h.se.keptN C1.out) (h.cls.kept (h.base.thenSame C1.out)) h.plen h.len
 rw[hd]at A
 have A:=LH A
 rename_i A0
 have SE:=LH h.se
 have k2:=blk_cell (show W1.heap[w.heap.size]? =some (.cells _ _ (0,0))from X2.out)
 have HW1:=LH hW1
 clear hW1 A0 h hd
 go_enter Tryz.func60,Tryz.ntmps60
 go_wp2
 go_step3
 rw[←HW1.out]
 go_wp2_with (go_at_call 110;(with_reducible refine Calls.mono A.out ?_);rintro e w2 ⟨rfl,hc⟩;have C2:=LH (C1.out.thenSame hc);clear hc)
 rw[Exit.noGoto_ret]
 go_ret
 exact⟨pl,oa,oc,od,rfl,SE.out.keptN C2.out,(fun h=>by cases h),(fun x hx=>by cases hx;rfl),C2.out.mono (by simp),fun x hx=> .inl hx⟩
theorem tryF_placed {P:List PCl} {F:List Ce→List Bool→List Int→Option (List Int)} {k:Nat} (h:pl[k]? =some true):tryF P F st pl od k=none:=by
 unfold tryF
 rw[h]
 cases P[k]? <;>rfl
theorem tryF_block {P:List PCl} {F:List Ce→List Bool→List Int→Option (List Int)} {k:Nat} {x:PCl} (hx:P[k]? =some x) (h:blockB P pl x=true):tryF P F st pl od k=none:=by
 unfold tryF
 rw[hx]
 cases pl[k]? with
 |none=>rfl
 |some b=>cases b<;>simp[h]
theorem tryF_go {P:List PCl} {F:List Ce→List Bool→List Int→Option (List Int)} {k:Nat} {x:PCl} (hx:P[k]? =some x) (hp:pl[k]? =some false) (h:blockB P pl x=false):tryF P F st pl od k=goF F st pl od k x:=by
 unfold tryF
 rw[hx,hp]
 show(if blockB P pl x=true then none else _)=_
 rw[if_neg (by rw[h];simp)]
theorem find_step (n:Nat) (F:FindC n) (h:FH W w sb la lc l pg pl oa oc od sa sc st) (hn:pl.count false≤n+1) (hd:doneB (l.map Cl.p) pl=false):
 Calls Tryz.prog 60 #[.pointer (some ⟨sb,0,none⟩), .slice sa st.length sc] w (FP w sb (.slice la l.length lc) pg pl oa od (firstO (tryF (l.map Cl.p) (findF (l.map Cl.p) n) st pl od) 0 l.length)):=by
 obtain⟨W1,hW1⟩:∃W1,W1=(w.alloc (.cells #[.pointer (some ⟨sb,0,none⟩)] 186)).alloc (.cells #[.slice sa st.length sc] 22):=⟨_,rfl⟩
 have C1:=LH (show Chg [] w W1 by rw[hW1];exact((Chg.refl _ _).alloc _).alloc _)
 have X2:=LH (show Box1 W1 w.heap.size (.pointer (some ⟨sb,0,none⟩)) 186 by unfold Box1;rw[hW1];exact blk_alloc (heap_alloc_new _ _))
 have X3:=LH (show Box1 W1 (w.heap.size+1) (.slice sa st.length sc) 22 by unfold Box1;rw[hW1];have:=heap_alloc_new (w.alloc (.cells #[.pointer (some ⟨sb,0,none⟩)] 186)) (.cells #[.slice sa st.length sc] 22);rwa[World.size_alloc]at this)
 have A:=done_any (h.se.keptN C1.out) (h.cls.kept (h.base.thenSame C1.out)) h.plen h.len
 rw[hd]at A
 have A:=LH A
 rename_i A0
 have H:=LH h
 have FF:=LH F
 have HN:=LH hn
 obtain⟨T,hT⟩:∃T,T=tryF (l.map Cl.p) (findF (l.map Cl.p) n) st pl od:=⟨_,rfl⟩
 obtain⟨R,hR⟩:∃R,R=firstO T 0 l.length:=⟨_,rfl⟩
 have HT:=LH hT
 have HR:=LH hR
 rw[←hT,←hR]
 have h8:=h.len
 have hpl:=h.plen
 have h8':(l.length:Int)≤8:=by omega
 have k2:=blk_cell (show W1.heap[w.heap.size]? =some (.cells _ _ (0,0))from X2.out)
 have HW1:=LH hW1
 clear hW1 A0 h hd hT hR F hn
 go_enter Tryz.func60,Tryz.ntmps60
 go_wp2
 go_step3
 rw[←HW1.out]
 go_wp2_with (go_at_call 110;(with_reducible refine Calls.mono A.out ?_);rintro e w2 ⟨rfl,hc⟩;have K2:=LH hc;clear hc)
 go_step3
 have H2:=LH (H.out.keptN (C1.out.thenSame K2.out))
 have Y2:=LH (show Box1 w2 w.heap.size (.pointer (some ⟨sb,0,none⟩)) 186 from K2.out.at (by simp) X2.out)
 have Y3:=LH (show Box1 w2 (w.heap.size+1) (.slice sa st.length sc) 22 from K2.out.at (by simp) X3.out)
 have NB2:=LH (show w.heap.size∉seF sb pg oa from seF_box H.out.se (Nat.le_refl _))
 have NB3:=LH (show w.heap.size+1∉seF sb pg oa from seF_box H.out.se (by omega))
 have CW:=LH (C1.out.thenSame K2.out)
 have hsz:w.heap.size+2≤w2.heap.size:=by have:=lt_of_heap Y3.out;omega
 have z2:=blk_cell (show w2.heap[w.heap.size]? =some (.cells _ _ (0,0))from Y2.out)
 have zs:=blk_cell H2.out.se.blk
 clear k2
 go_wp2_with fail
 clear z2 zs
 go_loopg [18] l.length (fun g i wr=>∃(k:Nat) (oa1:Option Addr) (oc1:Nat),k+g=l.length∧i= .int .i64 (k:Int)∧Hid (FH W wr sb la lc l pg pl oa1 oc1 od sa sc st)∧Hid (Chg (seF sb pg oa) w2 wr)∧Hid (∀x,ob oa1=some x→ob oa=some x∨w2.heap.size≤x)∧Hid (∀j,j<k→T j=none))
 case atStart=>exact⟨0,oa,oc,by omega,rfl,H2,LH (Chg.refl _ _),LH (fun x hx=> .inl hx),LH (fun j hj=>by omega)⟩
 case round=>
  obtain⟨k,oa1,oc1,hkg,rfl,HK,DK,OK,NK⟩:=hrel
  have hk0:(0:Int)≤(k:Int):=by omega
  by_cases hk:k<l.length
  ·have hkp:k<pl.length:=by omega
   have hk1:(k:Int)<(l.length:Int):=by omega
   have hk2:(k:Int)<(pl.length:Int):=by omega
   obtain⟨b,off,ela,hbW,hcc⟩:=HK.out.cls.at8 (w':=wr) k hk
   subst ela
   obtain⟨d0,d1,d2,d3,d4,d5,d6,d7⟩:=hcc _ HK.out.base
   have HPK:=LH (show(l.map Cl.p)[k]? =some (l[k]).p by rw[List.getElem?_map,List.getElem?_eq_getElem hk];rfl)
   have AT:=LH (fun wq oa9 oc9 (hq:FH W wq sb (some ⟨b,off,none⟩) lc l pg pl oa9 oc9 od sa sc st) p1 p2 h1 h2 h3 h4 hkf=>try_any n FF.out hq p1 p2 h1 h2 h3 h4 k hk hkf HN.out)
   generalize l[k]=x at*
   have AB:=LH (fun y w'=>lbef_any y x w')
   obtain⟨W5,hW5⟩:∃W5,W5=wr.alloc (clO x):=⟨_,rfl⟩
   have E5:=LH (show Chg [] wr W5 by rw[hW5];exact(Chg.refl _ _).alloc _)
   have B5:=LH (show W5.heap[wr.heap.size]? =some (clO x) by rw[hW5];exact heap_alloc_new _ _)
   unfold clO at hW5
   have HW5:=LH hW5
   have Z2:=LH (show Box1 wr w.heap.size (.pointer (some ⟨sb,0,none⟩)) 186 from DK.out.at NB2.out Y2.out)
   have Z3:=LH (show Box1 wr (w.heap.size+1) (.slice sa st.length sc) 22 from DK.out.at NB3.out Y3.out)
   have M2:=LH (fun w' (hc:Chg [] wr w')=>blk_cell (show w'.heap[w.heap.size]? =some (.cells _ _ (0,0))from hc.at (by simp) Z2.out))
   have MS:=LH (fun w' (hc:Chg [] wr w')=>blk_cell (hc.at (by simp) HK.out.se.blk))
   have MP:=LH (fun w' (hc:Chg [] wr w') j hj=>(SeAt.pcell (HK.out.se.keptN hc) j hj).1)
   obtain⟨bp,hbp⟩:∃bp,bp=pl[k]:=⟨_,rfl⟩
   have HBP:=LH (show pl[k]? =some bp by rw[List.getElem?_eq_getElem hkp,hbp])
   have p5:=MP.out _ E5.out k hkp
   rw[←hbp]at p5
   have k5:=M2.out _ E5.out
   have s5:=MS.out _ E5.out
   clear hbp hcc hbW hW5
   go_upto_region 7 with fail
   rw[←HW5.out]
   clear d0 d1 d2 d3 d4 d5 d6 d7
   obtain⟨G,rfl⟩:∃G,gk=G+1:=⟨gk-1,by omega⟩
   have NX:=LH (fun wz (hc:Chg [] wr wz) (hTk:T k=none)=>And.intro (HK.out.keptN hc) (And.intro (DK.out.thenSame (hc.mono (T:=seF sb pg oa) (by simp))) (fun j (hj:j<k+1)=>(Nat.lt_or_eq_of_le (Nat.le_of_lt_succ hj)).elim (fun h=>NK.out j h) (fun h=>by rw[h];exact hTk))))
   have hw2r:=DK.out.size
   have NC2:=LH (show w.heap.size∉seF sb pg oa1 from fun hm=>by
    simp only[seF,List.mem_cons]at hm
    rcases hm with e|e|e
    ·exact NB2.out (by simp[seF,←e])
    ·exact NB2.out (by simp[seF,←e])
    ·rcases OK.out _ (by simpa using e)with h|h
     ·exact NB2.out (by simp[seF,h])
     ·omega)
   have NC3:=LH (show w.heap.size+1∉seF sb pg oa1 from fun hm=>by
    simp only[seF,List.mem_cons]at hm
    rcases hm with e|e|e
    ·exact NB3.out (by simp[seF,←e])
    ·exact NB3.out (by simp[seF,←e])
    ·rcases OK.out _ (by simpa using e)with h|h
     ·exact NB3.out (by simp[seF,h])
     ·omega)
   cases bp
   ·go_upto_region 8 with fail
    go_wp2_with fail
    obtain⟨wo,hwo⟩:∃wo,wo=wr:=⟨_,rfl⟩
    subst hwo
    go_loopg [35] l.length (fun g2 i2 wy=>∃j:Nat,j+g2=l.length∧i2= .int .i64 (j:Int)∧Hid (Chg [] W5 wy)∧Hid (blockTo (l.map Cl.p) pl x.p j=false))
    case atStart=>exact⟨0,by omega,rfl,LH (Chg.refl _ _),LH rfl⟩
    case round=>
     obtain⟨j,hjg,rfl,DJ,NJ⟩:=hrel
     have hj0:(0:Int)≤(j:Int):=by omega
     have RJ:=LH (E5.out.thenSame DJ.out)
     by_cases hj:j<l.length
     ·have hjp:j<pl.length:=by omega
      have hj1:(j:Int)<(l.length:Int):=by omega
      have hj2:(j:Int)<(pl.length:Int):=by omega
      obtain⟨b',off',e', -,hcj⟩:=HK.out.cls.at8 (w':=wo) j hj
      cases e'
      obtain⟨d0,d1,d2,d3,d4,d5,d6,d7⟩:=hcj _ (HK.out.base.thenSame RJ.out)
      have hst:=blockTo_step (l:=l.map Cl.p) (pl:=pl) (x:=x.p) (k:=j) (by rw[List.length_map];exact hj) hjp
      have hyes:=blockB_yes (l:=l.map Cl.p) (pl:=pl) (x:=x.p) (k:=j) (by rw[List.length_map];exact hj) hjp
      rw[NJ.out,Bool.false_or]at hst
      simp only[List.getElem_map]at hst hyes
      obtain⟨W9,hW9⟩:∃W9,W9=wr.alloc (clO l[j]):=⟨_,rfl⟩
      have E9:=LH (show Chg [] wr W9 by rw[hW9];exact(Chg.refl _ _).alloc _)
      have B9:=LH (show W9.heap[wr.heap.size]? =some (clO l[j]) by rw[hW9];exact heap_alloc_new _ _)
      have C9:=LH (E9.out.at (by simp) (DJ.out.at (by simp) B5.out))
      have R9:=LH (RJ.out.thenSame E9.out)
      have p9:=MP.out _ R9.out j hjp
      have k9:=M2.out _ R9.out
      have s9:=MS.out _ R9.out
      have AB9:=AB.out l[j]
      generalize l[j]=y at*
      generalize pl[j]=bj at*
      have c9:=blk_cell (show W9.heap[wo.heap.size]? =some (.cells _ _ (0,0))from C9.out)
      have b9:=blk_cell (show W9.heap[wr.heap.size]? =some (.cells _ _ (0,0))from B9.out)
      generalize befB y.p x.p=bb at*
      unfold clO at hW9
      unfold clC at AB9
      have HW9:=LH hW9
      have AB9:=LH AB9
      rename_i AB90
      clear AB90 hW9 hcj k5 s5 p5
      go_upto_region 11 with fail
      rw[←HW9.out]
      clear d0 d1 d2 d3 d4 d5 d6 d7
      cases bj
      ·cases bb
       ·have HST:=LH hst
        clear hst hyes
        go_wp2_with (go_at_call 62;(with_reducible refine Calls.mono (AB9.out _) ?_);rintro e w10 ⟨rfl,hc⟩;have D10:=LH ((DJ.out.thenSame E9.out).thenSame hc);clear hc)
        obtain⟨G2,rfl⟩:∃G2,gk=G2+1:=⟨gk-1,by omega⟩
        go_roundg G2
        case measure=>omega
        case rel=>exact⟨j+1,by omega,by go_num,D10,HST⟩
       ·have HTK:=LH (show T k=none by rw[HT.out];exact tryF_block HPK.out (hyes rfl))
        clear hst hyes
        go_wp2_with (go_at_call 62;(with_reducible refine Calls.mono (AB9.out _) ?_);rintro e w10 ⟨rfl,hc⟩;have D10:=LH (R9.out.thenSame hc);clear hc)
        go_roundg G
        case measure=>omega
        case rel=>
         obtain⟨n1,n2,n3⟩:=NX.out _ D10.out HTK.out
         exact⟨k+1,oa1,oc1,by omega,by go_num,LH n1,LH n2,OK,LH n3⟩
      ·have HST:=LH hst
       clear hst hyes
       go_wp2_with fail
       obtain⟨G2,rfl⟩:∃G2,gk=G2+1:=⟨gk-1,by omega⟩
       go_roundg G2
       case measure=>omega
       case rel=>exact⟨j+1,by omega,by go_num,LH (DJ.out.thenSame E9.out),HST⟩
     ·have hjs:j=l.length:=by omega
      have HBL:=LH (show blockB (l.map Cl.p) pl x.p=false by unfold blockB;rw[List.length_map,←hjs];exact NJ.out)
      have FHy:=LH (HK.out.keptN RJ.out)
      have ATy:=AT.out wr oa1 oc1 FHy.out (w.heap.size+1) w.heap.size (show wr.heap[_]? =_ from RJ.out.at (by simp) Z3.out) (show wr.heap[_]? =_ from RJ.out.at (by simp) Z2.out) NC3.out NC2.out HBP.out
      have htk:goF (findF (l.map Cl.p) n) st pl od k x.p=T k:=by rw[HT.out];exact(tryF_go HPK.out HBP.out HBL.out).symm
      rw[htk]at ATy
      obtain⟨tk,htk2⟩:∃tk,tk=T k:=⟨_,rfl⟩
      rw[←htk2]at ATy
      have HTK:=LH htk2
      have ATy:=LH ATy
      rename_i AT0
      clear AT0 htk htk2 hjs k5 s5 p5
      cases tk with
      |some r=>
       have HE:=LH (show R=some r by rw[HR.out];exact firstO_at (Nat.zero_le _) (by omega) (fun j _ hj=>NK.out j hj) HTK.out.symm)
       go_wp2_with (first|(with_reducible refine Calls.mono ATy.out ?_);intro e w10 hfp;have FP10:=LH hfp;obtain⟨-, -, -, -,rfl, -⟩:=hfp)
       (try rw[Exit.noGoto_ret])
       go_ret
       rw[HE.out]
       exact((FP10.out.back ((DK.out.thenSame (RJ.out.mono (by simp)))) OK.out)).back (CW.out.mono (by simp)) (fun _ hx=> .inl hx)
      |none=>
       go_wp2_with (first|(with_reducible refine Calls.mono ATy.out ?_);rintro e w10 ⟨pl9,oa9,oc9,od9,rfl,hse,hno, -,hc,ho⟩;have SE9:=LH hse;have HNO:=LH (hno rfl);have K9:=LH hc;have O9:=LH ho;clear hse hno hc ho)
       obtain⟨e1,e2⟩:=HNO.out
       subst e1
       subst e2
       go_roundg G
       case measure=>omega
       case rel=>
        refine⟨k+1,oa9,oc9,by omega,by go_num,LH (FHy.out.next SE9.out K9.out O9.out),LH ((DK.out.thenSame (RJ.out.mono (by simp))).then K9.out (fun y hy hlt=> ?_)),LH (fun y hy=> ?_),LH (NX.out _ RJ.out HTK.out.symm).2.2⟩
        ·simp only[seF,List.mem_cons]at hy
         rcases hy with rfl|rfl|hy
         ·simp[seF]
         ·simp[seF]
         ·rcases OK.out y (by simpa using hy)with h|h
          ·simp[seF,h]
          ·omega
        ·rcases O9.out y hy with h|h
         ·exact OK.out y h
         ·have:=RJ.out.size;exact .inr (by omega)
   ·have HTK:=LH (show T k=none by rw[HT.out];exact tryF_placed HBP.out)
    go_wp2_with fail
    go_roundg G
    case measure=>omega
    case rel=>
     obtain⟨n1,n2,n3⟩:=NX.out _ E5.out HTK.out
     exact⟨k+1,oa1,oc1,by omega,by go_num,LH n1,LH n2,OK,LH n3⟩
  ·have hks:k=l.length:=by omega
   have HE:=LH (show R=none by rw[HR.out];exact firstO_none (fun j _ hj=>NK.out j (by omega)))
   clear hks
   go_wp2_with fail
   (try rw[Exit.noGoto_ret])
   go_ret
   rw[HE.out]
   exact⟨pl,oa1,oc1,od,rfl,HK.out.se,(fun _=>⟨rfl,rfl⟩),(fun x hx=>by cases hx),(CW.out.mono (T:=seF sb pg oa) (by simp)).thenSame DK.out,fun x hx=>(OK.out x hx).elim .inl (fun h=> .inr (by omega))⟩
theorem find_all:∀n,FindC n:=by
 intro n
 induction n with
 |zero=>
  intro W w sb la lc l pg pl oa oc od sa sc st h hn
  have hd:=done_count (l:=l.map Cl.p) (by rw[List.length_map];exact h.plen) (Nat.le_zero.1 hn)
  have:=find_done h hd
  rwa[show findF (l.map Cl.p) 0 st pl od=some od by unfold findF;rw[if_pos hd]]
 |succ n ih=>
  intro W w sb la lc l pg pl oa oc od sa sc st h hn
  by_cases hd:doneB (l.map Cl.p) pl=true
  ·have:=find_done h hd
   rwa[show findF (l.map Cl.p) (n+1) st pl od=some od by unfold findF;rw[if_pos hd]]
  ·have:=find_step n ih h hn (by simpa using hd)
   rwa[show findF (l.map Cl.p) (n+1) st pl od=firstO (tryF (l.map Cl.p) (findF (l.map Cl.p) n) st pl od) 0 l.length by rw[findF,if_neg hd,List.length_map]]
end
section
open Go.RowKit
variable {w:World} {la:Option Addr} {lc:Nat} {l:List Cl} {sa:Option Addr} {sc:Nat} {st:List Ce}
def hchkZ (st:List Ce) (l:List PCl):Int:=if hcheckZ l≠0 then hcheckZ l else checkZ st
def findZ (st:List Ce) (l:List PCl):List Int×Int:=if hchkZ st l≠0 then([],hchkZ st l)else match findF l l.length st (List.replicate l.length false) []with|none=>([],19)|some o=>(o,0)
theorem boolInfo:(Tryz.prog.info? 4).map (fun i=>(i.zero,i.size,i.bytes))=some (some (.bool false),1,1):=by kernel_rfl
theorem lcheck2_any (h:LIn w la lc l) (hg:∀x∈l,goodCl x) (hs:InIs ceC 4 w sa sc st) (hsg:goodL st) (ht:TabW w):
 Calls Tryz.prog 59 #[.slice sa st.length sc, .slice la l.length lc] w fun e w'=>e= .returned (.int .i64 (hchkZ st (l.map Cl.p)))∧Chg [] w w':=by
 have A:=LH (lcheck_any (c:=lc) h hg ht)
 have A2:=LH (fun w' (hc:Chg [] w w')=>vcheck_any sa sc st w' (hs.1.kept hc) hsg.1 hsg.2 (ht.kept hc))
 unfold hchkZ
 clear h hg hs hsg ht
 generalize hcheckZ (l.map Cl.p)=z at*
 generalize checkZ st=y at*
 by_cases hz:z=0
 ·subst hz
  rw[if_neg (by simp)]
  go_enter Tryz.func59,Tryz.ntmps59
  go_wp2_with fail
  refine A.out.mono ?_;rintro e w2 ⟨rfl,hc⟩
  have C2:=LH hc
  clear hc
  go_wp2_with fail
  refine(A2.out _ C2.out).mono ?_;rintro e w3 ⟨rfl,hc⟩
  have C3:=LH (C2.out.thenSame hc)
  clear hc
  go_wp2_with fail
  go_ret
  exact⟨rfl,C3.out⟩
 ·rw[if_pos hz]
  have hzb:(z !=0)=true:=by simpa using hz
  clear hz
  go_enter Tryz.func59,Tryz.ntmps59
  go_wp2_with fail
  refine A.out.mono ?_;rintro e w2 ⟨rfl,hc⟩
  have C2:=LH hc
  clear hc
  go_wp2_with fail
  go_ret
  exact⟨rfl,C2.out⟩
def FindP (w:World) (r:List Int×Int) (e:Ending) (w':World):Prop:=
 ∃oa oc,e= .returned (.tuple #[.slice oa r.1.length oc, .int .i64 r.2])∧InIs icI 1 w' oa oc r.1∧(∀x,oa=some x→w.heap.size≤x.block)∧Chg [] w w'
theorem lfind_any (h:LIn w la lc l) (hg:∀x∈l,goodCl x) (hs:InIs ceC 4 w sa sc st) (hsg:goodL st) (ht:TabW w):
 Calls Tryz.prog 19 #[.slice sa st.length sc, .slice la l.length lc] w (FindP w (findZ st (l.map Cl.p))):=by
 have A:=LH (lcheck2_any h hg hs hsg ht)
 by_cases hz:hchkZ st (l.map Cl.p)=0
 case neg=>
  have HE:=LH (show findZ st (l.map Cl.p)=([],hchkZ st (l.map Cl.p)) by unfold findZ;rw[if_pos hz])
  rw[HE.out]
  have hzb:(hchkZ st (l.map Cl.p)!=0)=true:=by simpa using hz
  clear h hg hs hsg ht hz HE
  generalize hchkZ st (l.map Cl.p)=z at*
  go_enter Tryz.func19,Tryz.ntmps19
  go_wp2_with fail
  refine A.out.mono ?_;rintro e w2 ⟨rfl,hc⟩
  have C2:=LH hc
  clear hc
  go_wp2_with fail
  go_ret2
  exact⟨none,0,rfl,⟨⟨rfl,fun k hk=>by simp at hk⟩,Nat.le_refl _,Nat.zero_le _,fun _=>rfl⟩,(fun x hx=>by cases hx),C2.out⟩
 have hh:hcheckZ (l.map Cl.p)=0∧checkZ st=0:=by
  unfold hchkZ at hz
  split at hz
  ·rename_i h1;exact absurd hz h1
  ·rename_i h1;exact⟨by simpa using h1,hz⟩
 have h8:l.length≤8:=by have:=(hcheck_zero hh.1).1;rwa[List.length_map]at this
 have hne:=(check_zero hh.2).1
 rw[hz]at A
 have HF:=LH (show findZ st (l.map Cl.p)=match findF (l.map Cl.p) l.length st (List.replicate l.length false) []with|none=>([],19)|some o=>(o,0) by unfold findZ;rw[if_neg (by simp[hz]),List.length_map])
 obtain⟨R,hR⟩:∃R,R=findF (l.map Cl.p) l.length st (List.replicate l.length false) []:=⟨_,rfl⟩
 have HR:=LH hR
 rw[←hR]at HF
 rw[HF.out]
 obtain⟨sb0,so0,esa,hsb0, -⟩:=hs.1.2 0 (by cases st with|nil=>exact absurd rfl hne|cons _ _=>simp)
 have HS:=LH hs
 have ESA:=LH esa
 have FC:=LH (find_all l.length)
 have h8':(l.length:Int)≤8:=by omega
 have hl0:(0:Int)≤(l.length:Int):=by omega
 have HL:=LH h
 have HG:=LH hg
 have HSG:=LH hsg
 have HT:=LH ht
 have H8:=LH h8
 clear h hg hs hsg ht hz hh hne hR esa
 go_enter Tryz.func19,Tryz.ntmps19
 go_wp2_with fail
 refine A.out.mono ?_;rintro e w2 ⟨rfl,hc⟩
 have C2:=LH hc
 clear hc
 go_upto_region 5 with (at_make;go_loud (refine wpl_make (cf:=bC) rfl _ _ 187 rfl 0 4 _ 1 Tryz.underlying187 boolInfo false rfl rfl l.length rfl rfl (by omega) (by unfold maxLen;omega) (Nat.zero_le _) ?_);intro w3 hr3 hc3 hl3;have R3:=LH hr3;have K3:=LH hc3;clear hr3 hc3)
 have hw2:=C2.out.size
 have hw3:=K3.out.size
 obtain⟨W4,hW4⟩:∃W4,W4=w3.alloc (.cells #[.slice la l.length lc, .slice (some ⟨w2.heap.size,0,none⟩) l.length l.length, .slice none 0 0] 189):=⟨_,rfl⟩
 have K4:=LH (show Chg [] w3 W4 by rw[hW4];exact(Chg.refl _ _).alloc _)
 have B4:=LH (heap_alloc_new w3 (.cells #[.slice la l.length lc, .slice (some ⟨w2.heap.size,0,none⟩) l.length l.length, .slice none 0 0] 189))
 rw[←hW4]at B4
 rw[←hW4]
 have hrl:(List.replicate l.length false).length=l.length:=List.length_replicate
 have SE4:Hid (SeAt W4 w3.heap.size (.slice la l.length lc) w2.heap.size (List.replicate l.length false) none 0 []):=LH
  {blk:=by rw[hrl];exact B4.out
   plc:=by rw[hrl];exact R3.out.kept K4.out (by simp)
   ord:=RowOf.nil _ _ _
   ne:=by have:=(R3.out.block _ rfl).2;simp only at this;omega
   ne1:=by simp[ob]
   ne2:=by simp[ob]}
 have C4:=LH ((C2.out.thenSame K3.out).thenSame K4.out)
 have FH4:Hid (FH w W4 w3.heap.size la lc l w2.heap.size (List.replicate l.length false) none 0 [] sa sc st):=LH
  {se:=SE4.out,base:=C4.out,cls:=HL.out,good:=HG.out,tab:=HT.out,len:=H8.out,plen:=hrl,stg:=HSG.out
   far:=fun x hx=>by simp[seF,ob]at hx;rcases hx with rfl|rfl<;>omega
   room:=by simp;omega
   stin:=HS.out.kept C4.out
   apart:=fun x hx=>by
    rw[ESA.out]at hx;cases hx
    refine⟨fun hm=> ?_,by have:=C4.out.size;simp only;omega⟩
    simp[seF,ob]at hm
    omega}
 have A5:=FC.out w W4 w3.heap.size la lc l w2.heap.size (List.replicate l.length false) none 0 [] sa sc st FH4.out (by simp)
 rw[←HR.out]at A5
 have A5:=LH A5
 rename_i A50
 clear A50 hW4
 cases R with
 |some o=>
  go_wp2_with (go_at_call 60;(with_reducible refine Calls.mono A5.out ?_);rintro e w6 ⟨pl6,oa6,oc6,od6,rfl,hse, -,hyes,hc,ho⟩;have O6:=LH ho;clear ho;obtain rfl:=hyes o rfl;have SE6:=LH hse;have C6:=LH (C4.out.then hc (fun x hx hlt=>by simp[seF,ob]at hx;omega));have k6:=blk_cell hse.blk;clear hse hyes hc)
  go_ret2
  exact⟨oa6,oc6,rfl,(InIs.ofRow SE6.out.ord icI_len).2,(fun x hx=>by
   rcases O6.out x.block (by rw[hx];rfl)with h|h
   ·simp[ob]at h
   ·exact Nat.le_trans C4.out.size h),C6.out⟩
 |none=>
  go_wp2_with (go_at_call 60;(with_reducible refine Calls.mono A5.out ?_);rintro e w6 ⟨pl6,oa6,oc6,od6,rfl,hse, -, -,hc, -⟩;have C6:=LH (C4.out.then hc (fun x hx hlt=>by simp[seF,ob]at hx;omega));clear hse hc)
  go_ret2
  exact⟨none,0,rfl,⟨⟨rfl,fun k hk=>by simp at hk⟩,Nat.le_refl _,Nat.zero_le _,fun _=>rfl⟩,(fun x hx=>by cases hx),C6.out⟩
end
end Go.Proofs.YtmofknmeljdodaaGreatDoor
