/- Layer 12: contracts: code's depths at the example. No condition but those that the statements name. -/
import Derived.Deep.OwnRows
import Derived.Test.YtmofknmeljdodaaGreatDoorZS01
import Derived.Test.YtmofknmeljdodaaGreatDoorZS13
set_option maxHeartbeats 100000000
set_option maxRecDepth 100000
set_option linter.unusedVariables false
set_option linter.unusedSimpArgs false
open List renaming getElem_toArray→gTA,getElem_cons_zero→gCZ,getElem_cons_succ→gCS,setIfInBounds_toArray→sTA,set_cons_zero→sCZ,set_cons_succ→sCS
namespace Go.Proofs.YtmofknmeljdodaaGreatDoor
section
open Go.RowKit
variable {g o gi oi:Nat} {w:World}
def dA:Nat→Array Value
 |0=> #[.int .i64 0, .int .i64 (-1), .int .i64 (-1), .int .i64 (-1), .int .i64 (-1), .int .i64 (-1)]
 |1=> #[.int .i64 0, .int .i64 1, .int .i64 (-1), .int .i64 (-1), .int .i64 (-1), .int .i64 (-1)]
 |2=> #[.int .i64 0, .int .i64 1, .int .i64 2, .int .i64 (-1), .int .i64 (-1), .int .i64 (-1)]
 |_=> #[.int .i64 0, .int .i64 1, .int .i64 2, .int .i64 1, .int .i64 (-1), .int .i64 (-1)]
def fA:Nat→Array Value
 |0=> #[.bool false, .bool false, .bool false, .bool false, .bool false, .bool false]
 |1=> #[.bool true, .bool false, .bool false, .bool false, .bool false, .bool false]
 |2=> #[.bool true, .bool true, .bool false, .bool false, .bool false, .bool false]
 |3=> #[.bool true, .bool true, .bool true, .bool false, .bool false, .bool false]
 |_=> #[.bool true, .bool true, .bool true, .bool true, .bool false, .bool false]
structure DpAt (g o gi oi b0 b1 q r fc ic:Nat) (D F:Array Value) (w0 w:World):Prop where
 cd:CdAt g o gi oi w
 sh:ShW w
 hc:w.heap[b0]? =some (.cells #[.slice (some ⟨g,o,none⟩) 1 fc, .slice (some ⟨gi,oi,none⟩) 6 ic] 35 (0,0))
 hf:w.heap[b1]? =some (.cells #[.string dMain, .int .i64 1, .int .i64 1, .int .i64 0, .int .i64 6] 135 (0,0))
 hq:w.heap[q]? =some (.cells D 3 (0,0))
 hr:w.heap[r]? =some (.cells F 4 (0,0))
 ch:Chg [q] w0 w
 ne:g≠q∧gi≠q∧0≠q∧g≠r∧gi≠r∧0≠r∧b0≠q∧b1≠q∧b0≠r∧b1≠r∧q≠r∧w0.heap.size≤r
theorem CdAt.keptS {S:List Nat} {w w':World} (h:CdAt g o gi oi w) (hc:Chg S w w') (h1:g∉S) (h2:gi∉S):CdAt g o gi oi w':=
 ⟨hc.lt h.lf,hc.lt h.li,fun j hj=>(World.cell?_of_block (w:=w) (hc.block g h.lf h1)).trans (h.cf j hj),fun j hj=>(World.cell?_of_block (w:=w) (hc.block gi h.li h2)).trans (h.ci j hj)⟩
theorem ShW.keptS {S:List Nat} {w w':World} (h:ShW w) (hc:Chg S w w') (h1:0∉S):ShW w':=
 ⟨hc.lt h.1,fun o ho j hj=>(World.cell?_of_block (w:=w) (hc.block 0 h.1 h1)).trans (h.2 o ho j hj)⟩
variable {b0 b1 q r fc ic:Nat} {D F:Array Value} {w0 w':World}
theorem DpAt.kept (h:DpAt g o gi oi b0 b1 q r fc ic D F w0 w) (hc:Chg [] w w'):DpAt g o gi oi b0 b1 q r fc ic D F w0 w':=
 ⟨h.cd.kept hc,h.sh.kept hc,hc.at (by simp) h.hc,hc.at (by simp) h.hf,hc.at (by simp) h.hq,hc.at (by simp) h.hr,h.ch.trans hc (fun y hy _=>hy) (fun y hy _=>by simp at hy),h.ne⟩
theorem DpAt.setq (h:DpAt g o gi oi b0 b1 q r fc ic D F w0 w) (i:Nat) (v:Value):DpAt g o gi oi b0 b1 q r fc ic (D.setIfInBounds i v) F w0 (w.setCell ⟨q,i,none⟩ v):=by
 have hc:Chg [q] w (w.setCell ⟨q,i,none⟩ v):=(Chg.refl _ _).setCell _ _ (fun _=>by simp)
 obtain⟨n1,n2,n3,n4,n5,n6,n7,n8,n9,n10,n11,n12⟩:=h.ne
 exact⟨h.cd.keptS hc (by simpa using n1) (by simpa using n2),h.sh.keptS hc (by simpa using n3),hc.at (by simpa using n7) h.hc,hc.at (by simpa using n8) h.hf,blk_set h.hq i v,hc.at (by simpa using n11.symm) h.hr,h.ch.trans hc (fun y hy _=>hy) (fun y hy _=>hy),h.ne⟩
theorem DpAt.setr (h:DpAt g o gi oi b0 b1 q r fc ic D F w0 w) (i:Nat) (v:Value):DpAt g o gi oi b0 b1 q r fc ic D (F.setIfInBounds i v) w0 (w.setCell ⟨r,i,none⟩ v):=by
 have hc:Chg [r] w (w.setCell ⟨r,i,none⟩ v):=(Chg.refl _ _).setCell _ _ (fun _=>by simp)
 obtain⟨n1,n2,n3,n4,n5,n6,n7,n8,n9,n10,n11,n12⟩:=h.ne
 exact⟨h.cd.keptS hc (by simpa using n4) (by simpa using n5),h.sh.keptS hc (by simpa using n6),hc.at (by simpa using n9) h.hc,hc.at (by simpa using n10) h.hf,hc.at (by simpa using n11) h.hq,blk_set h.hr i v,h.ch.trans hc (fun y hy _=>hy) (fun y hy hl=>by simp at hy;omega),h.ne⟩
theorem boolInfoD:(Tryz.prog.info? 4).map (fun i=>(i.zero,i.size,i.bytes))=some (some (.bool false),1,1):=by kernel_rfl
theorem mk6_bool (w:World):(Instr.makeSlice 187 (.int .i64 6) (.int .i64 6)).run Tryz.prog w= .ok (.slice (some ⟨w.heap.size,0,none⟩) 6 6) (w.alloc (.cells #[.bool false, .bool false, .bool false, .bool false, .bool false, .bool false] 4 (0,0))):=by
 have h:=run_make_row' (P:=Tryz.prog) 187 4 (.bool false) 1 Tryz.underlying187 boolInfoD rfl .i64 .i64 6 (by decide) (by decide) w
 rw[show madeCells #[Value.bool false] 6= #[.bool false, .bool false, .bool false, .bool false, .bool false, .bool false] by kernel_rfl]at h
 exact h
theorem mk6_int (w:World):(Instr.makeSlice 77 (.int .i64 6) (.int .i64 6)).run Tryz.prog w= .ok (.slice (some ⟨w.heap.size,0,none⟩) 6 6) (w.alloc (.cells #[.int .i64 0, .int .i64 0, .int .i64 0, .int .i64 0, .int .i64 0, .int .i64 0] 3 (0,0))):=by
 have h:=run_make_row' (P:=Tryz.prog) 77 3 (.int .i64 0) 8 Tryz.underlying77 intInfoD rfl .i64 .i64 6 (by decide) (by decide) w
 rw[show madeCells #[Value.int .i64 0] 6= #[.int .i64 0, .int .i64 0, .int .i64 0, .int .i64 0, .int .i64 0, .int .i64 0] by kernel_rfl]at h
 exact h
theorem dp_ne {w:World} (h:CdAt g o gi oi w) (hs:ShW w) (hl:q<w.heap.size) (hg:g≠q∧gi≠q∧0≠q):g≠q∧gi≠q∧0≠q∧g≠w.heap.size+1+1∧gi≠w.heap.size+1+1∧0≠w.heap.size+1+1∧w.heap.size≠q∧w.heap.size+1≠q∧w.heap.size≠w.heap.size+1+1∧w.heap.size+1≠w.heap.size+1+1∧q≠w.heap.size+1+1∧w.heap.size≤w.heap.size+1+1:=by
 have h1:=h.lf
 have h2:=h.li
 have h3:=hs.1
 refine⟨hg.1,hg.2.1,hg.2.2, ?_, ?_, ?_, ?_, ?_, ?_, ?_, ?_, ?_⟩<;>omega
theorem alloc3_at (w:World) (o1 o2 o3:Obj):(((w.alloc o1).alloc o2).alloc o3).heap[w.heap.size+1+1]? =some o3:=by
 have h:=heap_alloc_new ((w.alloc o1).alloc o2) o3
 rwa[World.size_alloc,World.size_alloc]at h
theorem cdepths_dbl (h:CdAt g o gi oi w) (hs:ShW w) (fc ic q:Nat) (hq:w.heap[q]? =some (.cells #[.int .i64 (-1), .int .i64 (-1), .int .i64 (-1), .int .i64 (-1), .int .i64 (-1), .int .i64 (-1)] 3 (0,0))) (hg:g≠q∧gi≠q∧0≠q):Calls Tryz.prog 160 #[.agg #[.slice (some ⟨g,o,none⟩) 1 fc, .slice (some ⟨gi,oi,none⟩) 6 ic], .agg #[.string dMain, .int .i64 1, .int .i64 1, .int .i64 0, .int .i64 6], .slice (some ⟨q,0,none⟩) 6 6] w fun e w'=>e= .returned (.int .i64 (-1))∧Chg [q] w w':=by
 have lq:=lt_of_heap hq
 have hc3:Chg [] w (((w.alloc (.cells #[.slice (some ⟨g,o,none⟩) 1 fc, .slice (some ⟨gi,oi,none⟩) 6 ic] 35 (0,0))).alloc (.cells #[.string dMain, .int .i64 1, .int .i64 1, .int .i64 0, .int .i64 6] 135 (0,0))).alloc (.cells #[.bool false, .bool false, .bool false, .bool false, .bool false, .bool false] 4 (0,0))):=(((Chg.refl _ _).alloc _).alloc _).alloc _
 have DZ:DpAt g o gi oi w.heap.size (w.heap.size+1) q (w.heap.size+1+1) fc ic #[.int .i64 (-1), .int .i64 (-1), .int .i64 (-1), .int .i64 (-1), .int .i64 (-1), .int .i64 (-1)] (fA 0) w (((w.alloc (.cells #[.slice (some ⟨g,o,none⟩) 1 fc, .slice (some ⟨gi,oi,none⟩) 6 ic] 35 (0,0))).alloc (.cells #[.string dMain, .int .i64 1, .int .i64 1, .int .i64 0, .int .i64 6] 135 (0,0))).alloc (.cells #[.bool false, .bool false, .bool false, .bool false, .bool false, .bool false] 4 (0,0))):=
  ⟨h.kept hc3,hs.kept hc3,blk_alloc (blk_alloc (heap_alloc_new w _)),blk_alloc (alloc2_at w _ _),hc3.at (by simp) hq,alloc3_at w _ _ _,hc3.mono (by simp),dp_ne h hs lq hg⟩
 have DY:=DZ.setq 0 (.int .i64 0)
 have HY:=LH DY
 have fq:=blk_free DZ.hq
 have kq:=blk_cell DZ.hq
 have kf:=blk_cell DY.hf
 have hmk:=mk6_bool
 clear h hs hq hg DZ DY hc3
 go_enter Tryz.func160,Tryz.ntmps160
 go_wp2_with fail
 go_loopw [8] (fun u wr=>∃k:Nat,u= .int .i64 k∧k≤6∧Hid (DpAt g o gi oi w.heap.size (w.heap.size+1) q (w.heap.size+1+1) fc ic (dA k) (fA k) w wr)) (fun u _=>6-(intOf u).toNat)
 case atStart=>exact⟨0,rfl,by omega,HY⟩
 case round=>
  obtain⟨k,rfl,hk,HD⟩:=hrel
  clear HY fq kq kf hmk
  rcases(show k=0∨k=1∨k=2∨k=3∨k=4∨k=5∨k=6 by omega)with rfl|rfl|rfl|rfl|rfl|rfl|rfl
  ·have D0:=LH HD.out
   have D1:=LH (HD.out.setr 0 (.bool true))
   have PC:=LH (fun w' (hs:ShW w')=>pops_load (some ⟨g,o,none⟩) (some ⟨gi,oi,none⟩) fc ic w' hs)
   have SC:Hid (∀w',Calls Tryz.prog 238 #[.agg #[.int .i64 5, .int .i64 0, .string ⟨#[]⟩, .slice none 0 0], .int .i64 0] w' fun e w''=>∃q,e= .returned (.slice (some ⟨q,0,none⟩) 1 1)∧Chg [] w' w''∧w'.heap.size≤q∧w''.heap[q]? =some (.cells #[.int .i64 1] 3 (0,0))):=LH (fun w'=>succ_load 0 (by decide) w')
   have nz:=LH HD.out.ne
   clear HD hk
   have kc0:=blk_cell D0.out.hc
   have lc0:=lt_of_heap D0.out.hc
   have kf0:=blk_cell D0.out.hf
   have lf0:=lt_of_heap D0.out.hf
   have kq0:=blk_cell D0.out.hq
   have fq0:=blk_free D0.out.hq
   have lq0:=lt_of_heap D0.out.hq
   have kr0:=blk_cell D0.out.hr
   have fr0:=blk_free D0.out.hr
   have lr0:=lt_of_heap D0.out.hr
   have kc1:=blk_cell D1.out.hc
   have lc1:=lt_of_heap D1.out.hc
   have kf1:=blk_cell D1.out.hf
   have lf1:=lt_of_heap D1.out.hf
   have kq1:=blk_cell D1.out.hq
   have fq1:=blk_free D1.out.hq
   have lq1:=lt_of_heap D1.out.hq
   have kr1:=blk_cell D1.out.hr
   have fr1:=blk_free D1.out.hr
   have lr1:=lt_of_heap D1.out.hr
   have i0:=(D1.out.cd.ci 0 (by decide)).trans (show ciL[0]? =some (Value.int .i64 5)from rfl)
   have i1:=(D1.out.cd.ci 1 (by decide)).trans (show ciL[1]? =some (Value.int .i64 0)from rfl)
   have i2:=(D1.out.cd.ci 2 (by decide)).trans (show ciL[2]? =some (Value.string ⟨#[]⟩)from rfl)
   have i3:=(D1.out.cd.ci 3 (by decide)).trans (show ciL[3]? =some (Value.slice none 0 0)from rfl)
   have li:=D1.out.cd.li
   simp only[dA,fA,Nat.add_zero]at kq0 kr0 kq1 i0 i1 i2 i3
   go_wp2_with (first
    |(go_at_call 237;(with_reducible refine Calls.mono (PC.out _ ((D1.out.kept ((Chg.refl [] _).alloc _)).sh)) ?_);rintro e w3 ⟨rfl,hc3⟩;have D3:=LH ((D1.out.kept ((Chg.refl [] _).alloc _)).kept hc3);have I3:=hc3.at (by simp) (heap_alloc_new _ _);(try simp only[World.size_setCell]at I3);have I3:=LH I3;rename_i I3o;clear I3o hc3))
   have kc3:=blk_cell D3.out.hc
   have lc3:=lt_of_heap D3.out.hc
   have kf3:=blk_cell D3.out.hf
   have lf3:=lt_of_heap D3.out.hf
   have kq3:=blk_cell D3.out.hq
   have fq3:=blk_free D3.out.hq
   have lq3:=lt_of_heap D3.out.hq
   have kr3:=blk_cell D3.out.hr
   have fr3:=blk_free D3.out.hr
   have lr3:=lt_of_heap D3.out.hr
   have ki3:=blk_cell I3.out
   have lj3:=lt_of_heap I3.out
   have s5:=D3.out.sh.2 5 (by simp) 5 (by decide)
   have l0:=D3.out.sh.1
   simp only[dA,fA,shRow,List.getElem?_cons_zero,List.getElem?_cons_succ,Nat.add_zero,Nat.reduceMul,Nat.reduceAdd]at kq3 s5
   go_quiet (fail)
   go_wp2_with (first
    |(go_at_call 238;(with_reducible refine Calls.mono (SC.out _) ?_);rintro e w5 ⟨q5,rfl,hc5,hl5,hq5⟩;have D5:=LH (D3.out.kept (((Chg.refl [] _).drewN _).thenSame hc5));have H5:=LH hq5;clear hc5 hl5 hq5))
   go_loopw [12,93] (fun m j ws=>m= .int .i64 1∧(j= .int .i64 0∧Hid (DpAt g o gi oi w.heap.size (w.heap.size+1) q (w.heap.size+1+1) fc ic (dA 0) (fA 1) w ws)∧Hid (ws.heap[q5]? =some (.cells #[.int .i64 1] 3 (0,0)))∨j= .int .i64 1∧Hid (DpAt g o gi oi w.heap.size (w.heap.size+1) q (w.heap.size+1+1) fc ic (dA 1) (fA 1) w ws))) (fun _ j _=>1-(intOf j).toNat)
   case atStart=>exact⟨rfl,Or.inl ⟨rfl,LH D5.out,H5⟩⟩
   case round=>
    clear kc0 lc0 kf0 lf0 kq0 fq0 lq0 kr0 fr0 lr0 kc1 lc1 kf1 lf1 kq1 fq1 lq1 kr1 fr1 lr1 kc3 lc3 kf3 lf3 kq3 fq3 lq3 kr3 fr3 lr3 i0 i1 i2 i3 li D0 D1 D3 D5 H5 ki3 lj3 s5 l0 I3
    obtain⟨rfl,⟨rfl,D6,H6⟩|⟨rfl,D6⟩⟩:=hrel
    ·have kc6:=blk_cell D6.out.hc
     have lc6:=lt_of_heap D6.out.hc
     have kf6:=blk_cell D6.out.hf
     have lf6:=lt_of_heap D6.out.hf
     have kq6:=blk_cell D6.out.hq
     have fq6:=blk_free D6.out.hq
     have lq6:=lt_of_heap D6.out.hq
     have kr6:=blk_cell D6.out.hr
     have fr6:=blk_free D6.out.hr
     have lr6:=lt_of_heap D6.out.hr
     have kq5:=blk_cell H6.out
     have lq5:=lt_of_heap H6.out
     simp only[dA]at kq6
     go_wp2_with fail
     exact⟨⟨rfl,Or.inr ⟨rfl,LH (D6.out.setq 1 _)⟩⟩,by simp[intOf]⟩
    ·go_wp2_with fail
     exact⟨⟨1,rfl,by omega,D6⟩,by simp[intOf]⟩
  ·have D0:=LH HD.out
   have D1:=LH (HD.out.setr 1 (.bool true))
   have PC:=LH (fun w' (hs:ShW w')=>pops_load (some ⟨g,o,none⟩) (some ⟨gi,oi,none⟩) fc ic w' hs)
   have SC:Hid (∀w',Calls Tryz.prog 238 #[.agg #[.int .i64 5, .int .i64 0, .string ⟨#[]⟩, .slice none 0 0], .int .i64 1] w' fun e w''=>∃q,e= .returned (.slice (some ⟨q,0,none⟩) 1 1)∧Chg [] w' w''∧w'.heap.size≤q∧w''.heap[q]? =some (.cells #[.int .i64 2] 3 (0,0))):=LH (fun w'=>succ_load 1 (by decide) w')
   have nz:=LH HD.out.ne
   clear HD hk
   have kc0:=blk_cell D0.out.hc
   have lc0:=lt_of_heap D0.out.hc
   have kf0:=blk_cell D0.out.hf
   have lf0:=lt_of_heap D0.out.hf
   have kq0:=blk_cell D0.out.hq
   have fq0:=blk_free D0.out.hq
   have lq0:=lt_of_heap D0.out.hq
   have kr0:=blk_cell D0.out.hr
   have fr0:=blk_free D0.out.hr
   have lr0:=lt_of_heap D0.out.hr
   have kc1:=blk_cell D1.out.hc
   have lc1:=lt_of_heap D1.out.hc
   have kf1:=blk_cell D1.out.hf
   have lf1:=lt_of_heap D1.out.hf
   have kq1:=blk_cell D1.out.hq
   have fq1:=blk_free D1.out.hq
   have lq1:=lt_of_heap D1.out.hq
   have kr1:=blk_cell D1.out.hr
   have fr1:=blk_free D1.out.hr
   have lr1:=lt_of_heap D1.out.hr
   have i0:=(D1.out.cd.ci 4 (by decide)).trans (show ciL[4]? =some (Value.int .i64 5)from rfl)
   have i1:=(D1.out.cd.ci 5 (by decide)).trans (show ciL[5]? =some (Value.int .i64 0)from rfl)
   have i2:=(D1.out.cd.ci 6 (by decide)).trans (show ciL[6]? =some (Value.string ⟨#[]⟩)from rfl)
   have i3:=(D1.out.cd.ci 7 (by decide)).trans (show ciL[7]? =some (Value.slice none 0 0)from rfl)
   have li:=D1.out.cd.li
   simp only[dA,fA,Nat.add_zero]at kq0 kr0 kq1 i0 i1 i2 i3
   go_wp2_with (first
    |(go_at_call 237;(with_reducible refine Calls.mono (PC.out _ ((D1.out.kept ((Chg.refl [] _).alloc _)).sh)) ?_);rintro e w3 ⟨rfl,hc3⟩;have D3:=LH ((D1.out.kept ((Chg.refl [] _).alloc _)).kept hc3);have I3:=hc3.at (by simp) (heap_alloc_new _ _);(try simp only[World.size_setCell]at I3);have I3:=LH I3;rename_i I3o;clear I3o hc3))
   have kc3:=blk_cell D3.out.hc
   have lc3:=lt_of_heap D3.out.hc
   have kf3:=blk_cell D3.out.hf
   have lf3:=lt_of_heap D3.out.hf
   have kq3:=blk_cell D3.out.hq
   have fq3:=blk_free D3.out.hq
   have lq3:=lt_of_heap D3.out.hq
   have kr3:=blk_cell D3.out.hr
   have fr3:=blk_free D3.out.hr
   have lr3:=lt_of_heap D3.out.hr
   have ki3:=blk_cell I3.out
   have lj3:=lt_of_heap I3.out
   have s5:=D3.out.sh.2 5 (by simp) 5 (by decide)
   have l0:=D3.out.sh.1
   simp only[dA,fA,shRow,List.getElem?_cons_zero,List.getElem?_cons_succ,Nat.add_zero,Nat.reduceMul,Nat.reduceAdd]at kq3 s5
   go_quiet (fail)
   go_wp2_with (first
    |(go_at_call 238;(with_reducible refine Calls.mono (SC.out _) ?_);rintro e w5 ⟨q5,rfl,hc5,hl5,hq5⟩;have D5:=LH (D3.out.kept (((Chg.refl [] _).drewN _).thenSame hc5));have H5:=LH hq5;clear hc5 hl5 hq5))
   go_loopw [12,93] (fun m j ws=>m= .int .i64 2∧(j= .int .i64 0∧Hid (DpAt g o gi oi w.heap.size (w.heap.size+1) q (w.heap.size+1+1) fc ic (dA 1) (fA 2) w ws)∧Hid (ws.heap[q5]? =some (.cells #[.int .i64 2] 3 (0,0)))∨j= .int .i64 1∧Hid (DpAt g o gi oi w.heap.size (w.heap.size+1) q (w.heap.size+1+1) fc ic (dA 2) (fA 2) w ws))) (fun _ j _=>1-(intOf j).toNat)
   case atStart=>exact⟨rfl,Or.inl ⟨rfl,LH D5.out,H5⟩⟩
   case round=>
    clear kc0 lc0 kf0 lf0 kq0 fq0 lq0 kr0 fr0 lr0 kc1 lc1 kf1 lf1 kq1 fq1 lq1 kr1 fr1 lr1 kc3 lc3 kf3 lf3 kq3 fq3 lq3 kr3 fr3 lr3 i0 i1 i2 i3 li D0 D1 D3 D5 H5 ki3 lj3 s5 l0 I3
    obtain⟨rfl,⟨rfl,D6,H6⟩|⟨rfl,D6⟩⟩:=hrel
    ·have kc6:=blk_cell D6.out.hc
     have lc6:=lt_of_heap D6.out.hc
     have kf6:=blk_cell D6.out.hf
     have lf6:=lt_of_heap D6.out.hf
     have kq6:=blk_cell D6.out.hq
     have fq6:=blk_free D6.out.hq
     have lq6:=lt_of_heap D6.out.hq
     have kr6:=blk_cell D6.out.hr
     have fr6:=blk_free D6.out.hr
     have lr6:=lt_of_heap D6.out.hr
     have kq5:=blk_cell H6.out
     have lq5:=lt_of_heap H6.out
     simp only[dA]at kq6
     go_wp2_with fail
     exact⟨⟨rfl,Or.inr ⟨rfl,LH (D6.out.setq 2 _)⟩⟩,by simp[intOf]⟩
    ·go_wp2_with fail
     exact⟨⟨2,rfl,by omega,D6⟩,by simp[intOf]⟩
  ·have D0:=LH HD.out
   have D1:=LH (HD.out.setr 2 (.bool true))
   have PC:=LH (fun w' (hs:ShW w')=>pops_bin (some ⟨g,o,none⟩) (some ⟨gi,oi,none⟩) fc ic w' hs)
   have SC:Hid (∀w',Calls Tryz.prog 238 #[.agg #[.int .i64 9, .int .i64 0, .string ⟨#[43]⟩, .slice none 0 0], .int .i64 2] w' fun e w''=>∃q,e= .returned (.slice (some ⟨q,0,none⟩) 1 1)∧Chg [] w' w''∧w'.heap.size≤q∧w''.heap[q]? =some (.cells #[.int .i64 3] 3 (0,0))):=LH (fun w'=>succ_bin 2 (by decide) w')
   have nz:=LH HD.out.ne
   clear HD hk
   have kc0:=blk_cell D0.out.hc
   have lc0:=lt_of_heap D0.out.hc
   have kf0:=blk_cell D0.out.hf
   have lf0:=lt_of_heap D0.out.hf
   have kq0:=blk_cell D0.out.hq
   have fq0:=blk_free D0.out.hq
   have lq0:=lt_of_heap D0.out.hq
   have kr0:=blk_cell D0.out.hr
   have fr0:=blk_free D0.out.hr
   have lr0:=lt_of_heap D0.out.hr
   have kc1:=blk_cell D1.out.hc
   have lc1:=lt_of_heap D1.out.hc
   have kf1:=blk_cell D1.out.hf
   have lf1:=lt_of_heap D1.out.hf
   have kq1:=blk_cell D1.out.hq
   have fq1:=blk_free D1.out.hq
   have lq1:=lt_of_heap D1.out.hq
   have kr1:=blk_cell D1.out.hr
   have fr1:=blk_free D1.out.hr
   have lr1:=lt_of_heap D1.out.hr
   have i0:=(D1.out.cd.ci 8 (by decide)).trans (show ciL[8]? =some (Value.int .i64 9)from rfl)
   have i1:=(D1.out.cd.ci 9 (by decide)).trans (show ciL[9]? =some (Value.int .i64 0)from rfl)
   have i2:=(D1.out.cd.ci 10 (by decide)).trans (show ciL[10]? =some (Value.string ⟨#[43]⟩)from rfl)
   have i3:=(D1.out.cd.ci 11 (by decide)).trans (show ciL[11]? =some (Value.slice none 0 0)from rfl)
   have li:=D1.out.cd.li
   simp only[dA,fA,Nat.add_zero]at kq0 kr0 kq1 i0 i1 i2 i3
   go_wp2_with (first
    |(go_at_call 237;(with_reducible refine Calls.mono (PC.out _ ((D1.out.kept ((Chg.refl [] _).alloc _)).sh)) ?_);rintro e w3 ⟨rfl,hc3⟩;have D3:=LH ((D1.out.kept ((Chg.refl [] _).alloc _)).kept hc3);have I3:=hc3.at (by simp) (heap_alloc_new _ _);(try simp only[World.size_setCell]at I3);have I3:=LH I3;rename_i I3o;clear I3o hc3))
   have kc3:=blk_cell D3.out.hc
   have lc3:=lt_of_heap D3.out.hc
   have kf3:=blk_cell D3.out.hf
   have lf3:=lt_of_heap D3.out.hf
   have kq3:=blk_cell D3.out.hq
   have fq3:=blk_free D3.out.hq
   have lq3:=lt_of_heap D3.out.hq
   have kr3:=blk_cell D3.out.hr
   have fr3:=blk_free D3.out.hr
   have lr3:=lt_of_heap D3.out.hr
   have ki3:=blk_cell I3.out
   have lj3:=lt_of_heap I3.out
   have s5:=D3.out.sh.2 9 (by simp) 5 (by decide)
   have l0:=D3.out.sh.1
   simp only[dA,fA,shRow,List.getElem?_cons_zero,List.getElem?_cons_succ,Nat.add_zero,Nat.reduceMul,Nat.reduceAdd]at kq3 s5
   go_quiet (fail)
   go_wp2_with (first
    |(go_at_call 238;(with_reducible refine Calls.mono (SC.out _) ?_);rintro e w5 ⟨q5,rfl,hc5,hl5,hq5⟩;have D5:=LH (D3.out.kept (((Chg.refl [] _).drewN _).thenSame hc5));have H5:=LH hq5;clear hc5 hl5 hq5))
   go_loopw [12,93] (fun m j ws=>m= .int .i64 3∧(j= .int .i64 0∧Hid (DpAt g o gi oi w.heap.size (w.heap.size+1) q (w.heap.size+1+1) fc ic (dA 2) (fA 3) w ws)∧Hid (ws.heap[q5]? =some (.cells #[.int .i64 3] 3 (0,0)))∨j= .int .i64 1∧Hid (DpAt g o gi oi w.heap.size (w.heap.size+1) q (w.heap.size+1+1) fc ic (dA 3) (fA 3) w ws))) (fun _ j _=>1-(intOf j).toNat)
   case atStart=>exact⟨rfl,Or.inl ⟨rfl,LH D5.out,H5⟩⟩
   case round=>
    clear kc0 lc0 kf0 lf0 kq0 fq0 lq0 kr0 fr0 lr0 kc1 lc1 kf1 lf1 kq1 fq1 lq1 kr1 fr1 lr1 kc3 lc3 kf3 lf3 kq3 fq3 lq3 kr3 fr3 lr3 i0 i1 i2 i3 li D0 D1 D3 D5 H5 ki3 lj3 s5 l0 I3
    obtain⟨rfl,⟨rfl,D6,H6⟩|⟨rfl,D6⟩⟩:=hrel
    ·have kc6:=blk_cell D6.out.hc
     have lc6:=lt_of_heap D6.out.hc
     have kf6:=blk_cell D6.out.hf
     have lf6:=lt_of_heap D6.out.hf
     have kq6:=blk_cell D6.out.hq
     have fq6:=blk_free D6.out.hq
     have lq6:=lt_of_heap D6.out.hq
     have kr6:=blk_cell D6.out.hr
     have fr6:=blk_free D6.out.hr
     have lr6:=lt_of_heap D6.out.hr
     have kq5:=blk_cell H6.out
     have lq5:=lt_of_heap H6.out
     simp only[dA]at kq6
     go_wp2_with fail
     exact⟨⟨rfl,Or.inr ⟨rfl,LH (D6.out.setq 3 _)⟩⟩,by simp[intOf]⟩
    ·go_wp2_with fail
     exact⟨⟨3,rfl,by omega,D6⟩,by simp[intOf]⟩
  ·have D0:=LH HD.out
   have D1:=LH (HD.out.setr 3 (.bool true))
   have PC:=LH (fun w' (hs:ShW w')=>pops_ret (some ⟨g,o,none⟩) (some ⟨gi,oi,none⟩) fc ic w' hs)
   have SC:Hid (∀w',Calls Tryz.prog 238 #[.agg #[.int .i64 20, .int .i64 0, .string ⟨#[]⟩, .slice none 0 0], .int .i64 3] w' fun e w''=>e= .returned (.slice none 0 0)∧Chg [] w' w''):=LH (fun w'=>succ_ret 3 w')
   have nz:=LH HD.out.ne
   clear HD hk
   have kc0:=blk_cell D0.out.hc
   have lc0:=lt_of_heap D0.out.hc
   have kf0:=blk_cell D0.out.hf
   have lf0:=lt_of_heap D0.out.hf
   have kq0:=blk_cell D0.out.hq
   have fq0:=blk_free D0.out.hq
   have lq0:=lt_of_heap D0.out.hq
   have kr0:=blk_cell D0.out.hr
   have fr0:=blk_free D0.out.hr
   have lr0:=lt_of_heap D0.out.hr
   have kc1:=blk_cell D1.out.hc
   have lc1:=lt_of_heap D1.out.hc
   have kf1:=blk_cell D1.out.hf
   have lf1:=lt_of_heap D1.out.hf
   have kq1:=blk_cell D1.out.hq
   have fq1:=blk_free D1.out.hq
   have lq1:=lt_of_heap D1.out.hq
   have kr1:=blk_cell D1.out.hr
   have fr1:=blk_free D1.out.hr
   have lr1:=lt_of_heap D1.out.hr
   have i0:=(D1.out.cd.ci 12 (by decide)).trans (show ciL[12]? =some (Value.int .i64 20)from rfl)
   have i1:=(D1.out.cd.ci 13 (by decide)).trans (show ciL[13]? =some (Value.int .i64 0)from rfl)
   have i2:=(D1.out.cd.ci 14 (by decide)).trans (show ciL[14]? =some (Value.string ⟨#[]⟩)from rfl)
   have i3:=(D1.out.cd.ci 15 (by decide)).trans (show ciL[15]? =some (Value.slice none 0 0)from rfl)
   have li:=D1.out.cd.li
   simp only[dA,fA,Nat.add_zero]at kq0 kr0 kq1 i0 i1 i2 i3
   go_wp2_with (first
    |(go_at_call 237;(with_reducible refine Calls.mono (PC.out _ ((D1.out.kept ((Chg.refl [] _).alloc _)).sh)) ?_);rintro e w3 ⟨rfl,hc3⟩;have D3:=LH ((D1.out.kept ((Chg.refl [] _).alloc _)).kept hc3);have I3:=hc3.at (by simp) (heap_alloc_new _ _);(try simp only[World.size_setCell]at I3);have I3:=LH I3;rename_i I3o;clear I3o hc3))
   have kc3:=blk_cell D3.out.hc
   have lc3:=lt_of_heap D3.out.hc
   have kf3:=blk_cell D3.out.hf
   have lf3:=lt_of_heap D3.out.hf
   have kq3:=blk_cell D3.out.hq
   have fq3:=blk_free D3.out.hq
   have lq3:=lt_of_heap D3.out.hq
   have kr3:=blk_cell D3.out.hr
   have fr3:=blk_free D3.out.hr
   have lr3:=lt_of_heap D3.out.hr
   have ki3:=blk_cell I3.out
   have lj3:=lt_of_heap I3.out
   have s5:=D3.out.sh.2 20 (by simp) 5 (by decide)
   have l0:=D3.out.sh.1
   simp only[dA,fA,shRow,List.getElem?_cons_zero,List.getElem?_cons_succ,Nat.add_zero,Nat.reduceMul,Nat.reduceAdd]at kq3 s5
   go_quiet (fail)
   go_wp2_with (first
    |(go_at_call 238;(with_reducible refine Calls.mono (SC.out _) ?_);rintro e w5 ⟨rfl,hc5⟩;have D5:=LH (D3.out.kept (((Chg.refl [] _).drewN _).thenSame hc5));clear hc5))
   go_loopw [12,93] (fun m j ws=>m= .int .i64 4∧j= .int .i64 0∧Hid (DpAt g o gi oi w.heap.size (w.heap.size+1) q (w.heap.size+1+1) fc ic (dA 3) (fA 4) w ws)) (fun _ j _=>1-(intOf j).toNat)
   case atStart=>exact⟨rfl,rfl,LH D5.out⟩
   case round=>
    clear kc0 lc0 kf0 lf0 kq0 fq0 lq0 kr0 fr0 lr0 kc1 lc1 kf1 lf1 kq1 fq1 lq1 kr1 fr1 lr1 kc3 lc3 kf3 lf3 kq3 fq3 lq3 kr3 fr3 lr3 i0 i1 i2 i3 li D0 D1 D3 D5 ki3 lj3 s5 l0 I3
    obtain⟨rfl,rfl,D6⟩:=hrel
    go_wp2_with fail
    exact⟨⟨4,rfl,by omega,D6⟩,by simp[intOf]⟩
  ·have D0:=LH HD.out
   have kc0:=blk_cell D0.out.hc
   have lc0:=lt_of_heap D0.out.hc
   have kf0:=blk_cell D0.out.hf
   have lf0:=lt_of_heap D0.out.hf
   have kq0:=blk_cell D0.out.hq
   have fq0:=blk_free D0.out.hq
   have lq0:=lt_of_heap D0.out.hq
   have kr0:=blk_cell D0.out.hr
   have fr0:=blk_free D0.out.hr
   have lr0:=lt_of_heap D0.out.hr
   simp only[dA,fA]at kq0
   clear HD hk
   go_wp2_with fail
   exact⟨⟨5,rfl,by omega,D0⟩,by simp[intOf]⟩
  ·have D0:=LH HD.out
   have kc0:=blk_cell D0.out.hc
   have lc0:=lt_of_heap D0.out.hc
   have kf0:=blk_cell D0.out.hf
   have lf0:=lt_of_heap D0.out.hf
   have kq0:=blk_cell D0.out.hq
   have fq0:=blk_free D0.out.hq
   have lq0:=lt_of_heap D0.out.hq
   have kr0:=blk_cell D0.out.hr
   have fr0:=blk_free D0.out.hr
   have lr0:=lt_of_heap D0.out.hr
   simp only[dA,fA]at kq0
   clear HD hk
   go_wp2_with fail
   exact⟨⟨6,rfl,by omega,D0⟩,by simp[intOf]⟩
  ·have kf0:=blk_cell HD.out.hf
   have lf0:=lt_of_heap HD.out.hf
   have C:=LH HD.out.ch
   clear HD hk
   go_wp2_with fail
   go_ret
   exact⟨rfl,C.out⟩
end
section
open Go.RowKit
variable {g o gi oi b0 b1 q fc ic:Nat} {w0 w w':World} {D:Array Value}
structure VrAt (g o gi oi b0 fc ic:Nat) (w0 w:World):Prop where
 cd:CdAt g o gi oi w
 sh:ShW w
 hc:w.heap[b0]? =some (.cells #[.slice (some ⟨g,o,none⟩) 1 fc, .slice (some ⟨gi,oi,none⟩) 6 ic] 35 (0,0))
 ch:Chg [] w0 w
theorem VrAt.kept (h:VrAt g o gi oi b0 fc ic w0 w) (hc:Chg [] w w'):VrAt g o gi oi b0 fc ic w0 w':=
 ⟨h.cd.kept hc,h.sh.kept hc,hc.at (by simp) h.hc,h.ch.thenSame hc⟩
structure VqAt (g o gi oi b0 q fc ic:Nat) (D:Array Value) (w0 w:World):Prop where
 v:VrAt g o gi oi b0 fc ic w0 w
 hq:w.heap[q]? =some (.cells D 3 (0,0))
 ne:g≠q∧gi≠q∧0≠q∧b0≠q∧w0.heap.size≤q
theorem VqAt.kept (h:VqAt g o gi oi b0 q fc ic D w0 w) (hc:Chg [] w w'):VqAt g o gi oi b0 q fc ic D w0 w':=
 ⟨h.v.kept hc,hc.at (by simp) h.hq,h.ne⟩
theorem VrAt.keptq (h:VrAt g o gi oi b0 fc ic w0 w) (n:g≠q∧gi≠q∧0≠q∧b0≠q∧w0.heap.size≤q) (hc:Chg [q] w w'):VrAt g o gi oi b0 fc ic w0 w':=
 ⟨h.cd.keptS hc (by simpa using n.1) (by simpa using n.2.1),h.sh.keptS hc (by simpa using n.2.2.1),hc.at (by simpa using n.2.2.2.1) h.hc,h.ch.trans hc (fun y hy _=>hy) (fun y hy hl=>by have:=n.2.2.2.2;simp at hy;omega)⟩
theorem VqAt.set (h:VqAt g o gi oi b0 q fc ic D w0 w) (i:Nat) (v:Value):VqAt g o gi oi b0 q fc ic (D.setIfInBounds i v) w0 (w.setCell ⟨q,i,none⟩ v):=
 ⟨h.v.keptq h.ne ((Chg.refl _ _).setCell _ _ (fun _=>by simp)),blk_set h.hq i v,h.ne⟩
theorem VrAt.make (h:VrAt g o gi oi b0 fc ic w0 w) (D:Array Value):VqAt g o gi oi b0 w.heap.size fc ic D w0 (w.alloc (.cells D 3 (0,0))):=by
 have h1:=h.cd.lf
 have h2:=h.cd.li
 have h3:=h.sh.1
 have h4:=lt_of_heap h.hc
 have h5:=h.ch.size
 exact⟨h.kept ((Chg.refl _ _).alloc _),heap_alloc_new w _,by omega,by omega,by omega,by omega,by omega⟩
def eA:Nat→Array Value
 |0=> #[.int .i64 0, .int .i64 0, .int .i64 0, .int .i64 0, .int .i64 0, .int .i64 0]
 |1=> #[.int .i64 (-1), .int .i64 0, .int .i64 0, .int .i64 0, .int .i64 0, .int .i64 0]
 |2=> #[.int .i64 (-1), .int .i64 (-1), .int .i64 0, .int .i64 0, .int .i64 0, .int .i64 0]
 |3=> #[.int .i64 (-1), .int .i64 (-1), .int .i64 (-1), .int .i64 0, .int .i64 0, .int .i64 0]
 |4=> #[.int .i64 (-1), .int .i64 (-1), .int .i64 (-1), .int .i64 (-1), .int .i64 0, .int .i64 0]
 |5=> #[.int .i64 (-1), .int .i64 (-1), .int .i64 (-1), .int .i64 (-1), .int .i64 (-1), .int .i64 0]
 |_=> #[.int .i64 (-1), .int .i64 (-1), .int .i64 (-1), .int .i64 (-1), .int .i64 (-1), .int .i64 (-1)]
theorem cverify_dbl (h:CdAt g o gi oi w) (hs:ShW w) (fc ic:Nat):Calls Tryz.prog 93 #[.agg #[.slice (some ⟨g,o,none⟩) 1 fc, .slice (some ⟨gi,oi,none⟩) 6 ic]] w fun e w'=>(∃v:Value,e= .returned (.tuple #[v, .int .i64 0, .int .i64 0]))∧Chg [] w w':=by
 have hc1:Chg [] w (w.alloc (.cells #[.slice (some ⟨g,o,none⟩) 1 fc, .slice (some ⟨gi,oi,none⟩) 6 ic] 35 (0,0))):=(Chg.refl _ _).alloc _
 have V1:=LH (show VrAt g o gi oi w.heap.size fc ic w (w.alloc (.cells #[.slice (some ⟨g,o,none⟩) 1 fc, .slice (some ⟨gi,oi,none⟩) 6 ic] 35 (0,0)))from⟨h.kept hc1,hs.kept hc1,heap_alloc_new w _,hc1⟩)
 have CF:=LH (cfuncs_dbl (V1.out.cd) fc ic)
 have hmk:=mk6_int
 clear h hs hc1
 go_enter Tryz.func93,Tryz.ntmps93
 go_wp2_with (first|(go_at_call 158;(with_reducible refine Calls.mono CF.out ?_);rintro e w2 ⟨rfl,hc2⟩;have V2:=LH (V1.out.kept hc2);have kb2:=blk_cell V2.out.hc;have lb2:=lt_of_heap V2.out.hc;clear hc2))
 go_loopw [38] (fun u wr=>(u= .int .i64 0∨u= .int .i64 1)∧Hid (VrAt g o gi oi w.heap.size fc ic w wr)) (fun u _=>1-(intOf u).toNat)
 case atStart=>exact⟨Or.inl rfl,V2⟩
 case round=>
  clear kb2 lb2 V1 V2 CF
  obtain⟨rfl|rfl,V⟩:=hrel
  ·have c0:=V.out.cd.cf0
   have c1:=V.out.cd.cf1
   have c2:=V.out.cd.cf2
   have c3:=V.out.cd.cf3
   have c4:=V.out.cd.cf4
   have lf:=V.out.cd.lf
   have VA:=LH (V.out.kept ((Chg.refl [] wr).alloc (.cells #[.string dMain, .int .i64 1, .int .i64 1, .int .i64 0, .int .i64 6] 135 (0,0))))
   go_wp2_with fail
   go_loopw [9] (fun u ws=>∃k:Nat,u= .int .i64 k∧k≤6∧Hid (VrAt g o gi oi w.heap.size fc ic w ws)∧Hid (ws.heap[wr.heap.size]? =some (.cells #[.string dMain, .int .i64 1, .int .i64 1, .int .i64 0, .int .i64 6] 135 (0,0)))) (fun u _=>6-(intOf u).toNat)
   case atStart=>exact⟨0,rfl,by omega,VA,LH (heap_alloc_new _ _)⟩
   case round=>
    clear c0 c1 c2 c3 c4 lf VA V
    rename_i hrel
    obtain⟨k,rfl,hk,V2,F2⟩:=hrel
    rcases(show k=0∨k=1∨k=2∨k=3∨k=4∨k=5∨k=6 by omega)with rfl|rfl|rfl|rfl|rfl|rfl|rfl
    ·have FC:=LH (fun w' (hs:ShW w')=>form_load (some ⟨g,o,none⟩) (some ⟨gi,oi,none⟩) fc ic w' hs)
     have i0:=(V2.out.cd.ci 0 (by decide)).trans (show ciL[0]? =some (Value.int .i64 5)from rfl)
     have i1:=(V2.out.cd.ci 1 (by decide)).trans (show ciL[1]? =some (Value.int .i64 0)from rfl)
     have i2:=(V2.out.cd.ci 2 (by decide)).trans (show ciL[2]? =some (Value.string ⟨#[]⟩)from rfl)
     have i3:=(V2.out.cd.ci 3 (by decide)).trans (show ciL[3]? =some (Value.slice none 0 0)from rfl)
     have li:=V2.out.cd.li
     have kb:=blk_cell V2.out.hc
     have lb:=lt_of_heap V2.out.hc
     have kf:=blk_cell F2.out
     have lf:=lt_of_heap F2.out
     (try simp only[Nat.add_zero]at i0 i1 i2 i3)
     clear hk
     go_wp2_with (first|(go_at_call 159;(with_reducible refine Calls.mono (FC.out _ ((V2.out.kept ((Chg.refl [] _).alloc _)).sh)) ?_);rintro e w3 ⟨rfl,hc3⟩;have V3:=LH ((V2.out.kept ((Chg.refl [] _).alloc _)).kept hc3);have F3:=LH (hc3.at (by simp) (((Chg.refl [] _).alloc _).at (by simp) F2.out));have I3:=hc3.at (by simp) (heap_alloc_new _ _);have ki3:=blk_cell I3;have kf3:=blk_cell F3.out;have lf3:=lt_of_heap F3.out;have lj3:=lt_of_heap I3;have I3:=LH I3;rename_i I3o;clear I3o hc3))
     exact⟨⟨1,rfl,by omega,V3,F3⟩,by simp[intOf]⟩
    ·have FC:=LH (fun w' (hs:ShW w')=>form_load (some ⟨g,o,none⟩) (some ⟨gi,oi,none⟩) fc ic w' hs)
     have i0:=(V2.out.cd.ci 4 (by decide)).trans (show ciL[4]? =some (Value.int .i64 5)from rfl)
     have i1:=(V2.out.cd.ci 5 (by decide)).trans (show ciL[5]? =some (Value.int .i64 0)from rfl)
     have i2:=(V2.out.cd.ci 6 (by decide)).trans (show ciL[6]? =some (Value.string ⟨#[]⟩)from rfl)
     have i3:=(V2.out.cd.ci 7 (by decide)).trans (show ciL[7]? =some (Value.slice none 0 0)from rfl)
     have li:=V2.out.cd.li
     have kb:=blk_cell V2.out.hc
     have lb:=lt_of_heap V2.out.hc
     have kf:=blk_cell F2.out
     have lf:=lt_of_heap F2.out
     (try simp only[Nat.add_zero]at i0 i1 i2 i3)
     clear hk
     go_wp2_with (first|(go_at_call 159;(with_reducible refine Calls.mono (FC.out _ ((V2.out.kept ((Chg.refl [] _).alloc _)).sh)) ?_);rintro e w3 ⟨rfl,hc3⟩;have V3:=LH ((V2.out.kept ((Chg.refl [] _).alloc _)).kept hc3);have F3:=LH (hc3.at (by simp) (((Chg.refl [] _).alloc _).at (by simp) F2.out));have I3:=hc3.at (by simp) (heap_alloc_new _ _);have ki3:=blk_cell I3;have kf3:=blk_cell F3.out;have lf3:=lt_of_heap F3.out;have lj3:=lt_of_heap I3;have I3:=LH I3;rename_i I3o;clear I3o hc3))
     exact⟨⟨2,rfl,by omega,V3,F3⟩,by simp[intOf]⟩
    ·have FC:=LH (fun w' (hs:ShW w')=>form_bin (some ⟨g,o,none⟩) (some ⟨gi,oi,none⟩) fc ic w' hs)
     have i0:=(V2.out.cd.ci 8 (by decide)).trans (show ciL[8]? =some (Value.int .i64 9)from rfl)
     have i1:=(V2.out.cd.ci 9 (by decide)).trans (show ciL[9]? =some (Value.int .i64 0)from rfl)
     have i2:=(V2.out.cd.ci 10 (by decide)).trans (show ciL[10]? =some (Value.string ⟨#[43]⟩)from rfl)
     have i3:=(V2.out.cd.ci 11 (by decide)).trans (show ciL[11]? =some (Value.slice none 0 0)from rfl)
     have li:=V2.out.cd.li
     have kb:=blk_cell V2.out.hc
     have lb:=lt_of_heap V2.out.hc
     have kf:=blk_cell F2.out
     have lf:=lt_of_heap F2.out
     (try simp only[Nat.add_zero]at i0 i1 i2 i3)
     clear hk
     go_wp2_with (first|(go_at_call 159;(with_reducible refine Calls.mono (FC.out _ ((V2.out.kept ((Chg.refl [] _).alloc _)).sh)) ?_);rintro e w3 ⟨rfl,hc3⟩;have V3:=LH ((V2.out.kept ((Chg.refl [] _).alloc _)).kept hc3);have F3:=LH (hc3.at (by simp) (((Chg.refl [] _).alloc _).at (by simp) F2.out));have I3:=hc3.at (by simp) (heap_alloc_new _ _);have ki3:=blk_cell I3;have kf3:=blk_cell F3.out;have lf3:=lt_of_heap F3.out;have lj3:=lt_of_heap I3;have I3:=LH I3;rename_i I3o;clear I3o hc3))
     exact⟨⟨3,rfl,by omega,V3,F3⟩,by simp[intOf]⟩
    ·have FC:=LH (fun w' (hs:ShW w')=>form_ret (some ⟨g,o,none⟩) (some ⟨gi,oi,none⟩) fc ic w' hs)
     have i0:=(V2.out.cd.ci 12 (by decide)).trans (show ciL[12]? =some (Value.int .i64 20)from rfl)
     have i1:=(V2.out.cd.ci 13 (by decide)).trans (show ciL[13]? =some (Value.int .i64 0)from rfl)
     have i2:=(V2.out.cd.ci 14 (by decide)).trans (show ciL[14]? =some (Value.string ⟨#[]⟩)from rfl)
     have i3:=(V2.out.cd.ci 15 (by decide)).trans (show ciL[15]? =some (Value.slice none 0 0)from rfl)
     have li:=V2.out.cd.li
     have kb:=blk_cell V2.out.hc
     have lb:=lt_of_heap V2.out.hc
     have kf:=blk_cell F2.out
     have lf:=lt_of_heap F2.out
     (try simp only[Nat.add_zero]at i0 i1 i2 i3)
     clear hk
     go_wp2_with (first|(go_at_call 159;(with_reducible refine Calls.mono (FC.out _ ((V2.out.kept ((Chg.refl [] _).alloc _)).sh)) ?_);rintro e w3 ⟨rfl,hc3⟩;have V3:=LH ((V2.out.kept ((Chg.refl [] _).alloc _)).kept hc3);have F3:=LH (hc3.at (by simp) (((Chg.refl [] _).alloc _).at (by simp) F2.out));have I3:=hc3.at (by simp) (heap_alloc_new _ _);have ki3:=blk_cell I3;have kf3:=blk_cell F3.out;have lf3:=lt_of_heap F3.out;have lj3:=lt_of_heap I3;have I3:=LH I3;rename_i I3o;clear I3o hc3))
     exact⟨⟨4,rfl,by omega,V3,F3⟩,by simp[intOf]⟩
    ·have FC:=LH (fun w' (hs:ShW w')=>form_null (some ⟨g,o,none⟩) (some ⟨gi,oi,none⟩) fc ic w' hs)
     have i0:=(V2.out.cd.ci 16 (by decide)).trans (show ciL[16]? =some (Value.int .i64 1)from rfl)
     have i1:=(V2.out.cd.ci 17 (by decide)).trans (show ciL[17]? =some (Value.int .i64 0)from rfl)
     have i2:=(V2.out.cd.ci 18 (by decide)).trans (show ciL[18]? =some (Value.string ⟨#[]⟩)from rfl)
     have i3:=(V2.out.cd.ci 19 (by decide)).trans (show ciL[19]? =some (Value.slice none 0 0)from rfl)
     have li:=V2.out.cd.li
     have kb:=blk_cell V2.out.hc
     have lb:=lt_of_heap V2.out.hc
     have kf:=blk_cell F2.out
     have lf:=lt_of_heap F2.out
     (try simp only[Nat.add_zero]at i0 i1 i2 i3)
     clear hk
     go_wp2_with (first|(go_at_call 159;(with_reducible refine Calls.mono (FC.out _ ((V2.out.kept ((Chg.refl [] _).alloc _)).sh)) ?_);rintro e w3 ⟨rfl,hc3⟩;have V3:=LH ((V2.out.kept ((Chg.refl [] _).alloc _)).kept hc3);have F3:=LH (hc3.at (by simp) (((Chg.refl [] _).alloc _).at (by simp) F2.out));have I3:=hc3.at (by simp) (heap_alloc_new _ _);have ki3:=blk_cell I3;have kf3:=blk_cell F3.out;have lf3:=lt_of_heap F3.out;have lj3:=lt_of_heap I3;have I3:=LH I3;rename_i I3o;clear I3o hc3))
     exact⟨⟨5,rfl,by omega,V3,F3⟩,by simp[intOf]⟩
    ·have FC:=LH (fun w' (hs:ShW w')=>form_ret (some ⟨g,o,none⟩) (some ⟨gi,oi,none⟩) fc ic w' hs)
     have i0:=(V2.out.cd.ci 20 (by decide)).trans (show ciL[20]? =some (Value.int .i64 20)from rfl)
     have i1:=(V2.out.cd.ci 21 (by decide)).trans (show ciL[21]? =some (Value.int .i64 0)from rfl)
     have i2:=(V2.out.cd.ci 22 (by decide)).trans (show ciL[22]? =some (Value.string ⟨#[]⟩)from rfl)
     have i3:=(V2.out.cd.ci 23 (by decide)).trans (show ciL[23]? =some (Value.slice none 0 0)from rfl)
     have li:=V2.out.cd.li
     have kb:=blk_cell V2.out.hc
     have lb:=lt_of_heap V2.out.hc
     have kf:=blk_cell F2.out
     have lf:=lt_of_heap F2.out
     (try simp only[Nat.add_zero]at i0 i1 i2 i3)
     clear hk
     go_wp2_with (first|(go_at_call 159;(with_reducible refine Calls.mono (FC.out _ ((V2.out.kept ((Chg.refl [] _).alloc _)).sh)) ?_);rintro e w3 ⟨rfl,hc3⟩;have V3:=LH ((V2.out.kept ((Chg.refl [] _).alloc _)).kept hc3);have F3:=LH (hc3.at (by simp) (((Chg.refl [] _).alloc _).at (by simp) F2.out));have I3:=hc3.at (by simp) (heap_alloc_new _ _);have ki3:=blk_cell I3;have kf3:=blk_cell F3.out;have lf3:=lt_of_heap F3.out;have lj3:=lt_of_heap I3;have I3:=LH I3;rename_i I3o;clear I3o hc3))
     exact⟨⟨6,rfl,by omega,V3,F3⟩,by simp[intOf]⟩
    ·have kf:=blk_cell F2.out
     have lf:=lt_of_heap F2.out
     clear hk
     go_wp2_with fail
     exact⟨⟨Or.inr rfl,V2⟩,by simp[intOf]⟩
  ·have kb:=blk_cell V.out.hc
   have lb:=lt_of_heap V.out.hc
   have VM:=LH (V.out.make (eA 0))
   go_wp2_with fail
   generalize wr.heap.size=qd at*
   go_loopw [84] (fun u ws=>∃k:Nat,u= .int .i64 k∧k≤6∧Hid (VqAt g o gi oi w.heap.size qd fc ic (eA k) w ws)) (fun u _=>6-(intOf u).toNat)
   case atStart=>exact⟨0,rfl,by omega,VM⟩
   case round=>
    clear kb lb VM V
    rename_i hrel
    obtain⟨k,rfl,hk,VQ⟩:=hrel
    rcases(show k=0∨k=1∨k=2∨k=3∨k=4∨k=5∨k=6 by omega)with rfl|rfl|rfl|rfl|rfl|rfl|rfl
    ·have kq:=blk_cell VQ.out.hq
     have fq:=blk_free VQ.out.hq
     have lq:=lt_of_heap VQ.out.hq
     clear hk
     go_wp2_with fail
     exact⟨⟨1,rfl,by omega,LH (VQ.out.set 0 (.int .i64 (-1)))⟩,by simp[intOf]⟩
    ·have kq:=blk_cell VQ.out.hq
     have fq:=blk_free VQ.out.hq
     have lq:=lt_of_heap VQ.out.hq
     clear hk
     go_wp2_with fail
     exact⟨⟨2,rfl,by omega,LH (VQ.out.set 1 (.int .i64 (-1)))⟩,by simp[intOf]⟩
    ·have kq:=blk_cell VQ.out.hq
     have fq:=blk_free VQ.out.hq
     have lq:=lt_of_heap VQ.out.hq
     clear hk
     go_wp2_with fail
     exact⟨⟨3,rfl,by omega,LH (VQ.out.set 2 (.int .i64 (-1)))⟩,by simp[intOf]⟩
    ·have kq:=blk_cell VQ.out.hq
     have fq:=blk_free VQ.out.hq
     have lq:=lt_of_heap VQ.out.hq
     clear hk
     go_wp2_with fail
     exact⟨⟨4,rfl,by omega,LH (VQ.out.set 3 (.int .i64 (-1)))⟩,by simp[intOf]⟩
    ·have kq:=blk_cell VQ.out.hq
     have fq:=blk_free VQ.out.hq
     have lq:=lt_of_heap VQ.out.hq
     clear hk
     go_wp2_with fail
     exact⟨⟨5,rfl,by omega,LH (VQ.out.set 4 (.int .i64 (-1)))⟩,by simp[intOf]⟩
    ·have kq:=blk_cell VQ.out.hq
     have fq:=blk_free VQ.out.hq
     have lq:=lt_of_heap VQ.out.hq
     clear hk
     go_wp2_with fail
     exact⟨⟨6,rfl,by omega,LH (VQ.out.set 5 (.int .i64 (-1)))⟩,by simp[intOf]⟩
    ·have kb:=blk_cell VQ.out.v.hc
     have lb:=lt_of_heap VQ.out.v.hc
     clear hk
     rw[show((6:Nat):Int)=6 from rfl]
     go_wp2_with fail
     go_loopw [94] (fun u ws=>(u= .int .i64 0∧Hid (VqAt g o gi oi w.heap.size qd fc ic (eA 6) w ws))∨(u= .int .i64 1∧Hid (Chg [] w ws))) (fun u _=>1-(intOf u).toNat)
     case atStart=>exact Or.inl ⟨rfl,VQ⟩
     case round=>
      clear kb lb VQ
      rename_i hrel
      obtain⟨rfl,VQ⟩|⟨rfl,CH⟩:=hrel
      ·have c0:=VQ.out.v.cd.cf0
       have c1:=VQ.out.v.cd.cf1
       have c2:=VQ.out.v.cd.cf2
       have c3:=VQ.out.v.cd.cf3
       have c4:=VQ.out.v.cd.cf4
       have lf:=VQ.out.v.cd.lf
       have kb:=blk_cell VQ.out.v.hc
       have lb:=lt_of_heap VQ.out.v.hc
       have VN:=LH (VQ.out.kept ((Chg.refl [] _).alloc (.cells #[.string dMain, .int .i64 1, .int .i64 1, .int .i64 0, .int .i64 6] 135 (0,0))))
       have CD:=LH (cdepths_dbl VN.out.v.cd VN.out.v.sh fc ic qd VN.out.hq ⟨VN.out.ne.1,VN.out.ne.2.1,VN.out.ne.2.2.1⟩)
       go_wp2_with (first|(go_at_call 160;(with_reducible refine Calls.mono CD.out ?_);rintro e w7 ⟨rfl,hc7⟩;have C7:=LH (VN.out.v.keptq VN.out.ne hc7).ch;clear hc7))
       exact⟨Or.inr ⟨rfl,C7⟩,by simp[intOf]⟩
      ·go_wp2_with fail
       go_ret3
       exact⟨⟨_,rfl⟩,CH.out⟩
theorem ccheck_dbl (h:CdAt g o gi oi w) (hs:ShW w) (fc ic:Nat):Calls Tryz.prog 36 #[.agg #[.slice (some ⟨g,o,none⟩) 1 fc, .slice (some ⟨gi,oi,none⟩) 6 ic]] w fun e w'=>e= .returned (.tuple #[.int .i64 0, .int .i64 0])∧Chg [] w w':=by
 have hc1:Chg [] w (w.alloc (.cells #[.slice (some ⟨g,o,none⟩) 1 fc, .slice (some ⟨gi,oi,none⟩) 6 ic] 35 (0,0))):=(Chg.refl _ _).alloc _
 have CV:=LH (cverify_dbl (h.kept hc1) (hs.kept hc1) fc ic)
 have C1:=LH hc1
 clear h hs hc1
 go_enter Tryz.func36,Tryz.ntmps36
 go_wp2_with (first|(go_at_call 93;(with_reducible refine Calls.mono CV.out ?_);rintro e w2 ⟨⟨v,rfl⟩,hc2⟩;have C2:=LH (C1.out.thenSame hc2);clear hc2))
 go_ret2
 exact⟨rfl,C2.out⟩
end
section
open Go.RowKit
variable {w w':World} {x:Pr}
theorem start_dbl (hx:PrIn w x) (hp:x.p=dP) (ht:TabW w):Calls Tryz.prog 32 #[.agg #[nvOf x,fvOf x], .int .i64 0] w fun e w'=>∃(W0:World) (b:Nat) (sa:Option Addr) (sc:Nat),e= .returned (.tuple #[.pointer (some ⟨b,0,none⟩), .int .i64 0])∧PrIn W0 x∧SlIs icI 1 W0 sa 5 dSl∧WrJ W0 b x sa sc dSl [] [b] w'∧Chg [] w w'∧w.heap.size≤b∧Chg [] w W0:=by
 have C1:Chg [] w (w.alloc (prOd x)):=(Chg.refl _ _).alloc _
 have A:=slots_any x (w.alloc (prOd x)) (hx.kept C1) (good_dP hp) (ht.kept C1)
 rw[hp,study_dP]at A
 have A:=LH A
 have HX:=LH hx
 have k1:=blk_cell (heap_alloc_new w (prOd x))
 have C1:=LH C1
 unfold prOd at A C1 k1
 simp only[prC]at A
 unfold nvOf fvOf
 rename_i A0 C10
 clear A0 C10 hx ht
 go_enter Tryz.func32,Tryz.ntmps32
 go_wp2_with (first|(go_at_call 39;(with_reducible refine Calls.mono A.out ?_);rintro e w2 ⟨sa,sc,rfl,hr2,hc2⟩;have R2:=LH hr2;have C2:=LH (C1.out.thenSame hc2);have B2:=hc2.at (by simp) (heap_alloc_new _ _);have k2:=blk_cell B2;have l2:=lt_of_heap B2;clear hr2 hc2 B2))
 go_ret2
 exact⟨w2,w2.heap.size,sa,sc,rfl,HX.out.kept C2.out,(RowOf.sl R2.out (fun _=>rfl)).1,⟨_,⟨heap_alloc_new _ _,RowOf.nil _ _ _,Nat.le_refl _,by simp[Value.ownBlock],(Chg.refl _ _).alloc _⟩,rfl⟩,C2.out.alloc _,C2.out.size,C2.out⟩
end
section
open Go.RowKit
variable {w0 W0 w w':World} {b B0 B1 BC:Nat} {x:Pr} {sa:Option Addr} {sc:Nat} {I J:List In} {cv iv:Value} {f f':List Nat}
structure PgAt (w0 W0:World) (b B0 B1 BC:Nat) (x:Pr) (sa:Option Addr) (sc:Nat) (I:List In) (f:List Nat) (cv iv:Value) (w:World):Prop where
 hp:w.heap[B0]? =some (.cells #[nvOf x,fvOf x] 27 (0,0))
 hr:w.heap[B1]? =some (.cells #[.slice none 0 0, .slice none 0 0] 35 (0,0))
 hc:w.heap[BC]? =some (.cells #[cv,iv] 35 (0,0))
 wr:WrJ W0 b x sa sc dSl I f w
 ch:Chg [] w0 w
 ne:B0∉f∧B1∉f∧BC∉f∧B0≠BC∧B1≠BC
 lo:∀y∈f,w0.heap.size≤y
 lc:w0.heap.size≤BC
theorem PgAt.kept (h:PgAt w0 W0 b B0 B1 BC x sa sc I f cv iv w) (hc:Chg [] w w'):PgAt w0 W0 b B0 B1 BC x sa sc I f cv iv w':=
 ⟨hc.at (by simp) h.hp,hc.at (by simp) h.hr,hc.at (by simp) h.hc,h.wr.keptN hc,h.ch.thenSame hc,h.ne,h.lo,h.lc⟩
theorem PgAt.tr (h:PgAt w0 W0 b B0 B1 BC x sa sc I f cv iv w) (hw:WrJ W0 b x sa sc dSl J f' w') (ht:Tr f w f' w'):PgAt w0 W0 b B0 B1 BC x sa sc J f' cv iv w':=by
 have l1:=lt_of_heap h.hp
 have l2:=lt_of_heap h.hr
 have l3:=lt_of_heap h.hc
 have hn:∀y,y<w.heap.size→y∉f→y∉f':=fun y hy hn hm=>by
  rcases ht.own y hm with e|e
  ·exact hn e
  ·omega
 refine⟨ht.chg.at h.ne.1 h.hp,ht.chg.at h.ne.2.1 h.hr,ht.chg.at h.ne.2.2.1 h.hc,hw,h.ch.then ht.chg (fun y hy hl=> ?_),⟨hn _ l1 h.ne.1,hn _ l2 h.ne.2.1,hn _ l3 h.ne.2.2.1,h.ne.2.2.2⟩,fun y hy=> ?_,h.lc⟩
 ·have:=h.lo y hy;omega
 ·rcases ht.own y hy with e|e
  ·exact h.lo y e
  ·exact Nat.le_trans h.ch.size e
theorem WrJ.keptS {S:List Nat} (h:WrJ W0 b x sa sc dSl I f w) (hc:Chg S w w') (hn:∀y∈f,y∉S) (hl:∀y∈S,W0.heap.size≤y):WrJ W0 b x sa sc dSl I f w':=by
 obtain⟨v,h1,rfl⟩:=h
 refine⟨v,⟨hc.at (hn b (by simp)) h1.blk,h1.ins.kept hc (fun y hy=>hn y (by simp[hy])),h1.new,h1.ne,h1.chg.then hc (fun y hy hlt=> ?_)⟩,rfl⟩
 have:=hl y hy
 omega
theorem PgAt.setc (h:PgAt w0 W0 b B0 B1 BC x sa sc I f cv iv w) (hW:W0.heap.size≤BC) (v:Value):PgAt w0 W0 b B0 B1 BC x sa sc I f v iv (w.setCell ⟨BC,0,none⟩ v)∧PgAt w0 W0 b B0 B1 BC x sa sc I f cv v (w.setCell ⟨BC,1,none⟩ v):=by
 have hc0:Chg [BC] w (w.setCell ⟨BC,0,none⟩ v):=(Chg.refl _ _).setCell _ _ (fun _=>by simp)
 have hc1:Chg [BC] w (w.setCell ⟨BC,1,none⟩ v):=(Chg.refl _ _).setCell _ _ (fun _=>by simp)
 have e0:=blk_set h.hc 0 v
 have e1:=blk_set h.hc 1 v
 have n:=h.ne
 have lc:=h.lc
 have hf:∀y∈f,y∉[BC]:=fun y hy e=>by simp at e;subst e;exact n.2.2.1 hy
 have hS:∀y∈[BC],W0.heap.size≤y:=fun y hy=>by simp at hy;omega
 exact⟨⟨hc0.at (by simpa using n.2.2.2.1) h.hp,hc0.at (by simpa using n.2.2.2.2) h.hr,e0,h.wr.keptS hc0 hf hS,h.ch.then hc0 (fun y hy hl=>by simp at hy;omega),n,h.lo,lc⟩,
  ⟨hc1.at (by simpa using n.2.2.2.1) h.hp,hc1.at (by simpa using n.2.2.2.2) h.hr,e1,h.wr.keptS hc1 hf hS,h.ch.then hc1 (fun y hy hl=>by simp at hy;omega),n,h.lo,lc⟩⟩
theorem pg_fin {q c:Nat} {w7 w8:World} {o:Obj} (P7:PgAt w0 W0 b B0 B1 BC x sa sc I f (.slice none 0 0) iv w7) (P8:PgAt w0 W0 b B0 B1 BC x sa sc I f (.slice none 0 0) iv w8) (hW:W0.heap.size≤BC) (R8:RowOf cfC 5 w8 w0.heap.size 135 (.slice (some ⟨q,0,none⟩) (([]:List Unit).length+1) c) ([]++[()])) (ho:(Value.slice none 0 0).ownBlock=some q∨q=(w7.alloc o).heap.size):
 PgAt w0 W0 b B0 B1 BC x sa sc I f (.slice (some ⟨q,0,none⟩) 1 c) iv (w8.setCell ⟨BC,0,none⟩ (.slice (some ⟨q,0,none⟩) 1 c))∧RowOf cfC 5 (w8.setCell ⟨BC,0,none⟩ (.slice (some ⟨q,0,none⟩) 1 c)) w0.heap.size 135 (.slice (some ⟨q,0,none⟩) 1 c) [()]∧q∉f∧q≠BC:=by
 have hq:q=w7.heap.size+1:=by
  rcases ho with e|e
  ·simp[Value.ownBlock]at e
  ·simpa using e
 have h1:q∉f:=fun hm=>by have:=(P7.wr.lt q hm).2;omega
 have h2:q≠BC:=fun e=>by have:=lt_of_heap P7.hc;omega
 refine⟨(P8.setc hW _).1,R8.kept ((Chg.refl _ _).setCell (S:=[BC]) _ _ (fun _=>by simp)) (fun y hy e=> ?_),h1,h2⟩
 simp[Value.ownBlock]at hy
 simp at e
 omega
theorem cfC_len' (u:Unit):(cfC u).length=5:=rfl
theorem flatMap_at' (j:Nat) (hj:j<24) (h:j/4<dAll.length:=by simp[dAll,dIns];omega):(inC (dAll[j/4]))[j%4]? =(dAll.flatMap inC)[j]? :=by
 have h1:=flatMap_at inC_len dAll (j/4) h (j%4) (by omega)
 rw[show j/4*4+j%4=j by omega]at h1
 exact h1.symm
theorem cd_of {g c:Nat} {ia:Option Addr} {ic b1 b2:Nat} (h:RowOf cfC 5 w b1 135 (.slice (some ⟨g,0,none⟩) 1 c) [()]) (k:RowOf inC 4 w b2 235 (.slice ia 6 ic) dAll):∃gi,ia=some ⟨gi,0,none⟩∧CdAt g 0 gi 0 w:=by
 rcases h.at cfC_len' with ⟨e, -⟩|⟨g',cap,e, -, -,hc, -, -,hl⟩
 ·cases e
 cases e
 rcases k.at inC_len with ⟨-,e⟩|⟨gi,cap',e, -, -,kc, -, -,kl⟩
 ·cases e
 cases e
 refine⟨gi,rfl,hl,kl,fun j hj=> ?_,fun j hj=> ?_⟩
 ·have:=hc 0 (by decide) j hj
  simpa[cfC]using this
 ·have h1:=kc (j/4) (by simp[dAll,dIns];omega) (j%4) (by omega)
  rw[show j/4*4+j%4=0+j by omega]at h1
  rw[h1,ciL,flatMap_at' j hj]
end
end Go.Proofs.YtmofknmeljdodaaGreatDoor
