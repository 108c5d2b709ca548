/- Chapter 54: Share's region that makes the three lists. No condition but those that the statements name. -/
import Derived.Deep.OwnRows
import Derived.Deep.RegionLaw
import Derived.Test.YtmofknmeljdodaaGreatDoorZS01
import Derived.Test.YtmofknmeljdodaaGreatDoorZB07
import Derived.Test.YtmofknmeljdodaaGreatDoorZS03
set_option maxHeartbeats 100000000
set_option maxRecDepth 100000
set_option linter.unusedVariables false
set_option linter.unusedSimpArgs false
open List renaming getElem_toArray→gTA,getElem_cons_zero→gCZ,getElem_cons_succ→gCS,setIfInBounds_toArray→sTA,set_cons_zero→sCZ,set_cons_succ→sCS
namespace Go.Proofs.YtmofknmeljdodaaGreatDoor
section
open Go.RowKit
theorem iInfo:(Tryz.prog.info? 3).map (fun i=>(i.zero,i.size,i.bytes))=some (some (.int .i64 0),1,8):=by kernel_rfl
structure Sh3 (w wz:World) (n s rb c o:Nat):Prop where
 is:IB wz s (List.replicate n 0)
 ir:wz.heap[rb]? =some (.cells #[.slice (some ⟨c,0,none⟩) n n] 77)
 ic:IB wz c (List.replicate n 0)
 io:IB wz o (List.replicate n 0)
 new:w.heap.size≤s∧w.heap.size≤rb∧w.heap.size≤c∧w.heap.size≤o
 ne:s≠rb∧s≠c∧s≠o∧rb≠c∧rb≠o∧c≠o
 chg:Chg [] w wz
theorem made_eq (n:Nat):madeCells #[Value.int .i64 0] n=((List.replicate n (0:Int)).map (Value.int .i64)).toArray:=by
 apply Array.ext'
 rw[toList_madeCells_one]
 simp
theorem four_new (W:World) (o0 o1 o2 o3:Obj):((((W.alloc o0).alloc o1).alloc o2).alloc o3).heap[W.heap.size]? =some o0∧((((W.alloc o0).alloc o1).alloc o2).alloc o3).heap[W.heap.size+1]? =some o1∧((((W.alloc o0).alloc o1).alloc o2).alloc o3).heap[W.heap.size+1+1]? =some o2∧((((W.alloc o0).alloc o1).alloc o2).alloc o3).heap[W.heap.size+1+1+1]? =some o3:=by
 refine⟨blk_alloc (blk_alloc (blk_alloc (heap_alloc_new W o0))),blk_alloc (blk_alloc ?_),blk_alloc ?_, ?_⟩
 ·have:=heap_alloc_new (W.alloc o0) o1
  rw[World.size_alloc]at this
  exact this
 ·have:=heap_alloc_new ((W.alloc o0).alloc o1) o2
  rw[World.size_alloc,World.size_alloc]at this
  exact this
 ·have:=heap_alloc_new (((W.alloc o0).alloc o1).alloc o2) o3
  rw[World.size_alloc,World.size_alloc,World.size_alloc]at this
  exact this
theorem rep_eq (n:Nat):Array.replicate n (Value.int .i64 0)=((List.replicate n (0:Int)).map (Value.int .i64)).toArray:=by
 apply Array.ext'
 simp
theorem sh3_drew {w W Z:World} {n s rb c o:Nat} (hr:Z.heap[rb]? =some (.cells #[.slice (some ⟨c,0,none⟩) n n] 77)) (hs:Z.heap[s]? =some (.cells (Array.replicate n (.int .i64 0)) 3)) (hc:Z.heap[c]? =some (.cells (Array.replicate n (.int .i64 0)) 3)) (ho:Z.heap[o]? =some (.cells (Array.replicate n (.int .i64 0)) 3))
 (new:w.heap.size≤s∧w.heap.size≤rb∧w.heap.size≤c∧w.heap.size≤o) (ne:s≠rb∧s≠c∧s≠o∧rb≠c∧rb≠o∧c≠o) (hC:Chg [] w Z) (hW:W=Z.drew):Sh3 w W n s rb c o:=by
 subst hW
 rw[rep_eq]at hs hc ho
 have k:=(Chg.refl [] Z).drew
 exact⟨k.at (by simp) hs,k.at (by simp) hr,k.at (by simp) hc,k.at (by simp) ho,new,ne,hC.drew⟩
theorem share_r12 {z0 z1 z2 z3 z4 z5 z6 z7 z9 z10 z11 z12 z13 z14 z15 z16 z17 z18 z19 z20 z21 z22 z23 z24 z25 z26 z27 z28 z29 z30 z31 z32 z33 z34 z35 z36 z37 z38 z39 z40 z41 z42 z43 z44 z45 z46 z47 z48 z49 z50 z51 z52 z53 z54 z55 z56 z57 z58 z59 z60 z61 z62 z63 z64 z65 z66 z67 z68 z69 z70 z71 z72 z73 z74 z75 z76 z77 z78 z79 z80 z81 z82 z83 z84 z85 z86 z87 z88 z89 z90 z91 z92 z93 z94 z95 z96 z97 z98 z99 z100 z101 z102 z103 z104 z105 z106 z107 z108 z109 z110 z111 z112 z113 z114 z115 z116:Value} {a:Option Addr} {n cap:Nat} {wc:World} {ops:Array Oper} (hops:ops=rgnF Tryz.f73 12) (hn:n≤256) (Q:Exit→Act→World→Prop)
 (hQ:∀y44 y45 y46 y47 y48 y49 y50 y51 y52 s rb c o wy,Hid (Sh3 wc wy n s rb c o)→Q .normal ⟨#[z0,z1,z2,z3,z4,z5,z6,z7, .slice a n cap,z9, .slice (some ⟨s,0,none⟩) n n, .pointer (some ⟨rb,0,none⟩), .slice (some ⟨o,0,none⟩) n n,z13,z14,z15,z16,z17,z18,z19,z20,z21,z22,z23,z24,z25,z26,z27,z28,z29,z30,z31,z32,z33,z34,z35,z36,z37,z38,z39,z40,z41,z42,z43,y44,y45,y46,y47,y48,y49,y50,y51,y52,z53,z54,z55,z56,z57,z58,z59,z60,z61,z62,z63,z64,z65,z66,z67,z68,z69,z70,z71,z72,z73,z74,z75,z76,z77,z78,z79,z80,z81,z82,z83,z84,z85,z86,z87,z88,z89,z90,z91,z92,z93,z94,z95,z96,z97,z98,z99,z100,z101,z102,z103,z104,z105,z106,z107,z108,z109,z110,z111,z112,z113,z114,z115,z116],[]⟩ wy):
 (Code.region 12 ops true).wp Tryz.prog Q ⟨#[z0,z1,z2,z3,z4,z5,z6,z7, .slice a n cap,z9,z10,z11,z12,z13,z14,z15,z16,z17,z18,z19,z20,z21,z22,z23,z24,z25,z26,z27,z28,z29,z30,z31,z32,z33,z34,z35,z36,z37,z38,z39,z40,z41,z42,z43,z44,z45,z46,z47,z48,z49,z50,z51,z52,z53,z54,z55,z56,z57,z58,z59,z60,z61,z62,z63,z64,z65,z66,z67,z68,z69,z70,z71,z72,z73,z74,z75,z76,z77,z78,z79,z80,z81,z82,z83,z84,z85,z86,z87,z88,z89,z90,z91,z92,z93,z94,z95,z96,z97,z98,z99,z100,z101,z102,z103,z104,z105,z106,z107,z108,z109,z110,z111,z112,z113,z114,z115,z116],[]⟩ wc:=by
 subst hops
 simp only[rgnF,Tryz.f73,Option.bind_some,rgn,Nat.reduceEqDiff,↓reduceIte,Option.orElse_some,Option.orElse_none,Option.getD_some,Option.orElse]
 have hmk:=run_make_row' (P:=Tryz.prog) 77 3 (.int .i64 0) 8 Tryz.underlying77 iInfo rfl .i64 .i64 n (by omega) (by omega)
 simp only[made_eq]at hmk
 refine wp_region_noPanic ?_
 go_region_law (fail)
 all_goals
  first
  |exact hQ _ _ _ _ _ _ _ _ _ _ _ wc.heap.size _ _ (LH (sh3_drew (Z:=(((wc.alloc _).alloc _).alloc _).alloc _) (by(first|exact(four_new wc _ _ _ _).1|exact(four_new wc _ _ _ _).2.1|exact(four_new wc _ _ _ _).2.2.1|exact(four_new wc _ _ _ _).2.2.2)) (by(first|exact(four_new wc _ _ _ _).1|exact(four_new wc _ _ _ _).2.1|exact(four_new wc _ _ _ _).2.2.1|exact(four_new wc _ _ _ _).2.2.2)) (by(first|exact(four_new wc _ _ _ _).1|exact(four_new wc _ _ _ _).2.1|exact(four_new wc _ _ _ _).2.2.1|exact(four_new wc _ _ _ _).2.2.2)) (by(first|exact(four_new wc _ _ _ _).1|exact(four_new wc _ _ _ _).2.1|exact(four_new wc _ _ _ _).2.2.1|exact(four_new wc _ _ _ _).2.2.2)) (by omega) (by omega) (((((Chg.refl [] wc).alloc _).alloc _).alloc _).alloc _) rfl))
  |exact hQ _ _ _ _ _ _ _ _ _ _ _ (wc.heap.size+1) _ _ (LH (sh3_drew (Z:=(((wc.alloc _).alloc _).alloc _).alloc _) (by(first|exact(four_new wc _ _ _ _).1|exact(four_new wc _ _ _ _).2.1|exact(four_new wc _ _ _ _).2.2.1|exact(four_new wc _ _ _ _).2.2.2)) (by(first|exact(four_new wc _ _ _ _).1|exact(four_new wc _ _ _ _).2.1|exact(four_new wc _ _ _ _).2.2.1|exact(four_new wc _ _ _ _).2.2.2)) (by(first|exact(four_new wc _ _ _ _).1|exact(four_new wc _ _ _ _).2.1|exact(four_new wc _ _ _ _).2.2.1|exact(four_new wc _ _ _ _).2.2.2)) (by(first|exact(four_new wc _ _ _ _).1|exact(four_new wc _ _ _ _).2.1|exact(four_new wc _ _ _ _).2.2.1|exact(four_new wc _ _ _ _).2.2.2)) (by omega) (by omega) (((((Chg.refl [] wc).alloc _).alloc _).alloc _).alloc _) rfl))
  |exact hQ _ _ _ _ _ _ _ _ _ _ _ (wc.heap.size+1+1) _ _ (LH (sh3_drew (Z:=(((wc.alloc _).alloc _).alloc _).alloc _) (by(first|exact(four_new wc _ _ _ _).1|exact(four_new wc _ _ _ _).2.1|exact(four_new wc _ _ _ _).2.2.1|exact(four_new wc _ _ _ _).2.2.2)) (by(first|exact(four_new wc _ _ _ _).1|exact(four_new wc _ _ _ _).2.1|exact(four_new wc _ _ _ _).2.2.1|exact(four_new wc _ _ _ _).2.2.2)) (by(first|exact(four_new wc _ _ _ _).1|exact(four_new wc _ _ _ _).2.1|exact(four_new wc _ _ _ _).2.2.1|exact(four_new wc _ _ _ _).2.2.2)) (by(first|exact(four_new wc _ _ _ _).1|exact(four_new wc _ _ _ _).2.1|exact(four_new wc _ _ _ _).2.2.1|exact(four_new wc _ _ _ _).2.2.2)) (by omega) (by omega) (((((Chg.refl [] wc).alloc _).alloc _).alloc _).alloc _) rfl))
  |exact hQ _ _ _ _ _ _ _ _ _ _ _ (wc.heap.size+1+1+1) _ _ (LH (sh3_drew (Z:=(((wc.alloc _).alloc _).alloc _).alloc _) (by(first|exact(four_new wc _ _ _ _).1|exact(four_new wc _ _ _ _).2.1|exact(four_new wc _ _ _ _).2.2.1|exact(four_new wc _ _ _ _).2.2.2)) (by(first|exact(four_new wc _ _ _ _).1|exact(four_new wc _ _ _ _).2.1|exact(four_new wc _ _ _ _).2.2.1|exact(four_new wc _ _ _ _).2.2.2)) (by(first|exact(four_new wc _ _ _ _).1|exact(four_new wc _ _ _ _).2.1|exact(four_new wc _ _ _ _).2.2.1|exact(four_new wc _ _ _ _).2.2.2)) (by(first|exact(four_new wc _ _ _ _).1|exact(four_new wc _ _ _ _).2.1|exact(four_new wc _ _ _ _).2.2.1|exact(four_new wc _ _ _ _).2.2.2)) (by omega) (by omega) (((((Chg.refl [] wc).alloc _).alloc _).alloc _).alloc _) rfl))
end
end Go.Proofs.YtmofknmeljdodaaGreatDoor
