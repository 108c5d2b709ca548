/- Chapter 52: Total. No condition but those that the statements name. -/
import Derived.Test.YtmofknmeljdodaaGreatDoorZB16
import Derived.Test.YtmofknmeljdodaaGreatDoorZS02
import Derived.Test.YtmofknmeljdodaaGreatDoorZS03
import Derived.Test.YtmofknmeljdodaaGreatDoorZB14
import Derived.Test.YtmofknmeljdodaaGreatDoorZS05
import Derived.Test.YtmofknmeljdodaaGreatDoorZS01
set_option maxHeartbeats 100000000
set_option maxRecDepth 100000
set_option linter.unusedVariables false
set_option linter.unusedSimpArgs false
open List renaming getElem_toArray→gTA,getElem_cons_zero→gCZ,getElem_cons_succ→gCS,setIfInBounds_toArray→sTA,set_cons_zero→sCZ,set_cons_succ→sCS
namespace Go.Proofs.YtmofknmeljdodaaGreatDoor
section
open Go.RowKit
variable {w w':World} {b mb:Nat} {v:Value} {s:Led}
def totU (s:Led) (tn:ByteArray) (p:Int):Us×Int:=if askE [tn] p=0 then sumU (totB tn p) s.l zU else(zU,askE [tn] p)
theorem alloc3 (w:World) (o1 o2 o3:Obj):(((w.alloc o1).alloc o2).alloc o3).heap[w.heap.size]? =some o1∧(((w.alloc o1).alloc o2).alloc o3).heap[w.heap.size+1]? =some o2∧(((w.alloc o1).alloc o2).alloc o3).heap[w.heap.size+1+1]? =some o3:=by
 refine⟨blk_alloc (blk_alloc (heap_alloc_new w o1)),blk_alloc ?_, ?_⟩
 ·have:=heap_alloc_new (w.alloc o1) o2
  rw[World.size_alloc]at this
  exact this
 ·have:=heap_alloc_new ((w.alloc o1).alloc o2) o3
  rw[World.size_alloc,World.size_alloc]at this
  exact this
theorem total_any (tn:ByteArray) (p:Int) (h:LIs w b mb v s) (hs:tn.size≤maxLen) (hl:s.l.length≤4000):
 Calls Tryz.prog 70 #[.pointer (some ⟨b,0,none⟩), .string tn, .int .i64 p] w fun e w'=>e= .returned (.tuple #[usV (totU s tn p).1, .int .i64 (totU s tn p).2])∧Chg [] w w':=by
 obtain⟨W3,hW3⟩:∃W3,W3=((w.alloc (.cells #[.string tn] 9)).alloc (.cells #[.int .i64 p] 3)).alloc (usO zU):=⟨_,rfl⟩
 have hc3:Chg [] w W3:=by rw[hW3];exact(((Chg.refl _ _).alloc _).alloc _).alloc _
 obtain⟨hx1,hx2,hx3⟩:=alloc3 w (.cells #[.string tn] 9) (.cells #[.int .i64 p] 3) (usO zU)
 rw[←hW3]at hx1 hx2 hx3
 have C3:=LH hc3
 have X1:=LH hx1
 have X2:=LH hx2
 have X3:=LH hx3
 have y1:=blk_cell hx1
 have y2:=blk_cell hx2
 have H:=LH h
 unfold usO zU at hW3
 simp only at hW3
 have HW3:=LH hW3
 obtain⟨W4,hW4⟩:∃W4,W4=W3.alloc (.cells #[.string tn] 9):=⟨_,rfl⟩
 have hc4:Chg [] W3 W4:=by rw[hW4];exact(Chg.refl _ _).alloc _
 have hx4:W4.heap[W3.heap.size]? =some (.cells #[.string tn] 9):=by rw[hW4];exact heap_alloc_new _ _
 have hz3:W3.heap.size=w.heap.size+1+1+1:=by rw[hW3];simp
 rw[hz3]at hx4
 have C4:=LH (hc3.thenSame hc4)
 have HC4:=LH hc4
 have HW4:=LH hW4
 have hn4:∀k (hk:k<[tn].length),W4.cell? ⟨w.heap.size+1+1+1,k,none⟩=some (.string [tn][k]):=by
  intro k hk
  have hk0:k=0:=by simpa using hk
  subst hk0
  rw[blk_cell hx4];rfl
 have A1:=asked_any [tn] p (w.heap.size+1+1+1) 1 (H.out.keptN C4.out) (lt_of_heap hx4) hn4 (by simpa using hs) (by simp)
 rw[show[tn].length=1 from rfl]at A1
 clear hn4
 obtain⟨R,hR⟩:∃R,R=totU s tn p:=⟨_,rfl⟩
 rw[←hR]
 unfold totU at hR
 have hsum:∀w',Chg [] W3 w'→Calls Tryz.prog 122 #[.pointer (some ⟨b,0,none⟩), .func (.func 123) #[] #[.pointer (some ⟨w.heap.size,0,none⟩), .pointer (some ⟨w.heap.size+1,0,none⟩)]] w' fun e w''=>e= .returned (.tuple #[usV (sumU (totB tn p) s.l zU).1, .int .i64 (sumU (totB tn p) s.l zU).2])∧Chg [] w' w'':=fun w' hc=>
  sum_tot (totB tn p) _ _ (H.out.keptN (C3.out.thenSame hc)) hl fun c w'' hc'=>by
   have z1:=(hc.thenSame hc').at (by simp) X1.out
   have z2:=(hc.thenSame hc').at (by simp) X2.out
   exact totf_any c _ _ tn p w'' (by rw[blk_cell z1];rfl) (by rw[blk_cell z2];rfl) (lt_of_heap z1) (lt_of_heap z2)
 generalize askE [tn] p=E at*
 generalize sumU (totB tn p) s.l zU=Q at*
 obtain⟨q1,q2⟩:=Q
 simp only at hsum hR
 have A1:=LH A1
 rename_i A10
 unfold usV at hsum
 have HS:=LH hsum
 clear A10 h hc3 hx1 hx2 hx3 hW3 hW4 hc4 hx4 hsum hz3
 go_enter Tryz.func70,Tryz.ntmps70
 go_wp2_with fail
 rw[←HW3.out]
 go_wp2_with fail
 rw[←HW4.out]
 refine A1.out.mono ?_;rintro e w5 ⟨rfl,hc5⟩
 have C5:=LH (HC4.out.thenSame hc5)
 have D5:=LH (C3.out.thenSame C5.out)
 have Y3:=LH (C5.out.at (by simp) X3.out)
 have g1:=blk_cell Y3.out
 have f1:=blk_free Y3.out
 have lt1:=lt_of_heap Y3.out
 clear hc5 A1
 by_cases hE:E=0
 ·rw[if_pos hE]at hR
  subst hE
  go_wp2_with fail
  refine(HS.out _ C5.out).mono ?_;rintro e w6 ⟨rfl,hc6⟩
  have D6:=LH (D5.out.thenSame hc6)
  have Y6:=LH (hc6.at (by simp) Y3.out)
  have g2:=blk_cell Y6.out
  have f2:=blk_free Y6.out
  have lt2:=lt_of_heap Y6.out
  subst hR
  clear hc6 g1 f1 lt1 HS
  go_wp2_with fail
  have r1:=blk_cell (four_at (.int .i64 q1.inv) (.int .i64 q1.steps) (.int .i64 q1.ticks) (.int .i64 q1.units) Y6.out)
  exact bodyPost_ret (v:= .tuple #[usV q1, .int .i64 q2]) (by simp[results,Tryz.results70,go_sem,usV,r1]) rfl ⟨rfl,by repeat (first|exact D6.out|refine Chg.setCell ?_ _ _ (by simp;omega)|refine Chg.alloc ?_ _)⟩
 ·rw[if_neg hE]at hR
  subst hR
  have hE':(E==0)=false:=by simpa using hE
  go_wp2_with fail
  have r1:=blk_cell (four_at (.int .i64 0) (.int .i64 0) (.int .i64 0) (.int .i64 0) Y3.out)
  exact bodyPost_ret (v:= .tuple #[usV zU, .int .i64 E]) (by simp[results,Tryz.results70,go_sem,usV,zU,r1]) rfl ⟨rfl,by repeat (first|exact D5.out|refine Chg.setCell ?_ _ _ (by simp;omega)|refine Chg.alloc ?_ _)⟩
end
section
open Go.RowKit
end
section
open Go.RowKit Go.Sort
variable {w w':World} {b mb:Nat} {v:Value} {s:Led}
theorem RowOf.shrinkU {α:Type} {cf:α→List Value} {sz:Nat} {w:World} {base g cap:Nat} {e:TypeId} {l1 l2:List α} (hc:∀x,(cf x).length=sz) (h:RowOf cf sz w base e (.slice (some ⟨g,0,none⟩) (l1++l2).length cap) (l1++l2)):RowOf cf sz w base e (.slice (some ⟨g,0,none⟩) l1.length cap) l1:=by
 obtain⟨h1,h2⟩:=h
 refine⟨flatMap_len hc l1, ?_⟩
 rcases h2 with ⟨h2,_⟩|⟨g',cap',cur,hv,hg,hh,h4,h5,h6,h7⟩
 ·cases h2
 ·cases hv
  rw[List.length_append]at h4 h7
  refine .inr ⟨g,cap,cur,rfl,hg,hh,by omega,h5,h6, ?_⟩
  have h8:=congrArg (List.take (l1.length*sz)) h7
  rw[List.take_take,Nat.min_eq_left (Nat.mul_le_mul_right _ (Nat.le_add_right _ _)),List.flatMap_append,List.take_append_of_le_length (by rw[flatMap_len hc];exact Nat.le_refl _),List.take_of_length_le (l:=l1.flatMap cf) (by rw[flatMap_len hc];exact Nat.le_refl _)]at h8
  exact h8
theorem compact_len (zs:List (List UInt8)):(Lib.compact zs).length≤zs.length:=by
 unfold Lib.compact Lib.compactUpTo
 rw[List.length_map]
 refine Nat.le_trans (List.length_filter_le _ _) ?_
 simp
theorem compact_row {w:World} {base:Nat} {e:TypeId} {v:Value} {l:List (List UInt8)} (h:RowOf kc 1 w base e v l) (hl:l.length≤9223372036854775807):
 Calls Tryz.prog 125 #[v] w fun ex w'=>∃v',ex= .returned v'∧RowOf kc 1 w' base e v' (Lib.compact l)∧Chg v.ownBlock.toList w w':=by
 rcases h.2 with ⟨h2,h3⟩|⟨g,cap,cur,hv,hg,hh,h4,h5,h6,h7⟩
 ·have hl0:=List.eq_nil_of_length_eq_zero h3
  subst hl0
  subst h2
  refine(Tryz.slices_Compact_string_empty none 0 w).mono ?_
  rintro ex w' ⟨rfl,rfl⟩
  exact⟨_,rfl,h,Chg.refl _ _⟩
 ·subst hv
  rw[flat_kc,Nat.mul_one]at h7
  have hcl:=compact_len l
  refine(Tryz.slices_Compact_string g 0 cap l w (holds_of_block hh h7) hl h4).mono ?_
  rintro ex w' ⟨rfl,n,rfl⟩
  refine⟨_,rfl, ?_,Chg.ofRow (v:= .slice (some ⟨g,0,none⟩) l.length cap) (grownBy_sorted (os:= #[]) _)⟩
  have e1:(Lib.compact l++List.replicate (l.length-(Lib.compact l).length) ([]:List UInt8)).length=l.length:=by rw[List.length_append,List.length_replicate];omega
  have:=ownsRow_sorted (n:=n) (os:= #[]) (ts:=Lib.compact l++List.replicate (l.length-(Lib.compact l).length) []) (ss:=l) e1 hg hh h4 h5 h6
  refine RowOf.shrinkU kLen (l2:=List.replicate (l.length-(Lib.compact l).length) []) ?_
  unfold RowOf
  rw[flat_kc,e1]
  exact this
theorem sort_any {w:World} {base:Nat} {e:TypeId} {v:Value} {l:List (List UInt8)} (h:RowOf kc 1 w base e v l) (hl:l.length<4611686018427387904):
 Calls Tryz.prog 124 #[v] w fun ex w'=>ex= .returned (.tuple #[])∧RowOf kc 1 w' base e v (l.mergeSort leB)∧Chg v.ownBlock.toList w w':=
 sort_row Tryz.slices_Sort_string Tryz.slices_Sort_string_none h hl
end
section
open Go.RowKit
variable {w w':World} {b mb:Nat} {v:Value} {s:Led}
def inB (tn:ByteArray) (p:Int) (c:CR):Bool:=c.r.tn==tn&&c.p==p
def fnL (tn:ByteArray) (p:Int) (l:List CR):List (List UInt8):=(l.filter (inB tn p)).map (fun c=>bs c.r.fn)
def fnsU (s:Led) (tn:ByteArray) (p:Int):List (List UInt8):=Lib.compact ((fnL tn p s.l).mergeSort leB)
theorem alloc_size (w:World) {o:Obj}:(w.alloc o).heap.size=w.heap.size+1:=by simp
theorem stInfo:(Tryz.prog.info? 9).map (fun i=>(i.zero,i.size,i.bytes))=some (some (.string ⟨#[]⟩),1,16):=by kernel_rfl
theorem fnL_step (tn:ByteArray) (p:Int) (l:List CR) (k:Nat) (h:k<l.length):fnL tn p (l.take (k+1))=fnL tn p (l.take k)++(if inB tn p l[k]=true then[bs l[k].r.fn]else[]):=by
 rw[List.take_succ_eq_append_getElem h]
 unfold fnL
 rw[List.filter_append,List.map_append]
 congr 1
 cases hq:inB tn p l[k]<;>simp[List.filter,hq]
theorem fnL_len (tn:ByteArray) (p:Int) (l:List CR):(fnL tn p l).length≤l.length:=by
 unfold fnL
 rw[List.length_map]
 exact List.length_filter_le _ _
theorem funcs_any (tn:ByteArray) (p:Int) (h:LIs w b mb v s) (hl:s.l.length≤4000):
 Calls Tryz.prog 71 #[.pointer (some ⟨b,0,none⟩), .string tn, .int .i64 p] w fun e w'=>∃v',e= .returned v'∧RowOf kc 1 w' w.heap.size 9 v' (fnsU s tn p)∧Chg [] w w':=by
 obtain⟨a,cap,rfl⟩:=RowOf.shape h.2.2
 have H:=LH h
 have hcell:∀wr,Chg [] w wr→∀k (hk:k<s.l.length),∃g,a=some ⟨g,0,none⟩∧g<w.heap.size∧∀j,j<10→wr.cell? ⟨g,k*10+j,none⟩=(crC s.l[k])[j]? :=by
  intro wr hc k hk
  rcases RowOf.at (h.keptN hc).2.2 crLen with ⟨_,hl⟩|⟨g,cap',hv,_,_,hcell,_,_,hgl⟩
  ·rw[hl]at hk;simp at hk
  ·cases hv
   exact⟨g,rfl,(h.2.2.block g rfl).2,fun j hj=>hcell k hk j hj⟩
 have HCell:=LH hcell
 have c0:=blk_cell h.1
 have hb0:=lt_of_heap h.1
 clear h hcell
 go_enter Tryz.func71,Tryz.ntmps71
 go_wp2_with fail
 refine(made_any H.out).mono ?_;rintro e w1 ⟨rfl,rfl⟩
 go_wp2_with fail
 clear c0
 go_loopw [7,18] (fun u i wr=>∃k:Nat,i= .int .i64 k∧k≤s.l.length∧Hid (RowOf kc 1 wr w.heap.size 9 u (fnL tn p (s.l.take k)))∧Hid (Chg [] w wr)) (fun _ i _=>s.l.length-(intOf i).toNat)
 case atStart=>exact⟨0,rfl,Nat.zero_le _,LH (RowOf.nil _ _ _),LH (Chg.refl _ _)⟩
 case round=>
  obtain⟨k,rfl,hkl,HR,D⟩:=hrel
  by_cases hk:k<s.l.length
  ·obtain⟨g,rfl,hgl,hcells⟩:=HCell.out wr D.out k hk
   have d0:=hcells 0 (by omega)
   have d1:=hcells 1 (by omega)
   have d2:=hcells 2 (by omega)
   have d3:=hcells 3 (by omega)
   have d4:=hcells 4 (by omega)
   have d5:=hcells 5 (by omega)
   have d6:=hcells 6 (by omega)
   have d7:=hcells 7 (by omega)
   have d8:=hcells 8 (by omega)
   have d9:=hcells 9 (by omega)
   have hst:=fnL_step tn p s.l k hk
   generalize s.l[k]=c at*
   simp only[crC,List.getElem?_cons_zero,List.getElem?_cons_succ,Nat.add_zero]at d0 d1 d2 d3 d4 d5 d6 d7 d8 d9
   have hk0:(0:Int)≤(k:Int):=by omega
   have hk1:(k:Int)<(s.l.length:Int):=by omega
   have hq:inB tn p c=(c.r.tn.toList==tn.toList&&c.p==p):=by unfold inB;rw[beq_toListBytes]
   have hll:(fnL tn p (s.l.take k)).length≤4000:=Nat.le_trans (fnL_len _ _ _) (by rw[List.length_take];omega)
   have HLL:=LH hll
   clear hcells hll
   cases q1:c.r.tn.toList==tn.toList<;>cases q2:c.p==p
   case true.true=>
    rw[hq,q1,q2,if_pos (by decide)]at hst
    have HS:=LH hst
    clear hst hq
    generalize fnL tn p (s.l.take k)=L at*
    go_wp2_with (at_builtin;refine wpl_append rfl _ _ 92 rfl w.heap.size 9 _ 16 Tryz.underlying92 stInfo rfl (by decide) kLen kOne u7 L rfl (RowOf.kept HR.out (((Chg.refl [] _).alloc _).alloc _) (by simp)) (wr.heap.size+1) _ (bs c.r.fn) _ _ _ rfl (by rw[←alloc_size wr];exact heap_alloc_new _ _) rfl ?c1 ?c2 ?c3 ?_;rotate_left 3;intro v' w3 hrow3 hg3)
    case c1=>have:=HLL.out;unfold maxLen;omega
    case c2=>have:=HLL.out;omega
    case c3=>have:=D.out.size;simp;omega
    refine⟨⟨k+1,by go_num,by omega,LH (by rw[HS.out];exact hrow3),LH (((D.out.alloc _).alloc _).then (Chg.ofRow (v:=u7) hg3) ?_)⟩,by simp[intOf];omega⟩
    intro y hy hl
    have:=(HR.out.block y (by simpa using hy)).1
    omega
   all_goals
    rw[hq,q1,q2,if_neg (by decide),List.append_nil]at hst
    have HS:=LH hst
    clear hst hq
    go_wp2_with fail
    exact⟨⟨k+1,by go_num,by omega,LH (by rw[HS.out];exact RowOf.kept HR.out ((Chg.refl [] _).alloc _) (by simp)),LH (D.out.alloc _)⟩,by simp[intOf];omega⟩
  ·have hks:k=s.l.length:=by omega
   subst hks
   have hr:=HR.out
   rw[List.take_length]at hr
   have HLen:=LH (show(fnL tn p s.l).length≤4000 from Nat.le_trans (fnL_len _ _ _) hl)
   have A1:=LH (sort_any hr (by have:=HLen.out;omega))
   have HR0:=LH hr
   clear hr HR
   go_wp2_with fail
   refine A1.out.mono ?_;rintro e w2 ⟨rfl,hr2,hc2⟩
   have A2:=LH (compact_row hr2 (by rw[List.length_mergeSort];have:=HLen.out;omega))
   have C2:=LH (D.out.then hc2 (by intro y hy hl;have:=(HR0.out.block y (by simpa using hy)).1;omega))
   have HB:=LH (fun y (hy:u7.ownBlock=some y)=>(HR0.out.block y hy).1)
   clear hc2 hr2 A1
   go_wp2_with fail
   refine A2.out.mono ?_;rintro e w3 ⟨v',rfl,hr3,hc3⟩
   have C3:=LH (C2.out.then hc3 (by intro y hy hl;have:=HB.out y (by simpa using hy);omega))
   have R3:=LH hr3
   clear hc3 hr3 A2
   go_wp2_with fail
   go_ret
   exact⟨v',rfl,R3.out,C3.out⟩
end
section
open Go.RowKit
end
section
open Go.RowKit
def JL (b:Nat) (s:Led):List Nat→World→Prop:=fun f w=>∃mb v,f=lfp b mb v∧LIs w b mb v s
variable {W w:World} {b:Nat} {s:Led} {K:List Nat→World→Prop}
theorem Pair.led (h:Pair W w (JL b s) K):∃mb v,LIs w b mb v s:=by
 obtain⟨f,g,⟨mb,v,rfl,h1⟩,h2,h3,h4,h5,h6⟩:=h
 exact⟨mb,v,h1⟩
end
section
open Go.RowKit
variable {w w':World} {b mb:Nat} {v:Value} {s:Led}
theorem mkf_any (fl:Bool) (p1 p2 p3:Value) (w:World):Calls Tryz.prog 126 #[.bool fl,p1,p2,p3] w fun e w'=>e= .returned (.func (.func 127) #[] #[p1,p2,p3, .pointer (some ⟨w.heap.size,0,none⟩)])∧w'=w.alloc (.cells #[.bool fl] 4):=by
 go_enter Tryz.func126,Tryz.ntmps126
 go_wp2
 go_ret
 exact⟨rfl,rfl⟩
def byU (s:Led) (tn fn:ByteArray) (p:Int):Us×Us×Int:=
 if askE [tn,fn] p=0 then
  (if(sumU (ofB tn fn p false) s.l zU).2=0 then
    (if(sumU (ofB tn fn p true) s.l zU).2=0 then((sumU (ofB tn fn p false) s.l zU).1,(sumU (ofB tn fn p true) s.l zU).1,0)else(zU,zU,(sumU (ofB tn fn p true) s.l zU).2))
  else(zU,zU,(sumU (ofB tn fn p false) s.l zU).2))
 else(zU,zU,askE [tn,fn] p)
theorem alloc5 (w:World) (o1 o2 o3 o4 o5:Obj):(((((w.alloc o1).alloc o2).alloc o3).alloc o4).alloc o5).heap[w.heap.size]? =some o1∧(((((w.alloc o1).alloc o2).alloc o3).alloc o4).alloc o5).heap[w.heap.size+1]? =some o2∧(((((w.alloc o1).alloc o2).alloc o3).alloc o4).alloc o5).heap[w.heap.size+1+1]? =some o3∧(((((w.alloc o1).alloc o2).alloc o3).alloc o4).alloc o5).heap[w.heap.size+1+1+1]? =some o4∧(((((w.alloc o1).alloc o2).alloc o3).alloc o4).alloc o5).heap[w.heap.size+1+1+1+1]? =some o5:=by
 obtain⟨h1,h2,h3⟩:=alloc3 w o1 o2 o3
 refine⟨blk_alloc (blk_alloc h1),blk_alloc (blk_alloc h2),blk_alloc (blk_alloc h3),blk_alloc ?_, ?_⟩
 ·have:=heap_alloc_new (((w.alloc o1).alloc o2).alloc o3) o4
  simp only[World.size_alloc]at this
  exact this
 ·have:=heap_alloc_new ((((w.alloc o1).alloc o2).alloc o3).alloc o4) o5
  simp only[World.size_alloc]at this
  exact this
def set4 (w:World) (q:Nat) (u:Us):World:=(((w.setCell ⟨q,0,none⟩ (.int .i64 u.inv)).setCell ⟨q,1,none⟩ (.int .i64 u.steps)).setCell ⟨q,2,none⟩ (.int .i64 u.ticks)).setCell ⟨q,3,none⟩ (.int .i64 u.units)
theorem eight_at {w:World} {p q:Nat} {x y:Us} (x' y':Us) (hp:w.heap[p]? =some (usO x)) (hq:w.heap[q]? =some (usO y)) (hne:p≠q):(set4 (set4 w p x') q y').heap[p]? =some (usO x')∧(set4 (set4 w p x') q y').heap[q]? =some (usO y'):=
 ⟨(four_chg (set4 w p x') q _ _ _ _).at (by simpa using hne) (four_at _ _ _ _ hp),four_at _ _ _ _ ((four_chg w p _ _ _ _).at (by simpa using fun e=>hne e.symm) hq)⟩
theorem eight_chg {w w5:World} {p q:Nat} (u x:Us) (hp:w.heap.size≤p) (hq:w.heap.size≤q) (hc:Chg [] w w5):Chg [] w (set4 (set4 w5 p u) q x):=
 (hc.then (four_chg w5 p _ _ _ _) (by intro y hy hl;simp at hy;omega)).then (four_chg (set4 w5 p u) q _ _ _ _) (by intro y hy hl;simp at hy;omega)
theorem two_cells {W W':World} {S:List Nat} {u7 u10:Nat} {x y:Us} (hc:Chg S W W') (h7:W.heap[u7]? =some (usO x)) (h10:W.heap[u10]? =some (usO y)) (n7:u7∉S) (n10:u10∉S):
 W'.cell? ⟨u7,0,none⟩=some (.int .i64 x.inv)∧W'.cell? ⟨u7,1,none⟩=some (.int .i64 x.steps)∧W'.cell? ⟨u7,2,none⟩=some (.int .i64 x.ticks)∧W'.cell? ⟨u7,3,none⟩=some (.int .i64 x.units)∧W'.cell? ⟨u10,0,none⟩=some (.int .i64 y.inv)∧W'.cell? ⟨u10,1,none⟩=some (.int .i64 y.steps)∧W'.cell? ⟨u10,2,none⟩=some (.int .i64 y.ticks)∧W'.cell? ⟨u10,3,none⟩=some (.int .i64 y.units):=by
 have a:=blk_cell (hc.at n7 h7)
 have b:=blk_cell (hc.at n10 h10)
 exact⟨a 0,a 1,a 2,a 3,b 0,b 1,b 2,b 3⟩
theorem byf_any (tn fn:ByteArray) (p:Int) (h:LIs w b mb v s) (hs:tn.size≤maxLen) (hs':fn.size≤maxLen) (hl:s.l.length≤4000):
 Calls Tryz.prog 72 #[.pointer (some ⟨b,0,none⟩), .string tn, .string fn, .int .i64 p] w fun e w'=>e= .returned (.tuple #[usV (byU s tn fn p).1,usV (byU s tn fn p).2.1, .int .i64 (byU s tn fn p).2.2])∧Chg [] w w':=by
 obtain⟨W3,hW3⟩:∃W3,W3=((((w.alloc (.cells #[.string tn] 9)).alloc (.cells #[.string fn] 9)).alloc (.cells #[.int .i64 p] 3)).alloc (usO zU)).alloc (usO zU):=⟨_,rfl⟩
 have hc3:Chg [] w W3:=by rw[hW3];exact(((((Chg.refl _ _).alloc _).alloc _).alloc _).alloc _).alloc _
 obtain⟨hx1,hx2,hx3,hx4,hx5⟩:=alloc5 w (.cells #[.string tn] 9) (.cells #[.string fn] 9) (.cells #[.int .i64 p] 3) (usO zU) (usO zU)
 rw[←hW3]at hx1 hx2 hx3 hx4 hx5
 have C3:=LH hc3
 have X1:=LH hx1
 have X2:=LH hx2
 have X3:=LH hx3
 have X4:=LH hx4
 have X5:=LH hx5
 have y1:=blk_cell hx1
 have y2:=blk_cell hx2
 have y3:=blk_cell hx3
 have H:=LH h
 unfold usO zU at hW3
 simp only at hW3
 have HW3:=LH hW3
 obtain⟨W4,hW4⟩:∃W4,W4=W3.alloc (.cells #[.string tn, .string fn] 9):=⟨_,rfl⟩
 have hc4:Chg [] W3 W4:=by rw[hW4];exact(Chg.refl _ _).alloc _
 have hz3:W3.heap.size=w.heap.size+1+1+1+1+1:=by rw[hW3];simp
 have hx6:W4.heap[w.heap.size+1+1+1+1+1]? =some (.cells #[.string tn, .string fn] 9):=by rw[hW4,←hz3];exact heap_alloc_new _ _
 have C4:=LH (hc3.thenSame hc4)
 have HC4:=LH hc4
 have HW4:=LH hW4
 have hn4:∀k (hk:k<[tn,fn].length),W4.cell? ⟨w.heap.size+1+1+1+1+1,k,none⟩=some (.string [tn,fn][k]):=by
  intro k hk
  match k,hk with
  |0,_=>rw[blk_cell hx6];rfl
  |1,_=>rw[blk_cell hx6];rfl
 have A1:=asked_any [tn,fn] p (w.heap.size+1+1+1+1+1) 2 (H.out.keptN C4.out) (lt_of_heap hx6) hn4 (by intro x hx;simp at hx;rcases hx with rfl|rfl<;>assumption) (by simp)
 rw[show[tn,fn].length=2 from rfl]at A1
 clear hn4
 obtain⟨R,hR⟩:∃R,R=byU s tn fn p:=⟨_,rfl⟩
 rw[←hR]
 unfold byU at hR
 have hsum:∀fl w' u,Chg [] W3 w'→u<w'.heap.size→w'.heap[u]? =some (.cells #[.bool fl] 4)→Calls Tryz.prog 122 #[.pointer (some ⟨b,0,none⟩), .func (.func 127) #[] #[.pointer (some ⟨w.heap.size,0,none⟩), .pointer (some ⟨w.heap.size+1,0,none⟩), .pointer (some ⟨w.heap.size+1+1,0,none⟩), .pointer (some ⟨u,0,none⟩)]] w' fun e w''=>e= .returned (.tuple #[usV (sumU (ofB tn fn p fl) s.l zU).1, .int .i64 (sumU (ofB tn fn p fl) s.l zU).2])∧Chg [] w' w'':=fun fl w' u hc hu hub=>
  sum_of (ofB tn fn p fl) _ _ _ _ (H.out.keptN (C3.out.thenSame hc)) hl fun c w'' hc'=>by
   have z1:=(hc.thenSame hc').at (by simp) X1.out
   have z2:=(hc.thenSame hc').at (by simp) X2.out
   have z3:=(hc.thenSame hc').at (by simp) X3.out
   have z4:=hc'.at (by simp) hub
   exact off_any c _ _ _ _ tn fn p fl w'' (by rw[blk_cell z1];rfl) (by rw[blk_cell z2];rfl) (by rw[blk_cell z3];rfl) (by rw[blk_cell z4];rfl) (lt_of_heap z1) (lt_of_heap z2) (lt_of_heap z3) (lt_of_heap z4)
 have HS0:=LH (hsum false)
 have HS1:=LH (hsum true)
 generalize askE [tn,fn] p=E at*
 generalize sumU (ofB tn fn p false) s.l zU=Q at*
 generalize sumU (ofB tn fn p true) s.l zU=Q' at*
 obtain⟨q1,q2⟩:=Q
 obtain⟨r1,r2⟩:=Q'
 unfold usV at HS0 HS1
 simp only at HS0 HS1 hR
 have A1:=LH A1
 rename_i A10
 clear A10 h hc3 hx1 hx2 hx3 hx4 hx5 hW3 hW4 hc4 hx6 hsum hz3
 go_enter Tryz.func72,Tryz.ntmps72
 go_wp2_with fail
 rw[←HW3.out]
 go_wp2_with fail
 rw[←HW4.out]
 refine A1.out.mono ?_;rintro e w5 ⟨rfl,hc5⟩
 have C5:=LH (HC4.out.thenSame hc5)
 have D5:=LH (C3.out.thenSame C5.out)
 have Y4:=LH (C5.out.at (by simp) X4.out)
 have Y5:=LH (C5.out.at (by simp) X5.out)
 have g4:=blk_cell Y4.out
 have f4:=blk_free Y4.out
 have lt4:=lt_of_heap Y4.out
 have g5:=blk_cell Y5.out
 have f5:=blk_free Y5.out
 have lt5:=lt_of_heap Y5.out
 clear hc5 A1
 by_cases hE:E=0
 ·rw[if_pos hE]at hR
  subst hE
  go_wp2_with fail
  refine(mkf_any _ _ _ _ _).mono ?_;rintro e w6 ⟨rfl,rfl⟩
  have C6:=LH (C5.out.alloc (.cells #[.bool false] 4))
  have D6:=LH (D5.out.alloc (.cells #[.bool false] 4))
  have B6:=LH (heap_alloc_new w5 (.cells #[.bool false] 4))
  have U4:=LH (blk_alloc (o':= .cells #[.bool false] 4) Y4.out)
  have U5:=LH (blk_alloc (o':= .cells #[.bool false] 4) Y5.out)
  generalize w5.heap.size=u5 at*
  generalize w5.alloc (.cells #[.bool false] 4)=W6 at*
  clear g4 f4 lt4 g5 f5 lt5 Y4 Y5
  go_wp2_with fail
  refine(HS0.out W6 u5 C6.out (lt_of_heap B6.out) B6.out).mono ?_;rintro e w7 ⟨rfl,hc7⟩
  have C7:=LH (C6.out.thenSame hc7)
  have D7:=LH (D6.out.thenSame hc7)
  have V4:=LH (hc7.at (by simp) U4.out)
  have V5:=LH (hc7.at (by simp) U5.out)
  have g4:=blk_cell V4.out
  have f4:=blk_free V4.out
  have lt4:=lt_of_heap V4.out
  have g5:=blk_cell V5.out
  have f5:=blk_free V5.out
  have lt5:=lt_of_heap V5.out
  clear hc7 B6 U4 U5 HS0
  by_cases hq:q2=0
  case neg=>
   rw[if_neg hq]at hR
   subst hR
   have hq':(q2==0)=false:=by simpa using hq
   go_wp2_with fail
   have r8:=eight_at zU zU V4.out V5.out (by omega)
   have hch:=eight_chg zU zU (Nat.le_trans (by omega) (Nat.le_refl (w.heap.size+1+1+1))) (Nat.le_trans (by omega) (Nat.le_refl (w.heap.size+1+1+1+1))) D7.out
   change bodyPost _ _ _ _ _ ((set4 (set4 w7 (w.heap.size+1+1+1) zU) (w.heap.size+1+1+1+1) zU).alloc _)
   generalize set4 (set4 w7 (w.heap.size+1+1+1) zU) (w.heap.size+1+1+1+1) zU=wz at r8 hch⊢
   have r4:=blk_cell r8.1
   have r5:=blk_cell r8.2
   have l4:=lt_of_heap r8.1
   have l5:=lt_of_heap r8.2
   unfold zU at r4 r5
   exact bodyPost_ret (v:= .tuple #[usV zU,usV zU, .int .i64 q2]) (by simp[results,Tryz.results72,go_sem,usV,zU,r4,r5,l4,l5]) rfl ⟨rfl,by first|exact hch|exact hch.alloc _⟩
  rw[if_pos hq]at hR
  subst hq
  go_wp2_with fail
  have C8:=LH (C7.out.alloc (usO q1))
  have D8:=LH (D7.out.alloc (usO q1))
  have Z8:=LH (heap_alloc_new w7 (usO q1))
  have S4:=LH (blk_alloc (o':=usO q1) V4.out)
  have S5:=LH (blk_alloc (o':=usO q1) V5.out)
  unfold usO at C8 D8 Z8 S4 S5
  have hu7:=lt5
  generalize w7.alloc (.cells #[.int .i64 q1.inv, .int .i64 q1.steps, .int .i64 q1.ticks, .int .i64 q1.units] 96)=W8 at*
  generalize w7.heap.size=u7 at*
  clear g4 f4 lt4 g5 f5 lt5 V4 V5
  refine(mkf_any _ _ _ _ _).mono ?_;rintro e w9 ⟨rfl,rfl⟩
  have C9:=LH (C8.out.alloc (.cells #[.bool true] 4))
  have D9:=LH (D8.out.alloc (.cells #[.bool true] 4))
  have B9:=LH (heap_alloc_new W8 (.cells #[.bool true] 4))
  have Z9:=LH (blk_alloc (o':= .cells #[.bool true] 4) Z8.out)
  have U4:=LH (blk_alloc (o':= .cells #[.bool true] 4) S4.out)
  have U5:=LH (blk_alloc (o':= .cells #[.bool true] 4) S5.out)
  generalize W8.heap.size=u8 at*
  generalize W8.alloc (.cells #[.bool true] 4)=W9 at*
  clear Z8 S4 S5
  go_wp2_with fail
  refine(HS1.out W9 u8 C9.out (lt_of_heap B9.out) B9.out).mono ?_;rintro e w10 ⟨rfl,hc10⟩
  have D10:=LH (D9.out.thenSame hc10)
  have Z10:=LH (hc10.at (by simp) Z9.out)
  have V4:=LH (show w10.heap[w.heap.size+1+1+1]? =some (usO zU)from hc10.at (by simp) U4.out)
  have V5:=LH (show w10.heap[w.heap.size+1+1+1+1]? =some (usO zU)from hc10.at (by simp) U5.out)
  have g4:=blk_cell V4.out
  have f4:=blk_free V4.out
  have lt4:=lt_of_heap V4.out
  have g5:=blk_cell V5.out
  have f5:=blk_free V5.out
  have lt5:=lt_of_heap V5.out
  have z10:=blk_cell Z10.out
  have ltz:=lt_of_heap Z10.out
  clear hc10 B9 Z9 U4 U5 HS1
  by_cases hq:r2=0
  case neg=>
   rw[if_neg hq]at hR
   subst hR
   have hq':(r2==0)=false:=by simpa using hq
   go_wp2_with fail
   have r8:=eight_at zU zU V4.out V5.out (by omega)
   have hch:=eight_chg zU zU (Nat.le_trans (by omega) (Nat.le_refl (w.heap.size+1+1+1))) (Nat.le_trans (by omega) (Nat.le_refl (w.heap.size+1+1+1+1))) D10.out
   change bodyPost _ _ _ _ _ ((set4 (set4 w10 (w.heap.size+1+1+1) zU) (w.heap.size+1+1+1+1) zU).alloc _)
   generalize set4 (set4 w10 (w.heap.size+1+1+1) zU) (w.heap.size+1+1+1+1) zU=wz at r8 hch⊢
   have r4:=blk_cell r8.1
   have r5:=blk_cell r8.2
   have l4:=lt_of_heap r8.1
   have l5:=lt_of_heap r8.2
   unfold zU at r4 r5
   exact bodyPost_ret (v:= .tuple #[usV zU,usV zU, .int .i64 r2]) (by simp[results,Tryz.results72,go_sem,usV,zU,r4,r5,l4,l5]) rfl ⟨rfl,by first|exact hch|exact hch.alloc _⟩
  rw[if_pos hq]at hR
  subst hq
  go_wp2_with fail
  have D11:=LH (D10.out.alloc (usO r1))
  have Z11:=LH (blk_alloc (o':=usO r1) Z10.out)
  have R11:=LH (heap_alloc_new w10 (usO r1))
  have V4':=LH (blk_alloc (o':=usO r1) V4.out)
  have V5':=LH (blk_alloc (o':=usO r1) V5.out)
  unfold usO at D11 Z11 R11 V4' V5'
  have hu10:=lt5
  clear g4 f4 lt4 g5 f5 lt5 z10 ltz Z10 V4 V5 y1 y2 y3
  generalize w10.alloc (.cells #[.int .i64 r1.inv, .int .i64 r1.steps, .int .i64 r1.ticks, .int .i64 r1.units] 96)=W11 at*
  generalize w10.heap.size=u10 at*
  have g4:=blk_cell V4'.out
  have f4:=blk_free V4'.out
  have f5:=blk_free V5'.out
  have g5:=blk_cell V5'.out
  have z7:=blk_cell Z11.out
  have z10:=blk_cell R11.out
  have l7:=lt_of_heap Z11.out
  have l10:=lt_of_heap R11.out
  have n1:u7≠w.heap.size+1+1+1:=by omega
  have n2:u7≠w.heap.size+1+1+1+1:=by omega
  have n3:u10≠w.heap.size+1+1+1:=by omega
  have n4:u10≠w.heap.size+1+1+1+1:=by omega
  go_region_law (fail)
  all_goals
   go_wp2_with fail
   have r8:=eight_at q1 r1 V4'.out V5'.out (by omega)
   have hch:=(eight_chg q1 r1 (Nat.le_trans (by omega) (Nat.le_refl (w.heap.size+1+1+1))) (Nat.le_trans (by omega) (Nat.le_refl (w.heap.size+1+1+1+1))) D11.out).drew
   have r8':=(Chg.refl [] (set4 (set4 W11 (w.heap.size+1+1+1) q1) (w.heap.size+1+1+1+1) r1)).drew.at (by simp) r8.1
   have r9':=(Chg.refl [] (set4 (set4 W11 (w.heap.size+1+1+1) q1) (w.heap.size+1+1+1+1) r1)).drew.at (by simp) r8.2
   change bodyPost _ _ _ _ _ (set4 (set4 W11 (w.heap.size+1+1+1) q1) (w.heap.size+1+1+1+1) r1).drew
   clear r8
   generalize (set4 (set4 W11 (w.heap.size+1+1+1) q1) (w.heap.size+1+1+1+1) r1).drew=wz at r8' r9' hch⊢
   have r4:=blk_cell r8'
   have r5:=blk_cell r9'
   have l4:=lt_of_heap r8'
   have l5:=lt_of_heap r9'
   subst hR
   exact bodyPost_ret (v:= .tuple #[usV q1,usV r1, .int .i64 0]) (by simp[results,Tryz.results72,go_sem,usV,r4,r5,l4,l5]) rfl ⟨rfl,hch⟩
 ·rw[if_neg hE]at hR
  subst hR
  have hE':(E==0)=false:=by simpa using hE
  go_wp2_with fail
  have r8:=eight_at zU zU Y4.out Y5.out (by omega)
  have hch:=eight_chg zU zU (Nat.le_trans (by omega) (Nat.le_refl (w.heap.size+1+1+1))) (Nat.le_trans (by omega) (Nat.le_refl (w.heap.size+1+1+1+1))) D5.out
  change bodyPost _ _ _ _ _ (set4 (set4 w5 (w.heap.size+1+1+1) zU) (w.heap.size+1+1+1+1) zU)
  generalize set4 (set4 w5 (w.heap.size+1+1+1) zU) (w.heap.size+1+1+1+1) zU=wz at r8 hch⊢
  have r4:=blk_cell r8.1
  have r5:=blk_cell r8.2
  have l4:=lt_of_heap r8.1
  have l5:=lt_of_heap r8.2
  unfold zU at r4 r5
  exact bodyPost_ret (v:= .tuple #[usV zU,usV zU, .int .i64 E]) (by simp[results,Tryz.results72,go_sem,usV,zU,r4,r5,l4,l5]) rfl ⟨rfl,by first|exact hch|exact hch.alloc _⟩
end
end Go.Proofs.YtmofknmeljdodaaGreatDoor
