/- Chapter 54: contract: invoice.Share, where it returns shares. No condition but those that the statements name. -/
import Derived.Test.YtmofknmeljdodaaGreatDoorZS01
import Derived.Test.YtmofknmeljdodaaGreatDoorZB13
import Derived.Test.YtmofknmeljdodaaGreatDoorZB18
set_option maxHeartbeats 100000000
set_option maxRecDepth 100000
set_option linter.unusedVariables false
set_option linter.unusedSimpArgs false
open List renaming getElem_toArray→gTA,getElem_cons_zero→gCZ,getElem_cons_succ→gCS,setIfInBounds_toArray→sTA,set_cons_zero→sCZ,set_cons_succ→sCS
namespace Go.Proofs.YtmofknmeljdodaaGreatDoor
section
open Go.RowKit
def ShareOk (t:Int) (W:List Int) (w:World) (e:Ending) (w':World):Prop:=∃(s:Nat) (O:List Int),e= .returned (.tuple #[.slice (some ⟨s,0,none⟩) W.length W.length, .int .i64 0])∧IsOrd (shR t W) O∧IB w' s (shares t W O)∧w.heap.size≤s∧Chg [] w w'
structure ShI (t:Int) (W:List Int) (w w0 wr:World) (la:Option Addr) (lc s rb c o k:Nat):Prop where
 is:IB wr s ((shQ t W).take k++List.replicate (W.length-k) 0)
 ic:IB wr c ((shR t W).take k++List.replicate (W.length-k) 0)
 io:IB wr o (((List.range W.length).map Int.ofNat).take k++List.replicate (W.length-k) 0)
 ir:wr.heap[rb]? =some (.cells #[.slice (some ⟨c,0,none⟩) W.length W.length] 77)
 row:RowOf icI 1 wr w.heap.size 3 (.slice la W.length lc) (effW W)
 old:∀g,(Value.slice la W.length lc).ownBlock=some g→g<w0.heap.size
 chg:Chg [] w wr
theorem rep_set {A:List Int} {n k:Nat} (hA:A.length=n) (hk:k<n) {x:Int} (hx:A[k]? =some x):(A.take k++List.replicate (n-k) 0).set k x=A.take (k+1)++List.replicate (n-(k+1)) 0:=by
 rw[take_at hx,show n-k=(n-(k+1))+1 by omega,List.replicate_succ,List.set_append,if_neg (by simp;omega)]
 rw[List.length_take,Nat.min_eq_left (by omega),Nat.sub_self]
 simp
theorem rep_at {A:List Int} {n k:Nat} (hA:A.length=n) (hk:k<n):(A.take k++List.replicate (n-k) (0:Int))[k]? =some 0:=by
 rw[List.getElem?_append_right (by simp;omega),List.length_take,Nat.min_eq_left (by omega),Nat.sub_self,List.getElem?_replicate,if_pos (by omega)]
theorem range_at {n k:Nat} (hk:k<n):((List.range n).map Int.ofNat)[k]? =some (k:Int):=by
 rw[List.getElem?_map,List.getElem?_range hk];rfl
theorem range_asc (n:Nat):((List.range n).map Int.ofNat).Pairwise (·<·):=by
 rw[List.pairwise_map]
 exact List.pairwise_lt_range.imp (fun h=>Int.ofNat_lt.2 h)
theorem range_in (n:Nat):InR n ((List.range n).map Int.ofNat):=by
 intro x hx
 obtain⟨k,hk,rfl⟩:=List.mem_map.1 hx
 have:=List.mem_range.1 hk
 exact⟨Int.natCast_nonneg k,Int.ofNat_lt.2 this⟩
theorem IB.past {w:World} {b g:Nat} {l:List Int} (h:IB w b l) (hne:b≠g) (i:Nat) (v:Value):IB (w.setCell ⟨g,i,none⟩ v) b l:=(blk_set_ne _ _ hne).trans h
theorem IB.drew {w:World} {b:Nat} {l:List Int} (h:IB w b l):IB w.drew b l:=h.keep (Chg.refl [] _).drew (by simp)
theorem ShI.next {t:Int} {W:List Int} {w w0 w3:World} {la:Option Addr} {lc s rb c o k:Nat} {q r:Int} (h:ShI t W w w0 w3 la lc s rb c o k) (hk:k<W.length) (hq:(shQ t W)[k]? =some q) (hr:(shR t W)[k]? =some r) (hw:w.heap.size≤w0.heap.size) (hnew:w0.heap.size≤s∧w0.heap.size≤rb∧w0.heap.size≤c∧w0.heap.size≤o) (hne:s≠rb∧s≠c∧s≠o∧rb≠c∧rb≠o∧c≠o):
 ShI t W w w0 (((w3.setCell ⟨s,k,none⟩ (.int .i64 q)).setCell ⟨c,k,none⟩ (.int .i64 r)).setCell ⟨o,k,none⟩ (.int .i64 (k:Int))).drew la lc s rb c o (k+1):=by
 obtain⟨n1,n2,n3,n4,n5,n6⟩:=hne
 obtain⟨m1,m2,m3,m4⟩:=hnew
 refine⟨?_, ?_, ?_, ?_, ?_,h.old, ?_⟩
 ·have:=(((h.is.set k q).past n2 k (.int .i64 r)).past n3 k (.int .i64 (k:Int))).drew
  rwa[rep_set shQ_len hk hq]at this
 ·have:=(((h.ic.past (Ne.symm n2) k (.int .i64 q)).set k r).past n6 k (.int .i64 (k:Int))).drew
  rwa[rep_set shR_len hk hr]at this
 ·have:=(((h.io.past (Ne.symm n3) k (.int .i64 q)).past (Ne.symm n6) k (.int .i64 r)).set k (k:Int)).drew
  rwa[rep_set (by simp) hk (range_at hk)]at this
 ·have:=(blk_set_ne (b':=rb) (b:=o) k (.int .i64 (k:Int)) n5).trans ((blk_set_ne (b':=rb) (b:=c) k (.int .i64 r) n4).trans ((blk_set_ne (b':=rb) (b:=s) k (.int .i64 q) (Ne.symm n1)).trans h.ir))
  exact(Chg.refl [] _).drew.at (by simp) this
 ·refine h.row.kept (S:=[s,c,o]) ((((Chg.refl [s,c,o] w3).setCell _ _ (by simp)).setCell _ _ (by simp)).setCell _ _ (by simp)).drew (fun g hg hm=> ?_)
  have:=h.old g hg
  simp only[List.mem_cons,List.not_mem_nil,or_false]at hm
  omega
 ·exact(((h.chg.setCell _ _ (fun q=>absurd q (by simp only;omega))).setCell _ _ (fun q=>absurd q (by simp only;omega))).setCell _ _ (fun q=>absurd q (by simp only;omega))).drew
theorem ShI.keep {t:Int} {W:List Int} {w w0 w3 w4:World} {la:Option Addr} {lc s rb c o k:Nat} (h:ShI t W w w0 w3 la lc s rb c o k) (hc:Chg [] w3 w4):ShI t W w w0 w4 la lc s rb c o k:=
 ⟨h.is.keep hc (by simp),h.ic.keep hc (by simp),h.io.keep hc (by simp),hc.at (by simp) h.ir,h.row.kept hc (by simp),h.old,h.chg.thenSame hc⟩
theorem sum_nn_le {t:Int} {W:List Int} (ht:0≤t) (hW:W.all amtB=true) (hn:W=[]→t=0) (k:Nat):0≤((shQ t W).take k).sum∧((shQ t W).take k).sum≤t:=by
 have hb:=left_bounds (t:=t) (all_nn hW) hn
 have hq:∀x∈shQ t W,0≤x:=by
  intro x hx
  obtain⟨u,hu,rfl⟩:=List.mem_map.1 hx
  have hne:W≠[]:=by rintro rfl;simp[effW]at hu
  exact Int.ediv_nonneg (Int.mul_nonneg ht (effW_nn (all_nn hW) u hu)) (by have:=effS_pos (all_nn hW) hne;omega)
 have h1:=sum_nn (fun x hx=>hq x (List.mem_of_mem_take hx):∀x∈(shQ t W).take k,0≤x)
 have h2:=sum_nn (fun x hx=>hq x (List.mem_of_mem_drop hx):∀x∈(shQ t W).drop k,0≤x)
 have h3:((shQ t W).take k).sum+((shQ t W).drop k).sum=(shQ t W).sum:=by rw[←List.sum_append,List.take_append_drop]
 unfold leftOf at hb
 omega
theorem share_ok (t:Int) (a:Option Addr) (cap:Nat) (W:List Int) (w:World) (h:SlIs icI 1 w a W.length W) (he:(weighZ t W).2=0):Calls Tryz.prog 73 #[.int .i64 t, .slice a W.length cap] w (ShareOk t W w):=by
 obtain⟨⟨ht0,ht1⟩,hall,hn,hnil,hsum,hz1⟩:=weigh_ok he
 have A:=weigh_any t a cap W w h (by unfold maxLen;omega)
 have C:=clone_any a cap W w h (by omega)
 rw[show weighZ t W=(W.sum,0)from Prod.ext hz1 he]at A
 have A:=LH A
 rename_i A0
 have C:=LH C
 rename_i C0
 have HALL:=LH hall
 have HNIL:=LH hnil
 have hs0:=sum_nn (all_nn hall)
 clear A0 C0 h he hz1 hall hnil
 by_cases hz:W.sum=0
 ·have hzb:(W.sum==0)=true:=by rw[hz];rfl
  have EW:=LH (show effW W=W.map (fun _=>1) by unfold effW;rw[if_pos hz])
  have ES0:=LH (show effS W=(W.length:Int) by unfold effS;rw[if_pos hz])
  have HSUM:=LH hsum
  rw[hz]at A
  clear hzb hz hs0
  go_enter Tryz.func73,Tryz.ntmps73
  go_wp2_with fail
  refine A.out.mono ?_;rintro e w1 ⟨rfl,rfl⟩
  go_wp2_with fail
  refine C.out.mono ?_;rintro e w2 ⟨v,rfl,hr2,hc2⟩
  obtain⟨la,lc,rfl⟩:=RowOf.shape hr2
  have R0:=LH (show RowOf icI 1 w2 w.heap.size 3 (.slice la W.length lc) ((W.take 0).map (fun _=>1)++W.drop 0) by simpa using hr2)
  have C0:=LH hc2
  clear hr2 hc2
  go_wp2_with fail
  go_loopw [35] (fun i wr=>∃k:Nat,i= .int .i64 k∧k≤W.length∧Hid (RowOf icI 1 wr w.heap.size 3 (.slice la W.length lc) ((W.take k).map (fun _=>1)++W.drop k))∧Hid (Chg [] w wr)) (fun i _=>W.length-(intOf i).toNat)
  case atStart=>exact⟨0,rfl,Nat.zero_le _,R0,C0⟩
  case round=>
   obtain⟨k,rfl,hk,HR,HC⟩:=hrel
   by_cases hkn:k<W.length
   ·have hL:((W.take k).map (fun _=>(1:Int))++W.drop k).length=W.length:=by simp;omega
    rcases RowOf.at HR.out icI_len with ⟨_,h2⟩|⟨g,cp,h1,h2,h3,h4,h5,h6,h7⟩
    ·exfalso;rw[h2]at hL;simp at hL;omega
    ·rw[hL]at h1
     cases h1
     obtain⟨v,hv⟩:∃v,wr.cell? ⟨g,k,none⟩=some v:=by
      have:=h4 k (by rw[hL];exact hkn) 0 (by omega)
      simp only[icI,List.getElem?_cons_zero,Nat.add_zero,Nat.mul_one]at this
      exact⟨_,this⟩
     have HN:=LH (show RowOf icI 1 (wr.setCell ⟨g,k,none⟩ (.int .i64 1)) w.heap.size 3 (.slice (some ⟨g,0,none⟩) W.length lc) ((W.take (k+1)).map (fun _=>1)++W.drop (k+1))from by
      have hs:=rowI_set HR.out (k:=k) (by rw[hL];exact hkn) 1
      obtain⟨x,hx⟩:∃x,W[k]? =some x:=⟨W[k],List.getElem?_eq_getElem hkn⟩
      have e:((W.take k).map (fun _=>(1:Int))++W.drop k).set k 1=(W.take (k+1)).map (fun _=>1)++W.drop (k+1):=by
       rw[take_at hx,drop_at hx,List.set_append,if_neg (by simp;omega)]
       rw[List.length_map,List.length_take,Nat.min_eq_left (by omega),Nat.sub_self]
       simp
      rwa[e]at hs)
     have HC2:=LH (show Chg [] w (wr.setCell ⟨g,k,none⟩ (.int .i64 1))from HC.out.setCell _ _ (fun q=>absurd q (by simp only;omega)))
     have hk0:(0:Int)≤(k:Int):=by omega
     have hk1:(k:Int)<(W.length:Int):=by omega
     clear hL h2 h3 h4 h6
     go_wp2_with fail
     exact⟨⟨k+1,by go_num,by omega,HN,HC2⟩,by simp[intOf];omega⟩
   ·have hke:k=W.length:=by omega
    have hkn2: ¬(k:Int)<(W.length:Int):=by omega
    obtain⟨w2,hw2⟩:∃w2,w2=wr:=⟨_,rfl⟩
    subst hw2
    have ROW:=LH (show RowOf icI 1 w2 w.heap.size 3 (.slice la W.length lc) (effW W) by have:=HR.out;rw[hke,List.take_length,List.drop_length,List.append_nil]at this;rw[EW.out];exact this)
    have C2:=HC
    have ES:=ES0
    clear hke R0 C0 HR HC ES0
    go_upto_region 12 with fail
    refine share_r12 (by kernel_rfl) hn _ ?_
    intro y44 y45 y46 y47 y48 y49 y50 y51 y52 s rb c o wy H3
    have N1:=H3.out.new
    have N2:=H3.out.ne
    have I0:=LH (show ShI t W w w2 wy la lc s rb c o 0 from
     ⟨by simpa using H3.out.is,by simpa using H3.out.ic,by simpa using H3.out.io,H3.out.ir,ROW.out.kept H3.out.chg (by simp),fun g hg=>(RowOf.block ROW.out g hg).2,C2.out.thenSame H3.out.chg⟩)
    have HNew:=LH (show w.heap.size≤s from Nat.le_trans C2.out.size N1.1)
    have HNe:=LH N2
    have HN1:=LH N1
    clear N1 N2 H3
    go_wp2_with fail
    go_loopw [13,56] (fun lf i wr=>∃k:Nat,i= .int .i64 k∧lf= .int .i64 (t-((shQ t W).take k).sum)∧k≤W.length∧Hid (ShI t W w w2 wr la lc s rb c o k)) (fun _ i _=>W.length-(intOf i).toNat)
    case atStart=>exact⟨0,rfl,by simp,Nat.zero_le _,I0⟩
    case round=>
     obtain⟨k,rfl,rfl,hk,HI⟩:=hrel
     by_cases hkn:k<W.length
     ·obtain⟨u,hu⟩:∃u,(effW W)[k]? =some u:=⟨(effW W)[k]'(by rw[effW_len];exact hkn),List.getElem?_eq_getElem _⟩
      obtain⟨m1,m2,m3,m4,m5,m6,m7,m8,m9,m10⟩:=share_step ht0 ht1 HALL.out HSUM.out hn (List.mem_of_getElem? hu)
      have hq:(shQ t W)[k]? =some (quo t (effS W) u):=by unfold shQ;rw[List.getElem?_map,hu];rfl
      have hr:(shR t W)[k]? =some (rst t (effS W) u):=by unfold shR;rw[List.getElem?_map,hu];rfl
      have i1:=HI.out
      have M:=LH (fun w'=>muldiv_any t u (effS W) w')
      rw[m1]at M
      rw[ES.out]at m6 m7 m10 M hq hr m1 m2 m3 m8 m9
      generalize quo t (W.length:Int) u=q at*
      generalize rst t (W.length:Int) u=r at*
      have zr:=rest_wrap m10 m8 m9
      have zt:IntKind.u64.wrap t=t:=u64_in ht0 (by omega)
      have zu:IntKind.u64.wrap u=u:=u64_in m4 (by omega)
      have zq:IntKind.u64.wrap q=q:=u64_in m2 (by omega)
      have zS:IntKind.u64.wrap (W.length:Int)=(W.length:Int):=u64_in (by omega) (by omega)
      rcases RowOf.at i1.row icI_len with ⟨_,h2⟩|⟨g,cp,h1,h2,h3,h4,h5,h6,h7⟩
      ·exfalso;rw[h2]at hu;simp at hu
      ·rw[effW_len]at h1
       cases h1
       have hul:k<(effW W).length:=by rw[effW_len];exact hkn
       have d0:=h4 k hul 0 (by omega)
       rw[(List.getElem?_eq_some_iff.1 hu).2]at d0
       simp only[icI,List.getElem?_cons_zero,Nat.add_zero,Nat.mul_one]at d0
       have hk0:(0:Int)≤(k:Int):=by omega
       have hk1:(k:Int)<(W.length:Int):=by omega
       have HS:=LH (show t-((shQ t W).take k).sum-q=t-((shQ t W).take (k+1)).sum by rw[take_at hq,List.sum_append];simp;omega)
       have HQ:=LH hq
       have HRR:=LH hr
       have hqs:=sum_nn_le (t:=t) (W:=W) ht0 HALL.out HNIL.out k
       generalize ((shQ t W).take k).sum=QS at*
       clear i1 h2 h3 h4 h5 h6 hu hul m1 m10 hq hr
       go_wp2_with fail
       refine(M.out _).mono ?_;rintro e w3 ⟨rfl,hc3⟩
       have J:=HI.out.keep hc3
       have HN:=LH (J.next hkn HQ.out HRR.out C2.out.size HN1.out HNe.out)
       have s1:=J.is.cell (rep_at shQ_len hkn)
       have c1:=J.ic.cell (rep_at shR_len hkn)
       have o1:=J.io.cell (rep_at (by simp) hkn)
       have e1:=blk_cell J.ir 0
       have c2:=(J.ic.past (Ne.symm HNe.out.2.1) k (.int .i64 q)).cell (rep_at shR_len hkn)
       have o2:=((J.io.past (Ne.symm HNe.out.2.2.1) k (.int .i64 q)).past (Ne.symm HNe.out.2.2.2.2.2) k (.int .i64 r)).cell (rep_at (by simp) hkn)
       have fs:=blk_free J.is
       have fc:=blk_free J.ic
       have fo:=blk_free J.io
       have ls:=J.is.lt
       have lc':=J.ic.lt
       have lo:=J.io.lt
       have lr:=lt_of_heap J.ir
       simp only[List.getElem?_toArray,List.getElem?_cons_zero]at e1
       have e2:=blk_cell ((blk_set_ne (b':=rb) (b:=s) k (.int .i64 q) (Ne.symm HNe.out.1)).trans J.ir) 0
       simp only[List.getElem?_toArray,List.getElem?_cons_zero]at e2
       clear hc3 J d0 h7 M
       go_wp2_with fail
       go_region_law (fail)
       all_goals
        go_wp2_with fail
        exact⟨⟨k+1,by go_num,by rw[←HS.out],by omega,HN⟩,by simp[intOf];omega⟩
     ·have hke:k=W.length:=by omega
      obtain⟨l1,l2⟩:=left_bounds (t:=t) (all_nn HALL.out) HNIL.out
      obtain⟨m,hm⟩:∃m:Nat,leftOf t W=(m:Int):=⟨(leftOf t W).toNat,by omega⟩
      have hmn:m≤W.length:=by omega
      have HL:=LH (show t-((shQ t W).take k).sum=(m:Int) by rw[←hm,hke,List.take_of_length_le (by rw[shQ_len];omega)];rfl)
      have JS:=LH (show IB wr s (shQ t W) by have:=HI.out.is;rw[hke,List.take_of_length_le (by rw[shQ_len];omega),Nat.sub_self]at this;simpa using this)
      have JC:=LH (show IB wr c (shR t W) by have:=HI.out.ic;rw[hke,List.take_of_length_le (by rw[shR_len];omega),Nat.sub_self]at this;simpa using this)
      have JO:=LH (show IB wr o ((List.range W.length).map Int.ofNat) by have:=HI.out.io;rw[hke,List.take_of_length_le (by simp),Nat.sub_self]at this;simpa using this)
      have JR:=LH HI.out.ir
      have JW:=LH HI.out.chg
      have CO:CmpOk wr o W.length (keyOf (shR t W)) rb:=fun x y w' x1 x2 y1 y2 hcw=>by
       have k1:=hcw.at (by simp only[List.mem_singleton];exact HNe.out.2.2.2.2.1) JR.out
       have k2:=JC.out.keep hcw (by simp only[List.mem_singleton];exact HNe.out.2.2.2.2.2)
       exact cmpf_any x y rb c W.length (shR t W) w' (by rw[blk_cell k1,shR_len];rfl) (lt_of_heap k1) k2 x1 (by rw[shR_len];exact x2) y1 (by rw[shR_len];exact y2)
      have ST:=LH (sstf_any ((List.range W.length).map Int.ofNat) W.length W.length W.length rb JO.out (by simp) (by omega) (range_asc _) (range_in _) CO)
      have HM:=LH hm
      have hkn2: ¬(k:Int)<(W.length:Int):=by omega
      clear CO HI hke l1 l2 hm
      go_wp2_with fail
      refine ST.out.mono ?_;rintro e w4 ⟨rfl,⟨O,hO1,hO2,hO3⟩,hc4⟩
      have ORD:=LH (show IsOrd (shR t W) O from⟨hO3,by rw[shR_len];exact hO2⟩)
      have HO:=LH hO1
      have HS4:=LH (JS.out.keep hc4 (by simp only[List.mem_singleton];exact HNe.out.2.2.1))
      have HC4:=LH (show Chg [] w w4 from JW.out.trans hc4 (by simp) (fun x hx hlt=>by simp only[List.mem_singleton]at hx;have:=HN1.out.2.2.2;have:=C2.out.size;omega))
      have hOl:O.length=W.length:=by rw[hO2.length_eq];simp
      clear hO1 hO2 hO3 hc4 ST JS JC JO JR JW
      go_upto_region 24 with fail
      rw[HL.out]
      go_wp2_with fail
      go_loopw [105] (fun i wr=>∃k2:Nat,i= .int .i64 k2∧k2≤m∧Hid (IB wr s (bump (shQ t W) (O.take k2)))∧Hid (IB wr o O)∧Hid (Chg [] w wr)) (fun i _=>m-(intOf i).toNat)
      case atStart=>exact⟨0,rfl,Nat.zero_le _,LH (by simpa[bump]using HS4.out),HO,HC4⟩
      case round=>
       obtain⟨k2,rfl,hk2,B1,B2,B3⟩:=hrel
       by_cases hkm:k2<m
       ·have hkO:k2<O.length:=by omega
        have hrg:=ORD.out.range O[k2] (List.getElem_mem hkO)
        rw[shR_len]at hrg
        obtain⟨j,hj⟩:∃j:Nat,O[k2]=(j:Int):=⟨O[k2].toNat,by omega⟩
        have hjn:j<W.length:=by omega
        have hOj:O[k2]? =some (j:Int):=by rw[List.getElem?_eq_getElem hkO,hj]
        have hbl:(bump (shQ t W) (O.take k2)).length=W.length:=by rw[bump_len,shQ_len]
        obtain⟨v,hv⟩:∃v,(bump (shQ t W) (O.take k2))[j]? =some v:=⟨(bump (shQ t W) (O.take k2))[j]'(by omega),List.getElem?_eq_getElem _⟩
        have hvd:(bump (shQ t W) (O.take k2)).getD j 0=v:=by rw[List.getD_eq_getElem?_getD,hv];rfl
        have hvb:0≤v∧v≤1000000000001:=by
         have hb:=bump_at (Q:=shQ t W) (O:=O.take k2) (ORD.out.nodup.sublist (List.take_sublist _ _)) (fun i hi=>(ORD.out.range i (List.mem_of_mem_take hi)).1) j (by rw[shQ_len];exact hjn)
         rw[hvd]at hb
         have hu:(effW W).getD j 0∈effW W:=by rw[List.getD_eq_getElem?_getD,List.getElem?_eq_getElem (by rw[effW_len];exact hjn)];exact List.getElem_mem _
         have hs:=share_step ht0 ht1 HALL.out HSUM.out hn hu
         rw[quo_at hjn]at hb
         have h2:=hs.2.1
         have h3:=hs.2.2.1
         split at hb<;>omega
        have c1:=B2.out.cell hOj
        have c2:=B1.out.cell hv
        have lo:=B2.out.lt
        have ls:=B1.out.lt
        have fs:=blk_free B1.out
        have HN:=LH (show IB (wr.setCell ⟨s,j,none⟩ (.int .i64 (v+1))) s (bump (shQ t W) (O.take (k2+1)))from by
         rw[take_at hOj,bump_snoc,Int.toNat_natCast,hvd]
         exact B1.out.set j (v+1))
        have HO2:=LH (show IB (wr.setCell ⟨s,j,none⟩ (.int .i64 (v+1))) o O from B2.out.past (Ne.symm HNe.out.2.2.1) j _)
        have HC5:=LH (show Chg [] w (wr.setCell ⟨s,j,none⟩ (.int .i64 (v+1)))from B3.out.setCell _ _ (fun q=>absurd q (by have:=HNew.out;simp only;omega)))
        have hk0:(0:Int)≤(k2:Int):=by omega
        have hk1:(k2:Int)<(m:Int):=by omega
        have hj0:(0:Int)≤(j:Int):=by omega
        have hj1:(j:Int)<(W.length:Int):=by omega
        obtain⟨v1,v2⟩:=hvb
        clear hrg hj hOj hbl hv hvd hkO
        go_wp2_with fail
        exact⟨⟨k2+1,by go_num,by omega,HN,HO2,HC5⟩,by simp[intOf];omega⟩
       ·have hke:k2=m:=by omega
        have HF:=LH (show IB wr s (shares t W O)from by have:=B1.out;rw[hke]at this;unfold shares;rw[HM.out,Int.toNat_natCast];exact this)
        have hkm2: ¬(k2:Int)<(m:Int):=by omega
        clear hke
        go_wp2_with fail
        go_ret2
        exact⟨s,O,rfl,ORD.out,HF.out,HNew.out,B3.out⟩
 ·have hzb:(W.sum==0)=false:=by rw[beq_eq_false_iff_ne];exact hz
  have EW:=LH (show effW W=W by unfold effW;rw[if_neg hz])
  have ES:=LH (show effS W=W.sum by unfold effS;rw[if_neg hz])
  have HSUM:=LH hsum
  obtain⟨S,hS⟩:∃S,S=W.sum:=⟨_,rfl⟩
  rw[←hS]at A hsum hs0 hz hzb ES
  clear hS
  go_enter Tryz.func73,Tryz.ntmps73
  go_wp2_with fail
  refine A.out.mono ?_;rintro e w1 ⟨rfl,rfl⟩
  go_wp2_with fail
  refine C.out.mono ?_;rintro e w2 ⟨v,rfl,hr2,hc2⟩
  obtain⟨la,lc,rfl⟩:=RowOf.shape hr2
  have ROW:=LH (show RowOf icI 1 w2 w.heap.size 3 (.slice la W.length lc) (effW W) by rw[EW.out];exact hr2)
  have C2:=LH hc2
  clear hr2 hc2
  go_upto_region 12 with fail
  refine share_r12 (by kernel_rfl) hn _ ?_
  intro y44 y45 y46 y47 y48 y49 y50 y51 y52 s rb c o wy H3
  have N1:=H3.out.new
  have N2:=H3.out.ne
  have I0:=LH (show ShI t W w w2 wy la lc s rb c o 0 from
   ⟨by simpa using H3.out.is,by simpa using H3.out.ic,by simpa using H3.out.io,H3.out.ir,ROW.out.kept H3.out.chg (by simp),fun g hg=>(RowOf.block ROW.out g hg).2,C2.out.thenSame H3.out.chg⟩)
  have HNew:=LH (show w.heap.size≤s from Nat.le_trans C2.out.size N1.1)
  have HNe:=LH N2
  have HN1:=LH N1
  clear N1 N2 H3
  go_wp2_with fail
  go_loopw [13,56] (fun lf i wr=>∃k:Nat,i= .int .i64 k∧lf= .int .i64 (t-((shQ t W).take k).sum)∧k≤W.length∧Hid (ShI t W w w2 wr la lc s rb c o k)) (fun _ i _=>W.length-(intOf i).toNat)
  case atStart=>exact⟨0,rfl,by simp,Nat.zero_le _,I0⟩
  case round=>
   obtain⟨k,rfl,rfl,hk,HI⟩:=hrel
   by_cases hkn:k<W.length
   ·obtain⟨u,hu⟩:∃u,(effW W)[k]? =some u:=⟨(effW W)[k]'(by rw[effW_len];exact hkn),List.getElem?_eq_getElem _⟩
    obtain⟨m1,m2,m3,m4,m5,m6,m7,m8,m9,m10⟩:=share_step ht0 ht1 HALL.out HSUM.out hn (List.mem_of_getElem? hu)
    have hq:(shQ t W)[k]? =some (quo t (effS W) u):=by unfold shQ;rw[List.getElem?_map,hu];rfl
    have hr:(shR t W)[k]? =some (rst t (effS W) u):=by unfold shR;rw[List.getElem?_map,hu];rfl
    have i1:=HI.out
    have M:=LH (fun w'=>muldiv_any t u (effS W) w')
    rw[m1]at M
    rw[ES.out]at m6 m7 m10 M hq hr m1 m2 m3 m8 m9
    generalize quo t S u=q at*
    generalize rst t S u=r at*
    have zr:=rest_wrap m10 m8 m9
    have zt:IntKind.u64.wrap t=t:=u64_in ht0 (by omega)
    have zu:IntKind.u64.wrap u=u:=u64_in m4 (by omega)
    have zq:IntKind.u64.wrap q=q:=u64_in m2 (by omega)
    have zS:IntKind.u64.wrap S=S:=u64_in (by omega) (by omega)
    rcases RowOf.at i1.row icI_len with ⟨_,h2⟩|⟨g,cp,h1,h2,h3,h4,h5,h6,h7⟩
    ·exfalso;rw[h2]at hu;simp at hu
    ·rw[effW_len]at h1
     cases h1
     have hul:k<(effW W).length:=by rw[effW_len];exact hkn
     have d0:=h4 k hul 0 (by omega)
     rw[(List.getElem?_eq_some_iff.1 hu).2]at d0
     simp only[icI,List.getElem?_cons_zero,Nat.add_zero,Nat.mul_one]at d0
     have hk0:(0:Int)≤(k:Int):=by omega
     have hk1:(k:Int)<(W.length:Int):=by omega
     have HS:=LH (show t-((shQ t W).take k).sum-q=t-((shQ t W).take (k+1)).sum by rw[take_at hq,List.sum_append];simp;omega)
     have HQ:=LH hq
     have HRR:=LH hr
     have hqs:=sum_nn_le (t:=t) (W:=W) ht0 HALL.out HNIL.out k
     generalize ((shQ t W).take k).sum=QS at*
     clear i1 h2 h3 h4 h5 h6 hu hul m1 m10 hq hr
     go_wp2_with fail
     refine(M.out _).mono ?_;rintro e w3 ⟨rfl,hc3⟩
     have J:=HI.out.keep hc3
     have HN:=LH (J.next hkn HQ.out HRR.out C2.out.size HN1.out HNe.out)
     have s1:=J.is.cell (rep_at shQ_len hkn)
     have c1:=J.ic.cell (rep_at shR_len hkn)
     have o1:=J.io.cell (rep_at (by simp) hkn)
     have e1:=blk_cell J.ir 0
     have c2:=(J.ic.past (Ne.symm HNe.out.2.1) k (.int .i64 q)).cell (rep_at shR_len hkn)
     have o2:=((J.io.past (Ne.symm HNe.out.2.2.1) k (.int .i64 q)).past (Ne.symm HNe.out.2.2.2.2.2) k (.int .i64 r)).cell (rep_at (by simp) hkn)
     have fs:=blk_free J.is
     have fc:=blk_free J.ic
     have fo:=blk_free J.io
     have ls:=J.is.lt
     have lc':=J.ic.lt
     have lo:=J.io.lt
     have lr:=lt_of_heap J.ir
     simp only[List.getElem?_toArray,List.getElem?_cons_zero]at e1
     have e2:=blk_cell ((blk_set_ne (b':=rb) (b:=s) k (.int .i64 q) (Ne.symm HNe.out.1)).trans J.ir) 0
     simp only[List.getElem?_toArray,List.getElem?_cons_zero]at e2
     clear hc3 J d0 h7 M
     go_wp2_with fail
     go_region_law (fail)
     all_goals
      go_wp2_with fail
      exact⟨⟨k+1,by go_num,by rw[←HS.out],by omega,HN⟩,by simp[intOf];omega⟩
   ·have hke:k=W.length:=by omega
    obtain⟨l1,l2⟩:=left_bounds (t:=t) (all_nn HALL.out) HNIL.out
    obtain⟨m,hm⟩:∃m:Nat,leftOf t W=(m:Int):=⟨(leftOf t W).toNat,by omega⟩
    have hmn:m≤W.length:=by omega
    have HL:=LH (show t-((shQ t W).take k).sum=(m:Int) by rw[←hm,hke,List.take_of_length_le (by rw[shQ_len];omega)];rfl)
    have JS:=LH (show IB wr s (shQ t W) by have:=HI.out.is;rw[hke,List.take_of_length_le (by rw[shQ_len];omega),Nat.sub_self]at this;simpa using this)
    have JC:=LH (show IB wr c (shR t W) by have:=HI.out.ic;rw[hke,List.take_of_length_le (by rw[shR_len];omega),Nat.sub_self]at this;simpa using this)
    have JO:=LH (show IB wr o ((List.range W.length).map Int.ofNat) by have:=HI.out.io;rw[hke,List.take_of_length_le (by simp),Nat.sub_self]at this;simpa using this)
    have JR:=LH HI.out.ir
    have JW:=LH HI.out.chg
    have CO:CmpOk wr o W.length (keyOf (shR t W)) rb:=fun x y w' x1 x2 y1 y2 hcw=>by
     have k1:=hcw.at (by simp only[List.mem_singleton];exact HNe.out.2.2.2.2.1) JR.out
     have k2:=JC.out.keep hcw (by simp only[List.mem_singleton];exact HNe.out.2.2.2.2.2)
     exact cmpf_any x y rb c W.length (shR t W) w' (by rw[blk_cell k1,shR_len];rfl) (lt_of_heap k1) k2 x1 (by rw[shR_len];exact x2) y1 (by rw[shR_len];exact y2)
    have ST:=LH (sstf_any ((List.range W.length).map Int.ofNat) W.length W.length W.length rb JO.out (by simp) (by omega) (range_asc _) (range_in _) CO)
    have HM:=LH hm
    have hkn2: ¬(k:Int)<(W.length:Int):=by omega
    clear CO HI hke l1 l2 hm
    go_wp2_with fail
    refine ST.out.mono ?_;rintro e w4 ⟨rfl,⟨O,hO1,hO2,hO3⟩,hc4⟩
    have ORD:=LH (show IsOrd (shR t W) O from⟨hO3,by rw[shR_len];exact hO2⟩)
    have HO:=LH hO1
    have HS4:=LH (JS.out.keep hc4 (by simp only[List.mem_singleton];exact HNe.out.2.2.1))
    have HC4:=LH (show Chg [] w w4 from JW.out.trans hc4 (by simp) (fun x hx hlt=>by simp only[List.mem_singleton]at hx;have:=HN1.out.2.2.2;have:=C2.out.size;omega))
    have hOl:O.length=W.length:=by rw[hO2.length_eq];simp
    clear hO1 hO2 hO3 hc4 ST JS JC JO JR JW
    go_upto_region 24 with fail
    rw[HL.out]
    go_wp2_with fail
    go_loopw [105] (fun i wr=>∃k2:Nat,i= .int .i64 k2∧k2≤m∧Hid (IB wr s (bump (shQ t W) (O.take k2)))∧Hid (IB wr o O)∧Hid (Chg [] w wr)) (fun i _=>m-(intOf i).toNat)
    case atStart=>exact⟨0,rfl,Nat.zero_le _,LH (by simpa[bump]using HS4.out),HO,HC4⟩
    case round=>
     obtain⟨k2,rfl,hk2,B1,B2,B3⟩:=hrel
     by_cases hkm:k2<m
     ·have hkO:k2<O.length:=by omega
      have hrg:=ORD.out.range O[k2] (List.getElem_mem hkO)
      rw[shR_len]at hrg
      obtain⟨j,hj⟩:∃j:Nat,O[k2]=(j:Int):=⟨O[k2].toNat,by omega⟩
      have hjn:j<W.length:=by omega
      have hOj:O[k2]? =some (j:Int):=by rw[List.getElem?_eq_getElem hkO,hj]
      have hbl:(bump (shQ t W) (O.take k2)).length=W.length:=by rw[bump_len,shQ_len]
      obtain⟨v,hv⟩:∃v,(bump (shQ t W) (O.take k2))[j]? =some v:=⟨(bump (shQ t W) (O.take k2))[j]'(by omega),List.getElem?_eq_getElem _⟩
      have hvd:(bump (shQ t W) (O.take k2)).getD j 0=v:=by rw[List.getD_eq_getElem?_getD,hv];rfl
      have hvb:0≤v∧v≤1000000000001:=by
       have hb:=bump_at (Q:=shQ t W) (O:=O.take k2) (ORD.out.nodup.sublist (List.take_sublist _ _)) (fun i hi=>(ORD.out.range i (List.mem_of_mem_take hi)).1) j (by rw[shQ_len];exact hjn)
       rw[hvd]at hb
       have hu:(effW W).getD j 0∈effW W:=by rw[List.getD_eq_getElem?_getD,List.getElem?_eq_getElem (by rw[effW_len];exact hjn)];exact List.getElem_mem _
       have hs:=share_step ht0 ht1 HALL.out HSUM.out hn hu
       rw[quo_at hjn]at hb
       have h2:=hs.2.1
       have h3:=hs.2.2.1
       split at hb<;>omega
      have c1:=B2.out.cell hOj
      have c2:=B1.out.cell hv
      have lo:=B2.out.lt
      have ls:=B1.out.lt
      have fs:=blk_free B1.out
      have HN:=LH (show IB (wr.setCell ⟨s,j,none⟩ (.int .i64 (v+1))) s (bump (shQ t W) (O.take (k2+1)))from by
       rw[take_at hOj,bump_snoc,Int.toNat_natCast,hvd]
       exact B1.out.set j (v+1))
      have HO2:=LH (show IB (wr.setCell ⟨s,j,none⟩ (.int .i64 (v+1))) o O from B2.out.past (Ne.symm HNe.out.2.2.1) j _)
      have HC5:=LH (show Chg [] w (wr.setCell ⟨s,j,none⟩ (.int .i64 (v+1)))from B3.out.setCell _ _ (fun q=>absurd q (by have:=HNew.out;simp only;omega)))
      have hk0:(0:Int)≤(k2:Int):=by omega
      have hk1:(k2:Int)<(m:Int):=by omega
      have hj0:(0:Int)≤(j:Int):=by omega
      have hj1:(j:Int)<(W.length:Int):=by omega
      obtain⟨v1,v2⟩:=hvb
      clear hrg hj hOj hbl hv hvd hkO
      go_wp2_with fail
      exact⟨⟨k2+1,by go_num,by omega,HN,HO2,HC5⟩,by simp[intOf];omega⟩
     ·have hke:k2=m:=by omega
      have HF:=LH (show IB wr s (shares t W O)from by have:=B1.out;rw[hke]at this;unfold shares;rw[HM.out,Int.toNat_natCast];exact this)
      have hkm2: ¬(k2:Int)<(m:Int):=by omega
      clear hke
      go_wp2_with fail
      go_ret2
      exact⟨s,O,rfl,ORD.out,HF.out,HNew.out,B3.out⟩
end
end Go.Proofs.YtmofknmeljdodaaGreatDoor
