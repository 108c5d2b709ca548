/- Values (chapters 30, 50): contract: look. No condition but those that the statements name. -/
import Derived.Lib.MinMax
import Derived.Deep.DeepCutAuto
import Derived.Test.YtmofknmeljdodaaGreatDoorZS01
import Derived.Test.YtmofknmeljdodaaGreatDoorZS03
set_option maxHeartbeats 100000000
set_option maxRecDepth 100000
set_option linter.unusedVariables false
set_option linter.unusedSimpArgs false
open List renaming getElem_toArray→gTA,getElem_cons_zero→gCZ,getElem_cons_succ→gCS,setIfInBounds_toArray→sTA,set_cons_zero→sCZ,set_cons_succ→sCS
namespace Go.Proofs.YtmofknmeljdodaaGreatDoor
section
open Go.RowKit
theorem opnInfo:(Tryz.prog.info? 323).map (fun i=>(i.zero,i.size,i.bytes))=some (some (.agg #[.bool false, .int .i64 0, .bool false, .string ⟨#[]⟩, .bool false]),5,48):=by kernel_rfl
theorem look_any (a:Option Addr) (c:Nat) (l:List Ce) (w:World) (h:SlIs ceC 4 w a l.length l) (hl:l.length≤3518437208780) (hg:∀x∈l,x.good) (ht:TabW w):
 Calls Tryz.prog 97 #[.slice a l.length c] w fun e w'=>e= .returned (.tuple #[.int .i64 (lookS l).1, .agg (shC (lookS l).2.1), .bool (lookS l).2.2])∧Chg [] w w':=by
 have H:=LH h
 have HG:=LH hg
 have HT:=LH ht
 obtain⟨R,hR⟩:∃R,R=lookS l:=⟨_,rfl⟩
 rw[←hR]
 unfold lookS at hR
 have HR:=LH hR
 obtain⟨W1,hW1⟩:∃W1,W1=(w.alloc (shO sh0)).alloc (shO sh0):=⟨_,rfl⟩
 have C1:=LH (show Chg [] w W1 by rw[hW1];exact((Chg.refl _ _).alloc _).alloc _)
 have X3:=LH (show W1.heap[w.heap.size]? =some (shO sh0) by rw[hW1];exact blk_alloc (heap_alloc_new _ _))
 have X5:=LH (show W1.heap[w.heap.size+1]? =some (shO sh0) by rw[hW1];have:=heap_alloc_new (w.alloc (shO sh0)) (shO sh0);rw[World.size_alloc]at this;exact this)
 have s1:W1.heap.size=w.heap.size+2:=by rw[hW1,World.size_alloc,World.size_alloc]
 have HW1:=LH hW1
 have HL:Hid (l.length≤3518437208780):=LH hl
 have hl1:(l.length:Int)≤3518437208780:=by omega
 clear h hg ht hR hW1 hl
 go_enter Tryz.func97,Tryz.ntmps97
 go_wp2_with fail
 go_step3
 go_wp2_with fail
 go_step3
 go_wp2_with fail
 go_loopw [6,13] (fun v i wr=>∃(k:Nat) (s:Sh) (S:List Opn) (a1:Option Addr) (c1:Nat),i= .int .i64 k∧k≤l.length∧v= .slice a1 S.length c1∧Hid (RowOf opnC 5 wr W1.heap.size 323 v S)∧Hid (wr.heap[w.heap.size]? =some (shO sh0))∧Hid (wr.heap[w.heap.size+1]? =some (shO s))∧Hid (Chg [] w wr)∧Hid (R=lookR l.length (l.drop k) k s S)∧Hid (S.length≤k)∧Hid (∀o∈S,1≤o.left∧o.left≤9223372036854775807)∧Hid (W1.heap.size≤wr.heap.size)) (fun _ i _=>l.length-(intOf i).toNat)
 case atStart=>
  refine⟨0,sh0,[],none,0,rfl,Nat.zero_le _,rfl,LH (RowOf.nil _ _ _), ?_, ?_, ?_,LH (by rw[List.drop_zero];exact HR.out),LH (Nat.le_refl _),LH (by intro o h;simp at h), ?_⟩
  ·exact LH (by have:=X3.out;rw[HW1.out]at this;exact this)
  ·exact LH (by have:=X5.out;rw[HW1.out]at this;exact this)
  ·exact LH (by have:=C1.out;rw[HW1.out]at this;exact this)
  ·exact LH (by rw[HW1.out];exact Nat.le_refl _)
 case round=>
  obtain⟨k,s,S,a1,c1,rfl,hkl,rfl,HS,X3,X5,D,HE,HSK,HSB,HBS⟩:=hrel
  by_cases hk:k<l.length
  ·obtain⟨g1,o1,rfl, -,hbr1,hcc⟩:=H.out.elem D.out k hk
   have d0:=hcc 0 (by omega)
   have d1:=hcc 1 (by omega)
   have d2:=hcc 2 (by omega)
   have d3:=hcc 3 (by omega)
   have hgx:=HG.out l[k] (List.getElem_mem hk)
   have hE:=HE.out
   rw[List.drop_eq_getElem_cons hk]at hE
   generalize l[k]=x at*
   simp only[ceC,List.getElem?_cons_zero,List.getElem?_cons_succ,Nat.add_zero]at d0 d1 d2 d3
   have hk0:(0:Int)≤(k:Int):=by omega
   have hk1:(k:Int)<(l.length:Int):=by omega
   have HGX:=LH hgx
   obtain⟨W2,hW2⟩:∃W2,W2=wr.alloc (ceO x):=⟨_,rfl⟩
   have K2:=LH (show Chg [] wr W2 by rw[hW2];exact(Chg.refl _ _).alloc _)
   have X8:=LH (show W2.heap[wr.heap.size]? =some (ceO x) by rw[hW2];exact heap_alloc_new _ _)
   have x8:=blk_cell X8.out
   have l8:=lt_of_heap X8.out
   have HW2:=LH hW2
   have A1:=LH (plain_any x W2 hgx.2.2.1)
   unfold ceV at A1
   unfold ceO at hW2 X8 x8
   have HW2':=LH hW2
   clear hcc hgx hW2
   cases hpb:plainB x
   ·rw[hpb]at A1
    have HF:=LH (hE.trans (look_fail (lookC_plain hpb)))
    go_wp2_with fail
    rw[←HW2'.out]
    refine A1.out.mono ?_;rintro e w3 ⟨rfl,hc3⟩
    have K3:=LH (K2.out.thenSame hc3)
    have Y3:=LH (K3.out.at (by simp) X3.out)
    have Y5:=LH (K3.out.at (by simp) X5.out)
    have y5:=blk_cell Y5.out
    have m5:=lt_of_heap Y5.out
    have y3:=blk_cell Y3.out
    have f3:=blk_free Y3.out
    have m3:=lt_of_heap Y3.out
    unfold shO at y5 y3 f3 Y3 Y5
    clear hc3 x8 l8
    go_wp2_with fail
    have Z3:=LH Y3.out
    have DZ:=LH (D.out.thenSame K3.out)
    refine wp_region_noPanic ?_
    refine wp_region_held_drew (S:=(fun w'=>True)) (by kernel_rfl) trivial (fun hHeld=> ?_)
    refine wpAnyH_take (i:=1) (oi:=_) (v:= ?vA_1) rfl (by kernel_rfl) (by kernel_rfl) (by kernel_rfl) (fun _ _ _ h=>h) (Or.inl ⟨by rfl, ?yA_1⟩) hHeld ?rA_1
    case yA_1=>(intro w hSw;(try dsimp only at hSw);(try simp only[gTA,gCZ,gCS]);go_simp<;>with_reducible rfl)
    (try simp only[gTA,gCZ,gCS,Act.put,sTA,sCZ,sCS])
    refine wpAnyH_ready (rs:=[0]) (by kernel_rfl) (by simp) ?_
    refine AllReadyH.cons (o:=_) rfl (fun K hK=> ?_) AllReadyH.nil
    (try simp only[gTA,gCZ,gCS])
    go_simp
    skip
    refine hK.out _ _ ?_ (fun hHeld=> ?_)
    exact trivial
    clear hK K
    (try simp only[gTA,gCZ,gCS,Act.put,sTA,sCZ,sCS])
    refine wpAnyH_ready (rs:=[2]) (by kernel_rfl) (by simp) ?_
    refine AllReadyH.cons (o:=_) rfl (fun K hK=> ?_) AllReadyH.nil
    (try simp only[gTA,gCZ,gCS])
    go_simp
    skip
    refine hK.out _ _ ?_ (fun hHeld=> ?_)
    exact trivial
    clear hK K
    (try simp only[gTA,gCZ,gCS,Act.put,sTA,sCZ,sCS])
    refine wpAnyH_take (i:=3) (oi:=_) (v:= ?vA_3) rfl (by kernel_rfl) (by kernel_rfl) (by kernel_rfl) (fun _ _ _ h=>h) (Or.inl ⟨by rfl, ?yA_3⟩) hHeld ?rA_3
    case yA_3=>(intro w hSw;(try dsimp only at hSw);(try simp only[gTA,gCZ,gCS]);go_simp<;>with_reducible rfl)
    (try simp only[gTA,gCZ,gCS,Act.put,sTA,sCZ,sCS])
    refine wpAnyH_done (by kernel_rfl) ?_ _
    refine NoPanic.normal ?_
    go_wp2_with fail
    rw[Exit.noGoto_ret]
    have r1:=blk_cell (show((((w3.setCell ⟨w.heap.size,0,none⟩ (.int .i64 s.depth)).setCell ⟨w.heap.size,1,none⟩ (.int .i64 s.bytes)).setCell ⟨w.heap.size,2,none⟩ (.bool s.outside)).setCell ⟨w.heap.size,3,none⟩ (.bool s.long)).drew.heap[w.heap.size]? =some (.cells #[.int .i64 s.depth, .int .i64 s.bytes, .bool s.outside, .bool s.long] 246 (0,0))from sh_at _ _ _ _ Z3.out)
    have hcf:Chg [] w ((((w3.setCell ⟨w.heap.size,0,none⟩ (.int .i64 s.depth)).setCell ⟨w.heap.size,1,none⟩ (.int .i64 s.bytes)).setCell ⟨w.heap.size,2,none⟩ (.bool s.outside)).setCell ⟨w.heap.size,3,none⟩ (.bool s.long)).drew:=(((((DZ.out).setCell _ _ (by simp)).setCell _ _ (by simp)).setCell _ _ (by simp)).setCell _ _ (by simp)).drew
    exact bodyPost_ret (v:= .tuple #[.int .i64 0, .agg (shC s), .bool false]) (by simp[results,Tryz.results97,go_sem,shC,r1]) rfl ⟨by rw[HF.out],hcf⟩
   rw[hpb]at A1
   have hB5:w.heap.size+1<W1.heap.size:=by omega
   have hN8:wr.heap.size≠w.heap.size+1:=by have:=HBS.out;omega
   have h35:w.heap.size≠w.heap.size+1:=by omega
   have hW5:w.heap.size≤w.heap.size+1:=by omega
   have HG8:=LH (show ∀g,(Value.slice a1 S.length c1).ownBlock=some g→g≠wr.heap.size from fun g hg e=>by have:=(HS.out.block g hg).2;omega)
   have MM2:=LH (show Mid w.heap.size (w.heap.size+1) wr.heap.size W1.heap.size w x s (.slice a1 S.length c1) S W2 from⟨K2.out.at (by simp) X3.out,K2.out.at (by simp) X5.out,X8.out,HS.out.kept K2.out (by simp),D.out.thenSame K2.out,Nat.le_trans HBS.out K2.out.size⟩)
   have hsk:S.length≤3518437208780:=by have:=HSK.out;have:=HL.out;omega
   have hsk1:(S.length:Int)≤3518437208780:=by omega
   go_wp2_with fail
   rw[←HW2'.out]
   refine A1.out.mono ?_;rintro e w3 ⟨rfl,hc3⟩
   have M3:=LH (MM2.out.chg hc3)
   clear hc3 x8 l8 X3 X5 HS D HBS K2 X8 MM2
   go_upto_region 9 with fail
   go_cut [33] (fun kb wx=>kb= .bool (keyTop S).isSome∧wx=w3)
   case first=>
    rcases List.eq_nil_or_concat S with rfl|⟨i,t,hit⟩
    ·go_wp2_with fail
     go_meet
     exact⟨by first|rfl|(rw[keyTop_nil];rfl),rfl⟩
    ·rw[List.concat_eq_append]at hit
     subst hit
     have hlen:(i++[t]).length=i.length+1:=by rw[List.length_append];rfl
     obtain⟨g,rfl⟩:∃g,a1=some ⟨g,0,none⟩:=by
      rcases RowOf.at M3.out.2.2.2.1 opnC_len with ⟨_,h0⟩|⟨g,cap,hv,_⟩
      ·simp at h0
      ·simp only[Value.slice.injEq]at hv;exact⟨g,hv.1⟩
     obtain⟨-,q2,q3,q4,q5,q6,q7⟩:=RowOf.atS M3.out.2.2.2.1 opnC_len
     have q4':=q4 i.length (by omega)
     have hti:(i++[t])[i.length]'(by omega)=t:=by simp
     rw[hti]at q4'
     have e2:=q4' 2 (by omega)
     simp only[opnC,List.getElem?_cons_zero,List.getElem?_cons_succ,Nat.add_zero]at e2
     have hi0:(0:Int)≤(i.length:Int):=by omega
     have hi1:(i.length:Int)≤3518437208779:=by omega
     have hkt:(keyTop (i++[t])).isSome=t.key:=by
      cases hk:t.key
      ·rw[keyTop_no i hk];rfl
      ·rw[keyTop_yes i hk];rfl
     simp only at q7
     have HKT:=LH hkt
     have HLN:=LH hlen
     rw[hlen]
     clear q2 q3 q4 q5 q6 q4' hti hlen hsk hsk1 hkt
     go_wp2_with fail
     rw[←HLN.out]
     go_meet
     exact⟨by rw[HKT.out],rfl⟩
   case rest=>
    obtain⟨rfl,rfl⟩:=hcut
    cases hkt:keyTop S with
    |some p=>
     obtain⟨i,t⟩:=p
     obtain⟨hS,hkey⟩:=keyTop_some hkt
     subst hS
     have hck:=lookC_key (len:=l.length) (s:=s) (i:=i) hpb hkey
     have hlen:(i++[t]).length=i.length+1:=by rw[List.length_append];rfl
     obtain⟨g,rfl⟩:∃g,a1=some ⟨g,0,none⟩:=by
      rcases RowOf.at M3.out.2.2.2.1 opnC_len with ⟨_,h0⟩|⟨g,cap,hv,_⟩
      ·simp at h0
      ·simp only[Value.slice.injEq]at hv;exact⟨g,hv.1⟩
     have hgn:=HG8.out g rfl
     have hi0:(0:Int)≤(i.length:Int):=by omega
     have hi1:(i.length:Int)≤3518437208779:=by omega
     rw[hlen]at M3⊢
     have hti:∀h:i.length<(i++[t]).length,(i++[t])[i.length]'h=t:=fun h=>by simp
     have hml:Hid (∀wx s',Mid w.heap.size (w.heap.size+1) wr.heap.size W1.heap.size w x s' (.slice (some ⟨g,0,none⟩) (i.length+1) c1) (i++[t]) wx→(wx.cell? ⟨g,i.length*5,none⟩=some (.bool t.pairs)∧wx.cell? ⟨g,i.length*5+2,none⟩=some (.bool t.key)∧wx.cell? ⟨g,i.length*5+3,none⟩=some (.string t.last)∧wx.cell? ⟨g,i.length*5+4,none⟩=some (.bool t.started))∧(∀j,wx.frozen? ⟨g,j,none⟩=false)∧g<wx.heap.size):=LH (fun wx s' hm=>by
      obtain⟨-, -, -,q4,q5, -,q7⟩:=RowOf.atS hm.2.2.2.1 opnC_len
      have q4':=q4 i.length (by omega)
      rw[hti]at q4'
      exact⟨⟨q4' 0 (by omega),q4' 2 (by omega),q4' 3 (by omega),q4' 4 (by omega)⟩,q5,q7⟩)
     have HLN:=LH hlen
     have HTI:=LH hti
     clear hlen hti hkt hsk hsk1
     obtain⟨⟨t0,t2,t3,t4⟩,ft,lt⟩:=hml.out _ _ M3.out
     go_upto_region 11 with fail
     go_cut [55] (fun kb wx=>kb= .bool (!(x.kind==4)||(t.started&&leS x.str t.last))∧Hid (Mid w.heap.size (w.heap.size+1) wr.heap.size W1.heap.size w x s (.slice (some ⟨g,0,none⟩) (i.length+1) c1) (i++[t]) wx))
     case first=>
      have z9:=blk_cell M3.out.2.2.1
      have n9:=lt_of_heap M3.out.2.2.1
      have M6:=LH (M3.out.chg (Chg.refl [] _).drew)
      obtain⟨⟨-, -,p3,p4⟩, -, -⟩:=hml.out _ _ M6.out
      refine wp_region_noPanic ?_
      have c8:=cells8 M6.out.2.2.1
      by_cases hk4:x.kind=4
      ·have k4:(x.kind==4)=true:=by simpa using hk4
       rw[hk4]at c8
       cases k5:t.started
       ·
        rw[k5]at p4
        refine wp_region_held_drew (S:=(fun w'=>(w'.cell? ⟨wr.heap.size,0,none⟩=some (.int .i64 4)∧w'.cell? ⟨wr.heap.size,1,none⟩=some (.int .i64 x.n)∧w'.cell? ⟨wr.heap.size,2,none⟩=some (.string x.str)∧w'.cell? ⟨wr.heap.size,3,none⟩=some (.int .i64 x.cn))∧w'.cell? ⟨g,i.length*5+3,none⟩=some (.string t.last)∧w'.cell? ⟨g,i.length*5+4,none⟩=some (.bool false))) (by kernel_rfl) ⟨c8,p3,p4⟩ (fun hHeld=> ?_)
        refine wpAnyH_take (i:=0) (oi:=_) (v:= ?vO_0) rfl (by kernel_rfl) (by kernel_rfl) (by kernel_rfl) (fun _ _ _ h=>h) (Or.inl ⟨by rfl, ?yO_0⟩) hHeld ?rO_0
        case yO_0=>(intro w hSw;(try dsimp only at hSw);(try simp only[gTA,gCZ,gCS]);go_simp<;>with_reducible rfl)
        (try simp only[gTA,gCZ,gCS,Act.put,sTA,sCZ,sCS])
        refine wpAnyH_take (i:=1) (oi:=_) (v:= ?vO_1) rfl (by kernel_rfl) (by kernel_rfl) (by kernel_rfl) (fun _ _ _ h=>h) (Or.inl ⟨by rfl, ?yO_1⟩) hHeld ?rO_1
        case yO_1=>(intro w hSw;(try dsimp only at hSw);(try simp only[gTA,gCZ,gCS]);go_simp<;>with_reducible rfl)
        (try simp only[gTA,gCZ,gCS,Act.put,sTA,sCZ,sCS])
        refine wpAnyH_take (i:=2) (oi:=_) (v:= ?vO_2) rfl (by kernel_rfl) (by kernel_rfl) (by kernel_rfl) (fun _ _ _ h=>h) (Or.inl ⟨by rfl, ?yO_2⟩) hHeld ?rO_2
        case yO_2=>(intro w hSw;(try dsimp only at hSw);(try simp only[gTA,gCZ,gCS]);go_simp<;>with_reducible rfl)
        (try simp only[gTA,gCZ,gCS,Act.put,sTA,sCZ,sCS])
        refine wpAnyH_take (i:=3) (oi:=_) (v:= ?vO_3) rfl (by kernel_rfl) (by kernel_rfl) (by kernel_rfl) (fun _ _ _ h=>h) (Or.inl ⟨by rfl, ?yO_3⟩) hHeld ?rO_3
        case yO_3=>(intro w hSw;(try dsimp only at hSw);(try simp only[gTA,gCZ,gCS]);go_simp<;>with_reducible rfl)
        (try simp only[gTA,gCZ,gCS,Act.put,sTA,sCZ,sCS])
        refine wpAnyH_take (i:=4) (oi:=_) (v:= ?vO_4) rfl (by kernel_rfl) (by kernel_rfl) (by kernel_rfl) (fun _ _ _ h=>h) (Or.inl ⟨by rfl, ?yO_4⟩) hHeld ?rO_4
        case yO_4=>(intro w hSw;(try dsimp only at hSw);(try simp only[gTA,gCZ,gCS]);go_simp<;>with_reducible rfl)
        (try simp only[gTA,gCZ,gCS,Act.put,sTA,sCZ,sCS])
        refine wpAnyH_take (i:=5) (oi:=_) (v:= ?vO_5) rfl (by kernel_rfl) (by kernel_rfl) (by kernel_rfl) (fun _ _ _ h=>h) (Or.inl ⟨by rfl, ?yO_5⟩) hHeld ?rO_5
        case yO_5=>(intro w hSw;(try dsimp only at hSw);(try simp only[gTA,gCZ,gCS]);go_simp<;>with_reducible rfl)
        (try simp only[gTA,gCZ,gCS,Act.put,sTA,sCZ,sCS])
        refine wpAnyH_take (i:=6) (oi:=_) (v:= ?vO_6) rfl (by kernel_rfl) (by kernel_rfl) (by kernel_rfl) (fun _ _ _ h=>h) (Or.inl ⟨by rfl, ?yO_6⟩) hHeld ?rO_6
        case yO_6=>(intro w hSw;(try dsimp only at hSw);(try simp only[gTA,gCZ,gCS]);go_simp<;>with_reducible rfl)
        (try simp only[gTA,gCZ,gCS,Act.put,sTA,sCZ,sCS])
        refine wpAnyH_take (i:=7) (oi:=_) (v:= ?vO_7) rfl (by kernel_rfl) (by kernel_rfl) (by kernel_rfl) (fun _ _ _ h=>h) (Or.inl ⟨by rfl, ?yO_7⟩) hHeld ?rO_7
        case yO_7=>(intro w hSw;(try dsimp only at hSw);(try simp only[gTA,gCZ,gCS]);go_simp<;>with_reducible rfl)
        (try simp only[gTA,gCZ,gCS,Act.put,sTA,sCZ,sCS])
        refine wpAnyH_take (i:=8) (oi:=_) (v:= ?vO_8) rfl (by kernel_rfl) (by kernel_rfl) (by kernel_rfl) (fun _ _ _ h=>h) (Or.inl ⟨by rfl, ?yO_8⟩) hHeld ?rO_8
        case yO_8=>(intro w hSw;(try dsimp only at hSw);(try simp only[gTA,gCZ,gCS]);go_simp<;>with_reducible rfl)
        (try simp only[gTA,gCZ,gCS,Act.put,sTA,sCZ,sCS])
        refine wpAnyH_take (i:=9) (oi:=_) (v:=_) rfl (by kernel_rfl) (by kernel_rfl) (by kernel_rfl) (fun _ _ _ h=>h) (Or.inr ⟨by rfl,rfl⟩) hHeld ?_
        (try simp only[gTA,gCZ,gCS,Act.put,sTA,sCZ,sCS])
        refine wpAnyH_take (i:=10) (oi:=_) (v:=_) rfl (by kernel_rfl) (by kernel_rfl) (by kernel_rfl) (fun _ _ _ h=>h) (Or.inr ⟨by rfl,rfl⟩) hHeld ?_
        (try simp only[gTA,gCZ,gCS,Act.put,sTA,sCZ,sCS])
        refine wpAnyH_take (i:=11) (oi:=_) (v:=_) rfl (by kernel_rfl) (by kernel_rfl) (by kernel_rfl) (fun _ _ _ h=>h) (Or.inr ⟨by rfl,rfl⟩) hHeld ?_
        (try simp only[gTA,gCZ,gCS,Act.put,sTA,sCZ,sCS])
        refine wpAnyH_take (i:=12) (oi:=_) (v:=_) rfl (by kernel_rfl) (by kernel_rfl) (by kernel_rfl) (fun _ _ _ h=>h) (Or.inr ⟨by rfl,rfl⟩) hHeld ?_
        (try simp only[gTA,gCZ,gCS,Act.put,sTA,sCZ,sCS])
        refine wpAnyH_take (i:=13) (oi:=_) (v:=_) rfl (by kernel_rfl) (by kernel_rfl) (by kernel_rfl) (fun _ _ _ h=>h) (Or.inr ⟨by rfl,rfl⟩) hHeld ?_
        (try simp only[gTA,gCZ,gCS,Act.put,sTA,sCZ,sCS])
        refine wpAnyH_take (i:=14) (oi:=_) (v:=_) rfl (by kernel_rfl) (by kernel_rfl) (by kernel_rfl) (fun _ _ _ h=>h) (Or.inr ⟨by rfl,rfl⟩) hHeld ?_
        (try simp only[gTA,gCZ,gCS,Act.put,sTA,sCZ,sCS])
        refine wpAnyH_take (i:=15) (oi:=_) (v:=_) rfl (by kernel_rfl) (by kernel_rfl) (by kernel_rfl) (fun _ _ _ h=>h) (Or.inr ⟨by rfl,rfl⟩) hHeld ?_
        (try simp only[gTA,gCZ,gCS,Act.put,sTA,sCZ,sCS])
        refine wpAnyH_take (i:=16) (oi:=_) (v:= ?vO_16) rfl (by kernel_rfl) (by kernel_rfl) (by kernel_rfl) (fun _ _ _ h=>h) (Or.inl ⟨by rfl, ?yO_16⟩) hHeld ?rO_16
        case yO_16=>(intro w hSw;(try dsimp only at hSw);(try simp only[gTA,gCZ,gCS]);go_simp<;>with_reducible rfl)
        (try simp only[gTA,gCZ,gCS,Act.put,sTA,sCZ,sCS])
        refine wpAnyH_take (i:=17) (oi:=_) (v:= ?vO_17) rfl (by kernel_rfl) (by kernel_rfl) (by kernel_rfl) (fun _ _ _ h=>h) (Or.inl ⟨by rfl, ?yO_17⟩) hHeld ?rO_17
        case yO_17=>(intro w hSw;(try dsimp only at hSw);(try simp only[gTA,gCZ,gCS]);go_simp<;>with_reducible rfl)
        (try simp only[gTA,gCZ,gCS,Act.put,sTA,sCZ,sCS])
        refine wpAnyH_done (by kernel_rfl) ?_ _
        refine NoPanic.normal ?_
        go_wp2_with fail
        go_meet
        exact⟨by simp[leS,k4,k5],M6⟩
       ·
        rw[k5]at p4
        refine wp_region_held_drew (S:=(fun w'=>(w'.cell? ⟨wr.heap.size,0,none⟩=some (.int .i64 4)∧w'.cell? ⟨wr.heap.size,1,none⟩=some (.int .i64 x.n)∧w'.cell? ⟨wr.heap.size,2,none⟩=some (.string x.str)∧w'.cell? ⟨wr.heap.size,3,none⟩=some (.int .i64 x.cn))∧w'.cell? ⟨g,i.length*5+3,none⟩=some (.string t.last)∧w'.cell? ⟨g,i.length*5+4,none⟩=some (.bool true))) (by kernel_rfl) ⟨c8,p3,p4⟩ (fun hHeld=> ?_)
        refine wpAnyH_take (i:=0) (oi:=_) (v:= ?vP_0) rfl (by kernel_rfl) (by kernel_rfl) (by kernel_rfl) (fun _ _ _ h=>h) (Or.inl ⟨by rfl, ?yP_0⟩) hHeld ?rP_0
        case yP_0=>(intro w hSw;(try dsimp only at hSw);(try simp only[gTA,gCZ,gCS]);go_simp<;>with_reducible rfl)
        (try simp only[gTA,gCZ,gCS,Act.put,sTA,sCZ,sCS])
        refine wpAnyH_take (i:=1) (oi:=_) (v:= ?vP_1) rfl (by kernel_rfl) (by kernel_rfl) (by kernel_rfl) (fun _ _ _ h=>h) (Or.inl ⟨by rfl, ?yP_1⟩) hHeld ?rP_1
        case yP_1=>(intro w hSw;(try dsimp only at hSw);(try simp only[gTA,gCZ,gCS]);go_simp<;>with_reducible rfl)
        (try simp only[gTA,gCZ,gCS,Act.put,sTA,sCZ,sCS])
        refine wpAnyH_take (i:=2) (oi:=_) (v:= ?vP_2) rfl (by kernel_rfl) (by kernel_rfl) (by kernel_rfl) (fun _ _ _ h=>h) (Or.inl ⟨by rfl, ?yP_2⟩) hHeld ?rP_2
        case yP_2=>(intro w hSw;(try dsimp only at hSw);(try simp only[gTA,gCZ,gCS]);go_simp<;>with_reducible rfl)
        (try simp only[gTA,gCZ,gCS,Act.put,sTA,sCZ,sCS])
        refine wpAnyH_take (i:=3) (oi:=_) (v:= ?vP_3) rfl (by kernel_rfl) (by kernel_rfl) (by kernel_rfl) (fun _ _ _ h=>h) (Or.inl ⟨by rfl, ?yP_3⟩) hHeld ?rP_3
        case yP_3=>(intro w hSw;(try dsimp only at hSw);(try simp only[gTA,gCZ,gCS]);go_simp<;>with_reducible rfl)
        (try simp only[gTA,gCZ,gCS,Act.put,sTA,sCZ,sCS])
        refine wpAnyH_take (i:=4) (oi:=_) (v:= ?vP_4) rfl (by kernel_rfl) (by kernel_rfl) (by kernel_rfl) (fun _ _ _ h=>h) (Or.inl ⟨by rfl, ?yP_4⟩) hHeld ?rP_4
        case yP_4=>(intro w hSw;(try dsimp only at hSw);(try simp only[gTA,gCZ,gCS]);go_simp<;>with_reducible rfl)
        (try simp only[gTA,gCZ,gCS,Act.put,sTA,sCZ,sCS])
        refine wpAnyH_take (i:=5) (oi:=_) (v:= ?vP_5) rfl (by kernel_rfl) (by kernel_rfl) (by kernel_rfl) (fun _ _ _ h=>h) (Or.inl ⟨by rfl, ?yP_5⟩) hHeld ?rP_5
        case yP_5=>(intro w hSw;(try dsimp only at hSw);(try simp only[gTA,gCZ,gCS]);go_simp<;>with_reducible rfl)
        (try simp only[gTA,gCZ,gCS,Act.put,sTA,sCZ,sCS])
        refine wpAnyH_take (i:=6) (oi:=_) (v:= ?vP_6) rfl (by kernel_rfl) (by kernel_rfl) (by kernel_rfl) (fun _ _ _ h=>h) (Or.inl ⟨by rfl, ?yP_6⟩) hHeld ?rP_6
        case yP_6=>(intro w hSw;(try dsimp only at hSw);(try simp only[gTA,gCZ,gCS]);go_simp<;>with_reducible rfl)
        (try simp only[gTA,gCZ,gCS,Act.put,sTA,sCZ,sCS])
        refine wpAnyH_take (i:=7) (oi:=_) (v:= ?vP_7) rfl (by kernel_rfl) (by kernel_rfl) (by kernel_rfl) (fun _ _ _ h=>h) (Or.inl ⟨by rfl, ?yP_7⟩) hHeld ?rP_7
        case yP_7=>(intro w hSw;(try dsimp only at hSw);(try simp only[gTA,gCZ,gCS]);go_simp<;>with_reducible rfl)
        (try simp only[gTA,gCZ,gCS,Act.put,sTA,sCZ,sCS])
        refine wpAnyH_take (i:=8) (oi:=_) (v:= ?vP_8) rfl (by kernel_rfl) (by kernel_rfl) (by kernel_rfl) (fun _ _ _ h=>h) (Or.inl ⟨by rfl, ?yP_8⟩) hHeld ?rP_8
        case yP_8=>(intro w hSw;(try dsimp only at hSw);(try simp only[gTA,gCZ,gCS]);go_simp<;>with_reducible rfl)
        (try simp only[gTA,gCZ,gCS,Act.put,sTA,sCZ,sCS])
        refine wpAnyH_take (i:=9) (oi:=_) (v:= ?vP_9) rfl (by kernel_rfl) (by kernel_rfl) (by kernel_rfl) (fun _ _ _ h=>h) (Or.inl ⟨by rfl, ?yP_9⟩) hHeld ?rP_9
        case yP_9=>(intro w hSw;(try dsimp only at hSw);(try simp only[gTA,gCZ,gCS]);go_simp<;>with_reducible rfl)
        (try simp only[gTA,gCZ,gCS,Act.put,sTA,sCZ,sCS])
        refine wpAnyH_take (i:=10) (oi:=_) (v:= ?vP_10) rfl (by kernel_rfl) (by kernel_rfl) (by kernel_rfl) (fun _ _ _ h=>h) (Or.inl ⟨by rfl, ?yP_10⟩) hHeld ?rP_10
        case yP_10=>(intro w hSw;(try dsimp only at hSw);(try simp only[gTA,gCZ,gCS]);go_simp<;>with_reducible rfl)
        (try simp only[gTA,gCZ,gCS,Act.put,sTA,sCZ,sCS])
        refine wpAnyH_take (i:=11) (oi:=_) (v:= ?vP_11) rfl (by kernel_rfl) (by kernel_rfl) (by kernel_rfl) (fun _ _ _ h=>h) (Or.inl ⟨by rfl, ?yP_11⟩) hHeld ?rP_11
        case yP_11=>(intro w hSw;(try dsimp only at hSw);(try simp only[gTA,gCZ,gCS]);go_simp<;>with_reducible rfl)
        (try simp only[gTA,gCZ,gCS,Act.put,sTA,sCZ,sCS])
        refine wpAnyH_take (i:=12) (oi:=_) (v:= ?vP_12) rfl (by kernel_rfl) (by kernel_rfl) (by kernel_rfl) (fun _ _ _ h=>h) (Or.inl ⟨by rfl, ?yP_12⟩) hHeld ?rP_12
        case yP_12=>(intro w hSw;(try dsimp only at hSw);(try simp only[gTA,gCZ,gCS]);go_simp<;>with_reducible rfl)
        (try simp only[gTA,gCZ,gCS,Act.put,sTA,sCZ,sCS])
        refine wpAnyH_take (i:=13) (oi:=_) (v:= ?vP_13) rfl (by kernel_rfl) (by kernel_rfl) (by kernel_rfl) (fun _ _ _ h=>h) (Or.inl ⟨by rfl, ?yP_13⟩) hHeld ?rP_13
        case yP_13=>(intro w hSw;(try dsimp only at hSw);(try simp only[gTA,gCZ,gCS]);go_simp<;>with_reducible rfl)
        (try simp only[gTA,gCZ,gCS,Act.put,sTA,sCZ,sCS])
        refine wpAnyH_take (i:=14) (oi:=_) (v:= ?vP_14) rfl (by kernel_rfl) (by kernel_rfl) (by kernel_rfl) (fun _ _ _ h=>h) (Or.inl ⟨by rfl, ?yP_14⟩) hHeld ?rP_14
        case yP_14=>(intro w hSw;(try dsimp only at hSw);(try simp only[gTA,gCZ,gCS]);go_simp<;>with_reducible rfl)
        (try simp only[gTA,gCZ,gCS,Act.put,sTA,sCZ,sCS])
        refine wpAnyH_take (i:=15) (oi:=_) (v:= ?vP_15) rfl (by kernel_rfl) (by kernel_rfl) (by kernel_rfl) (fun _ _ _ h=>h) (Or.inl ⟨by rfl, ?yP_15⟩) hHeld ?rP_15
        case yP_15=>(intro w hSw;(try dsimp only at hSw);(try simp only[gTA,gCZ,gCS]);go_simp<;>with_reducible rfl)
        (try simp only[gTA,gCZ,gCS,Act.put,sTA,sCZ,sCS])
        refine wpAnyH_take (i:=16) (oi:=_) (v:= ?vP_16) rfl (by kernel_rfl) (by kernel_rfl) (by kernel_rfl) (fun _ _ _ h=>h) (Or.inl ⟨by rfl, ?yP_16⟩) hHeld ?rP_16
        case yP_16=>(intro w hSw;(try dsimp only at hSw);(try simp only[gTA,gCZ,gCS]);go_simp<;>with_reducible rfl)
        (try simp only[gTA,gCZ,gCS,Act.put,sTA,sCZ,sCS])
        refine wpAnyH_take (i:=17) (oi:=_) (v:= ?vP_17) rfl (by kernel_rfl) (by kernel_rfl) (by kernel_rfl) (fun _ _ _ h=>h) (Or.inl ⟨by rfl, ?yP_17⟩) hHeld ?rP_17
        case yP_17=>(intro w hSw;(try dsimp only at hSw);(try simp only[gTA,gCZ,gCS]);go_simp<;>with_reducible rfl)
        (try simp only[gTA,gCZ,gCS,Act.put,sTA,sCZ,sCS])
        refine wpAnyH_done (by kernel_rfl) ?_ _
        refine NoPanic.normal ?_
        go_wp2_with fail
        go_meet
        exact⟨by simp[leS,k4,k5],M6⟩
      ·
       have k4:(x.kind==4)=false:=by simpa using hk4
       have k4b:(x.kind !=4)=true:=by simpa using hk4
       refine wp_region_held_drew (S:=(fun w'=>(w'.cell? ⟨wr.heap.size,0,none⟩=some (.int .i64 x.kind)∧w'.cell? ⟨wr.heap.size,1,none⟩=some (.int .i64 x.n)∧w'.cell? ⟨wr.heap.size,2,none⟩=some (.string x.str)∧w'.cell? ⟨wr.heap.size,3,none⟩=some (.int .i64 x.cn))∧w'.cell? ⟨g,i.length*5+3,none⟩=some (.string t.last)∧w'.cell? ⟨g,i.length*5+4,none⟩=some (.bool t.started))) (by kernel_rfl) ⟨c8,p3,p4⟩ (fun hHeld=> ?_)
       refine wpAnyH_take (i:=0) (oi:=_) (v:= ?vN_0) rfl (by kernel_rfl) (by kernel_rfl) (by kernel_rfl) (fun _ _ _ h=>h) (Or.inl ⟨by rfl, ?yN_0⟩) hHeld ?rN_0
       case yN_0=>(intro w hSw;(try dsimp only at hSw);(try simp only[gTA,gCZ,gCS]);go_simp<;>with_reducible rfl)
       (try simp only[gTA,gCZ,gCS,Act.put,sTA,sCZ,sCS])
       refine wpAnyH_take (i:=1) (oi:=_) (v:= ?vN_1) rfl (by kernel_rfl) (by kernel_rfl) (by kernel_rfl) (fun _ _ _ h=>h) (Or.inl ⟨by rfl, ?yN_1⟩) hHeld ?rN_1
       case yN_1=>(intro w hSw;(try dsimp only at hSw);(try simp only[gTA,gCZ,gCS]);go_simp<;>with_reducible rfl)
       (try simp only[gTA,gCZ,gCS,Act.put,sTA,sCZ,sCS])
       refine wpAnyH_take (i:=2) (oi:=_) (v:= ?vN_2) rfl (by kernel_rfl) (by kernel_rfl) (by kernel_rfl) (fun _ _ _ h=>h) (Or.inl ⟨by rfl, ?yN_2⟩) hHeld ?rN_2
       case yN_2=>(intro w hSw;(try dsimp only at hSw);(try simp only[gTA,gCZ,gCS]);go_simp<;>with_reducible rfl)
       (try simp only[gTA,gCZ,gCS,Act.put,sTA,sCZ,sCS])
       refine wpAnyH_take (i:=3) (oi:=_) (v:= ?vN_3) rfl (by kernel_rfl) (by kernel_rfl) (by kernel_rfl) (fun _ _ _ h=>h) (Or.inl ⟨by rfl, ?yN_3⟩) hHeld ?rN_3
       case yN_3=>(intro w hSw;(try dsimp only at hSw);(try simp only[gTA,gCZ,gCS]);go_simp<;>with_reducible rfl)
       (try simp only[gTA,gCZ,gCS,Act.put,sTA,sCZ,sCS])
       refine wpAnyH_take (i:=4) (oi:=_) (v:=_) rfl (by kernel_rfl) (by kernel_rfl) (by kernel_rfl) (fun _ _ _ h=>h) (Or.inr ⟨by rfl,rfl⟩) hHeld ?_
       (try simp only[gTA,gCZ,gCS,Act.put,sTA,sCZ,sCS])
       refine wpAnyH_take (i:=5) (oi:=_) (v:=_) rfl (by kernel_rfl) (by kernel_rfl) (by kernel_rfl) (fun _ _ _ h=>h) (Or.inr ⟨by rfl,rfl⟩) hHeld ?_
       (try simp only[gTA,gCZ,gCS,Act.put,sTA,sCZ,sCS])
       refine wpAnyH_take (i:=6) (oi:=_) (v:=_) rfl (by kernel_rfl) (by kernel_rfl) (by kernel_rfl) (fun _ _ _ h=>h) (Or.inr ⟨by rfl,rfl⟩) hHeld ?_
       (try simp only[gTA,gCZ,gCS,Act.put,sTA,sCZ,sCS])
       refine wpAnyH_take (i:=7) (oi:=_) (v:=_) rfl (by kernel_rfl) (by kernel_rfl) (by kernel_rfl) (fun _ _ _ h=>h) (Or.inr ⟨by rfl,rfl⟩) hHeld ?_
       (try simp only[gTA,gCZ,gCS,Act.put,sTA,sCZ,sCS])
       refine wpAnyH_take (i:=8) (oi:=_) (v:=_) rfl (by kernel_rfl) (by kernel_rfl) (by kernel_rfl) (fun _ _ _ h=>h) (Or.inr ⟨by rfl,rfl⟩) hHeld ?_
       (try simp only[gTA,gCZ,gCS,Act.put,sTA,sCZ,sCS])
       refine wpAnyH_take (i:=9) (oi:=_) (v:=_) rfl (by kernel_rfl) (by kernel_rfl) (by kernel_rfl) (fun _ _ _ h=>h) (Or.inr ⟨by rfl,rfl⟩) hHeld ?_
       (try simp only[gTA,gCZ,gCS,Act.put,sTA,sCZ,sCS])
       refine wpAnyH_take (i:=10) (oi:=_) (v:=_) rfl (by kernel_rfl) (by kernel_rfl) (by kernel_rfl) (fun _ _ _ h=>h) (Or.inr ⟨by rfl,rfl⟩) hHeld ?_
       (try simp only[gTA,gCZ,gCS,Act.put,sTA,sCZ,sCS])
       refine wpAnyH_take (i:=11) (oi:=_) (v:=_) rfl (by kernel_rfl) (by kernel_rfl) (by kernel_rfl) (fun _ _ _ h=>h) (Or.inr ⟨by rfl,rfl⟩) hHeld ?_
       (try simp only[gTA,gCZ,gCS,Act.put,sTA,sCZ,sCS])
       refine wpAnyH_take (i:=12) (oi:=_) (v:=_) rfl (by kernel_rfl) (by kernel_rfl) (by kernel_rfl) (fun _ _ _ h=>h) (Or.inr ⟨by rfl,rfl⟩) hHeld ?_
       (try simp only[gTA,gCZ,gCS,Act.put,sTA,sCZ,sCS])
       refine wpAnyH_take (i:=13) (oi:=_) (v:=_) rfl (by kernel_rfl) (by kernel_rfl) (by kernel_rfl) (fun _ _ _ h=>h) (Or.inr ⟨by rfl,rfl⟩) hHeld ?_
       (try simp only[gTA,gCZ,gCS,Act.put,sTA,sCZ,sCS])
       refine wpAnyH_take (i:=14) (oi:=_) (v:=_) rfl (by kernel_rfl) (by kernel_rfl) (by kernel_rfl) (fun _ _ _ h=>h) (Or.inr ⟨by rfl,rfl⟩) hHeld ?_
       (try simp only[gTA,gCZ,gCS,Act.put,sTA,sCZ,sCS])
       refine wpAnyH_take (i:=15) (oi:=_) (v:=_) rfl (by kernel_rfl) (by kernel_rfl) (by kernel_rfl) (fun _ _ _ h=>h) (Or.inr ⟨by rfl,rfl⟩) hHeld ?_
       (try simp only[gTA,gCZ,gCS,Act.put,sTA,sCZ,sCS])
       refine wpAnyH_take (i:=16) (oi:=_) (v:=_) rfl (by kernel_rfl) (by kernel_rfl) (by kernel_rfl) (fun _ _ _ h=>h) (Or.inr ⟨by rfl,rfl⟩) hHeld ?_
       (try simp only[gTA,gCZ,gCS,Act.put,sTA,sCZ,sCS])
       refine wpAnyH_take (i:=17) (oi:=_) (v:= ?vN_17) rfl (by kernel_rfl) (by kernel_rfl) (by kernel_rfl) (fun _ _ _ h=>h) (Or.inl ⟨by rfl, ?yN_17⟩) hHeld ?rN_17
       case yN_17=>(intro w hSw;(try dsimp only at hSw);(try simp only[gTA,gCZ,gCS]);go_simp<;>with_reducible rfl)
       (try simp only[gTA,gCZ,gCS,Act.put,sTA,sCZ,sCS])
       refine wpAnyH_done (by kernel_rfl) ?_ _
       refine NoPanic.normal ?_
       go_wp2_with fail
       go_meet
       exact⟨by simp[leS,k4],M6⟩
     case rest=>
      obtain⟨rfl,M4⟩:=hcut
      clear M3 t0 t2 t3 t4 ft lt
      cases hbad:(!(x.kind==4)||(t.started&&leS x.str t.last))
      ·have HF:=LH (hE.trans (look_next (hck.trans (by rw[hbad];rfl))))
       obtain⟨⟨t0,t2,t3,t4⟩,ft,lt⟩:=hml.out _ _ M4.out
       have f2:=ft (i.length*5+2)
       have f3:=ft (i.length*5+3)
       have f4:=ft (i.length*5+4)
       have z9:=blk_cell M4.out.2.2.1
       have n9:=lt_of_heap M4.out.2.2.1
       clear hE hck ft
       go_upto_region 13 with fail
       go_cut [] (fun wx=>Hid (Mid w.heap.size (w.heap.size+1) wr.heap.size W1.heap.size w x s (.slice (some ⟨g,0,none⟩) (i.length+1) c1) (i++[{t with last:=x.str,started:=true,key:=false}]) wx))
       case first=>
        go_wp2_with fail
        go_meet
        have h3B:w.heap.size<W1.heap.size:=by omega
        have hWB:w.heap.size≤W1.heap.size:=by omega
        exact LH (((M4.out.top h3B hB5 hgn hWB 3 (by omega) (.string x.str) {t with last:=x.str} rfl).top h3B hB5 hgn hWB 4 (by omega) (.bool true) {t with last:=x.str,started:=true} rfl).top h3B hB5 hgn hWB 2 (by omega) (.bool false) {t with last:=x.str,started:=true,key:=false} rfl)
       case rest=>
        have M5:=hcut
        clear hcut M4 t0 t2 t3 t4 f2 f3 f4 lt z9 n9
        go_upto_region 14 with fail
        go_cut [] (fun wx=>Hid (Mid w.heap.size (w.heap.size+1) wr.heap.size W1.heap.size w x {s with bytes:=IntKind.i64.wrap (s.bytes+IntKind.i64.wrap (quotZ x.str+1))} (.slice (some ⟨g,0,none⟩) (i.length+1) c1) (i++[{t with last:=x.str,started:=true,key:=false}]) wx))
        case first=>
         refine look_r14 (by kernel_rfl) M5 h35 hN8 hB5 hW5 _ (fun y68 y69 y70 y71 y72 y73 y74 y75 wz hz=> ?_)
         go_wp2_with fail
         go_meet
         exact hz
        case rest=>
         have M7:=hcut
         clear hcut M5
         have y7:=blk_cell M7.out.2.1
         have f7:=blk_free M7.out.2.1
         have m7:=lt_of_heap M7.out.2.1
         have z7:=blk_cell M7.out.2.2.1
         have n7:=lt_of_heap M7.out.2.2.1
         simp only at y7
         have hsk3:=HSK.out
         rw[HLN.out]at hsk3
         cases ho:s.long
         all_goals
          rw[ho]at y7
          go_wp2_with fail
          have M8:=LH (show Mid w.heap.size (w.heap.size+1) wr.heap.size W1.heap.size w x (keySh x s) (.slice (some ⟨g,0,none⟩) (i.length+1) c1) (i++[{t with last:=x.str,started:=true,key:=false}]) _ from M7.out.set5 h35 hN8 hB5 hW5 3 _ (by simp[shC,keySh,ho];rfl))
          exact⟨⟨k+1,keySh x s,i++[{t with last:=x.str,started:=true,key:=false}],some ⟨g,0,none⟩,c1,by go_num,by omega,by rw[List.length_append];rfl,LH M8.out.2.2.2.1,LH M8.out.1,LH M8.out.2.1,LH M8.out.2.2.2.2.1,HF,LH (by rw[List.length_append];simp;omega),LH (fun o ho=>by
           rcases List.mem_append.1 ho with ho|ho
           ·exact HSB.out o (by simp[ho])
           ·simp at ho;subst ho;exact HSB.out t (by simp)),LH M8.out.2.2.2.2.2⟩,by simp[intOf];omega⟩
      ·have HF:=LH (hE.trans (look_fail (hck.trans (by rw[hbad,if_pos rfl]))))
       have Z3:=LH M4.out.1
       have DZ:=LH M4.out.2.2.2.2.1
       have y9:=blk_cell M4.out.2.1
       have m9:=lt_of_heap M4.out.2.1
       have w3c:=blk_cell M4.out.1
       have f3:=blk_free M4.out.1
       have m3:=lt_of_heap M4.out.1
       unfold shO at w3c f3 Z3
       clear hE hck
       go_wp2_with fail
       refine wp_region_noPanic ?_
       refine wp_region_held_drew (S:=(fun w'=>True)) (by kernel_rfl) trivial (fun hHeld=> ?_)
       refine wpAnyH_take (i:=1) (oi:=_) (v:= ?vK_1) rfl (by kernel_rfl) (by kernel_rfl) (by kernel_rfl) (fun _ _ _ h=>h) (Or.inl ⟨by rfl, ?yK_1⟩) hHeld ?rK_1
       case yK_1=>(intro w hSw;(try dsimp only at hSw);(try simp only[gTA,gCZ,gCS]);go_simp<;>with_reducible rfl)
       (try simp only[gTA,gCZ,gCS,Act.put,sTA,sCZ,sCS])
       refine wpAnyH_ready (rs:=[0]) (by kernel_rfl) (by simp) ?_
       refine AllReadyH.cons (o:=_) rfl (fun K hK=> ?_) AllReadyH.nil
       (try simp only[gTA,gCZ,gCS])
       go_simp
       skip
       refine hK.out _ _ ?_ (fun hHeld=> ?_)
       exact trivial
       clear hK K
       (try simp only[gTA,gCZ,gCS,Act.put,sTA,sCZ,sCS])
       refine wpAnyH_ready (rs:=[2]) (by kernel_rfl) (by simp) ?_
       refine AllReadyH.cons (o:=_) rfl (fun K hK=> ?_) AllReadyH.nil
       (try simp only[gTA,gCZ,gCS])
       go_simp
       skip
       refine hK.out _ _ ?_ (fun hHeld=> ?_)
       exact trivial
       clear hK K
       (try simp only[gTA,gCZ,gCS,Act.put,sTA,sCZ,sCS])
       refine wpAnyH_take (i:=3) (oi:=_) (v:= ?vK_3) rfl (by kernel_rfl) (by kernel_rfl) (by kernel_rfl) (fun _ _ _ h=>h) (Or.inl ⟨by rfl, ?yK_3⟩) hHeld ?rK_3
       case yK_3=>(intro w hSw;(try dsimp only at hSw);(try simp only[gTA,gCZ,gCS]);go_simp<;>with_reducible rfl)
       (try simp only[gTA,gCZ,gCS,Act.put,sTA,sCZ,sCS])
       refine wpAnyH_done (by kernel_rfl) ?_ _
       refine NoPanic.normal ?_
       go_wp2_with fail
       rw[Exit.noGoto_ret]
       have r1:=blk_cell (show((((wc.setCell ⟨w.heap.size,0,none⟩ (.int .i64 s.depth)).setCell ⟨w.heap.size,1,none⟩ (.int .i64 s.bytes)).setCell ⟨w.heap.size,2,none⟩ (.bool s.outside)).setCell ⟨w.heap.size,3,none⟩ (.bool s.long)).drew.heap[w.heap.size]? =some (.cells #[.int .i64 s.depth, .int .i64 s.bytes, .bool s.outside, .bool s.long] 246 (0,0))from sh_at _ _ _ _ Z3.out)
       have hcf:Chg [] w ((((wc.setCell ⟨w.heap.size,0,none⟩ (.int .i64 s.depth)).setCell ⟨w.heap.size,1,none⟩ (.int .i64 s.bytes)).setCell ⟨w.heap.size,2,none⟩ (.bool s.outside)).setCell ⟨w.heap.size,3,none⟩ (.bool s.long)).drew:=(((((DZ.out).setCell _ _ (by simp)).setCell _ _ (by simp)).setCell _ _ (by simp)).setCell _ _ (by simp)).drew
       exact bodyPost_ret (v:= .tuple #[.int .i64 0, .agg (shC s), .bool false]) (by simp[results,Tryz.results97,go_sem,shC,r1]) rfl ⟨by rw[HF.out],hcf⟩
    |none=>
     have hcv:=lookC_val (len:=l.length) (s:=s) hpb hkt
     clear hkt
     go_upto_region 16 with fail
     go_cut [] (fun wx=>Hid (Mid w.heap.size (w.heap.size+1) wr.heap.size W1.heap.size w x {s with depth:=max s.depth ((S.length:Int)+1)} (.slice a1 S.length c1) S wx))
     case first=>
      have y5:=blk_cell M3.out.2.1
      have f5:=blk_free M3.out.2.1
      have m5:=lt_of_heap M3.out.2.1
      go_wp2_with fail
      go_meet
      exact LH (M3.out.set5 h35 hN8 hB5 hW5 0 _ rfl)
     case rest=>
      have M4:=hcut
      clear hcut M3
      go_upto_region 17 with fail
      go_cut [] (fun wx=>Hid (Mid w.heap.size (w.heap.size+1) wr.heap.size W1.heap.size w x {s with depth:=max s.depth ((S.length:Int)+1),bytes:=IntKind.i64.wrap (s.bytes+sizeZ x)} (.slice a1 S.length c1) S wx))
      case first=>
       refine look_r17 (by kernel_rfl) M4 HGX HT h35 hN8 hB5 hW5 _ (fun y92 y93 y94 y95 y96 y97 wz hz=> ?_)
       go_wp2_with fail
       go_meet
       exact hz
      case rest=>
       have M7:=hcut
       clear hcut M4
       go_upto_region 18 with fail
       go_cut [] (fun wx=>Hid (Mid w.heap.size (w.heap.size+1) wr.heap.size W1.heap.size w x {s with depth:=max s.depth ((S.length:Int)+1),bytes:=IntKind.i64.wrap (s.bytes+sizeZ x),outside:=s.outside||(x.kind==3&& !validB x.n)} (.slice a1 S.length c1) S wx))
       case first=>
        have y7:=blk_cell M7.out.2.1
        have f7:=blk_free M7.out.2.1
        have m7:=lt_of_heap M7.out.2.1
        have z7:=blk_cell M7.out.2.2.1
        have n7:=lt_of_heap M7.out.2.2.1
        simp only at y7
        cases ho:s.outside<;>cases hk3:x.kind==3
        all_goals
         rw[ho]at y7
         go_wp2_with (go_at_call 173;(refine(valid_any _ _).mono ?_);rintro e w8 ⟨rfl,rfl⟩)
         go_meet
         exact LH (M7.out.set5 h35 hN8 hB5 hW5 2 _ (by simp[shC,ho,hk3]))
       case rest=>
        have M8:=hcut
        clear hcut M7
        go_upto_region 19 with fail
        go_cut [] (fun wx=>Hid (Mid w.heap.size (w.heap.size+1) wr.heap.size W1.heap.size w x (valSh x s S.length) (.slice a1 S.length c1) S wx))
        case first=>
         have y8:=blk_cell M8.out.2.1
         have f8:=blk_free M8.out.2.1
         have m8:=lt_of_heap M8.out.2.1
         have z8:=blk_cell M8.out.2.2.1
         have n8:=lt_of_heap M8.out.2.2.1
         simp only at y8
         cases ho:s.long
         all_goals
          rw[ho]at y8
          go_wp2_with fail
          go_meet
          exact LH (M8.out.set5 h35 hN8 hB5 hW5 3 _ (by simp[shC,valSh,ho]))
        case rest=>
         have M9:=hcut
         clear hcut M8
         have y9:=blk_cell M9.out.2.1
         have m9:=lt_of_heap M9.out.2.1
         have z9:=blk_cell M9.out.2.2.1
         have n9:=lt_of_heap M9.out.2.2.1
         obtain⟨P1,P2,P3,P4,P5,P6⟩:=M9.out
         have Z3:=LH P1
         have Q5:=LH P2
         have Q4:=LH P4
         have DZ:=LH P5
         have Q6:=LH P6
         have HNB:=LH (show ∀b,b<W1.heap.size→b∉(Value.slice a1 S.length c1).ownBlock.toList from fun b hb hm=>by have:=(Q4.out.block b (by simpa using hm)).1;omega)
         have w3c:=blk_cell P1
         have f3:=blk_free P1
         have m3:=lt_of_heap P1
         clear P1 P2 P3 P4 P5 P6
         unfold shO at w3c f3 Z3
         by_cases hcn:0<x.cn
         ·by_cases hcl:(l.length:Int)<x.cn
          ·have HF:=LH (hE.trans (look_fail (hcv.trans (by unfold valL;rw[if_pos hcn,if_pos hcl]))))
           generalize valSh x s S.length=sv at*
           clear hE hcv
           go_wp2_with fail
           refine wp_region_noPanic ?_
           refine wp_region_held_drew (S:=(fun w'=>True)) (by kernel_rfl) trivial (fun hHeld=> ?_)
           refine wpAnyH_take (i:=1) (oi:=_) (v:= ?vG_1) rfl (by kernel_rfl) (by kernel_rfl) (by kernel_rfl) (fun _ _ _ h=>h) (Or.inl ⟨by rfl, ?yG_1⟩) hHeld ?rG_1
           case yG_1=>(intro w hSw;(try dsimp only at hSw);(try simp only[gTA,gCZ,gCS]);go_simp<;>with_reducible rfl)
           (try simp only[gTA,gCZ,gCS,Act.put,sTA,sCZ,sCS])
           refine wpAnyH_ready (rs:=[0]) (by kernel_rfl) (by simp) ?_
           refine AllReadyH.cons (o:=_) rfl (fun K hK=> ?_) AllReadyH.nil
           (try simp only[gTA,gCZ,gCS])
           go_simp
           skip
           refine hK.out _ _ ?_ (fun hHeld=> ?_)
           exact trivial
           clear hK K
           (try simp only[gTA,gCZ,gCS,Act.put,sTA,sCZ,sCS])
           refine wpAnyH_ready (rs:=[2]) (by kernel_rfl) (by simp) ?_
           refine AllReadyH.cons (o:=_) rfl (fun K hK=> ?_) AllReadyH.nil
           (try simp only[gTA,gCZ,gCS])
           go_simp
           skip
           refine hK.out _ _ ?_ (fun hHeld=> ?_)
           exact trivial
           clear hK K
           (try simp only[gTA,gCZ,gCS,Act.put,sTA,sCZ,sCS])
           refine wpAnyH_take (i:=3) (oi:=_) (v:= ?vG_3) rfl (by kernel_rfl) (by kernel_rfl) (by kernel_rfl) (fun _ _ _ h=>h) (Or.inl ⟨by rfl, ?yG_3⟩) hHeld ?rG_3
           case yG_3=>(intro w hSw;(try dsimp only at hSw);(try simp only[gTA,gCZ,gCS]);go_simp<;>with_reducible rfl)
           (try simp only[gTA,gCZ,gCS,Act.put,sTA,sCZ,sCS])
           refine wpAnyH_done (by kernel_rfl) ?_ _
           refine NoPanic.normal ?_
           go_wp2_with fail
           rw[Exit.noGoto_ret]
           have r1:=blk_cell (show((((wc.setCell ⟨w.heap.size,0,none⟩ (.int .i64 sv.depth)).setCell ⟨w.heap.size,1,none⟩ (.int .i64 sv.bytes)).setCell ⟨w.heap.size,2,none⟩ (.bool sv.outside)).setCell ⟨w.heap.size,3,none⟩ (.bool sv.long)).drew.heap[w.heap.size]? =some (.cells #[.int .i64 sv.depth, .int .i64 sv.bytes, .bool sv.outside, .bool sv.long] 246 (0,0))from sh_at _ _ _ _ Z3.out)
           have hcf:Chg [] w ((((wc.setCell ⟨w.heap.size,0,none⟩ (.int .i64 sv.depth)).setCell ⟨w.heap.size,1,none⟩ (.int .i64 sv.bytes)).setCell ⟨w.heap.size,2,none⟩ (.bool sv.outside)).setCell ⟨w.heap.size,3,none⟩ (.bool sv.long)).drew:=(((((DZ.out).setCell _ _ (by simp)).setCell _ _ (by simp)).setCell _ _ (by simp)).setCell _ _ (by simp)).drew
           exact bodyPost_ret (v:= .tuple #[.int .i64 0, .agg (shC sv), .bool false]) (by simp[results,Tryz.results97,go_sem,shC,r1]) rfl ⟨by rw[HF.out],hcf⟩
          ·have HF:=LH (hE.trans (look_next (hcv.trans (by unfold valL;rw[if_pos hcn,if_neg hcl]))))
           have hcl':x.cn≤(l.length:Int):=by omega
           have hsk2:=HSK.out
           have N1:=LH (heap_alloc_new wc (.cells #[.bool (x.kind==6), .int .i64 x.cn, .bool (x.kind==6), .string ⟨#[]⟩, .bool false] 323))
           have E1:=LH ((Chg.refl [] wc).alloc (.cells #[.bool (x.kind==6), .int .i64 x.cn, .bool (x.kind==6), .string ⟨#[]⟩, .bool false] 323))
           generalize valSh x s S.length=sv at*
           clear hE hcv y9
           go_wp2_with (at_builtin;refine wpl_appendW rfl _ _ 320 rfl W1.heap.size 323 _ 48 Tryz.underlying320 opnInfo rfl (by decide) opnC_len opnC_one (.slice a1 S.length c1) S rfl (Q4.out.kept E1.out (by simp)) wc.heap.size 1 ⟨x.kind==6,x.cn,x.kind==6,⟨#[]⟩,false⟩ _ _ _ rfl N1.out rfl (by unfold maxLen;omega) (by omega) (Nat.le_trans Q6.out E1.out.size) ?_;intro v8 w8 hr8 hg8)
           have hkr:=Chg.ofRow (v:= .slice a1 S.length c1) hg8
           obtain⟨a8,c8,rfl⟩:=RowOf.shape hr8
           exact⟨⟨k+1,sv,S++[⟨x.kind==6,x.cn,x.kind==6,⟨#[]⟩,false⟩],a8,c8,by go_num,by omega,rfl,LH hr8,LH (hkr.at (HNB.out _ (by omega)) (E1.out.at (by simp) Z3.out)),LH (hkr.at (HNB.out _ (by omega)) (E1.out.at (by simp) Q5.out)),LH ((DZ.out.thenSame E1.out).then hkr (fun y hy hlt=>absurd hy (HNB.out y (by omega)))),HF,LH (by rw[List.length_append];simp;omega),LH (fun o ho=>by
            rcases List.mem_append.1 ho with ho|ho
            ·exact HSB.out o ho
            ·simp at ho;subst ho;exact⟨by show 1≤x.cn;omega,by show x.cn≤_;omega⟩),LH (Nat.le_trans Q6.out (Nat.le_trans E1.out.size hkr.size))⟩,by simp[intOf];omega⟩
         ·have hcn':x.cn≤0:=by omega
          have hcb:=closed_bounds HSB.out
          have B1:=LH (closed_any Q4.out HSB.out (by omega))
          have hsk2:=HSK.out
          have hv1:=hcv.trans (by unfold valL;rw[if_neg hcn])
          generalize valSh x s S.length=sv at*
          generalize hcl:closedL S=S' at*
          obtain⟨hcb1,hcb2⟩:=hcb
          have HCB:=LH hcb1
          have hcb3:(S'.length:Int)≤3518437208780:=by omega
          by_cases hz:S'.length=0
          ·have HF:=LH (hE.trans (look_done (hv1.trans (by rw[if_pos hz]))))
           clear hE hcv hv1 y9 hcb1 hcl
           go_wp2_with fail
           refine B1.out.mono ?_;rintro e w8 ⟨v8,rfl,hr8,hc8,hv8⟩
           obtain⟨a8,c8,rfl⟩:=RowOf.shape hr8
           have Z8:=LH (hc8.at (HNB.out _ (by omega)) Z3.out)
           have D8:=LH (DZ.out.then hc8 (fun y hy hlt=>absurd hy (HNB.out y (by omega))))
           have q8:=blk_cell (hc8.at (HNB.out _ (by omega)) Q5.out)
           have r8:=lt_of_heap (hc8.at (HNB.out _ (by omega)) Q5.out)
           have w3c:=blk_cell Z8.out
           have f3:=blk_free Z8.out
           have m3:=lt_of_heap Z8.out
           have hz':((S'.length:Int)==0)=true:=beq_iff_eq.2 (by omega)
           clear hr8 hc8 hv8
           unfold shO at q8
           go_wp2_with fail
           refine wp_region_noPanic ?_
           refine wp_region_held_drew (S:=(fun w'=>True)) (by kernel_rfl) trivial (fun hHeld=> ?_)
           refine wpAnyH_take (i:=0) (oi:=_) (v:= ?vH_0) rfl (by kernel_rfl) (by kernel_rfl) (by kernel_rfl) (fun _ _ _ h=>h) (Or.inl ⟨by rfl, ?yH_0⟩) hHeld ?rH_0
           case yH_0=>(intro w hSw;(try dsimp only at hSw);(try simp only[gTA,gCZ,gCS]);go_simp<;>with_reducible rfl)
           (try simp only[gTA,gCZ,gCS,Act.put,sTA,sCZ,sCS])
           refine wpAnyH_take (i:=1) (oi:=_) (v:= ?vH_1) rfl (by kernel_rfl) (by kernel_rfl) (by kernel_rfl) (fun _ _ _ h=>h) (Or.inl ⟨by rfl, ?yH_1⟩) hHeld ?rH_1
           case yH_1=>(intro w hSw;(try dsimp only at hSw);(try simp only[gTA,gCZ,gCS]);go_simp<;>with_reducible rfl)
           (try simp only[gTA,gCZ,gCS,Act.put,sTA,sCZ,sCS])
           refine wpAnyH_take (i:=3) (oi:=_) (v:= ?vH_3) rfl (by kernel_rfl) (by kernel_rfl) (by kernel_rfl) (fun _ _ _ h=>h) (Or.inl ⟨by rfl, ?yH_3⟩) hHeld ?rH_3
           case yH_3=>(intro w hSw;(try dsimp only at hSw);(try simp only[gTA,gCZ,gCS]);go_simp<;>with_reducible rfl)
           (try simp only[gTA,gCZ,gCS,Act.put,sTA,sCZ,sCS])
           refine wpAnyH_ready (rs:=[2]) (by kernel_rfl) (by simp) ?_
           refine AllReadyH.cons (o:=_) rfl (fun K hK=> ?_) AllReadyH.nil
           (try simp only[gTA,gCZ,gCS])
           go_simp
           skip
           refine hK.out _ _ ?_ (fun hHeld=> ?_)
           exact trivial
           clear hK K
           (try simp only[gTA,gCZ,gCS,Act.put,sTA,sCZ,sCS])
           refine wpAnyH_ready (rs:=[4]) (by kernel_rfl) (by simp) ?_
           refine AllReadyH.cons (o:=_) rfl (fun K hK=> ?_) AllReadyH.nil
           (try simp only[gTA,gCZ,gCS])
           go_simp
           skip
           refine hK.out _ _ ?_ (fun hHeld=> ?_)
           exact trivial
           clear hK K
           (try simp only[gTA,gCZ,gCS,Act.put,sTA,sCZ,sCS])
           refine wpAnyH_take (i:=5) (oi:=_) (v:= ?vH_5) rfl (by kernel_rfl) (by kernel_rfl) (by kernel_rfl) (fun _ _ _ h=>h) (Or.inl ⟨by rfl, ?yH_5⟩) hHeld ?rH_5
           case yH_5=>(intro w hSw;(try dsimp only at hSw);(try simp only[gTA,gCZ,gCS]);go_simp<;>with_reducible rfl)
           (try simp only[gTA,gCZ,gCS,Act.put,sTA,sCZ,sCS])
           refine wpAnyH_done (by kernel_rfl) ?_ _
           refine NoPanic.normal ?_
           go_wp2_with fail
           rw[Exit.noGoto_ret]
           have r1:=blk_cell (show((((w8.setCell ⟨w.heap.size,0,none⟩ (.int .i64 sv.depth)).setCell ⟨w.heap.size,1,none⟩ (.int .i64 sv.bytes)).setCell ⟨w.heap.size,2,none⟩ (.bool sv.outside)).setCell ⟨w.heap.size,3,none⟩ (.bool sv.long)).drew.heap[w.heap.size]? =some (.cells #[.int .i64 sv.depth, .int .i64 sv.bytes, .bool sv.outside, .bool sv.long] 246 (0,0))from sh_at _ _ _ _ Z8.out)
           have hcf:Chg [] w ((((w8.setCell ⟨w.heap.size,0,none⟩ (.int .i64 sv.depth)).setCell ⟨w.heap.size,1,none⟩ (.int .i64 sv.bytes)).setCell ⟨w.heap.size,2,none⟩ (.bool sv.outside)).setCell ⟨w.heap.size,3,none⟩ (.bool sv.long)).drew:=(((((D8.out).setCell _ _ (by simp)).setCell _ _ (by simp)).setCell _ _ (by simp)).setCell _ _ (by simp)).drew
           exact bodyPost_ret (v:= .tuple #[.int .i64 ((k:Int)+1), .agg (shC sv), .bool true]) (by simp[results,Tryz.results97,go_sem,shC,r1];exact IntWalk.i64_in _ (by omega)) rfl ⟨by rw[HF.out],hcf⟩
          ·have HF:=LH (hE.trans (look_next (hv1.trans (by rw[if_neg hz]))))
           clear hE hcv hv1 y9 hcb1 hcl
           have hz':((S'.length:Int)==0)=false:=beq_eq_false_iff_ne.2 (by omega)
           go_wp2_with fail
           refine B1.out.mono ?_;rintro e w8 ⟨v8,rfl,hr8,hc8,hv8⟩
           obtain⟨a8,c8,rfl⟩:=RowOf.shape hr8
           have HR8:=LH hr8
           have HC8:=LH hc8
           clear hr8 hc8 hv8
           go_wp2_with fail
           exact⟨⟨k+1,sv,S',a8,c8,by go_num,by omega,rfl,HR8,LH (HC8.out.at (HNB.out _ (by omega)) Z3.out),LH (HC8.out.at (HNB.out _ (by omega)) Q5.out),LH (DZ.out.then HC8.out (fun y hy hlt=>absurd hy (HNB.out y (by omega)))),HF,LH (by omega),HCB,LH (Nat.le_trans Q6.out HC8.out.size)⟩,by simp[intOf];omega⟩
  ·have hks:k=l.length:=by omega
   subst hks
   have hE:=HE.out
   rw[List.drop_length,look_nil]at hE
   have HF:=LH hE
   have Z3:=LH X3.out
   have DZ:=LH D.out
   have y3:=blk_cell X3.out
   have f3:=blk_free X3.out
   have m3:=lt_of_heap X3.out
   have y5:=blk_cell X5.out
   have m5:=lt_of_heap X5.out
   unfold shO at y3 f3 y5 Z3
   clear hE
   go_wp2_with fail
   refine wp_region_noPanic ?_
   refine wp_region_held_drew (S:=(fun w'=>True)) (by kernel_rfl) trivial (fun hHeld=> ?_)
   refine wpAnyH_take (i:=1) (oi:=_) (v:= ?vZ_1) rfl (by kernel_rfl) (by kernel_rfl) (by kernel_rfl) (fun _ _ _ h=>h) (Or.inl ⟨by rfl, ?yZ_1⟩) hHeld ?rZ_1
   case yZ_1=>(intro w hSw;(try dsimp only at hSw);(try simp only[gTA,gCZ,gCS]);go_simp<;>with_reducible rfl)
   (try simp only[gTA,gCZ,gCS,Act.put,sTA,sCZ,sCS])
   refine wpAnyH_ready (rs:=[0]) (by kernel_rfl) (by simp) ?_
   refine AllReadyH.cons (o:=_) rfl (fun K hK=> ?_) AllReadyH.nil
   (try simp only[gTA,gCZ,gCS])
   go_simp
   skip
   refine hK.out _ _ ?_ (fun hHeld=> ?_)
   exact trivial
   clear hK K
   (try simp only[gTA,gCZ,gCS,Act.put,sTA,sCZ,sCS])
   refine wpAnyH_ready (rs:=[2]) (by kernel_rfl) (by simp) ?_
   refine AllReadyH.cons (o:=_) rfl (fun K hK=> ?_) AllReadyH.nil
   (try simp only[gTA,gCZ,gCS])
   go_simp
   skip
   refine hK.out _ _ ?_ (fun hHeld=> ?_)
   exact trivial
   clear hK K
   (try simp only[gTA,gCZ,gCS,Act.put,sTA,sCZ,sCS])
   refine wpAnyH_take (i:=3) (oi:=_) (v:= ?vZ_3) rfl (by kernel_rfl) (by kernel_rfl) (by kernel_rfl) (fun _ _ _ h=>h) (Or.inl ⟨by rfl, ?yZ_3⟩) hHeld ?rZ_3
   case yZ_3=>(intro w hSw;(try dsimp only at hSw);(try simp only[gTA,gCZ,gCS]);go_simp<;>with_reducible rfl)
   (try simp only[gTA,gCZ,gCS,Act.put,sTA,sCZ,sCS])
   refine wpAnyH_done (by kernel_rfl) ?_ _
   refine NoPanic.normal ?_
   go_wp2_with fail
   rw[Exit.noGoto_ret]
   have r1:=blk_cell (show((((wr.setCell ⟨w.heap.size,0,none⟩ (.int .i64 s.depth)).setCell ⟨w.heap.size,1,none⟩ (.int .i64 s.bytes)).setCell ⟨w.heap.size,2,none⟩ (.bool s.outside)).setCell ⟨w.heap.size,3,none⟩ (.bool s.long)).drew.heap[w.heap.size]? =some (.cells #[.int .i64 s.depth, .int .i64 s.bytes, .bool s.outside, .bool s.long] 246 (0,0))from sh_at _ _ _ _ Z3.out)
   have hcf:Chg [] w ((((wr.setCell ⟨w.heap.size,0,none⟩ (.int .i64 s.depth)).setCell ⟨w.heap.size,1,none⟩ (.int .i64 s.bytes)).setCell ⟨w.heap.size,2,none⟩ (.bool s.outside)).setCell ⟨w.heap.size,3,none⟩ (.bool s.long)).drew:=(((((DZ.out).setCell _ _ (by simp)).setCell _ _ (by simp)).setCell _ _ (by simp)).setCell _ _ (by simp)).drew
   exact bodyPost_ret (v:= .tuple #[.int .i64 0, .agg (shC s), .bool false]) (by simp[results,Tryz.results97,go_sem,shC,r1]) rfl ⟨by rw[HF.out],hcf⟩
end
end Go.Proofs.YtmofknmeljdodaaGreatDoor
