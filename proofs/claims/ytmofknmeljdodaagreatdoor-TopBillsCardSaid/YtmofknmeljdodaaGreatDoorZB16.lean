/- Chapter 52: Record in one contract. No condition but those that the statements name. -/
import Derived.Test.YtmofknmeljdodaaGreatDoorZS01
import Derived.Test.YtmofknmeljdodaaGreatDoorZB15
import Derived.Test.YtmofknmeljdodaaGreatDoorZB14
set_option maxHeartbeats 100000000
set_option maxRecDepth 100000
set_option linter.unusedVariables false
set_option linter.unusedSimpArgs false
open List renaming getElem_toArray→gTA,getElem_cons_zero→gCZ,getElem_cons_succ→gCS,setIfInBounds_toArray→sTA,set_cons_zero→sCZ,set_cons_succ→sCS
namespace Go.Proofs.YtmofknmeljdodaaGreatDoor
section
open Go.RowKit
variable {w w':World} {b mb:Nat} {v:Value} {s:Led}
theorem rec_any (r:UR) (hg:r.good) (h:LIs w b mb v s) (hl:s.l.length≤4000):Calls Tryz.prog 23 #[.pointer (some ⟨b,0,none⟩),urV r] w (RecPost w b mb v (recE s r) (recS s r)):=by
 unfold recE recS checkR
 cases hn:(idB r.id&&nameB r.tn&&nameB r.fn)
 ·simp only[Bool.false_eq_true,if_false,if_neg (show ¬(4:Int)=0 by decide)]
  exact rec_name r hg h hn
 ·simp only[if_true]
  by_cases hp:r.per<0∨1073741824<r.per
  ·rw[if_pos hp,if_neg (by decide),if_neg (by decide)]
   exact rec_range r hg h hn (.inl hp)
  ·rw[if_neg hp]
   cases hu:usB r.us
   ·simp only[Bool.false_eq_true,if_false,if_neg (show ¬(2:Int)=0 by decide)]
    exact rec_range r hg h hn (.inr hu)
   ·simp only[if_true]
    cases hf:findC s.l r.id with
    |some c=>exact rec_known r hg h hn (by omega) (by omega) hu c hf hl
    |none=>
     by_cases hf':s.l.length=4000
     ·simp only[if_pos hf']
      exact rec_full r hg h hn (by omega) (by omega) hu hf hf'
     ·simp only[if_neg hf']
      exact rec_new r hg h hn (by omega) (by omega) hu hf (by omega)
end
section
open Go.RowKit
variable {w w':World} {b mb:Nat} {v:Value} {s:Led}
def askE (ns:List ByteArray) (p:Int):Int:=if ns.all nameB=true then(if p<0∨1073741824<p then 2 else 0)else 4
theorem take_step {α:Type} (l:List α) (k:Nat) (h:k<l.length) (f:α→Bool):(l.take (k+1)).all f=((l.take k).all f&&f l[k]):=by
 rw[List.take_succ_eq_append_getElem h,List.all_append];simp
theorem asked_any (ns:List ByteArray) (p:Int) (g c:Nat) (h:LIs w b mb v s) (hlt:g<w.heap.size) (hn:∀k (hk:k<ns.length),w.cell? ⟨g,k,none⟩=some (.string ns[k])) (hs:∀x∈ns,x.size≤maxLen) (hl:ns.length≤10):
 Calls Tryz.prog 121 #[.pointer (some ⟨b,0,none⟩), .int .i64 p, .slice (some ⟨g,0,none⟩) ns.length c] w fun e w'=>e= .returned (.int .i64 (askE ns p))∧Chg [] w w':=by
 have H:=LH h
 have HN:=LH hn
 have HS:=LH hs
 obtain⟨R,hR⟩:∃R,R=askE ns p:=⟨_,rfl⟩
 rw[←hR]
 have HR:=LH hR
 clear h hn hs hR
 go_enter Tryz.func121,Tryz.ntmps121
 go_wp2_with fail
 refine(made_any H.out).mono ?_;rintro e w1 ⟨rfl,rfl⟩
 go_wp2_with fail
 go_loopw [14] (fun i wr=>∃k:Nat,i= .int .i64 k∧k≤ns.length∧Hid ((ns.take k).all nameB=true)∧Hid (Chg [] w wr)) (fun i _=>ns.length-(intOf i).toNat)
 case atStart=>exact⟨0,rfl,Nat.zero_le _,LH (by simp),LH (Chg.refl _ _)⟩
 case round=>
  obtain⟨k,rfl,hkl,HA,D⟩:=hrel
  by_cases hk:k<ns.length
  ·have c0:wr.cell? ⟨g,k,none⟩=some (.string ns[k]):=(World.cell?_of_block (w:=w) (a:=⟨g,k,none⟩) (D.out.block g hlt (by simp))).trans (HN.out k hk)
   have hst:=take_step ns k hk nameB
   have hsz:=HS.out ns[k] (List.getElem_mem _)
   have hbad:nameB ns[k]=false→R=4:=fun hb=>by
    rw[HR.out];unfold askE
    rw[if_neg]
    intro h
    have:=List.all_eq_true.1 h ns[k] (List.getElem_mem _)
    rw[hb]at this;cases this
   generalize ns[k]=x at*
   have A:=fun w'=>name_any x w' hsz
   have hk0:(0:Int)≤(k:Int):=by omega
   have hk1:(k:Int)<(ns.length:Int):=by omega
   cases hb:nameB x
   ·rw[hb]at A
    have HA':=LH A
    have HB:=LH (hbad hb)
    clear A hbad hst hb
    go_wp2_with fail
    refine(HA'.out _).mono ?_;rintro e w2 ⟨rfl,hc2⟩
    have D2:=LH (D.out.thenSame hc2)
    clear hc2
    go_wp2_with fail
    go_ret
    exact⟨by rw[HB.out];rfl,D2.out⟩
   ·rw[hb]at A
    have HA':=LH A
    have HT:=LH (show(ns.take (k+1)).all nameB=true by rw[hst,HA.out,hb];rfl)
    clear A hbad hst hb
    go_wp2_with fail
    refine(HA'.out _).mono ?_;rintro e w2 ⟨rfl,hc2⟩
    have D2:=LH (D.out.thenSame hc2)
    clear hc2
    go_wp2_with fail
    exact⟨⟨k+1,by go_num,by omega,HT,D2⟩,by simp[intOf];omega⟩
  ·have hks:k=ns.length:=by omega
   subst hks
   have hall:=HA.out
   rw[List.take_length]at hall
   have hcs:(p<0∧Hid (R=2))∨(0≤p∧1073741824<p∧Hid (R=2))∨(0≤p∧p≤1073741824∧Hid (R=0)):=by
    by_cases q1:p<0
    ·exact .inl ⟨q1,LH (by rw[HR.out];unfold askE;rw[if_pos hall,if_pos (.inl q1)])⟩
    ·by_cases q2:1073741824<p
     ·exact .inr (.inl ⟨by omega,q2,LH (by rw[HR.out];unfold askE;rw[if_pos hall,if_pos (.inr q2)])⟩)
     ·exact .inr (.inr ⟨by omega,by omega,LH (by rw[HR.out];unfold askE;rw[if_pos hall,if_neg (by omega)])⟩)
   clear hall
   rcases hcs with ⟨q1,E⟩|⟨q1,q2,E⟩|⟨q1,q2,E⟩
   all_goals
    go_wp2_with fail
    go_ret
    exact⟨by rw[E.out];rfl,D.out⟩
end
section
open Go.RowKit
def totB (tn:ByteArray) (p:Int) (c:CR):Bool:=c.r.tn==tn&&c.p==p&& !c.r.fl
def ofB (tn fn:ByteArray) (p:Int) (fl:Bool) (c:CR):Bool:=c.r.tn==tn&&c.r.fn==fn&&c.p==p&&c.r.fl==fl
def crO (c:CR):Obj:= .cells #[.string c.r.id, .string c.r.tn, .string c.r.fn, .int .i64 c.r.per, .int .i64 c.r.us.inv, .int .i64 c.r.us.steps, .int .i64 c.r.us.ticks, .int .i64 c.r.us.units, .bool c.r.fl, .int .i64 c.p] 205
theorem totf_any (c:CR) (t1 t2:Nat) (tn:ByteArray) (p:Int) (w:World) (h1:w.cell? ⟨t1,0,none⟩=some (.string tn)) (h2:w.cell? ⟨t2,0,none⟩=some (.int .i64 p)) (l1:t1<w.heap.size) (l2:t2<w.heap.size):
 Calls Tryz.prog 123 #[crV c, .pointer (some ⟨t1,0,none⟩), .pointer (some ⟨t2,0,none⟩)] w fun e w'=>e= .returned (.bool (totB tn p c))∧Chg [] w w':=by
 obtain⟨B,hB⟩:∃B,B=totB tn p c:=⟨_,rfl⟩
 rw[←hB]
 unfold totB at hB
 rw[beq_toListBytes]at hB
 unfold crV
 cases q1:c.r.tn.toList==tn.toList<;>cases q2:c.p==p<;>cases q3:c.r.fl
 all_goals
  rw[q1,q2,q3]at hB
  subst hB
  go_enter Tryz.func123,Tryz.ntmps123
  go_wp2
  go_ret
  exact⟨by first|rfl|(simp;done)|(simp_all;done),(Chg.refl _ _).alloc _⟩
theorem off_any (c:CR) (t1 t2 t3 t4:Nat) (tn fn:ByteArray) (p:Int) (fl:Bool) (w:World) (h1:w.cell? ⟨t1,0,none⟩=some (.string tn)) (h2:w.cell? ⟨t2,0,none⟩=some (.string fn)) (h3:w.cell? ⟨t3,0,none⟩=some (.int .i64 p)) (h4:w.cell? ⟨t4,0,none⟩=some (.bool fl)) (l1:t1<w.heap.size) (l2:t2<w.heap.size) (l3:t3<w.heap.size) (l4:t4<w.heap.size):
 Calls Tryz.prog 127 #[crV c, .pointer (some ⟨t1,0,none⟩), .pointer (some ⟨t2,0,none⟩), .pointer (some ⟨t3,0,none⟩), .pointer (some ⟨t4,0,none⟩)] w fun e w'=>e= .returned (.bool (ofB tn fn p fl c))∧Chg [] w w':=by
 obtain⟨B,hB⟩:∃B,B=ofB tn fn p fl c:=⟨_,rfl⟩
 rw[←hB]
 unfold ofB at hB
 rw[beq_toListBytes c.r.tn,beq_toListBytes c.r.fn]at hB
 unfold crV
 cases q1:c.r.tn.toList==tn.toList<;>cases q2:c.r.fn.toList==fn.toList<;>cases q3:c.p==p<;>cases q4:c.r.fl==fl
 all_goals
  rw[q1,q2,q3,q4]at hB
  subst hB
  go_enter Tryz.func127,Tryz.ntmps127
  go_wp2
  go_ret
  exact⟨by first|rfl|(simp;done)|(simp_all;done),(Chg.refl _ _).alloc _⟩
end
section
open Go.RowKit
variable {w w':World} {b mb:Nat} {v:Value} {s:Led}
def sumU (f:CR→Bool):List CR→Us→Us×Int
 |[],u=>(u,0)
 |c::l,u=>if f c=true then(if(addU u c.r.us).2=0 then sumU f l (addU u c.r.us).1 else(zU,(addU u c.r.us).2))else sumU f l u
theorem drop_step (l:List CR) (k:Nat) (h:k<l.length):l.drop k=l[k]::l.drop (k+1):=List.drop_eq_getElem_cons h
theorem four_at {w:World} {q:Nat} {x0 x1 x2 x3:Value} (y0 y1 y2 y3:Value) (h:w.heap[q]? =some (.cells #[x0,x1,x2,x3] 96 (0,0))):
 ((((w.setCell ⟨q,0,none⟩ y0).setCell ⟨q,1,none⟩ y1).setCell ⟨q,2,none⟩ y2).setCell ⟨q,3,none⟩ y3).heap[q]? =some (.cells #[y0,y1,y2,y3] 96 (0,0)):=
 blk_set (blk_set (blk_set (blk_set h 0 y0) 1 y1) 2 y2) 3 y3
theorem four_chg (w:World) (q:Nat) (y0 y1 y2 y3:Value):Chg [q] w ((((w.setCell ⟨q,0,none⟩ y0).setCell ⟨q,1,none⟩ y1).setCell ⟨q,2,none⟩ y2).setCell ⟨q,3,none⟩ y3):=
 ((((Chg.refl _ _).setCell _ _ (by simp)).setCell _ _ (by simp)).setCell _ _ (by simp)).setCell _ _ (by simp)
theorem sum_tot (f:CR→Bool) (x1 x2:Value) (h:LIs w b mb v s) (hl:s.l.length≤4000)
 (hp:∀(c:CR) w',Chg [] w w'→Calls Tryz.prog 123 #[crV c,x1,x2] w' fun e w''=>e= .returned (.bool (f c))∧Chg [] w' w''):
 Calls Tryz.prog 122 #[.pointer (some ⟨b,0,none⟩), .func (.func 123) #[] #[x1,x2]] w fun e w'=>e= .returned (.tuple #[usV (sumU f s.l zU).1, .int .i64 (sumU f s.l zU).2])∧Chg [] w w':=by
 obtain⟨a,cap,rfl⟩:=RowOf.shape h.2.2
 have H:=LH h
 have HP:=LH hp
 have hL:=fun w' (hc:Chg [] w w')=>blk_cell (h.keptN hc).1
 have HL:=LH hL
 obtain⟨R,hR⟩:∃R,R=sumU f s.l zU:=⟨_,rfl⟩
 rw[←hR]
 obtain⟨r1,r2⟩:=R
 simp only[]
 have HR:=LH hR
 have hcell:∀wr,Chg [] w wr→∀k (hk:k<s.l.length),∃g,a=some ⟨g,0,none⟩∧g<w.heap.size∧∀j,j<10→wr.cell? ⟨g,k*10+j,none⟩=(crC s.l[k])[j]? :=by
  intro wr hc k hk
  rcases RowOf.at (h.keptN hc).2.2 crLen with ⟨_,hl⟩|⟨g,cap',hv,_,_,hcell,_,_,hgl⟩
  ·rw[hl]at hk;simp at hk
  ·cases hv
   exact⟨g,rfl,(h.2.2.block g rfl).2,fun j hj=>hcell k hk j hj⟩
 have HCell:=LH hcell
 have c0:=blk_cell h.1
 have hb0:=lt_of_heap h.1
 obtain⟨W2,hW2⟩:∃W2,W2=(w.alloc (usO zU)).alloc (usO zU):=⟨_,rfl⟩
 have hc2:Chg [] w W2:=by rw[hW2];exact((Chg.refl _ _).alloc _).alloc _
 have hx1:W2.heap[w.heap.size]? =some (usO zU):=by rw[hW2];exact((Chg.refl [] (w.alloc (usO zU))).alloc (usO zU)).at (by simp) (heap_alloc_new w (usO zU))
 have hx2:W2.heap[w.heap.size+1]? =some (usO zU):=by
  rw[hW2]
  have:=heap_alloc_new (w.alloc (usO zU)) (usO zU)
  rw[World.size_alloc]at this
  exact this
 have C2:=LH hc2
 have X1:=LH hx1
 have X2:=LH hx2
 unfold usO zU at hW2
 simp only at hW2
 have HW2:=LH hW2
 have c2:=HL.out _ hc2
 clear h hp hL hR hc2 hx1 hx2 hW2 hcell
 go_enter Tryz.func122,Tryz.ntmps122
 go_wp2_with fail
 clear c0 c2
 go_loopw [16] (fun i wr=>∃(k:Nat) (u:Us),i= .int .i64 k∧k≤s.l.length∧Hid (sumU f (s.l.drop k) u=(r1,r2))∧Hid (wr.heap[w.heap.size]? =some (usO zU))∧Hid (wr.heap[w.heap.size+1]? =some (usO u))∧Hid (Chg [] w wr)) (fun i _=>s.l.length-(intOf i).toNat)
 case atStart=>rw[←HW2.out];exact⟨0,zU,rfl,Nat.zero_le _,LH HR.out.symm,X1,X2,C2⟩
 case round=>
  obtain⟨k,u,rfl,hkl,HU,Y1,Y2,D⟩:=hrel
  by_cases hk:k<s.l.length
  ·obtain⟨g,rfl,hgl,hcells⟩:=HCell.out wr D.out k hk
   have d0:=hcells 0 (by omega)
   have d1:=hcells 1 (by omega)
   have d2:=hcells 2 (by omega)
   have d3:=hcells 3 (by omega)
   have d4:=hcells 4 (by omega)
   have d5:=hcells 5 (by omega)
   have d6:=hcells 6 (by omega)
   have d7:=hcells 7 (by omega)
   have d8:=hcells 8 (by omega)
   have d9:=hcells 9 (by omega)
   have hdr:=drop_step s.l k hk
   have hU:=HU.out
   rw[hdr]at hU
   generalize s.l[k]=c at*
   simp only[crC,List.getElem?_cons_zero,List.getElem?_cons_succ,Nat.add_zero]at d0 d1 d2 d3 d4 d5 d6 d7 d8 d9
   have hk0:(0:Int)≤(k:Int):=by omega
   have hk1:(k:Int)<(s.l.length:Int):=by omega
   have hP:=HP.out c
   unfold crV at hP
   have hPc:=LH hP
   clear hP hdr hcells
   go_wp2_with fail
   obtain⟨W3,hW3⟩:∃W3,W3=wr.alloc (crO c):=⟨_,rfl⟩
   have hc3:Chg [] wr W3:=by rw[hW3];exact(Chg.refl _ _).alloc _
   have C3:=LH (D.out.thenSame hc3)
   have Z1:=LH (hc3.at (by simp) Y1.out)
   have Z2:=LH (hc3.at (by simp) Y2.out)
   have Z3:=LH (show W3.heap[wr.heap.size]? =some (crO c) by rw[hW3];exact heap_alloc_new _ _)
   unfold crO at hW3
   rw[←hW3]
   have HD:=LH D.out.size
   clear hc3 hW3 d0 d1 d2 d3 d4 d5 d6 d7 d8 d9
   refine(hPc.out W3 C3.out).mono ?_;rintro e w4 ⟨rfl,hc4⟩
   have C4:=LH (C3.out.thenSame hc4)
   have V1:=LH (hc4.at (by simp) Z1.out)
   have V2:=LH (hc4.at (by simp) Z2.out)
   have V3:=LH (hc4.at (by simp) Z3.out)
   have e2:=blk_cell V2.out
   have e3:=blk_cell V3.out
   unfold sumU at hU
   clear Z1 Z2 Z3 C3 hPc hc4
   cases hfc:f c
   ·rw[hfc]at hU
    have hU':=LH hU
    clear hU hfc e2 e3
    go_wp2_with fail
    exact⟨⟨k+1,u,by go_num,by omega,hU',V1,V2,C4⟩,by simp[intOf];omega⟩
   ·rw[hfc,if_pos rfl]at hU
    have A:=madd_any u c.r.us
    unfold usV at A
    generalize addU u c.r.us=q at*
    obtain⟨q1,q2⟩:=q
    simp only at hU A
    have HA:=LH A
    have hU':=LH hU
    clear hU hfc A
    go_wp2_with fail
    refine(HA.out _).mono ?_;rintro e w5 ⟨rfl,hc5⟩
    have C5:=LH (C4.out.thenSame hc5)
    have U1:=LH (hc5.at (by simp) V1.out)
    have U2:=LH (hc5.at (by simp) V2.out)
    have g1:=blk_cell U1.out
    have g2:=blk_cell U2.out
    have f1:=blk_free U1.out
    have f2:=blk_free U2.out
    have lt1:=lt_of_heap U1.out
    have lt2:=lt_of_heap U2.out
    have hU5:=hU'.out
    clear hc5 e2 e3 V1 V2 V3 C4
    by_cases hq:q2=0
    ·subst hq
     rw[if_pos rfl]at hU5
     have hU6:=LH hU5
     clear hU5 hU'
     go_wp2_with fail
     refine⟨⟨k+1,q1,by go_num,by omega,hU6, ?_, ?_, ?_⟩,by simp[intOf];omega⟩
     ·exact LH (blk_alloc ((four_chg w5 (w.heap.size+1) _ _ _ _).at (by simp) U1.out))
     ·exact LH (blk_alloc (four_at _ _ _ _ U2.out))
     ·exact LH ((C5.out.then (four_chg w5 (w.heap.size+1) _ _ _ _) (by intro y hy hl;simp at hy;omega)).alloc _)
    ·rw[if_neg hq]at hU5
     obtain⟨rfl,rfl⟩:=Prod.mk.inj hU5
     have hq':(q2==0)=false:=by simpa using hq
     clear hU5 hU'
     go_wp2_with fail
     have r1:=fun o=>blk_cell (blk_alloc (o':=o) (four_at (.int .i64 0) (.int .i64 0) (.int .i64 0) (.int .i64 0) U1.out))
     exact bodyPost_ret (v:= .tuple #[usV zU, .int .i64 q2]) (by simp[results,Tryz.results122,go_sem,usV,zU,r1]) rfl ⟨rfl,by repeat (first|exact C5.out|refine Chg.setCell ?_ _ _ (by simp)|refine Chg.alloc ?_ _)⟩
  ·have hks:k=s.l.length:=by omega
   subst hks
   have hU:=HU.out
   rw[List.drop_length]at hU
   obtain⟨rfl,rfl⟩:=Prod.mk.inj hU
   have g1:=blk_cell Y1.out
   have g2:=blk_cell Y2.out
   have f1:=blk_free Y1.out
   have lt1:=lt_of_heap Y1.out
   clear hU
   go_wp2_with fail
   have r1:=blk_cell (four_at (.int .i64 u.inv) (.int .i64 u.steps) (.int .i64 u.ticks) (.int .i64 u.units) Y1.out)
   exact bodyPost_ret (v:= .tuple #[usV u, .int .i64 0]) (by simp[results,Tryz.results122,go_sem,usV,r1]) rfl ⟨rfl,by repeat (first|exact D.out|refine Chg.setCell ?_ _ _ (by simp)|refine Chg.alloc ?_ _)⟩
theorem sum_of (f:CR→Bool) (x1 x2 x3 x4:Value) (h:LIs w b mb v s) (hl:s.l.length≤4000)
 (hp:∀(c:CR) w',Chg [] w w'→Calls Tryz.prog 127 #[crV c,x1,x2,x3,x4] w' fun e w''=>e= .returned (.bool (f c))∧Chg [] w' w''):
 Calls Tryz.prog 122 #[.pointer (some ⟨b,0,none⟩), .func (.func 127) #[] #[x1,x2,x3,x4]] w fun e w'=>e= .returned (.tuple #[usV (sumU f s.l zU).1, .int .i64 (sumU f s.l zU).2])∧Chg [] w w':=by
 obtain⟨a,cap,rfl⟩:=RowOf.shape h.2.2
 have H:=LH h
 have HP:=LH hp
 have hL:=fun w' (hc:Chg [] w w')=>blk_cell (h.keptN hc).1
 have HL:=LH hL
 obtain⟨R,hR⟩:∃R,R=sumU f s.l zU:=⟨_,rfl⟩
 rw[←hR]
 obtain⟨r1,r2⟩:=R
 simp only[]
 have HR:=LH hR
 have hcell:∀wr,Chg [] w wr→∀k (hk:k<s.l.length),∃g,a=some ⟨g,0,none⟩∧g<w.heap.size∧∀j,j<10→wr.cell? ⟨g,k*10+j,none⟩=(crC s.l[k])[j]? :=by
  intro wr hc k hk
  rcases RowOf.at (h.keptN hc).2.2 crLen with ⟨_,hl⟩|⟨g,cap',hv,_,_,hcell,_,_,hgl⟩
  ·rw[hl]at hk;simp at hk
  ·cases hv
   exact⟨g,rfl,(h.2.2.block g rfl).2,fun j hj=>hcell k hk j hj⟩
 have HCell:=LH hcell
 have c0:=blk_cell h.1
 have hb0:=lt_of_heap h.1
 obtain⟨W2,hW2⟩:∃W2,W2=(w.alloc (usO zU)).alloc (usO zU):=⟨_,rfl⟩
 have hc2:Chg [] w W2:=by rw[hW2];exact((Chg.refl _ _).alloc _).alloc _
 have hx1:W2.heap[w.heap.size]? =some (usO zU):=by rw[hW2];exact((Chg.refl [] (w.alloc (usO zU))).alloc (usO zU)).at (by simp) (heap_alloc_new w (usO zU))
 have hx2:W2.heap[w.heap.size+1]? =some (usO zU):=by
  rw[hW2]
  have:=heap_alloc_new (w.alloc (usO zU)) (usO zU)
  rw[World.size_alloc]at this
  exact this
 have C2:=LH hc2
 have X1:=LH hx1
 have X2:=LH hx2
 unfold usO zU at hW2
 simp only at hW2
 have HW2:=LH hW2
 have c2:=HL.out _ hc2
 clear h hp hL hR hc2 hx1 hx2 hW2 hcell
 go_enter Tryz.func122,Tryz.ntmps122
 go_wp2_with fail
 clear c0 c2
 go_loopw [16] (fun i wr=>∃(k:Nat) (u:Us),i= .int .i64 k∧k≤s.l.length∧Hid (sumU f (s.l.drop k) u=(r1,r2))∧Hid (wr.heap[w.heap.size]? =some (usO zU))∧Hid (wr.heap[w.heap.size+1]? =some (usO u))∧Hid (Chg [] w wr)) (fun i _=>s.l.length-(intOf i).toNat)
 case atStart=>rw[←HW2.out];exact⟨0,zU,rfl,Nat.zero_le _,LH HR.out.symm,X1,X2,C2⟩
 case round=>
  obtain⟨k,u,rfl,hkl,HU,Y1,Y2,D⟩:=hrel
  by_cases hk:k<s.l.length
  ·obtain⟨g,rfl,hgl,hcells⟩:=HCell.out wr D.out k hk
   have d0:=hcells 0 (by omega)
   have d1:=hcells 1 (by omega)
   have d2:=hcells 2 (by omega)
   have d3:=hcells 3 (by omega)
   have d4:=hcells 4 (by omega)
   have d5:=hcells 5 (by omega)
   have d6:=hcells 6 (by omega)
   have d7:=hcells 7 (by omega)
   have d8:=hcells 8 (by omega)
   have d9:=hcells 9 (by omega)
   have hdr:=drop_step s.l k hk
   have hU:=HU.out
   rw[hdr]at hU
   generalize s.l[k]=c at*
   simp only[crC,List.getElem?_cons_zero,List.getElem?_cons_succ,Nat.add_zero]at d0 d1 d2 d3 d4 d5 d6 d7 d8 d9
   have hk0:(0:Int)≤(k:Int):=by omega
   have hk1:(k:Int)<(s.l.length:Int):=by omega
   have hP:=HP.out c
   unfold crV at hP
   have hPc:=LH hP
   clear hP hdr hcells
   go_wp2_with fail
   obtain⟨W3,hW3⟩:∃W3,W3=wr.alloc (crO c):=⟨_,rfl⟩
   have hc3:Chg [] wr W3:=by rw[hW3];exact(Chg.refl _ _).alloc _
   have C3:=LH (D.out.thenSame hc3)
   have Z1:=LH (hc3.at (by simp) Y1.out)
   have Z2:=LH (hc3.at (by simp) Y2.out)
   have Z3:=LH (show W3.heap[wr.heap.size]? =some (crO c) by rw[hW3];exact heap_alloc_new _ _)
   unfold crO at hW3
   rw[←hW3]
   have HD:=LH D.out.size
   clear hc3 hW3 d0 d1 d2 d3 d4 d5 d6 d7 d8 d9
   refine(hPc.out W3 C3.out).mono ?_;rintro e w4 ⟨rfl,hc4⟩
   have C4:=LH (C3.out.thenSame hc4)
   have V1:=LH (hc4.at (by simp) Z1.out)
   have V2:=LH (hc4.at (by simp) Z2.out)
   have V3:=LH (hc4.at (by simp) Z3.out)
   have e2:=blk_cell V2.out
   have e3:=blk_cell V3.out
   unfold sumU at hU
   clear Z1 Z2 Z3 C3 hPc hc4
   cases hfc:f c
   ·rw[hfc]at hU
    have hU':=LH hU
    clear hU hfc e2 e3
    go_wp2_with fail
    exact⟨⟨k+1,u,by go_num,by omega,hU',V1,V2,C4⟩,by simp[intOf];omega⟩
   ·rw[hfc,if_pos rfl]at hU
    have A:=madd_any u c.r.us
    unfold usV at A
    generalize addU u c.r.us=q at*
    obtain⟨q1,q2⟩:=q
    simp only at hU A
    have HA:=LH A
    have hU':=LH hU
    clear hU hfc A
    go_wp2_with fail
    refine(HA.out _).mono ?_;rintro e w5 ⟨rfl,hc5⟩
    have C5:=LH (C4.out.thenSame hc5)
    have U1:=LH (hc5.at (by simp) V1.out)
    have U2:=LH (hc5.at (by simp) V2.out)
    have g1:=blk_cell U1.out
    have g2:=blk_cell U2.out
    have f1:=blk_free U1.out
    have f2:=blk_free U2.out
    have lt1:=lt_of_heap U1.out
    have lt2:=lt_of_heap U2.out
    have hU5:=hU'.out
    clear hc5 e2 e3 V1 V2 V3 C4
    by_cases hq:q2=0
    ·subst hq
     rw[if_pos rfl]at hU5
     have hU6:=LH hU5
     clear hU5 hU'
     go_wp2_with fail
     refine⟨⟨k+1,q1,by go_num,by omega,hU6, ?_, ?_, ?_⟩,by simp[intOf];omega⟩
     ·exact LH (blk_alloc ((four_chg w5 (w.heap.size+1) _ _ _ _).at (by simp) U1.out))
     ·exact LH (blk_alloc (four_at _ _ _ _ U2.out))
     ·exact LH ((C5.out.then (four_chg w5 (w.heap.size+1) _ _ _ _) (by intro y hy hl;simp at hy;omega)).alloc _)
    ·rw[if_neg hq]at hU5
     obtain⟨rfl,rfl⟩:=Prod.mk.inj hU5
     have hq':(q2==0)=false:=by simpa using hq
     clear hU5 hU'
     go_wp2_with fail
     have r1:=fun o=>blk_cell (blk_alloc (o':=o) (four_at (.int .i64 0) (.int .i64 0) (.int .i64 0) (.int .i64 0) U1.out))
     exact bodyPost_ret (v:= .tuple #[usV zU, .int .i64 q2]) (by simp[results,Tryz.results122,go_sem,usV,zU,r1]) rfl ⟨rfl,by repeat (first|exact C5.out|refine Chg.setCell ?_ _ _ (by simp)|refine Chg.alloc ?_ _)⟩
  ·have hks:k=s.l.length:=by omega
   subst hks
   have hU:=HU.out
   rw[List.drop_length]at hU
   obtain⟨rfl,rfl⟩:=Prod.mk.inj hU
   have g1:=blk_cell Y1.out
   have g2:=blk_cell Y2.out
   have f1:=blk_free Y1.out
   have lt1:=lt_of_heap Y1.out
   clear hU
   go_wp2_with fail
   have r1:=blk_cell (four_at (.int .i64 u.inv) (.int .i64 u.steps) (.int .i64 u.ticks) (.int .i64 u.units) Y1.out)
   exact bodyPost_ret (v:= .tuple #[usV u, .int .i64 0]) (by simp[results,Tryz.results122,go_sem,usV,r1]) rfl ⟨rfl,by repeat (first|exact D.out|refine Chg.setCell ?_ _ _ (by simp)|refine Chg.alloc ?_ _)⟩
end
end Go.Proofs.YtmofknmeljdodaaGreatDoor
