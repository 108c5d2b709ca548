/- Layer 8: the parser's state: its tokens, its place, the nodes and functions so far, all in the call's own memory. No condition but those that the statements name. -/
import Derived.Tactics2
import Derived.Defers
import Derived.Recover
import Derived.Test.YtmofknmeljdodaaGreatDoorZS07
import Derived.Test.YtmofknmeljdodaaGreatDoorZS05
import Derived.Test.YtmofknmeljdodaaGreatDoorZS11
import Derived.Test.YtmofknmeljdodaaGreatDoorZS01
set_option maxHeartbeats 100000000
set_option maxRecDepth 100000
set_option linter.unusedVariables false
set_option linter.unusedSimpArgs false
open List renaming getElem_toArray→gTA,getElem_cons_zero→gCZ,getElem_cons_succ→gCS,setIfInBounds_toArray→sTA,set_cons_zero→sCZ,set_cons_succ→sCS
namespace Go.Proofs.YtmofknmeljdodaaGreatDoor
section
open Go.RowKit
theorem row_blk {α:Type} {cf:α→List Value} {sz:Nat} {w:World} {base g:Nat} {e:TypeId} {cur:Array Value} (l:List α) (hb:base≤g) (h:w.heap[g]? =some (.cells cur e (0,0))) (hc:∀x,(cf x).length=sz) (hl:cur.toList=l.flatMap cf) (hm:l.length≤maxLen):RowOf cf sz w base e (.slice (some ⟨g,0,none⟩) l.length l.length) l:=by
 have hf:=flatMap_len hc l
 refine⟨hf, .inr ⟨g,l.length,cur,rfl,hb,h,Nat.le_refl _,hm, ?_, ?_⟩⟩
 ·rw[←Array.length_toList,hl,hf]
 ·rw[hl,←hf,List.take_length]
theorem sindex_w {a:Option Addr} {c:Nat} {l:List ByteArray} (s:ByteArray) {w:World} (h:InIs skC 1 w a c l):
 Calls Tryz.prog 285 #[.slice a l.length c, .string s] w fun e w'=>e= .returned (.int .i64 (idxFromD (fun x=>s==x) l 0))∧w=w':=by
 obtain⟨R,hR⟩:∃R,R=idxFromD (fun x=>s==x) l 0:=⟨_,rfl⟩
 rw[←hR]
 have HR:=LH hR
 have H:=LH h
 have hm:(l.length:Int)≤9223372036854775807:=by have h1:=h.2.1;have h2:=h.2.2.1;unfold maxLen at h2;omega
 clear h hR
 go_enter Tryz.func285,Tryz.ntmps285
 go_wp2_with fail
 go_loopw [8] (fun i wr=>∃k:Nat,i= .int .i64 k∧k≤l.length∧Hid (R=idxFromD (fun x=>s==x) (l.drop k) (k:Int))∧wr=w) (fun i _=>l.length-(intOf i).toNat)
 case atStart=>exact⟨0,rfl,Nat.zero_le _,LH HR.out,rfl⟩
 case round=>
  obtain⟨k,rfl,hkl,HS,rfl⟩:=hrel
  by_cases hk:k<l.length
  ·obtain⟨b,off,rfl, -, -,hcc⟩:=H.out.1.elem (Chg.refl _ _) k hk
   have u1:=hcc 0 (by omega)
   simp only[skC,List.getElem?_cons_zero,Nat.add_zero,Nat.mul_one]at u1
   have HS2:=HS.out
   rw[List.drop_eq_getElem_cons hk,idxFromD]at HS2
   generalize l[k]=x at*
   have hk0:(0:Int)≤(k:Int):=by omega
   have hk1:(k:Int)<(l.length:Int):=by omega
   have qs:(s==x)=(s.toList==x.toList):=beq_toListBytes s x
   rw[qs]at HS2
   clear hcc qs
   cases hq:(s.toList==x.toList)
   ·rw[hq,if_neg (by simp)]at HS2
    have HS3:=LH HS2
    clear HS2
    go_wp2_with fail
    exact⟨⟨k+1,by go_num,by omega,LH (by rw[HS3.out];rfl),by first|rfl|trivial⟩,by simp[intOf];omega⟩
   ·rw[hq,if_pos rfl]at HS2
    have HE:=LH HS2
    clear HS2
    go_wp2_with fail
    go_ret
    exact⟨retI HE.out.symm,rfl⟩
  ·have hks:k=l.length:=by omega
   have HS2:=HS.out
   rw[hks,List.drop_length,idxFromD]at HS2
   have HE:=LH HS2
   clear hks HS2
   go_wp2_with fail
   go_ret
   exact⟨retI HE.out.symm,rfl⟩
theorem scont_w {a:Option Addr} {c:Nat} {l:List ByteArray} (s:ByteArray) {w:World} (h:InIs skC 1 w a c l):
 Calls Tryz.prog 228 #[.slice a l.length c, .string s] w fun e w'=>e= .returned (.bool (l.any (fun x=>s==x)))∧w=w':=by
 have A:=LH (sindex_w s h)
 have hn:=idxFrom_any (p:=fun x=>s==x) (l:=l) (Int.le_refl 0)
 generalize l.any (fun x=>s==x)=q at*
 generalize idxFromD (fun x=>s==x) l 0=n at*
 have HN:=LH hn
 clear hn
 go_enter Tryz.func228,Tryz.ntmps228
 go_wp2_with (go_at_call 285;(with_reducible refine Calls.mono A.out ?_);rintro e w2 ⟨rfl,rfl⟩)
 go_ret
 exact⟨by rw[←HN.out];rfl,rfl⟩
def nvOf (x:Pr):Value:= .slice x.na x.nodes.length x.nc
def fvOf (x:Pr):Value:= .slice x.fa x.funcs.length x.fc
def SlG {α:Type} (cf:α→List Value) (e:TypeId) (g:List Nat) (w:World) (a:Option Addr) (c:Nat) (l:List α):Prop:=RowOf cf 1 w 0 e (.slice a l.length c) l∧∀y,(Value.slice a l.length c).ownBlock=some y→y∈g
def NdG (g:List Nat) (w:World) (d:Nd):Prop:=SlG skC 9 g w d.ka d.kc d.keys∧SlG icI 3 g w d.da d.dc d.kids
def FnG (g:List Nat) (w:World) (d:Fn'):Prop:=SlG skC 9 g w d.pa d.pc d.params
def ownP (b:Nat) (tv:Value) (x:Pr):List Nat:=b::(tv.ownBlock.toList++((nvOf x).ownBlock.toList++(fvOf x).ownBlock.toList))
structure PaAt (b:Nat) (T:List Tk) (tv:Value) (en:Int) (at':Nat) (x:Pr) (g:List Nat) (w:World):Prop where
 blk:w.heap[b]? =some (.cells #[tv, .int .i64 at', .int .i64 en,nvOf x,fvOf x] 121 (0,0))
 tk:RowOf tkC 4 w 0 224 tv T
 nd:RowOf ndC 5 w 0 297 (nvOf x) x.nodes
 fn:RowOf fnC 3 w 0 130 (fvOf x) x.funcs
 nds:∀d∈x.nodes,NdG g w d
 fns:∀d∈x.funcs,FnG g w d
 nodup:(ownP b tv x).Nodup
 apart:∀y∈g,y∉ownP b tv x
 glt:∀y∈g,y<w.heap.size
section
variable {α:Type} {cf:α→List Value} {e:TypeId} {g g':List Nat} {w w':World} {a:Option Addr} {c:Nat} {l:List α} {S:List Nat}
theorem SlG.kept (h:SlG cf e g w a c l) (hc:Chg S w w') (hS:∀y∈g,y∉S):SlG cf e g w' a c l:=⟨h.1.kept hc (fun y hy=>hS y (h.2 y hy)),h.2⟩
theorem SlG.mono (h:SlG cf e g w a c l) (hg:∀y∈g,y∈g'):SlG cf e g' w a c l:=⟨h.1,fun y hy=>hg y (h.2 y hy)⟩
theorem NdG.kept {d:Nd} (h:NdG g w d) (hc:Chg S w w') (hS:∀y∈g,y∉S):NdG g w' d:=⟨SlG.kept h.1 hc hS,SlG.kept h.2 hc hS⟩
theorem NdG.mono {d:Nd} (h:NdG g w d) (hg:∀y∈g,y∈g'):NdG g' w d:=⟨SlG.mono h.1 hg,SlG.mono h.2 hg⟩
theorem FnG.kept {d:Fn'} (h:FnG g w d) (hc:Chg S w w') (hS:∀y∈g,y∉S):FnG g w' d:=SlG.kept h hc hS
theorem FnG.mono {d:Fn'} (h:FnG g w d) (hg:∀y∈g,y∈g'):FnG g' w d:=SlG.mono h hg
end
variable {b:Nat} {T:List Tk} {tv:Value} {en:Int} {at':Nat} {x:Pr} {g f S:List Nat} {w w':World} {P:PPr}
theorem ownP_lt (h:PaAt b T tv en at' x g w):∀y∈ownP b tv x,y<w.heap.size:=by
 intro y hy
 simp only[ownP,List.mem_cons,List.mem_append,Option.mem_toList]at hy
 rcases hy with rfl|hy|hy|hy
 ·exact lt_of_heap h.blk
 ·exact(h.tk.block y hy).2
 ·exact(h.nd.block y hy).2
 ·exact(h.fn.block y hy).2
theorem PaAt.kept (h:PaAt b T tv en at' x g w) (hc:Chg S w w') (h1:∀y∈ownP b tv x,y∉S) (h2:∀y∈g,y∉S):PaAt b T tv en at' x g w':=by
 refine⟨hc.at (h1 b (by simp[ownP])) h.blk,h.tk.kept hc (fun y hy=>h1 y (by simp[ownP,hy])),h.nd.kept hc (fun y hy=>h1 y (by simp[ownP,hy])),h.fn.kept hc (fun y hy=>h1 y (by simp[ownP,hy])),fun d hd=>(h.nds d hd).kept hc h2,fun d hd=>(h.fns d hd).kept hc h2,h.nodup,h.apart,fun y hy=>hc.lt (h.glt y hy)⟩
def PaJ (b:Nat) (T:List Tk) (tv:Value) (en:Int) (at':Nat) (P:PPr) (f:List Nat) (w:World):Prop:=
 ∃(x:Pr) (g:List Nat),x.p=P∧PaAt b T tv en at' x g w∧f=ownP b tv x++g
theorem PaJ.lt (h:PaJ b T tv en at' P f w):∀y∈f,y<w.heap.size:=by
 obtain⟨x,g, -,h1,rfl⟩:=h
 intro y hy
 rcases List.mem_append.1 hy with hy|hy
 ·exact ownP_lt h1 y hy
 ·exact h1.glt y hy
theorem PaJ.kept (h:PaJ b T tv en at' P f w) (hc:Chg S w w') (hS:∀y∈f,y∉S):PaJ b T tv en at' P f w':=by
 obtain⟨x,g,h0,h1,rfl⟩:=h
 exact⟨x,g,h0,h1.kept hc (fun y hy=>hS y (List.mem_append_left _ hy)) (fun y hy=>hS y (List.mem_append_right _ hy)),rfl⟩
theorem PaJ.keptN (h:PaJ b T tv en at' P f w) (hc:Chg [] w w'):PaJ b T tv en at' P f w':=h.kept hc (by simp)
end
section
open Go.RowKit
variable {b:Nat} {T:List Tk} {tv:Value} {en:Int} {at':Nat} {x:Pr} {g f S:List Nat} {w w':World} {P:PPr}
def nextB (T:List Tk) (i:Nat) (k:Int) (L:List ByteArray):Bool:=match T[i]? with
 |none=>false
 |some t=>(t.kind==k)&&(L.isEmpty||L.any (fun y=>t.text==y))
def tk0:Tk:=⟨0,⟨#[]⟩,0,0⟩
def tkAt (T:List Tk) (i:Nat):Tk:=(T[i]?).getD tk0
theorem next_any (h:PaAt b T tv en at' x g w) {la:Option Addr} {lc:Nat} {L:List ByteArray} (hL:InIs skC 1 w la lc L) (k:Int):Calls Tryz.prog 214 #[.pointer (some ⟨b,0,none⟩), .int .i64 k, .slice la L.length lc] w fun e w'=>e= .returned (.bool (nextB T at' k L))∧Chg [] w w':=by
 obtain⟨R,hR⟩:∃R,R=nextB T at' k L:=⟨_,rfl⟩
 rw[←hR]
 unfold nextB at hR
 obtain⟨ta,tc,rfl⟩:=RowOf.shape h.tk
 have HT:=LH (RowOf.sl h.tk tkC_len).1
 have hmT:=(RowOf.sl h.tk tkC_len).2.2
 have k1:=blk_cell h.blk
 have lt1:=lt_of_heap h.blk
 have hT9:(T.length:Int)≤9223372036854775807:=by unfold maxLen at hmT;omega
 have hL9:(L.length:Int)≤9223372036854775807:=by have h1:=hL.2.1;have h2:=hL.2.2.1;unfold maxLen at h2;omega
 have AS:=LH (fun(s:ByteArray) n=>scont_w s (hL.kept ((Chg.refl [] w).drewN n)))
 clear h hL hmT
 by_cases hk:at'<T.length
 ·obtain⟨tb,o,rfl, -,g1,cc⟩:=HT.out.elem (Chg.refl _ _) at' hk
  have c0:=cc 0 (by omega)
  have c1:=cc 1 (by omega)
  rw[List.getElem?_eq_getElem hk]at hR
  generalize T[at']=t at*
  obtain⟨tk,tt,tn,tp⟩:=t
  simp only[tkC,List.getElem?_cons_zero,List.getElem?_cons_succ,Nat.add_zero]at c0 c1 hR
  have hk1:(at':Int)<(T.length:Int):=by omega
  have hk0:(0:Int)≤(at':Int):=by omega
  clear cc hk
  cases h1:(tk==k)
  ·rw[h1,Bool.false_and]at hR
   subst hR
   go_enter Tryz.func214,Tryz.ntmps214
   go_wp2_with fail
   go_quiet (fail)
   go_wp2_with fail
   go_ret
   exact⟨rfl,(Chg.refl _ _).drewN _⟩
  ·rw[h1,Bool.true_and]at hR
   cases L with
   |nil=>
    simp only[List.isEmpty_nil,Bool.true_or]at hR
    subst hR
    go_enter Tryz.func214,Tryz.ntmps214
    go_wp2_with fail
    go_quiet (fail)
    go_wp2_with fail
    go_ret
    exact⟨rfl,(Chg.refl _ _).drewN _⟩
   |cons y L=>
    simp only[List.isEmpty_cons,Bool.false_or]at hR
    have AS:=LH (fun n=>AS.out tt n)
    rw[←hR]at AS
    have hl1:(((y::L).length:Int)==0)=false:=beq_eq_false_iff_ne.2 (by simp only[List.length_cons];omega)
    generalize (y::L).length=n at*
    clear hR
    go_enter Tryz.func214,Tryz.ntmps214
    go_wp2_with fail
    go_quiet (exact Calls.quiet_of_same ((AS.out _).mono (fun e w' h=>⟨h.1,h.2.symm⟩)))
    go_wp2_with fail
    go_ret
    exact⟨rfl,(Chg.refl _ _).drewN _⟩
 ·rw[List.getElem?_eq_none (by omega)]at hR
  subst hR
  have hk1:decide ((at':Int)<(T.length:Int))=false:=decide_eq_false (by omega)
  have hk2:T.length≤at':=by omega
  go_enter Tryz.func214,Tryz.ntmps214
  go_wp2_with fail
  go_quiet (fail)
  go_wp2_with fail
  go_ret
  exact⟨rfl,(Chg.refl _ _).drewN _⟩
theorem nodup_b (h:PaAt b T tv en at' x g w):(∀y,tv.ownBlock=some y→y≠b)∧(∀y,(nvOf x).ownBlock=some y→y≠b)∧(∀y,(fvOf x).ownBlock=some y→y≠b):=by
 have:=h.nodup
 simp only[ownP,List.nodup_cons,List.mem_append,Option.mem_toList]at this
 refine⟨fun y hy e=>this.1 (.inl (e▸hy)),fun y hy e=>this.1 (.inr (.inl (e▸hy))),fun y hy e=>this.1 (.inr (.inr (e▸hy)))⟩
theorem PaAt.gb (h:PaAt b T tv en at' x g w):∀y∈g,y∉[b]:=fun y hy e=>h.apart y hy (by simp at e;simp[ownP,e])
theorem PaAt.setAt (h:PaAt b T tv en at' x g w) (n:Nat):PaAt b T tv en n x g (w.setCell ⟨b,1,none⟩ (.int .i64 n)):=by
 have hc:Chg [b] w (w.setCell ⟨b,1,none⟩ (.int .i64 n)):=(Chg.refl _ _).setCell _ _ (fun _=>by simp)
 obtain⟨q1,q2,q3⟩:=nodup_b h
 exact⟨blk_set h.blk 1 _,h.tk.kept hc (fun y hy=>by simpa using q1 y hy),h.nd.kept hc (fun y hy=>by simpa using q2 y hy),h.fn.kept hc (fun y hy=>by simpa using q3 y hy),fun d hd=>(h.nds d hd).kept hc h.gb,fun d hd=>(h.fns d hd).kept hc h.gb,h.nodup,h.apart,fun y hy=>hc.lt (h.glt y hy)⟩
theorem PaAt.keptN (h:PaAt b T tv en at' x g w) (hc:Chg [] w w'):PaAt b T tv en at' x g w':=h.kept hc (by simp) (by simp)
theorem take_no (h:PaAt b T tv en at' x g w) {la:Option Addr} {lc:Nat} {L:List ByteArray} (hL:InIs skC 1 w la lc L) {k:Int} (hn:nextB T at' k L=false):Calls Tryz.prog 143 #[.pointer (some ⟨b,0,none⟩), .int .i64 k, .slice la L.length lc] w fun e w'=>e= .returned (.tuple #[tkV 0 ⟨#[]⟩ 0 0, .bool false])∧Chg [] w w':=by
 have N:=LH (fun w' (hc:Chg [] w w')=>next_any (h.keptN hc) (hL.kept hc) k)
 rw[hn]at N
 have A1:=LH ((Chg.refl [] w).alloc (.cells #[.int .i64 0, .string ⟨#[]⟩, .int .i64 0, .int .i64 0] 224))
 have X1:=LH (heap_alloc_new w (.cells #[.int .i64 0, .string ⟨#[]⟩, .int .i64 0, .int .i64 0] 224))
 clear h hL hn
 go_enter Tryz.func143,Tryz.ntmps143
 go_wp2_with (go_at_call 214;(with_reducible refine Calls.mono (N.out _ A1.out) ?_);rintro e w2 ⟨rfl,hc2⟩;have C2:=LH (A1.out.thenSame hc2);have X2:=LH (hc2.at (by simp) X1.out);have k2:=blk_cell X2.out;have f2:=blk_free X2.out;have l2:=lt_of_heap X2.out;clear hc2)
 have r1:=blk_cell (st4_at (.int .i64 0) (.string ⟨#[]⟩) (.int .i64 0) (.int .i64 0) X2.out)
 refine bodyPost_ret (v:= .tuple #[tkV 0 ⟨#[]⟩ 0 0, .bool false]) (by simp[results,Tryz.results143,go_sem,tkV,r1]) rfl ?_
 exact⟨rfl,st4_chg _ _ _ _ (Nat.le_refl _) C2.out⟩
theorem take_yes (h:PaAt b T tv en at' x g w) {la:Option Addr} {lc:Nat} {L:List ByteArray} (hL:InIs skC 1 w la lc L) {k:Int} (hn:nextB T at' k L=true):Calls Tryz.prog 143 #[.pointer (some ⟨b,0,none⟩), .int .i64 k, .slice la L.length lc] w fun e w'=>e= .returned (.tuple #[tkV (tkAt T at').kind (tkAt T at').text (tkAt T at').n (tkAt T at').at', .bool true])∧PaAt b T tv en (at'+1) x g w'∧Chg [b] w w':=by
 have N:=LH (fun w' (hc:Chg [] w w')=>next_any (h.keptN hc) (hL.kept hc) k)
 rw[hn]at N
 have A1:=LH ((Chg.refl [] w).alloc (.cells #[.int .i64 0, .string ⟨#[]⟩, .int .i64 0, .int .i64 0] 224))
 have X1:=LH (heap_alloc_new w (.cells #[.int .i64 0, .string ⟨#[]⟩, .int .i64 0, .int .i64 0] 224))
 have hk:at'<T.length:=by
  unfold nextB at hn
  rcases Nat.lt_or_ge at' T.length with q|q
  ·exact q
  ·rw[List.getElem?_eq_none q]at hn;cases hn
 have H:=LH h
 obtain⟨ta,tc,htv⟩:=RowOf.shape h.tk
 have hmT:=(RowOf.sl (htv▸h.tk) tkC_len).2.2
 have hT9:(at':Int)+1≤9223372036854775807:=by unfold maxLen at hmT;omega
 have HT:=LH (RowOf.sl (htv▸h.tk) tkC_len).1
 have htk:tkAt T at'=T[at']:=by unfold tkAt;rw[List.getElem?_eq_getElem hk];rfl
 rw[htk]
 have lb:=lt_of_heap h.blk
 clear h hL hn hmT htk
 go_enter Tryz.func143,Tryz.ntmps143
 go_wp2_with (go_at_call 214;(with_reducible refine Calls.mono (N.out _ A1.out) ?_);rintro e w2 ⟨rfl,hc2⟩;have C2:=LH (A1.out.thenSame hc2);have X2:=LH (hc2.at (by simp) X1.out);have P2:=LH (H.out.keptN C2.out);have kb:=blk_cell P2.out.blk;have fb:=blk_free P2.out.blk;have lb2:=lt_of_heap P2.out.blk;clear hc2)
 obtain⟨W3,hW3⟩:∃W3,W3=w2.setCell ⟨b,1,none⟩ (.int .i64 ((at':Int)+1)):=⟨_,rfl⟩
 rw[←hW3]
 have P3:=LH (show PaAt b T tv en (at'+1) x g W3 from hW3▸P2.out.setAt (at'+1))
 have hc3:Chg [b] w2 W3:=hW3▸(Chg.refl _ _).setCell _ _ (fun _=>by simp)
 have C3:=LH (show Chg [b] w W3 from(C2.out.mono (by simp)).thenSame hc3)
 have X3:=LH (hc3.at (by simp;omega) X2.out)
 have k3:=blk_cell P3.out.blk
 have m3:=blk_cell X3.out
 have f3:=blk_free X3.out
 have l3:=lt_of_heap X3.out
 have T3:=LH (RowOf.sl (htv▸P3.out.tk) tkC_len).1
 obtain⟨tb,o,hta, -,g1,cc⟩:=T3.out.elem (Chg.refl _ _) at' hk
 rw[htv,hta]at k3
 have c0:=cc 0 (by omega)
 have c1:=cc 1 (by omega)
 have c2:=cc 2 (by omega)
 have c3:=cc 3 (by omega)
 obtain⟨t,ht⟩:∃t,t=T[at']:=⟨_,rfl⟩
 rw[←ht]at c0 c1 c2 c3
 have HTT:=LH ht
 clear ht
 obtain⟨tk,tt,tn,tp⟩:=t
 simp only[tkC,List.getElem?_cons_zero,List.getElem?_cons_succ,Nat.add_zero]at c0 c1 c2 c3
 have hsub:IntKind.i64.wrap (at':Int)=(at':Int):=by rw[IntKind.wrap_i64];omega
 have hk1:(at':Int)<(T.length:Int):=by omega
 have hk0:(0:Int)≤(at':Int):=by omega
 have hwl:=C3.out.size
 clear cc hW3 hc3 kb fb lb2
 go_still_tail 11,(by kernel_rfl)
 change wpList _ _ _ _ _ W3.drew
 go_wp2_with fail
 have X4:((((W3.setCell ⟨w.heap.size,0,none⟩ (.int .i64 tk)).setCell ⟨w.heap.size,1,none⟩ (.string tt)).setCell ⟨w.heap.size,2,none⟩ (.int .i64 tn)).setCell ⟨w.heap.size,3,none⟩ (.int .i64 tp)).drew.heap[w.heap.size]? =some (.cells #[.int .i64 tk, .string tt, .int .i64 tn, .int .i64 tp] 224 (0,0)):=st4_at _ _ _ _ X3.out
 have C4:Chg [w.heap.size] W3 ((((W3.setCell ⟨w.heap.size,0,none⟩ (.int .i64 tk)).setCell ⟨w.heap.size,1,none⟩ (.string tt)).setCell ⟨w.heap.size,2,none⟩ (.int .i64 tn)).setCell ⟨w.heap.size,3,none⟩ (.int .i64 tp)).drew:=(((((Chg.refl _ _).setCell _ _ (by simp)).setCell _ _ (by simp)).setCell _ _ (by simp)).setCell _ _ (by simp)).drew
 have r1:=blk_cell X4
 refine bodyPost_ret (v:= .tuple #[tkV tk tt tn tp, .bool true]) (by simp[results,Tryz.results143,go_sem,tkV,r1]) rfl ?_
 rw[←HTT.out]
 exact⟨rfl,P3.out.kept C4 (fun y hy=>by have:=ownP_lt H.out y hy;simp;omega) (fun y hy=>by have:=H.out.glt y hy;simp;omega),C3.out.then C4 (by simp)⟩
end
section
open Go.RowKit
variable {b:Nat} {T:List Tk} {tv:Value} {en:Int} {at':Nat} {x:Pr} {g g2 f S:List Nat} {w w':World} {P:PPr}
theorem must_yes (h:PaAt b T tv en at' x g w) {la:Option Addr} {lc:Nat} {L:List ByteArray} (hL:InIs skC 1 w la lc L) {k:Int} (hn:nextB T at' k L=true):Calls Tryz.prog 82 #[.pointer (some ⟨b,0,none⟩), .int .i64 k, .slice la L.length lc] w fun e w'=>e= .returned (tkV (tkAt T at').kind (tkAt T at').text (tkAt T at').n (tkAt T at').at')∧PaAt b T tv en (at'+1) x g w'∧Chg [b] w w':=by
 have K:=LH (fun w' (hc:Chg [] w w')=>take_yes (h.keptN hc) (hL.kept hc) hn)
 have A1:=LH ((Chg.refl [] w).alloc (.cells #[.int .i64 0, .string ⟨#[]⟩, .int .i64 0, .int .i64 0] 224))
 have X1:=LH (heap_alloc_new w (.cells #[.int .i64 0, .string ⟨#[]⟩, .int .i64 0, .int .i64 0] 224))
 have lb:=lt_of_heap h.blk
 have H:=LH h
 generalize tkAt T at'=t at*
 obtain⟨tk,tt,tn,tp⟩:=t
 unfold tkV at K⊢
 simp only at K⊢
 clear h hL hn
 go_enter Tryz.func82,Tryz.ntmps82
 go_wp2_with (go_at_call 143;(with_reducible refine Calls.mono (K.out _ A1.out) ?_);rintro e w2 ⟨rfl,hp2,hc2⟩;have C2:=LH ((A1.out.mono (by simp)).thenSame hc2);have X2:=LH (hc2.at (by simp;omega) X1.out);have P2:=LH hp2;have k2:=blk_cell X2.out;have f2:=blk_free X2.out;have l2:=lt_of_heap X2.out;clear hp2 hc2)
 have C4:=LH (show Chg [w.heap.size] w2 (((((w2.setCell ⟨w.heap.size,0,none⟩ (.int .i64 tk)).setCell ⟨w.heap.size,1,none⟩ (.string tt)).setCell ⟨w.heap.size,2,none⟩ (.int .i64 tn)).setCell ⟨w.heap.size,3,none⟩ (.int .i64 tp)).alloc (.cells #[.int .i64 tk, .string tt, .int .i64 tn, .int .i64 tp] 224))from(((((Chg.refl _ _).setCell _ _ (by simp)).setCell _ _ (by simp)).setCell _ _ (by simp)).setCell _ _ (by simp)).alloc _)
 have r1:=blk_cell (blk_alloc (o':= .cells #[.int .i64 tk, .string tt, .int .i64 tn, .int .i64 tp] 224) (st4_at (.int .i64 tk) (.string tt) (.int .i64 tn) (.int .i64 tp) X2.out))
 refine bodyPost_ret (v:= .agg #[.int .i64 tk, .string tt, .int .i64 tn, .int .i64 tp]) (by simp[results,Tryz.results82,go_sem,r1]) rfl ?_
 exact⟨rfl,P2.out.kept C4.out (fun y hy=>by have:=ownP_lt H.out y hy;simp;omega) (fun y hy=>by have:=H.out.glt y hy;simp;omega),C2.out.then C4.out (by simp)⟩
theorem ndInfo:(Tryz.prog.info? 297).map (fun i=>(i.zero,i.size,i.bytes))=some (some (.agg #[.int .i64 0, .string ⟨#[]⟩, .int .i64 0, .slice none 0 0, .slice none 0 0]),5,80):=by kernel_rfl
def addN (x:Pr) (d:Nd) (a:Option Addr) (c:Nat):Pr:=⟨a,c,x.nodes++[d],x.fa,x.fc,x.funcs⟩
theorem add_fin (h:PaAt b T tv en at' x g w) {d:Nd} (hd:NdG g2 w d) (hg2:∀y∈g2,y<w.heap.size∧y∉ownP b tv x) {W:World} (hW:Chg [] w W) {g' cap:Nat} {w6:World} (hr:RowOf ndC 5 w6 0 297 (.slice (some ⟨g',0,none⟩) (x.nodes.length+1) cap) (x.nodes++[d])) (hg:Chg (nvOf x).ownBlock.toList W w6) (ho:(nvOf x).ownBlock=some g'∨g'=W.heap.size):
 PaAt b T tv en at' (addN x d (some ⟨g',0,none⟩) cap) (g++g2) (w6.setCell ⟨b,3,none⟩ (.slice (some ⟨g',0,none⟩) (x.nodes.length+1) cap))∧Chg (b::(nvOf x).ownBlock.toList) w (w6.setCell ⟨b,3,none⟩ (.slice (some ⟨g',0,none⟩) (x.nodes.length+1) cap))∧∀y∈ownP b tv (addN x d (some ⟨g',0,none⟩) cap),y∈ownP b tv x∨w.heap.size≤y:=by
 have hlt:=ownP_lt h
 obtain⟨q1,q2,q3⟩:=nodup_b h
 have hnd:=h.nodup
 simp only[ownP,List.nodup_cons,List.nodup_append,List.mem_append,Option.mem_toList]at hnd
 obtain⟨-, -,⟨-, -,n4⟩,n5⟩:=hnd
 have n6:∀y,(nvOf x).ownBlock=some y→tv.ownBlock≠some y:=fun y hy e=>n5 y e y (.inl hy) rfl
 have n7:∀y,(nvOf x).ownBlock=some y→(fvOf x).ownBlock≠some y:=fun y hy e=>n4 y hy y e rfl
 have hnv:nvOf (addN x d (some ⟨g',0,none⟩) cap)= .slice (some ⟨g',0,none⟩) (x.nodes.length+1) cap:=by simp[nvOf,addN]
 have hfv:fvOf (addN x d (some ⟨g',0,none⟩) cap)=fvOf x:=rfl
 have hnb:(Value.slice (some ⟨g',0,none⟩) (x.nodes.length+1) cap).ownBlock=some g':=rfl
 have hWs:=hW.size
 have hgb:g'≠b:=by
  rcases ho with e|e
  ·exact q2 _ e
  ·have:=hlt b (by simp[ownP]);omega
 have hc6:Chg (nvOf x).ownBlock.toList w w6:=(hW.mono (by simp)).thenSame hg
 have hc7:Chg [b] w6 (w6.setCell ⟨b,3,none⟩ (.slice (some ⟨g',0,none⟩) (x.nodes.length+1) cap)):=(Chg.refl _ _).setCell _ _ (fun _=>by simp)
 have hc:Chg (b::(nvOf x).ownBlock.toList) w (w6.setCell ⟨b,3,none⟩ (.slice (some ⟨g',0,none⟩) (x.nodes.length+1) cap)):=hc6.trans hc7 (fun y hy _=>by simp[hy]) (fun y hy _=>by simp at hy;simp[hy])
 have hS:∀y,y∈(b::(nvOf x).ownBlock.toList)→y∈ownP b tv x:=fun y hy=>by
  simp only[List.mem_cons,Option.mem_toList]at hy
  rcases hy with rfl|hy<;>simp[ownP, *]
 have hbl:=hc6.at (by intro e;exact q2 b (by simpa using e) rfl) h.blk
 refine⟨⟨?_, ?_, ?_, ?_, ?_, ?_, ?_, ?_, ?_⟩,hc, ?_⟩
 ·rw[hnv,hfv];exact blk_set hbl 3 _
 ·exact h.tk.kept hc (fun y hy e=>by
   simp only[List.mem_cons,Option.mem_toList]at e
   rcases e with e|e
   ·exact q1 y hy e
   ·exact n6 y e hy)
 ·rw[hnv];exact hr.kept hc7 (fun y hy e=>by simp[Value.ownBlock]at hy;simp at e;omega)
 ·rw[hfv];exact h.fn.kept hc (fun y hy e=>by
   simp only[List.mem_cons,Option.mem_toList]at e
   rcases e with e|e
   ·exact q3 y hy e
   ·exact n7 y e hy)
 ·intro d' hd'
  rcases List.mem_append.1 hd' with hd'|hd'
  ·exact((h.nds d' hd').kept hc (fun y hy e=>h.apart y hy (hS y e))).mono (fun y hy=>List.mem_append_left _ hy)
  ·simp at hd';subst hd'
   exact(hd.kept hc (fun y hy e=>(hg2 y hy).2 (hS y e))).mono (fun y hy=>List.mem_append_right _ hy)
 ·intro d' hd'
  exact((h.fns d' hd').kept hc (fun y hy e=>h.apart y hy (hS y e))).mono (fun y hy=>List.mem_append_left _ hy)
 ·have h0:=h.nodup
  have h1:(nvOf (addN x d (some ⟨g',0,none⟩) cap)).ownBlock.toList=[g']:=by rw[hnv];rfl
  unfold ownP at h0⊢
  rw[h1,hfv]
  simp only[List.nodup_cons,List.nodup_append,List.mem_append,Option.mem_toList,List.mem_singleton]at h0⊢
  obtain⟨m1,m2,⟨-,m3,m4⟩,m5⟩:=h0
  have hg1:tv.ownBlock≠some g':=by
   rcases ho with e|e
   ·exact n6 g' e
   ·intro q;have:=hlt g' (by simp[ownP,q]);omega
  have hg3:(fvOf x).ownBlock≠some g':=by
   rcases ho with e|e
   ·exact n7 g' e
   ·intro q;have:=hlt g' (by simp[ownP,q]);omega
  refine⟨fun e=> ?_,m2,⟨⟨by simp,by simp⟩,m3,fun a ha c hc e=> ?_⟩,fun a ha c hc e=> ?_⟩
  ·rcases e with e|e|e
   ·exact m1 (.inl e)
   ·exact hgb e.symm
   ·exact m1 (.inr (.inr e))
  ·subst ha;subst e;exact hg3 hc
  ·rcases hc with hc|hc
   ·subst hc;subst e;exact hg1 ha
   ·exact m5 a ha c (.inr hc) e
 ·intro y hy e
  have hy2:y∈ownP b tv x∨w.heap.size≤y:=by
   simp only[ownP,hnv,hfv,hnb,List.mem_cons,List.mem_append,Option.mem_toList,Option.some.injEq]at e
   rcases e with e|e|e|e
   ·left;simp[ownP,e]
   ·left;simp[ownP,e]
   ·rcases ho with q|q
    ·left;simp[ownP,q,e]
    ·right;omega
   ·left;simp[ownP,e]
  rcases List.mem_append.1 hy with hy|hy
  ·rcases hy2 with q|q
   ·exact h.apart y hy q
   ·have:=h.glt y hy;omega
  ·rcases hy2 with q|q
   ·exact(hg2 y hy).2 q
   ·have:=(hg2 y hy).1;omega
 ·intro y hy
  rcases List.mem_append.1 hy with hy|hy
  ·exact hc.lt (h.glt y hy)
  ·exact hc.lt (hg2 y hy).1
 ·intro y e
  simp only[ownP,hnv,hfv,hnb,List.mem_cons,List.mem_append,Option.mem_toList,Option.some.injEq]at e
  rcases e with e|e|e|e
  ·left;simp[ownP,e]
  ·left;simp[ownP,e]
  ·rcases ho with q|q
   ·left;simp[ownP,q,e]
   ·right;omega
  ·left;simp[ownP,e]
theorem add_any (h:PaAt b T tv en at' x g w) {d:Nd} (hd:NdG g2 w d) (hg2:∀y∈g2,y<w.heap.size∧y∉ownP b tv x) (hN:x.nodes.length≤1000):Calls Tryz.prog 145 #[.pointer (some ⟨b,0,none⟩), .agg #[.int .i64 d.kind, .string d.text, .int .i64 d.n, .slice d.ka d.keys.length d.kc, .slice d.da d.kids.length d.dc]] w fun e w'=>e= .returned (.int .i64 x.nodes.length)∧∃a c,PaAt b T tv en at' (addN x d a c) (g++g2) w'∧Chg (b::(nvOf x).ownBlock.toList) w w'∧∀y∈ownP b tv (addN x d a c),y∈ownP b tv x∨w.heap.size≤y:=by
 have FIN:=LH (fun(W:World) (hW:Chg [] w W) (g' cap:Nat) (w6:World) hr hg ho=>add_fin (W:=W) (g':=g') (cap:=cap) (w6:=w6) h hd hg2 hW hr hg ho)
 obtain⟨W1,hW1⟩:∃W1,W1=w.alloc (.cells #[.int .i64 d.kind, .string d.text, .int .i64 d.n, .slice d.ka d.keys.length d.kc, .slice d.da d.kids.length d.dc] 297):=⟨_,rfl⟩
 have C1:=LH (show Chg [] w W1 from hW1▸(Chg.refl _ _).alloc _)
 have X1:=LH (show W1.heap[w.heap.size]? =some (.cells #[.int .i64 d.kind, .string d.text, .int .i64 d.n, .slice d.ka d.keys.length d.kc, .slice d.da d.kids.length d.dc] 297)from hW1▸heap_alloc_new _ _)
 have HW1:=LH hW1
 have P1:=LH (h.keptN C1.out)
 obtain⟨na,nc,hnv⟩:∃na nc,nvOf x= .slice na x.nodes.length nc:=⟨_,_,rfl⟩
 have kb:=blk_cell P1.out.blk
 have fb:=blk_free P1.out.blk
 have lb:=lt_of_heap P1.out.blk
 have k1:=blk_cell X1.out
 have l1:=lt_of_heap X1.out
 rw[hnv]at kb
 have HR:=LH (fun o=>RowOf.kept (S:=[]) P1.out.nd (((Chg.refl [] W1).drew).alloc o) (by simp))
 have HB:=LH (fun o=>Chg.at (((Chg.refl [] W1).drew).alloc o) (by simp) P1.out.blk)
 have CD:=LH (fun o=>(C1.out.drew).alloc o)
 have QB:=LH (show b∉(nvOf x).ownBlock.toList from fun e=>(nodup_b h).2.1 b (by simpa using e) rfl)
 clear hW1 h
 go_enter Tryz.func145,Tryz.ntmps145
 go_wp2_with fail
 rw[←HW1.out]
 go_wp2_with fail
 go_region_law (
  (refine step_appendR rfl _ _ 24 rfl 0 297 _ 80 Tryz.underlying24 ndInfo rfl (by decide) ndC_len ndC_one (.slice na x.nodes.length nc) x.nodes rfl (hnv▸HR.out _) W1.heap.size 1 d _ 297 (0,0) rfl (heap_alloc_new W1.drew _) rfl (by unfold maxLen;omega) (by omega) (Nat.zero_le _) ?_;intro g8 cap8 w8 hr8 hg8 ho8 hlt8;rw[←hnv]at hg8 ho8;have G8:=LH (chg_grown hg8);have hb8:=G8.out.at QB.out (HB.out _);have b8:=blk_cell hb8;have f8:=blk_free hb8;have l8:=lt_of_heap hb8;have FN:=LH (FIN.out _ (CD.out _) g8 cap8 w8 hr8 G8.out ho8);clear hr8 hg8 hb8 ho8))
 all_goals go_wp2_with fail
 all_goals go_ret
 all_goals exact⟨by simp,_,_,FN.out.1,FN.out.2.1,FN.out.2.2⟩
end
section
open Go.RowKit
variable {b:Nat} {T:List Tk} {tv:Value} {en:Int} {at':Nat} {x:Pr} {g g2 f f' S:List Nat} {w w':World} {P:PPr}
theorem own_mem {y:Nat} (h:y∈ownP b tv x++g):y∈ownP b tv x∨y∈g:=List.mem_append.1 h
theorem Tr.at (h:Tr f w f' w') {u:Nat} {o:Obj} (hu:u∉f) (ho:w.heap[u]? =some o):w'.heap[u]? =some o∧u∉f':=
 ⟨h.chg.at hu ho,fun e=>by
   have:=lt_of_heap ho
   rcases h.own u e with q|q
   ·exact hu q
   ·omega⟩
structure LsIs (f:List Nat) (w:World) (la:Option Addr) (lc:Nat) (L:List ByteArray):Prop where
 row:RowOf skC 1 w 0 9 (.slice la L.length lc) L
 out:∀y,(Value.slice la L.length lc).ownBlock=some y→y∉f
theorem LsIs.nil (f:List Nat) (w:World):LsIs f w none 0 []:=⟨RowOf.nil _ _ _,fun y hy=>by simp[Value.ownBlock]at hy⟩
theorem LsIs.inIs {la:Option Addr} {lc:Nat} {L:List ByteArray} (h:LsIs f w la lc L):InIs skC 1 w la lc L:=(InIs.ofRow h.row skC_len).2
theorem LsIs.tr {la:Option Addr} {lc:Nat} {L:List ByteArray} (h:LsIs f w la lc L) (ht:Tr f w f' w'):LsIs f' w' la lc L:=
 ⟨h.row.kept ht.chg h.out,fun y hy e=>by
   have:=(h.row.block y hy).2
   rcases ht.own y e with q|q
   ·exact h.out y hy q
   ·omega⟩
theorem LsIs.keptN {la:Option Addr} {lc:Nat} {L:List ByteArray} (h:LsIs f w la lc L) (hc:Chg [] w w'):LsIs f w' la lc L:=⟨h.row.kept hc (by simp),h.out⟩
theorem LsIs.new (hf:∀y∈f,y<w.heap.size) {cur:Array Value} (L:List ByteArray) (hl:cur.toList=L.flatMap skC) (hm:L.length≤100):LsIs f (w.alloc (.cells cur 9)) (some ⟨w.heap.size,0,none⟩) L.length L:=
 ⟨row_blk L (Nat.zero_le _) (heap_alloc_new w _) skC_len hl (by unfold maxLen;omega),fun y hy e=>by
   have:y=w.heap.size:=by simpa[Value.ownBlock]using hy.symm
   have:=hf y e
   omega⟩
theorem LsIs.blk {g n:Nat} {cur:Array Value} {L:List ByteArray} (hg:w.heap[g]? =some (.cells cur 9 (0,0))) (hgf:g∉f) (hl:cur.toList=L.flatMap skC) (hn:L.length=n) (hm:n≤100):LsIs f w (some ⟨g,0,none⟩) n L:=by
 subst hn
 exact⟨row_blk L (Nat.zero_le _) hg skC_len hl (by unfold maxLen;omega),fun y hy e=>by
  have:y=g:=by simpa[Value.ownBlock]using hy.symm
  exact hgf (this▸e)⟩
theorem alloc2_at (w:World) (o1 o2:Obj):((w.alloc o1).alloc o2).heap[w.heap.size+1]? =some o2:=by
 have h:=heap_alloc_new (w.alloc o1) o2
 rwa[World.size_alloc]at h
theorem PaJ.bmem (h:PaJ b T tv en at' P f w):b∈f:=by
 obtain⟨x,g, -, -,rfl⟩:=h
 simp[ownP]
theorem takeJ_no (h:PaJ b T tv en at' P f w) {la:Option Addr} {lc:Nat} {L:List ByteArray} (hL:LsIs f w la lc L) {k:Int} (hn:nextB T at' k L=false):Calls Tryz.prog 143 #[.pointer (some ⟨b,0,none⟩), .int .i64 k, .slice la L.length lc] w fun e w'=>e= .returned (.tuple #[tkV 0 ⟨#[]⟩ 0 0, .bool false])∧Chg [] w w':=by
 obtain⟨x,g, -,h1, -⟩:=h
 exact take_no h1 hL.inIs hn
theorem takeJ_yes (h:PaJ b T tv en at' P f w) {la:Option Addr} {lc:Nat} {L:List ByteArray} (hL:LsIs f w la lc L) {k:Int} (hn:nextB T at' k L=true):Calls Tryz.prog 143 #[.pointer (some ⟨b,0,none⟩), .int .i64 k, .slice la L.length lc] w fun e w'=>e= .returned (.tuple #[tkV (tkAt T at').kind (tkAt T at').text (tkAt T at').n (tkAt T at').at', .bool true])∧PaJ b T tv en (at'+1) P f w'∧Tr f w f w':=by
 have hb:=h.bmem
 obtain⟨x,g,h0,h1,h2⟩:=h
 refine(take_yes h1 hL.inIs hn).mono ?_
 rintro e w' ⟨rfl,hp,hc⟩
 exact⟨rfl,⟨x,g,h0,hp,h2⟩,hc.mono (fun y hy _=>by simp at hy;subst hy;exact hb),fun y hy=> .inl hy⟩
theorem mustJ_yes (h:PaJ b T tv en at' P f w) {la:Option Addr} {lc:Nat} {L:List ByteArray} (hL:LsIs f w la lc L) {k:Int} (hn:nextB T at' k L=true):Calls Tryz.prog 82 #[.pointer (some ⟨b,0,none⟩), .int .i64 k, .slice la L.length lc] w fun e w'=>e= .returned (tkV (tkAt T at').kind (tkAt T at').text (tkAt T at').n (tkAt T at').at')∧PaJ b T tv en (at'+1) P f w'∧Tr f w f w':=by
 have hb:=h.bmem
 obtain⟨x,g,h0,h1,h2⟩:=h
 refine(must_yes h1 hL.inIs hn).mono ?_
 rintro e w' ⟨rfl,hp,hc⟩
 exact⟨rfl,⟨x,g,h0,hp,h2⟩,hc.mono (fun y hy _=>by simp at hy;subst hy;exact hb),fun y hy=> .inl hy⟩
theorem addJ (h:PaJ b T tv en at' P f w) {d:Nd} (hd:NdG g2 w d) (hg2:∀y∈g2,y<w.heap.size∧y∉f) (hN:P.nodes.length≤1000):Calls Tryz.prog 145 #[.pointer (some ⟨b,0,none⟩), .agg #[.int .i64 d.kind, .string d.text, .int .i64 d.n, .slice d.ka d.keys.length d.kc, .slice d.da d.kids.length d.dc]] w fun e w'=>e= .returned (.int .i64 P.nodes.length)∧∃f',PaJ b T tv en at' ⟨P.nodes++[d.p],P.funcs⟩ f' w'∧Chg f w w'∧∀y∈f',y∈f∨y∈g2∨w.heap.size≤y:=by
 obtain⟨x,g,rfl,h1,rfl⟩:=h
 have hl:x.p.nodes.length=x.nodes.length:=by simp[Pr.p]
 refine(add_any h1 hd (fun y hy=>⟨(hg2 y hy).1,fun e=>(hg2 y hy).2 (List.mem_append_left _ e)⟩) (by omega)).mono ?_
 rintro e w' ⟨rfl,a,c,h3,h4,h5⟩
 refine⟨by rw[hl],_,⟨addN x d a c,g++g2,by simp[Pr.p,addN],h3,rfl⟩,h4.mono (fun y hy _=> ?_),fun y hy=> ?_⟩
 ·simp only[List.mem_cons,Option.mem_toList]at hy
  apply List.mem_append_left
  rcases hy with rfl|hy<;>simp[ownP, *]
 ·rcases own_mem hy with hy|hy
  ·rcases h5 y hy with q|q
   ·exact .inl (List.mem_append_left _ q)
   ·exact .inr (.inr q)
  ·rcases List.mem_append.1 hy with hy|hy
   ·exact .inl (List.mem_append_right _ hy)
   ·exact .inr (.inl hy)
theorem takeB_no (h:PaJ b T tv en at' P f w) {g n:Nat} {cur:Array Value} {L:List ByteArray} (hg:w.heap[g]? =some (.cells cur 9 (0,0))) (hgf:g∉f) (hl:cur.toList=L.flatMap skC) (hn:L.length=n) (hm:n≤100) {k:Int} (hx:nextB T at' k L=false):Calls Tryz.prog 143 #[.pointer (some ⟨b,0,none⟩), .int .i64 k, .slice (some ⟨g,0,none⟩) n n] w fun e w'=>e= .returned (.tuple #[.agg #[.int .i64 0, .string ⟨#[]⟩, .int .i64 0, .int .i64 0], .bool false])∧Chg [] w w':=by
 have:=takeJ_no h (LsIs.blk hg hgf hl hn hm) hx
 subst hn
 exact this
theorem takeB_yes (h:PaJ b T tv en at' P f w) {g n:Nat} {cur:Array Value} {L:List ByteArray} (hg:w.heap[g]? =some (.cells cur 9 (0,0))) (hgf:g∉f) (hl:cur.toList=L.flatMap skC) (hn:L.length=n) (hm:n≤100) {k:Int} (hx:nextB T at' k L=true):Calls Tryz.prog 143 #[.pointer (some ⟨b,0,none⟩), .int .i64 k, .slice (some ⟨g,0,none⟩) n n] w fun e w'=>e= .returned (.tuple #[.agg #[.int .i64 (tkAt T at').kind, .string (tkAt T at').text, .int .i64 (tkAt T at').n, .int .i64 (tkAt T at').at'], .bool true])∧PaJ b T tv en (at'+1) P f w'∧Tr f w f w':=by
 have:=takeJ_yes h (LsIs.blk hg hgf hl hn hm) hx
 subst hn
 exact this
theorem mustB_yes (h:PaJ b T tv en at' P f w) {g n:Nat} {cur:Array Value} {L:List ByteArray} (hg:w.heap[g]? =some (.cells cur 9 (0,0))) (hgf:g∉f) (hl:cur.toList=L.flatMap skC) (hn:L.length=n) (hm:n≤100) {k:Int} (hx:nextB T at' k L=true):Calls Tryz.prog 82 #[.pointer (some ⟨b,0,none⟩), .int .i64 k, .slice (some ⟨g,0,none⟩) n n] w fun e w'=>e= .returned (.agg #[.int .i64 (tkAt T at').kind, .string (tkAt T at').text, .int .i64 (tkAt T at').n, .int .i64 (tkAt T at').at'])∧PaJ b T tv en (at'+1) P f w'∧Tr f w f w':=by
 have:=mustJ_yes h (LsIs.blk hg hgf hl hn hm) hx
 subst hn
 exact this
theorem takeN_no (h:PaJ b T tv en at' P f w) {k:Int} (hx:nextB T at' k []=false):Calls Tryz.prog 143 #[.pointer (some ⟨b,0,none⟩), .int .i64 k, .slice none 0 0] w fun e w'=>e= .returned (.tuple #[.agg #[.int .i64 0, .string ⟨#[]⟩, .int .i64 0, .int .i64 0], .bool false])∧Chg [] w w':=takeJ_no h (LsIs.nil f w) hx
theorem takeN_yes (h:PaJ b T tv en at' P f w) {k:Int} (hx:nextB T at' k []=true):Calls Tryz.prog 143 #[.pointer (some ⟨b,0,none⟩), .int .i64 k, .slice none 0 0] w fun e w'=>e= .returned (.tuple #[.agg #[.int .i64 (tkAt T at').kind, .string (tkAt T at').text, .int .i64 (tkAt T at').n, .int .i64 (tkAt T at').at'], .bool true])∧PaJ b T tv en (at'+1) P f w'∧Tr f w f w':=takeJ_yes h (LsIs.nil f w) hx
theorem mustN_yes (h:PaJ b T tv en at' P f w) {k:Int} (hx:nextB T at' k []=true):Calls Tryz.prog 82 #[.pointer (some ⟨b,0,none⟩), .int .i64 k, .slice none 0 0] w fun e w'=>e= .returned (.agg #[.int .i64 (tkAt T at').kind, .string (tkAt T at').text, .int .i64 (tkAt T at').n, .int .i64 (tkAt T at').at'])∧PaJ b T tv en (at'+1) P f w'∧Tr f w f w':=mustJ_yes h (LsIs.nil f w) hx
theorem addV (h:PaJ b T tv en at' P f w) (k:Int) (s:ByteArray) (n:Int) (hN:P.nodes.length≤1000):Calls Tryz.prog 145 #[.pointer (some ⟨b,0,none⟩), .agg #[.int .i64 k, .string s, .int .i64 n, .slice none 0 0, .slice none 0 0]] w fun e w'=>e= .returned (.int .i64 P.nodes.length)∧∃f',PaJ b T tv en at' ⟨P.nodes++[⟨k,s,n,[],[]⟩],P.funcs⟩ f' w'∧Tr f w f' w':=by
 refine(addJ (g2:=[]) (d:=⟨k,s,n,none,0,[],none,0,[]⟩) h ⟨⟨RowOf.nil _ _ _,fun y hy=>by simp[Value.ownBlock]at hy⟩,⟨RowOf.nil _ _ _,fun y hy=>by simp[Value.ownBlock]at hy⟩⟩ (by simp) hN).mono ?_
 rintro e w' ⟨rfl,f',h1,h2,h3⟩
 exact⟨rfl,f',h1,h2,fun y hy=>(h3 y hy).imp id (fun q=>q.resolve_left (by simp))⟩
theorem addK (h:PaJ b T tv en at' P f w) (k:Int) (s:ByteArray) (n:Int) {g m:Nat} {cur:Array Value} {l:List Int} (hg:w.heap[g]? =some (.cells cur 3 (0,0))) (hgf:g∉f) (hl:cur.toList=l.flatMap icI) (hm:l.length=m) (hm2:m≤100) (hN:P.nodes.length≤1000):Calls Tryz.prog 145 #[.pointer (some ⟨b,0,none⟩), .agg #[.int .i64 k, .string s, .int .i64 n, .slice none 0 0, .slice (some ⟨g,0,none⟩) m m]] w fun e w'=>e= .returned (.int .i64 P.nodes.length)∧∃f',PaJ b T tv en at' ⟨P.nodes++[⟨k,s,n,[],l⟩],P.funcs⟩ f' w'∧Chg f w w'∧∀y∈f',y∈f∨y=g∨w.heap.size≤y:=by
 subst hm
 refine(addJ (g2:=[g]) (d:=⟨k,s,n,none,0,[],some ⟨g,0,none⟩,l.length,l⟩) h ⟨⟨RowOf.nil _ _ _,fun y hy=>by simp[Value.ownBlock]at hy⟩,⟨row_blk l (Nat.zero_le _) hg icI_len1 hl (by unfold maxLen;omega),fun y hy=>by simpa[Value.ownBlock]using hy.symm⟩⟩ (fun y hy=>by simp at hy;subst hy;exact⟨lt_of_heap hg,hgf⟩) hN).mono ?_
 rintro e w' ⟨rfl,f',h1,h2,h3⟩
 exact⟨rfl,f',h1,h2,fun y hy=>by simpa using h3 y hy⟩
def ExpC (F:Nat) (b:Nat) (T:List Tk) (tv:Value) (en:Int) (i:Nat) (P:PPr) (j:Nat) (N:List PNd) (r:Int):Prop:=
 ∀f w,PaJ b T tv en i P f w→Calls Tryz.prog F #[.pointer (some ⟨b,0,none⟩)] w fun e w'=>e= .returned (.int .i64 r)∧∃f',PaJ b T tv en j ⟨P.nodes++N,P.funcs⟩ f' w'∧Tr f w f' w'
theorem prim_var {i:Nat} {s:ByteArray} (hN:P.nodes.length≤1000) (hs:(tkAt T i).text=s) (n1:nextB T i 3 []=false) (n2:nextB T i 4 []=false) (n3:nextB T i 2 [⟨#[110,117,108,108]⟩,⟨#[116,114,117,101]⟩,⟨#[102,97,108,115,101]⟩]=false) (n4:nextB T i 1 []=true) (n5:nextB T (i+1) 5 [⟨#[40]⟩]=false):ExpC 378 b T tv en i P (i+1) [⟨5,s,0,[],[]⟩] P.nodes.length:=by
 intro f w h
 have H:=LH h
 have A1:=LH (fun w' (hc:Chg [] w w')=>takeN_no (h.keptN hc) n1)
 have A2:=LH (fun w' (hc:Chg [] w w')=>takeN_no (h.keptN hc) n2)
 have A3:=LH (fun w' o (hc:Chg [] w w')=>takeB_no (w:=(w'.alloc o).alloc (.cells #[.string ⟨#[110,117,108,108]⟩, .string ⟨#[116,114,117,101]⟩, .string ⟨#[102,97,108,115,101]⟩] 9)) (h.keptN ((hc.alloc _).alloc _)) (alloc2_at w' o _) (fun e=>by have:=h.lt _ e;have:=hc.size;omega) (L:=[⟨#[110,117,108,108]⟩,⟨#[116,114,117,101]⟩,⟨#[102,97,108,115,101]⟩]) (by simp[skC]) rfl (by decide) n3)
 have A4:=LH (fun w' (hc:Chg [] w w')=>takeN_yes (h.keptN hc) n4)
 rw[hs]at A4
 clear h n1 n2 n3 n4 hs
 go_enter Tryz.func378,Tryz.ntmps378
 go_wp2_with fail
 refine(A1.out _ (Chg.refl _ _)).mono ?_;rintro e w1 ⟨rfl,hc1⟩
 have C1:=LH hc1
 clear hc1
 go_wp2_with fail
 refine(A2.out _ (C1.out.alloc _)).mono ?_;rintro e w2 ⟨rfl,hc2⟩
 have C2:=LH ((C1.out.alloc _).thenSame hc2)
 clear hc2
 go_wp2_with fail
 refine(A3.out _ _ C2.out).mono ?_;rintro e w3 ⟨rfl,hc3⟩
 have C3:=LH (((C2.out.alloc _).alloc _).thenSame hc3)
 clear hc3
 go_wp2_with fail
 refine(A4.out _ (C3.out.alloc _)).mono ?_;rintro e w4 ⟨rfl,hp4,ht4⟩
 have T4:=LH (show Tr f w f w4 from(Tr.refl f w).same (C3.out.alloc _)|>.trans ht4)
 generalize (tkAt T i).kind=tk at*
 generalize (tkAt T i).n=tn at*
 generalize (tkAt T i).at'=tp at*
 have l4:=hp4.lt
 have A5:=LH (takeB_no (w:=(w4.alloc (.cells #[.int .i64 tk, .string s, .int .i64 tn, .int .i64 tp] 224)).alloc (.cells #[.string ⟨#[40]⟩] 9)) (hp4.keptN (((Chg.refl [] _).alloc _).alloc _)) (alloc2_at w4 _ _) (fun e=>by have:=l4 _ e;omega) (L:=[⟨#[40]⟩]) (by simp[skC]) rfl (by decide) n5)
 have X4:=LH (show((w4.alloc (.cells #[.int .i64 tk, .string s, .int .i64 tn, .int .i64 tp] 224)).alloc (.cells #[.string ⟨#[40]⟩] 9)).heap[w4.heap.size]? =some (.cells #[.int .i64 tk, .string s, .int .i64 tn, .int .i64 tp] 224)from blk_alloc (heap_alloc_new _ _))
 have P4:=LH hp4
 clear hp4 ht4 l4
 go_wp2_with fail
 refine A5.out.mono ?_;rintro e w5 ⟨rfl,hc5⟩
 have X5:=LH (hc5.at (by simp) X4.out)
 have C5:=LH ((((Chg.refl [] w4).alloc (.cells #[.int .i64 tk, .string s, .int .i64 tn, .int .i64 tp] 224)).alloc (.cells #[.string ⟨#[40]⟩] 9)).thenSame hc5)
 have k5:=blk_cell X5.out
 have l5:=lt_of_heap X5.out
 clear hc5
 go_wp2_with fail
 refine(addV (P4.out.keptN (C5.out.alloc _)) 5 s 0 hN).mono ?_;rintro e w6 ⟨rfl,f6,hp6,ht6⟩
 have T6:=LH ((T4.out.same (C5.out.alloc _)).trans ht6)
 have P6:=LH hp6
 clear hp6 ht6
 go_wp2_with fail
 go_ret
 exact⟨rfl,f6,P6.out,T6.out⟩
variable {i j:Nat} {N:List PNd} {r:Int}
theorem post_one (hx:ExpC 378 b T tv en i P j N r) (n1:nextB T j 5 [⟨#[91]⟩]=false):ExpC 374 b T tv en i P j N r:=by
 intro f w h
 have A1:=LH (hx f w h)
 clear h hx
 go_enter Tryz.func374,Tryz.ntmps374
 go_wp2_with fail
 refine A1.out.mono ?_;rintro e w1 ⟨rfl,f1,hp1,ht1⟩
 have l1:=hp1.lt
 have A2:=LH (takeB_no (w:=w1.alloc (.cells #[.string ⟨#[91]⟩] 9)) (hp1.keptN ((Chg.refl [] _).alloc _)) (heap_alloc_new w1 _) (fun e=>by have:=l1 _ e;omega) (L:=[⟨#[91]⟩]) (by simp[skC]) rfl (by decide) n1)
 have P1:=LH hp1
 have T1:=LH ht1
 clear hp1 ht1 l1
 go_wp2_with fail
 go_loopw [3] (fun v wr=>v= .int .i64 r∧wr=w1) (fun _ _=>0)
 case atStart=>exact⟨rfl,rfl⟩
 case round=>
  obtain⟨rfl,rfl⟩:=hrel
  go_wp2_with fail
  refine A2.out.mono ?_;rintro e w2 ⟨rfl,hc2⟩
  have C2:=LH (((Chg.refl [] wr).alloc (.cells #[.string ⟨#[91]⟩] 9)).thenSame hc2)
  clear hc2
  go_wp2_with fail
  go_ret
  exact⟨rfl,f1,P1.out.keptN (C2.out.alloc _),T1.out.same (C2.out.alloc _)⟩
theorem unary_one (hx:ExpC 374 b T tv en i P j N r) (n1:nextB T i 5 [⟨#[45]⟩]=false):ExpC 367 b T tv en i P j N r:=by
 intro f w h
 have A1:=LH (takeB_no (w:=w.alloc (.cells #[.string ⟨#[45]⟩] 9)) (h.keptN ((Chg.refl [] _).alloc _)) (heap_alloc_new w _) (fun e=>by have:=h.lt _ e;omega) (L:=[⟨#[45]⟩]) (by simp[skC]) rfl (by decide) n1)
 have A2:=LH (fun w' (hc:Chg [] w w')=>hx f w' (h.keptN hc))
 clear h hx
 go_enter Tryz.func367,Tryz.ntmps367
 go_wp2_with fail
 refine A1.out.mono ?_;rintro e w1 ⟨rfl,hc1⟩
 have C1:=LH (((Chg.refl [] w).alloc (.cells #[.string ⟨#[45]⟩] 9)).thenSame hc1)
 clear hc1
 go_wp2_with fail
 refine(A2.out _ (C1.out.alloc _)).mono ?_;rintro e w2 ⟨rfl,f2,hp2,ht2⟩
 have P2:=LH hp2
 have T2:=LH (((Tr.refl f w).same (C1.out.alloc _)).trans ht2)
 clear hp2 ht2
 go_wp2_with fail
 go_ret
 exact⟨rfl,f2,P2.out,T2.out⟩
end
section
open Go.RowKit
variable {b:Nat} {T:List Tk} {tv:Value} {en:Int} {at':Nat} {x:Pr} {g g2 f f' S:List Nat} {w w':World} {P:PPr} {i j:Nat} {N:List PNd} {r:Int}
theorem chain_unary (hx:ExpC 367 b T tv en i P j N r) {k:Int} {L:List ByteArray} (n1:nextB T j k L=false) (h:PaJ b T tv en i P f w) {q n:Nat} {cur:Array Value} (hg:w.heap[q]? =some (.cells cur 9 (0,0))) (hgf:q∉f) (hl:cur.toList=L.flatMap skC) (hn:L.length=n) (hm:n≤100):
 Calls Tryz.prog 275 #[.pointer (some ⟨b,0,none⟩), .func (.func 367) #[.pointer (some ⟨b,0,none⟩)] #[], .int .i64 k, .slice (some ⟨q,0,none⟩) n n] w fun e w'=>e= .returned (.int .i64 r)∧∃f',PaJ b T tv en j ⟨P.nodes++N,P.funcs⟩ f' w'∧Tr f w f' w':=by
 have A1:=LH (hx f w h)
 have HG:=LH hg
 have HL:=LH hl
 clear h hx hg hl
 go_enter Tryz.func275,Tryz.ntmps275
 go_wp2_with fail
 refine A1.out.mono ?_;rintro e w1 ⟨rfl,f1,hp1,ht1⟩
 obtain⟨g1,g2⟩:=ht1.at hgf HG.out
 have A2:=LH (takeB_no hp1 g1 g2 HL.out hn hm n1)
 have P1:=LH hp1
 have T1:=LH ht1
 clear hp1 ht1 g1 g2
 go_wp2_with fail
 go_loopw [9] (fun v wr=>v= .int .i64 r∧wr=w1) (fun _ _=>0)
 case atStart=>exact⟨rfl,rfl⟩
 case round=>
  obtain⟨rfl,rfl⟩:=hrel
  go_wp2_with fail
  refine A2.out.mono ?_;rintro e w2 ⟨rfl,hc2⟩
  have C2:=LH hc2
  clear hc2
  go_wp2_with fail
  go_ret
  exact⟨rfl,f1,P1.out.keptN (C2.out.alloc _),T1.out.same (C2.out.alloc _)⟩
theorem chain_not (hx:ExpC 322 b T tv en i P j N r) {k:Int} {L:List ByteArray} (n1:nextB T j k L=false) (h:PaJ b T tv en i P f w) {q n:Nat} {cur:Array Value} (hg:w.heap[q]? =some (.cells cur 9 (0,0))) (hgf:q∉f) (hl:cur.toList=L.flatMap skC) (hn:L.length=n) (hm:n≤100):
 Calls Tryz.prog 275 #[.pointer (some ⟨b,0,none⟩), .func (.func 322) #[.pointer (some ⟨b,0,none⟩)] #[], .int .i64 k, .slice (some ⟨q,0,none⟩) n n] w fun e w'=>e= .returned (.int .i64 r)∧∃f',PaJ b T tv en j ⟨P.nodes++N,P.funcs⟩ f' w'∧Tr f w f' w':=by
 have A1:=LH (hx f w h)
 have HG:=LH hg
 have HL:=LH hl
 clear h hx hg hl
 go_enter Tryz.func275,Tryz.ntmps275
 go_wp2_with fail
 refine A1.out.mono ?_;rintro e w1 ⟨rfl,f1,hp1,ht1⟩
 obtain⟨g1,g2⟩:=ht1.at hgf HG.out
 have A2:=LH (takeB_no hp1 g1 g2 HL.out hn hm n1)
 have P1:=LH hp1
 have T1:=LH ht1
 clear hp1 ht1 g1 g2
 go_wp2_with fail
 go_loopw [9] (fun v wr=>v= .int .i64 r∧wr=w1) (fun _ _=>0)
 case atStart=>exact⟨rfl,rfl⟩
 case round=>
  obtain⟨rfl,rfl⟩:=hrel
  go_wp2_with fail
  refine A2.out.mono ?_;rintro e w2 ⟨rfl,hc2⟩
  have C2:=LH hc2
  clear hc2
  go_wp2_with fail
  go_ret
  exact⟨rfl,f1,P1.out.keptN (C2.out.alloc _),T1.out.same (C2.out.alloc _)⟩
theorem chain_and (hx:ExpC 276 b T tv en i P j N r) {k:Int} {L:List ByteArray} (n1:nextB T j k L=false) (h:PaJ b T tv en i P f w) {q n:Nat} {cur:Array Value} (hg:w.heap[q]? =some (.cells cur 9 (0,0))) (hgf:q∉f) (hl:cur.toList=L.flatMap skC) (hn:L.length=n) (hm:n≤100):
 Calls Tryz.prog 275 #[.pointer (some ⟨b,0,none⟩), .func (.func 276) #[.pointer (some ⟨b,0,none⟩)] #[], .int .i64 k, .slice (some ⟨q,0,none⟩) n n] w fun e w'=>e= .returned (.int .i64 r)∧∃f',PaJ b T tv en j ⟨P.nodes++N,P.funcs⟩ f' w'∧Tr f w f' w':=by
 have A1:=LH (hx f w h)
 have HG:=LH hg
 have HL:=LH hl
 clear h hx hg hl
 go_enter Tryz.func275,Tryz.ntmps275
 go_wp2_with fail
 refine A1.out.mono ?_;rintro e w1 ⟨rfl,f1,hp1,ht1⟩
 obtain⟨g1,g2⟩:=ht1.at hgf HG.out
 have A2:=LH (takeB_no hp1 g1 g2 HL.out hn hm n1)
 have P1:=LH hp1
 have T1:=LH ht1
 clear hp1 ht1 g1 g2
 go_wp2_with fail
 go_loopw [9] (fun v wr=>v= .int .i64 r∧wr=w1) (fun _ _=>0)
 case atStart=>exact⟨rfl,rfl⟩
 case round=>
  obtain⟨rfl,rfl⟩:=hrel
  go_wp2_with fail
  refine A2.out.mono ?_;rintro e w2 ⟨rfl,hc2⟩
  have C2:=LH hc2
  clear hc2
  go_wp2_with fail
  go_ret
  exact⟨rfl,f1,P1.out.keptN (C2.out.alloc _),T1.out.same (C2.out.alloc _)⟩
theorem chain2 {j2:Nat} {N2:List PNd} {r2:Int} {op:ByteArray} {k:Int} {L:List ByteArray} (hx:ExpC 356 b T tv en i P j N r) (n1:nextB T j k L=true) (ho:(tkAt T j).text=op) (hy:ExpC 356 b T tv en (j+1) ⟨P.nodes++N,P.funcs⟩ j2 N2 r2) (n2:nextB T j2 k L=false) (hN:(P.nodes++N++N2).length≤1000) (hr:r<(P.nodes++N++N2).length)
 (h:PaJ b T tv en i P f w) {q n:Nat} {cur:Array Value} (hg:w.heap[q]? =some (.cells cur 9 (0,0))) (hgf:q∉f) (hl:cur.toList=L.flatMap skC) (hn:L.length=n) (hm:n≤100):
 Calls Tryz.prog 275 #[.pointer (some ⟨b,0,none⟩), .func (.func 356) #[.pointer (some ⟨b,0,none⟩)] #[], .int .i64 k, .slice (some ⟨q,0,none⟩) n n] w fun e w'=>e= .returned (.int .i64 (P.nodes++N++N2).length)∧∃f',PaJ b T tv en j2 ⟨P.nodes++N++N2++[⟨9,op,0,[],[r,r2]⟩],P.funcs⟩ f' w'∧Tr f w f' w':=by
 obtain⟨R,hR⟩:∃R:Int,R=(P.nodes++N++N2).length:=⟨_,rfl⟩
 rw[←hR]at hr⊢
 have HRR:=LH hR
 have A1:=LH (hx f w h)
 have HY:=LH hy
 have HG:=LH hg
 have HL:=LH hl
 have HNN:=LH hN
 clear h hx hg hl hy hR hN
 go_enter Tryz.func275,Tryz.ntmps275
 go_wp2_with fail
 refine A1.out.mono ?_;rintro e w1 ⟨rfl,f1,hp1,ht1⟩
 obtain⟨g1,g2⟩:=ht1.at hgf HG.out
 have A2:=LH (takeB_yes hp1 g1 g2 HL.out hn hm n1)
 rw[ho]at A2
 have G1:=LH g1
 have GF1:=LH g2
 have T1:=LH ht1
 clear hp1 ht1 g1 g2 ho
 generalize (tkAt T j).kind=tk at*
 generalize (tkAt T j).n=tn at*
 generalize (tkAt T j).at'=tp at*
 go_wp2_with fail
 go_loopw [9] (fun v wr=>(v= .int .i64 r∧wr=w1)∨(v= .int .i64 R∧∃f5,Hid (PaJ b T tv en j2 ⟨P.nodes++N++N2++[⟨9,op,0,[],[r,r2]⟩],P.funcs⟩ f5 wr)∧Hid (Tr f w f5 wr)∧Hid (wr.heap[q]? =some (.cells cur 9 (0,0))∧q∉f5))) (fun v _=>(R-intOf v).toNat)
 case atStart=>exact .inl ⟨rfl,rfl⟩
 case round=>
  rcases hrel with ⟨rfl,rfl⟩|⟨rfl,f5,P5,T5,G5⟩
  ·go_wp2_with fail
   refine A2.out.mono ?_;rintro e w2 ⟨rfl,hp2,ht2⟩
   have hl2:=hp2.lt
   obtain⟨g1,g2⟩:=ht2.at GF1.out G1.out
   have A3:=LH (HY.out f1 _ (hp2.keptN ((Chg.refl [] w2).alloc (.cells #[.int .i64 tk, .string op, .int .i64 tn, .int .i64 tp] 224))))
   have U2:=LH (show w2.heap.size∉f1 from fun e=>by have:=hl2 _ e;omega)
   have X2:=LH (heap_alloc_new w2 (.cells #[.int .i64 tk, .string op, .int .i64 tn, .int .i64 tp] 224))
   have G2:=LH (blk_alloc (o':= .cells #[.int .i64 tk, .string op, .int .i64 tn, .int .i64 tp] 224) g1)
   have T2:=LH ((T1.out.trans ht2).same ((Chg.refl [] w2).alloc (.cells #[.int .i64 tk, .string op, .int .i64 tn, .int .i64 tp] 224)))
   clear hp2 ht2 hl2 g1 g2
   go_wp2_with fail
   refine A3.out.mono ?_;rintro e w3 ⟨rfl,f3,hp3,ht3⟩
   obtain⟨x1,x2⟩:=ht3.at U2.out X2.out
   obtain⟨y1,y2⟩:=ht3.at GF1.out G2.out
   have k3:=blk_cell x1
   have l3:=lt_of_heap x1
   have hl3:=hp3.lt
   have A4:=LH (addK (w:=w3.alloc (.cells #[.int .i64 r, .int .i64 r2] 3)) (hp3.keptN ((Chg.refl [] _).alloc _)) 9 op 0 (heap_alloc_new w3 _) (fun e=>by have:=hl3 _ e;omega) (l:=[r,r2]) (by simp[icI]) rfl (by simp) HNN.out)
   have T3:=LH (T2.out.trans ht3)
   have G3:=LH (blk_alloc (o':= .cells #[.int .i64 r, .int .i64 r2] 3) y1)
   have GF3:=LH y2
   have LL:=LH hl3
   clear hp3 ht3 hl3 y1 y2 x1 x2
   go_wp2_with fail
   refine A4.out.mono ?_;rintro e w4 ⟨rfl,f4,hp4,hc4,ho4⟩
   have P4:=LH hp4
   have T4:=LH (show Tr f w f4 w4 from T3.out.trans ⟨((Chg.refl f3 w3).alloc _).thenSame hc4,fun y hy=>by
    rcases ho4 y hy with q|q|q
    ·exact .inl q
    ·exact .inr (by omega)
    ·rw[World.size_alloc]at q;exact .inr (by omega)⟩)
   have G4:=LH (show w4.heap[q]? =some (.cells cur 9 (0,0))∧q∉f4 from⟨hc4.at GF3.out G3.out,fun e=>by
    have:=lt_of_heap G3.out
    rcases ho4 q e with h1|h1|h1
    ·exact GF3.out h1
    ·have h2:=lt_of_heap HG.out
     have h3:=T3.out.chg.size
     omega
    ·omega⟩)
   clear hp4 hc4 ho4
   go_wp2_with fail
   refine⟨.inr ⟨congrArg (Value.int .i64) (by have:=HRR.out;simp only[List.length_append,Int.natCast_add]at this;omega),f4,P4,T4,G4⟩, ?_⟩
   have:=HRR.out
   simp only[List.length_append,Int.natCast_add]at this
   simp only[intOf]
   omega
  ·have A6:=LH (takeB_no P5.out G5.out.1 G5.out.2 HL.out hn hm n2)
   go_wp2_with fail
   refine A6.out.mono ?_;rintro e w6 ⟨rfl,hc6⟩
   have C6:=LH hc6
   clear hc6
   go_wp2_with fail
   go_ret
   exact⟨rfl,f5,P5.out.keptN (C6.out.alloc _),T5.out.same (C6.out.alloc _)⟩
end
section
open Go.RowKit
variable {b:Nat} {T:List Tk} {tv:Value} {en:Int} {at':Nat} {x:Pr} {g g2 f f' S:List Nat} {w w':World} {P:PPr} {i j:Nat} {N:List PNd} {r:Int}
theorem term_one (hx:ExpC 367 b T tv en i P j N r) (n1:nextB T j 5 [⟨#[42]⟩,⟨#[47]⟩,⟨#[37]⟩]=false):ExpC 356 b T tv en i P j N r:=by
 intro f w h
 have hmf:∀(fn:Fn) (first cap:Array Value) (w:World),(Instr.makeFunc fn first cap).run Tryz.prog w= .ok (.func fn first cap) w:=fun _ _ _ _=>rfl
 have A1:=LH (chain_unary hx n1 (w:=w.alloc (.cells #[.string ⟨#[42]⟩, .string ⟨#[47]⟩, .string ⟨#[37]⟩] 9)) (h.keptN ((Chg.refl [] _).alloc _)) (heap_alloc_new w _) (fun e=>by have:=h.lt _ e;omega) (by simp[skC]) rfl (by simp))
 clear h
 go_enter Tryz.func356,Tryz.ntmps356
 go_wp2_with fail
 refine A1.out.mono ?_;rintro e w1 ⟨rfl,f1,hp1,ht1⟩
 have P1:=LH hp1
 have T1:=LH (((Tr.refl f w).same ((Chg.refl [] w).alloc _)).trans ht1)
 clear hp1 ht1
 go_wp2_with fail
 go_ret
 exact⟨rfl,f1,P1.out,T1.out⟩
theorem sum_two {j2:Nat} {N2:List PNd} {r2:Int} {op:ByteArray} (hx:ExpC 356 b T tv en i P j N r) (n1:nextB T j 5 [⟨#[43]⟩,⟨#[45]⟩]=true) (ho:(tkAt T j).text=op) (hy:ExpC 356 b T tv en (j+1) ⟨P.nodes++N,P.funcs⟩ j2 N2 r2) (n2:nextB T j2 5 [⟨#[43]⟩,⟨#[45]⟩]=false) (hN:(P.nodes++N++N2).length≤1000) (hr:r<(P.nodes++N++N2).length):
 ExpC 342 b T tv en i P j2 (N++N2++[⟨9,op,0,[],[r,r2]⟩]) (P.nodes++N++N2).length:=by
 intro f w h
 have hmf:∀(fn:Fn) (first cap:Array Value) (w:World),(Instr.makeFunc fn first cap).run Tryz.prog w= .ok (.func fn first cap) w:=fun _ _ _ _=>rfl
 have A1:=LH (chain2 (w:=w.alloc (.cells #[.string ⟨#[43]⟩, .string ⟨#[45]⟩] 9)) hx n1 ho hy n2 hN hr (h.keptN ((Chg.refl [] _).alloc _)) (heap_alloc_new w _) (fun e=>by have:=h.lt _ e;omega) (by simp[skC]) rfl (by simp))
 obtain⟨R,hR⟩:∃R:Int,R=(P.nodes++N++N2).length:=⟨_,rfl⟩
 rw[←hR]at A1⊢
 clear h hx hy hR
 go_enter Tryz.func342,Tryz.ntmps342
 go_wp2_with fail
 refine A1.out.mono ?_;rintro e w1 ⟨rfl,f1,hp1,ht1⟩
 have P1:=LH hp1
 have T1:=LH (((Tr.refl f w).same ((Chg.refl [] w).alloc _)).trans ht1)
 clear hp1 ht1
 go_wp2_with fail
 go_ret
 exact⟨rfl,f1,by have:=P1.out;simpa only[List.append_assoc]using this,T1.out⟩
theorem and_one (hx:ExpC 322 b T tv en i P j N r) (n1:nextB T j 2 [⟨#[97,110,100]⟩]=false):ExpC 276 b T tv en i P j N r:=by
 intro f w h
 have hmf:∀(fn:Fn) (first cap:Array Value) (w:World),(Instr.makeFunc fn first cap).run Tryz.prog w= .ok (.func fn first cap) w:=fun _ _ _ _=>rfl
 have A1:=LH (chain_not hx n1 (w:=w.alloc (.cells #[.string ⟨#[97,110,100]⟩] 9)) (h.keptN ((Chg.refl [] _).alloc _)) (heap_alloc_new w _) (fun e=>by have:=h.lt _ e;omega) (by simp[skC]) rfl (by simp))
 clear h
 go_enter Tryz.func276,Tryz.ntmps276
 go_wp2_with fail
 refine A1.out.mono ?_;rintro e w1 ⟨rfl,f1,hp1,ht1⟩
 have P1:=LH hp1
 have T1:=LH (((Tr.refl f w).same ((Chg.refl [] w).alloc _)).trans ht1)
 clear hp1 ht1
 go_wp2_with fail
 go_ret
 exact⟨rfl,f1,P1.out,T1.out⟩
theorem expr_one (hx:ExpC 276 b T tv en i P j N r) (n1:nextB T j 2 [⟨#[111,114]⟩]=false):ExpC 217 b T tv en i P j N r:=by
 intro f w h
 have hmf:∀(fn:Fn) (first cap:Array Value) (w:World),(Instr.makeFunc fn first cap).run Tryz.prog w= .ok (.func fn first cap) w:=fun _ _ _ _=>rfl
 have A1:=LH (chain_and hx n1 (w:=w.alloc (.cells #[.string ⟨#[111,114]⟩] 9)) (h.keptN ((Chg.refl [] _).alloc _)) (heap_alloc_new w _) (fun e=>by have:=h.lt _ e;omega) (by simp[skC]) rfl (by simp))
 clear h
 go_enter Tryz.func217,Tryz.ntmps217
 go_wp2_with fail
 refine A1.out.mono ?_;rintro e w1 ⟨rfl,f1,hp1,ht1⟩
 have P1:=LH hp1
 have T1:=LH (((Tr.refl f w).same ((Chg.refl [] w).alloc _)).trans ht1)
 clear hp1 ht1
 go_wp2_with fail
 go_ret
 exact⟨rfl,f1,P1.out,T1.out⟩
theorem not_one (n0:nextB T i 2 [⟨#[110,111,116]⟩]=false) (hx:ExpC 342 b T tv en i P j N r) (n1:nextB T j 5 [⟨#[61,61]⟩,⟨#[33,61]⟩,⟨#[60]⟩,⟨#[60,61]⟩,⟨#[62]⟩,⟨#[62,61]⟩]=false):ExpC 322 b T tv en i P j N r:=by
 intro f w h
 have A1:=LH (takeB_no (w:=w.alloc (.cells #[.string ⟨#[110,111,116]⟩] 9)) (h.keptN ((Chg.refl [] _).alloc _)) (heap_alloc_new w _) (fun e=>by have:=h.lt _ e;omega) (L:=[⟨#[110,111,116]⟩]) (by simp[skC]) rfl (by decide) n0)
 have A2:=LH (fun w' (hc:Chg [] w w')=>hx f w' (h.keptN hc))
 clear h hx
 go_enter Tryz.func322,Tryz.ntmps322
 go_wp2_with fail
 refine A1.out.mono ?_;rintro e w1 ⟨rfl,hc1⟩
 have C1:=LH (((Chg.refl [] w).alloc (.cells #[.string ⟨#[110,111,116]⟩] 9)).thenSame hc1)
 clear hc1
 go_wp2_with fail
 refine(A2.out _ (C1.out.alloc _)).mono ?_;rintro e w2 ⟨rfl,f2,hp2,ht2⟩
 have hl2:=hp2.lt
 have A3:=LH (takeB_no (w:=w2.alloc (.cells #[.string ⟨#[61,61]⟩, .string ⟨#[33,61]⟩, .string ⟨#[60]⟩, .string ⟨#[60,61]⟩, .string ⟨#[62]⟩, .string ⟨#[62,61]⟩] 9)) (hp2.keptN ((Chg.refl [] _).alloc _)) (heap_alloc_new w2 _) (fun e=>by have:=hl2 _ e;omega) (L:=[⟨#[61,61]⟩,⟨#[33,61]⟩,⟨#[60]⟩,⟨#[60,61]⟩,⟨#[62]⟩,⟨#[62,61]⟩]) (by simp[skC]) rfl (by decide) n1)
 have P2:=LH hp2
 have T2:=LH (((Tr.refl f w).same (C1.out.alloc _)).trans ht2)
 clear hp2 ht2 hl2
 go_wp2_with fail
 refine A3.out.mono ?_;rintro e w3 ⟨rfl,hc3⟩
 have C3:=LH (((Chg.refl [] w2).alloc (.cells #[.string ⟨#[61,61]⟩, .string ⟨#[33,61]⟩, .string ⟨#[60]⟩, .string ⟨#[60,61]⟩, .string ⟨#[62]⟩, .string ⟨#[62,61]⟩] 9)).thenSame hc3)
 clear hc3
 go_wp2_with fail
 go_ret
 exact⟨rfl,f2,P2.out.keptN (C3.out.alloc _),T2.out.same (C3.out.alloc _)⟩
theorem term_var {s:ByteArray} (hN:P.nodes.length≤1000) (hs:(tkAt T i).text=s) (h:nextB T i 3 []=false∧nextB T i 4 []=false∧nextB T i 2 [⟨#[110,117,108,108]⟩,⟨#[116,114,117,101]⟩,⟨#[102,97,108,115,101]⟩]=false∧nextB T i 1 []=true∧nextB T (i+1) 5 [⟨#[40]⟩]=false∧nextB T (i+1) 5 [⟨#[91]⟩]=false∧nextB T i 5 [⟨#[45]⟩]=false∧nextB T (i+1) 5 [⟨#[42]⟩,⟨#[47]⟩,⟨#[37]⟩]=false):ExpC 356 b T tv en i P (i+1) [⟨5,s,0,[],[]⟩] P.nodes.length:=by
 obtain⟨h1,h2,h3,h4,h5,h6,h7,h8⟩:=h
 exact term_one (unary_one (post_one (prim_var hN hs h1 h2 h3 h4 h5) h6) h7) h8
theorem expr_dbl:ExpC 217 b dT tv en 7 ⟨[],[]⟩ 10 [⟨5,dE,0,[],[]⟩,⟨5,dE,0,[],[]⟩,⟨9,⟨#[43]⟩,0,[],[0,1]⟩] 2:=by
 have a1:ExpC 356 b dT tv en 7 ⟨[],[]⟩ 8 [⟨5,dE,0,[],[]⟩] 0:=term_var (P:=⟨[],[]⟩) (by simp) (by decide+kernel) (by decide+kernel)
 have a2:ExpC 356 b dT tv en 9 ⟨[]++[⟨5,dE,0,[],[]⟩],[]⟩ 10 [⟨5,dE,0,[],[]⟩] 1:=term_var (P:=⟨[⟨5,dE,0,[],[]⟩],[]⟩) (by simp) (by decide+kernel) (by decide+kernel)
 exact expr_one (and_one (not_one (by decide+kernel) (sum_two a1 (by decide+kernel) (op:=⟨#[43]⟩) (by decide+kernel) a2 (by decide+kernel) (by simp) (by simp)) (by decide+kernel)) (by decide+kernel)) (by decide+kernel)
end
section
open Go.RowKit
variable {b:Nat} {T:List Tk} {tv:Value} {en:Int} {at':Nat} {x:Pr} {g g2 f f' S:List Nat} {w w':World} {P:PPr} {i j:Nat} {N:List PNd} {r:Int}
theorem value_any (hx:ExpC 217 b T tv en i P j N r) (n1:nextB T j 5 [⟨#[59]⟩]=true) (h:PaJ b T tv en i P f w):Calls Tryz.prog 215 #[.pointer (some ⟨b,0,none⟩)] w fun e w'=>∃q,e= .returned (.slice (some ⟨q,0,none⟩) 1 1)∧w'.heap[q]? =some (.cells #[.int .i64 r] 3 (0,0))∧w.heap.size≤q∧∃f',q∉f'∧PaJ b T tv en (j+1) ⟨P.nodes++N,P.funcs⟩ f' w'∧Tr f w f' w':=by
 have A1:=LH (hx f w h)
 clear h hx
 go_enter Tryz.func215,Tryz.ntmps215
 go_wp2_with fail
 refine A1.out.mono ?_;rintro e w1 ⟨rfl,f1,hp1,ht1⟩
 have hl1:=hp1.lt
 have A2:=LH (mustB_yes (w:=w1.alloc (.cells #[.string ⟨#[59]⟩] 9)) (hp1.keptN ((Chg.refl [] _).alloc _)) (heap_alloc_new w1 _) (fun e=>by have:=hl1 _ e;omega) (L:=[⟨#[59]⟩]) (by simp[skC]) rfl (by decide) n1)
 have T1:=LH (ht1.same ((Chg.refl [] w1).alloc (.cells #[.string ⟨#[59]⟩] 9)))
 clear hp1 ht1 hl1
 go_wp2_with fail
 refine A2.out.mono ?_;rintro e w2 ⟨rfl,hp2,ht2⟩
 have P2:=LH hp2
 have T2:=LH (T1.out.trans ht2)
 clear hp2 ht2
 go_wp2_with fail
 go_ret
 exact⟨w2.heap.size,rfl,heap_alloc_new _ _,T2.out.chg.size,f1,fun e=>by have:=P2.out.lt _ e;omega,P2.out.keptN ((Chg.refl [] _).alloc _),T2.out.same ((Chg.refl [] _).alloc _)⟩
theorem stmt_ret (n0:nextB T i 2 [⟨#[108,101,116]⟩,⟨#[105,102]⟩,⟨#[119,104,105,108,101]⟩,⟨#[114,101,116,117,114,110]⟩]=true) (ho:(tkAt T i).text=⟨#[114,101,116,117,114,110]⟩) (hx:ExpC 217 b T tv en (i+1) P j N r) (n1:nextB T j 5 [⟨#[59]⟩]=true) (hN:(P.nodes++N).length≤1000):ExpC 146 b T tv en i P (j+1) (N++[⟨17,⟨#[]⟩,0,[],[r]⟩]) (P.nodes++N).length:=by
 intro f w h
 have A1:=LH (takeB_yes (w:=w.alloc (.cells #[.string ⟨#[108,101,116]⟩, .string ⟨#[105,102]⟩, .string ⟨#[119,104,105,108,101]⟩, .string ⟨#[114,101,116,117,114,110]⟩] 9)) (h.keptN ((Chg.refl [] _).alloc _)) (heap_alloc_new w _) (fun e=>by have:=h.lt _ e;omega) (L:=[⟨#[108,101,116]⟩,⟨#[105,102]⟩,⟨#[119,104,105,108,101]⟩,⟨#[114,101,116,117,114,110]⟩]) (by simp[skC]) rfl (by decide) n0)
 rw[ho]at A1
 clear h ho n0
 have HX:=LH hx
 have HNN:=LH hN
 obtain⟨R,hR⟩:∃R:Int,R=(P.nodes++N).length:=⟨_,rfl⟩
 rw[←hR]
 have HRR:=LH hR
 clear hx hN hR
 generalize (tkAt T i).kind=tk at*
 generalize (tkAt T i).n=tn at*
 generalize (tkAt T i).at'=tp at*
 go_enter Tryz.func146,Tryz.ntmps146
 go_wp2_with fail
 refine A1.out.mono ?_;rintro e w1 ⟨rfl,hp1,ht1⟩
 have A2:=LH (value_any HX.out n1 (hp1.keptN ((Chg.refl [] w1).alloc (.cells #[.int .i64 tk, .string ⟨#[114,101,116,117,114,110]⟩, .int .i64 tn, .int .i64 tp] 224))))
 have T1:=LH ((((Tr.refl f w).same ((Chg.refl [] w).alloc _)).trans ht1).same ((Chg.refl [] w1).alloc (.cells #[.int .i64 tk, .string ⟨#[114,101,116,117,114,110]⟩, .int .i64 tn, .int .i64 tp] 224)))
 clear hp1 ht1
 go_wp2_with fail
 refine A2.out.mono ?_;rintro e w2 ⟨q,rfl,hq,hq2,f2,hq3,hp2,ht2⟩
 have A3:=LH (addK hp2 17 ⟨#[]⟩ 0 hq hq3 (l:=[r]) (by simp[icI]) rfl (by simp) HNN.out)
 have T2:=LH (T1.out.trans ht2)
 have HQ:=LH (show w.heap.size≤q from Nat.le_trans T1.out.chg.size hq2)
 clear hp2 ht2 hq hq2 hq3
 go_wp2_with fail
 refine A3.out.mono ?_;rintro e w3 ⟨rfl,f3,hp3,hc3,ho3⟩
 have P3:=LH hp3
 have T3:=LH (show Tr f w f3 w3 from⟨T2.out.chg.then hc3 (fun y hy hlt=>(T2.out.own y hy).resolve_right (by omega)),fun y hy=>by
  rcases ho3 y hy with h|h|h
  ·exact T2.out.own y h
  ·subst h;exact .inr HQ.out
  ·exact .inr (Nat.le_trans T2.out.chg.size h)⟩)
 clear hp3 hc3 ho3
 go_wp2_with fail
 go_ret
 exact⟨retI (by have:=HRR.out;simp only[List.length_append,Int.natCast_add]at this;omega),f3,by have:=P3.out;simpa only[List.append_assoc]using this,T3.out⟩
theorem intInfoD:(Tryz.prog.info? 3).map (fun i=>(i.zero,i.size,i.bytes))=some (some (.int .i64 0),1,8):=by kernel_rfl
theorem block_one (n0:nextB T i 5 [⟨#[123]⟩]=true) (n1:nextB T (i+1) 5 [⟨#[125]⟩]=false) (hx:ExpC 146 b T tv en (i+1) P j N r) (n2:nextB T j 5 [⟨#[125]⟩]=true) (hN:(P.nodes++N).length≤1000):ExpC 85 b T tv en i P (j+1) (N++[⟨19,⟨#[]⟩,0,[],[r]⟩]) (P.nodes++N).length:=by
 intro f w h
 have A1:=LH (mustB_yes (w:=w.alloc (.cells #[.string ⟨#[123]⟩] 9)) (h.keptN ((Chg.refl [] _).alloc _)) (heap_alloc_new w _) (fun e=>by have:=h.lt _ e;omega) (L:=[⟨#[123]⟩]) (by simp[skC]) rfl (by decide) n0)
 have C0:=LH ((Tr.refl f w).same ((Chg.refl [] w).alloc (.cells #[.string ⟨#[123]⟩] 9)))
 clear h n0
 have HX:=LH hx
 have HNN:=LH hN
 obtain⟨R,hR⟩:∃R:Int,R=(P.nodes++N).length:=⟨_,rfl⟩
 rw[←hR]
 have HRR:=LH hR
 clear hx hN hR
 go_enter Tryz.func85,Tryz.ntmps85
 go_wp2_with fail
 refine A1.out.mono ?_;rintro e w1 ⟨rfl,hp1,ht1⟩
 have P1:=LH hp1
 have T1:=LH (C0.out.trans ht1)
 clear hp1 ht1
 go_wp2_with fail
 go_loopw [3] (fun v wr=>(v= .slice none 0 0∧wr=w1)∨∃a c,v= .slice a 1 c∧∃f5,Hid (PaJ b T tv en j ⟨P.nodes++N,P.funcs⟩ f5 wr)∧Hid (Tr f w f5 wr)∧Hid (RowOf icI 1 wr w.heap.size 3 (.slice a 1 c) [r]∧∀y,(Value.slice a 1 c).ownBlock=some y→y∉f5)) (fun v _=>1-lenOf v)
 case atStart=>exact .inl ⟨rfl,rfl⟩
 case round=>
  rcases hrel with ⟨rfl,rfl⟩|⟨a,c,rfl,f5,P5,T5,K5⟩
  ·have hl1:=P1.out.lt
   have A2:=LH (takeB_no (w:=wr.alloc (.cells #[.string ⟨#[125]⟩] 9)) (P1.out.keptN ((Chg.refl [] _).alloc _)) (heap_alloc_new wr _) (fun e=>by have:=hl1 _ e;omega) (L:=[⟨#[125]⟩]) (by simp[skC]) rfl (by decide) n1)
   clear hl1
   go_wp2_with fail
   refine A2.out.mono ?_;rintro e w2 ⟨rfl,hc2⟩
   have C2:=LH ((((Chg.refl [] wr).alloc (.cells #[.string ⟨#[125]⟩] 9)).thenSame hc2).alloc (.cells #[.int .i64 0, .string ⟨#[]⟩, .int .i64 0, .int .i64 0] 224))
   clear hc2
   go_wp2_with fail
   refine(HX.out _ _ (P1.out.keptN C2.out)).mono ?_;rintro e w3 ⟨rfl,f3,hp3,ht3⟩
   have P3:=LH hp3
   have T3:=LH ((T1.out.same C2.out).trans ht3)
   have hw3:=T3.out.chg.size
   clear hp3 ht3
   go_wp2_with (at_builtin;refine wpl_append rfl _ _ 77 rfl w3.heap.size 3 _ 8 Tryz.underlying77 intInfoD rfl (by decide) icI_len1 icI_one1 (.slice none 0 0) [] rfl (RowOf.nil _ _ _) w3.heap.size _ r _ _ _ rfl (heap_alloc_new w3 _) rfl (by unfold maxLen;decide) (by decide) (by rw[World.size_alloc];omega) ?_;intro v4 w4 hr4 hg4;obtain⟨a4,c4,rfl⟩:=RowOf.shape hr4;have R4:=LH hr4;have G4:=LH (chg_grown hg4);clear hr4 hg4)
   have C4:=LH (show Chg [] w3 w4 from((Chg.refl [] w3).alloc _).thenSame G4.out)
   refine⟨.inr ⟨a4,c4,rfl,f3,LH (P3.out.keptN C4.out),LH (T3.out.same C4.out),LH ⟨R4.out.mono hw3,fun y hy e=> ?_⟩⟩,by simp[lenOf]⟩
   have h1:=(R4.out.block y hy).1
   have h2:=P3.out.lt y e
   omega
  ·have hl5:=P5.out.lt
   have A6:=LH (takeB_yes (w:=wr.alloc (.cells #[.string ⟨#[125]⟩] 9)) (P5.out.keptN ((Chg.refl [] _).alloc _)) (heap_alloc_new wr _) (fun e=>by have:=hl5 _ e;omega) (L:=[⟨#[125]⟩]) (by simp[skC]) rfl (by decide) n2)
   clear hl5
   generalize tkAt T j=t at*
   obtain⟨tk,tt,tn,tp⟩:=t
   simp only at A6
   go_wp2_with fail
   refine A6.out.mono ?_;rintro e w6 ⟨rfl,hp6,ht6⟩
   have K6:=LH (show RowOf icI 1 w6 w.heap.size 3 (.slice a 1 c) [r]from K5.out.1.kept (((Chg.refl f5 wr).alloc _).thenSame ht6.chg) K5.out.2)
   have C7:=LH ((Chg.refl [] w6).alloc (.cells #[.int .i64 tk, .string tt, .int .i64 tn, .int .i64 tp] 224))
   have A8:=LH (addJ (g2:=(Value.slice a 1 c).ownBlock.toList) (d:=⟨19,⟨#[]⟩,0,none,0,[],a,c,[r]⟩) (hp6.keptN C7.out) ⟨⟨RowOf.nil _ _ _,fun y hy=>by simp[Value.ownBlock]at hy⟩,⟨(K6.out.mono (Nat.zero_le _)).kept C7.out (by simp),fun y hy=>by simpa using hy⟩⟩ (fun y hy=>⟨Nat.lt_of_lt_of_le (K6.out.block y (by simpa using hy)).2 C7.out.size,K5.out.2 y (by simpa using hy)⟩) HNN.out)
   have T6:=LH ((T5.out.same ((Chg.refl [] wr).alloc _)).trans ht6)
   clear hp6 ht6
   go_wp2_with fail
   refine A8.out.mono ?_;rintro e w8 ⟨rfl,f8,hp8,hc8,ho8⟩
   have P8:=LH hp8
   have T8:=LH (show Tr f w f8 w8 from⟨(T6.out.same C7.out).chg.then hc8 (fun y hy hlt=>(T6.out.own y hy).resolve_right (by omega)),fun y hy=>by
    rcases ho8 y hy with h|h|h
    ·exact T6.out.own y h
    ·exact .inr (K6.out.block y (by simpa using h)).1
    ·exact .inr (Nat.le_trans (T6.out.same C7.out).chg.size h)⟩)
   clear hp8 hc8 ho8
   go_wp2_with fail
   go_ret
   exact⟨retI (by have:=HRR.out;simp only[List.length_append,Int.natCast_add]at this;omega),f8,by rw[←List.append_assoc];exact P8.out,T8.out⟩
def dN:List PNd:=[⟨5,dE,0,[],[]⟩,⟨5,dE,0,[],[]⟩,⟨9,⟨#[43]⟩,0,[],[0,1]⟩,⟨17,⟨#[]⟩,0,[],[2]⟩,⟨19,⟨#[]⟩,0,[],[3]⟩]
theorem block_dbl:ExpC 85 b dT tv en 5 ⟨[],[]⟩ 12 dN 4:=block_one (by decide+kernel) (by decide+kernel) (stmt_ret (by decide+kernel) (by decide+kernel) expr_dbl (by decide+kernel) (by simp)) (by decide+kernel) (by simp)
end
section
open Go.RowKit
variable {b:Nat} {T:List Tk} {tv:Value} {en:Int} {at':Nat} {x:Pr} {g g2 f f' S:List Nat} {w w':World} {P:PPr} {i j:Nat} {N:List PNd} {r:Int}
theorem strInfoD:(Tryz.prog.info? 9).map (fun i=>(i.zero,i.size,i.bytes))=some (some (.string ⟨#[]⟩),1,16):=by kernel_rfl
theorem prog1_fin {fb q c:Nat} {w2 w8:World} {s nm:ByteArray} {o:Obj} (hl:∀y∈f,y<w.heap.size) (hf:fb<w.heap.size) (hfb:fb∉f) (P2:PaJ b T tv en (i+1) P f w2) (T2:Tr f w.drew f w2) (G8:Chg (Value.slice none 0 0).ownBlock.toList (w2.alloc o) w8) (R8:RowOf skC 1 w8 w.heap.size 9 (.slice (some ⟨q,0,none⟩) (([]:List ByteArray).length+1) c) ([]++[s])) (F8:w8.heap[fb]? =some (.cells #[.string nm, .slice none 0 0, .int .i64 0] 130 (0,0))):
 (w8.setCell ⟨fb,1,none⟩ (.slice (some ⟨q,0,none⟩) 1 c)).heap[fb]? =some (.cells #[.string nm, .slice (some ⟨q,0,none⟩) 1 c, .int .i64 0] 130 (0,0))∧RowOf skC 1 (w8.setCell ⟨fb,1,none⟩ (.slice (some ⟨q,0,none⟩) 1 c)) w.heap.size 9 (.slice (some ⟨q,0,none⟩) 1 c) [s]∧PaJ b T tv en (i+1) P f (w8.setCell ⟨fb,1,none⟩ (.slice (some ⟨q,0,none⟩) 1 c))∧Chg (fb::f) w (w8.setCell ⟨fb,1,none⟩ (.slice (some ⟨q,0,none⟩) 1 c)):=by
 have hc8:Chg [] w2 w8:=((Chg.refl [] w2).alloc o).thenSame G8
 have hc9:Chg [fb] w8 (w8.setCell ⟨fb,1,none⟩ (.slice (some ⟨q,0,none⟩) 1 c)):=(Chg.refl _ _).setCell _ _ (fun _=>by simp)
 refine⟨blk_set F8 1 _, ?_,(P2.keptN hc8).kept hc9 (fun y hy e=>by simp at e;subst e;exact hfb hy), ?_⟩
 ·refine RowOf.kept R8 hc9 (fun y hy e=> ?_)
  have:=(R8.block y hy).1
  simp at e
  omega
 ·have h1:Chg f w w2:=(Chg.refl f w).drew.thenSame T2.chg
  exact(h1.then hc8 (by simp)).trans hc9 (fun y hy _=>by simp[hy]) (fun y hy _=>by simp at hy;simp[hy])
theorem prog1_any (h:PaJ b T tv en i P f w) (hn:nextB T i 1 []=true) {s nm:ByteArray} (hs:(tkAt T i).text=s) {fb tb:Nat} (hf:w.heap[fb]? =some (.cells #[.string nm, .slice none 0 0, .int .i64 0] 130 (0,0))) (hb:w.heap[tb]? =some (.cells #[.pointer (some ⟨b,0,none⟩)] 119 (0,0))) (hfb:fb∉f) (htb:tb∉f):
 Calls Tryz.prog 84 #[.pointer (some ⟨fb,0,none⟩), .pointer (some ⟨tb,0,none⟩)] w fun e w'=>e= .returned (.tuple #[])∧∃q c,w'.heap[fb]? =some (.cells #[.string nm, .slice (some ⟨q,0,none⟩) 1 c, .int .i64 0] 130 (0,0))∧RowOf skC 1 w' w.heap.size 9 (.slice (some ⟨q,0,none⟩) 1 c) [s]∧PaJ b T tv en (i+1) P f w'∧Chg (fb::f) w w':=by
 have A1:=LH (mustN_yes (h.keptN (Chg.refl [] w).drew) hn)
 rw[hs]at A1
 generalize (tkAt T i).kind=tk at*
 generalize (tkAt T i).n=tn at*
 generalize (tkAt T i).at'=tp at*
 have HF:=LH hf
 have HB:=LH hb
 have k1:=blk_cell hf
 have k2:=blk_cell hb
 have l1:=lt_of_heap hf
 have l2:=lt_of_heap hb
 have HL:=LH h.lt
 clear h hf hb hs
 have hfl:∀(w:World),(Instr.field 224 (.agg #[.int .i64 tk, .string s, .int .i64 tn, .int .i64 tp]) 1).run Tryz.prog w= .ok (.string s) w:=fun w=>by kernel_rfl
 go_enter Tryz.func84,Tryz.ntmps84
 go_wp2_with fail
 go_region_law (first
  |(show(if _ then Oper.wp _ ⟨_,Op.call ⟨Callee.builtin Builtin.append,_,_⟩,_,_,_,_⟩ _ _ _ _ else _);refine step_appendR rfl _ _ 92 rfl w.heap.size 9 _ 16 Tryz.underlying92 strInfoD rfl (by decide) skC_len skC_one (.slice none 0 0) [] rfl (RowOf.nil _ _ _) w2.heap.size 1 s _ 9 (0,0) rfl (heap_alloc_new w2 _) rfl (by unfold maxLen;decide) (by decide) (Nat.le_trans T2.out.chg.size (by simp)) ?_;intro q8 c8 w8 hr8 hg8 ho8 hl8;have G8:=LH (chg_grown (v:= .slice none 0 0) hg8);have R8:=LH hr8;have F8:=LH (G8.out.at (by simp[Value.ownBlock]) (blk_alloc (o':= .cells #[.string s] 9) F2.out));have k8:=blk_cell F8.out;have f8:=blk_free F8.out;have l8:=lt_of_heap F8.out;clear hr8 hg8 ho8 hl8)
  |(show(if _ then Oper.wp _ ⟨_,Op.call ⟨Callee.value (Operand.func 82),_,_⟩,_,_,_,_⟩ _ _ _ _ else _);refine(if_pos (by simp[Region.wanted])).mpr ?_;go_simp;refine A1.out.mono ?_;rintro e w2 ⟨rfl,hp2,ht2⟩;have P2:=LH hp2;have T2:=LH ht2;have F2:=LH (ht2.at hfb HF.out).1;have k3:=blk_cell F2.out;have l3:=lt_of_heap F2.out;clear hp2 ht2)
  |fail)
 all_goals go_wp2_with fail
 all_goals go_end0
 all_goals exact⟨rfl,q8,c8,prog1_fin HL.out l1 hfb P2.out T2.out G8.out R8.out F8.out⟩
theorem list_one (h:PaJ b T tv en i P f w) (n0:nextB T i 5 [⟨#[41]⟩]=false) (hn:nextB T i 1 []=true) {s nm:ByteArray} (hs:(tkAt T i).text=s) (n2:nextB T (i+1) 5 [⟨#[44]⟩,⟨#[41]⟩]=true) (ho:(tkAt T (i+1)).text=⟨#[41]⟩) {fb tb:Nat} (hf:w.heap[fb]? =some (.cells #[.string nm, .slice none 0 0, .int .i64 0] 130 (0,0))) (hb:w.heap[tb]? =some (.cells #[.pointer (some ⟨b,0,none⟩)] 119 (0,0))) (hfb:fb∉f) (htb:tb∉f):
 Calls Tryz.prog 83 #[.pointer (some ⟨b,0,none⟩), .string ⟨#[41]⟩, .func (.func 84) #[] #[.pointer (some ⟨fb,0,none⟩), .pointer (some ⟨tb,0,none⟩)]] w fun e w'=>e= .returned (.tuple #[])∧∃q c,w'.heap[fb]? =some (.cells #[.string nm, .slice (some ⟨q,0,none⟩) 1 c, .int .i64 0] 130 (0,0))∧RowOf skC 1 w' w.heap.size 9 (.slice (some ⟨q,0,none⟩) 1 c) [s]∧PaJ b T tv en (i+2) P f w'∧Chg (fb::f) w w':=by
 have A1:=LH (takeB_no (w:=w.alloc (.cells #[.string ⟨#[41]⟩] 9)) (h.keptN ((Chg.refl [] _).alloc _)) (heap_alloc_new w _) (fun e=>by have:=h.lt _ e;omega) (L:=[⟨#[41]⟩]) (by simp[skC]) rfl (by decide) n0)
 have A2:=LH (fun w' (hc:Chg [] w w')=>prog1_any (h.keptN hc) hn hs (hc.at (by simp) hf) (hc.at (by simp) hb) hfb htb)
 have HF:=LH (lt_of_heap hf)
 have HL:=LH h.lt
 clear h hf hb hs
 go_enter Tryz.func83,Tryz.ntmps83
 go_wp2_with fail
 refine A1.out.mono ?_;rintro e w1 ⟨rfl,hc1⟩
 have C1:=LH ((((Chg.refl [] w).alloc (.cells #[.string ⟨#[41]⟩] 9)).thenSame hc1).alloc (.cells #[.int .i64 0, .string ⟨#[]⟩, .int .i64 0, .int .i64 0] 224))
 clear hc1
 go_wp2_with fail
 go_loopw [8] (fun _ wr=>wr=w1.alloc (.cells #[.int .i64 0, .string ⟨#[]⟩, .int .i64 0, .int .i64 0] 224)) (fun _ _=>0)
 case atStart=>exact rfl
 case round=>
  obtain rfl:=hrel
  go_wp2_with fail
  refine(A2.out _ C1.out).mono ?_;rintro e w2 ⟨rfl,q,c,hf2,hr2,hp2,hc2⟩
  have hl2:=hp2.lt
  have A3:=LH (mustB_yes (w:=w2.alloc (.cells #[.string ⟨#[44]⟩, .string ⟨#[41]⟩] 9)) (hp2.keptN ((Chg.refl [] _).alloc _)) (heap_alloc_new w2 _) (fun e=>by have:=hl2 _ e;omega) (L:=[⟨#[44]⟩,⟨#[41]⟩]) (by simp[skC]) rfl (by decide) n2)
  rw[ho]at A3
  generalize (tkAt T (i+1)).kind=tk at*
  generalize (tkAt T (i+1)).n=tn at*
  generalize (tkAt T (i+1)).at'=tp at*
  have F2:=LH (blk_alloc (o':= .cells #[.string ⟨#[44]⟩, .string ⟨#[41]⟩] 9) hf2)
  have R2:=LH (hr2.kept ((Chg.refl [] w2).alloc (.cells #[.string ⟨#[44]⟩, .string ⟨#[41]⟩] 9)) (by simp))
  have C2:=LH (show Chg (fb::f) w (w2.alloc (.cells #[.string ⟨#[44]⟩, .string ⟨#[41]⟩] 9))from((C1.out.mono (by simp)).thenSame hc2).alloc _)
  have QF:=LH (show q∉f from fun e=>by
   have h1:=(hr2.block q rfl).1
   have h2:=C1.out.size
   have h3:=HL.out q e
   omega)
  clear hf2 hr2 hp2 hc2 hl2
  go_wp2_with fail
  refine A3.out.mono ?_;rintro e w3 ⟨rfl,hp3,ht3⟩
  have C3:=LH ((Chg.refl [] w3).alloc (.cells #[.int .i64 tk, .string ⟨#[41]⟩, .int .i64 tn, .int .i64 tp] 224))
  have F3:=LH (ht3.at hfb F2.out).1
  have R3:=LH (R2.out.kept ht3.chg (fun y hy=>by simp[Value.ownBlock]at hy;subst hy;exact QF.out))
  have C4:=LH (show Chg (fb::f) w w3 from C2.out.then ht3.chg (fun y hy _=>by simp[hy]))
  have P3:=LH hp3
  clear hp3 ht3
  go_wp2_with fail
  refine bodyPost_ret (results_none rfl _ _ _) rfl ?_
  exact⟨rfl,q,c,C3.out.at (by simp) F3.out,(R3.out.mono C1.out.size).kept C3.out (by simp),P3.out.keptN C3.out,C4.out.then C3.out (by simp)⟩
end
section
open Go.RowKit
variable {b:Nat} {T:List Tk} {tv:Value} {en:Int} {at':Nat} {x:Pr} {g g2 f f' S:List Nat} {w w':World} {P:PPr} {i j:Nat} {N:List PNd} {r:Int}
theorem fnInfoD:(Tryz.prog.info? 130).map (fun i=>(i.zero,i.size,i.bytes))=some (some (.agg #[.string ⟨#[]⟩, .slice none 0 0, .int .i64 0]),3,48):=by kernel_rfl
def addFd (x:Pr) (d:Fn') (a:Option Addr) (c:Nat):Pr:=⟨x.na,x.nc,x.nodes,a,c,x.funcs++[d]⟩
theorem addF_fin (h:PaAt b T tv en at' x g w) {d:Fn'} (hd:FnG g2 w d) (hg2:∀y∈g2,y<w.heap.size∧y∉ownP b tv x) {W:World} (hW:Chg [] w W) {g' cap:Nat} {w6:World} (hr:RowOf fnC 3 w6 0 130 (.slice (some ⟨g',0,none⟩) (x.funcs.length+1) cap) (x.funcs++[d])) (hg:Chg (fvOf x).ownBlock.toList W w6) (ho:(fvOf x).ownBlock=some g'∨g'=W.heap.size):
 PaAt b T tv en at' (addFd x d (some ⟨g',0,none⟩) cap) (g++g2) (w6.setCell ⟨b,4,none⟩ (.slice (some ⟨g',0,none⟩) (x.funcs.length+1) cap))∧Chg (b::(fvOf x).ownBlock.toList) w (w6.setCell ⟨b,4,none⟩ (.slice (some ⟨g',0,none⟩) (x.funcs.length+1) cap))∧∀y∈ownP b tv (addFd x d (some ⟨g',0,none⟩) cap),y∈ownP b tv x∨w.heap.size≤y:=by
 have hlt:=ownP_lt h
 obtain⟨q1,q2,q3⟩:=nodup_b h
 have hnd:=h.nodup
 simp only[ownP,List.nodup_cons,List.nodup_append,List.mem_append,Option.mem_toList]at hnd
 obtain⟨-, -,⟨-, -,n4⟩,n5⟩:=hnd
 have n6:∀y,(fvOf x).ownBlock=some y→tv.ownBlock≠some y:=fun y hy e=>n5 y e y (.inr hy) rfl
 have n7:∀y,(fvOf x).ownBlock=some y→(nvOf x).ownBlock≠some y:=fun y hy e=>n4 y e y hy rfl
 have hfv:fvOf (addFd x d (some ⟨g',0,none⟩) cap)= .slice (some ⟨g',0,none⟩) (x.funcs.length+1) cap:=by simp[fvOf,addFd]
 have hnv:nvOf (addFd x d (some ⟨g',0,none⟩) cap)=nvOf x:=rfl
 have hnb:(Value.slice (some ⟨g',0,none⟩) (x.funcs.length+1) cap).ownBlock=some g':=rfl
 have hWs:=hW.size
 have hgb:g'≠b:=by
  rcases ho with e|e
  ·exact q3 _ e
  ·have:=hlt b (by simp[ownP]);omega
 have hc6:Chg (fvOf x).ownBlock.toList w w6:=(hW.mono (by simp)).thenSame hg
 have hc7:Chg [b] w6 (w6.setCell ⟨b,4,none⟩ (.slice (some ⟨g',0,none⟩) (x.funcs.length+1) cap)):=(Chg.refl _ _).setCell _ _ (fun _=>by simp)
 have hc:Chg (b::(fvOf x).ownBlock.toList) w (w6.setCell ⟨b,4,none⟩ (.slice (some ⟨g',0,none⟩) (x.funcs.length+1) cap)):=hc6.trans hc7 (fun y hy _=>by simp[hy]) (fun y hy _=>by simp at hy;simp[hy])
 have hS:∀y,y∈(b::(fvOf x).ownBlock.toList)→y∈ownP b tv x:=fun y hy=>by
  simp only[List.mem_cons,Option.mem_toList]at hy
  rcases hy with rfl|hy<;>simp[ownP, *]
 have hbl:=hc6.at (by intro e;exact q3 b (by simpa using e) rfl) h.blk
 refine⟨⟨?_, ?_, ?_, ?_, ?_, ?_, ?_, ?_, ?_⟩,hc, ?_⟩
 ·rw[hnv,hfv];exact blk_set hbl 4 _
 ·exact h.tk.kept hc (fun y hy e=>by
   simp only[List.mem_cons,Option.mem_toList]at e
   rcases e with e|e
   ·exact q1 y hy e
   ·exact n6 y e hy)
 ·rw[hnv];exact h.nd.kept hc (fun y hy e=>by
   simp only[List.mem_cons,Option.mem_toList]at e
   rcases e with e|e
   ·exact q2 y hy e
   ·exact n7 y e hy)
 ·rw[hfv];exact hr.kept hc7 (fun y hy e=>by simp[Value.ownBlock]at hy;simp at e;omega)
 ·intro d' hd'
  exact((h.nds d' hd').kept hc (fun y hy e=>h.apart y hy (hS y e))).mono (fun y hy=>List.mem_append_left _ hy)
 ·intro d' hd'
  rcases List.mem_append.1 hd' with hd'|hd'
  ·exact((h.fns d' hd').kept hc (fun y hy e=>h.apart y hy (hS y e))).mono (fun y hy=>List.mem_append_left _ hy)
  ·simp at hd';subst hd'
   exact(hd.kept hc (fun y hy e=>(hg2 y hy).2 (hS y e))).mono (fun y hy=>List.mem_append_right _ hy)
 ·have h0:=h.nodup
  have h1:(fvOf (addFd x d (some ⟨g',0,none⟩) cap)).ownBlock.toList=[g']:=by rw[hfv];rfl
  unfold ownP at h0⊢
  rw[h1,hnv]
  simp only[List.nodup_cons,List.nodup_append,List.mem_append,Option.mem_toList,List.mem_singleton]at h0⊢
  obtain⟨m1,m2,⟨m3, -,m4⟩,m5⟩:=h0
  have hg1:tv.ownBlock≠some g':=by
   rcases ho with e|e
   ·exact n6 g' e
   ·intro q;have:=hlt g' (by simp[ownP,q]);omega
  have hg3:(nvOf x).ownBlock≠some g':=by
   rcases ho with e|e
   ·exact n7 g' e
   ·intro q;have:=hlt g' (by simp[ownP,q]);omega
  refine⟨fun e=> ?_,m2,⟨m3,⟨by simp,by simp⟩,fun a ha c hc e=> ?_⟩,fun a ha c hc e=> ?_⟩
  ·rcases e with e|e|e
   ·exact m1 (.inl e)
   ·exact m1 (.inr (.inl e))
   ·exact hgb e.symm
  ·subst hc;subst e;exact hg3 ha
  ·rcases hc with hc|hc
   ·exact m5 a ha c (.inl hc) e
   ·subst hc;subst e;exact hg1 ha
 ·intro y hy e
  have hy2:y∈ownP b tv x∨w.heap.size≤y:=by
   simp only[ownP,hnv,hfv,hnb,List.mem_cons,List.mem_append,Option.mem_toList,Option.some.injEq]at e
   rcases e with e|e|e|e
   ·left;simp[ownP,e]
   ·left;simp[ownP,e]
   ·left;simp[ownP,e]
   ·rcases ho with q|q
    ·left;simp[ownP,q,e]
    ·right;omega
  rcases List.mem_append.1 hy with hy|hy
  ·rcases hy2 with q|q
   ·exact h.apart y hy q
   ·have:=h.glt y hy;omega
  ·rcases hy2 with q|q
   ·exact(hg2 y hy).2 q
   ·have:=(hg2 y hy).1;omega
 ·intro y hy
  rcases List.mem_append.1 hy with hy|hy
  ·exact hc.lt (h.glt y hy)
  ·exact hc.lt (hg2 y hy).1
 ·intro y e
  simp only[ownP,hnv,hfv,hnb,List.mem_cons,List.mem_append,Option.mem_toList,Option.some.injEq]at e
  rcases e with e|e|e|e
  ·left;simp[ownP,e]
  ·left;simp[ownP,e]
  ·left;simp[ownP,e]
  ·rcases ho with q|q
   ·left;simp[ownP,q,e]
   ·right;omega
theorem progF_fin {x7:Pr} {g7 f6:List Nat} {q5 c5 c:Nat} {a:Option Addr} {W7 w9:World} (hx:x7.p=⟨dN,[]⟩) (hf:f6=ownP b tv x7++g7) (T7:Tr f w f6 W7) (hq:w.heap.size≤q5) (FN:PaAt b T tv en at' (addFd x7 ⟨dMain,some ⟨q5,0,none⟩,c5,[dE],4⟩ a c) (g7++[q5]) w9∧Chg (b::(fvOf x7).ownBlock.toList) W7 w9∧∀y∈ownP b tv (addFd x7 ⟨dMain,some ⟨q5,0,none⟩,c5,[dE],4⟩ a c),y∈ownP b tv x7∨W7.heap.size≤y):
 ∃f9,PaJ b T tv en at' ⟨dN,[⟨dMain,[dE],4⟩]⟩ f9 w9∧Tr f w f9 w9:=by
 obtain⟨h1,h2,h3⟩:=FN
 have hs:=T7.chg.size
 refine⟨_,⟨_,_, ?_,h1,rfl⟩,T7.chg.then h2 (fun y hy hlt=> ?_),fun y hy=> ?_⟩
 ·simp only[Pr.p,PPr.mk.injEq,List.map_eq_nil_iff]at hx⊢
  simp[addFd,hx.1,hx.2,Fn'.p]
 ·have:y∈f6:=by
   rw[hf]
   apply List.mem_append_left
   simp only[List.mem_cons,Option.mem_toList]at hy
   rcases hy with rfl|hy<;>simp[ownP, *]
  exact(T7.own y this).resolve_right (by omega)
 ·rcases List.mem_append.1 hy with hy|hy
  ·rcases h3 y hy with q|q
   ·exact T7.own y (hf▸List.mem_append_left _ q)
   ·exact .inr (by omega)
  ·rcases List.mem_append.1 hy with hy|hy
   ·exact T7.own y (hf▸List.mem_append_right _ hy)
   ·simp at hy;subst hy;exact .inr hq
def ptrN:Value→Nat
 | .pointer _=>0
 |_=>1
theorem program_dbl (h:PaJ b dT tv en 0 ⟨[],[]⟩ f w):Calls Tryz.prog 30 #[.pointer (some ⟨b,0,none⟩)] w fun e w'=>e= .returned (.tuple #[])∧∃f',PaJ b dT tv en 12 ⟨dN,[⟨dMain,[dE],4⟩]⟩ f' w'∧Tr f w f' w':=by
 have hmf:∀(fn:Fn) (first cap:Array Value) (w:World),(Instr.makeFunc fn first cap).run Tryz.prog w= .ok (.func fn first cap) w:=fun _ _ _ _=>rfl
 have P0:=LH (h.keptN ((Chg.refl [] w).alloc (.cells #[.pointer (some ⟨b,0,none⟩)] 119)))
 have B0:=LH (heap_alloc_new w (.cells #[.pointer (some ⟨b,0,none⟩)] 119))
 have TB:=LH (show w.heap.size∉f from fun e=>by have:=h.lt _ e;omega)
 have T0:=LH ((Tr.refl f w).same ((Chg.refl [] w).alloc (.cells #[.pointer (some ⟨b,0,none⟩)] 119)))
 obtain⟨W0,hW0⟩:∃W0,W0=w.alloc (.cells #[.pointer (some ⟨b,0,none⟩)] 119):=⟨_,rfl⟩
 rw[←hW0]at P0 B0 T0
 have HW0:=LH hW0
 obtain⟨ta,tc,htv⟩:∃ta tc,tv= .slice ta 12 tc:=by
  obtain⟨x,g, -,h1, -⟩:=h
  obtain⟨ta,tc,e⟩:=RowOf.shape h1.tk
  exact⟨ta,tc,e⟩
 clear h hW0
 obtain⟨tb,htb⟩:∃tb,tb=w.heap.size:=⟨_,rfl⟩
 have HTB:=LH htb
 rw[←htb]at B0 TB
 clear htb
 go_enter Tryz.func30,Tryz.ntmps30
 go_wp2_with fail
 rw[←HW0.out,←HTB.out]
 go_wp2_with fail
 go_loopw [2] (fun v wr=>(v=undef∧wr=W0)∨((∃a,v= .pointer a)∧∃f5,Hid (PaJ b dT tv en 12 ⟨dN,[⟨dMain,[dE],4⟩]⟩ f5 wr)∧Hid (Tr f w f5 wr)∧Hid (wr.heap[tb]? =some (.cells #[.pointer (some ⟨b,0,none⟩)] 119 (0,0))))) (fun v _=>ptrN v)
 case atStart=>exact .inl ⟨rfl,rfl⟩
 case round=>
  rcases hrel with ⟨rfl,rfl⟩|⟨⟨a,rfl⟩,f5,P5,T5,B5⟩
  ·have kb0:=blk_cell B0.out
   have lb0:=lt_of_heap B0.out
   obtain⟨x,g, -,h1, -⟩:=P0.out
   have k0:=blk_cell h1.blk
   have l0:=lt_of_heap h1.blk
   rw[htv]at k0
   clear h1
   go_wp2_with fail
   go_quiet (fail)
   obtain⟨W1,hW1⟩:∃W1,W1=wr.drewN nq:=⟨_,rfl⟩
   rw[←hW1]
   have P1:=LH (show PaJ b dT tv en 0 ⟨[],[]⟩ f W1 from hW1▸P0.out.keptN ((Chg.refl [] _).drewN _))
   have B1:=LH (show W1.heap[tb]? =some (.cells #[.pointer (some ⟨b,0,none⟩)] 119 (0,0))from hW1▸B0.out)
   have T1:=LH (show Tr f w f W1 from hW1▸T0.out.same ((Chg.refl [] _).drewN _))
   have A2:=LH (mustB_yes (w:=W1.alloc (.cells #[.string ⟨#[102,117,110,99]⟩] 9)) (P1.out.keptN ((Chg.refl [] _).alloc _)) (heap_alloc_new W1 _) (fun e=>by have:=P1.out.lt _ e;omega) (L:=[⟨#[102,117,110,99]⟩]) (by simp[skC]) rfl (by decide) (k:=2) (by decide+kernel))
   have kb1:=blk_cell B1.out
   have lb1:=lt_of_heap B1.out
   generalize tkAt dT 0=t0 at*
   obtain⟨t0a,t0b,t0c,t0d⟩:=t0
   simp only at A2
   clear hW1 kb0 lb0 k0 l0
   go_wp2_with fail
   refine A2.out.mono ?_;rintro e w2 ⟨rfl,hp2,ht2⟩
   have B2:=LH (ht2.at TB.out (blk_alloc (o':= .cells #[.string ⟨#[102,117,110,99]⟩] 9) B1.out)).1
   have T2:=LH ((T1.out.same ((Chg.refl [] _).alloc _)).trans ht2)
   have A3:=LH (mustN_yes hp2 (k:=1) (by decide+kernel))
   rw[show(tkAt dT (0+1)).text=dMain from by decide+kernel]at A3
   have kb2:=blk_cell B2.out
   have lb2:=lt_of_heap B2.out
   generalize (tkAt dT (0+1)).kind=t1a at*
   generalize (tkAt dT (0+1)).n=t1c at*
   generalize (tkAt dT (0+1)).at'=t1d at*
   have hfl:∀(w:World),(Instr.field 224 (.agg #[.int .i64 t1a, .string dMain, .int .i64 t1c, .int .i64 t1d]) 1).run Tryz.prog w= .ok (.string dMain) w:=fun w=>by kernel_rfl
   clear hp2 ht2 kb1 lb1
   go_wp2_with fail
   refine A3.out.mono ?_;rintro e w3 ⟨rfl,hp3,ht3⟩
   have hl3:=hp3.lt
   have B3:=LH (blk_alloc (o':= .cells #[.string dMain, .slice none 0 0, .int .i64 0] 130) (ht3.at TB.out B2.out).1)
   have F3:=LH (heap_alloc_new w3 (.cells #[.string dMain, .slice none 0 0, .int .i64 0] 130))
   have UF:=LH (show w3.heap.size∉f from fun e=>by have:=hl3 _ e;omega)
   have T3:=LH ((T2.out.trans ht3).same ((Chg.refl [] w3).alloc (.cells #[.string dMain, .slice none 0 0, .int .i64 0] 130)))
   have A4:=LH (mustB_yes (w:=(w3.alloc (.cells #[.string dMain, .slice none 0 0, .int .i64 0] 130)).alloc (.cells #[.string ⟨#[40]⟩] 9)) (hp3.keptN (((Chg.refl [] _).alloc _).alloc _)) (alloc2_at w3 _ _) (fun e=>by have:=hl3 _ e;omega) (L:=[⟨#[40]⟩]) (by simp[skC]) rfl (by decide) (k:=5) (by decide+kernel))
   have kb3:=blk_cell B3.out
   have lb3:=lt_of_heap B3.out
   have NE:=LH (show tb<w3.heap.size from lt_of_heap (ht3.at TB.out B2.out).1)
   have HS4:=LH (show w.heap.size≤w3.heap.size from(T2.out.trans ht3).chg.size)
   have HFW:=LH (show w.heap.size≤w3.heap.size from(T2.out.trans ht3).chg.size)
   generalize tkAt dT (0+1+1)=t2 at*
   obtain⟨t2a,t2b,t2c,t2d⟩:=t2
   simp only at A4
   clear hp3 ht3 hl3 kb2 lb2
   go_wp2_with fail
   refine A4.out.mono ?_;rintro e w4 ⟨rfl,hp4,ht4⟩
   have B4:=LH (ht4.at TB.out (blk_alloc B3.out)).1
   have F4:=LH (ht4.at UF.out (blk_alloc F3.out)).1
   have T4:=LH ((T3.out.same ((Chg.refl [] _).alloc _)).trans ht4)
   have A5:=LH (list_one hp4 (by decide+kernel) (by decide+kernel) (s:=dE) (by decide+kernel) (by decide+kernel) (by decide+kernel) F4.out B4.out UF.out TB.out)
   have kb4:=blk_cell B4.out
   have lb4:=lt_of_heap B4.out
   have HL4:=LH hp4.lt
   clear hp4 ht4 kb3 lb3
   go_wp2_with fail
   refine A5.out.mono ?_;rintro e w5 ⟨rfl,q5,c5,hf5,hr5,hp5,hc5⟩
   have T5:=LH (show Tr f w f w5 from⟨T4.out.chg.then hc5 (fun y hy hlt=>by
    simp only[List.mem_cons]at hy
    rcases hy with h|h
    ·have:=HFW.out;omega
    ·exact h),fun y hy=> .inl hy⟩)
   have B5:=LH (hc5.at (by simp only[List.mem_cons,not_or];exact⟨by have:=NE.out;omega,TB.out⟩) B4.out)
   have hq5:=(hr5.block q5 rfl)
   have hl5:=hp5.lt
   have Q5:=LH (show q5∉f∧w.heap.size≤q5 from⟨fun e=>by have:=HL4.out q5 e;omega,by have:=T4.out.chg.size;omega⟩)
   have A6:=LH (block_dbl f w5 (show PaJ b dT tv en 5 ⟨[],[]⟩ f w5 from hp5))
   have F5:=LH hf5
   have R5:=LH hr5
   have kb5:=blk_cell B5.out
   have lb5:=lt_of_heap B5.out
   clear hf5 hr5 hp5 hc5 hq5 hl5 kb4 lb4
   go_wp2_with fail
   refine A6.out.mono ?_;rintro e w6 ⟨rfl,f6,hp6,ht6⟩
   have B6:=LH (ht6.at TB.out B5.out).1
   have TB6:=LH (ht6.at TB.out B5.out).2
   have F6:=LH (ht6.at UF.out F5.out)
   have R6:=LH (R5.out.kept ht6.chg (fun y hy=>by simp[Value.ownBlock]at hy;subst hy;exact Q5.out.1))
   have Q6:=LH (show q5∉f6 from fun e=>by
    have:=(R5.out.block q5 rfl).2
    rcases ht6.own q5 e with h|h
    ·exact Q5.out.1 h
    ·omega)
   have T6:=LH (T5.out.trans ht6)
   have P6:=LH hp6
   have kb6:=blk_cell B6.out
   have lb6:=lt_of_heap B6.out
   have kf6:=blk_cell F6.out.1
   have ff6:=blk_free F6.out.1
   have lf6:=lt_of_heap F6.out.1
   clear hp6 ht6 kb5 lb5
   go_wp2_with fail
   obtain⟨W7,hW7⟩:∃W7,W7=w6.setCell ⟨w3.heap.size,2,none⟩ (.int .i64 4):=⟨_,rfl⟩
   rw[←hW7]
   have hc7:Chg [w3.heap.size] w6 W7:=hW7▸(Chg.refl _ _).setCell _ _ (fun _=>by simp)
   have P7:=LH (show PaJ b dT tv en 12 ⟨dN,[]⟩ f6 W7 from P6.out.kept hc7 (fun y hy e=>by simp at e;subst e;exact F6.out.2 hy))
   have B7:=LH (show W7.heap[tb]? =some (.cells #[.pointer (some ⟨b,0,none⟩)] 119 (0,0))from hc7.at (by have:=NE.out;simp;omega) B6.out)
   have F7:=LH (show W7.heap[w3.heap.size]? =some (.cells #[.string dMain, .slice (some ⟨q5,0,none⟩) 1 c5, .int .i64 4] 130 (0,0))from hW7▸blk_set F6.out.1 2 _)
   have R7:=LH (show RowOf skC 1 W7 w4.heap.size 9 (.slice (some ⟨q5,0,none⟩) 1 c5) [dE]from R6.out.kept hc7 (fun y hy e=>by
    simp[Value.ownBlock]at hy e
    have h1:=(R6.out.block q5 rfl).1
    have h2:=lt_of_heap F4.out
    omega))
   have T7:=LH (show Tr f w f6 W7 from⟨T6.out.chg.then hc7 (fun y hy hlt=>by simp at hy;have:=HFW.out;omega),T6.out.own⟩)
   obtain⟨x7,g7,hx7,h7,hf7⟩:=P7.out
   have H7:=LH h7
   have HX7:=LH hx7
   have HF7:=LH hf7
   have kb7:=blk_cell B7.out
   have lb7:=lt_of_heap B7.out
   have kf7:=blk_cell F7.out
   have lf7:=lt_of_heap F7.out
   obtain⟨fa,fc,hfv⟩:∃fa fc,fvOf x7= .slice fa x7.funcs.length fc:=⟨_,_,rfl⟩
   have hfl0:x7.funcs.length≤1000:=by
    have:x7.funcs.length=0:=by have:=congrArg (fun p=>p.funcs.length) hx7;simpa[Pr.p]using this
    omega
   have kx7:=blk_cell h7.blk
   have fx7:=blk_free h7.blk
   have lx7:=lt_of_heap h7.blk
   rw[hfv]at kx7
   have HR:=LH (fun o=>RowOf.kept (S:=[]) h7.fn (((Chg.refl [] W7).drew).alloc o) (by simp))
   have HB:=LH (fun o=>Chg.at (((Chg.refl [] W7).drew).alloc o) (by simp) h7.blk)
   have QB:=LH (show b∉(fvOf x7).ownBlock.toList from fun e=>(nodup_b h7).2.2 b (by simpa using e) rfl)
   have NB:=LH (show tb≠b from fun e=>TB6.out (hf7▸List.mem_append_left _ (by simp[ownP,e])))
   have QT:=LH (show tb∉(fvOf x7).ownBlock.toList from fun e=>TB6.out (hf7▸List.mem_append_left _ (by simp at e;simp[ownP,e])))
   have BB:=LH (fun o=>Chg.at (((Chg.refl [] W7).drew).alloc o) (by simp) B7.out)
   have FIN:=LH (fun(W:World) (hW:Chg [] W7 W) (g' cap:Nat) (w6:World) hr hg ho=>addF_fin (d:=⟨dMain,some ⟨q5,0,none⟩,c5,[dE],4⟩) (g2:=[q5]) (W:=W) (g':=g') (cap:=cap) (w6:=w6) h7 ⟨R7.out.mono (Nat.zero_le _),fun y hy=>by simp[Value.ownBlock]at hy;simp[hy]⟩ (fun y hy=>by simp at hy;subst hy;exact⟨(R7.out.block y rfl).2,fun e=>Q6.out (hf7▸List.mem_append_left _ e)⟩) hW hr hg ho)
   clear hW7 hc7 h7 hx7 hf7 kb6 lb6 kf6 ff6 lf6 hfl
   go_region_law (
    (refine step_appendR rfl _ _ 25 rfl 0 130 _ 48 Tryz.underlying25 fnInfoD rfl (by decide) fnC_len fnC_one (.slice fa x7.funcs.length fc) x7.funcs rfl (hfv▸HR.out _) W7.heap.size 1 ⟨dMain,some ⟨q5,0,none⟩,c5,[dE],4⟩ _ 130 (0,0) rfl (heap_alloc_new W7.drew _) rfl (by unfold maxLen;omega) (by omega) (Nat.zero_le _) ?_;intro g8 cap8 w8 hr8 hg8 ho8 hlt8;rw[←hfv]at hg8 ho8;have G8:=LH (chg_grown hg8);have hb8:=G8.out.at QB.out (HB.out _);have b8:=blk_cell hb8;have f8:=blk_free hb8;have l8:=lt_of_heap hb8;have hb9:=G8.out.at QT.out (BB.out _);have b9:=blk_cell hb9;have l9:=lt_of_heap hb9;have HB9:=LH hb9;clear hb9;have FN:=LH (FIN.out _ (((Chg.refl [] W7).drew).alloc _) g8 cap8 w8 hr8 G8.out ho8);have HT8:=LH hlt8;clear hr8 hg8 hb8 ho8 hlt8))
   all_goals go_wp2_with fail
   all_goals obtain⟨f9,P9,T9⟩:=progF_fin HX7.out HF7.out T7.out Q5.out.2 FN.out
   all_goals exact⟨.inr ⟨⟨_,rfl⟩,f9,LH P9,LH T9,LH ((blk_set_ne 4 _ NB.out).trans HB9.out)⟩,Nat.zero_lt_one⟩
  ·have kb:=blk_cell B5.out
   have lb:=lt_of_heap B5.out
   obtain⟨x,g, -,h1, -⟩:=P5.out
   have k1:=blk_cell h1.blk
   have l1:=lt_of_heap h1.blk
   rw[htv]at k1
   clear h1
   go_wp2_with fail
   go_quiet (fail)
   go_wp2_with fail
   go_end0
   exact⟨rfl,f5,P5.out.keptN ((Chg.refl [] _).drewN _),T5.out.same ((Chg.refl [] _).drewN _)⟩
end
section
open Go.RowKit
theorem parse1_idle (p1 p2 p3:Addr) (w:World):
 CallsD Tryz.prog 29 #[.pointer (some p1), .pointer (some p2), .pointer (some p3)] .returning w fun e u' w'=>e= .returned (.tuple #[])∧u'= .returning∧Chg [] w w':=by
 have hta:∀w:World,(Instr.typeAssert Value.nilIface 20 123 true).run Tryz.prog w= .ok (.tuple #[.agg #[.int .i64 0], .bool false]) w:=fun w=>by kernel_rfl
 refine callsD_of_wpS Tryz.func29 rfl fun c₀ cs hu=> ?_
 apply wpS_seq
 apply wpS_region
 simp[wpOpsS,go_sem,recoverD,hu,Tryz.ntmps29,Exit.thenS,hta]
 apply wpS_seq
 apply wpS_region
 simp[wpOpsS,go_sem,Exit.thenS]
 refine wpS_cond (t:=false) (by simp[Act.eval,Array.replicate]) ?_
 simp only[Bool.false_eq_true,if_false]
 refine wpS_of_wp (wp_skip ?_)
 have hC:Chg [] w (w.alloc (.cells #[.int .i64 0] 123)):=(Chg.refl _ _).alloc _
 clear hta
 cases c₀
 simp_all [bodyPostS,results,Tryz.results29]
end
end Go.Proofs.YtmofknmeljdodaaGreatDoor
