/- Plain: the reference's MulDiv, bit by bit. No condition but those that the statements name. -/
import Derived.Test.YtmofknmeljdodaaGreatDoorZS01
import Derived.Test.YtmofknmeljdodaaGreatDoorZS05
import Derived.Test.YtmofknmeljdodaaGreatDoorZB02
import Derived.Test.YtmofknmeljdodaaGreatDoorZB04
import Derived.Test.YtmofknmeljdodaaGreatDoorZB09
import Derived.Test.YtmofknmeljdodaaGreatDoorZS03
set_option maxHeartbeats 100000000
set_option maxRecDepth 100000
set_option linter.unusedVariables false
set_option linter.unusedSimpArgs false
open List renaming getElem_toArray→gTA,getElem_cons_zero→gCZ,getElem_cons_succ→gCS,setIfInBounds_toArray→sTA,set_cons_zero→sCZ,set_cons_succ→sCS
namespace Go.Proofs.YtmofknmeljdodaaGreatDoor
section
open Go.RowKit
theorem md_step {q r p b c t:Nat} (hc:0<c) (h:q*c+r=p*b) (hr:r<c) (ht:t≤1) (q1 r1 q2 r2:Nat)
 (h1:(q1,r1)=if c≤2*r then(2*q+1,2*r-c)else(2*q,2*r))
 (h2:(q2,r2)=if t=1 then(if c≤r1+b%c then(q1+b/c+1,r1+b%c-c)else(q1+b/c,r1+b%c))else(q1,r1)):
 q2*c+r2=(2*p+t)*b∧r2<c:=by
 have e1:q1*c+r1=2*p*b∧r1<c:=by
  have:2*p*b=2*(q*c)+2*r:=by rw[Nat.mul_assoc,←h];omega
  rw[this]
  split at h1<;>cases h1
  ·refine⟨?_,by omega⟩
   rw[Nat.add_mul,Nat.mul_assoc];omega
  ·refine⟨by rw[Nat.mul_assoc],by omega⟩
 clear h1 h
 obtain⟨e1,e2⟩:=e1
 have hm:=Nat.mod_lt b hc
 have hd:=Nat.div_add_mod b c
 rw[Nat.mul_comm]at hd
 rcases(by omega:t=0∨t=1)with rfl|rfl
 ·simp only[Nat.zero_ne_one,if_false]at h2
  cases h2
  exact⟨by simpa using e1,e2⟩
 ·simp only[if_true]at h2
  have:(2*p+1)*b=q1*c+r1+(b/c*c+b%c):=by rw[Nat.add_mul,Nat.one_mul,←e1,hd]
  rw[this]
  split at h2<;>cases h2
  ·refine⟨?_,by omega⟩
   rw[Nat.add_mul,Nat.add_mul];omega
  ·refine⟨?_,by omega⟩
   rw[Nat.add_mul];omega
theorem md_bit (a k:Nat):a/2^k=2*(a/2^(k+1))+(a/2^k)%2:=by
 have:a/2^(k+1)=a/2^k/2:=by rw[Nat.pow_succ,Nat.div_div_eq_div_mul]
 rw[this];omega
end
section
open Go.RowKit
structure MdI (a b c k Q R:Nat):Prop where
 eq:Q*c+R=a/2^k*b
 lt:R<c
 top:Q≤1000000000000
structure MdR (a b c k Q R q1 r1 q2 r2 t:Nat):Prop where
 h1:(q1,r1)=if c≤2*R then(2*Q+1,2*R-c)else(2*Q,2*R)
 h2:(q2,r2)=if t=1 then(if c≤r1+b%c then(q1+b/c+1,r1+b%c-c)else(q1+b/c,r1+b%c))else(q1,r1)
 t:t=a/2^k%2
theorem MdR.next {a b c k Q R q1 r1 q2 r2 t:Nat} (h:MdR a b c k Q R q1 r1 q2 r2 t) (i:MdI a b c (k+1) Q R):q2*c+r2=a/2^k*b∧r2<c:=by
 have:=md_step (by have:=i.lt;omega) i.eq i.lt (by rw[h.t];omega:t≤1) q1 r1 q2 r2 h.h1 h.h2
 rw[h.t,←md_bit a k]at this
 exact this
end
section
open Go.RowKit
theorem lnInfo:(Tryz.prog.info? 114).map (fun i=>(i.zero,i.size,i.bytes))=some (some (.agg #[.string ⟨#[]⟩, .int .i64 0, .int .i64 0, .int .i64 0, .int .i64 0, .int .i64 0]),6,56):=by kernel_rfl
theorem st6_at {w:World} {b:Nat} {t:TypeId} {c0 c1 c2 c3 c4 c5:Value} (x0 x1 x2 x3 x4 x5:Value) (h:w.heap[b]? =some (.cells #[c0,c1,c2,c3,c4,c5] t (0,0))):
 ((((((w.setCell ⟨b,0,none⟩ x0).setCell ⟨b,1,none⟩ x1).setCell ⟨b,2,none⟩ x2).setCell ⟨b,3,none⟩ x3).setCell ⟨b,4,none⟩ x4).setCell ⟨b,5,none⟩ x5).heap[b]? =some (.cells #[x0,x1,x2,x3,x4,x5] t (0,0)):=by
 have h0:=blk_set h 0 x0
 have h1:=blk_set h0 1 x1
 have h2:=blk_set h1 2 x2
 have h3:=blk_set h2 3 x3
 have h4:=blk_set h3 4 x4
 have h5:=blk_set h4 5 x5
 exact h5
theorem st6_chg {w0 w:World} {b:Nat} (x0 x1 x2 x3 x4 x5:Value) (hb:w0.heap.size≤b) (h:Chg [] w0 w):
 Chg [] w0 ((((((w.setCell ⟨b,0,none⟩ x0).setCell ⟨b,1,none⟩ x1).setCell ⟨b,2,none⟩ x2).setCell ⟨b,3,none⟩ x3).setCell ⟨b,4,none⟩ x4).setCell ⟨b,5,none⟩ x5):=by
 have q:∀j,(⟨b,j,none⟩:Addr).block<w0.heap.size→(⟨b,j,none⟩:Addr).block∈([]:List Nat):=fun j hj=>absurd (show b<w0.heap.size from hj) (by omega)
 exact(((((h.setCell _ _ (q 0)).setCell _ _ (q 1)).setCell _ _ (q 2)).setCell _ _ (q 3)).setCell _ _ (q 4)).setCell _ _ (q 5)
theorem st6_self {w:World} {b:Nat} (x0 x1 x2 x3 x4 x5:Value):
 Chg [b] w ((((((w.setCell ⟨b,0,none⟩ x0).setCell ⟨b,1,none⟩ x1).setCell ⟨b,2,none⟩ x2).setCell ⟨b,3,none⟩ x3).setCell ⟨b,4,none⟩ x4).setCell ⟨b,5,none⟩ x5):=by
 have q:∀j,(⟨b,j,none⟩:Addr).block<w.heap.size→(⟨b,j,none⟩:Addr).block∈[b]:=fun j hj=>by simp
 exact((((((Chg.refl [b] w).setCell _ _ (q 0)).setCell _ _ (q 1)).setCell _ _ (q 2)).setCell _ _ (q 3)).setCell _ _ (q 4)).setCell _ _ (q 5)
def ivW (i:Inv) (v:Value):Value:= .agg #[.string i.tn, .int .i64 i.per,v, .int .i64 i.gr, .int .i64 i.re, .int .i64 i.nt]
end
end Go.Proofs.YtmofknmeljdodaaGreatDoor
