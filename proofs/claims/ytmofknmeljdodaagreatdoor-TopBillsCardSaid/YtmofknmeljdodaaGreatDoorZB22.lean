/- Over any program: the order of strings, as the walk spells it; sorted lists of strings. No condition but those that the statements name. -/
import Derived.Laws.Cover1
import Derived.Sort.KeysCollected
import Derived.DataShut
import Derived.Test.YtmofknmeljdodaaGreatDoorZS01
import Derived.Test.YtmofknmeljdodaaGreatDoorZB21
import Derived.Test.YtmofknmeljdodaaGreatDoorZB07
import Derived.Test.YtmofknmeljdodaaGreatDoorZB02
import Derived.Test.YtmofknmeljdodaaGreatDoorZS03
import Derived.Test.YtmofknmeljdodaaGreatDoorZB14
set_option maxHeartbeats 100000000
set_option maxRecDepth 100000
set_option linter.unusedVariables false
set_option linter.unusedSimpArgs false
open List renaming getElem_toArray→gTA,getElem_cons_zero→gCZ,getElem_cons_succ→gCS,setIfInBounds_toArray→sTA,set_cons_zero→sCZ,set_cons_succ→sCS
namespace Go.Proofs.YtmofknmeljdodaaGreatDoor
section
theorem bless_eq:∀(x y:List UInt8),Op.bytesLess x y=decide (x<y)
 |[],[]=>by simp[Op.bytesLess]
 |_::_,[]=>by simp[Op.bytesLess]
 |[],_::_=>by simp[Op.bytesLess]
 |a::x,b::y=>by
  rw[Op.bytesLess,bless_eq x y]
  simp only[List.cons_lt_cons_iff]
  by_cases h1:a<b<;>by_cases h2:a=b<;>by_cases h3:x<y<;>simp[h1,h2,h3]
theorem bless (a b:ByteArray):Op.bytesLess a.toList b.toList=decide (a.data.toList<b.data.toList):=by rw[bless_eq,ByteArray.toList_eq,ByteArray.toList_eq]
theorem blt_asymm {x y:List UInt8} (h:x<y): ¬y<x:=fun h2=>List.lt_irrefl x (List.lt_trans h h2)
theorem leB_sorted (l:List (List UInt8)):(l.mergeSort leB).Pairwise (·≤·):=by
 have tr:∀a b c:List UInt8,leB a b=true→leB b c=true→leB a c=true:=fun a b c h1 h2=>by simp only[leB,decide_eq_true_eq]at*;exact List.le_trans h1 h2
 have tq:∀a b:List UInt8,(leB a b||leB b a)=true:=fun a b=>by simp only[leB,Bool.or_eq_true,decide_eq_true_eq];exact List.le_total a b
 exact(List.pairwise_mergeSort tr tq l).imp (fun h=>by simpa[leB]using h)
end
section
open Go.RowKit
theorem compactUp (d:Array (List UInt8)) (hs:d.toList.Pairwise (·≤·)):∀m,m≤d.size→(Lib.compactUpTo d m).Pairwise (·<·)∧(∀x∈Lib.compactUpTo d m,∃j,j<m∧d[j]! =x)∧(∀j,j<m→d[j]!∈Lib.compactUpTo d m):=by
 have hle:∀i j,i<j→j<d.size→d[i]!≤d[j]! :=by
  intro i j hij hj
  rw[getElem!_pos d i (by omega),getElem!_pos d j hj]
  have:=List.pairwise_iff_getElem.1 hs i j (by simp;omega) (by simpa using hj) hij
  simpa using this
 have hle':∀i j,i≤j→j<d.size→d[i]!≤d[j]! :=by
  intro i j hij hj
  rcases Nat.lt_or_ge i j with h|h
  ·exact hle i j h hj
  ·have:i=j:=by omega
   subst this;exact List.le_refl _
 intro m
 induction m with
 |zero=>intro _;exact⟨by simp[Lib.compactUpTo],by simp[Lib.compactUpTo],fun j hj=>absurd hj (Nat.not_lt_zero j)⟩
 |succ m ih=>
  intro hm
  obtain⟨h1,h2,h3⟩:=ih (by omega)
  rw[Lib.compactUpTo_succ]
  cases hk:Lib.keeps d m
  ·simp only[Bool.false_eq_true,if_false,List.append_nil]
   refine⟨h1,fun x hx=> ?_,fun j hj=> ?_⟩
   ·obtain⟨j,hj,e⟩:=h2 x hx
    exact⟨j,by omega,e⟩
   ·by_cases e:j=m
    ·subst e
     have hz:j≠0∧d[j]! =d[j-1]! :=by
      unfold Lib.keeps at hk
      simpa using hk
     rw[hz.2]
     exact h3 (j-1) (by omega)
    ·exact h3 j (by omega)
  ·simp only[if_true]
   refine⟨List.pairwise_append.2 ⟨h1,by simp,fun x hx y hy=> ?_⟩,fun x hx=> ?_,fun j hj=> ?_⟩
   ·simp at hy
    subst hy
    obtain⟨j,hj,rfl⟩:=h2 x hx
    have hz:m=0∨d[m]!≠d[m-1]! :=by
     unfold Lib.keeps at hk
     simpa using hk
    have hne:=hz.resolve_left (by omega)
    refine Classical.byContradiction fun hn=>hne ?_
    have q1:d[m]!≤d[j]! :=List.not_lt.1 hn
    exact List.le_antisymm (List.le_trans q1 (hle' j (m-1) (by omega) (by omega))) (hle' (m-1) m (by omega) (by omega))
   ·rcases List.mem_append.1 hx with hx|hx
    ·obtain⟨j,hj,e⟩:=h2 x hx
     exact⟨j,by omega,e⟩
    ·simp at hx
     exact⟨m,by omega,hx.symm⟩
   ·by_cases e:j=m
    ·subst e;simp
    ·exact List.mem_append_left _ (h3 j (by omega))
theorem compact_facts {zs:List (List UInt8)} (hs:zs.Pairwise (·≤·)):(Lib.compact zs).Pairwise (·<·)∧∀x,x∈Lib.compact zs↔x∈zs:=by
 obtain⟨h1,h2,h3⟩:=compactUp zs.toArray (by simpa using hs) zs.length (by simp)
 refine⟨h1,fun x=>⟨fun hx=> ?_,fun hx=> ?_⟩⟩
 ·obtain⟨j,hj,rfl⟩:=h2 x hx
  rw[getElem!_pos zs.toArray j (by simpa using hj)]
  simp
 ·obtain⟨j,hj,rfl⟩:=List.mem_iff_getElem.1 hx
  have:=h3 j hj
  rw[getElem!_pos zs.toArray j (by simpa using hj)]at this
  show zs[j]∈Lib.compactUpTo zs.toArray zs.length
  simpa using this
theorem fns_facts (s:Led) (tn:ByteArray) (p:Int):(fnsU s tn p).Pairwise (·<·)∧∀x,x∈fnsU s tn p↔x∈fnL tn p s.l:=by
 obtain⟨h1,h2⟩:=compact_facts (leB_sorted (fnL tn p s.l))
 exact⟨h1,fun x=>(h2 x).trans (List.mem_mergeSort)⟩
theorem nodup_lt {l:List (List UInt8)} (h:l.Pairwise (·<·)):l.Nodup:=by
 refine h.imp fun {a b} hab=> ?_
 rintro rfl
 exact List.lt_irrefl _ hab
def tot (f:CR→Bool):List CR→Us
 |[]=>zU
 |c::l=>if f c=true then plusU c.r.us (tot f l)else tot f l
theorem usE {a b:Us} (h1:a.inv=b.inv) (h2:a.steps=b.steps) (h3:a.ticks=b.ticks) (h4:a.units=b.units):a=b:=by
 obtain⟨a1,a2,a3,a4⟩:=a
 obtain⟨b1,b2,b3,b4⟩:=b
 simp_all
theorem plus_zero (a:Us):plusU a zU=a:=usE (by simp[plusU,zU]) (by simp[plusU,zU]) (by simp[plusU,zU]) (by simp[plusU,zU])
theorem zero_plus (a:Us):plusU zU a=a:=usE (by simp[plusU,zU]) (by simp[plusU,zU]) (by simp[plusU,zU]) (by simp[plusU,zU])
theorem plus_assoc (a b c:Us):plusU (plusU a b) c=plusU a (plusU b c):=usE (by simp[plusU];omega) (by simp[plusU];omega) (by simp[plusU];omega) (by simp[plusU];omega)
theorem plus_left (a b c:Us):plusU a (plusU b c)=plusU b (plusU a c):=usE (by simp[plusU];omega) (by simp[plusU];omega) (by simp[plusU];omega) (by simp[plusU];omega)
theorem add_ok {a b:Us} (h:(addU a b).2=0):(addU a b).1=plusU a b:=by
 unfold addU at h⊢
 split<;>rename_i h1
 ·rw[if_pos h1]at h
  split<;>rename_i h2
  ·rw[if_pos h2]at h
   split<;>rename_i h3
   ·rfl
   ·rw[if_neg h3]at h;simp at h
  ·rw[if_neg h2]at h;simp at h
 ·rw[if_neg h1]at h;simp at h
theorem sum_ok (f:CR→Bool):∀(l:List CR) (u:Us),(sumU f l u).2=0→(sumU f l u).1=plusU u (tot f l)
 |[],u,_=>(plus_zero u).symm
 |c::l,u,h=>by
  unfold sumU at h⊢
  unfold tot
  split<;>rename_i h1
  ·rw[if_pos h1]at h
   split<;>rename_i h2
   ·rw[if_pos h2]at h
    rw[sum_ok f l _ h,add_ok h2,plus_assoc]
   ·rw[if_neg h2]at h
    exact absurd h h2
  ·rw[if_neg h1]at h
   exact sum_ok f l u h
def sumF (g:List UInt8→Us):List (List UInt8)→Us
 |[]=>zU
 |s::F=>plusU (g s) (sumF g F)
theorem sumF_add (g:List UInt8→Us) (s0:List UInt8) (x:Us):∀(F:List (List UInt8)),F.Nodup→sumF (fun s=>if s=s0 then plusU x (g s)else g s) F=if s0∈F then plusU x (sumF g F)else sumF g F
 |[],_=>by simp[sumF]
 |s::F,h=>by
  have hs:=List.nodup_cons.1 h
  have ih:=sumF_add g s0 x F hs.2
  unfold sumF
  rw[ih]
  by_cases e:s=s0
  ·subst e
   rw[if_pos rfl,if_neg hs.1,if_pos (by simp)]
   exact plus_assoc _ _ _
  ·rw[if_neg e]
   by_cases hm:s0∈F
   ·rw[if_pos hm,if_pos (List.mem_cons_of_mem _ hm)]
    exact plus_left _ _ _
   ·rw[if_neg hm,if_neg (fun h=>by rcases List.mem_cons.1 h with h|h;exact e h.symm;exact hm h)]
theorem name_eq (b:ByteArray) (s:List UInt8):(b==(⟨s.toArray⟩:ByteArray))=decide (s=bs b):=by
 by_cases h:s=bs b
 ·subst h
  simp[bs]
 ·rw[decide_eq_false h]
  refine beq_eq_false_iff_ne.2 fun e=>h ?_
  rw[e]
  simp[bs]
theorem tot_by (tn:ByteArray) (p:Int) (F:List (List UInt8)) (hF:F.Nodup):∀(l:List CR),(∀c∈l,inB tn p c=true→bs c.r.fn∈F)→sumF (fun s=>tot (ofB tn ⟨s.toArray⟩ p false) l) F=tot (totB tn p) l
 |[],_=>by
  simp only[tot]
  clear hF
  induction F with
  |nil=>rfl
  |cons s F ih=>unfold sumF;rw[ih (by simp)];rfl
 |c::l,h=>by
  have ih:=tot_by tn p F hF l (fun d hd=>h d (List.mem_cons_of_mem _ hd))
  have hc:=h c (by simp)
  by_cases hq:totB tn p c=true
  ·have hq':(c.r.tn==tn)=true∧(c.p==p)=true∧c.r.fl=false:=by
    unfold totB at hq
    simp only[Bool.and_eq_true,Bool.not_eq_true']at hq
    exact⟨hq.1.1,hq.1.2,hq.2⟩
   have hm:bs c.r.fn∈F:=hc (by unfold inB;rw[hq'.1,hq'.2.1];rfl)
   have e:(fun s:List UInt8=>tot (ofB tn ⟨s.toArray⟩ p false) (c::l))=fun s:List UInt8=>if s=bs c.r.fn then plusU c.r.us (tot (ofB tn ⟨s.toArray⟩ p false) l)else tot (ofB tn ⟨s.toArray⟩ p false) l:=by
    funext s
    rw[tot]
    have:ofB tn ⟨s.toArray⟩ p false c=decide (s=bs c.r.fn):=by
     unfold ofB
     rw[hq'.1,hq'.2.1,hq'.2.2,name_eq]
     simp
    rw[this]
    by_cases hs:s=bs c.r.fn<;>simp[hs]
   rw[e,sumF_add _ _ _ F hF,if_pos hm,ih,tot,if_pos hq]
  ·have e:(fun s:List UInt8=>tot (ofB tn ⟨s.toArray⟩ p false) (c::l))=fun s:List UInt8=>tot (ofB tn ⟨s.toArray⟩ p false) l:=by
    funext s
    rw[tot,if_neg]
    intro h2
    apply hq
    unfold ofB at h2
    unfold totB
    simp only[Bool.and_eq_true,beq_iff_eq]at h2
    rw[h2.1.1.1,h2.1.2,h2.2]
    simp
   rw[e,ih,tot,if_neg hq]
end
section
open Go.RowKit
theorem askE_ok {ns:List ByteArray} {p:Int} (h:askE ns p=0):(∀n∈ns,nameB n=true)∧0≤p∧p≤1073741824:=by
 unfold askE at h
 split at h
 ·rename_i h1
  split at h
  ·cases h
  ·rename_i h2
   exact⟨by simpa using h1,by omega,by omega⟩
 ·cases h
theorem zU_us:usB zU=true:=by decide
theorem addU_us (a b:Us):usB (addU a b).1=true:=by
 unfold addU
 split
 ·split
  ·split
   ·assumption
   ·decide
  ·decide
 ·decide
theorem sumU_us (f:CR→Bool):∀(l:List CR) (u:Us),usB u=true→usB (sumU f l u).1=true
 |[],u,h=>h
 |c::l,u,h=>by
  unfold sumU
  split
  ·split
   ·exact sumU_us f l _ (addU_us _ _)
   ·exact zU_us
  ·exact sumU_us f l u h
theorem byU_us (s:Led) (tn fn:ByteArray) (p:Int):usB (byU s tn fn p).1=true:=by
 unfold byU
 split
 ·split
  ·split
   ·exact sumU_us _ _ _ zU_us
   ·exact zU_us
  ·exact zU_us
 ·exact zU_us
theorem byU_name {s:Led} {tn fn:ByteArray} {p:Int} (h:(byU s tn fn p).2.2=0):nameB fn=true:=by
 by_cases e:askE [tn,fn] p=0
 ·exact(askE_ok e).1 fn (by simp)
 ·unfold byU at h;rw[if_neg e]at h;exact absurd h e
theorem totU_name {s:Led} {tn:ByteArray} {p:Int} (h:(totU s tn p).2=0):nameB tn=true∧0≤p∧p≤1073741824:=by
 by_cases e:askE [tn] p=0
 ·exact⟨(askE_ok e).1 tn (by simp),(askE_ok e).2⟩
 ·unfold totU at h;rw[if_neg e]at h;exact absurd h e
theorem leqB_lt {x y:List UInt8} (h:x<y):leqB (fB y) (fB x)=false:=by
 have e1:Op.bytesLess (fB y).toList (fB x).toList=false:=by
  rw[bless]
  exact decide_eq_false (by simpa[fB]using blt_asymm h)
 have e2:((fB y).toList==(fB x).toList)=false:=by
  rw[ByteArray.toList_eq,ByteArray.toList_eq]
  refine beq_eq_false_iff_ne.2 fun e=> ?_
  simp only[fB]at e
  rw[e]at h
  exact List.lt_irrefl _ h
 unfold leqB
 rw[e1,e2]
 rfl
theorem weigh_in {t:Int} {W:List Int} (h:(weighZ t W).2=0):amtB t=true∧(∀w∈W,0≤w)∧(W=[]→t=0):=by
 unfold weighZ at h
 split at h
 ·cases h
 ·rename_i h1
  split at h
  ·cases h
  ·split at h
   ·cases h
   ·rename_i h3
    simp only[not_or,Bool.not_eq_false]at h1
    exact⟨h1.1,fun w hw=>(amtB_in (List.all_eq_true.1 h1.2 w hw)).1,fun e=>Classical.byContradiction fun q=>h3 ⟨e,q⟩⟩
theorem shares_nn {t:Int} {W O:List Int} (h:IsOrd (shR t W) O) (ht:0≤t) (hW:∀w∈W,0≤w):∀x∈shares t W O,0≤x:=by
 intro x hx
 obtain⟨j,hj,e⟩:=List.getElem_of_mem hx
 have hj2:j<W.length:=by rw[shares_len]at hj;exact hj
 have h1:=h.shares_at hj2
 rw[List.getD_eq_getElem?_getD,List.getElem?_eq_getElem hj,e,Option.getD_some]at h1
 have hS:=effS_pos hW (by rintro rfl;simp at hj2)
 have hw:0≤(effW W).getD j 0:=by
  rw[eff_at hj2,List.getD_eq_getElem?_getD,List.getElem?_eq_getElem hj2,Option.getD_some]
  split
  ·decide
  ·exact hW _ (List.getElem_mem hj2)
 have hq:0≤quo t (effS W) ((effW W).getD j 0):=Int.ediv_nonneg (Int.mul_nonneg ht hw) (Int.le_of_lt hS)
 rw[h1]
 split<;>omega
theorem setMi_sum {ls:List Ln} {sh:List Int} (h:sh.length=ls.length):sumMi (setMi ls sh)=sh.sum:=by
 unfold sumMi
 have e:(setMi ls sh).map Ln.mi=sh:=by
  refine List.ext_getElem (by rw[List.length_map,setMi_len,h]) fun i h1 h2=> ?_
  have q:=setMi_at (ls:=ls) (sh:=sh) (k:=i) (List.getElem?_eq_getElem (by omega)) (List.getElem?_eq_getElem h2)
  obtain⟨_,q2⟩:=List.getElem?_eq_some_iff.1 q
  rw[List.getElem_map,q2]
 rw[e]
theorem make_pass {s:Led} {p:Prc} {tn:ByteArray} {per:Int} {O:List Int} (hO:(makeZ s p tn per O).2=0→IsOrd (shR (mkG s p tn per).1 (mkW s tn per)) O) (h:(makeZ s p tn per O).2=0):invZ (makeZ s p tn per O).1=0:=by
 have hO:=hO h
 by_cases h1:(totU s tn per).2=0
 case neg=>rw[make_err1 h1]at h;exact absurd h h1
 by_cases h2:(mkG s p tn per).2=0
 case neg=>rw[make_err2 h1 h2]at h;exact absurd h h2
 by_cases h3:errs ((fnsU s tn per).map (mkErr s tn per))=0
 case neg=>rw[make_err3 h1 h2 h3]at h;exact absurd h h3
 by_cases h4:(weighZ (mkG s p tn per).1 (mkW s tn per)).2=0
 case neg=>rw[make_err4 h1 h2 h3 h4]at h;exact absurd h h4
 rw[make_ok h1 h2 h3 h4]
 obtain⟨n1,n2,n3⟩:=totU_name h1
 obtain⟨g1,w1,w2⟩:=weigh_in h4
 have g2:=amtB_in g1
 have hsn:=shares_nn hO g2.1 w1
 have hss:=hO.shares_sum w1 w2
 have hlen:(shares (mkG s p tn per).1 (mkW s tn per) O).length=(mkLs s tn per).length:=by rw[shares_len];unfold mkW mkLs;simp
 have hf:=(fns_facts s tn per).1
 have hE:∀f∈fnsU s tn per,mkErr s tn per f=0:=fun f hf=>errs_zero h3 _ (List.mem_map.2 ⟨f,hf,rfl⟩)
 generalize (mkG s p tn per).1=g at*
 generalize shares g (mkW s tn per) O=sh at*
 have hml:(mkLs s tn per).length=(fnsU s tn per).length:=by unfold mkLs;simp
 have hat:∀k,(hk:k<(fnsU s tn per).length)→∃m,m∈sh∧(setMi (mkLs s tn per) sh)[k]? =some {ln0 s tn per (fnsU s tn per)[k]with mi:=m}:=by
  intro k hk
  refine⟨sh[k]'(by omega),List.getElem_mem _,setMi_at ?_ (List.getElem?_eq_getElem (by omega))⟩
  unfold mkLs
  rw[List.getElem?_map,List.getElem?_eq_getElem hk]
  rfl
 have e3:errs (linesE (setMi (mkLs s tn per) sh))=0:=by
  refine errs_all fun e he=> ?_
  obtain⟨k,hk,rfl⟩:=List.mem_map.1 he
  have hk2:k<(fnsU s tn per).length:=by have:=List.mem_range.1 hk;rw[setMi_len]at this;omega
  obtain⟨m,hm,em⟩:=hat k hk2
  unfold lineE
  rw[em]
  simp only[ln0]
  have hn:=byU_name (hE _ (List.getElem_mem hk2))
  refine(if_neg (fun q=> ?_)).trans ((if_neg ?_).trans (if_neg ?_))
  ·rw[hn]at q;cases q
  rotate_left
  ·rintro(q|q)
   ·rw[byU_us]at q;cases q
   ·have m0:=hsn m hm
    have m1:=mem_le_sum hsn hm
    rw[hss]at m1
    rw[amtB_iff.2 ⟨m0,by omega⟩]at q
    cases q
  ·rintro⟨k0,q⟩
   obtain⟨m2,hm2,em2⟩:=hat (k-1) (by omega)
   unfold fnAt at q
   rw[em2]at q
   simp only[Option.map_some,Option.getD_some,ln0]at q
   rw[leqB_lt (List.pairwise_iff_getElem.1 hf (k-1) k (by omega) hk2 (by omega))]at q
   cases q
 unfold invZ
 simp only[]
 rw[if_neg (by rw[n1];simp),if_neg (by omega),if_neg (by rw[e3];simp),if_neg,if_pos]
 ·exact⟨by rw[setMi_sum hlen,hss],g2.1,by omega⟩
 ·rintro(q|q|q)
  ·rw[g1]at q;cases q
  ·cases q
  ·rw[g1]at q;cases q
end
section
open Go.RowKit
theorem by_ok (s:Led) (tn fn:ByteArray) (p:Int) (h:(byU s tn fn p).2.2=0):(byU s tn fn p).1=tot (ofB tn fn p false) s.l:=by
 unfold byU at h⊢
 split<;>rename_i h1
 ·rw[if_pos h1]at h
  split<;>rename_i h2
  ·rw[if_pos h2]at h
   split<;>rename_i h3
   ·show(sumU (ofB tn fn p false) s.l zU).1=_
    rw[sum_ok _ _ _ h2,zero_plus]
   ·rw[if_neg h3]at h
    exact absurd h h3
  ·rw[if_neg h2]at h
   exact absurd h h2
 ·rw[if_neg h1]at h
  exact absurd h h1
theorem total_ok (s:Led) (tn:ByteArray) (p:Int) (h:(totU s tn p).2=0):(totU s tn p).1=tot (totB tn p) s.l:=by
 unfold totU at h⊢
 split<;>rename_i h1
 ·rw[if_pos h1]at h
  rw[sum_ok _ _ _ h,zero_plus]
 ·rw[if_neg h1]at h
  exact absurd h h1
def aggT (s:Led) (tn:ByteArray) (p:Int) (F:List (List UInt8)):Us:=F.foldl (fun u x=>plusU u (tot (ofB tn ⟨x.toArray⟩ p false) s.l)) zU
theorem fold_sumF (g:List UInt8→Us):∀(F:List (List UInt8)) (x:Us),F.foldl (fun u s=>plusU u (g s)) x=plusU x (sumF g F)
 |[],x=>(plus_zero x).symm
 |s::F,x=>by
  rw[List.foldl_cons,fold_sumF g F,plus_assoc]
  rfl
theorem agg_total (s:Led) (tn:ByteArray) (p:Int):aggT s tn p (fnsU s tn p)=tot (totB tn p) s.l:=by
 obtain⟨h1,h2⟩:=fns_facts s tn p
 unfold aggT
 rw[fold_sumF,zero_plus]
 refine tot_by tn p (fnsU s tn p) (nodup_lt h1) s.l (fun c hc hq=> ?_)
 rw[h2]
 unfold fnL
 exact List.mem_map.2 ⟨c,List.mem_filter.2 ⟨hc,hq⟩,rfl⟩
theorem fns_len (s:Led) (tn:ByteArray) (p:Int):(fnsU s tn p).length≤s.l.length:=by
 unfold fnsU
 refine Nat.le_trans (compact_len _) ?_
 rw[List.length_mergeSort]
 exact fnL_len _ _ _
end
section
open Go.RowKit
def fnT (f:Int):ByteArray:=if f%3=0 then⟨#[102]⟩else if f%3=1 then⟨#[103]⟩else⟨#[104]⟩
def tnT:ByteArray:=⟨#[116]⟩
def urT (i:Nat) (u:Ud):UR:=⟨nmT i,tnT,fnT u.f,0,usOf (u.s%1000),u.fl⟩
def crsT:Nat→List Ud→List CR
 |_,[]=>[]
 |i,u::l=>⟨urT i u,0⟩::crsT (i+1) l
def ledT (l:List Ud):Led:=⟨crsT 0 l,0⟩
theorem crsT_len:∀(l:List Ud) (i:Nat),(crsT i l).length=l.length
 |[],_=>rfl
 |_::l,i=>by rw[crsT,List.length_cons,crsT_len l,List.length_cons]
theorem crsT_app:∀(l:List Ud) (i:Nat) (u:Ud),crsT i (l++[u])=crsT i l++[⟨urT (i+l.length) u,0⟩]
 |[],_,_=>rfl
 |v::l,i,u=>by
  rw[List.cons_append,crsT,crsT,crsT_app l,List.cons_append,List.length_cons,show i+1+l.length=i+(l.length+1) by omega]
theorem crsT_mem:∀(l:List Ud) (i:Nat) (c:CR),c∈crsT i l→∃k u,k<l.length∧u∈l∧c=⟨urT (i+k) u,0⟩
 |[],_,_,h=>by cases h
 |v::l,i,c,h=>by
  rw[crsT]at h
  rcases List.mem_cons.1 h with rfl|h
  ·exact⟨0,v,by simp,by simp,rfl⟩
  ·obtain⟨k,u,hk,hu,rfl⟩:=crsT_mem l (i+1) c h
   exact⟨k+1,u,by simp;omega,by simp[hu],by rw[show i+1+k=i+(k+1) by omega]⟩
theorem nmT_at (k:Nat):(nmT k).data[1]?.map UInt8.toNat=some ((65+k%26)%256)∧(nmT k).data[2]?.map UInt8.toNat=some ((48+k/26%10)%256):=⟨by simp[nmT],by simp[nmT]⟩
theorem nmT_inj30 {i j:Nat} (hi:i<30) (hj:j<30) (h:nmT i=nmT j):i=j:=by
 have h1:(nmT i).data[1]?.map UInt8.toNat=(nmT j).data[1]?.map UInt8.toNat:=by rw[h]
 have h2:(nmT i).data[2]?.map UInt8.toNat=(nmT j).data[2]?.map UInt8.toNat:=by rw[h]
 rw[(nmT_at i).1,(nmT_at j).1,Option.some.injEq]at h1
 rw[(nmT_at i).2,(nmT_at j).2,Option.some.injEq]at h2
 omega
theorem nmT_id30:∀i,i<30→idB (nmT i)=true:=by decide+kernel
theorem tnT_name:nameB tnT=true:=by decide+kernel
theorem fnT_name (f:Int):nameB (fnT f)=true:=by
 unfold fnT
 split
 ·decide+kernel
 ·split<;>decide+kernel
def smU (m:Int) (u:Us):Prop:=(0≤u.inv∧u.inv≤m)∧(0≤u.steps∧u.steps≤m)∧(0≤u.ticks∧u.ticks≤m)∧(0≤u.units∧u.units≤m)
theorem smU.us {m:Int} {u:Us} (h:smU m u) (hm:m≤1000000000000):usB u=true:=by
 obtain⟨h1,h2,h3,h4⟩:=h
 simp only[usB,Bool.and_eq_true,amtB_iff]
 omega
theorem smU.plus {m n:Int} {u v:Us} (h:smU m u) (k:smU n v):smU (m+n) (plusU u v):=by
 obtain⟨h1,h2,h3,h4⟩:=h
 obtain⟨k1,k2,k3,k4⟩:=k
 unfold smU plusU
 simp only
 omega
theorem smU.le {m n:Int} {u:Us} (h:smU m u) (k:m≤n):smU n u:=by
 obtain⟨h1,h2,h3,h4⟩:=h
 unfold smU
 omega
theorem smU_of (s:Int):smU 1000 (usOf (s%1000)):=by
 have:=usOf_in (s:=s%1000) (by omega) (by omega)
 unfold smU usOf
 simp only
 omega
theorem smU_crs {l:List Ud} {i:Nat}:∀c∈crsT i l,smU 1000 c.r.us:=by
 intro c hc
 obtain⟨k,u, -, -,rfl⟩:=crsT_mem l i c hc
 exact smU_of u.s
theorem chk_urT (i:Nat) (hi:i<30) (u:Ud):checkR (urT i u)=0:=by
 unfold checkR urT
 simp only
 rw[nmT_id30 i hi,tnT_name,fnT_name,(smU_of u.s).us (by omega)]
 simp
theorem find_none {l:List Ud} (h:l.length<30):findC (crsT 0 l) (nmT l.length)=none:=by
 unfold findC
 rw[List.find?_eq_none]
 intro c hc e
 obtain⟨k,u,hk, -,rfl⟩:=crsT_mem l 0 c hc
 have e1:nmT (0+k)=nmT l.length:=beq_iff_eq.1 e
 have:=nmT_inj30 (by omega) h e1
 omega
theorem recT_new {l:List Ud} (h:l.length<30) (u:Ud):recE (ledT l) (urT l.length u)=0∧recS (ledT l) (urT l.length u)=ledT (l++[u]):=by
 have hf:findC (ledT l).l (urT l.length u).id=none:=find_none h
 have hl: ¬(ledT l).l.length=4000:=by unfold ledT;simp only;rw[crsT_len];omega
 unfold recE recS
 rw[if_pos (chk_urT _ h u),if_pos (chk_urT _ h u),hf]
 simp only
 rw[if_neg hl,if_neg hl]
 refine⟨rfl, ?_⟩
 unfold ledT
 simp only
 rw[crsT_app,Nat.zero_add]
 rfl
theorem recT_old {l:List Ud} (h:l.length<30) (u:Ud):recE (ledT (l++[u])) (urT l.length u)=0∧recS (ledT (l++[u])) (urT l.length u)=ledT (l++[u]):=by
 have hf:findC (ledT (l++[u])).l (urT l.length u).id=some ⟨urT l.length u,0⟩:=by
  have h0:=find_none h
  unfold findC at h0
  unfold ledT findC
  simp only
  rw[crsT_app,List.find?_append,Nat.zero_add]
  show((crsT 0 l).find? (fun c=>c.r.id==nmT l.length)).or _=_
  rw[h0,Option.none_or,List.find?_cons_of_pos (by simp)]
 unfold recE recS
 rw[if_pos (chk_urT _ h u),if_pos (chk_urT _ h u),hf]
 simp only[show eqR (urT l.length u) (urT l.length u)=true from eqR_iff.2 rfl,if_true,and_self]
def totT (l:List Ud):Us:=tot (fun c=> !c.r.fl) (crsT 0 l)
theorem tot_app (f:CR→Bool) (c:CR):∀(l:List CR),tot f (l++[c])=if f c=true then plusU (tot f l) c.r.us else tot f l
 |[]=>by
  rw[List.nil_append,tot,tot,tot,plus_zero,zero_plus]
 |x::l=>by
  rw[List.cons_append,tot,tot,tot_app f c l]
  split<;>split
  ·rw[plus_assoc]
  ·rfl
  ·rfl
  ·rfl
theorem tot_sm (f:CR→Bool):∀(l:List CR),(∀c∈l,smU 1000 c.r.us)→smU (1000*l.length) (tot f l)
 |[],_=>by unfold tot smU zU;simp
 |c::l,h=>by
  have h1:=tot_sm f l (fun c hc=>h c (by simp[hc]))
  have h2:=h c (by simp)
  have e:(1000:Int)*((c::l).length:Int)=1000+1000*(l.length:Int):=by simp;omega
  rw[tot,e]
  split
  ·exact h2.plus h1
  ·exact h1.le (by omega)
theorem sum_fine (f:CR→Bool):∀(l:List CR) (u:Us) (m:Int),(∀c∈l,smU 1000 c.r.us)→smU m u→m+1000*l.length≤1000000000000→(sumU f l u).2=0
 |[],_,_,_,_,_=>rfl
 |c::l,u,m,h,hu,hm=>by
  have h2:=h c (by simp)
  have e:(1000:Int)*((c::l).length:Int)=1000+1000*(l.length:Int):=by simp;omega
  rw[e]at hm
  unfold sumU
  split
  ·have ha:addU u c.r.us=(plusU u c.r.us,0):=by
    unfold addU
    rw[if_pos (hu.us (by omega)),if_pos (h2.us (by omega)),if_pos ((hu.plus h2).us (by omega))]
   rw[ha]
   simp only[if_true]
   exact sum_fine f l _ (m+1000) (fun c hc=>h c (by simp[hc])) (hu.plus h2) (by omega)
  ·exact sum_fine f l u m (fun c hc=>h c (by simp[hc])) hu (by omega)
theorem totT_sm (l:List Ud) (h:l.length≤30):smU 30000 (totT l):=
 (tot_sm _ _ smU_crs).le (by rw[crsT_len];omega)
theorem totT_step {l:List Ud} (h:l.length<30) (u:Ud):totT (l++[u])=(if u.fl=true then totT l else(addU (totT l) (usOf (u.s%1000))).1)∧(addU (totT l) (usOf (u.s%1000))).2=0:=by
 have h1:=totT_sm l (by omega)
 have h2:=smU_of u.s
 have ha:addU (totT l) (usOf (u.s%1000))=(plusU (totT l) (usOf (u.s%1000)),0):=by
  unfold addU
  rw[if_pos (h1.us (by omega)),if_pos (h2.us (by omega)),if_pos ((h1.plus h2).us (by omega))]
 rw[ha]
 refine⟨?_,rfl⟩
 unfold totT
 rw[crsT_app,tot_app]
 cases hf:u.fl
 ·rw[if_pos (by simp[urT,hf]),if_neg (by simp)]
  rfl
 ·rw[if_neg (by simp[urT,hf]),if_pos rfl]
theorem tot_congr {f g:CR→Bool}:∀(l:List CR),(∀c∈l,f c=g c)→tot f l=tot g l
 |[],_=>rfl
 |c::l,h=>by
  rw[tot,tot,h c (by simp),tot_congr l (fun c hc=>h c (by simp[hc]))]
theorem crs_tn {l:List Ud} {c:CR} (h:c∈crsT 0 l):c.r.tn=tnT∧c.p=0∧nameB c.r.fn=true:=by
 obtain⟨k,u, -, -,rfl⟩:=crsT_mem l 0 c h
 exact⟨rfl,rfl,fnT_name _⟩
theorem ask1:askE [tnT] 0=0:=by
 unfold askE
 rw[if_pos (by simp[tnT_name])]
 rfl
theorem tot_all {l:List Ud} (h:l.length≤30):totU (ledT l) tnT 0=(totT l,0):=by
 have h2:(totU (ledT l) tnT 0).2=0:=by
  unfold totU
  rw[if_pos ask1]
  exact sum_fine _ _ _ 0 smU_crs (by unfold smU zU;simp) (by unfold ledT;simp only;rw[crsT_len];omega)
 have h1:=total_ok _ _ _ h2
 refine Prod.ext (h1.trans ?_) h2
 refine tot_congr _ (fun c hc=> ?_)
 obtain⟨e1,e2, -⟩:=crs_tn hc
 unfold totB
 rw[e1,e2]
 simp
def pcT (free m0 m1:Int):Prc:=⟨0,free,3,[⟨50,m0⟩,⟨0,m1⟩]⟩
section
variable {free m0 m1:Int} {l:List Ud}
theorem priceT_ok (f0:0≤free) (f1:free≤255) (a0:0≤m0) (a1:m0≤255) (b0:0≤m1) (b1:m1≤255):priceZ (pcT free m0 m1)=0:=by
 have t0:tierE (pcT free m0 m1).ts 0=0:=by
  show(if btw m0 0 1000000000=false then(2:Int)else if(0:Nat)+1=2 then _ else if btw 50 1 1000000000000=false then 2 else if(0:Nat)<0∧_ then 11 else 0)=0
  rw[if_neg (by rw[btw_iff.2 ⟨a0,by omega⟩];simp),if_neg (by decide),if_neg (by decide),if_neg (by omega)]
 have t1:tierE (pcT free m0 m1).ts 1=0:=by
  show(if btw m1 0 1000000000=false then(2:Int)else if(1:Nat)+1=2 then(if(0:Int)≠0 then 2 else 0)else _)=0
  rw[if_neg (by rw[btw_iff.2 ⟨b0,by omega⟩];simp),if_pos rfl,if_neg (by decide)]
 unfold priceZ
 rw[if_neg,if_neg]
 ·show errs [tierE (pcT free m0 m1).ts 0,tierE (pcT free m0 m1).ts 1]=0
  rw[t0,t1]
  rfl
 ·show ¬((2:Nat)<1∨8<2)
  omega
 ·show ¬(btw 0 0 1000000000=false∨btw free 0 1000000000=false∨btw 3 0 1000000000=false)
  rw[btw_iff.2 ⟨f0,by omega⟩]
  decide
theorem mul_in {a b m n:Int} (h0:0≤a) (h1:a≤m) (k0:0≤b) (k1:b≤n):0≤a*b∧a*b≤m*n:=
 ⟨Int.mul_nonneg h0 k0,Int.mul_le_mul h1 k1 k0 (Int.le_trans h0 h1)⟩
theorem amt_ok (f0:0≤free) (f1:free≤255) (a0:0≤m0) (a1:m0≤255) (b0:0≤m1) (b1:m1≤255) {u:Us} (hu:smU 30000 u):(amtZ (pcT free m0 m1) u).2=0∧0≤(amtZ (pcT free m0 m1) u).1∧(amtZ (pcT free m0 m1) u).1≤1000000000000∧(u=zU→(amtZ (pcT free m0 m1) u).1=0):=by
 have hb:billZ (pcT free m0 m1) u=(max (u.inv-0) 0,max (u.units-free) 0,0):=by
  unfold billZ
  rw[if_neg (by rw[priceT_ok f0 f1 a0 a1 b0 b1];simp),if_neg (by rw[hu.us (by omega)];simp)]
  rfl
 unfold amtZ
 rw[hb]
 simp only[ne_eq,not_true_eq_false,↓reduceIte]
 obtain⟨i,hi⟩:∃i,i=max (u.inv-0) 0:=⟨_,rfl⟩
 obtain⟨n,hn⟩:∃n,n=max (u.units-free) 0:=⟨_,rfl⟩
 rw[←hi,←hn]
 have hi1:0≤i∧i≤30000:=by have:=hu.1;omega
 have hn1:0≤n∧n≤30000:=by have:=hu.2.2.2;omega
 have hz:u=zU→i=0∧n=0:=by rintro rfl;rw[hi,hn];simp only[zU];omega
 clear hi hn hb
 have p0:=partAt_le hn1.1 (pcT free m0 m1).ts 0
 have p1:=partAt_le hn1.1 (pcT free m0 m1).ts 1
 have q0:=partAt_nn (pcT free m0 m1).ts n 0
 have q1:=partAt_nn (pcT free m0 m1).ts n 1
 have hc:costTo (pcT free m0 m1) i n (pcT free m0 m1).ts.length=i*3+partAt (pcT free m0 m1).ts n 0*m0+partAt (pcT free m0 m1).ts n 1*m1:=rfl
 generalize partAt (pcT free m0 m1).ts n 0=x0 at*
 generalize partAt (pcT free m0 m1).ts n 1=x1 at*
 have r0:=mul_in q0 (Int.le_trans p0 hn1.2) a0 a1
 have r1:=mul_in q1 (Int.le_trans p1 hn1.2) b0 b1
 have z0:n=0→x0*m0=0:=by
  intro e
  have:x0=0:=by omega
  rw[this,Int.zero_mul]
 have z1:n=0→x1*m1=0:=by
  intro e
  have:x1=0:=by omega
  rw[this,Int.zero_mul]
 generalize x0*m0=y0 at*
 generalize x1*m1=y1 at*
 unfold costZ
 rw[hc,if_pos (by omega)]
 refine⟨rfl,by simp only;omega,by simp only;omega,fun e=> ?_⟩
 have:=hz e
 have:=z0 this.2
 have:=z1 (hz e).2
 simp only
 omega
theorem fB_bs (b:ByteArray):fB (bs b)=b:=by
 unfold fB bs
 simp
theorem fns_name {f:List UInt8} (h:f∈fnsU (ledT l) tnT 0):nameB (fB f)=true:=by
 rw[(fns_facts _ _ _).2]at h
 unfold fnL at h
 obtain⟨c,hc,rfl⟩:=List.mem_map.1 h
 rw[fB_bs]
 exact(crs_tn (List.mem_filter.1 hc).1).2.2
theorem by_fine (h:l.length≤30) {f:List UInt8} (hf:f∈fnsU (ledT l) tnT 0):(byU (ledT l) tnT (fB f) 0).2.2=0:=by
 have ha:askE [tnT,fB f] 0=0:=by
  unfold askE
  rw[if_pos (by simp[tnT_name,fns_name hf])]
  rfl
 have hs:∀g,(sumU g (ledT l).l zU).2=0:=fun g=>sum_fine _ _ _ 0 smU_crs (by unfold smU zU;simp) (by unfold ledT;simp only;rw[crsT_len];omega)
 unfold byU
 rw[if_pos ha,if_pos (hs _),if_pos (hs _)]
theorem agg_units (s:Led) (tn:ByteArray) (p:Int) (F:List (List UInt8)):(aggT s tn p F).units=(F.map fun f=>(tot (ofB tn (fB f) p false) s.l).units).sum:=by
 unfold aggT
 rw[fold_sumF]
 show(0:Int)+(sumF _ F).units=_
 rw[Int.zero_add]
 induction F with
 |nil=>rfl
 |cons f F ih=>
  rw[sumF,List.map_cons,List.sum_cons,←ih]
  rfl
theorem lines_units (h:l.length≤30):((mkLs (ledT l) tnT 0).map fun x=>x.us.units).sum=(totT l).units∧(mkW (ledT l) tnT 0).sum=(totT l).units:=by
 have e0:∀f∈fnsU (ledT l) tnT 0,(byU (ledT l) tnT (fB f) 0).1.units=(tot (ofB tnT (fB f) 0 false) (ledT l).l).units:=fun f hf=>by rw[by_ok _ _ _ _ (by_fine h hf)]
 have e1:(totT l).units=((fnsU (ledT l) tnT 0).map fun f=>(tot (ofB tnT (fB f) 0 false) (ledT l).l).units).sum:=by
  rw[←agg_units,agg_total]
  have:=total_ok (ledT l) tnT 0 (by rw[tot_all h])
  rw[tot_all h]at this
  rw[←this]
 have e2:mkW (ledT l) tnT 0=(fnsU (ledT l) tnT 0).map fun f=>(tot (ofB tnT (fB f) 0 false) (ledT l).l).units:=List.map_congr_left e0
 refine⟨?_,by rw[e2,e1]⟩
 rw[e1,←e2]
 unfold mkLs mkW
 rw[List.map_map]
 rfl
theorem mkG_eq (h:l.length≤30) (p:Prc):mkG (ledT l) p tnT 0=amtZ p (totT l):=by
 unfold mkG
 rw[tot_all h]
theorem weighT_ok (h:l.length≤30) (f0:0≤free) (f1:free≤255) (a0:0≤m0) (a1:m0≤255) (b0:0≤m1) (b1:m1≤255):(weighZ (mkG (ledT l) (pcT free m0 m1) tnT 0).1 (mkW (ledT l) tnT 0)).2=0:=by
 obtain⟨g1,g2,g3,g4⟩:=amt_ok f0 f1 a0 a1 b0 b1 (totT_sm l h)
 rw[mkG_eq h]
 have hs:=(lines_units h).2
 have ht:=(totT_sm l h).2.2.2
 unfold weighZ
 rw[if_neg,if_neg,if_neg,if_neg]
 ·omega
 ·rintro⟨e,hne⟩
  refine hne (g4 ?_)
  have hf:fnsU (ledT l) tnT 0=[]:=by unfold mkW at e;simpa using e
  have hl:l=[]:=by
   cases l with
   |nil=>rfl
   |cons u r=>
    exfalso
    have:bs (fnT u.f)∈fnsU (ledT (u::r)) tnT 0:=by
     rw[(fns_facts _ _ _).2]
     unfold fnL
     refine List.mem_map.2 ⟨⟨urT 0 u,0⟩,List.mem_filter.2 ⟨by unfold ledT;simp[crsT], ?_⟩,rfl⟩
     unfold inB urT
     simp
    rw[hf]at this
    cases this
  subst hl
  rfl
 ·have:=fns_len (ledT l) tnT 0
  have e:(ledT l).l.length=l.length:=crsT_len l 0
  unfold mkW
  rw[List.length_map]
  omega
 ·rintro(e|e)
  ·rw[amtB_iff.2 ⟨g2,g3⟩]at e;cases e
  ·have:(mkW (ledT l) tnT 0).all amtB=true:=by
    rw[List.all_eq_true]
    intro x hx
    unfold mkW at hx
    obtain⟨f,hf,rfl⟩:=List.mem_map.1 hx
    have hu:=byU_us (ledT l) tnT (fB f) 0
    simp only[usB,Bool.and_eq_true]at hu
    exact hu.2
   rw[this]at e
   cases e
theorem bills (h:l.length≤30) (f0:0≤free) (f1:free≤255) (a0:0≤m0) (a1:m0≤255) (b0:0≤m1) (b1:m1≤255) {O:List Int} (hO:(makeZ (ledT l) (pcT free m0 m1) tnT 0 O).2=0→IsOrd (shR (mkG (ledT l) (pcT free m0 m1) tnT 0).1 (mkW (ledT l) tnT 0)) O):
 (makeZ (ledT l) (pcT free m0 m1) tnT 0 O).2=0∧invZ (makeZ (ledT l) (pcT free m0 m1) tnT 0 O).1=0∧(amtZ (pcT free m0 m1) (totT l)).2=0∧(makeZ (ledT l) (pcT free m0 m1) tnT 0 O).1.gr=(amtZ (pcT free m0 m1) (totT l)).1∧(makeZ (ledT l) (pcT free m0 m1) tnT 0 O).1.nt=(amtZ (pcT free m0 m1) (totT l)).1∧((makeZ (ledT l) (pcT free m0 m1) tnT 0 O).1.ls.map fun x=>x.us.units).sum=(totT l).units∧sumMi (makeZ (ledT l) (pcT free m0 m1) tnT 0 O).1.ls=(amtZ (pcT free m0 m1) (totT l)).1:=by
 obtain⟨g1,g2,g3,g4⟩:=amt_ok f0 f1 a0 a1 b0 b1 (totT_sm l h)
 have h1:(totU (ledT l) tnT 0).2=0:=by rw[tot_all h]
 have h2:(mkG (ledT l) (pcT free m0 m1) tnT 0).2=0:=by rw[mkG_eq h];exact g1
 have h3:errs ((fnsU (ledT l) tnT 0).map (mkErr (ledT l) tnT 0))=0:=errs_all (fun e he=>by
  obtain⟨f,hf,rfl⟩:=List.mem_map.1 he
  exact by_fine h hf)
 have hm:=make_ok (O:=O) h1 h2 h3 (weighT_ok h f0 f1 a0 a1 b0 b1)
 have hp:=make_pass hO (by rw[hm])
 have hi:=inv_ok hp
 rw[hm]at hp hi⊢
 simp only at hp hi⊢
 rw[mkG_eq h]at hp hi⊢
 refine⟨by first|rfl|trivial,hp,g1,by first|rfl|trivial,by first|rfl|trivial, ?_,hi.2.2.2.2.2.2.1⟩
 rw[←(lines_units h).1]
 have e:∀(ls:List Ln) (sh:List Int),(setMi ls sh).map (fun x=>x.us.units)=ls.map fun x=>x.us.units:=by
  intro ls sh
  refine List.ext_getElem (by simp[setMi_len]) fun i q1 q2=> ?_
  have hi:i<ls.length:=by simpa using q2
  simp[setMi,List.getD_eq_getElem?_getD,hi]
 rw[e]
end
end
section
open Go.RowKit
theorem setT {W w:World} {b i:Nat} {v:Value} (h:Chg [] W w) (hb:W.heap.size≤b):Chg [] W (w.setCell ⟨b,i,none⟩ v):=h.setCell _ _ (fun hq=>by simp only at hq;omega)
theorem thenHT {S:List Nat} {a b c:World} (h:Hid (Chg S b c)) (k:Chg S a b):Chg S a c:=k.thenSame h.out
theorem bills_r11 {z0 z1 z3 z4 z5 z6 z7 z9 z10 z11 z13 z14 z15 z16 z17 z18 z19 z20 z21 z22 z23 z24 z25 z26 z27 z28 z29 z30 z31 z32 z33 z34 z35 z36 z37 z38 z39 z40 z41 z42 z43 z44 z45 z46 z47 z48 z49 z50 z51 z52 z53 z54 z55 z56 z57 z58 z59 z60 z61 z62 z63 z64 z65 z66 z67 z68 z69 z70 z71 z72 z73 z74 z75 z76 z77 z78 z79 z80 z81 z82 z83 z84 z85 z86 z87 z88 z89 z90 z91 z92 z93 z94 z95 z96 z97 z98 z99 z100 z101 z102 z103 z104 z105 z106 z107 z108 z109 z110 z111 z112 z113 z114 z115 z116 z117 z118 z119 z120 z121 z122 z123 z124 z125 z126 z127 z128 z129 z130 z131 z132 z133 z134 z135 z136 z137 z138 z139 z140 z141 z142 z143 z144 z145 z146 z147 z148 z149 z150 z151 z152 z153 z154 z155 z156 z157 z158 z159 z160 z161 z162 z163 z164 z165 z166 z167 z168 z169 z170 z171 z172 z173 z174 z175:Value} {ops:Array Oper} (hops:ops=rgnF Tryz.f5 11) {W:World} {pb lb lo len cap k:Nat} {s:Int} (b8:W.heap[pb]? =some (.cells #[.int .i64 10, .int .i64 7] 91 (0,0))) (h1:W.cell? ⟨lb,lo+k*3+1,none⟩=some (.int .u16 s)) (hlb:lb<W.heap.size) (hk0:(0:Int)≤(k:Int)) (hk1:(k:Int)<(len:Int)) (hs0:0≤s) (hs1:s≤65535) (Q:Exit→Act→World→Prop)
 (hQ:∀(bb:Nat) y50 y51 y52 y53 y54 y55 y56 y57 y58 y59 y60 y61 (wz:World),Hid (wz.heap[bb]? =some (usO (usOf (s%1000))))→Hid (Chg [] W wz)→Hid (W.heap.size≤bb)→Q .normal ⟨#[z0,z1, .slice (some ⟨lb,lo,none⟩) len cap,z3,z4,z5,z6,z7, .pointer (some ⟨pb,0,none⟩),z9,z10,z11, .int .i64 k, .pointer (some ⟨bb,0,none⟩), .int .i64 0,z15,z16,z17,z18,z19,z20,z21,z22,z23,z24,z25,z26,z27,z28,z29,z30,z31,z32,z33,z34,z35,z36,z37,z38,z39,z40,z41,z42,z43,z44,z45,z46,z47,z48,z49,y50,y51,y52,y53,y54,y55,y56,y57,y58,y59,y60,y61,z62,z63,z64,z65,z66,z67,z68,z69,z70,z71,z72,z73,z74,z75,z76,z77,z78,z79,z80,z81,z82,z83,z84,z85,z86,z87,z88,z89,z90,z91,z92,z93,z94,z95,z96,z97,z98,z99,z100,z101,z102,z103,z104,z105,z106,z107,z108,z109,z110,z111,z112,z113,z114,z115,z116,z117,z118,z119,z120,z121,z122,z123,z124,z125,z126,z127,z128,z129,z130,z131,z132,z133,z134,z135,z136,z137,z138,z139,z140,z141,z142,z143,z144,z145,z146,z147,z148,z149,z150,z151,z152,z153,z154,z155,z156,z157,z158,z159,z160,z161,z162,z163,z164,z165,z166,z167,z168,z169,z170,z171,z172,z173,z174,z175],[]⟩ wz):
 (Code.region 11 ops true).wp Tryz.prog Q ⟨#[z0,z1, .slice (some ⟨lb,lo,none⟩) len cap,z3,z4,z5,z6,z7, .pointer (some ⟨pb,0,none⟩),z9,z10,z11, .int .i64 k,z13,z14,z15,z16,z17,z18,z19,z20,z21,z22,z23,z24,z25,z26,z27,z28,z29,z30,z31,z32,z33,z34,z35,z36,z37,z38,z39,z40,z41,z42,z43,z44,z45,z46,z47,z48,z49,z50,z51,z52,z53,z54,z55,z56,z57,z58,z59,z60,z61,z62,z63,z64,z65,z66,z67,z68,z69,z70,z71,z72,z73,z74,z75,z76,z77,z78,z79,z80,z81,z82,z83,z84,z85,z86,z87,z88,z89,z90,z91,z92,z93,z94,z95,z96,z97,z98,z99,z100,z101,z102,z103,z104,z105,z106,z107,z108,z109,z110,z111,z112,z113,z114,z115,z116,z117,z118,z119,z120,z121,z122,z123,z124,z125,z126,z127,z128,z129,z130,z131,z132,z133,z134,z135,z136,z137,z138,z139,z140,z141,z142,z143,z144,z145,z146,z147,z148,z149,z150,z151,z152,z153,z154,z155,z156,z157,z158,z159,z160,z161,z162,z163,z164,z165,z166,z167,z168,z169,z170,z171,z172,z173,z174,z175],[]⟩ W:=by
 subst hops
 simp only[rgnF,Tryz.f5,Option.bind_some,rgn,Nat.reduceEqDiff,↓reduceIte,Option.orElse_some,Option.orElse_none,Option.getD_some,Option.orElse]
 have q1:IntKind.i64.wrap s=s:=IntWalk.i64_in _ (by omega)
 obtain⟨x,hx⟩:∃x,x=s%1000:=⟨_,rfl⟩
 have q2:s.tmod 1000=x:=by rw[Int.tmod_eq_emod_of_nonneg hs0,hx]
 have q3:s%1000=x:=hx.symm
 have OF0:=fun w'=>mof_pol x (by omega) (by omega) w'
 rw[←hx]at hQ
 unfold polV usV at OF0
 have hu:usOf x=⟨1,x,tkB x,unB x⟩:=rfl
 rw[hu]at OF0 hQ
 simp only at OF0
 have OF:=LH OF0
 unfold usO at hQ
 simp only at hQ
 generalize tkB x=u2 at*
 generalize unB x=u3 at*
 have V:=LH (show ∀w',Chg [] W w'→w'.cell? ⟨pb,0,none⟩=some (.int .i64 10)∧w'.cell? ⟨pb,1,none⟩=some (.int .i64 7)∧w'.cell? ⟨lb,lo+k*3+1,none⟩=some (.int .u16 s)from fun w' hc=>⟨blk_cell (hc.at (by simp) b8) (i:=0),blk_cell (hc.at (by simp) b8) (i:=1),(World.cell?_of_block (w:=W) (hc.block lb hlb (by simp))).trans h1⟩)
 obtain⟨v0,v1,v2⟩:=V.out W (Chg.refl _ _)
 have l1:=lt_of_heap b8
 clear OF0 hu hx b8 h1
 go_region_held3 (fun w'=>w'.cell? ⟨pb,0,none⟩=some (.int .i64 10)∧w'.cell? ⟨pb,1,none⟩=some (.int .i64 7)∧w'.cell? ⟨lb,lo+k*3+1,none⟩=some (.int .u16 s))
  (first|(refine V.out _ ?_;(repeat (first|exact Chg.refl _ _|(refine Chg.alloc ?_ _)|(refine Chg.drewN ?_ _)|(refine Chg.drew ?_)|(refine thenHT (by assumption) ?_)|(refine Chg.setCell ?_ _ _ (by intro hq;exfalso;simp only at hq;omega))))))
  (first
    |(go_at_call 22;(with_reducible refine Calls.mono (OF.out (World.drew (World.alloc W _))) ?_);rintro e w5 ⟨rfl,hc5⟩;have C5:=LH ((((Chg.refl [] W).alloc _).drew).thenSame hc5);have z5:=C5.out.size;have bw:Hid (w5.heap[W.heap.size]? =some (.cells #[.int .i64 0, .int .i64 0, .int .i64 0, .int .i64 0] 96 (0,0))):=LH (hc5.at (by simp) (((Chg.refl [] _).drew).at (by simp) (heap_alloc_new W (.cells #[.int .i64 0, .int .i64 0, .int .i64 0, .int .i64 0] 96 (0,0)))));have fw:=blk_free bw.out;have kw:=blk_cell bw.out;have lw:=lt_of_heap bw.out;clear hc5)
    |(go_at_call 22;(with_reducible refine Calls.mono (OF.out (World.alloc (World.drew W) _)) ?_);rintro e w5 ⟨rfl,hc5⟩;have C5:=LH ((((Chg.refl [] W).drew).alloc _).thenSame hc5);have z5:=C5.out.size;have bw:Hid (w5.heap[W.heap.size]? =some (.cells #[.int .i64 0, .int .i64 0, .int .i64 0, .int .i64 0] 96 (0,0))):=LH (hc5.at (by simp) (heap_alloc_new (World.drew W) (.cells #[.int .i64 0, .int .i64 0, .int .i64 0, .int .i64 0] 96 (0,0))));have fw:=blk_free bw.out;have kw:=blk_cell bw.out;have lw:=lt_of_heap bw.out;clear hc5)
    |(go_at_call 22;(with_reducible refine Calls.mono (OF.out (World.alloc W _)) ?_);rintro e w5 ⟨rfl,hc5⟩;have C5:=LH (((Chg.refl [] W).alloc _).thenSame hc5);have z5:=C5.out.size;have bw:Hid (w5.heap[W.heap.size]? =some (.cells #[.int .i64 0, .int .i64 0, .int .i64 0, .int .i64 0] 96 (0,0))):=LH (hc5.at (by simp) (heap_alloc_new W (.cells #[.int .i64 0, .int .i64 0, .int .i64 0, .int .i64 0] 96 (0,0))));have fw:=blk_free bw.out;have kw:=blk_cell bw.out;have lw:=lt_of_heap bw.out;clear hc5)
    |(go_at_call 22;(with_reducible refine Calls.mono (OF.out (World.drew W)) ?_);rintro e w5 ⟨rfl,hc5⟩;have C5:=LH (((Chg.refl [] W).drew).thenSame hc5);have z5:=C5.out.size;clear hc5)
    |(go_at_call 22;(with_reducible refine Calls.mono (OF.out W) ?_);rintro e w5 ⟨rfl,hc5⟩;have C5:=LH ((Chg.refl [] W).thenSame hc5);have z5:=C5.out.size;clear hc5)
    |fail)
 all_goals
  first
  |exact hQ w5.heap.size _ _ _ _ _ _ _ _ _ _ _ _ _ (LH (heap_alloc_new _ _)) (LH (C5.out.alloc _)) (LH z5)
  |exact hQ W.heap.size _ _ _ _ _ _ _ _ _ _ _ _ _ (LH (four_atT _ _ _ _ bw.out)) (LH ((((C5.out.setCell _ _ (fun h=>absurd h (Nat.lt_irrefl _))).setCell _ _ (fun h=>absurd h (Nat.lt_irrefl _))).setCell _ _ (fun h=>absurd h (Nat.lt_irrefl _))).setCell _ _ (fun h=>absurd h (Nat.lt_irrefl _)))) (LH (Nat.le_refl _))
theorem nine_atT {w:World} {b:Nat} {t:TypeId} {c0 c1 c2 c3 c4 c5 c6 c7 c8:Value} (x0 x1 x2 x3 x4 x5 x6 x7 x8:Value) (h:w.heap[b]? =some (.cells #[c0,c1,c2,c3,c4,c5,c6,c7,c8] t (0,0))):
 (((((((((w.setCell ⟨b,0,none⟩ x0).setCell ⟨b,1,none⟩ x1).setCell ⟨b,2,none⟩ x2).setCell ⟨b,3,none⟩ x3).setCell ⟨b,4,none⟩ x4).setCell ⟨b,5,none⟩ x5).setCell ⟨b,6,none⟩ x6).setCell ⟨b,7,none⟩ x7).setCell ⟨b,8,none⟩ x8).heap[b]? =some (.cells #[x0,x1,x2,x3,x4,x5,x6,x7,x8] t (0,0)):=by
 have h0:(w.setCell ⟨b,0,none⟩ x0).heap[b]? =some (.cells #[x0,c1,c2,c3,c4,c5,c6,c7,c8] t (0,0)):=blk_set h 0 x0
 have h1:((w.setCell ⟨b,0,none⟩ x0).setCell ⟨b,1,none⟩ x1).heap[b]? =some (.cells #[x0,x1,c2,c3,c4,c5,c6,c7,c8] t (0,0)):=blk_set h0 1 x1
 have h2:(((w.setCell ⟨b,0,none⟩ x0).setCell ⟨b,1,none⟩ x1).setCell ⟨b,2,none⟩ x2).heap[b]? =some (.cells #[x0,x1,x2,c3,c4,c5,c6,c7,c8] t (0,0)):=blk_set h1 2 x2
 have h3:((((w.setCell ⟨b,0,none⟩ x0).setCell ⟨b,1,none⟩ x1).setCell ⟨b,2,none⟩ x2).setCell ⟨b,3,none⟩ x3).heap[b]? =some (.cells #[x0,x1,x2,x3,c4,c5,c6,c7,c8] t (0,0)):=blk_set h2 3 x3
 have h4:(((((w.setCell ⟨b,0,none⟩ x0).setCell ⟨b,1,none⟩ x1).setCell ⟨b,2,none⟩ x2).setCell ⟨b,3,none⟩ x3).setCell ⟨b,4,none⟩ x4).heap[b]? =some (.cells #[x0,x1,x2,x3,x4,c5,c6,c7,c8] t (0,0)):=blk_set h3 4 x4
 have h5:((((((w.setCell ⟨b,0,none⟩ x0).setCell ⟨b,1,none⟩ x1).setCell ⟨b,2,none⟩ x2).setCell ⟨b,3,none⟩ x3).setCell ⟨b,4,none⟩ x4).setCell ⟨b,5,none⟩ x5).heap[b]? =some (.cells #[x0,x1,x2,x3,x4,x5,c6,c7,c8] t (0,0)):=blk_set h4 5 x5
 have h6:(((((((w.setCell ⟨b,0,none⟩ x0).setCell ⟨b,1,none⟩ x1).setCell ⟨b,2,none⟩ x2).setCell ⟨b,3,none⟩ x3).setCell ⟨b,4,none⟩ x4).setCell ⟨b,5,none⟩ x5).setCell ⟨b,6,none⟩ x6).heap[b]? =some (.cells #[x0,x1,x2,x3,x4,x5,x6,c7,c8] t (0,0)):=blk_set h5 6 x6
 have h7:((((((((w.setCell ⟨b,0,none⟩ x0).setCell ⟨b,1,none⟩ x1).setCell ⟨b,2,none⟩ x2).setCell ⟨b,3,none⟩ x3).setCell ⟨b,4,none⟩ x4).setCell ⟨b,5,none⟩ x5).setCell ⟨b,6,none⟩ x6).setCell ⟨b,7,none⟩ x7).heap[b]? =some (.cells #[x0,x1,x2,x3,x4,x5,x6,x7,c8] t (0,0)):=blk_set h6 7 x7
 exact blk_set h7 8 x8
theorem bills_r14 {z0 z1 z3 z4 z5 z6 z7 z8 z10 z11 z14 z15 z16 z17 z18 z19 z20 z21 z22 z23 z24 z25 z26 z27 z28 z29 z30 z31 z32 z33 z34 z35 z36 z37 z38 z39 z40 z41 z42 z43 z44 z45 z46 z47 z48 z49 z50 z51 z52 z53 z54 z55 z56 z57 z58 z59 z60 z61 z62 z63 z64 z65 z66 z67 z68 z69 z70 z71 z72 z73 z74 z75 z76 z77 z78 z79 z80 z81 z82 z83 z84 z85 z86 z87 z88 z89 z90 z91 z92 z93 z94 z95 z96 z97 z98 z99 z100 z101 z102 z103 z104 z105 z106 z107 z108 z109 z110 z111 z112 z113 z114 z115 z116 z117 z118 z119 z120 z121 z122 z123 z124 z125 z126 z127 z128 z129 z130 z131 z132 z133 z134 z135 z136 z137 z138 z139 z140 z141 z142 z143 z144 z145 z146 z147 z148 z149 z150 z151 z152 z153 z154 z155 z156 z157 z158 z159 z160 z161 z162 z163 z164 z165 z166 z167 z168 z169 z170 z171 z172 z173 z174 z175:Value} {ops:Array Oper} (hops:ops=rgnF Tryz.f5 14) {W:World} {nb lb lo len cap k j ub:Nat} {f u0 u1 u2 u3:Int} {fl:Bool} {s:ByteArray} (hS:∀w',Chg [] W w'→w'.cell? ⟨nb,j,none⟩=some (.string s)∧w'.cell? ⟨lb,lo+k*3,none⟩=some (.int .u8 f)∧w'.cell? ⟨lb,lo+k*3+2,none⟩=some (.bool fl)∧w'.cell? ⟨ub,0,none⟩=some (.int .i64 u0)∧w'.cell? ⟨ub,1,none⟩=some (.int .i64 u1)∧w'.cell? ⟨ub,2,none⟩=some (.int .i64 u2)∧w'.cell? ⟨ub,3,none⟩=some (.int .i64 u3)) (hub:ub<W.heap.size) (hlb:lb<W.heap.size) (hnb:nb<W.heap.size) (hk0:(0:Int)≤(k:Int)) (hk1:(k:Int)<(len:Int)) (hk3:k<30) (hj:(j:Int)=f%3) (hf0:0≤f) (hf1:f≤255) (Q:Exit→Act→World→Prop)
 (hQ:∀(bb:Nat) y64 y65 y66 y67 y68 y69 y70 y71 y72 y73 y74 y75 y76 y77 y78 y79 y80 y81 (wz:World),Hid (wz.heap[bb]? =some (.cells #[.string (nmT k), .string ⟨#[116]⟩, .string s, .int .i64 0, .int .i64 u0, .int .i64 u1, .int .i64 u2, .int .i64 u3, .bool fl] 103 (0,0)))→Hid (Chg [] W wz)→Hid (W.heap.size≤bb)→Q .normal ⟨#[z0,z1, .slice (some ⟨lb,lo,none⟩) len cap,z3,z4,z5,z6,z7,z8, .slice (some ⟨nb,0,none⟩) 3 3,z10,z11, .int .i64 k, .pointer (some ⟨ub,0,none⟩),z14, .pointer (some ⟨bb,0,none⟩),z16,z17,z18,z19,z20,z21,z22,z23,z24,z25,z26,z27,z28,z29,z30,z31,z32,z33,z34,z35,z36,z37,z38,z39,z40,z41,z42,z43,z44,z45,z46,z47,z48,z49,z50,z51,z52,z53,z54,z55,z56,z57,z58,z59,z60,z61,z62,z63,y64,y65,y66,y67,y68,y69,y70,y71,y72,y73,y74,y75,y76,y77,y78,y79,y80,y81,z82,z83,z84,z85,z86,z87,z88,z89,z90,z91,z92,z93,z94,z95,z96,z97,z98,z99,z100,z101,z102,z103,z104,z105,z106,z107,z108,z109,z110,z111,z112,z113,z114,z115,z116,z117,z118,z119,z120,z121,z122,z123,z124,z125,z126,z127,z128,z129,z130,z131,z132,z133,z134,z135,z136,z137,z138,z139,z140,z141,z142,z143,z144,z145,z146,z147,z148,z149,z150,z151,z152,z153,z154,z155,z156,z157,z158,z159,z160,z161,z162,z163,z164,z165,z166,z167,z168,z169,z170,z171,z172,z173,z174,z175],[]⟩ wz):
 (Code.region 14 ops true).wp Tryz.prog Q ⟨#[z0,z1, .slice (some ⟨lb,lo,none⟩) len cap,z3,z4,z5,z6,z7,z8, .slice (some ⟨nb,0,none⟩) 3 3,z10,z11, .int .i64 k, .pointer (some ⟨ub,0,none⟩),z14,z15,z16,z17,z18,z19,z20,z21,z22,z23,z24,z25,z26,z27,z28,z29,z30,z31,z32,z33,z34,z35,z36,z37,z38,z39,z40,z41,z42,z43,z44,z45,z46,z47,z48,z49,z50,z51,z52,z53,z54,z55,z56,z57,z58,z59,z60,z61,z62,z63,z64,z65,z66,z67,z68,z69,z70,z71,z72,z73,z74,z75,z76,z77,z78,z79,z80,z81,z82,z83,z84,z85,z86,z87,z88,z89,z90,z91,z92,z93,z94,z95,z96,z97,z98,z99,z100,z101,z102,z103,z104,z105,z106,z107,z108,z109,z110,z111,z112,z113,z114,z115,z116,z117,z118,z119,z120,z121,z122,z123,z124,z125,z126,z127,z128,z129,z130,z131,z132,z133,z134,z135,z136,z137,z138,z139,z140,z141,z142,z143,z144,z145,z146,z147,z148,z149,z150,z151,z152,z153,z154,z155,z156,z157,z158,z159,z160,z161,z162,z163,z164,z165,z166,z167,z168,z169,z170,z171,z172,z173,z174,z175],[]⟩ W:=by
 subst hops
 simp only[rgnF,Tryz.f5,Option.bind_some,rgn,Nat.reduceEqDiff,↓reduceIte,Option.orElse_some,Option.orElse_none,Option.getD_some,Option.orElse]
 have q2:f.tmod 3=(j:Int):=by rw[Int.tmod_eq_emod_of_nonneg hf0,hj]
 have q3:f%3=(j:Int):=hj.symm
 have j0:(0:Int)≤(j:Int):=by omega
 have j1:(j:Int)<3:=by omega
 have TN:=LH (fun w'=>tnameW_any k hk3 w')
 have V:=LH hS
 obtain⟨v0,v1,v2,v3,v4,v5,v6⟩:=hS W (Chg.refl _ _)
 generalize nmT k=nm at*
 clear hS hj hk3
 go_region_held3 (fun w'=>w'.cell? ⟨nb,j,none⟩=some (.string s)∧w'.cell? ⟨lb,lo+k*3,none⟩=some (.int .u8 f)∧w'.cell? ⟨lb,lo+k*3+2,none⟩=some (.bool fl)∧w'.cell? ⟨ub,0,none⟩=some (.int .i64 u0)∧w'.cell? ⟨ub,1,none⟩=some (.int .i64 u1)∧w'.cell? ⟨ub,2,none⟩=some (.int .i64 u2)∧w'.cell? ⟨ub,3,none⟩=some (.int .i64 u3))
  (first|(refine V.out _ ?_;(repeat (first|(with_reducible exact Chg.refl _ _)|(with_reducible exact C5.out)|(with_reducible refine setT ?_ (by omega))|(with_reducible refine Chg.alloc ?_ _)|(with_reducible refine Chg.drewN ?_ _)|(with_reducible refine Chg.drew ?_)))))
  (first
    |(go_at_call 15;(with_reducible refine Calls.mono (TN.out (World.drew (World.alloc W _))) ?_);rintro e w5 ⟨rfl,hc5⟩;have C5:=LH ((((Chg.refl [] W).alloc _).drew).thenSame hc5);have z5:=C5.out.size;have bw:Hid (w5.heap[W.heap.size]? =some (.cells #[.string ⟨#[]⟩, .string ⟨#[]⟩, .string ⟨#[]⟩, .int .i64 0, .int .i64 0, .int .i64 0, .int .i64 0, .int .i64 0, .bool false] 103 (0,0))):=LH (hc5.at (by simp) (((Chg.refl [] _).drew).at (by simp) (heap_alloc_new W (.cells #[.string ⟨#[]⟩, .string ⟨#[]⟩, .string ⟨#[]⟩, .int .i64 0, .int .i64 0, .int .i64 0, .int .i64 0, .int .i64 0, .bool false] 103 (0,0)))));have fw:=blk_free bw.out;have kw:=blk_cell bw.out;have lw:=lt_of_heap bw.out;clear hc5)
    |(go_at_call 15;(with_reducible refine Calls.mono (TN.out (World.alloc (World.drew W) _)) ?_);rintro e w5 ⟨rfl,hc5⟩;have C5:=LH ((((Chg.refl [] W).drew).alloc _).thenSame hc5);have z5:=C5.out.size;have bw:Hid (w5.heap[W.heap.size]? =some (.cells #[.string ⟨#[]⟩, .string ⟨#[]⟩, .string ⟨#[]⟩, .int .i64 0, .int .i64 0, .int .i64 0, .int .i64 0, .int .i64 0, .bool false] 103 (0,0))):=LH (hc5.at (by simp) (heap_alloc_new (World.drew W) (.cells #[.string ⟨#[]⟩, .string ⟨#[]⟩, .string ⟨#[]⟩, .int .i64 0, .int .i64 0, .int .i64 0, .int .i64 0, .int .i64 0, .bool false] 103 (0,0))));have fw:=blk_free bw.out;have kw:=blk_cell bw.out;have lw:=lt_of_heap bw.out;clear hc5)
    |(go_at_call 15;(with_reducible refine Calls.mono (TN.out (World.alloc W _)) ?_);rintro e w5 ⟨rfl,hc5⟩;have C5:=LH (((Chg.refl [] W).alloc _).thenSame hc5);have z5:=C5.out.size;have bw:Hid (w5.heap[W.heap.size]? =some (.cells #[.string ⟨#[]⟩, .string ⟨#[]⟩, .string ⟨#[]⟩, .int .i64 0, .int .i64 0, .int .i64 0, .int .i64 0, .int .i64 0, .bool false] 103 (0,0))):=LH (hc5.at (by simp) (heap_alloc_new W (.cells #[.string ⟨#[]⟩, .string ⟨#[]⟩, .string ⟨#[]⟩, .int .i64 0, .int .i64 0, .int .i64 0, .int .i64 0, .int .i64 0, .bool false] 103 (0,0))));have fw:=blk_free bw.out;have kw:=blk_cell bw.out;have lw:=lt_of_heap bw.out;clear hc5)
    |(go_at_call 15;(with_reducible refine Calls.mono (TN.out (World.drew W)) ?_);rintro e w5 ⟨rfl,hc5⟩;have C5:=LH (((Chg.refl [] W).drew).thenSame hc5);have z5:=C5.out.size;clear hc5)
    |(go_at_call 15;(with_reducible refine Calls.mono (TN.out W) ?_);rintro e w5 ⟨rfl,hc5⟩;have C5:=LH ((Chg.refl [] W).thenSame hc5);have z5:=C5.out.size;clear hc5)
    |fail)
 all_goals
  first
  |exact hQ w5.heap.size _ _ _ _ _ _ _ _ _ _ _ _ _ _ _ _ _ _ _ (LH (heap_alloc_new _ _)) (LH (C5.out.alloc _)) (LH z5)
  |exact hQ W.heap.size _ _ _ _ _ _ _ _ _ _ _ _ _ _ _ _ _ _ _ (LH (nine_atT _ _ _ _ _ _ _ _ _ bw.out)) (LH (((((((((C5.out.setCell _ _ (fun h=>absurd h (Nat.lt_irrefl _))).setCell _ _ (fun h=>absurd h (Nat.lt_irrefl _))).setCell _ _ (fun h=>absurd h (Nat.lt_irrefl _))).setCell _ _ (fun h=>absurd h (Nat.lt_irrefl _))).setCell _ _ (fun h=>absurd h (Nat.lt_irrefl _))).setCell _ _ (fun h=>absurd h (Nat.lt_irrefl _))).setCell _ _ (fun h=>absurd h (Nat.lt_irrefl _))).setCell _ _ (fun h=>absurd h (Nat.lt_irrefl _))).setCell _ _ (fun h=>absurd h (Nat.lt_irrefl _)))) (LH (Nat.le_refl _))
  |trace_state
end
section
open Go.RowKit Go.ChangeShapes Go.WideShapes
section
variable {H:Type} {enc:TypeId×Value→H} {w:World} {base:Nat} {spare:Nat→Bool} {held:Bool}
end
theorem name_smallT {b:ByteArray} (h:nameB b=true):b.size≤maxLen:=by
 unfold nameB at h
 simp only[Bool.and_eq_true,decide_eq_true_eq]at h
 unfold maxLen
 omega
theorem inv_goodT {i:Inv} (h:invZ i=0) (hl:i.ls.length≤maxLen):i.good:=
 ⟨name_smallT (inv_ok h).1,fun x hx=>name_smallT (lines_mi (inv_ok h).2.2.1 x hx).1,hl⟩
theorem sumT_take {L:List Int} (h:∀x∈L,0≤x):∀m,0≤(L.take m).sum∧(L.take m).sum≤L.sum:=by
 induction L with
 |nil=>intro m;simp
 |cons x L ih=>
  intro m
  have hx:=h x (by simp)
  have hs:=ih (fun y hy=>h y (by simp[hy]))
  cases m with
  |zero=>
   have:=hs L.length
   rw[List.take_length]at this
   simp only[List.take_zero,List.sum_nil,List.sum_cons]
   omega
  |succ m=>
   have:=hs m
   simp only[List.take_succ_cons,List.sum_cons]
   omega
theorem sumT_step {L:List Int} {m:Nat} {x:Int} (h:L[m]? =some x):(L.take (m+1)).sum=(L.take m).sum+x:=by
 obtain⟨hm,e⟩:=List.getElem?_eq_some_iff.1 h
 rw[List.take_succ_eq_append_getElem hm,List.sum_append,e]
 simp
theorem wf_u8S {n:Int} (h:(Lit.int .u8 n).wf=true):0≤n∧n≤255:=by
 have:=(Lit.wf_int_iff _ _).1 h
 simpa[IntKind.min,IntKind.max,IntKind.bits,IntKind.signed]using this
theorem wf_u16S {n:Int} (h:(Lit.int .u16 n).wf=true):0≤n∧n≤65535:=by
 have:=(Lit.wf_int_iff _ _).1 h
 simpa[IntKind.min,IntKind.max,IntKind.bits,IntKind.signed]using this
theorem fns_small {l:List Ud}:∀f∈fnsU (ledT l) tnT 0,(fB f).size≤maxLen:=fun f hf=>name_smallT (fns_name hf)
theorem fns_few {l:List Ud} (h:l.length≤30):(fnsU (ledT l) tnT 0).length≤30:=by
 have:=fns_len (ledT l) tnT 0
 have e:(ledT l).l.length=l.length:=crsT_len l 0
 omega
theorem make_lenT {s:Led} {p:Prc} {tn:ByteArray} {per:Int} {O:List Int}:(makeZ s p tn per O).1.ls.length≤(fnsU s tn per).length:=by
 unfold makeZ
 split
 ·simp[inv0]
 ·split
  ·simp[inv0]
  ·split
   ·simp[inv0]
   ·split
    ·simp[inv0]
    ·rw[setMi_len];unfold mkLs;simp
end
end Go.Proofs.YtmofknmeljdodaaGreatDoor
