/- Chapter 9: contracts: Keyword, run, name, the checks of a node's fields. No condition but those that the statements name. -/
import Derived.Lib.MinMax
import Derived.Test.YtmofknmeljdodaaGreatDoorZS01
import Derived.Test.YtmofknmeljdodaaGreatDoorZS06
import Derived.Test.YtmofknmeljdodaaGreatDoorZS05
set_option maxHeartbeats 100000000
set_option maxRecDepth 100000
set_option linter.unusedVariables false
set_option linter.unusedSimpArgs false
open List renaming getElem_toArray→gTA,getElem_cons_zero→gCZ,getElem_cons_succ→gCS,setIfInBounds_toArray→sTA,set_cons_zero→sCZ,set_cons_succ→sCS
namespace Go.Proofs.YtmofknmeljdodaaGreatDoor
section
open Go.RowKit
def binL:List (ByteArray×Int):=[(⟨#[111,114]⟩,1),(⟨#[97,110,100]⟩,2),(⟨#[61,61]⟩,4),(⟨#[33,61]⟩,4),(⟨#[60]⟩,4),(⟨#[60,61]⟩,4),(⟨#[62]⟩,4),(⟨#[62,61]⟩,4),(⟨#[43]⟩,5),(⟨#[45]⟩,5),(⟨#[42]⟩,6),(⟨#[47]⟩,6),(⟨#[37]⟩,6)]
def binZ (s:ByteArray):Int:=((binL.find? (fun x=>x.1==s)).map Prod.snd).getD 0
theorem binZ_none {s:ByteArray} (h:∀x∈binL,x.1≠s):binZ s=0:=by
 unfold binZ
 rw[List.find?_eq_none.2 (by intro y hy;simpa using h y hy)]
 rfl
theorem kwB_none {s:ByteArray} (h:∀x∈sKwL,x≠s):sKwB s=false:=by
 unfold sKwB
 rw[List.any_eq_false]
 intro x hx
 simpa using fun e=>h x hx e.symm
theorem keyword_any (s:ByteArray) (w:World):Calls Tryz.prog 138 #[.string s] w fun e w'=>e= .returned (.bool (sKwB s))∧w'=w:=by
 by_cases h0:s=⟨#[102,117,110,99]⟩
 ·have HE:=LH (show sKwB s=sKwB ⟨#[102,117,110,99]⟩ by rw[h0])
  rw[HE.out]
  subst h0
  clear HE
  go_enter Tryz.func138,Tryz.ntmps138
  go_wp2_with fail
  go_ret
  exact⟨by kernel_rfl,rfl⟩
 by_cases h1:s=⟨#[108,101,116]⟩
 ·have HE:=LH (show sKwB s=sKwB ⟨#[108,101,116]⟩ by rw[h1])
  rw[HE.out]
  subst h1
  clear HE
  go_enter Tryz.func138,Tryz.ntmps138
  go_wp2_with fail
  go_ret
  exact⟨by kernel_rfl,rfl⟩
 by_cases h2:s=⟨#[105,102]⟩
 ·have HE:=LH (show sKwB s=sKwB ⟨#[105,102]⟩ by rw[h2])
  rw[HE.out]
  subst h2
  clear HE
  go_enter Tryz.func138,Tryz.ntmps138
  go_wp2_with fail
  go_ret
  exact⟨by kernel_rfl,rfl⟩
 by_cases h3:s=⟨#[101,108,115,101]⟩
 ·have HE:=LH (show sKwB s=sKwB ⟨#[101,108,115,101]⟩ by rw[h3])
  rw[HE.out]
  subst h3
  clear HE
  go_enter Tryz.func138,Tryz.ntmps138
  go_wp2_with fail
  go_ret
  exact⟨by kernel_rfl,rfl⟩
 by_cases h4:s=⟨#[119,104,105,108,101]⟩
 ·have HE:=LH (show sKwB s=sKwB ⟨#[119,104,105,108,101]⟩ by rw[h4])
  rw[HE.out]
  subst h4
  clear HE
  go_enter Tryz.func138,Tryz.ntmps138
  go_wp2_with fail
  go_ret
  exact⟨by kernel_rfl,rfl⟩
 by_cases h5:s=⟨#[114,101,116,117,114,110]⟩
 ·have HE:=LH (show sKwB s=sKwB ⟨#[114,101,116,117,114,110]⟩ by rw[h5])
  rw[HE.out]
  subst h5
  clear HE
  go_enter Tryz.func138,Tryz.ntmps138
  go_wp2_with fail
  go_ret
  exact⟨by kernel_rfl,rfl⟩
 by_cases h6:s=⟨#[97,110,100]⟩
 ·have HE:=LH (show sKwB s=sKwB ⟨#[97,110,100]⟩ by rw[h6])
  rw[HE.out]
  subst h6
  clear HE
  go_enter Tryz.func138,Tryz.ntmps138
  go_wp2_with fail
  go_ret
  exact⟨by kernel_rfl,rfl⟩
 by_cases h7:s=⟨#[111,114]⟩
 ·have HE:=LH (show sKwB s=sKwB ⟨#[111,114]⟩ by rw[h7])
  rw[HE.out]
  subst h7
  clear HE
  go_enter Tryz.func138,Tryz.ntmps138
  go_wp2_with fail
  go_ret
  exact⟨by kernel_rfl,rfl⟩
 by_cases h8:s=⟨#[110,111,116]⟩
 ·have HE:=LH (show sKwB s=sKwB ⟨#[110,111,116]⟩ by rw[h8])
  rw[HE.out]
  subst h8
  clear HE
  go_enter Tryz.func138,Tryz.ntmps138
  go_wp2_with fail
  go_ret
  exact⟨by kernel_rfl,rfl⟩
 by_cases h9:s=⟨#[110,117,108,108]⟩
 ·have HE:=LH (show sKwB s=sKwB ⟨#[110,117,108,108]⟩ by rw[h9])
  rw[HE.out]
  subst h9
  clear HE
  go_enter Tryz.func138,Tryz.ntmps138
  go_wp2_with fail
  go_ret
  exact⟨by kernel_rfl,rfl⟩
 by_cases h10:s=⟨#[116,114,117,101]⟩
 ·have HE:=LH (show sKwB s=sKwB ⟨#[116,114,117,101]⟩ by rw[h10])
  rw[HE.out]
  subst h10
  clear HE
  go_enter Tryz.func138,Tryz.ntmps138
  go_wp2_with fail
  go_ret
  exact⟨by kernel_rfl,rfl⟩
 by_cases h11:s=⟨#[102,97,108,115,101]⟩
 ·have HE:=LH (show sKwB s=sKwB ⟨#[102,97,108,115,101]⟩ by rw[h11])
  rw[HE.out]
  subst h11
  clear HE
  go_enter Tryz.func138,Tryz.ntmps138
  go_wp2_with fail
  go_ret
  exact⟨by kernel_rfl,rfl⟩
 have HE:=LH (show sKwB s=false from kwB_none (by
  intro x hx
  simp only[sKwL,List.mem_cons,List.not_mem_nil,or_false]at hx
  rcases hx with rfl|rfl|rfl|rfl|rfl|rfl|rfl|rfl|rfl|rfl|rfl|rfl<;>intro e<;>simp_all))
 rw[HE.out]
 have q0:(s.toList==[102,117,110,99])=false:=(show(s.toList==[102,117,110,99])=(s.toList==(⟨#[102,117,110,99]⟩:ByteArray).toList)from by rw[show(⟨#[102,117,110,99]⟩:ByteArray).toList=[102,117,110,99]from by kernel_rfl]).trans ((beq_toListBytes s ⟨#[102,117,110,99]⟩).symm.trans (beq_eq_false_iff_ne.2 h0))
 have q1:(s.toList==[108,101,116])=false:=(show(s.toList==[108,101,116])=(s.toList==(⟨#[108,101,116]⟩:ByteArray).toList)from by rw[show(⟨#[108,101,116]⟩:ByteArray).toList=[108,101,116]from by kernel_rfl]).trans ((beq_toListBytes s ⟨#[108,101,116]⟩).symm.trans (beq_eq_false_iff_ne.2 h1))
 have q2:(s.toList==[105,102])=false:=(show(s.toList==[105,102])=(s.toList==(⟨#[105,102]⟩:ByteArray).toList)from by rw[show(⟨#[105,102]⟩:ByteArray).toList=[105,102]from by kernel_rfl]).trans ((beq_toListBytes s ⟨#[105,102]⟩).symm.trans (beq_eq_false_iff_ne.2 h2))
 have q3:(s.toList==[101,108,115,101])=false:=(show(s.toList==[101,108,115,101])=(s.toList==(⟨#[101,108,115,101]⟩:ByteArray).toList)from by rw[show(⟨#[101,108,115,101]⟩:ByteArray).toList=[101,108,115,101]from by kernel_rfl]).trans ((beq_toListBytes s ⟨#[101,108,115,101]⟩).symm.trans (beq_eq_false_iff_ne.2 h3))
 have q4:(s.toList==[119,104,105,108,101])=false:=(show(s.toList==[119,104,105,108,101])=(s.toList==(⟨#[119,104,105,108,101]⟩:ByteArray).toList)from by rw[show(⟨#[119,104,105,108,101]⟩:ByteArray).toList=[119,104,105,108,101]from by kernel_rfl]).trans ((beq_toListBytes s ⟨#[119,104,105,108,101]⟩).symm.trans (beq_eq_false_iff_ne.2 h4))
 have q5:(s.toList==[114,101,116,117,114,110])=false:=(show(s.toList==[114,101,116,117,114,110])=(s.toList==(⟨#[114,101,116,117,114,110]⟩:ByteArray).toList)from by rw[show(⟨#[114,101,116,117,114,110]⟩:ByteArray).toList=[114,101,116,117,114,110]from by kernel_rfl]).trans ((beq_toListBytes s ⟨#[114,101,116,117,114,110]⟩).symm.trans (beq_eq_false_iff_ne.2 h5))
 have q6:(s.toList==[97,110,100])=false:=(show(s.toList==[97,110,100])=(s.toList==(⟨#[97,110,100]⟩:ByteArray).toList)from by rw[show(⟨#[97,110,100]⟩:ByteArray).toList=[97,110,100]from by kernel_rfl]).trans ((beq_toListBytes s ⟨#[97,110,100]⟩).symm.trans (beq_eq_false_iff_ne.2 h6))
 have q7:(s.toList==[111,114])=false:=(show(s.toList==[111,114])=(s.toList==(⟨#[111,114]⟩:ByteArray).toList)from by rw[show(⟨#[111,114]⟩:ByteArray).toList=[111,114]from by kernel_rfl]).trans ((beq_toListBytes s ⟨#[111,114]⟩).symm.trans (beq_eq_false_iff_ne.2 h7))
 have q8:(s.toList==[110,111,116])=false:=(show(s.toList==[110,111,116])=(s.toList==(⟨#[110,111,116]⟩:ByteArray).toList)from by rw[show(⟨#[110,111,116]⟩:ByteArray).toList=[110,111,116]from by kernel_rfl]).trans ((beq_toListBytes s ⟨#[110,111,116]⟩).symm.trans (beq_eq_false_iff_ne.2 h8))
 have q9:(s.toList==[110,117,108,108])=false:=(show(s.toList==[110,117,108,108])=(s.toList==(⟨#[110,117,108,108]⟩:ByteArray).toList)from by rw[show(⟨#[110,117,108,108]⟩:ByteArray).toList=[110,117,108,108]from by kernel_rfl]).trans ((beq_toListBytes s ⟨#[110,117,108,108]⟩).symm.trans (beq_eq_false_iff_ne.2 h9))
 have q10:(s.toList==[116,114,117,101])=false:=(show(s.toList==[116,114,117,101])=(s.toList==(⟨#[116,114,117,101]⟩:ByteArray).toList)from by rw[show(⟨#[116,114,117,101]⟩:ByteArray).toList=[116,114,117,101]from by kernel_rfl]).trans ((beq_toListBytes s ⟨#[116,114,117,101]⟩).symm.trans (beq_eq_false_iff_ne.2 h10))
 have q11:(s.toList==[102,97,108,115,101])=false:=(show(s.toList==[102,97,108,115,101])=(s.toList==(⟨#[102,97,108,115,101]⟩:ByteArray).toList)from by rw[show(⟨#[102,97,108,115,101]⟩:ByteArray).toList=[102,97,108,115,101]from by kernel_rfl]).trans ((beq_toListBytes s ⟨#[102,97,108,115,101]⟩).symm.trans (beq_eq_false_iff_ne.2 h11))
 clear HE h0 h1 h2 h3 h4 h5 h6 h7 h8 h9 h10 h11
 go_enter Tryz.func138,Tryz.ntmps138
 go_wp2_with fail
 go_ret
 exact⟨rfl,rfl⟩
theorem binary_any (s:ByteArray) (w:World):Calls Tryz.prog 323 #[.string s] w fun e w'=>e= .returned (.int .i64 (binZ s))∧w'=w:=by
 by_cases h0:s=⟨#[111,114]⟩
 ·have HE:=LH (show binZ s=binZ ⟨#[111,114]⟩ by rw[h0])
  rw[HE.out]
  subst h0
  clear HE
  go_enter Tryz.func323,Tryz.ntmps323
  go_wp2_with fail
  go_ret
  exact⟨by kernel_rfl,rfl⟩
 by_cases h1:s=⟨#[97,110,100]⟩
 ·have HE:=LH (show binZ s=binZ ⟨#[97,110,100]⟩ by rw[h1])
  rw[HE.out]
  subst h1
  clear HE
  go_enter Tryz.func323,Tryz.ntmps323
  go_wp2_with fail
  go_ret
  exact⟨by kernel_rfl,rfl⟩
 by_cases h2:s=⟨#[61,61]⟩
 ·have HE:=LH (show binZ s=binZ ⟨#[61,61]⟩ by rw[h2])
  rw[HE.out]
  subst h2
  clear HE
  go_enter Tryz.func323,Tryz.ntmps323
  go_wp2_with fail
  go_ret
  exact⟨by kernel_rfl,rfl⟩
 by_cases h3:s=⟨#[33,61]⟩
 ·have HE:=LH (show binZ s=binZ ⟨#[33,61]⟩ by rw[h3])
  rw[HE.out]
  subst h3
  clear HE
  go_enter Tryz.func323,Tryz.ntmps323
  go_wp2_with fail
  go_ret
  exact⟨by kernel_rfl,rfl⟩
 by_cases h4:s=⟨#[60]⟩
 ·have HE:=LH (show binZ s=binZ ⟨#[60]⟩ by rw[h4])
  rw[HE.out]
  subst h4
  clear HE
  go_enter Tryz.func323,Tryz.ntmps323
  go_wp2_with fail
  go_ret
  exact⟨by kernel_rfl,rfl⟩
 by_cases h5:s=⟨#[60,61]⟩
 ·have HE:=LH (show binZ s=binZ ⟨#[60,61]⟩ by rw[h5])
  rw[HE.out]
  subst h5
  clear HE
  go_enter Tryz.func323,Tryz.ntmps323
  go_wp2_with fail
  go_ret
  exact⟨by kernel_rfl,rfl⟩
 by_cases h6:s=⟨#[62]⟩
 ·have HE:=LH (show binZ s=binZ ⟨#[62]⟩ by rw[h6])
  rw[HE.out]
  subst h6
  clear HE
  go_enter Tryz.func323,Tryz.ntmps323
  go_wp2_with fail
  go_ret
  exact⟨by kernel_rfl,rfl⟩
 by_cases h7:s=⟨#[62,61]⟩
 ·have HE:=LH (show binZ s=binZ ⟨#[62,61]⟩ by rw[h7])
  rw[HE.out]
  subst h7
  clear HE
  go_enter Tryz.func323,Tryz.ntmps323
  go_wp2_with fail
  go_ret
  exact⟨by kernel_rfl,rfl⟩
 by_cases h8:s=⟨#[43]⟩
 ·have HE:=LH (show binZ s=binZ ⟨#[43]⟩ by rw[h8])
  rw[HE.out]
  subst h8
  clear HE
  go_enter Tryz.func323,Tryz.ntmps323
  go_wp2_with fail
  go_ret
  exact⟨by kernel_rfl,rfl⟩
 by_cases h9:s=⟨#[45]⟩
 ·have HE:=LH (show binZ s=binZ ⟨#[45]⟩ by rw[h9])
  rw[HE.out]
  subst h9
  clear HE
  go_enter Tryz.func323,Tryz.ntmps323
  go_wp2_with fail
  go_ret
  exact⟨by kernel_rfl,rfl⟩
 by_cases h10:s=⟨#[42]⟩
 ·have HE:=LH (show binZ s=binZ ⟨#[42]⟩ by rw[h10])
  rw[HE.out]
  subst h10
  clear HE
  go_enter Tryz.func323,Tryz.ntmps323
  go_wp2_with fail
  go_ret
  exact⟨by kernel_rfl,rfl⟩
 by_cases h11:s=⟨#[47]⟩
 ·have HE:=LH (show binZ s=binZ ⟨#[47]⟩ by rw[h11])
  rw[HE.out]
  subst h11
  clear HE
  go_enter Tryz.func323,Tryz.ntmps323
  go_wp2_with fail
  go_ret
  exact⟨by kernel_rfl,rfl⟩
 by_cases h12:s=⟨#[37]⟩
 ·have HE:=LH (show binZ s=binZ ⟨#[37]⟩ by rw[h12])
  rw[HE.out]
  subst h12
  clear HE
  go_enter Tryz.func323,Tryz.ntmps323
  go_wp2_with fail
  go_ret
  exact⟨by kernel_rfl,rfl⟩
 have HE:=LH (show binZ s=0 from binZ_none (by
  intro x hx
  simp only[binL,List.mem_cons,List.not_mem_nil,or_false]at hx
  rcases hx with rfl|rfl|rfl|rfl|rfl|rfl|rfl|rfl|rfl|rfl|rfl|rfl|rfl<;>intro e<;>simp_all))
 rw[HE.out]
 have q0:(s.toList==[111,114])=false:=(show(s.toList==[111,114])=(s.toList==(⟨#[111,114]⟩:ByteArray).toList)from by rw[show(⟨#[111,114]⟩:ByteArray).toList=[111,114]from by kernel_rfl]).trans ((beq_toListBytes s ⟨#[111,114]⟩).symm.trans (beq_eq_false_iff_ne.2 h0))
 have q1:(s.toList==[97,110,100])=false:=(show(s.toList==[97,110,100])=(s.toList==(⟨#[97,110,100]⟩:ByteArray).toList)from by rw[show(⟨#[97,110,100]⟩:ByteArray).toList=[97,110,100]from by kernel_rfl]).trans ((beq_toListBytes s ⟨#[97,110,100]⟩).symm.trans (beq_eq_false_iff_ne.2 h1))
 have q2:(s.toList==[61,61])=false:=(show(s.toList==[61,61])=(s.toList==(⟨#[61,61]⟩:ByteArray).toList)from by rw[show(⟨#[61,61]⟩:ByteArray).toList=[61,61]from by kernel_rfl]).trans ((beq_toListBytes s ⟨#[61,61]⟩).symm.trans (beq_eq_false_iff_ne.2 h2))
 have q3:(s.toList==[33,61])=false:=(show(s.toList==[33,61])=(s.toList==(⟨#[33,61]⟩:ByteArray).toList)from by rw[show(⟨#[33,61]⟩:ByteArray).toList=[33,61]from by kernel_rfl]).trans ((beq_toListBytes s ⟨#[33,61]⟩).symm.trans (beq_eq_false_iff_ne.2 h3))
 have q4:(s.toList==[60])=false:=(show(s.toList==[60])=(s.toList==(⟨#[60]⟩:ByteArray).toList)from by rw[show(⟨#[60]⟩:ByteArray).toList=[60]from by kernel_rfl]).trans ((beq_toListBytes s ⟨#[60]⟩).symm.trans (beq_eq_false_iff_ne.2 h4))
 have q5:(s.toList==[60,61])=false:=(show(s.toList==[60,61])=(s.toList==(⟨#[60,61]⟩:ByteArray).toList)from by rw[show(⟨#[60,61]⟩:ByteArray).toList=[60,61]from by kernel_rfl]).trans ((beq_toListBytes s ⟨#[60,61]⟩).symm.trans (beq_eq_false_iff_ne.2 h5))
 have q6:(s.toList==[62])=false:=(show(s.toList==[62])=(s.toList==(⟨#[62]⟩:ByteArray).toList)from by rw[show(⟨#[62]⟩:ByteArray).toList=[62]from by kernel_rfl]).trans ((beq_toListBytes s ⟨#[62]⟩).symm.trans (beq_eq_false_iff_ne.2 h6))
 have q7:(s.toList==[62,61])=false:=(show(s.toList==[62,61])=(s.toList==(⟨#[62,61]⟩:ByteArray).toList)from by rw[show(⟨#[62,61]⟩:ByteArray).toList=[62,61]from by kernel_rfl]).trans ((beq_toListBytes s ⟨#[62,61]⟩).symm.trans (beq_eq_false_iff_ne.2 h7))
 have q8:(s.toList==[43])=false:=(show(s.toList==[43])=(s.toList==(⟨#[43]⟩:ByteArray).toList)from by rw[show(⟨#[43]⟩:ByteArray).toList=[43]from by kernel_rfl]).trans ((beq_toListBytes s ⟨#[43]⟩).symm.trans (beq_eq_false_iff_ne.2 h8))
 have q9:(s.toList==[45])=false:=(show(s.toList==[45])=(s.toList==(⟨#[45]⟩:ByteArray).toList)from by rw[show(⟨#[45]⟩:ByteArray).toList=[45]from by kernel_rfl]).trans ((beq_toListBytes s ⟨#[45]⟩).symm.trans (beq_eq_false_iff_ne.2 h9))
 have q10:(s.toList==[42])=false:=(show(s.toList==[42])=(s.toList==(⟨#[42]⟩:ByteArray).toList)from by rw[show(⟨#[42]⟩:ByteArray).toList=[42]from by kernel_rfl]).trans ((beq_toListBytes s ⟨#[42]⟩).symm.trans (beq_eq_false_iff_ne.2 h10))
 have q11:(s.toList==[47])=false:=(show(s.toList==[47])=(s.toList==(⟨#[47]⟩:ByteArray).toList)from by rw[show(⟨#[47]⟩:ByteArray).toList=[47]from by kernel_rfl]).trans ((beq_toListBytes s ⟨#[47]⟩).symm.trans (beq_eq_false_iff_ne.2 h11))
 have q12:(s.toList==[37])=false:=(show(s.toList==[37])=(s.toList==(⟨#[37]⟩:ByteArray).toList)from by rw[show(⟨#[37]⟩:ByteArray).toList=[37]from by kernel_rfl]).trans ((beq_toListBytes s ⟨#[37]⟩).symm.trans (beq_eq_false_iff_ne.2 h12))
 clear HE h0 h1 h2 h3 h4 h5 h6 h7 h8 h9 h10 h11 h12
 go_enter Tryz.func323,Tryz.ntmps323
 go_wp2_with fail
 go_ret
 exact⟨rfl,rfl⟩
theorem runTo_step {s:ByteArray} {k:Nat} (hk:k<s.size):sRunTo s (k+1)=(sRunTo s k&&(sLowB (s[k]'hk).toNat||(decide (0<k)&&sDigB (s[k]'hk).toNat))):=by
 unfold sRunTo
 rw[List.range_succ,List.all_append,List.all_cons,List.all_nil,Bool.and_true]
 congr 1
 have:s.data[k]? =some (s[k]'hk):=by rw[Array.getElem?_eq_getElem (by simpa using hk)];rfl
 rw[this]
theorem runTo_no {s:ByteArray} {k:Nat} (hk:k<s.size) (h:(sLowB (s[k]'hk).toNat||(decide (0<k)&&sDigB (s[k]'hk).toNat))=false):sRunTo s s.size=false:=by
 unfold sRunTo
 rw[List.all_eq_false]
 refine⟨k,by simpa using hk, ?_⟩
 have:s.data[k]? =some (s[k]'hk):=by rw[Array.getElem?_eq_getElem (by simpa using hk)];rfl
 rw[this]
 simpa using h
theorem run_any (s:ByteArray) (w:World):Calls Tryz.prog 219 #[.string s] w fun e w'=>e= .returned (.bool (sRunB s))∧w'=w:=by
 obtain⟨R,hR⟩:∃R,R=sRunB s:=⟨_,rfl⟩
 rw[←hR]
 have HR:=LH hR
 clear hR
 by_cases h1:s.size<1
 ·have HE:=LH (show R=false by rw[HR.out];unfold sRunB;rw[decide_eq_false (by omega)];rfl)
  have h1':(s.size:Int)<1:=by omega
  go_enter Tryz.func219,Tryz.ntmps219
  go_wp2_with fail
  go_ret
  exact⟨retB HE.out.symm,rfl⟩
 by_cases h2:24<s.size
 ·have HE:=LH (show R=false by rw[HR.out];unfold sRunB;rw[decide_eq_false (show ¬s.size≤24 by omega)];simp)
  have h1':(1:Int)≤(s.size:Int):=by omega
  have h2':(24:Int)<(s.size:Int):=by omega
  go_enter Tryz.func219,Tryz.ntmps219
  go_wp2_with fail
  go_ret
  exact⟨retB HE.out.symm,rfl⟩
 have h1':(1:Int)≤(s.size:Int):=by omega
 have h2':(s.size:Int)≤24:=by omega
 have HR2:=LH (show R=sRunTo s s.size by rw[HR.out];unfold sRunB;rw[decide_eq_true (show 1≤s.size by omega),decide_eq_true (show s.size≤24 by omega)];rfl)
 clear h1 h2
 go_enter Tryz.func219,Tryz.ntmps219
 go_wp2_with fail
 go_loopw [15] (fun u wr=>∃k:Nat,u= .int .i64 k∧k≤s.size∧Hid (sRunTo s k=true)∧wr=w) (fun u _=>s.size-(intOf u).toNat)
 case atStart=>exact⟨0,rfl,Nat.zero_le _,LH rfl,rfl⟩
 case round=>
  obtain⟨k,rfl,hk,HS,rfl⟩:=hrel
  have hk0:(0:Int)≤(k:Int):=by omega
  by_cases hks:k<s.size
  ·have hks':(k:Int)<(s.size:Int):=by omega
   have hst:=runTo_step hks
   have hno:=runTo_no hks
   have C0:(0:Int)≤((s[k]'hks).toNat:Int):=by omega
   have HNO:=LH (fun(h:(sLowB (s[k]'hks).toNat||(decide (0<k)&&sDigB (s[k]'hks).toNat))=false)=>show R=false by rw[HR2.out];exact hno h)
   have HYES:=LH (fun(h:(sLowB (s[k]'hks).toNat||(decide (0<k)&&sDigB (s[k]'hks).toNat))=true)=>show sRunTo s (k+1)=true by rw[hst,HS.out,h];rfl)
   clear hst hno
   by_cases c1:97≤(s[k]'hks).toNat∧(s[k]'hks).toNat≤122
   ·have HST:=LH (HYES.out (by unfold sLowB;rw[decide_eq_true c1.1,decide_eq_true c1.2];rfl))
    have b1:(97:Int)≤((s[k]'hks).toNat:Int):=by omega
    have b2:((s[k]'hks).toNat:Int)≤122:=by omega
    clear c1
    go_wp2_with fail
    exact⟨⟨k+1,by go_num,by omega,HST,trivial⟩,by simp[intOf];omega⟩
   have b1:((s[k]'hks).toNat:Int)<97∨((97:Int)≤((s[k]'hks).toNat:Int)∧(122:Int)<((s[k]'hks).toNat:Int)):=by omega
   have hl:(decide (97≤(s[k]'hks).toNat)&&decide ((s[k]'hks).toNat≤122))=false:=by
    rw[Bool.eq_false_iff];intro e;simp only[Bool.and_eq_true,decide_eq_true_eq]at e;exact c1 e
   clear c1
   by_cases c2:(s[k]'hks).toNat=95
   ·have HST:=LH (HYES.out (by unfold sLowB;rw[c2];rfl))
    have b2:((((s[k]'hks).toNat:Int))!=95)=false:=by simp[c2]
    have B1:=LH b1
    clear b1 c2 hl
    rcases B1.out with b1|⟨b0,b1⟩
    all_goals go_wp2_with fail
    all_goals exact⟨⟨k+1,by go_num,by omega,HST,trivial⟩,by simp[intOf];omega⟩
   have b2:((((s[k]'hks).toNat:Int))!=95)=true:=by simpa using(by omega: ¬((s[k]'hks).toNat:Int)=95)
   have hlo:sLowB (s[k]'hks).toNat=false:=by unfold sLowB;rw[hl,beq_eq_false_iff_ne.2 c2];rfl
   clear hl
   by_cases c3:k=0
   ·have HE:=LH (HNO.out (by rw[hlo,decide_eq_false (by omega)];rfl))
    have b3:((k:Int)==0)=true:=by simp[c3]
    have B1:=LH b1
    clear b1 c2 c3 hlo
    rcases B1.out with b1|⟨b0,b1⟩
    all_goals go_wp2_with fail
    all_goals go_ret
    all_goals exact⟨retB HE.out.symm,rfl⟩
   have b3:((k:Int)==0)=false:=beq_eq_false_iff_ne.2 (by omega)
   by_cases c4:48≤(s[k]'hks).toNat∧(s[k]'hks).toNat≤57
   ·have HST:=LH (HYES.out (by rw[hlo,decide_eq_true (by omega)];unfold sDigB;rw[decide_eq_true c4.1,decide_eq_true c4.2];rfl))
    have b4:(48:Int)≤((s[k]'hks).toNat:Int):=by omega
    have b5:((s[k]'hks).toNat:Int)≤57:=by omega
    have B1:=LH b1
    clear b1 c2 c3 c4 hlo
    rcases B1.out with b1|⟨b0,b1⟩
    all_goals go_wp2_with fail
    all_goals exact⟨⟨k+1,by go_num,by omega,HST,trivial⟩,by simp[intOf];omega⟩
   have HE:=LH (HNO.out (by rw[hlo,decide_eq_true (by omega)];unfold sDigB;rw[Bool.false_or,Bool.true_and,Bool.eq_false_iff];intro e;simp only[Bool.and_eq_true,decide_eq_true_eq]at e;exact c4 e))
   have b4:((s[k]'hks).toNat:Int)<48∨((48:Int)≤((s[k]'hks).toNat:Int)∧(57:Int)<((s[k]'hks).toNat:Int)):=by omega
   have B1:=LH b1
   have B4:=LH b4
   clear b1 b4 c2 c3 c4 hlo
   rcases B1.out with b1|⟨b0,b1⟩<;>rcases B4.out with b4|⟨b5,b4⟩
   all_goals first|(exfalso;omega)|skip
   all_goals go_wp2_with fail
   all_goals go_ret
   all_goals exact⟨retB HE.out.symm,rfl⟩
  ·have hke:k=s.size:=by omega
   have HE:=LH (show R=true by rw[HR2.out,←hke];exact HS.out)
   clear hke
   go_wp2_with fail
   go_ret
   exact⟨retB HE.out.symm,rfl⟩
theorem sname_any (s:ByteArray) (w:World):Calls Tryz.prog 147 #[.string s] w fun e w'=>e= .returned (.bool (sNameB s))∧w'=w:=by
 have A:=LH (fun w'=>run_any s w')
 have B:=LH (fun w'=>keyword_any s w')
 unfold sNameB
 cases h1:sRunB s
 ·rw[h1]at A
  clear h1
  go_enter Tryz.func147,Tryz.ntmps147
  go_wp2_with (go_at_call 219;(with_reducible refine Calls.mono (A.out _) ?_);rintro e w2 ⟨rfl,rfl⟩)
  go_ret
  exact⟨rfl,rfl⟩
 ·rw[h1]at A
  clear h1
  generalize sKwB s=q at*
  go_enter Tryz.func147,Tryz.ntmps147
  go_wp2_with (first|(go_at_call 219;(with_reducible refine Calls.mono (A.out _) ?_);rintro e w2 ⟨rfl,rfl⟩)|(go_at_call 138;(with_reducible refine Calls.mono (B.out _) ?_);rintro e w3 ⟨rfl,rfl⟩))
  go_ret
  exact⟨by simp,rfl⟩
theorem operator_any (s:ByteArray) (w:World):Calls Tryz.prog 279 #[.string s] w fun e w'=>e= .returned (.bool (decide (0<binZ s)))∧w'=w:=by
 have A:=LH (fun w'=>binary_any s w')
 generalize binZ s=z at*
 go_enter Tryz.func279,Tryz.ntmps279
 go_wp2_with (go_at_call 323;(with_reducible refine Calls.mono (A.out _) ?_);rintro e w2 ⟨rfl,rfl⟩)
 go_ret
 exact⟨rfl,rfl⟩
theorem statement_any (k:Int) (w:World):Calls Tryz.prog 280 #[.int .i64 k] w fun e w'=>e= .returned (.bool (sStatB k))∧w'=w:=by
 unfold sStatB
 by_cases h1:(13:Int)≤k
 ·rw[decide_eq_true h1]
  go_enter Tryz.func280,Tryz.ntmps280
  go_wp2_with fail
  go_ret
  exact⟨rfl,rfl⟩
 ·rw[decide_eq_false h1]
  have h1':k<(13:Int):=by omega
  clear h1
  go_enter Tryz.func280,Tryz.ntmps280
  go_wp2_with fail
  go_ret
  exact⟨rfl,rfl⟩
theorem expression_any (k:Int) (w:World):Calls Tryz.prog 281 #[.int .i64 k] w fun e w'=>e= .returned (.bool (sExprB k))∧w'=w:=by
 unfold sExprB
 by_cases h1:(1:Int)≤k
 ·rw[decide_eq_true h1]
  go_enter Tryz.func281,Tryz.ntmps281
  go_wp2_with fail
  go_ret
  exact⟨rfl,rfl⟩
 ·rw[decide_eq_false h1]
  have h1':k<(1:Int):=by omega
  clear h1
  go_enter Tryz.func281,Tryz.ntmps281
  go_wp2_with fail
  go_ret
  exact⟨rfl,rfl⟩
theorem one_ce {w:World} {b:Nat} {x:Ce} (hb:w.heap[b]? =some (.cells #[.int .i64 x.kind, .int .i64 x.n, .string x.str, .int .i64 x.cn] 63 (0,0))):SlIs ceC 4 w (some ⟨b,0,none⟩) 1 [x]:=SlIs.ofBlock (cf:=ceC) [x] hb ceC_len rfl
theorem stext_any (s:ByteArray) (w:World) (hs:s.size≤maxLen) (ht:TabW w):Calls Tryz.prog 277 #[.string s] w fun e w'=>e= .returned (.bool (sTextB s))∧Chg [] w w':=by
 have C1:=LH ((Chg.refl [] w).alloc (.cells #[.int .i64 4, .int .i64 0, .string s, .int .i64 0] 63))
 have B1:=LH (heap_alloc_new w (.cells #[.int .i64 4, .int .i64 0, .string s, .int .i64 0] 63))
 have V:=LH (vcheck_any (some ⟨w.heap.size,0,none⟩) 1 [sStrCe s] (w.alloc (.cells #[.int .i64 4, .int .i64 0, .string s, .int .i64 0] 63)) (one_ce (x:=sStrCe s) B1.out) (by simp) (fun x hx=>by
  simp at hx
  subst hx
  exact⟨(by decide:(Lit.int .i64 4).wf=true),(by decide:(Lit.int .i64 0).wf=true),hs,(by decide:(Lit.int .i64 0).wf=true)⟩) (ht.kept C1.out))
 unfold sTextB
 generalize checkZ [sStrCe s]=z at*
 have CK:Hid (Calls Tryz.prog 239 #[.slice (some ⟨w.heap.size,0,none⟩) 1 1] (w.alloc (.cells #[.int .i64 4, .int .i64 0, .string s, .int .i64 0] 63)) fun e w'=>∃v,e= .returned (.tuple #[v, .int .i64 z])∧Chg [] (w.alloc (.cells #[.int .i64 4, .int .i64 0, .string s, .int .i64 0] 63)) w'):=LH (by
  clear ht hs
  by_cases hz:z=0
  ·have hzb:(z !=0)=false:=by simp[hz]
   subst hz
   go_enter Tryz.func239,Tryz.ntmps239
   go_wp2_with fail
   refine V.out.mono ?_;rintro e w2 ⟨rfl,hc⟩
   have C2:=LH hc
   clear hc
   go_wp2_with fail
   go_ret2
   exact⟨_,rfl,C2.out⟩
  ·have hzb:(z !=0)=true:=by simp[hz]
   clear hz
   go_enter Tryz.func239,Tryz.ntmps239
   go_wp2_with fail
   refine V.out.mono ?_;rintro e w2 ⟨rfl,hc⟩
   have C2:=LH hc
   clear hc
   go_wp2_with fail
   go_ret2
   exact⟨_,rfl,C2.out⟩)
 have VS:Hid (Calls Tryz.prog 164 #[.string s] w fun e w'=>∃v,e= .returned (.tuple #[v, .int .i64 z])∧Chg [] w w'):=LH (by
  clear ht hs V
  go_enter Tryz.func164,Tryz.ntmps164
  go_wp2_with (go_at_call 239;(with_reducible refine Calls.mono CK.out ?_);rintro e w2 ⟨v,rfl,hc⟩;have C2:=LH (C1.out.thenSame hc);clear hc)
  go_ret2
  exact⟨v,rfl,C2.out⟩)
 clear ht hs V CK B1
 go_enter Tryz.func277,Tryz.ntmps277
 go_wp2_with fail
 refine VS.out.mono ?_;rintro e w2 ⟨v,rfl,hc⟩
 have C2:=LH hc
 clear hc
 go_wp2_with fail
 go_ret
 exact⟨rfl,C2.out⟩
end
section
open Go.RowKit
def Asc (s:ByteArray):Prop:=∀k (h:k<s.size),(s[k]'h).toNat<128
structure RunIs (s:ByteArray) (n:Nat):Prop where
 le:n≤s.size
 yes:sRunTo s n=true
 no:n<s.size→sRunTo s (n+1)=false
theorem RunIs.at {s:ByteArray} {n k:Nat} (h:RunIs s n) (hk:k<n) (hks:k<s.size):(sLowB (s[k]'hks).toNat||(decide (0<k)&&sDigB (s[k]'hks).toNat))=true:=by
 have:=h.yes
 unfold sRunTo at this
 have h2:=List.all_eq_true.1 this k (List.mem_range.2 hk)
 have e:s.data[k]? =some (s[k]'hks):=by rw[Array.getElem?_eq_getElem (by simpa using hks)];rfl
 rw[e]at h2
 exact h2
theorem RunIs.end {s:ByteArray} {n:Nat} (h:RunIs s n) (hks:n<s.size):(sLowB (s[n]'hks).toNat||(decide (0<n)&&sDigB (s[n]'hks).toNat))=false:=by
 have h1:=h.no hks
 rw[runTo_step hks,h.yes,Bool.true_and]at h1
 exact h1
theorem low_of' {c:Nat} (h:c<128):sLowB c=(ofZ c==2):=low_of ⟨c,h⟩
theorem dig_of' {c:Nat} (h:c<128):sDigB c=(ofZ c==3):=dig_of ⟨c,h⟩
theorem lrun_any (s:ByteArray) (n:Nat) (hr:RunIs s n) (ha:Asc s) (hsz:s.size≤4000) (w:World):Calls Tryz.prog 137 #[.string s] w fun e w'=>e= .returned (.int .i64 n)∧w'=w:=by
 have HR:=LH hr
 have HA:=LH ha
 have hn:=hr.le
 clear hr ha
 go_enter Tryz.func137,Tryz.ntmps137
 go_wp2_with fail
 go_loopw [3] (fun u wr=>∃k:Nat,u= .int .i64 k∧k≤n∧wr=w) (fun u _=>n-(intOf u).toNat)
 case atStart=>exact⟨0,rfl,Nat.zero_le _,rfl⟩
 case round=>
  obtain⟨k,rfl,hk,rfl⟩:=hrel
  have hk0:(0:Int)≤(k:Int):=by omega
  by_cases hks:k<s.size
  ·have hks':(k:Int)<(s.size:Int):=by omega
   have hk9:(k:Int)≤4000:=by omega
   have hc:=HA.out k hks
   have A:=LH (fun w'=>of_any (s[k]'hks).toNat hc w')
   have HL:=LH (low_of' hc)
   have HD:=LH (dig_of' hc)
   by_cases hkn:k<n
   ·have h1:=HR.out.at hkn hks
    rw[HL.out,HD.out]at h1
    generalize ofZ (s[k]'hks).toNat=z at*
    by_cases hz:z=2
    ·subst hz
     clear h1
     as_aux_lemma=>
      go_wp2_with (go_at_call 134;(with_reducible refine Calls.mono (A.out _) ?_);rintro e w2 ⟨rfl,rfl⟩)
      exact⟨⟨k+1,by go_num,by omega,trivial⟩,by simp[intOf];omega⟩
    ·have e1:(z==2)=false:=beq_eq_false_iff_ne.2 hz
     rw[e1,Bool.false_or,Bool.and_eq_true,decide_eq_true_eq]at h1
     obtain⟨h1,h2⟩:=h1
     have hk1:(0:Int)<(k:Int):=by omega
     clear hz hk0
     as_aux_lemma=>
      go_wp2_with (go_at_call 134;(with_reducible refine Calls.mono (A.out _) ?_);rintro e w2 ⟨rfl,rfl⟩)
      exact⟨⟨k+1,by go_num,by omega,trivial⟩,by simp[intOf];omega⟩
   ·have hke:k=n:=by omega
    subst hke
    have h1:=HR.out.end hks
    rw[HL.out,HD.out]at h1
    generalize ofZ (s[k]'hks).toNat=z at*
    rw[Bool.or_eq_false_iff]at h1
    obtain⟨e1,h1⟩:=h1
    by_cases hk1:0<k
    ·rw[decide_eq_true hk1,Bool.true_and]at h1
     have hk2:(0:Int)<(k:Int):=by omega
     clear hk0
     as_aux_lemma=>
      go_wp2_with (go_at_call 134;(with_reducible refine Calls.mono (A.out _) ?_);rintro e w2 ⟨rfl,rfl⟩)
      go_ret
      exact⟨rfl,rfl⟩
    ·have hk2: ¬(0:Int)<(k:Int):=by omega
     clear h1
     as_aux_lemma=>
      go_wp2_with (go_at_call 134;(with_reducible refine Calls.mono (A.out _) ?_);rintro e w2 ⟨rfl,rfl⟩)
      go_ret
      exact⟨rfl,rfl⟩
  ·have hke:k=n:=by omega
   subst hke
   have hks': ¬(k:Int)<(s.size:Int):=by omega
   go_wp2_with fail
   go_ret
   exact⟨rfl,rfl⟩
structure BlankIs (s:ByteArray) (n:Nat):Prop where
 le:n≤s.size
 yes:∀k (h:k<s.size),k<n→ofZ (s[k]'h).toNat=1
 no:∀(h:n<s.size),ofZ (s[n]'h).toNat≠1
 nc:∀(h:n<s.size),Lib.hasPrefix (s.extract n s.size).data.toList [47,47]=false
theorem lskip_any (s:ByteArray) (n:Nat) (hr:BlankIs s n) (ha:Asc s) (hsz:s.size≤4000) (w:World):Calls Tryz.prog 80 #[.string s] w fun e w'=>e= .returned (.int .i64 n)∧w'=w:=by
 have HR:=LH hr
 have HA:=LH ha
 have hn:=hr.le
 clear hr ha
 go_enter Tryz.func80,Tryz.ntmps80
 go_wp2_with fail
 go_loopw [3] (fun u wr=>∃k:Nat,u= .int .i64 k∧k≤n∧wr=w) (fun u _=>n-(intOf u).toNat)
 case atStart=>exact⟨0,rfl,Nat.zero_le _,rfl⟩
 case round=>
  obtain⟨k,rfl,hk,rfl⟩:=hrel
  have hk0:(0:Int)≤(k:Int):=by omega
  have hk9:(k:Int)≤4000:=by omega
  by_cases hks:k<s.size
  ·have hks':(k:Int)<(s.size:Int):=by omega
   have hc:=HA.out k hks
   have A:=LH (fun w'=>of_any (s[k]'hks).toNat hc w')
   by_cases hkn:k<n
   ·have h1:=HR.out.yes k hks hkn
    rw[h1]at A
    clear h1
    go_wp2_with (go_at_call 134;(with_reducible refine Calls.mono (A.out _) ?_);rintro e w2 ⟨rfl,rfl⟩)
    exact⟨⟨k+1,by go_num,by omega,trivial⟩,by simp[intOf];omega⟩
   ·have hke:k=n:=by omega
    subst hke
    have h1:=HR.out.no hks
    have B:=LH (fun w'=>Tryz.strings_HasPrefix (s.extract k s.size) ⟨#[47,47]⟩ w')
    rw[show Lib.hasPrefix (s.extract k s.size).data.toList (⟨#[47,47]⟩:ByteArray).data.toList=false from HR.out.nc hks]at B
    generalize ofZ (s[k]'hks).toNat=z at*
    have e1:(z==1)=false:=beq_eq_false_iff_ne.2 h1
    clear h1
    go_wp2_with (go_at_call 134;(with_reducible refine Calls.mono (A.out _) ?_);rintro e w2 ⟨rfl,rfl⟩)
    refine Calls.mono (B.out _) ?_;rintro e w3 ⟨rfl,rfl⟩
    go_wp2_with fail
    go_ret
    exact⟨rfl,rfl⟩
  ·have hke:k=n:=by omega
   subst hke
   have hks': ¬(k:Int)<(s.size:Int):=by omega
   go_wp2_with fail
   go_ret
   exact⟨rfl,rfl⟩
end
section
open Go.RowKit
def sym2:List ByteArray:=[⟨#[61,61]⟩,⟨#[33,61]⟩,⟨#[60,61]⟩,⟨#[62,61]⟩]
theorem ne_list {s:ByteArray} (x:List UInt8) (h:s≠⟨x.toArray⟩):(s.toList==x)=false:=by
 rw[ByteArray.toList_eq,beq_eq_false_iff_ne]
 intro e
 refine h ?_
 apply ByteArray.ext
 apply Array.toList_inj.1
 simpa using e
theorem symbol_no (x:ByteArray) (hx:x.size=2) (h:∀y∈sym2,x≠y) (w:World):Calls Tryz.prog 142 #[.string x] w fun e w'=>e= .returned (.bool false)∧w'=w:=by
 have q0:=ne_list [61,61] (h ⟨#[61,61]⟩ (by simp[sym2]))
 have q1:=ne_list [33,61] (h ⟨#[33,61]⟩ (by simp[sym2]))
 have q2:=ne_list [60,61] (h ⟨#[60,61]⟩ (by simp[sym2]))
 have q3:=ne_list [62,61] (h ⟨#[62,61]⟩ (by simp[sym2]))
 have q4:((x.size:Int)==1)=false:=beq_eq_false_iff_ne.2 (by omega)
 clear h hx
 go_enter Tryz.func142,Tryz.ntmps142
 go_wp2_with fail
 go_ret
 exact⟨rfl,rfl⟩
theorem symbol_yes (x:ByteArray) (hx:x.size=1) (h:x≠⟨#[33]⟩) (h0:0<x.size) (hc:(x[0]'h0).toNat<128) (h6:ofZ (x[0]'h0).toNat=6) (w:World):Calls Tryz.prog 142 #[.string x] w fun e w'=>e= .returned (.bool true)∧w'=w:=by
 have nx:∀y:ByteArray,y.size=2→x≠y:=by rintro y h1 rfl;omega
 have q0:=ne_list [61,61] (nx _ rfl)
 have q1:=ne_list [33,61] (nx _ rfl)
 have q2:=ne_list [60,61] (nx _ rfl)
 have q3:=ne_list [62,61] (nx _ rfl)
 have q5:=ne_list [33] h
 have q4:((x.size:Int)==1)=true:=beq_iff_eq.2 (by omega)
 have q6:(0:Int)<(x.size:Int):=by omega
 have A:=LH (of_any _ hc w)
 rw[h6]at A
 clear nx h h6 hx
 go_enter Tryz.func142,Tryz.ntmps142
 go_wp2_with (go_at_call 134;(with_reducible refine Calls.mono A.out ?_);rintro e w2 ⟨rfl,rfl⟩)
 go_ret
 exact⟨rfl,rfl⟩
def tkV (k:Int) (s:ByteArray) (n a:Int):Value:= .agg #[.int .i64 k, .string s, .int .i64 n, .int .i64 a]
theorem st4_at {w:World} {b:Nat} {t:TypeId} {c0 c1 c2 c3:Value} (x0 x1 x2 x3:Value) (h:w.heap[b]? =some (.cells #[c0,c1,c2,c3] t (0,0))):
 ((((w.setCell ⟨b,0,none⟩ x0).setCell ⟨b,1,none⟩ x1).setCell ⟨b,2,none⟩ x2).setCell ⟨b,3,none⟩ x3).heap[b]? =some (.cells #[x0,x1,x2,x3] t (0,0)):=
 blk_set (blk_set (blk_set (blk_set h 0 x0) 1 x1) 2 x2) 3 x3
theorem st4_chg {w0 w:World} {b:Nat} (x0 x1 x2 x3:Value) (hb:w0.heap.size≤b) (h:Chg [] w0 w):
 Chg [] w0 ((((w.setCell ⟨b,0,none⟩ x0).setCell ⟨b,1,none⟩ x1).setCell ⟨b,2,none⟩ x2).setCell ⟨b,3,none⟩ x3):=by
 have q:∀j,(⟨b,j,none⟩:Addr).block<w0.heap.size→(⟨b,j,none⟩:Addr).block∈([]:List Nat):=fun j hj=>absurd (show b<w0.heap.size from hj) (by omega)
 exact(((h.setCell _ _ (q 0)).setCell _ _ (q 1)).setCell _ _ (q 2)).setCell _ _ (q 3)
theorem token_name (s:ByteArray) (n:Nat) (hr:RunIs s n) (ha:Asc s) (hsz:s.size≤4000) (h0:0<n) (h24:n≤24) (w:World):
 Calls Tryz.prog 81 #[.string s] w fun e w'=>e= .returned (.tuple #[tkV (if sKwB (s.extract 0 n)then 2 else 1) (s.extract 0 n) 0 0, .int .i64 n, .int .i64 0])∧Chg [] w w':=by
 have hn:=hr.le
 have hs0:0<s.size:=by omega
 have hc:=ha 0 hs0
 have h2:ofZ (s[0]'hs0).toNat=2:=by
  have:=hr.at (k:=0) h0 hs0
  rw[low_of' hc,decide_eq_false (Nat.lt_irrefl 0),Bool.false_and,Bool.or_false,beq_iff_eq]at this
  exact this
 have A:=LH (fun w'=>of_any (s[0]'hs0).toNat hc w')
 rw[h2]at A
 have B:=LH (fun w'=>lrun_any s n hr ha hsz w')
 have K:=LH (fun w'=>keyword_any (s.extract 0 n) w')
 have hs1:(0:Int)<(s.size:Int):=by omega
 have hn1:(n:Int)≤24:=by omega
 have hn2:(n:Int)≤(s.size:Int):=by omega
 have hn3:(0:Int)<(n:Int):=by omega
 clear hr ha h2
 cases hk:sKwB (s.extract 0 n)
 ·rw[hk]at K
  rw[if_neg (by simp)]
  clear hk
  obtain⟨W1,hW1⟩:∃W1,W1=(w.alloc (.cells #[.int .i64 0, .string ⟨#[]⟩, .int .i64 0, .int .i64 0] 224)).alloc (.cells #[.int .i64 0, .string ⟨#[]⟩, .int .i64 0, .int .i64 0] 224):=⟨_,rfl⟩
  have C1:=LH (show Chg [] w W1 from hW1▸((Chg.refl _ _).alloc _).alloc _)
  have X1:=LH (show W1.heap[w.heap.size]? =some (.cells #[.int .i64 0, .string ⟨#[]⟩, .int .i64 0, .int .i64 0] 224)from hW1▸blk_alloc (heap_alloc_new _ _))
  have HW1:=LH hW1
  have k1:=blk_cell X1.out
  have f1:=blk_free X1.out
  have lt1:=lt_of_heap X1.out
  clear hW1
  go_enter Tryz.func81,Tryz.ntmps81
  go_wp2_with fail
  rw[←HW1.out]
  go_wp2_with (first|(go_at_call 134;(with_reducible refine Calls.mono (A.out _) ?_);rintro e w2 ⟨rfl,rfl⟩)|(go_at_call 137;(with_reducible refine Calls.mono (B.out _) ?_);rintro e w3 ⟨rfl,rfl⟩)|(go_at_call 138;(with_reducible refine Calls.mono (K.out _) ?_);rintro e w4 ⟨rfl,rfl⟩))
  have r1:=blk_cell (st4_at (.int .i64 1) (.string (s.extract 0 n)) (.int .i64 0) (.int .i64 0) X1.out)
  refine bodyPost_ret (v:= .tuple #[tkV 1 (s.extract 0 n) 0 0, .int .i64 n, .int .i64 0]) (by simp[results,Tryz.results81,go_sem,tkV,r1]) rfl ?_
  exact⟨rfl,st4_chg _ _ _ _ (Nat.le_refl _) C1.out⟩
 ·rw[hk]at K
  rw[if_pos rfl]
  clear hk
  obtain⟨W1,hW1⟩:∃W1,W1=(w.alloc (.cells #[.int .i64 0, .string ⟨#[]⟩, .int .i64 0, .int .i64 0] 224)).alloc (.cells #[.int .i64 0, .string ⟨#[]⟩, .int .i64 0, .int .i64 0] 224):=⟨_,rfl⟩
  have C1:=LH (show Chg [] w W1 from hW1▸((Chg.refl _ _).alloc _).alloc _)
  have X1:=LH (show W1.heap[w.heap.size]? =some (.cells #[.int .i64 0, .string ⟨#[]⟩, .int .i64 0, .int .i64 0] 224)from hW1▸blk_alloc (heap_alloc_new _ _))
  have HW1:=LH hW1
  have k1:=blk_cell X1.out
  have f1:=blk_free X1.out
  have lt1:=lt_of_heap X1.out
  clear hW1
  go_enter Tryz.func81,Tryz.ntmps81
  go_wp2_with fail
  rw[←HW1.out]
  go_wp2_with (first|(go_at_call 134;(with_reducible refine Calls.mono (A.out _) ?_);rintro e w2 ⟨rfl,rfl⟩)|(go_at_call 137;(with_reducible refine Calls.mono (B.out _) ?_);rintro e w3 ⟨rfl,rfl⟩)|(go_at_call 138;(with_reducible refine Calls.mono (K.out _) ?_);rintro e w4 ⟨rfl,rfl⟩))
  have r1:=blk_cell (st4_at (.int .i64 2) (.string (s.extract 0 n)) (.int .i64 0) (.int .i64 0) X1.out)
  refine bodyPost_ret (v:= .tuple #[tkV 2 (s.extract 0 n) 0 0, .int .i64 n, .int .i64 0]) (by simp[results,Tryz.results81,go_sem,tkV,r1]) rfl ?_
  exact⟨rfl,st4_chg _ _ _ _ (Nat.le_refl _) C1.out⟩
theorem token_sym (s:ByteArray) (hs0:0<s.size) (hc:(s[0]'hs0).toNat<128) (h6:ofZ (s[0]'hs0).toNat=6) (hsz:s.size≤4000) (h33:s.extract 0 1≠⟨#[33]⟩) (h2:2≤s.size→∀y∈sym2,s.extract 0 2≠y) (w:World):
 Calls Tryz.prog 81 #[.string s] w fun e w'=>e= .returned (.tuple #[tkV 5 (s.extract 0 1) 0 0, .int .i64 1, .int .i64 0])∧Chg [] w w':=by
 have A:=LH (fun w'=>of_any (s[0]'hs0).toNat hc w')
 rw[h6]at A
 have Y:=LH (fun w'=>symbol_yes (s.extract 0 1) (by rw[ByteArray.size_extract];omega) h33 (by rw[ByteArray.size_extract];omega) (by rw[ByteArray.getElem_extract];exact hc) (by simp only[ByteArray.getElem_extract];exact h6) w')
 have NO:=LH (fun(h:2≤s.size) w'=>symbol_no (s.extract 0 2) (by rw[ByteArray.size_extract];omega) (h2 h) w')
 have hs1:(0:Int)<(s.size:Int):=by omega
 have hs2:(1:Int)≤(s.size:Int):=by omega
 have hs3:(s.size:Int)≤4000:=by omega
 clear h6 h33 h2
 obtain⟨m,hm⟩:∃m:Nat,m=min 2 s.size:=⟨_,rfl⟩
 have hm1:min (2:Int) (s.size:Int)=(m:Int):=by omega
 have hm2:1≤m∧m≤2∧m≤s.size:=by omega
 clear hm
 obtain⟨W1,hW1⟩:∃W1,W1=(w.alloc (.cells #[.int .i64 0, .string ⟨#[]⟩, .int .i64 0, .int .i64 0] 224)).alloc (.cells #[.int .i64 0, .string ⟨#[]⟩, .int .i64 0, .int .i64 0] 224):=⟨_,rfl⟩
 have C1:=LH (show Chg [] w W1 from hW1▸((Chg.refl _ _).alloc _).alloc _)
 have X1:=LH (show W1.heap[w.heap.size]? =some (.cells #[.int .i64 0, .string ⟨#[]⟩, .int .i64 0, .int .i64 0] 224)from hW1▸blk_alloc (heap_alloc_new _ _))
 have HW1:=LH hW1
 have k1:=blk_cell X1.out
 have f1:=blk_free X1.out
 have lt1:=lt_of_heap X1.out
 clear hW1
 go_enter Tryz.func81,Tryz.ntmps81
 go_wp2_with fail
 rw[←HW1.out]
 go_wp2_with (go_at_call 134;(with_reducible refine Calls.mono (A.out _) ?_);rintro e w2 ⟨rfl,rfl⟩)
 go_loopw [14] (fun u wr=>((u= .int .i64 2∧2≤s.size)∨u= .int .i64 1)∧wr=w2) (fun u _=>(intOf u).toNat)
 case atStart=>
  refine⟨?_,rfl⟩
  rcases(show m=2∨m=1 by omega)with rfl|rfl
  ·exact .inl ⟨rfl,by omega⟩
  ·exact .inr rfl
 case round=>
  obtain⟨⟨rfl,h2⟩|rfl,rfl⟩:=hrel
  ·have B:=LH (NO.out h2)
   have hs4:(2:Int)≤(s.size:Int):=by omega
   go_wp2_with (go_at_call 142;(with_reducible refine Calls.mono (B.out _) ?_);rintro e w3 ⟨rfl,rfl⟩)
   exact⟨⟨.inr (by first|rfl|trivial),by first|rfl|trivial⟩,by simp[intOf]⟩
  ·go_wp2_with (go_at_call 142;(with_reducible refine Calls.mono (Y.out _) ?_);rintro e w3 ⟨rfl,rfl⟩)
   have r1:=blk_cell (st4_at (.int .i64 5) (.string (s.extract 0 1)) (.int .i64 0) (.int .i64 0) X1.out)
   refine bodyPost_ret (v:= .tuple #[tkV 5 (s.extract 0 1) 0 0, .int .i64 1, .int .i64 0]) (by simp[results,Tryz.results81,go_sem,tkV,r1]) rfl ?_
   exact⟨rfl,st4_chg _ _ _ _ (Nat.le_refl _) C1.out⟩
end
section
open Go.RowKit
structure Tk where
 kind:Int
 text:ByteArray
 n:Int
 at':Int
def tkC (x:Tk):List Value:=[.int .i64 x.kind, .string x.text, .int .i64 x.n, .int .i64 x.at']
theorem tkC_len (x:Tk):(tkC x).length=4:=rfl
theorem tkC_one (x:Tk):∀u∈tkC x,u.oneCell'=true:=by intro u hu;simp[tkC]at hu;rcases hu with rfl|rfl|rfl|rfl<;>rfl
theorem tkInfo:(Tryz.prog.info? 224).map (fun i=>(i.zero,i.size,i.bytes))=some (some (.agg #[.int .i64 0, .string ⟨#[]⟩, .int .i64 0, .int .i64 0]),4,40):=by kernel_rfl
structure LexIs (s:ByteArray) (T:List Tk) (A N D:Nat→Nat):Prop where
 lim:T.length≤1000
 asc:Asc s
 size:s.size≤4000
 start:BlankIs s (A 0)
 tok:∀k (h:k<T.length),A k<s.size∧T[k].n=0∧T[k].at'=A k∧0<N k∧A k+N k≤s.size∧A k+N k+D k=A (k+1)∧(∀w,Calls Tryz.prog 81 #[.string (s.extract (A k) s.size)] w fun e w'=>e= .returned (.tuple #[tkV T[k].kind T[k].text 0 0, .int .i64 (N k), .int .i64 0])∧Chg [] w w')∧BlankIs (s.extract (A k+N k) s.size) (D k)
 fin:A T.length=s.size
theorem Asc.ext {s:ByteArray} (h:Asc s) (a b:Nat):Asc (s.extract a b):=by
 intro k hk
 have hk2:=hk
 simp only[ByteArray.size_extract]at hk2
 rw[ByteArray.getElem_extract]
 exact h (a+k) (by omega)
theorem chg_grown {w w':World} {v:Value} (h:w.grownBy w' v.ownBlock):Chg v.ownBlock.toList w w':=by
 cases e:v.ownBlock with
 |none=>rw[e]at h;exact Chg.ofGrownNone h
 |some b=>rw[e]at h;simpa using Chg.ofGrown h
theorem tokens_any (s:ByteArray) (T:List Tk) (A N D:Nat→Nat) (hl:LexIs s T A N D) (w:World):Calls Tryz.prog 28 #[.string s] w fun e w'=>∃a c,e= .returned (.tuple #[.slice a T.length c, .int .i64 0, .int .i64 0])∧RowOf tkC 4 w' w.heap.size 224 (.slice a T.length c) T∧Chg [] w w':=by
 have H:=LH hl
 have S0:=LH (fun w'=>lskip_any s (A 0) hl.start hl.asc hl.size w')
 have SK:=LH (fun k (h:k<T.length) w'=>lskip_any (s.extract (A k+N k) s.size) (D k) (hl.tok k h).2.2.2.2.2.2.2 (hl.asc.ext _ _) (by rw[ByteArray.size_extract];have:=hl.size;omega) w')
 have hsz:(s.size:Int)≤4000:=by have:=hl.size;omega
 have hlim:=hl.lim
 clear hl
 go_enter Tryz.func28,Tryz.ntmps28
 go_wp2_with fail
 refine(S0.out w).mono ?_;rintro e w1 ⟨rfl,rfl⟩
 go_wp2_with fail
 go_loopw [5,6] (fun v i wr=>∃(k:Nat) (a:Option Addr) (c:Nat),v= .slice a k c∧i= .int .i64 (A k)∧k≤T.length∧Hid (RowOf tkC 4 wr w1.heap.size 224 (.slice a k c) (T.take k))∧Hid (Chg [] w1 wr)) (fun v _ _=>T.length-lenOf v)
 case atStart=>exact⟨0,none,0,rfl,rfl,Nat.zero_le _,LH (RowOf.nil _ _ _),LH (Chg.refl _ _)⟩
 case round=>
  obtain⟨k,a,c,rfl,rfl,hk,HR,HC⟩:=hrel
  by_cases hkn:k<T.length
  ·obtain⟨t1,t2,t3,t4,t5,t6,t7, -⟩:=H.out.tok k hkn
   have TK:=LH t7
   have SS:=LH (SK.out k hkn)
   have HT:=LH (show T.take (k+1)=T.take k++[T[k]]from List.take_succ_eq_append_getElem hkn)
   have hTl:(T.take k).length=k:=by simp;omega
   generalize T[k]=x at*
   obtain⟨xk,xt,xn,xa⟩:=x
   simp only at t2 t3 TK
   subst t2 t3
   have hbs:=(H.out.tok k hkn).2.2.2.2.2.2.2.le
   rw[ByteArray.size_extract]at hbs
   have HBS:((A (k+1):Nat):Int)≤4000:=by have:=H.out.size;omega
   clear hbs
   obtain⟨e,he⟩:∃e,e=A k+N k:=⟨_,rfl⟩
   obtain⟨b,hb⟩:∃b,b=A (k+1):=⟨_,rfl⟩
   rw[←he]at SS t5 t6
   rw[←hb]at t6 HBS
   have HB:=LH hb
   generalize A k=p at*
   generalize N k=n at*
   generalize D k=d at*
   have hpe:(p:Int)+(n:Int)=(e:Int):=by omega
   have heb:(e:Int)+(d:Int)=(b:Int):=by omega
   have hp1:(p:Int)<(s.size:Int):=by omega
   have he1:(e:Int)≤(s.size:Int):=by omega
   have hk1:((k:Int)==1000)=false:=beq_eq_false_iff_ne.2 (by omega)
   have hd1:(b:Int)≤4000:=HBS
   clear hb he t1 t4 t5 t6 t7 hk
   go_wp2_with fail
   refine(TK.out _).mono ?_;rintro q w2 ⟨rfl,hc2⟩
   unfold tkV
   have htl:(T.take (k+1)).length=k+1:=by simp;omega
   obtain⟨W3,hW3⟩:∃W3,W3=w2.alloc (.cells #[.int .i64 xk, .string xt, .int .i64 0, .int .i64 p] 224):=⟨_,rfl⟩
   have CW:=LH (show Chg [] wr W3 from hW3▸hc2.alloc _)
   have X3:=LH (show W3.heap[w2.heap.size]? =some (.cells #[.int .i64 xk, .string xt, .int .i64 0, .int .i64 p] 224)from hW3▸heap_alloc_new _ _)
   have XN:=LH (show(W3.alloc (.cells #[.int .i64 xk, .string xt, .int .i64 0, .int .i64 p] 224)).heap[w2.heap.size+1]? =some (.cells #[.int .i64 xk, .string xt, .int .i64 0, .int .i64 p] 224)from by
    have h:=heap_alloc_new W3 (.cells #[.int .i64 xk, .string xt, .int .i64 0, .int .i64 p] 224)
    rwa[show W3.heap.size=w2.heap.size+1 from by rw[hW3,World.size_alloc]]at h)
   have HW3:=LH hW3
   have k3:=blk_cell X3.out
   have l3:=lt_of_heap X3.out
   have hb1:=HC.out.size
   have hb3:=CW.out.size
   clear hc2 hW3
   go_wp2_with (at_builtin;rw[←HW3.out];go_loud (refine wpl_append rfl _ _ 116 rfl w1.heap.size 224 _ 40 Tryz.underlying116 tkInfo rfl (by decide) tkC_len tkC_one (.slice a k c) (T.take k) rfl (HR.out.kept (CW.out.alloc _) (by simp)) (w2.heap.size+1) _ ⟨xk,xt,0,p⟩ _ _ _ rfl XN.out rfl (by rw[hTl];unfold maxLen;omega) (by rw[hTl];omega) (by rw[World.size_alloc];omega) ?_);intro v4 w4 hr4 hg4;rw[←HT.out]at hr4;obtain⟨a4,c4,rfl⟩:=RowOf.shape hr4;rw[htl]at hr4;have R4:=LH hr4;have G4:=LH (chg_grown hg4);clear hr4 hg4;rw[htl])
   refine(SS.out _).mono ?_;rintro q w5 ⟨rfl,rfl⟩
   go_wp2_with fail
   have C5:=LH (show Chg [] w1 w5 from(HC.out.thenSame (CW.out.alloc _)).trans G4.out (by simp) (fun x hx hlt=>by
    have h2:=(RowOf.block HR.out x (by simpa using hx)).1
    omega))
   exact⟨⟨k+1,a4,c4,rfl,by rw[←HB.out],by omega,R4,C5⟩,by simp[lenOf];omega⟩
  ·have hke:k=T.length:=by omega
   subst hke
   have hA:((A T.length:Nat):Int)=(s.size:Int):=by rw[H.out.fin]
   have hkn2: ¬((A T.length:Nat):Int)<(s.size:Int):=by omega
   have R5:=LH (show RowOf tkC 4 wr w1.heap.size 224 (.slice a T.length c) T from by have:=HR.out;rwa[List.take_of_length_le (Nat.le_refl _)]at this)
   clear hk hkn HR
   go_wp2_with fail
   go_ret3
   exact⟨a,c,rfl,R5.out,HC.out⟩
end
section
open Go.RowKit
def dByte (s:ByteArray) (k:Nat):Nat:=((s.data[k]?).map UInt8.toNat).getD 0
theorem dByte_eq {s:ByteArray} {k:Nat} (h:k<s.size):dByte s k=(s[k]'h).toNat:=by
 unfold dByte
 rw[Array.getElem?_eq_getElem (by simpa using h)];rfl
def ascB (s:ByteArray):Bool:=(List.range s.size).all (fun k=>decide (dByte s k<128))
theorem asc_of {s:ByteArray} (h:ascB s=true):Asc s:=by
 intro k hk
 have:=List.all_eq_true.1 h k (List.mem_range.2 hk)
 rw[decide_eq_true_eq,dByte_eq hk]at this
 exact this
def runB (s:ByteArray) (n:Nat):Bool:=decide (n≤s.size)&&sRunTo s n&&(decide (n=s.size)|| !sRunTo s (n+1))
theorem run_of {s:ByteArray} {n:Nat} (h:runB s n=true):RunIs s n:=by
 unfold runB at h
 simp only[Bool.and_eq_true,Bool.or_eq_true,decide_eq_true_eq,Bool.not_eq_true']at h
 obtain⟨⟨h1,h2⟩,h3⟩:=h
 exact⟨h1,h2,fun hn=>h3.resolve_left (by omega)⟩
def blankB (s:ByteArray) (n:Nat):Bool:=decide (n≤s.size)&&(List.range n).all (fun k=>ofZ (dByte s k)==1)&&(decide (n=s.size)||(!(ofZ (dByte s n)==1)&& !Lib.hasPrefix (s.extract n s.size).data.toList [47,47]))
theorem blank_of' {s:ByteArray} {n:Nat} (h:blankB s n=true):BlankIs s n:=by
 unfold blankB at h
 simp only[Bool.and_eq_true,Bool.or_eq_true,decide_eq_true_eq,Bool.not_eq_true']at h
 obtain⟨⟨h1,h2⟩,h3⟩:=h
 refine⟨h1,fun k hk hkn=> ?_,fun hn=> ?_,fun hn=> ?_⟩
 ·have:=List.all_eq_true.1 h2 k (List.mem_range.2 hkn)
  rw[beq_iff_eq,dByte_eq hk]at this
  exact this
 ·have:=(h3.resolve_left (by omega)).1
  rw[dByte_eq hn,beq_eq_false_iff_ne]at this
  exact this
 ·exact(h3.resolve_left (by omega)).2
def tokB (s:ByteArray) (k:Int) (x:ByteArray) (n:Nat):Bool:=
 ascB s&&decide (s.size≤4000)&&
 ((runB s n&&decide (0<n)&&decide (n≤24)&&(s.extract 0 n==x)&&(k==if sKwB x then 2 else 1))||
 ((k==5)&&decide (n=1)&&decide (0<s.size)&&(ofZ (dByte s 0)==6)&&(s.extract 0 1==x)&& !(x==⟨#[33]⟩)&&sym2.all (fun y=> !(s.extract 0 2==y))))
theorem tok_of {s:ByteArray} {k:Int} {x:ByteArray} {n:Nat} (h:tokB s k x n=true) (w:World):Calls Tryz.prog 81 #[.string s] w fun e w'=>e= .returned (.tuple #[tkV k x 0 0, .int .i64 n, .int .i64 0])∧Chg [] w w':=by
 unfold tokB at h
 rw[Bool.and_eq_true,Bool.and_eq_true,Bool.or_eq_true,decide_eq_true_eq]at h
 obtain⟨⟨h1,h2⟩,h3|h3⟩:=h
 ·simp only[Bool.and_eq_true,decide_eq_true_eq,beq_iff_eq]at h3
  obtain⟨⟨⟨⟨h4,h5⟩,h6⟩,h7⟩,h8⟩:=h3
  have:=token_name s n (run_of h4) (asc_of h1) h2 h5 h6 w
  rw[h7,←h8]at this
  exact this
 ·simp only[Bool.and_eq_true,decide_eq_true_eq,beq_iff_eq,Bool.not_eq_true',beq_eq_false_iff_ne]at h3
  obtain⟨⟨⟨⟨⟨⟨rfl,rfl⟩,h4⟩,h5⟩,h6⟩,h7⟩,h8⟩:=h3
  rw[dByte_eq h4]at h5
  have:=token_sym s h4 (asc_of h1 0 h4) h5 h2 (by rw[h6];exact h7) (fun _ y hy=>by
   have:=List.all_eq_true.1 h8 y hy
   simpa using this) w
  rw[h6]at this
  exact this
def lexGo (s:ByteArray):List (Tk×Nat×Nat)→Nat→Bool
 |[],a=>decide (a=s.size)
 |(t,n,d)::l,a=>decide (a<s.size)&&(t.n==0)&&(t.at'==(a:Int))&&decide (0<n)&&decide (a+n≤s.size)&&tokB (s.extract a s.size) t.kind t.text n&&blankB (s.extract (a+n) s.size) d&&lexGo s l (a+n+d)
def lexBd (s:ByteArray) (l:List (Tk×Nat×Nat)) (a:Nat):Bool:=decide (l.length≤1000)&&ascB s&&decide (s.size≤4000)&&blankB s a&&lexGo s l a
def posOf' (l:List (Tk×Nat×Nat)) (a:Nat):Nat→Nat
 |0=>a
 |k+1=>match l with|[]=>a|(_,n,d)::l=>posOf' l (a+n+d) k
theorem lexGo_at {s:ByteArray}:∀{l:List (Tk×Nat×Nat)} {a:Nat},lexGo s l a=true→posOf' l a l.length=s.size∧∀k (h:k<l.length),posOf' l a k<s.size∧(l[k]).1.n=0∧(l[k]).1.at'=(posOf' l a k:Int)∧0<(l[k]).2.1∧posOf' l a k+(l[k]).2.1≤s.size∧posOf' l a k+(l[k]).2.1+(l[k]).2.2=posOf' l a (k+1)∧tokB (s.extract (posOf' l a k) s.size) (l[k]).1.kind (l[k]).1.text (l[k]).2.1=true∧blankB (s.extract (posOf' l a k+(l[k]).2.1) s.size) (l[k]).2.2=true
 |[],a,h=>by simp[lexGo]at h;exact⟨h,fun k hk=>by simp at hk⟩
 |(t,n,d)::l,a,h=>by
  unfold lexGo at h
  simp only[Bool.and_eq_true,decide_eq_true_eq,beq_iff_eq]at h
  obtain⟨⟨⟨⟨⟨⟨⟨h1,h2⟩,h3⟩,h4⟩,h5⟩,h6⟩,h7⟩,h8⟩:=h
  obtain⟨i1,i2⟩:=lexGo_at h8
  refine⟨i1,fun k hk=> ?_⟩
  cases k with
  |zero=>exact⟨h1,h2,h3,h4,h5,by cases l<;>rfl,h6,h7⟩
  |succ k=>exact i2 k (by simpa using hk)
theorem lexIs_of {s:ByteArray} {l:List (Tk×Nat×Nat)} {a:Nat} (h:lexBd s l a=true):LexIs s (l.map Prod.fst) (posOf' l a) (fun k=>((l[k]?).map (fun x=>x.2.1)).getD 0) (fun k=>((l[k]?).map (fun x=>x.2.2)).getD 0):=by
 unfold lexBd at h
 simp only[Bool.and_eq_true,decide_eq_true_eq]at h
 obtain⟨⟨⟨⟨h1,h2⟩,h3⟩,h4⟩,h5⟩:=h
 obtain⟨i1,i2⟩:=lexGo_at h5
 refine⟨by simpa using h1,asc_of h2,h3, ?_,fun k hk=> ?_,by simpa using i1⟩
 ·cases l<;>exact blank_of' h4
 ·have hk':k<l.length:=by simpa using hk
  obtain⟨j1,j2,j3,j4,j5,j6,j7,j8⟩:=i2 k hk'
  simp only[List.getElem_map,List.getElem?_eq_getElem hk',Option.map_some,Option.getD_some]
  exact⟨j1,j2,j3,j4,j5,j6,fun w=>tok_of j7 w,blank_of' j8⟩
def dSrc:ByteArray:=⟨#[102,117,110,99,32,109,97,105,110,40,101,41,32,123,32,114,101,116,117,114,110,32,101,32,43,32,101,59,32,125]⟩
def dMain:ByteArray:=⟨#[109,97,105,110]⟩
def dE:ByteArray:=⟨#[101]⟩
def dL:List (Tk×Nat×Nat):=[(⟨2,⟨#[102,117,110,99]⟩,0,0⟩,4,1),(⟨1,dMain,0,5⟩,4,0),(⟨5,⟨#[40]⟩,0,9⟩,1,0),(⟨1,dE,0,10⟩,1,0),(⟨5,⟨#[41]⟩,0,11⟩,1,1),(⟨5,⟨#[123]⟩,0,13⟩,1,1),(⟨2,⟨#[114,101,116,117,114,110]⟩,0,15⟩,6,1),(⟨1,dE,0,22⟩,1,1),(⟨5,⟨#[43]⟩,0,24⟩,1,1),(⟨1,dE,0,26⟩,1,0),(⟨5,⟨#[59]⟩,0,27⟩,1,1),(⟨5,⟨#[125]⟩,0,29⟩,1,0)]
def dT:List Tk:=dL.map Prod.fst
theorem dLex:lexBd dSrc dL 0=true:=by decide+kernel
theorem mLex:lexBd dMain [(⟨1,dMain,0,0⟩,4,0)] 0=true:=by decide+kernel
theorem dTokens (w:World):Calls Tryz.prog 28 #[.string dSrc] w fun e w'=>∃a c,e= .returned (.tuple #[.slice a 12 c, .int .i64 0, .int .i64 0])∧RowOf tkC 4 w' w.heap.size 224 (.slice a 12 c) dT∧Chg [] w w':=tokens_any dSrc dT _ _ _ (lexIs_of dLex) w
theorem mTokens (w:World):Calls Tryz.prog 28 #[.string dMain] w fun e w'=>∃a c,e= .returned (.tuple #[.slice a 1 c, .int .i64 0, .int .i64 0])∧RowOf tkC 4 w' w.heap.size 224 (.slice a 1 c) [⟨1,dMain,0,0⟩]∧Chg [] w w':=tokens_any dMain [⟨1,dMain,0,0⟩] _ _ _ (lexIs_of mLex) w
end
section
open Go.RowKit
def keyAt (l:List ByteArray) (i:Nat):Bool:=match l[i]? with|some s=>sTextB s&&(decide (i=0)||(match l[i-1]? with|some p=> !leS s p|none=>true))|none=>true
def keysTo (l:List ByteArray) (k:Nat):Bool:=(List.range k).all (keyAt l)
def keysB (l:List ByteArray):Bool:=keysTo l l.length
theorem keysTo_step {l:List ByteArray} {k:Nat}:keysTo l (k+1)=(keysTo l k&&keyAt l k):=by
 unfold keysTo
 rw[List.range_succ,List.all_append,List.all_cons,List.all_nil,Bool.and_true]
theorem keys_no {l:List ByteArray} {k:Nat} (hk:k<l.length) (h:keyAt l k=false):keysB l=false:=by
 unfold keysB keysTo
 rw[List.all_eq_false]
 exact⟨k,by simpa using hk,by rw[h];simp⟩
theorem skeys_any {a:Option Addr} {c:Nat} {l:List ByteArray} {w:World} (h:InIs skC 1 w a c l) (hs:∀s∈l,s.size≤maxLen) (ht:TabW w):Calls Tryz.prog 278 #[.slice a l.length c] w fun e w'=>e= .returned (.bool (keysB l))∧Chg [] w w':=by
 obtain⟨R,hR⟩:∃R,R=keysB l:=⟨_,rfl⟩
 rw[←hR]
 have HR:=LH hR
 have H:=LH h
 have HS:=LH hs
 have HT:=LH ht
 have hm:(l.length:Int)≤9223372036854775807:=by have h1:=h.2.1;have h2:=h.2.2.1;unfold maxLen at h2;omega
 clear hR h hs ht
 go_enter Tryz.func278,Tryz.ntmps278
 go_wp2_with fail
 go_loopw [7] (fun u wr=>∃k:Nat,u= .int .i64 k∧k≤l.length∧Hid (keysTo l k=true)∧Hid (Chg [] w wr)) (fun u _=>l.length-(intOf u).toNat)
 case atStart=>exact⟨0,rfl,Nat.zero_le _,LH rfl,LH (Chg.refl _ _)⟩
 case round=>
  obtain⟨k,rfl,hk,HK,D⟩:=hrel
  have hk0:(0:Int)≤(k:Int):=by omega
  by_cases hkl:k<l.length
  ·have hkl':(k:Int)<(l.length:Int):=by omega
   obtain⟨b1,o1,rfl, -, -,hc1⟩:=H.out.1.elem D.out k hkl
   have u1:=hc1 0 (by omega)
   simp only[skC,List.getElem?_cons_zero,Nat.add_zero,Nat.mul_one]at u1
   have A:=LH (stext_any l[k] wr (HS.out _ (List.getElem_mem hkl)) (HT.out.kept D.out))
   have HA:keyAt l k=(sTextB l[k]&&(decide (k=0)||(match l[k-1]? with|some p=> !leS l[k] p|none=>true))):=by unfold keyAt;rw[List.getElem?_eq_getElem hkl]
   have HN:=LH (fun h=>show R=false by rw[HR.out];exact keys_no hkl h)
   have HY:=LH (fun(h:keyAt l k=true)=>show keysTo l (k+1)=true by rw[keysTo_step,HK.out,h];rfl)
   cases hq:sTextB l[k]
   ·rw[hq]at A HA
    have HE:=LH (HN.out HA)
    clear hc1 HA hq
    generalize l[k]=x at*
    go_wp2_with (go_at_call 277;(with_reducible refine Calls.mono A.out ?_);rintro e w2 ⟨rfl,hc⟩;have D2:=LH (D.out.thenSame hc);clear hc)
    go_ret
    exact⟨retB HE.out.symm,D2.out⟩
   rw[hq]at A HA
   by_cases hz:k=0
   ·have HY2:=LH (HY.out (by rw[HA,decide_eq_true hz];rfl))
    have hz':(k:Int)≤0:=by omega
    clear hc1 HA hq hz
    generalize l[k]=x at*
    go_wp2_with (go_at_call 277;(with_reducible refine Calls.mono A.out ?_);rintro e w2 ⟨rfl,hc⟩;have D2:=LH (D.out.thenSame hc);clear hc)
    exact⟨⟨k+1,by go_num,by omega,HY2,D2⟩,by simp[intOf];omega⟩
   obtain⟨j,rfl⟩:∃j,k=j+1:=⟨k-1,by omega⟩
   have hj:j<l.length:=by omega
   have hj':(0:Int)<((j+1:Nat):Int):=by omega
   have UW:=LH (fun w' (hc:Chg [] w w')=>show w'.cell? ⟨b1,o1+j,none⟩=some (.string l[j])from by
    obtain⟨b2,o2,e, -, -,hcc⟩:=H.out.1.elem hc j hj
    cases e
    simpa[skC]using hcc 0 (by omega))
   rw[decide_eq_false hz,Bool.false_or,Nat.add_sub_cancel,List.getElem?_eq_getElem hj]at HA
   simp only[Bool.true_and]at HA
   clear hc1 hq hz
   generalize l[j]=y at*
   generalize l[j+1]=x at*
   cases hle:leS x y
   ·rw[hle]at HA
    have HY2:=LH (HY.out HA)
    unfold leS at hle
    clear HA
    go_wp2_with (go_at_call 277;(with_reducible refine Calls.mono A.out ?_);rintro e w2 ⟨rfl,hc⟩;have D2:=LH (D.out.thenSame hc);have u2:=UW.out _ D2.out;clear hc)
    exact⟨⟨j+1+1,by go_num,by omega,HY2,D2⟩,by simp[intOf];omega⟩
   ·rw[hle]at HA
    have HE:=LH (HN.out HA)
    unfold leS at hle
    clear HA
    go_wp2_with (go_at_call 277;(with_reducible refine Calls.mono A.out ?_);rintro e w2 ⟨rfl,hc⟩;have D2:=LH (D.out.thenSame hc);have u2:=UW.out _ D2.out;clear hc)
    go_ret
    exact⟨retB HE.out.symm,D2.out⟩
  ·have hke:k=l.length:=by omega
   have HE:=LH (show R=true by rw[HR.out];unfold keysB;rw[←hke];exact HK.out)
   clear hke
   go_wp2_with fail
   go_ret
   exact⟨retB HE.out.symm,D.out⟩
end
section
open Go.RowKit
def emS:ByteArray:=⟨#[]⟩
def badF (x:PNd):Bool:=(x.kind !=7&&decide (0<x.keys.length))||(x.kind !=2&&x.kind !=3&&x.n !=0)
def fieldsB (x:PNd):Bool:=
 if badF x=true then false
 else if x.kind=2 then(x.text==emS)&&(x.n==0||x.n==1)
 else if x.kind=3 then(x.text==emS)&&(decide (0≤x.n)&&decide (x.n≤1000000000000))
 else if x.kind=4 then sTextB x.text
 else if x.kind=5∨x.kind=11∨x.kind=13∨x.kind=14 then sNameB x.text
 else if x.kind=12 then sRunB x.text
 else if x.kind=7 then(x.text==emS)&&(decide (x.keys.length=x.kids.length)&&keysB x.keys)
 else if x.kind=8 then(x.text==⟨#[45]⟩)||(x.text==⟨#[110,111,116]⟩)
 else if x.kind=9 then decide (0<binZ x.text)
 else x.text==emS
theorem str_ne {s k:ByteArray} {l:List UInt8} (hl:k.toList=l) (h:s≠k):(s.toList==l)=false:=by
 rw[←hl]
 exact(beq_toListBytes s k).symm.trans (beq_eq_false_iff_ne.2 h)
theorem em_isEmpty {s:ByteArray} (h:s≠emS):s.toList.isEmpty=false:=by
 have:=str_ne (k:=emS) (l:=[]) (by kernel_rfl) h
 cases hs:s.toList with
 |nil=>rw[hs]at this;cases this
 |cons x r=>rfl
theorem sbeq_ne {s k:ByteArray} (h:s≠k):(s==k)=false:=beq_eq_false_iff_ne.2 h
theorem fields_any (x:Nd) (w:World) (hin:NdIn w x) (hg:goodNd x) (ht:TabW w):Calls Tryz.prog 221 #[.agg (ndC x).toArray] w fun e w'=>e= .returned (.bool (fieldsB x.p))∧Chg [] w w':=by
 obtain⟨R,hR⟩:∃R,R=fieldsB x.p:=⟨_,rfl⟩
 rw[←hR]
 have HR:=LH hR
 obtain⟨W1,hW1⟩:∃W1,W1=w.alloc (ndO x):=⟨_,rfl⟩
 have C1:=LH (show Chg [] w W1 by rw[hW1];exact(Chg.refl _ _).alloc _)
 have B1:=LH (show W1.heap[w.heap.size]? =some (ndO x) by rw[hW1];exact heap_alloc_new _ _)
 have HT:=LH (ht.kept C1.out)
 have KY:=LH (skeys_any (hin.1.kept C1.out) hg.2.2.2.1 HT.out)
 have TX:=LH (stext_any x.text W1 hg.2.1 HT.out)
 have NM:=LH (fun w'=>sname_any x.text w')
 have RN:=LH (fun w'=>run_any x.text w')
 have OP:=LH (fun w'=>operator_any x.text w')
 obtain⟨kind,text,n,ka,kc,keys,da,dc,kids⟩:=x
 unfold ndO at hW1 B1
 simp only at hW1 B1 KY TX NM RN OP
 have HW1:=LH hW1
 have k1:=blk_cell B1.out
 have hkl:(0:Int)≤(keys.length:Int):=by omega
 simp only[ndC]
 clear hR hW1 hin hg ht
 by_cases hA:kind≠7∧0<keys.length
 ·have HE:=LH (show R=false by rw[HR.out];unfold fieldsB;rw[if_pos];unfold badF Nd.p;simp[hA.1,hA.2])
  have q1:(kind !=7)=true:=bne_iff_ne.2 hA.1
  have q2:0<keys.length:=hA.2
  clear hA hkl
  go_enter Tryz.func221,Tryz.ntmps221
  go_upto_region 1 with fail
  rw[←HW1.out]
  go_wp2_with fail
  go_ret
  exact⟨retB HE.out.symm,C1.out⟩
 have hA':kind=7∨ ¬0<keys.length:=by
  by_cases h:kind=7
  ·exact .inl h
  ·exact .inr (fun h2=>hA ⟨h,h2⟩)
 by_cases hB:(kind≠2∧kind≠3)∧n≠0
 ·have HE:=LH (show R=false by rw[HR.out];unfold fieldsB;rw[if_pos];unfold badF Nd.p;simp[hB.1.1,hB.1.2,hB.2])
  have q1:(kind !=2)=true:=bne_iff_ne.2 hB.1.1
  have q2:(kind !=3)=true:=bne_iff_ne.2 hB.1.2
  have q3:(n !=0)=true:=bne_iff_ne.2 hB.2
  have HA':=LH hA'
  clear hA hA' hB
  rcases HA'.out with h|h
  ·subst h
   go_enter Tryz.func221,Tryz.ntmps221
   go_upto_region 1 with fail
   rw[←HW1.out]
   go_wp2_with fail
   go_ret
   exact⟨retB HE.out.symm,C1.out⟩
  ·cases q0:(kind !=7)
   all_goals
    go_enter Tryz.func221,Tryz.ntmps221
    go_upto_region 1 with fail
    rw[←HW1.out]
    go_wp2_with fail
    go_ret
    exact⟨retB HE.out.symm,C1.out⟩
 have HNB:=LH (show badF ⟨kind,text,n,keys,kids⟩=false by
  unfold badF
  rw[Bool.or_eq_false_iff]
  constructor
  ·rcases hA' with h|h
   ·simp[h]
   ·rw[decide_eq_false h];simp
  ·by_cases h:kind=2
   ·simp[h]
   ·by_cases h3:kind=3
    ·simp[h3]
    ·have:n=0:=by
      by_cases hn:n=0
      ·exact hn
      ·exact absurd ⟨⟨h,h3⟩,hn⟩ hB
     simp[this])
 have hN:(kind=2∨kind=3)∨n=0:=by
  by_cases h:kind=2
  ·exact .inl (.inl h)
  ·by_cases h3:kind=3
   ·exact .inl (.inr h3)
   ·exact .inr (by
     by_cases hn:n=0
     ·exact hn
     ·exact absurd ⟨⟨h,h3⟩,hn⟩ hB)
 have HRR:=LH (show R=fieldsB ⟨kind,text,n,keys,kids⟩from HR.out)
 have HAA:=LH hA'
 have HNN:=LH hN
 clear hA hA' hB hN HR
 by_cases hk2:kind=2
 ·subst hk2
  have hK: ¬0<keys.length:=HAA.out.resolve_left (by decide)
  by_cases he:text=emS
  case neg=>
   have hem:=em_isEmpty he
   have hem2:=str_ne (k:=emS) (l:=[]) (by kernel_rfl) he
   have HE:=LH (show R=false by rw[HRR.out];unfold fieldsB;rw[if_neg (by rw[HNB.out];simp)];simp[sbeq_ne he])
   clear he
   go_enter Tryz.func221,Tryz.ntmps221
   go_upto_region 1 with fail
   rw[←HW1.out]
   go_wp2_with fail
   go_ret
   exact⟨retB HE.out.symm,C1.out⟩
  subst he
  unfold emS at*
  cases h0:(n==0)
  ·cases h1:(n==1)
   ·have HE:=LH (show R=false by rw[HRR.out];unfold fieldsB;rw[if_neg (by rw[HNB.out];simp)];simp[h0,h1])
    go_enter Tryz.func221,Tryz.ntmps221
    go_upto_region 1 with fail
    rw[←HW1.out]
    go_wp2_with fail
    go_ret
    exact⟨retB HE.out.symm,C1.out⟩
   ·have HE:=LH (show R=true by rw[HRR.out];unfold fieldsB;rw[if_neg (by rw[HNB.out];simp)];simp[h0,h1,emS])
    go_enter Tryz.func221,Tryz.ntmps221
    go_upto_region 1 with fail
    rw[←HW1.out]
    go_wp2_with fail
    go_ret
    exact⟨retB HE.out.symm,C1.out⟩
  ·have HE:=LH (show R=true by rw[HRR.out];unfold fieldsB;rw[if_neg (by rw[HNB.out];simp)];simp[h0,emS])
   go_enter Tryz.func221,Tryz.ntmps221
   go_upto_region 1 with fail
   rw[←HW1.out]
   go_wp2_with fail
   go_ret
   exact⟨retB HE.out.symm,C1.out⟩
 by_cases hk3:kind=3
 ·subst hk3
  have hK: ¬0<keys.length:=HAA.out.resolve_left (by decide)
  by_cases he:text=emS
  case neg=>
   have hem:=em_isEmpty he
   have hem2:=str_ne (k:=emS) (l:=[]) (by kernel_rfl) he
   have HE:=LH (show R=false by rw[HRR.out];unfold fieldsB;rw[if_neg (by rw[HNB.out];simp)];simp[sbeq_ne he])
   clear he
   go_enter Tryz.func221,Tryz.ntmps221
   go_upto_region 1 with fail
   rw[←HW1.out]
   go_wp2_with fail
   go_ret
   exact⟨retB HE.out.symm,C1.out⟩
  subst he
  unfold emS at*
  by_cases h0:0≤n
  ·have HE:=LH (show R=decide (n≤1000000000000) by rw[HRR.out];unfold fieldsB;rw[if_neg (by rw[HNB.out];simp)];rw[decide_eq_true h0];rfl)
   go_enter Tryz.func221,Tryz.ntmps221
   go_upto_region 1 with fail
   rw[←HW1.out]
   go_wp2_with fail
   go_ret
   exact⟨retB HE.out.symm,C1.out⟩
  ·have HE:=LH (show R=false by rw[HRR.out];unfold fieldsB;rw[if_neg (by rw[HNB.out];simp)];rw[decide_eq_false h0];simp)
   have h0':n<0:=by omega
   clear h0
   go_enter Tryz.func221,Tryz.ntmps221
   go_upto_region 1 with fail
   rw[←HW1.out]
   go_wp2_with fail
   go_ret
   exact⟨retB HE.out.symm,C1.out⟩
 by_cases hk4:kind=4
 ·subst hk4
  have hK: ¬0<keys.length:=HAA.out.resolve_left (by decide)
  have hn0:n=0:=HNN.out.resolve_left (by decide)
  have hn:(n !=0)=false:=by simp[hn0]
  clear hn0
  have HE:=LH (show R=sTextB text by rw[HRR.out];unfold fieldsB;rw[if_neg (by rw[HNB.out];simp)];rfl)
  clear HRR
  generalize sTextB text=q at*
  go_enter Tryz.func221,Tryz.ntmps221
  go_upto_region 1 with fail
  rw[←HW1.out]
  go_wp2_with (go_at_call 277;(with_reducible refine Calls.mono TX.out ?_);rintro e w2 ⟨rfl,hc⟩;have C2:=LH (C1.out.thenSame hc);clear hc)
  go_ret
  exact⟨retB HE.out.symm,C2.out⟩
 by_cases hk5:kind=5
 ·subst hk5
  have hK: ¬0<keys.length:=HAA.out.resolve_left (by decide)
  have hn0:n=0:=HNN.out.resolve_left (by decide)
  have hn:(n !=0)=false:=by simp[hn0]
  clear hn0
  have HE:=LH (show R=sNameB text by rw[HRR.out];unfold fieldsB;rw[if_neg (by rw[HNB.out];simp)];rfl)
  clear HRR
  generalize sNameB text=q at*
  go_enter Tryz.func221,Tryz.ntmps221
  go_upto_region 1 with fail
  rw[←HW1.out]
  go_wp2_with (go_at_call 147;(with_reducible refine Calls.mono (NM.out _) ?_);rintro e w2 ⟨rfl,rfl⟩)
  go_ret
  exact⟨retB HE.out.symm,C1.out⟩
 by_cases hk11:kind=11
 ·subst hk11
  have hK: ¬0<keys.length:=HAA.out.resolve_left (by decide)
  have hn0:n=0:=HNN.out.resolve_left (by decide)
  have hn:(n !=0)=false:=by simp[hn0]
  clear hn0
  have HE:=LH (show R=sNameB text by rw[HRR.out];unfold fieldsB;rw[if_neg (by rw[HNB.out];simp)];rfl)
  clear HRR
  generalize sNameB text=q at*
  go_enter Tryz.func221,Tryz.ntmps221
  go_upto_region 1 with fail
  rw[←HW1.out]
  go_wp2_with (go_at_call 147;(with_reducible refine Calls.mono (NM.out _) ?_);rintro e w2 ⟨rfl,rfl⟩)
  go_ret
  exact⟨retB HE.out.symm,C1.out⟩
 by_cases hk13:kind=13
 ·subst hk13
  have hK: ¬0<keys.length:=HAA.out.resolve_left (by decide)
  have hn0:n=0:=HNN.out.resolve_left (by decide)
  have hn:(n !=0)=false:=by simp[hn0]
  clear hn0
  have HE:=LH (show R=sNameB text by rw[HRR.out];unfold fieldsB;rw[if_neg (by rw[HNB.out];simp)];rfl)
  clear HRR
  generalize sNameB text=q at*
  go_enter Tryz.func221,Tryz.ntmps221
  go_upto_region 1 with fail
  rw[←HW1.out]
  go_wp2_with (go_at_call 147;(with_reducible refine Calls.mono (NM.out _) ?_);rintro e w2 ⟨rfl,rfl⟩)
  go_ret
  exact⟨retB HE.out.symm,C1.out⟩
 by_cases hk14:kind=14
 ·subst hk14
  have hK: ¬0<keys.length:=HAA.out.resolve_left (by decide)
  have hn0:n=0:=HNN.out.resolve_left (by decide)
  have hn:(n !=0)=false:=by simp[hn0]
  clear hn0
  have HE:=LH (show R=sNameB text by rw[HRR.out];unfold fieldsB;rw[if_neg (by rw[HNB.out];simp)];rfl)
  clear HRR
  generalize sNameB text=q at*
  go_enter Tryz.func221,Tryz.ntmps221
  go_upto_region 1 with fail
  rw[←HW1.out]
  go_wp2_with (go_at_call 147;(with_reducible refine Calls.mono (NM.out _) ?_);rintro e w2 ⟨rfl,rfl⟩)
  go_ret
  exact⟨retB HE.out.symm,C1.out⟩
 by_cases hk12:kind=12
 ·subst hk12
  have hK: ¬0<keys.length:=HAA.out.resolve_left (by decide)
  have hn0:n=0:=HNN.out.resolve_left (by decide)
  have hn:(n !=0)=false:=by simp[hn0]
  clear hn0
  have HE:=LH (show R=sRunB text by rw[HRR.out];unfold fieldsB;rw[if_neg (by rw[HNB.out];simp)];rfl)
  clear HRR
  generalize sRunB text=q at*
  go_enter Tryz.func221,Tryz.ntmps221
  go_upto_region 1 with fail
  rw[←HW1.out]
  go_wp2_with (go_at_call 219;(with_reducible refine Calls.mono (RN.out _) ?_);rintro e w2 ⟨rfl,rfl⟩)
  go_ret
  exact⟨retB HE.out.symm,C1.out⟩
 by_cases hk7:kind=7
 ·subst hk7
  have hn0:n=0:=HNN.out.resolve_left (by decide)
  have hn:(n !=0)=false:=by simp[hn0]
  clear hn0
  by_cases he:text=emS
  case neg=>
   have hem:=em_isEmpty he
   have hem2:=str_ne (k:=emS) (l:=[]) (by kernel_rfl) he
   have HE:=LH (show R=false by rw[HRR.out];unfold fieldsB;rw[if_neg (by rw[HNB.out];simp)];simp[sbeq_ne he])
   clear he
   go_enter Tryz.func221,Tryz.ntmps221
   go_upto_region 1 with fail
   rw[←HW1.out]
   go_wp2_with fail
   go_ret
   exact⟨retB HE.out.symm,C1.out⟩
  subst he
  unfold emS at*
  by_cases hll:keys.length=kids.length
  ·have HE:=LH (show R=keysB keys by rw[HRR.out];unfold fieldsB;rw[if_neg (by rw[HNB.out];simp)];rw[decide_eq_true hll];rfl)
   have hl2:((keys.length:Int)==(kids.length:Int))=true:=by simp[hll]
   clear HRR hll
   generalize keysB keys=q at*
   go_enter Tryz.func221,Tryz.ntmps221
   go_upto_region 1 with fail
   rw[←HW1.out]
   go_wp2_with (go_at_call 278;(with_reducible refine Calls.mono KY.out ?_);rintro e w2 ⟨rfl,hc⟩;have C2:=LH (C1.out.thenSame hc);clear hc)
   go_ret
   exact⟨retB HE.out.symm,C2.out⟩
  ·have HE:=LH (show R=false by rw[HRR.out];unfold fieldsB;rw[if_neg (by rw[HNB.out];simp)];rw[decide_eq_false hll];simp)
   have hl2:((keys.length:Int)==(kids.length:Int))=false:=beq_eq_false_iff_ne.2 (by omega)
   clear HRR hll
   go_enter Tryz.func221,Tryz.ntmps221
   go_upto_region 1 with fail
   rw[←HW1.out]
   go_wp2_with fail
   go_ret
   exact⟨retB HE.out.symm,C1.out⟩
 by_cases hk8:kind=8
 ·subst hk8
  have hK: ¬0<keys.length:=HAA.out.resolve_left (by decide)
  have hn0:n=0:=HNN.out.resolve_left (by decide)
  have hn:(n !=0)=false:=by simp[hn0]
  clear hn0
  by_cases h0:text=⟨#[45]⟩
  ·have HE:=LH (show R=true by rw[HRR.out];unfold fieldsB;rw[if_neg (by rw[HNB.out];simp)];rw[h0];kernel_rfl)
   subst h0
   go_enter Tryz.func221,Tryz.ntmps221
   go_upto_region 1 with fail
   rw[←HW1.out]
   go_wp2_with fail
   go_ret
   exact⟨retB HE.out.symm,C1.out⟩
  have q0:=str_ne (l:=[45]) (by kernel_rfl) h0
  by_cases h1:text=⟨#[110,111,116]⟩
  ·have HE:=LH (show R=true by rw[HRR.out];unfold fieldsB;rw[if_neg (by rw[HNB.out];simp)];rw[h1];kernel_rfl)
   subst h1
   go_enter Tryz.func221,Tryz.ntmps221
   go_upto_region 1 with fail
   rw[←HW1.out]
   go_wp2_with fail
   go_ret
   exact⟨retB HE.out.symm,C1.out⟩
  have q1:=str_ne (l:=[110,111,116]) (by kernel_rfl) h1
  have HE:=LH (show R=false by rw[HRR.out];unfold fieldsB;rw[if_neg (by rw[HNB.out];simp)];simp[sbeq_ne h0,sbeq_ne h1])
  clear h0 h1
  go_enter Tryz.func221,Tryz.ntmps221
  go_upto_region 1 with fail
  rw[←HW1.out]
  go_wp2_with fail
  go_ret
  exact⟨retB HE.out.symm,C1.out⟩
 by_cases hk9:kind=9
 ·subst hk9
  have hK: ¬0<keys.length:=HAA.out.resolve_left (by decide)
  have hn0:n=0:=HNN.out.resolve_left (by decide)
  have hn:(n !=0)=false:=by simp[hn0]
  clear hn0
  have HE:=LH (show R=decide (0<binZ text) by rw[HRR.out];unfold fieldsB;rw[if_neg (by rw[HNB.out];simp)];rfl)
  clear HRR
  generalize decide (0<binZ text)=q at*
  go_enter Tryz.func221,Tryz.ntmps221
  go_upto_region 1 with fail
  rw[←HW1.out]
  go_wp2_with (go_at_call 279;(with_reducible refine Calls.mono (OP.out _) ?_);rintro e w2 ⟨rfl,rfl⟩)
  go_ret
  exact⟨retB HE.out.symm,C1.out⟩
 have hK: ¬0<keys.length:=HAA.out.resolve_left hk7
 have hn0:n=0:=HNN.out.resolve_left (by rintro(h|h);exact hk2 h;exact hk3 h)
 have hn:(n !=0)=false:=by simp[hn0]
 have HRS:=LH (show R=(text==emS) by rw[HRR.out];unfold fieldsB;rw[if_neg (by rw[HNB.out];simp),if_neg hk2,if_neg hk3,if_neg hk4,if_neg (by simp[hk5,hk11,hk13,hk14]),if_neg hk12,if_neg hk7,if_neg hk8,if_neg hk9])
 have e2:(kind==2)=false:=beq_eq_false_iff_ne.2 hk2
 have e3:(kind==3)=false:=beq_eq_false_iff_ne.2 hk3
 have e4:(kind==4)=false:=beq_eq_false_iff_ne.2 hk4
 have e5:(kind==5)=false:=beq_eq_false_iff_ne.2 hk5
 have e11:(kind==11)=false:=beq_eq_false_iff_ne.2 hk11
 have e13:(kind==13)=false:=beq_eq_false_iff_ne.2 hk13
 have e14:(kind==14)=false:=beq_eq_false_iff_ne.2 hk14
 have e12:(kind==12)=false:=beq_eq_false_iff_ne.2 hk12
 have e7:(kind==7)=false:=beq_eq_false_iff_ne.2 hk7
 have e8:(kind==8)=false:=beq_eq_false_iff_ne.2 hk8
 have e9:(kind==9)=false:=beq_eq_false_iff_ne.2 hk9
 have d7:(kind !=7)=true:=bne_iff_ne.2 hk7
 have d2:(kind !=2)=true:=bne_iff_ne.2 hk2
 have d3:(kind !=3)=true:=bne_iff_ne.2 hk3
 clear hn0 HRR hk2 hk3 hk4 hk5 hk11 hk13 hk14 hk12 hk7 hk8 hk9
 by_cases he:text=emS
 ·have HE:=LH (show R=true by rw[HRS.out,he];kernel_rfl)
  subst he
  unfold emS at*
  go_enter Tryz.func221,Tryz.ntmps221
  go_upto_region 1 with fail
  rw[←HW1.out]
  go_wp2_with fail
  go_ret
  exact⟨retB HE.out.symm,C1.out⟩
 ·have HE:=LH (show R=false by rw[HRS.out];exact sbeq_ne he)
  have hem:=em_isEmpty he
  have hem2:=str_ne (k:=emS) (l:=[]) (by kernel_rfl) he
  clear he
  go_enter Tryz.func221,Tryz.ntmps221
  go_upto_region 1 with fail
  rw[←HW1.out]
  go_wp2_with fail
  go_ret
  exact⟨retB HE.out.symm,C1.out⟩
end
section
open Go.RowKit
def countB (x:PNd):Bool:=
 if x.kind=1∨x.kind=2∨x.kind=3∨x.kind=4∨x.kind=5 then((x.kids.length:Int)==0)
 else if x.kind=8∨x.kind=13∨x.kind=14∨x.kind=17∨x.kind=18 then((x.kids.length:Int)==1)
 else if x.kind=9∨x.kind=10∨x.kind=16 then((x.kids.length:Int)==2)
 else if x.kind=15 then((x.kids.length:Int)==2||(x.kids.length:Int)==3)
 else decide (x.kind=6∨x.kind=7∨x.kind=11∨x.kind=12∨x.kind=19)
def fitsB (x:PNd) (k part:Int):Bool:=
 if x.kind=19 then sStatB part else if x.kind=15∨x.kind=16 then(if 0<k then part==19 else sExprB part)else sExprB part
theorem count_any (x:Nd) (w:World):Calls Tryz.prog 222 #[.agg (ndC x).toArray] w fun e w'=>e= .returned (.bool (countB x.p))∧Chg [] w w':=by
 obtain⟨R,hR⟩:∃R,R=countB x.p:=⟨_,rfl⟩
 rw[←hR]
 have HR:=LH hR
 clear hR
 obtain⟨W1,hW1⟩:∃W1,W1=w.alloc (ndO x):=⟨_,rfl⟩
 have C1:=LH (show Chg [] w W1 by rw[hW1];exact(Chg.refl _ _).alloc _)
 have B1:=LH (show W1.heap[w.heap.size]? =some (ndO x) by rw[hW1];exact heap_alloc_new _ _)
 obtain⟨kind,text,n,ka,kc,keys,da,dc,kids⟩:=x
 unfold ndO at hW1 B1
 simp only at hW1 B1
 have HW1:=LH hW1
 have k1:=blk_cell B1.out
 simp only[ndC]
 clear hW1
 have HRR:=LH (show R=countB ⟨kind,text,n,keys,kids⟩from HR.out)
 clear HR
 by_cases hk1:kind=1
 ·subst hk1
  have HE:=LH (show R=((kids.length:Int)==0) by rw[HRR.out];unfold countB;simp)
  go_enter Tryz.func222,Tryz.ntmps222
  go_upto_region 1 with fail
  rw[←HW1.out]
  go_wp2_with fail
  go_ret
  exact⟨retB HE.out.symm,C1.out⟩
 by_cases hk2:kind=2
 ·subst hk2
  have HE:=LH (show R=((kids.length:Int)==0) by rw[HRR.out];unfold countB;simp)
  go_enter Tryz.func222,Tryz.ntmps222
  go_upto_region 1 with fail
  rw[←HW1.out]
  go_wp2_with fail
  go_ret
  exact⟨retB HE.out.symm,C1.out⟩
 by_cases hk3:kind=3
 ·subst hk3
  have HE:=LH (show R=((kids.length:Int)==0) by rw[HRR.out];unfold countB;simp)
  go_enter Tryz.func222,Tryz.ntmps222
  go_upto_region 1 with fail
  rw[←HW1.out]
  go_wp2_with fail
  go_ret
  exact⟨retB HE.out.symm,C1.out⟩
 by_cases hk4:kind=4
 ·subst hk4
  have HE:=LH (show R=((kids.length:Int)==0) by rw[HRR.out];unfold countB;simp)
  go_enter Tryz.func222,Tryz.ntmps222
  go_upto_region 1 with fail
  rw[←HW1.out]
  go_wp2_with fail
  go_ret
  exact⟨retB HE.out.symm,C1.out⟩
 by_cases hk5:kind=5
 ·subst hk5
  have HE:=LH (show R=((kids.length:Int)==0) by rw[HRR.out];unfold countB;simp)
  go_enter Tryz.func222,Tryz.ntmps222
  go_upto_region 1 with fail
  rw[←HW1.out]
  go_wp2_with fail
  go_ret
  exact⟨retB HE.out.symm,C1.out⟩
 by_cases hk6:kind=6
 ·subst hk6
  have HE:=LH (show R=true by rw[HRR.out];unfold countB;simp)
  go_enter Tryz.func222,Tryz.ntmps222
  go_upto_region 1 with fail
  rw[←HW1.out]
  go_wp2_with fail
  go_ret
  exact⟨retB HE.out.symm,C1.out⟩
 by_cases hk7:kind=7
 ·subst hk7
  have HE:=LH (show R=true by rw[HRR.out];unfold countB;simp)
  go_enter Tryz.func222,Tryz.ntmps222
  go_upto_region 1 with fail
  rw[←HW1.out]
  go_wp2_with fail
  go_ret
  exact⟨retB HE.out.symm,C1.out⟩
 by_cases hk8:kind=8
 ·subst hk8
  have HE:=LH (show R=((kids.length:Int)==1) by rw[HRR.out];unfold countB;simp)
  go_enter Tryz.func222,Tryz.ntmps222
  go_upto_region 1 with fail
  rw[←HW1.out]
  go_wp2_with fail
  go_ret
  exact⟨retB HE.out.symm,C1.out⟩
 by_cases hk9:kind=9
 ·subst hk9
  have HE:=LH (show R=((kids.length:Int)==2) by rw[HRR.out];unfold countB;simp)
  go_enter Tryz.func222,Tryz.ntmps222
  go_upto_region 1 with fail
  rw[←HW1.out]
  go_wp2_with fail
  go_ret
  exact⟨retB HE.out.symm,C1.out⟩
 by_cases hk10:kind=10
 ·subst hk10
  have HE:=LH (show R=((kids.length:Int)==2) by rw[HRR.out];unfold countB;simp)
  go_enter Tryz.func222,Tryz.ntmps222
  go_upto_region 1 with fail
  rw[←HW1.out]
  go_wp2_with fail
  go_ret
  exact⟨retB HE.out.symm,C1.out⟩
 by_cases hk11:kind=11
 ·subst hk11
  have HE:=LH (show R=true by rw[HRR.out];unfold countB;simp)
  go_enter Tryz.func222,Tryz.ntmps222
  go_upto_region 1 with fail
  rw[←HW1.out]
  go_wp2_with fail
  go_ret
  exact⟨retB HE.out.symm,C1.out⟩
 by_cases hk12:kind=12
 ·subst hk12
  have HE:=LH (show R=true by rw[HRR.out];unfold countB;simp)
  go_enter Tryz.func222,Tryz.ntmps222
  go_upto_region 1 with fail
  rw[←HW1.out]
  go_wp2_with fail
  go_ret
  exact⟨retB HE.out.symm,C1.out⟩
 by_cases hk13:kind=13
 ·subst hk13
  have HE:=LH (show R=((kids.length:Int)==1) by rw[HRR.out];unfold countB;simp)
  go_enter Tryz.func222,Tryz.ntmps222
  go_upto_region 1 with fail
  rw[←HW1.out]
  go_wp2_with fail
  go_ret
  exact⟨retB HE.out.symm,C1.out⟩
 by_cases hk14:kind=14
 ·subst hk14
  have HE:=LH (show R=((kids.length:Int)==1) by rw[HRR.out];unfold countB;simp)
  go_enter Tryz.func222,Tryz.ntmps222
  go_upto_region 1 with fail
  rw[←HW1.out]
  go_wp2_with fail
  go_ret
  exact⟨retB HE.out.symm,C1.out⟩
 by_cases hk15:kind=15
 ·subst hk15
  cases q2:((kids.length:Int)==2)
  ·have HE:=LH (show R=((kids.length:Int)==3) by rw[HRR.out];unfold countB;simp[q2])
   go_enter Tryz.func222,Tryz.ntmps222
   go_upto_region 1 with fail
   rw[←HW1.out]
   go_wp2_with fail
   go_ret
   exact⟨retB HE.out.symm,C1.out⟩
  ·have HE:=LH (show R=true by rw[HRR.out];unfold countB;simp[q2])
   go_enter Tryz.func222,Tryz.ntmps222
   go_upto_region 1 with fail
   rw[←HW1.out]
   go_wp2_with fail
   go_ret
   exact⟨retB HE.out.symm,C1.out⟩
 by_cases hk16:kind=16
 ·subst hk16
  have HE:=LH (show R=((kids.length:Int)==2) by rw[HRR.out];unfold countB;simp)
  go_enter Tryz.func222,Tryz.ntmps222
  go_upto_region 1 with fail
  rw[←HW1.out]
  go_wp2_with fail
  go_ret
  exact⟨retB HE.out.symm,C1.out⟩
 by_cases hk17:kind=17
 ·subst hk17
  have HE:=LH (show R=((kids.length:Int)==1) by rw[HRR.out];unfold countB;simp)
  go_enter Tryz.func222,Tryz.ntmps222
  go_upto_region 1 with fail
  rw[←HW1.out]
  go_wp2_with fail
  go_ret
  exact⟨retB HE.out.symm,C1.out⟩
 by_cases hk18:kind=18
 ·subst hk18
  have HE:=LH (show R=((kids.length:Int)==1) by rw[HRR.out];unfold countB;simp)
  go_enter Tryz.func222,Tryz.ntmps222
  go_upto_region 1 with fail
  rw[←HW1.out]
  go_wp2_with fail
  go_ret
  exact⟨retB HE.out.symm,C1.out⟩
 by_cases hk19:kind=19
 ·subst hk19
  have HE:=LH (show R=true by rw[HRR.out];unfold countB;simp)
  go_enter Tryz.func222,Tryz.ntmps222
  go_upto_region 1 with fail
  rw[←HW1.out]
  go_wp2_with fail
  go_ret
  exact⟨retB HE.out.symm,C1.out⟩
 have HE:=LH (show R=false by rw[HRR.out];unfold countB;simp[hk1,hk2,hk3,hk4,hk5,hk6,hk7,hk8,hk9,hk10,hk11,hk12,hk13,hk14,hk15,hk16,hk17,hk18,hk19])
 have e1:(kind==1)=false:=beq_eq_false_iff_ne.2 hk1
 have e2:(kind==2)=false:=beq_eq_false_iff_ne.2 hk2
 have e3:(kind==3)=false:=beq_eq_false_iff_ne.2 hk3
 have e4:(kind==4)=false:=beq_eq_false_iff_ne.2 hk4
 have e5:(kind==5)=false:=beq_eq_false_iff_ne.2 hk5
 have e6:(kind==6)=false:=beq_eq_false_iff_ne.2 hk6
 have e7:(kind==7)=false:=beq_eq_false_iff_ne.2 hk7
 have e8:(kind==8)=false:=beq_eq_false_iff_ne.2 hk8
 have e9:(kind==9)=false:=beq_eq_false_iff_ne.2 hk9
 have e10:(kind==10)=false:=beq_eq_false_iff_ne.2 hk10
 have e11:(kind==11)=false:=beq_eq_false_iff_ne.2 hk11
 have e12:(kind==12)=false:=beq_eq_false_iff_ne.2 hk12
 have e13:(kind==13)=false:=beq_eq_false_iff_ne.2 hk13
 have e14:(kind==14)=false:=beq_eq_false_iff_ne.2 hk14
 have e15:(kind==15)=false:=beq_eq_false_iff_ne.2 hk15
 have e16:(kind==16)=false:=beq_eq_false_iff_ne.2 hk16
 have e17:(kind==17)=false:=beq_eq_false_iff_ne.2 hk17
 have e18:(kind==18)=false:=beq_eq_false_iff_ne.2 hk18
 have e19:(kind==19)=false:=beq_eq_false_iff_ne.2 hk19
 clear HRR hk1 hk2 hk3 hk4 hk5 hk6 hk7 hk8 hk9 hk10 hk11 hk12 hk13 hk14 hk15 hk16 hk17 hk18 hk19
 go_enter Tryz.func222,Tryz.ntmps222
 go_upto_region 1 with fail
 rw[←HW1.out]
 go_wp2_with fail
 go_ret
 exact⟨retB HE.out.symm,C1.out⟩
theorem fitsd_any (x:Nd) (k part:Int) (w:World):Calls Tryz.prog 223 #[.agg (ndC x).toArray, .int .i64 k, .int .i64 part] w fun e w'=>e= .returned (.bool (fitsB x.p k part))∧Chg [] w w':=by
 obtain⟨R,hR⟩:∃R,R=fitsB x.p k part:=⟨_,rfl⟩
 rw[←hR]
 have HR:=LH hR
 have ST:=LH (fun w'=>statement_any part w')
 have EX:=LH (fun w'=>expression_any part w')
 clear hR
 obtain⟨W1,hW1⟩:∃W1,W1=w.alloc (ndO x):=⟨_,rfl⟩
 have C1:=LH (show Chg [] w W1 by rw[hW1];exact(Chg.refl _ _).alloc _)
 have B1:=LH (show W1.heap[w.heap.size]? =some (ndO x) by rw[hW1];exact heap_alloc_new _ _)
 obtain⟨kind,text,n,ka,kc,keys,da,dc,kids⟩:=x
 unfold ndO at hW1 B1
 simp only at hW1 B1
 have HW1:=LH hW1
 have k1:=blk_cell B1.out
 simp only[ndC]
 clear hW1
 have HRR:=LH (show R=fitsB ⟨kind,text,n,keys,kids⟩ k part from HR.out)
 clear HR
 by_cases hk19:kind=19
 ·subst hk19
  have HE:=LH (show R=sStatB part by rw[HRR.out];unfold fitsB;simp)
  clear HRR
  generalize sStatB part=q at*
  go_enter Tryz.func223,Tryz.ntmps223
  go_upto_region 1 with fail
  rw[←HW1.out]
  go_wp2_with (go_at_call 280;(with_reducible refine Calls.mono (ST.out _) ?_);rintro e w2 ⟨rfl,rfl⟩)
  go_ret
  exact⟨retB HE.out.symm,C1.out⟩
 by_cases hk15:kind=15
 ·subst hk15
  by_cases h0:0<k
  ·have HE:=LH (show R=(part==19) by rw[HRR.out];unfold fitsB;simp[h0])
   clear HRR
   go_enter Tryz.func223,Tryz.ntmps223
   go_upto_region 1 with fail
   rw[←HW1.out]
   go_wp2_with fail
   go_ret
   exact⟨retB HE.out.symm,C1.out⟩
  ·have HE:=LH (show R=sExprB part by rw[HRR.out];unfold fitsB;simp[h0])
   have h0':k≤0:=by omega
   clear HRR h0
   generalize sExprB part=q at*
   go_enter Tryz.func223,Tryz.ntmps223
   go_upto_region 1 with fail
   rw[←HW1.out]
   go_wp2_with (go_at_call 281;(with_reducible refine Calls.mono (EX.out _) ?_);rintro e w2 ⟨rfl,rfl⟩)
   go_ret
   exact⟨retB HE.out.symm,C1.out⟩
 by_cases hk16:kind=16
 ·subst hk16
  by_cases h0:0<k
  ·have HE:=LH (show R=(part==19) by rw[HRR.out];unfold fitsB;simp[h0])
   clear HRR
   go_enter Tryz.func223,Tryz.ntmps223
   go_upto_region 1 with fail
   rw[←HW1.out]
   go_wp2_with fail
   go_ret
   exact⟨retB HE.out.symm,C1.out⟩
  ·have HE:=LH (show R=sExprB part by rw[HRR.out];unfold fitsB;simp[h0])
   have h0':k≤0:=by omega
   clear HRR h0
   generalize sExprB part=q at*
   go_enter Tryz.func223,Tryz.ntmps223
   go_upto_region 1 with fail
   rw[←HW1.out]
   go_wp2_with (go_at_call 281;(with_reducible refine Calls.mono (EX.out _) ?_);rintro e w2 ⟨rfl,rfl⟩)
   go_ret
   exact⟨retB HE.out.symm,C1.out⟩
 have HE:=LH (show R=sExprB part by rw[HRR.out];unfold fitsB;rw[if_neg hk19,if_neg (by simp[hk15,hk16])])
 have e19:(kind==19)=false:=beq_eq_false_iff_ne.2 hk19
 have e15:(kind==15)=false:=beq_eq_false_iff_ne.2 hk15
 have e16:(kind==16)=false:=beq_eq_false_iff_ne.2 hk16
 clear HRR hk19 hk15 hk16
 generalize sExprB part=q at*
 go_enter Tryz.func223,Tryz.ntmps223
 go_upto_region 1 with fail
 rw[←HW1.out]
 go_wp2_with (go_at_call 281;(with_reducible refine Calls.mono (EX.out _) ?_);rintro e w2 ⟨rfl,rfl⟩)
 go_ret
 exact⟨retB HE.out.symm,C1.out⟩
end
end Go.Proofs.YtmofknmeljdodaaGreatDoor
