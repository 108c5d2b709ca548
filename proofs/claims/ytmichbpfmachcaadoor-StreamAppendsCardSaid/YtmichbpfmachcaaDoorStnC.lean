/- Chapter 30: StreamAppends' region that appends an event to the list of its shard. Condition: what lies where. -/
import Derived.Test.YtmichbpfmachcaaDoorStnA
import Derived.Test.YtmichbpfmachcaaDoorRor
namespace Go.Proofs.YtmichbpfmachcaaDoor
set_option linter.unusedVariables false
set_option linter.unusedSimpArgs false
open Go.RowKit
theorem evInfo : (Tryd.prog.info? 25).map (fun i => (i.zero, i.size, i.bytes)) = some (some (.agg #[.string ⟨#[]⟩, .string ⟨#[]⟩, .string ⟨#[]⟩, .string ⟨#[]⟩, .int .i64 0, .string ⟨#[]⟩, .slice none 0 0]), 7, 112) := by kernel_rfl
/-- An event's cells in a slice of operations. -/
def EvAt (w' : World) (g o : Nat) (e : Ev) : Prop := w'.cell? ⟨g, o + 1, none⟩ = some (.string e.p.id) ∧ w'.cell? ⟨g, o + 2, none⟩ = some (.string e.p.tn) ∧ w'.cell? ⟨g, o + 3, none⟩ = some (.string e.p.src) ∧ w'.cell? ⟨g, o + 4, none⟩ = some (.string e.p.key) ∧ w'.cell? ⟨g, o + 5, none⟩ = some (.int .i64 e.p.at_) ∧ w'.cell? ⟨g, o + 6, none⟩ = some (.string e.p.cause) ∧ w'.cell? ⟨g, o + 7, none⟩ = some (.slice e.ba e.p.body.length e.bc)
structure ApdE (wc wy : World) (v : Value) (L : List Ev) (e : Ev) (a' : Option Addr) (c' : Nat) : Prop where
  row : RowOf evC 7 wy 0 25 (.slice a' (L ++ [e]).length c') (L ++ [e])
  chg : Chg v.ownBlock.toList wc wy
  lies : ∀ x, (Value.slice a' (L ++ [e]).length c').ownBlock = some x → v.ownBlock = some x ∨ wc.heap.size ≤ x
set_option maxHeartbeats 16000000 in
set_option maxRecDepth 100000 in
theorem apps_r15 {z0 z1 z3 z4 z5 z6 z7 z8 z9 z13 z14 z15 z16 z17 z18 z19 z20 z21 z22 z23 z24 z25 z26 z27 z28 z29 z30 z31 z32 z33 z34 z35 z36 z37 z38 z39 z40 z41 z42 z43 z44 z45 z46 z47 z48 z49 z50 z51 z52 z53 z54 z55 z56 z57 z58 z59 z60 z61 z62 z63 z64 z65 z66 z67 z68 z69 z70 z71 z72 z73 z74 z75 z76 z77 z78 z79 z80 z81 z82 z83 z84 z85 z86 z87 z88 z89 z90 z91 z92 z93 z94 z95 z96 z97 z98 z99 z100 z101 z102 z103 z104 z105 z106 z107 z108 z109 z110 z111 z112 z113 z114 z115 z116 z117 z118 z119 z120 z121 z122 z123 z124 z125 z126 z127 z128 z129 z130 z131 z132 z133 z134 z135 z136 z137 z138 z139 z140 z141 z142 z143 z144 z145 z146 z147 z148 z149 z150 z151 z152 z153 z154 z155 z156 z157 z158 z159 z160 z161 z162 z163 z164 z165 z166 z167 z168 z169 z170 z171 z172 z173 z174 z175 z176 z177 z178 z179 z180 z181 z182 z183 z184 z185 z186 z187 z188 z189 z190 z191 z192 z193 z194 z195 z196 z197 z198 z199 z200 z201 z202 z203 z204 z205 z206 z207 z208 z209 z210 z211 z212 z213 z214 z215 z216 z217 z218 z219 z220 z221 z222 z223 z224 z225 z226 z227 z228 z229 z230 z231 z232 z233 z234 z235 z236 z237 z238 z239 z240 z241 z242 z243 z244 z245 z246 z247 z248 z249 z250 : Value} {g1 o0 o1 g k n i nl cap0 c : Nat} {a : Option Addr} {wc : World} {e : Ev} {L : List Ev} {cur : Array Value} {ops : Array Oper} (hops : ops = rgnF Tryd.f5 15)
    (HS : Hid (∀ w', Chg (g :: (Value.slice a L.length c).ownBlock.toList) wc w' → EvAt w' g1 o1 e)) (ho : o1 = o0 + i * 12) (hi : (i : Int) < (nl : Int)) (hk : (k : Int) < (n : Int)) (hi0 : 0 ≤ (i : Int)) (hk0 : 0 ≤ (k : Int))
    (X6 : Hid (wc.heap[g]? = some (.cells cur 50 (0, 0)))) (hcur : cur[k]? = some (.slice a L.length c)) (HN : Hid ((Value.slice a L.length c).ownBlock ≠ some g)) (R : Hid (RowOf evC 7 wc 0 25 (.slice a L.length c) L)) (hL : L.length ≤ 256) (Q : Exit → Act → World → Prop)
    (hQ : ∀ y107 y108 y109 y110 y111 y112 y113 y114 y115 y116 y117 y118 y119 y120 wy a' c', Hid (ApdE wc wy (.slice a L.length c) L e a' c') → Q .normal ⟨#[z0, z1, .slice (some ⟨g1, o0, none⟩) nl cap0, z3, z4, z5, z6, z7, z8, z9, .slice (some ⟨g, 0, none⟩) n n, .int .i64 i, .int .i64 k, z13, z14, z15, z16, z17, z18, z19, z20, z21, z22, z23, z24, z25, z26, z27, z28, z29, z30, z31, z32, z33, z34, z35, z36, z37, z38, z39, z40, z41, z42, z43, z44, z45, z46, z47, z48, z49, z50, z51, z52, z53, z54, z55, z56, z57, z58, z59, z60, z61, z62, z63, z64, z65, z66, z67, z68, z69, z70, z71, z72, z73, z74, z75, z76, z77, z78, z79, z80, z81, z82, z83, z84, z85, z86, z87, z88, z89, z90, z91, z92, z93, z94, z95, z96, z97, z98, z99, z100, z101, z102, z103, z104, z105, z106, y107, y108, y109, y110, y111, y112, y113, y114, y115, y116, y117, y118, y119, y120, z121, z122, z123, z124, z125, z126, z127, z128, z129, z130, z131, z132, z133, z134, z135, z136, z137, z138, z139, z140, z141, z142, z143, z144, z145, z146, z147, z148, z149, z150, z151, z152, z153, z154, z155, z156, z157, z158, z159, z160, z161, z162, z163, z164, z165, z166, z167, z168, z169, z170, z171, z172, z173, z174, z175, z176, z177, z178, z179, z180, z181, z182, z183, z184, z185, z186, z187, z188, z189, z190, z191, z192, z193, z194, z195, z196, z197, z198, z199, z200, z201, z202, z203, z204, z205, z206, z207, z208, z209, z210, z211, z212, z213, z214, z215, z216, z217, z218, z219, z220, z221, z222, z223, z224, z225, z226, z227, z228, z229, z230, z231, z232, z233, z234, z235, z236, z237, z238, z239, z240, z241, z242, z243, z244, z245, z246, z247, z248, z249, z250], []⟩ (wy.setCell ⟨g, k, none⟩ (.slice a' (L.length + 1) c'))) :
    (Code.region 15 ops true).wp Tryd.prog Q ⟨#[z0, z1, .slice (some ⟨g1, o0, none⟩) nl cap0, z3, z4, z5, z6, z7, z8, z9, .slice (some ⟨g, 0, none⟩) n n, .int .i64 i, .int .i64 k, z13, z14, z15, z16, z17, z18, z19, z20, z21, z22, z23, z24, z25, z26, z27, z28, z29, z30, z31, z32, z33, z34, z35, z36, z37, z38, z39, z40, z41, z42, z43, z44, z45, z46, z47, z48, z49, z50, z51, z52, z53, z54, z55, z56, z57, z58, z59, z60, z61, z62, z63, z64, z65, z66, z67, z68, z69, z70, z71, z72, z73, z74, z75, z76, z77, z78, z79, z80, z81, z82, z83, z84, z85, z86, z87, z88, z89, z90, z91, z92, z93, z94, z95, z96, z97, z98, z99, z100, z101, z102, z103, z104, z105, z106, z107, z108, z109, z110, z111, z112, z113, z114, z115, z116, z117, z118, z119, z120, z121, z122, z123, z124, z125, z126, z127, z128, z129, z130, z131, z132, z133, z134, z135, z136, z137, z138, z139, z140, z141, z142, z143, z144, z145, z146, z147, z148, z149, z150, z151, z152, z153, z154, z155, z156, z157, z158, z159, z160, z161, z162, z163, z164, z165, z166, z167, z168, z169, z170, z171, z172, z173, z174, z175, z176, z177, z178, z179, z180, z181, z182, z183, z184, z185, z186, z187, z188, z189, z190, z191, z192, z193, z194, z195, z196, z197, z198, z199, z200, z201, z202, z203, z204, z205, z206, z207, z208, z209, z210, z211, z212, z213, z214, z215, z216, z217, z218, z219, z220, z221, z222, z223, z224, z225, z226, z227, z228, z229, z230, z231, z232, z233, z234, z235, z236, z237, z238, z239, z240, z241, z242, z243, z244, z245, z246, z247, z248, z249, z250], []⟩ wc := by
  subst ho
  subst hops
  simp only [rgnF, Tryd.f5, Option.bind_some, rgn, Nat.reduceEqDiff, ↓reduceIte, Option.orElse_some, Option.orElse_none, Option.getD_some, Option.orElse]
  refine wp_region_noPanic ?_
  obtain ⟨wd, hwd⟩ : ∃ wd, wd = wc.drew := ⟨_, rfl⟩
  have D0 := Lib.hid (show Chg [] wc wd by rw [hwd]; exact (Chg.refl _ _).drew)
  have Y0 := Lib.hid (show EvAt wd g1 (o0 + i * 12) e from HS.out wd (D0.out.mono (by simp)))
  refine wp_region_held_drew (S := (fun w' => EvAt w' g1 (o0 + i * 12) e)) (by kernel_rfl) (by rw [← hwd]; exact Y0.out) (fun hHeld => ?_)
  rw [← hwd] at hHeld ⊢
  clear hwd
  have c6 := (blk_cell (D0.out.at (by simp) X6.out) k).trans hcur
  unfold EvAt at *
  refine wpAnyH_take (i := 0) (oi := _) (v := ?vA_0) rfl (by kernel_rfl) (by kernel_rfl) (by kernel_rfl) (fun _ _ _ h => h) (Or.inl ⟨by rfl, ?yA_0⟩) hHeld ?rA_0
  case yA_0 => (intro w hSw; (try dsimp only at hSw); (try simp only [List.getElem_toArray, List.getElem_cons_zero, List.getElem_cons_succ]); go_simp <;> with_reducible rfl)
  (try simp only [List.getElem_toArray, List.getElem_cons_zero, List.getElem_cons_succ, Act.put, List.setIfInBounds_toArray, List.set_cons_zero, List.set_cons_succ])
  refine wpAnyH_take (i := 1) (oi := _) (v := ?vA_1) rfl (by kernel_rfl) (by kernel_rfl) (by kernel_rfl) (fun _ _ _ h => h) (Or.inl ⟨by rfl, ?yA_1⟩) hHeld ?rA_1
  case yA_1 => (intro w hSw; (try dsimp only at hSw); (try simp only [List.getElem_toArray, List.getElem_cons_zero, List.getElem_cons_succ]); go_simp <;> with_reducible rfl)
  (try simp only [List.getElem_toArray, List.getElem_cons_zero, List.getElem_cons_succ, Act.put, List.setIfInBounds_toArray, List.set_cons_zero, List.set_cons_succ])
  refine wpAnyH_take (i := 2) (oi := _) (v := ?vA_2) rfl (by kernel_rfl) (by kernel_rfl) (by kernel_rfl) (fun _ _ _ h => h) (Or.inl ⟨by rfl, ?yA_2⟩) hHeld ?rA_2
  case yA_2 => (intro w hSw; (try dsimp only at hSw); (try simp only [List.getElem_toArray, List.getElem_cons_zero, List.getElem_cons_succ]); go_simp <;> with_reducible rfl)
  (try simp only [List.getElem_toArray, List.getElem_cons_zero, List.getElem_cons_succ, Act.put, List.setIfInBounds_toArray, List.set_cons_zero, List.set_cons_succ])
  refine wpAnyH_take (i := 3) (oi := _) (v := ?vA_3) rfl (by kernel_rfl) (by kernel_rfl) (by kernel_rfl) (fun _ _ _ h => h) (Or.inl ⟨by rfl, ?yA_3⟩) hHeld ?rA_3
  case yA_3 => (intro w hSw; (try dsimp only at hSw); (try simp only [List.getElem_toArray, List.getElem_cons_zero, List.getElem_cons_succ]); go_simp <;> with_reducible rfl)
  (try simp only [List.getElem_toArray, List.getElem_cons_zero, List.getElem_cons_succ, Act.put, List.setIfInBounds_toArray, List.set_cons_zero, List.set_cons_succ])
  refine wpAnyH_take (i := 4) (oi := _) (v := ?vA_4) rfl (by kernel_rfl) (by kernel_rfl) (by kernel_rfl) (fun _ _ _ h => h) (Or.inl ⟨by rfl, ?yA_4⟩) hHeld ?rA_4
  case yA_4 => (intro w hSw; (try dsimp only at hSw); (try simp only [List.getElem_toArray, List.getElem_cons_zero, List.getElem_cons_succ]); go_simp <;> with_reducible rfl)
  (try simp only [List.getElem_toArray, List.getElem_cons_zero, List.getElem_cons_succ, Act.put, List.setIfInBounds_toArray, List.set_cons_zero, List.set_cons_succ])
  refine wpAnyH_take (i := 6) (oi := _) (v := ?vA_6) rfl (by kernel_rfl) (by kernel_rfl) (by kernel_rfl) (fun _ _ _ h => h) (Or.inl ⟨by rfl, ?yA_6⟩) hHeld ?rA_6
  case yA_6 => (intro w hSw; (try dsimp only at hSw); (try simp only [List.getElem_toArray, List.getElem_cons_zero, List.getElem_cons_succ]); go_simp <;> with_reducible rfl)
  (try simp only [List.getElem_toArray, List.getElem_cons_zero, List.getElem_cons_succ, Act.put, List.setIfInBounds_toArray, List.set_cons_zero, List.set_cons_succ])
  refine wpAnyH_take (i := 7) (oi := _) (v := ?vA_7) rfl (by kernel_rfl) (by kernel_rfl) (by kernel_rfl) (fun _ _ _ h => h) (Or.inl ⟨by rfl, ?yA_7⟩) hHeld ?rA_7
  case yA_7 => (intro w hSw; (try dsimp only at hSw); (try simp only [List.getElem_toArray, List.getElem_cons_zero, List.getElem_cons_succ]); go_simp <;> with_reducible rfl)
  (try simp only [List.getElem_toArray, List.getElem_cons_zero, List.getElem_cons_succ, Act.put, List.setIfInBounds_toArray, List.set_cons_zero, List.set_cons_succ])
  refine wpAnyH_take (i := 8) (oi := _) (v := ?vA_8) rfl (by kernel_rfl) (by kernel_rfl) (by kernel_rfl) (fun _ _ _ h => h) (Or.inl ⟨by rfl, ?yA_8⟩) hHeld ?rA_8
  case yA_8 => (intro w hSw; (try dsimp only at hSw); (try simp only [List.getElem_toArray, List.getElem_cons_zero, List.getElem_cons_succ]); go_simp <;> with_reducible rfl)
  (try simp only [List.getElem_toArray, List.getElem_cons_zero, List.getElem_cons_succ, Act.put, List.setIfInBounds_toArray, List.set_cons_zero, List.set_cons_succ])
  refine wpAnyH_take (i := 9) (oi := _) (v := ?vA_9) rfl (by kernel_rfl) (by kernel_rfl) (by kernel_rfl) (fun _ _ _ h => h) (Or.inl ⟨by rfl, ?yA_9⟩) hHeld ?rA_9
  case yA_9 => (intro w hSw; (try dsimp only at hSw); (try simp only [List.getElem_toArray, List.getElem_cons_zero, List.getElem_cons_succ]); go_simp <;> with_reducible rfl)
  (try simp only [List.getElem_toArray, List.getElem_cons_zero, List.getElem_cons_succ, Act.put, List.setIfInBounds_toArray, List.set_cons_zero, List.set_cons_succ])
  refine wpAnyH_take (i := 10) (oi := _) (v := ?vA_10) rfl (by kernel_rfl) (by kernel_rfl) (by kernel_rfl) (fun _ _ _ h => h) (Or.inl ⟨by rfl, ?yA_10⟩) hHeld ?rA_10
  case yA_10 => (intro w hSw; (try dsimp only at hSw); (try simp only [List.getElem_toArray, List.getElem_cons_zero, List.getElem_cons_succ]); go_simp <;> with_reducible rfl)
  (try simp only [List.getElem_toArray, List.getElem_cons_zero, List.getElem_cons_succ, Act.put, List.setIfInBounds_toArray, List.set_cons_zero, List.set_cons_succ])
  refine wpAnyH_ready (rs := [5, 11]) (by kernel_rfl) (by simp) ?_
  refine AllReadyH.cons (o := _) rfl (fun K hK => ?_) (AllReadyH.cons (o := _) rfl (fun K hK => ?_) AllReadyH.nil)
  ·
    (try simp only [List.getElem_toArray, List.getElem_cons_zero, List.getElem_cons_succ])
    go_simp
    skip
    refine hK.out _ _ ?_ (fun hHeld => ?_)
    exact Y0.out
    clear hK K
    (try simp only [List.getElem_toArray, List.getElem_cons_zero, List.getElem_cons_succ, Act.put, List.setIfInBounds_toArray, List.set_cons_zero, List.set_cons_succ])
    refine wpAnyH_ready (rs := [11]) (by kernel_rfl) (by simp) ?_
    refine AllReadyH.cons (o := _) rfl (fun K hK => ?_) AllReadyH.nil
    (try simp only [List.getElem_toArray, List.getElem_cons_zero, List.getElem_cons_succ])
    go_simp
    skip
    refine hK.out _ _ ?_ (fun hHeld => ?_)
    exact HS.out _ (((D0.out.alloc _)).mono (by simp))
    clear hK K
    (try simp only [List.getElem_toArray, List.getElem_cons_zero, List.getElem_cons_succ, Act.put, List.setIfInBounds_toArray, List.set_cons_zero, List.set_cons_succ])
    have N4 := Lib.hid (heap_alloc_new wd (.cells #[.string e.p.id, .string e.p.tn, .string e.p.src, .string e.p.key, .int .i64 e.p.at_, .string e.p.cause, .slice e.ba e.p.body.length e.bc] 25))
    have K4 := Lib.hid ((Chg.refl [] wd).alloc (.cells #[.string e.p.id, .string e.p.tn, .string e.p.src, .string e.p.key, .int .i64 e.p.at_, .string e.p.cause, .slice e.ba e.p.body.length e.bc] 25))
    have R4 := Lib.hid ((R.out.kept D0.out (by simp)).kept K4.out (by simp))
    have hB : wc.heap.size ≤ wd.heap.size := D0.out.size
    have hB2 := K4.out.size
    have Z4 := Lib.hid (show EvAt (wd.alloc (.cells #[.string e.p.id, .string e.p.tn, .string e.p.src, .string e.p.key, .int .i64 e.p.at_, .string e.p.cause, .slice e.ba e.p.body.length e.bc] 25)) g1 (o0 + i * 12) e from HS.out _ ((D0.out.thenSame K4.out).mono (by simp)))
    refine wpAnyH_ready (rs := [12]) (by kernel_rfl) (by simp) ?_
    refine AllReadyH.cons (o := _) rfl (fun K hK => ?_) AllReadyH.nil
    (try simp only [List.getElem_toArray, List.getElem_cons_zero, List.getElem_cons_succ])
    refine step_list rfl ?_
    (refine wpl_appendL rfl _ _ 50 rfl 0 25 _ 112 Tryd.underlying50 evInfo rfl (by decide) evC_len evC_one (.slice a L.length c) L rfl R4.out _ 1 e _ _ _ rfl N4.out rfl (by unfold maxLen; omega) (by omega) (Nat.zero_le _) ?_; intro g' cap w5 hr5 hg5 ho5 hl5; have K5 := Lib.hid (Chg.ofRow (v := .slice a L.length c) hg5); have R5 := Lib.hid hr5; have O5 := Lib.hid ho5; have V4 := Lib.hid (show EvAt w5 g1 (o0 + i * 12) e from HS.out _ (((D0.out.thenSame K4.out).mono (by simp)).then K5.out (fun x hx _ => List.mem_cons_of_mem _ hx))); have V6 := Lib.hid (K5.out.at (fun hm => HN.out (by simpa using hm)) (K4.out.at (by simp) (D0.out.at (by simp) X6.out))); have V7 := Lib.hid (HS.out _ ((((D0.out.thenSame K4.out).mono (by simp)).then K5.out (fun x hx _ => List.mem_cons_of_mem _ hx)).thenSame (((Chg.refl [g] w5).setCell ⟨g, k, none⟩ (.slice (some ⟨g', 0, none⟩) (L.length + 1) cap) (by simp)).mono (by simp)))); clear hr5 hg5 ho5)
    refine ⟨rfl, hK.out _ _ ?_ (fun hHeld => ?_)⟩
    exact V4.out
    clear hK K
    (try simp only [List.getElem_toArray, List.getElem_cons_zero, List.getElem_cons_succ, Act.put, List.setIfInBounds_toArray, List.set_cons_zero, List.set_cons_succ])
    have v6 := blk_cell V6.out
    have f6 := blk_free V6.out
    have m6 := lt_of_heap V6.out
    refine wpAnyH_take (i := 13) (oi := _) (v := ?vB_13) rfl (by kernel_rfl) (by kernel_rfl) (by kernel_rfl) (fun _ _ _ h => h) (Or.inl ⟨by rfl, ?yB_13⟩) hHeld ?rB_13
    case yB_13 => (intro w hSw; (try dsimp only at hSw); (try simp only [List.getElem_toArray, List.getElem_cons_zero, List.getElem_cons_succ]); go_simp <;> with_reducible rfl)
    (try simp only [List.getElem_toArray, List.getElem_cons_zero, List.getElem_cons_succ, Act.put, List.setIfInBounds_toArray, List.set_cons_zero, List.set_cons_succ])
    refine wpAnyH_ready (rs := [14]) (by kernel_rfl) (by simp) ?_
    refine AllReadyH.cons (o := _) rfl (fun K hK => ?_) AllReadyH.nil
    (try simp only [List.getElem_toArray, List.getElem_cons_zero, List.getElem_cons_succ])
    go_simp
    skip
    refine hK.out _ _ ?_ (fun hHeld => ?_)
    exact V7.out
    clear hK K
    (try simp only [List.getElem_toArray, List.getElem_cons_zero, List.getElem_cons_succ, Act.put, List.setIfInBounds_toArray, List.set_cons_zero, List.set_cons_succ])
    refine wpAnyH_done (by kernel_rfl) ?_ _
    refine NoPanic.normal ?_
    refine hQ _ _ _ _ _ _ _ _ _ _ _ _ _ _ w5 (some ⟨g', 0, none⟩) cap (Lib.hid ⟨by rw [List.length_append]; exact R5.out, ?_, ?_⟩)
    · exact ((D0.out.thenSame K4.out).mono (by simp)).then K5.out (fun x hx _ => hx)
    · intro x hx
      cases hx
      rcases O5.out with h | h
      · exact .inl h
      · exact .inr (Nat.le_trans hB (Nat.le_trans hB2 (Nat.le_of_eq h.symm)))
  ·
    (try simp only [List.getElem_toArray, List.getElem_cons_zero, List.getElem_cons_succ])
    go_simp
    skip
    refine hK.out _ _ ?_ (fun hHeld => ?_)
    exact HS.out _ (((D0.out.alloc _)).mono (by simp))
    clear hK K
    (try simp only [List.getElem_toArray, List.getElem_cons_zero, List.getElem_cons_succ, Act.put, List.setIfInBounds_toArray, List.set_cons_zero, List.set_cons_succ])
    have c7 := (blk_cell (blk_alloc (o' := (.cells #[.string e.p.id, .string e.p.tn, .string e.p.src, .string e.p.key, .int .i64 e.p.at_, .string e.p.cause, .slice e.ba e.p.body.length e.bc] 25)) (D0.out.at (by simp) X6.out)) k).trans hcur
    refine wpAnyH_ready (rs := [5]) (by kernel_rfl) (by simp) ?_
    refine AllReadyH.cons (o := _) rfl (fun K hK => ?_) AllReadyH.nil
    (try simp only [List.getElem_toArray, List.getElem_cons_zero, List.getElem_cons_succ])
    go_simp
    skip
    refine hK.out _ _ ?_ (fun hHeld => ?_)
    exact HS.out _ (((D0.out.alloc _)).mono (by simp))
    clear hK K
    (try simp only [List.getElem_toArray, List.getElem_cons_zero, List.getElem_cons_succ, Act.put, List.setIfInBounds_toArray, List.set_cons_zero, List.set_cons_succ])
    have N4 := Lib.hid (heap_alloc_new wd (.cells #[.string e.p.id, .string e.p.tn, .string e.p.src, .string e.p.key, .int .i64 e.p.at_, .string e.p.cause, .slice e.ba e.p.body.length e.bc] 25))
    have K4 := Lib.hid ((Chg.refl [] wd).alloc (.cells #[.string e.p.id, .string e.p.tn, .string e.p.src, .string e.p.key, .int .i64 e.p.at_, .string e.p.cause, .slice e.ba e.p.body.length e.bc] 25))
    have R4 := Lib.hid ((R.out.kept D0.out (by simp)).kept K4.out (by simp))
    have hB : wc.heap.size ≤ wd.heap.size := D0.out.size
    have hB2 := K4.out.size
    have Z4 := Lib.hid (show EvAt (wd.alloc (.cells #[.string e.p.id, .string e.p.tn, .string e.p.src, .string e.p.key, .int .i64 e.p.at_, .string e.p.cause, .slice e.ba e.p.body.length e.bc] 25)) g1 (o0 + i * 12) e from HS.out _ ((D0.out.thenSame K4.out).mono (by simp)))
    refine wpAnyH_ready (rs := [12]) (by kernel_rfl) (by simp) ?_
    refine AllReadyH.cons (o := _) rfl (fun K hK => ?_) AllReadyH.nil
    (try simp only [List.getElem_toArray, List.getElem_cons_zero, List.getElem_cons_succ])
    refine step_list rfl ?_
    (refine wpl_appendL rfl _ _ 50 rfl 0 25 _ 112 Tryd.underlying50 evInfo rfl (by decide) evC_len evC_one (.slice a L.length c) L rfl R4.out _ 1 e _ _ _ rfl N4.out rfl (by unfold maxLen; omega) (by omega) (Nat.zero_le _) ?_; intro g' cap w5 hr5 hg5 ho5 hl5; have K5 := Lib.hid (Chg.ofRow (v := .slice a L.length c) hg5); have R5 := Lib.hid hr5; have O5 := Lib.hid ho5; have V4 := Lib.hid (show EvAt w5 g1 (o0 + i * 12) e from HS.out _ (((D0.out.thenSame K4.out).mono (by simp)).then K5.out (fun x hx _ => List.mem_cons_of_mem _ hx))); have V6 := Lib.hid (K5.out.at (fun hm => HN.out (by simpa using hm)) (K4.out.at (by simp) (D0.out.at (by simp) X6.out))); have V7 := Lib.hid (HS.out _ ((((D0.out.thenSame K4.out).mono (by simp)).then K5.out (fun x hx _ => List.mem_cons_of_mem _ hx)).thenSame (((Chg.refl [g] w5).setCell ⟨g, k, none⟩ (.slice (some ⟨g', 0, none⟩) (L.length + 1) cap) (by simp)).mono (by simp)))); clear hr5 hg5 ho5)
    refine ⟨rfl, hK.out _ _ ?_ (fun hHeld => ?_)⟩
    exact V4.out
    clear hK K
    (try simp only [List.getElem_toArray, List.getElem_cons_zero, List.getElem_cons_succ, Act.put, List.setIfInBounds_toArray, List.set_cons_zero, List.set_cons_succ])
    have v6 := blk_cell V6.out
    have f6 := blk_free V6.out
    have m6 := lt_of_heap V6.out
    refine wpAnyH_take (i := 13) (oi := _) (v := ?vC_13) rfl (by kernel_rfl) (by kernel_rfl) (by kernel_rfl) (fun _ _ _ h => h) (Or.inl ⟨by rfl, ?yC_13⟩) hHeld ?rC_13
    case yC_13 => (intro w hSw; (try dsimp only at hSw); (try simp only [List.getElem_toArray, List.getElem_cons_zero, List.getElem_cons_succ]); go_simp <;> with_reducible rfl)
    (try simp only [List.getElem_toArray, List.getElem_cons_zero, List.getElem_cons_succ, Act.put, List.setIfInBounds_toArray, List.set_cons_zero, List.set_cons_succ])
    refine wpAnyH_ready (rs := [14]) (by kernel_rfl) (by simp) ?_
    refine AllReadyH.cons (o := _) rfl (fun K hK => ?_) AllReadyH.nil
    (try simp only [List.getElem_toArray, List.getElem_cons_zero, List.getElem_cons_succ])
    go_simp
    skip
    refine hK.out _ _ ?_ (fun hHeld => ?_)
    exact V7.out
    clear hK K
    (try simp only [List.getElem_toArray, List.getElem_cons_zero, List.getElem_cons_succ, Act.put, List.setIfInBounds_toArray, List.set_cons_zero, List.set_cons_succ])
    refine wpAnyH_done (by kernel_rfl) ?_ _
    refine NoPanic.normal ?_
    refine hQ _ _ _ _ _ _ _ _ _ _ _ _ _ _ w5 (some ⟨g', 0, none⟩) cap (Lib.hid ⟨by rw [List.length_append]; exact R5.out, ?_, ?_⟩)
    · exact ((D0.out.thenSame K4.out).mono (by simp)).then K5.out (fun x hx _ => hx)
    · intro x hx
      cases hx
      rcases O5.out with h | h
      · exact .inl h
      · exact .inr (Nat.le_trans hB (Nat.le_trans hB2 (Nat.le_of_eq h.symm)))
end Go.Proofs.YtmichbpfmachcaaDoor
