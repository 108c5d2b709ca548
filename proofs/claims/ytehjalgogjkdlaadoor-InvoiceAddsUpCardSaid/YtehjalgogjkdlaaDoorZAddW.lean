/- Chapter 54: the walk of InvoiceAddsUp. Condition: the table of Itoa lies as the program lays it. -/
import Derived.Test.YtehjalgogjkdlaaDoorZ08
import Derived.Test.YtehjalgogjkdlaaDoorZ31
namespace Go.Proofs.YtehjalgogjkdlaaDoor
set_option linter.unusedVariables false
set_option linter.unusedSimpArgs false
open Go.RowKit
theorem sl_get {w w' : World} {a : Option Addr} {n : Nat} {l : List Int} (h : SlIs icI 1 w a n l) (hc : Chg [] w w') {i : Nat} (hi : i < l.length) : ∃ b o, a = some ⟨b, o, none⟩ ∧ b < w'.heap.size ∧ w'.cell? ⟨b, o + i, none⟩ = some (.int .i64 (l.getD i 0)) := by
  obtain ⟨b, o, e, -, g, d⟩ := h.elem hc i hi
  have d0 := d 0 (by omega)
  simp only [icI, List.getElem?_cons_zero, Nat.add_zero, Nat.mul_one] at d0
  refine ⟨b, o, e, g, ?_⟩
  rw [List.getD_eq_getElem?_getD, List.getElem?_eq_getElem hi]
  exact d0
theorem chg_cell {w w' : World} {b i : Nat} {v : Value} (hc : Chg [] w w') (hb : b < w.heap.size) (h : w.cell? ⟨b, i, none⟩ = some v) : w'.cell? ⟨b, i, none⟩ = some v := (World.cell?_of_block (w := w) (hc.block b hb (by simp))).trans h
theorem wrap_in {a : Int} (h : 0 ≤ a) (h1 : a ≤ 1000000000000) : IntKind.u64.wrap a = a := by rw [IntKind.wrap_u64]; omega
theorem getD_some {l : List Int} {i : Nat} (hi : i < l.length) : l[i]? = some (l.getD i 0) := by
  rw [List.getD_eq_getElem?_getD, List.getElem?_eq_getElem hi]; rfl
theorem getD_in {l : List Int} {i : Nat} (hi : i < l.length) : l.getD i 0 ∈ l := by
  rw [List.getD_eq_getElem?_getD, List.getElem?_eq_getElem hi]; exact List.getElem_mem hi
set_option maxHeartbeats 8000000 in
set_option maxRecDepth 100000 in
theorem addsup_walk (a0 : Int) (a1 : Option Addr) (len1 cap1 : Nat) (l1 : List Int) (w : World) (w0 : (Lit.int .i64 a0).wf = true) (w1 : l1.length = len1 ∧ InIs icI 1 w a1 cap1 l1 ∧ (∀ x ∈ l1, (Lit.int .i64 x).wf = true) ∧ len1 * 8 ≤ 140737488355328) (ht : TabW w) :
    Calls Tryd.prog 3 #[.int .i64 a0, .slice a1 len1 cap1] w fun e w' => e = .returned (.bool true) ∧ Below w.heap.size w w' := by
  obtain ⟨rfl, hI, -, h8⟩ := w1
  have HI := Lib.hid hI.1
  have HT := Lib.hid ht
  have hm : l1.length ≤ maxLen := by unfold maxLen; omega
  clear hI ht w0 h8
  by_cases he : (weighZ a0 l1).2 = 0
  · obtain ⟨⟨ht0, ht1⟩, -, hn, -, -, -⟩ := weigh_ok he
    have SO := Lib.hid (share_ok a0 a1 cap1 l1 w HI.out he)
    have AD := Lib.hid (fun O (hO : IsOrd (shR a0 l1) O) => adds_up hO he)
    clear he
    go_enter Tryd.func3, Tryd.ntmps3
    go_wp2_with fail
    refine SO.out.mono ?_; rintro e w3 ⟨s, O, rfl, hO, hIB, hs, hc3⟩
    have AU := Lib.hid (AD.out O hO)
    have HV := Lib.hid (ib_sl hIB)
    have LV := Lib.hid AU.out.len
    have C3 := Lib.hid hc3
    generalize shares a0 l1 O = V at *
    clear hO hIB hc3 SO AD
    go_wp2_with fail
    go_loopw [7, 8] (fun uv i wr => ∃ (k : Nat) (u : Int), i = .int .i64 k ∧ uv = .int .i64 u ∧ k ≤ l1.length ∧ Hid (u = (l1.take k).sum) ∧ Hid (Chg [] w3 wr)) (fun _ i _ => l1.length - (intOf i).toNat)
    case atStart => exact ⟨0, 0, rfl, rfl, Nat.zero_le _, Lib.hid rfl, Lib.hid (Chg.refl _ _)⟩
    case round =>
      obtain ⟨k, u, rfl, rfl, hk, HU, HC⟩ := hrel
      by_cases hkn : k < l1.length
      · have HU2 := Lib.hid (show u + l1.getD k 0 = (l1.take (k + 1)).sum by rw [sum_take1 (getD_some hkn), ← HU.out])
        have hu := sum_take_le AU.out.wn k
        have hu2 := sum_take_le AU.out.wn (k + 1)
        have hws := AU.out.ws
        rw [← HU.out] at hu
        rw [← HU2.out] at hu2
        obtain ⟨b1, o1, rfl, g1, d1⟩ := sl_get HI.out (C3.out.thenSame HC.out) (i := k) hkn
        generalize l1.getD k 0 = x at *
        have hk0 : (0 : Int) ≤ (k : Int) := by omega
        have hk1 : (k : Int) < (l1.length : Int) := by omega
        clear hk hkn
        go_wp2_with fail
        exact ⟨⟨k + 1, u + x, by go_num, rfl, by omega, HU2, HC⟩, by simp [intOf]; omega⟩
      · have hke : k = l1.length := by omega
        have hkn2 : ¬ (k : Int) < (l1.length : Int) := by omega
        have HS := Lib.hid (show u = l1.sum by rw [HU.out, hke, List.take_of_length_le (Nat.le_refl _)])
        have hws := AU.out.ws
        have hwn := sum_nn AU.out.wn
        rw [← HS.out] at hws hwn
        obtain ⟨w4, hw4⟩ : ∃ w4, w4 = wr := ⟨_, rfl⟩
        subst hw4
        clear hke hk hkn HU
        by_cases hz : u = 0
        · have AT := Lib.hid (show ∀ k, k < l1.length → ∃ q, mulDivZ a0 1 (l1.length : Int) = (q, 0) ∧ (0 ≤ q ∧ q ≤ 1000000000000) ∧ (V.getD k 0 = q ∨ (V.getD k 0 = q + 1 ∧ (IntKind.u64.wrap (a0 * 1) == IntKind.u64.wrap (q * (l1.length : Int))) = false)) from fun k hk => by
            obtain ⟨w', b, q, r1, r2, r3, -, -, r4, r5⟩ := AU.out.at' k hk
            rw [← HS.out, hz, if_pos rfl] at r1 r2
            subst r1 r2
            exact ⟨q, r3, r4, r5⟩)
          have CL := HC
          subst hz
          clear HC HS hwn hws
          go_wp2_with fail
          go_loopw [9, 10] (fun uv i wr => ∃ (k : Nat) (u : Int), i = .int .i64 k ∧ uv = .int .i64 u ∧ k ≤ l1.length ∧ Hid (u = (V.take k).sum) ∧ Hid (Chg [] w3 wr)) (fun _ i _ => l1.length - (intOf i).toNat)
          case atStart => exact ⟨0, 0, rfl, rfl, Nat.zero_le _, Lib.hid rfl, CL⟩
          case round =>
            obtain ⟨k, u, rfl, rfl, hk, HU, HC⟩ := hrel
            by_cases hkn : k < l1.length
            · have HU2 := Lib.hid (show u + V.getD k 0 = (V.take (k + 1)).sum by rw [sum_take1 (getD_some (by rw [LV.out]; exact hkn)), ← HU.out])
              have hu := sum_take_le AU.out.nn k
              have hu2 := sum_take_le AU.out.nn (k + 1)
              rw [← HU.out, AU.out.sum] at hu
              rw [← HU2.out, AU.out.sum] at hu2
              have MO := Lib.hid (fun m hm => AU.out.mono k m hkn hm)
              obtain ⟨q, hmd, hq, hvq⟩ := AT.out k hkn
              obtain ⟨b1, o1, rfl, g1, d1⟩ := sl_get HI.out (C3.out.thenSame HC.out) (i := k) hkn
              obtain ⟨b2, o2, e2, g2, d2⟩ := sl_get HV.out HC.out (i := k) (by rw [LV.out]; exact hkn)
              cases e2
              rw [Nat.zero_add] at d2
              have hx := AU.out.wn _ (getD_in hkn)
              have hx2 := mem_le_sum AU.out.wn (getD_in hkn)
              have hws := AU.out.ws
              have hx3 : l1.getD k 0 ≤ 1000000000000 := Int.le_trans hx2 hws
              have hv0 := AU.out.nn _ (getD_in (show k < V.length by rw [LV.out]; exact hkn))
              obtain ⟨x, hxe⟩ : ∃ x, x = l1.getD k 0 := ⟨_, rfl⟩
              obtain ⟨v, hve⟩ : ∃ v, v = V.getD k 0 := ⟨_, rfl⟩
              rw [← hxe] at hx hx3 d1
              try rw [← hxe] at hmd
              try rw [← hxe] at hvq
              rw [← hve] at HU2 hu2 d2 hv0 hvq
              have HX := Lib.hid hxe
              have HVV := Lib.hid hve
              have M := Lib.hid (fun w' => muldiv_any a0 (1 : Int) (l1.length : Int) w')
              have hM := M.out
              rw [hmd] at hM
              have M := Lib.hid hM
              have hk0 : (0 : Int) ≤ (k : Int) := by omega
              have hk1 : (k : Int) < (l1.length : Int) := by omega
              clear hx2 hws hxe hve hM hmd
              go_wp2_with fail
              refine (M.out _).mono ?_; rintro e w5 ⟨rfl, hc5⟩
              have D1 := Lib.hid (chg_cell hc5 g1 d1)
              have D2 := Lib.hid (chg_cell hc5 g2 d2)
              have C5 := Lib.hid (HC.out.thenSame hc5)
              have I5 := Lib.hid (HI.out.kept (C3.out.thenSame C5.out))
              have V5 := Lib.hid (HV.out.kept C5.out)
              have g7 := hc5.lt g1
              have g8 := hc5.lt g2
              have d1 := D1.out
              have d2 := D2.out
              clear hc5 g1 g2
              rcases hvq with p | ⟨p, p2⟩
              · have f5 : (v != q) = false := by rw [p]; simp
                clear p
                as_aux_lemma =>
                  go_wp2_with fail
                  go_loopw [16] (fun j wr => ∃ m : Nat, j = .int .i64 m ∧ m ≤ k ∧ Hid (Chg [] w5 wr)) (fun j _ => k - (intOf j).toNat)
                  case atStart => exact ⟨0, rfl, Nat.zero_le _, Lib.hid (Chg.refl _ _)⟩
                  case round =>
                    obtain ⟨m, rfl, hm, CC⟩ := hrel
                    by_cases hmk : m < k
                    · have hmo := MO.out m hmk
                      obtain ⟨b3, o3, e3, g3, d3⟩ := sl_get I5.out CC.out (i := m) (by omega)
                      obtain ⟨b4, o4, e4, g4, d4⟩ := sl_get V5.out CC.out (i := m) (by rw [LV.out]; omega)
                      obtain ⟨b5, o5, e5, g5, d5⟩ := sl_get I5.out CC.out (i := k) hkn
                      obtain ⟨b6, o6, e6, g6, d6⟩ := sl_get V5.out CC.out (i := k) (by rw [LV.out]; exact hkn)
                      cases e3
                      cases e4
                      cases e5
                      cases e6
                      rw [← HX.out] at d5 hmo
                      rw [← HVV.out] at d6 hmo
                      rw [Nat.zero_add] at d4 d6
                      generalize l1.getD m 0 = y at *
                      generalize V.getD m 0 = z at *
                      have hm0 : (0 : Int) ≤ (m : Int) := by omega
                      have hm1 : (m : Int) < (k : Int) := by omega
                      have hm2 : (m : Int) < (l1.length : Int) := by omega
                      clear g5 g6
                      rcases hmo with ⟨p, q⟩ | ⟨p, q⟩ | ⟨p, q⟩
                      · have f1 : decide (x < y) = true := decide_eq_true p
                        have f2 : decide (z < v) = false := decide_eq_false (by omega)
                        have f3 : decide (y < x) = false := decide_eq_false (by omega)
                        have f4 : (y == x) = false := by rw [beq_eq_false_iff_ne]; omega
                        clear p q
                        go_wp2_with fail
                        go_quiet (fail)
                        go_wp2_with fail
                        exact ⟨⟨m + 1, by go_num, by omega, Lib.hid (CC.out.drewN _)⟩, by simp [intOf]; omega⟩
                      · have f1 : decide (x < y) = false := decide_eq_false (by omega)
                        have f2 : decide (y < x) = true := decide_eq_true p
                        have f3 : decide (v < z) = false := decide_eq_false (by omega)
                        have f4 : (y == x) = false := by rw [beq_eq_false_iff_ne]; omega
                        clear p q
                        go_wp2_with fail
                        go_quiet (fail)
                        go_wp2_with fail
                        exact ⟨⟨m + 1, by go_num, by omega, Lib.hid (CC.out.drewN _)⟩, by simp [intOf]; omega⟩
                      · have f1 : decide (x < y) = false := decide_eq_false (by omega)
                        have f2 : decide (y < x) = false := decide_eq_false (by omega)
                        have f3 : decide (z < v) = false := decide_eq_false (by omega)
                        have f4 : (y == x) = true := by rw [beq_iff_eq]; omega
                        clear p q
                        go_wp2_with fail
                        go_quiet (fail)
                        go_wp2_with fail
                        exact ⟨⟨m + 1, by go_num, by omega, Lib.hid (CC.out.drewN _)⟩, by simp [intOf]; omega⟩
                    · have hmk2 : ¬ (m : Int) < (k : Int) := by omega
                      have C6 := Lib.hid (C5.out.thenSame CC.out)
                      have hks : (k : Int) + 1 ≤ 1000 := by have := AU.out.lim; omega
                      clear hm hmk
                      go_wp2_with fail
                      exact ⟨⟨k + 1, u + v, by go_num, rfl, by omega, HU2, C6⟩, by simp [intOf]; omega⟩
              · have f5 : (v != q) = true := by rw [bne_iff_ne]; omega
                have f6 : (v != q + 1) = false := by rw [p]; simp
                have p3 : (a0 == IntKind.u64.wrap (q * (l1.length : Int))) = false := by have := p2; rw [Int.mul_one, wrap_in ht0 ht1] at this; exact this
                clear p
                as_aux_lemma =>
                  go_wp2_with fail
                  go_loopw [16] (fun j wr => ∃ m : Nat, j = .int .i64 m ∧ m ≤ k ∧ Hid (Chg [] w5 wr)) (fun j _ => k - (intOf j).toNat)
                  case atStart => exact ⟨0, rfl, Nat.zero_le _, Lib.hid (Chg.refl _ _)⟩
                  case round =>
                    obtain ⟨m, rfl, hm, CC⟩ := hrel
                    by_cases hmk : m < k
                    · have hmo := MO.out m hmk
                      obtain ⟨b3, o3, e3, g3, d3⟩ := sl_get I5.out CC.out (i := m) (by omega)
                      obtain ⟨b4, o4, e4, g4, d4⟩ := sl_get V5.out CC.out (i := m) (by rw [LV.out]; omega)
                      obtain ⟨b5, o5, e5, g5, d5⟩ := sl_get I5.out CC.out (i := k) hkn
                      obtain ⟨b6, o6, e6, g6, d6⟩ := sl_get V5.out CC.out (i := k) (by rw [LV.out]; exact hkn)
                      cases e3
                      cases e4
                      cases e5
                      cases e6
                      rw [← HX.out] at d5 hmo
                      rw [← HVV.out] at d6 hmo
                      rw [Nat.zero_add] at d4 d6
                      generalize l1.getD m 0 = y at *
                      generalize V.getD m 0 = z at *
                      have hm0 : (0 : Int) ≤ (m : Int) := by omega
                      have hm1 : (m : Int) < (k : Int) := by omega
                      have hm2 : (m : Int) < (l1.length : Int) := by omega
                      clear g5 g6
                      rcases hmo with ⟨p, q⟩ | ⟨p, q⟩ | ⟨p, q⟩
                      · have f1 : decide (x < y) = true := decide_eq_true p
                        have f2 : decide (z < v) = false := decide_eq_false (by omega)
                        have f3 : decide (y < x) = false := decide_eq_false (by omega)
                        have f4 : (y == x) = false := by rw [beq_eq_false_iff_ne]; omega
                        clear p q
                        go_wp2_with fail
                        go_quiet (fail)
                        go_wp2_with fail
                        exact ⟨⟨m + 1, by go_num, by omega, Lib.hid (CC.out.drewN _)⟩, by simp [intOf]; omega⟩
                      · have f1 : decide (x < y) = false := decide_eq_false (by omega)
                        have f2 : decide (y < x) = true := decide_eq_true p
                        have f3 : decide (v < z) = false := decide_eq_false (by omega)
                        have f4 : (y == x) = false := by rw [beq_eq_false_iff_ne]; omega
                        clear p q
                        go_wp2_with fail
                        go_quiet (fail)
                        go_wp2_with fail
                        exact ⟨⟨m + 1, by go_num, by omega, Lib.hid (CC.out.drewN _)⟩, by simp [intOf]; omega⟩
                      · have f1 : decide (x < y) = false := decide_eq_false (by omega)
                        have f2 : decide (y < x) = false := decide_eq_false (by omega)
                        have f3 : decide (z < v) = false := decide_eq_false (by omega)
                        have f4 : (y == x) = true := by rw [beq_iff_eq]; omega
                        clear p q
                        go_wp2_with fail
                        go_quiet (fail)
                        go_wp2_with fail
                        exact ⟨⟨m + 1, by go_num, by omega, Lib.hid (CC.out.drewN _)⟩, by simp [intOf]; omega⟩
                    · have hmk2 : ¬ (m : Int) < (k : Int) := by omega
                      have C6 := Lib.hid (C5.out.thenSame CC.out)
                      have hks : (k : Int) + 1 ≤ 1000 := by have := AU.out.lim; omega
                      clear hm hmk
                      go_wp2_with fail
                      exact ⟨⟨k + 1, u + v, by go_num, rfl, by omega, HU2, C6⟩, by simp [intOf]; omega⟩
            · have hke : k = l1.length := by omega
              have hkn2 : ¬ (k : Int) < (l1.length : Int) := by omega
              have f7 : (u == a0) = true := by rw [beq_iff_eq, HU.out, hke, List.take_of_length_le (by rw [LV.out]; exact Nat.le_refl _)]; exact AU.out.sum
              clear hke hk hkn HU
              go_wp2_with fail
              refine (awake54_any _ (HT.out.kept (C3.out.thenSame HC.out))).mono ?_; rintro e w7 ⟨rfl, hc7⟩
              have C7 := Lib.hid ((C3.out.thenSame HC.out).thenSame hc7)
              clear hc7
              go_wp2_with fail
              go_ret
              exact ⟨rfl, C7.out.toBelow (Nat.le_refl _) (by simp)⟩
        · have hzb : (u == 0) = false := by rw [beq_eq_false_iff_ne]; exact hz
          have AT := Lib.hid (show ∀ k, k < l1.length → ∃ q, mulDivZ a0 (l1.getD k 0) u = (q, 0) ∧ (0 ≤ q ∧ q ≤ 1000000000000) ∧ (V.getD k 0 = q ∨ (V.getD k 0 = q + 1 ∧ (IntKind.u64.wrap (a0 * l1.getD k 0) == IntKind.u64.wrap (q * u)) = false)) from fun k hk => by
            obtain ⟨w', b, q, r1, r2, r3, -, -, r4, r5⟩ := AU.out.at' k hk
            rw [← HS.out, if_neg hz] at r1 r2
            subst r1 r2
            exact ⟨q, r3, r4, r5⟩)
          obtain ⟨S, hS⟩ : ∃ S, S = u := ⟨_, rfl⟩
          subst hS
          have CL := HC
          clear HC HS hz
          go_wp2_with fail
          go_loopw [9, 10] (fun uv i wr => ∃ (k : Nat) (u : Int), i = .int .i64 k ∧ uv = .int .i64 u ∧ k ≤ l1.length ∧ Hid (u = (V.take k).sum) ∧ Hid (Chg [] w3 wr)) (fun _ i _ => l1.length - (intOf i).toNat)
          case atStart => exact ⟨0, 0, rfl, rfl, Nat.zero_le _, Lib.hid rfl, CL⟩
          case round =>
            obtain ⟨k, u, rfl, rfl, hk, HU, HC⟩ := hrel
            by_cases hkn : k < l1.length
            · have HU2 := Lib.hid (show u + V.getD k 0 = (V.take (k + 1)).sum by rw [sum_take1 (getD_some (by rw [LV.out]; exact hkn)), ← HU.out])
              have hu := sum_take_le AU.out.nn k
              have hu2 := sum_take_le AU.out.nn (k + 1)
              rw [← HU.out, AU.out.sum] at hu
              rw [← HU2.out, AU.out.sum] at hu2
              have MO := Lib.hid (fun m hm => AU.out.mono k m hkn hm)
              obtain ⟨q, hmd, hq, hvq⟩ := AT.out k hkn
              obtain ⟨b1, o1, rfl, g1, d1⟩ := sl_get HI.out (C3.out.thenSame HC.out) (i := k) hkn
              obtain ⟨b2, o2, e2, g2, d2⟩ := sl_get HV.out HC.out (i := k) (by rw [LV.out]; exact hkn)
              cases e2
              rw [Nat.zero_add] at d2
              have hx := AU.out.wn _ (getD_in hkn)
              have hx2 := mem_le_sum AU.out.wn (getD_in hkn)
              have hws := AU.out.ws
              have hx3 : l1.getD k 0 ≤ 1000000000000 := Int.le_trans hx2 hws
              have hv0 := AU.out.nn _ (getD_in (show k < V.length by rw [LV.out]; exact hkn))
              obtain ⟨x, hxe⟩ : ∃ x, x = l1.getD k 0 := ⟨_, rfl⟩
              obtain ⟨v, hve⟩ : ∃ v, v = V.getD k 0 := ⟨_, rfl⟩
              rw [← hxe] at hx hx3 d1
              try rw [← hxe] at hmd
              try rw [← hxe] at hvq
              rw [← hve] at HU2 hu2 d2 hv0 hvq
              have HX := Lib.hid hxe
              have HVV := Lib.hid hve
              have M := Lib.hid (fun w' => muldiv_any a0 x S w')
              have hM := M.out
              rw [hmd] at hM
              have M := Lib.hid hM
              have hk0 : (0 : Int) ≤ (k : Int) := by omega
              have hk1 : (k : Int) < (l1.length : Int) := by omega
              clear hx2 hws hxe hve hM hmd
              go_wp2_with fail
              refine (M.out _).mono ?_; rintro e w5 ⟨rfl, hc5⟩
              have D1 := Lib.hid (chg_cell hc5 g1 d1)
              have D2 := Lib.hid (chg_cell hc5 g2 d2)
              have C5 := Lib.hid (HC.out.thenSame hc5)
              have I5 := Lib.hid (HI.out.kept (C3.out.thenSame C5.out))
              have V5 := Lib.hid (HV.out.kept C5.out)
              have g7 := hc5.lt g1
              have g8 := hc5.lt g2
              have d1 := D1.out
              have d2 := D2.out
              clear hc5 g1 g2
              rcases hvq with p | ⟨p, p2⟩
              · have f5 : (v != q) = false := by rw [p]; simp
                clear p
                as_aux_lemma =>
                  go_wp2_with fail
                  go_loopw [16] (fun j wr => ∃ m : Nat, j = .int .i64 m ∧ m ≤ k ∧ Hid (Chg [] w5 wr)) (fun j _ => k - (intOf j).toNat)
                  case atStart => exact ⟨0, rfl, Nat.zero_le _, Lib.hid (Chg.refl _ _)⟩
                  case round =>
                    obtain ⟨m, rfl, hm, CC⟩ := hrel
                    by_cases hmk : m < k
                    · have hmo := MO.out m hmk
                      obtain ⟨b3, o3, e3, g3, d3⟩ := sl_get I5.out CC.out (i := m) (by omega)
                      obtain ⟨b4, o4, e4, g4, d4⟩ := sl_get V5.out CC.out (i := m) (by rw [LV.out]; omega)
                      obtain ⟨b5, o5, e5, g5, d5⟩ := sl_get I5.out CC.out (i := k) hkn
                      obtain ⟨b6, o6, e6, g6, d6⟩ := sl_get V5.out CC.out (i := k) (by rw [LV.out]; exact hkn)
                      cases e3
                      cases e4
                      cases e5
                      cases e6
                      rw [← HX.out] at d5 hmo
                      rw [← HVV.out] at d6 hmo
                      rw [Nat.zero_add] at d4 d6
                      generalize l1.getD m 0 = y at *
                      generalize V.getD m 0 = z at *
                      have hm0 : (0 : Int) ≤ (m : Int) := by omega
                      have hm1 : (m : Int) < (k : Int) := by omega
                      have hm2 : (m : Int) < (l1.length : Int) := by omega
                      clear g5 g6
                      rcases hmo with ⟨p, q⟩ | ⟨p, q⟩ | ⟨p, q⟩
                      · have f1 : decide (x < y) = true := decide_eq_true p
                        have f2 : decide (z < v) = false := decide_eq_false (by omega)
                        have f3 : decide (y < x) = false := decide_eq_false (by omega)
                        have f4 : (y == x) = false := by rw [beq_eq_false_iff_ne]; omega
                        clear p q
                        go_wp2_with fail
                        go_quiet (fail)
                        go_wp2_with fail
                        exact ⟨⟨m + 1, by go_num, by omega, Lib.hid (CC.out.drewN _)⟩, by simp [intOf]; omega⟩
                      · have f1 : decide (x < y) = false := decide_eq_false (by omega)
                        have f2 : decide (y < x) = true := decide_eq_true p
                        have f3 : decide (v < z) = false := decide_eq_false (by omega)
                        have f4 : (y == x) = false := by rw [beq_eq_false_iff_ne]; omega
                        clear p q
                        go_wp2_with fail
                        go_quiet (fail)
                        go_wp2_with fail
                        exact ⟨⟨m + 1, by go_num, by omega, Lib.hid (CC.out.drewN _)⟩, by simp [intOf]; omega⟩
                      · have f1 : decide (x < y) = false := decide_eq_false (by omega)
                        have f2 : decide (y < x) = false := decide_eq_false (by omega)
                        have f3 : decide (z < v) = false := decide_eq_false (by omega)
                        have f4 : (y == x) = true := by rw [beq_iff_eq]; omega
                        clear p q
                        go_wp2_with fail
                        go_quiet (fail)
                        go_wp2_with fail
                        exact ⟨⟨m + 1, by go_num, by omega, Lib.hid (CC.out.drewN _)⟩, by simp [intOf]; omega⟩
                    · have hmk2 : ¬ (m : Int) < (k : Int) := by omega
                      have C6 := Lib.hid (C5.out.thenSame CC.out)
                      have hks : (k : Int) + 1 ≤ 1000 := by have := AU.out.lim; omega
                      clear hm hmk
                      go_wp2_with fail
                      exact ⟨⟨k + 1, u + v, by go_num, rfl, by omega, HU2, C6⟩, by simp [intOf]; omega⟩
              · have f5 : (v != q) = true := by rw [bne_iff_ne]; omega
                have f6 : (v != q + 1) = false := by rw [p]; simp
                skip
                clear p
                as_aux_lemma =>
                  go_wp2_with fail
                  go_loopw [16] (fun j wr => ∃ m : Nat, j = .int .i64 m ∧ m ≤ k ∧ Hid (Chg [] w5 wr)) (fun j _ => k - (intOf j).toNat)
                  case atStart => exact ⟨0, rfl, Nat.zero_le _, Lib.hid (Chg.refl _ _)⟩
                  case round =>
                    obtain ⟨m, rfl, hm, CC⟩ := hrel
                    by_cases hmk : m < k
                    · have hmo := MO.out m hmk
                      obtain ⟨b3, o3, e3, g3, d3⟩ := sl_get I5.out CC.out (i := m) (by omega)
                      obtain ⟨b4, o4, e4, g4, d4⟩ := sl_get V5.out CC.out (i := m) (by rw [LV.out]; omega)
                      obtain ⟨b5, o5, e5, g5, d5⟩ := sl_get I5.out CC.out (i := k) hkn
                      obtain ⟨b6, o6, e6, g6, d6⟩ := sl_get V5.out CC.out (i := k) (by rw [LV.out]; exact hkn)
                      cases e3
                      cases e4
                      cases e5
                      cases e6
                      rw [← HX.out] at d5 hmo
                      rw [← HVV.out] at d6 hmo
                      rw [Nat.zero_add] at d4 d6
                      generalize l1.getD m 0 = y at *
                      generalize V.getD m 0 = z at *
                      have hm0 : (0 : Int) ≤ (m : Int) := by omega
                      have hm1 : (m : Int) < (k : Int) := by omega
                      have hm2 : (m : Int) < (l1.length : Int) := by omega
                      clear g5 g6
                      rcases hmo with ⟨p, q⟩ | ⟨p, q⟩ | ⟨p, q⟩
                      · have f1 : decide (x < y) = true := decide_eq_true p
                        have f2 : decide (z < v) = false := decide_eq_false (by omega)
                        have f3 : decide (y < x) = false := decide_eq_false (by omega)
                        have f4 : (y == x) = false := by rw [beq_eq_false_iff_ne]; omega
                        clear p q
                        go_wp2_with fail
                        go_quiet (fail)
                        go_wp2_with fail
                        exact ⟨⟨m + 1, by go_num, by omega, Lib.hid (CC.out.drewN _)⟩, by simp [intOf]; omega⟩
                      · have f1 : decide (x < y) = false := decide_eq_false (by omega)
                        have f2 : decide (y < x) = true := decide_eq_true p
                        have f3 : decide (v < z) = false := decide_eq_false (by omega)
                        have f4 : (y == x) = false := by rw [beq_eq_false_iff_ne]; omega
                        clear p q
                        go_wp2_with fail
                        go_quiet (fail)
                        go_wp2_with fail
                        exact ⟨⟨m + 1, by go_num, by omega, Lib.hid (CC.out.drewN _)⟩, by simp [intOf]; omega⟩
                      · have f1 : decide (x < y) = false := decide_eq_false (by omega)
                        have f2 : decide (y < x) = false := decide_eq_false (by omega)
                        have f3 : decide (z < v) = false := decide_eq_false (by omega)
                        have f4 : (y == x) = true := by rw [beq_iff_eq]; omega
                        clear p q
                        go_wp2_with fail
                        go_quiet (fail)
                        go_wp2_with fail
                        exact ⟨⟨m + 1, by go_num, by omega, Lib.hid (CC.out.drewN _)⟩, by simp [intOf]; omega⟩
                    · have hmk2 : ¬ (m : Int) < (k : Int) := by omega
                      have C6 := Lib.hid (C5.out.thenSame CC.out)
                      have hks : (k : Int) + 1 ≤ 1000 := by have := AU.out.lim; omega
                      clear hm hmk
                      go_wp2_with fail
                      exact ⟨⟨k + 1, u + v, by go_num, rfl, by omega, HU2, C6⟩, by simp [intOf]; omega⟩
            · have hke : k = l1.length := by omega
              have hkn2 : ¬ (k : Int) < (l1.length : Int) := by omega
              have f7 : (u == a0) = true := by rw [beq_iff_eq, HU.out, hke, List.take_of_length_le (by rw [LV.out]; exact Nat.le_refl _)]; exact AU.out.sum
              clear hke hk hkn HU
              go_wp2_with fail
              refine (awake54_any _ (HT.out.kept (C3.out.thenSame HC.out))).mono ?_; rintro e w7 ⟨rfl, hc7⟩
              have C7 := Lib.hid ((C3.out.thenSame HC.out).thenSame hc7)
              clear hc7
              go_wp2_with fail
              go_ret
              exact ⟨rfl, C7.out.toBelow (Nat.le_refl _) (by simp)⟩
  · have SB := Lib.hid (share_bad a0 a1 cap1 l1 w HI.out hm he)
    have heb : ((weighZ a0 l1).2 != 0) = true := by rw [bne_iff_ne]; exact he
    generalize weighZ a0 l1 = Z at *
    obtain ⟨z1, z2⟩ := Z
    simp only at SB heb
    clear he
    go_enter Tryd.func3, Tryd.ntmps3
    go_wp2_with fail
    refine SB.out.mono ?_; rintro e w3 ⟨rfl, rfl⟩
    go_wp2_with fail
    refine (awake54_any _ HT.out).mono ?_; rintro e w7 ⟨rfl, hc7⟩
    have C7 := Lib.hid hc7
    clear hc7
    go_wp2_with fail
    go_ret
    exact ⟨rfl, C7.out.toBelow (Nat.le_refl _) (by simp)⟩
end Go.Proofs.YtehjalgogjkdlaaDoor
