/- Chapter 22: SecretScopes: a function reads a secret exactly while it is bound to it. No condition. -/
import Derived.Test.YtldilefhmpipkaaSecU
namespace Go.Proofs.Ytldilefhmpipkaa
set_option linter.unusedVariables false
set_option linter.unusedSimpArgs false
open Go.RowKit

theorem contains_step (l : List (List UInt8)) (x : List UInt8) (k : Nat) (hk : k < l.length) : (l.take (k + 1)).contains x = ((l.take k).contains x || l[k] == x) := by
  rw [List.take_succ_eq_append_getElem hk, Bool.eq_iff_iff]
  simp only [List.contains_iff_mem, List.mem_append, List.mem_singleton, Bool.or_eq_true, beq_iff_eq]
  exact ⟨fun h => h.imp id Eq.symm, fun h => h.imp id Eq.symm⟩
theorem oLen2 (x : OpD) : (oCells x).length = 6 := rfl

set_option maxHeartbeats 16000000 in
set_option maxRecDepth 100000 in
theorem scopes_walk (a0 : Option Addr) (len0 cap0 : Nat) (l : List OpD) (name fn : ByteArray) (w : World) (h0 : SlIs oCells 6 w a0 len0 l ∧ (∀ x ∈ l, x.good) ∧ len0 ≤ maxLen ∧ len0 ≤ cap0) (h1 : name.size ≤ maxLen) (h2 : fn.size ≤ maxLen) :
    Calls Try.prog 7 #[.slice a0 len0 cap0, .string name, .string fn] w fun e w' => e = .returned (.bool true) ∧ Below w.heap.size w w' := by
  obtain ⟨s0, g0, m0, _⟩ := h0
  have hA1 := smallF_any a0 len0 cap0 l w s0 g0 m0
  have S0' := Lib.hid s0
  cases b1 : smallL l
  · rw [b1] at hA1
    have A1 := Lib.hid hA1
    clear b1 hA1 h1 h2 g0 m0 s0
    go_enter Try.func7, Try.ntmps7
    go_wp2_with fail
    refine A1.out.mono ?_; rintro e w1 ⟨rfl, rfl⟩
    go_wp2_with fail
    refine (awake_any _).mono ?_; rintro e w9 ⟨rfl, hc9⟩
    have C9 := Lib.hid hc9
    clear hc9
    go_wp2_with fail
    go_ret
    exact ⟨rfl, C9.out.toBelow (Nat.le_refl _) (by simp)⟩
  rw [b1] at hA1
  have A1 := Lib.hid hA1
  obtain ⟨o, ho⟩ : ∃ o, o = (Obj.cells #[.int .i64 0, .string name, .string ⟨#[]⟩, .string fn, .int .i64 0, .int .i64 0] 33) := ⟨_, rfl⟩
  have hb3 := heap_alloc_new w o
  have hs3 : SlIs oCells 6 (w.alloc o) (some ⟨w.heap.size, 0, none⟩) 1 [⟨0, name, em, fn, 0, 0⟩] := by
    rw [ho] at hb3 ⊢
    exact SlIs.ofBlock (cf := oCells) [⟨0, name, em, fn, 0, 0⟩] hb3 oLen2 rfl
  have hg3 : ∀ x ∈ [(⟨0, name, em, fn, 0, 0⟩ : OpD)], x.good := by
    intro x hx
    simp only [List.mem_cons, List.not_mem_nil, or_false] at hx
    subst hx
    exact ⟨rfl, h1, Nat.zero_le _, h2, rfl, rfl⟩
  have hA2 := smallF_any (some ⟨w.heap.size, 0, none⟩) 1 1 _ (w.alloc o) hs3 hg3 (by decide)
  have C1 := Lib.hid (show Chg [] w (w.alloc o) from (Chg.refl _ _).alloc _)
  clear hb3 hs3 hg3 b1 hA1
  cases b2 : smallL [(⟨0, name, em, fn, 0, 0⟩ : OpD)]
  · rw [b2] at hA2
    have A2 := Lib.hid hA2
    clear b2 hA2 h1 h2 g0 m0 s0
    go_enter Try.func7, Try.ntmps7
    go_wp2_with fail
    refine A1.out.mono ?_; rintro e w1 ⟨rfl, rfl⟩
    go_wp2_with fail
    rw [← ho]
    (with_reducible refine A2.out.mono ?_); rintro e w2 ⟨rfl, rfl⟩
    go_wp2_with fail
    refine (awake_any _).mono ?_; rintro e w9 ⟨rfl, hc9⟩
    have C9 := Lib.hid hc9
    clear hc9
    go_wp2_with fail
    go_ret
    exact ⟨rfl, (((Chg.refl [] w).alloc _).thenSame C9.out).toBelow (Nat.le_refl _) (by simp)⟩
  rw [b2] at hA2
  have A2 := Lib.hid hA2
  have Ho := Lib.hid ho
  have A3 := Lib.hid (oplayed (W := w) (S0'.out.kept C1.out) g0 m0 C1.out (cap := cap0))
  have hok := play_ok l
  have hnk := play_nok l
  generalize playS l = L at A3 hok hnk
  have K := Lib.hid hok
  have NK := Lib.hid hnk
  obtain ⟨t, v, e, f, t', v', g, hh, t'', v'', i, b, q1, q2, q3, q4, q5, q6, q7⟩ := scopes_law hok hnk name fn
  have hns := namesS_sorted hok fn
  have hnl := namesS_len hok fn
  obtain ⟨NS, hNS⟩ : ∃ NS, NS = namesS L fn := ⟨_, rfl⟩
  rw [← hNS] at hns hnl q6
  have HNS := Lib.hid hNS
  have Q1 := Lib.hid q1
  have Q2 := Lib.hid q2
  have Q3 := Lib.hid q3
  have Q4 := Lib.hid q4
  have Q5 := Lib.hid q5
  have Q6 := Lib.hid q6
  have Q7 := Lib.hid q7
  have HS := Lib.hid hns
  have N2 := Lib.hid h2
  clear b2 hA2 h1 h2 g0 m0 s0 ho hok hnk hns hNS q1 q2 q3 q4 q5 q6 q7
  go_enter Try.func7, Try.ntmps7
  go_wp2_with fail
  refine A1.out.mono ?_; rintro e' w1 ⟨rfl, rfl⟩
  go_wp2_with fail
  rw [← Ho.out]
  (with_reducible refine A2.out.mono ?_); rintro e' w2 ⟨rfl, rfl⟩
  go_wp2_with fail
  refine A3.out.mono ?_; rintro e' w3 ⟨vb, rfl, ho3⟩
  have A4 := oread ho3 name fn
  rw [Q1.out] at A4
  have A4 := Lib.hid A4
  rename_i A40
  clear A40 ho3
  go_wp2_with fail
  (with_reducible refine A4.out.mono ?_); rintro e' w4 ⟨rfl, ho4⟩
  have A5 := onames ho4 K.out NK.out fn
  rw [← HNS.out] at A5
  have A5 := Lib.hid A5
  rename_i A50
  have hwl4 := Lib.hid ho4.2.size
  clear A50 ho4
  go_wp2_with fail
  (with_reducible refine A5.out.mono ?_); rintro e' w5 ⟨nv, rfl, hr5, ho5⟩
  have O5 := Lib.hid ho5
  obtain ⟨av, cv, hv⟩ := RowOf.shape hr5
  subst hv
  have S5 := Lib.hid (RowOf.sl hr5 kLen).1
  clear ho5 hr5
  go_wp2_with fail
  go_loopw [12, 51] (fun li iv wr => ∃ k : Nat, iv = .int .i64 k ∧ k ≤ NS.length ∧ li = .bool ((NS.take k).contains (byt name)) ∧ Chg [] w5 wr) (fun _ iv _ => NS.length - (intOf iv).toNat)
  case atStart => exact ⟨0, rfl, Nat.zero_le _, rfl, Chg.refl _ _⟩
  case round =>
    obtain ⟨k, rfl, hkl, rfl, hch⟩ := hrel
    have HC := Lib.hid hch
    clear hch
    by_cases hk : k < NS.length
    · obtain ⟨gb, off, rfl, -, hbr, hcc⟩ := S5.out.elem HC.out k hk
      have hst := contains_step NS (byt name) k hk
      have c0 := hcc 0 (by omega)
      simp only [kc, encStr, List.getElem?_cons_zero, Nat.add_zero, Nat.mul_one] at c0
      have hk0 : (0 : Int) ≤ (k : Int) := by omega
      have hk1 : (k : Int) < (NS.length : Int) := by omega
      have hpv : k = 0 ∨ ∃ j, k = j + 1 ∧ ∃ p, wr.cell? ⟨gb, off + j, none⟩ = some (.string p) ∧ (Op.bytesLess (⟨NS[k].toArray⟩ : ByteArray).toList p.toList) = false ∧ ((⟨NS[k].toArray⟩ : ByteArray).toList == p.toList) = false := by
        rcases k with _ | j
        · exact .inl rfl
        · refine .inr ⟨j, rfl, ⟨NS[j].toArray⟩, ?_, ?_, ?_⟩
          · obtain ⟨gb', off', he, -, -, hcc'⟩ := S5.out.elem HC.out j (by omega)
            cases he
            have := hcc' 0 (by omega)
            simpa only [kc, encStr, List.getElem?_cons_zero, Nat.add_zero, Nat.mul_one] using this
          · rw [bless]
            have := (List.pairwise_iff_getElem.1 HS.out) j (j + 1) (by omega) hk (by omega)
            simpa using blt_asymm this
          · refine bne_bytes fun e => ?_
            have := (List.pairwise_iff_getElem.1 HS.out) j (j + 1) (by omega) hk (by omega)
            have e2 : NS[j + 1] = NS[j] := by
              have := congrArg byt e
              unfold byt at this
              simpa using this
            rw [e2] at this
            exact List.lt_irrefl _ this
      have heq : ((⟨NS[k].toArray⟩ : ByteArray) = name ∧ (NS[k] == byt name) = true) ∨ (((⟨NS[k].toArray⟩ : ByteArray).toList == name.toList) = false ∧ (NS[k] == byt name) = false) := by
        by_cases h : (⟨NS[k].toArray⟩ : ByteArray) = name
        · exact .inl ⟨h, by rw [← h]; simp [byt]⟩
        · refine .inr ⟨bne_bytes h, ?_⟩
          simp only [beq_eq_false_iff_ne]
          intro e
          apply h
          rw [e]; exact mk_byt name
      generalize (NS.take k).contains (byt name) = B at *
      generalize (NS[k] == byt name) = D at *
      generalize (⟨NS[k].toArray⟩ : ByteArray) = x at *
      have Hst := Lib.hid hst
      clear hst hcc
      have hcs : (x = name ∧ D = true) ∨ ((x.toList == name.toList) = false ∧ D = false) := heq
      clear heq
      rcases hpv with rfl | ⟨j, rfl, p, hp, hp1, hp2⟩
      · simp only [Nat.add_zero] at c0
        rcases hcs with ⟨rfl, rfl⟩ | ⟨he, rfl⟩ <;> cases B
        all_goals
          go_wp2_with fail
          go_quiet (fail)
          go_wp2_with fail
          exact ⟨⟨0 + 1, by go_num, by omega, by rw [Hst.out]; rfl, HC.out.drewN _⟩, by simp [intOf]; omega⟩
      · have hkk : ((j + 1 : Nat) : Int) = (j : Int) + 1 := by omega
        have hk2' : (0 : Int) < (j : Int) + 1 := by omega
        have hj0 : (0 : Int) ≤ (j : Int) := by omega
        have hj1 : (j : Int) < (NS.length : Int) := by omega
        rw [hkk] at hk0 hk1
        rw [hkk]
        clear hkk
        rcases hcs with ⟨rfl, rfl⟩ | ⟨he, rfl⟩ <;> cases B
        all_goals
          go_wp2_with fail
          go_quiet (fail)
          go_wp2_with fail
          exact ⟨⟨j + 1 + 1, by go_num, by omega, by rw [Hst.out]; rfl, HC.out.drewN _⟩, by simp [intOf]; omega⟩
    · have ht : NS.take k = NS := List.take_of_length_le (by omega)
      rw [ht, Q6.out]
      clear ht
      have O6 := Lib.hid (O5.out.keptN HC.out)
      have A6 := obind O6.out K.out name fn N2.out
      rw [Q2.out] at A6
      have A6 := Lib.hid A6
      rename_i A60
      clear A60
      rcases Q7.out with ⟨rfl, rfl, rfl, rfl, rfl, rfl⟩ | ⟨rfl, rfl, rfl, rfl, rfl, rfl⟩ | ⟨rfl, rfl, rfl, rfl, rfl, rfl⟩ | ⟨rfl, rfl, rfl, rfl, rfl, rfl⟩ | ⟨rfl, rfl, rfl, rfl, rfl, rfl⟩
      all_goals
        go_wp2_with fail
        (with_reducible refine A6.out.mono ?_); rintro e' w6 ⟨rfl, ho6⟩
        have A7 := oread ho6 name fn
        rw [Q3.out] at A7
        have A7 := Lib.hid A7
        rename_i A70
        clear A70 ho6
        go_wp2_with fail
        (with_reducible refine A7.out.mono ?_); rintro e' w7 ⟨rfl, ho7⟩
        have A8 := ounbind ho7 name fn
        rw [Q4.out] at A8
        have A8 := Lib.hid A8
        rename_i A80
        clear A80 ho7
        go_wp2_with fail
        (with_reducible refine A8.out.mono ?_); rintro e' w8 ⟨rfl, ho8⟩
        have A9 := oread ho8 name fn
        rw [Q5.out] at A9
        have A9 := Lib.hid A9
        rename_i A90
        clear A90 ho8
        go_wp2_with fail
        (with_reducible refine A9.out.mono ?_); rintro e' w10 ⟨rfl, ho10⟩
        have O10 := Lib.hid ho10
        clear ho10
        go_wp2_with fail
        refine (awake_any _).mono ?_; rintro e w9 ⟨rfl, hc9⟩
        have C9 := Lib.hid hc9
        clear hc9
        go_wp2_with fail
        go_ret
        exact ⟨rfl, (O10.out.keptN C9.out).below⟩
end Go.Proofs.Ytldilefhmpipkaa
