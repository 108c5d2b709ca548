/- Chapter 22: contracts: slices.IndexFunc and slices.DeleteFunc with the closure of Names. No condition. -/
import Derived.Test.YtldilefhmpipkaaSecO
import Derived.Test.YtldilefhmpipkaaRowm
namespace Go.Proofs.Ytldilefhmpipkaa
set_option linter.unusedVariables false
set_option linter.unusedSimpArgs false
open Go.RowKit

/-- What the closure says of the names in a row at block g. -/
def ClosIs (g : Nat) (w : World) (b2 b3 : Nat) (keep : List UInt8 → Bool) (ns : List (List UInt8)) : Prop :=
  ∀ w', Chg [g] w w' → ∀ n ∈ ns, Calls Try.prog 49 #[encStr n, .pointer (some ⟨b2, 0, none⟩), .pointer (some ⟨b3, 0, none⟩)] w' fun e w'' => e = .returned (.bool (!keep n)) ∧ Chg [] w' w''
def sidx (keep : List UInt8 → Bool) (ns : List (List UInt8)) : Int := match ns.findIdx? (fun n => !keep n) with | some i => (i : Int) | none => -1
theorem sidx_hit {keep : List UInt8 → Bool} {ns : List (List UInt8)} {k : Nat} (hk : k < ns.length) (h : ∀ i (hi : i < ns.length), i < k → keep ns[i] = true) (hb : keep ns[k] = false) : sidx keep ns = (k : Int) := by
  have : ns.findIdx? (fun n => !keep n) = some k := by
    rw [List.findIdx?_eq_some_iff_getElem]
    exact ⟨hk, by simp [hb], fun j hj => by simp [h j (by omega) hj]⟩
  unfold sidx; rw [this]
theorem sidx_miss {keep : List UInt8 → Bool} {ns : List (List UInt8)} (h : ∀ i (hi : i < ns.length), keep ns[i] = true) : sidx keep ns = -1 := by
  have : ns.findIdx? (fun n => !keep n) = none := by
    rw [List.findIdx?_eq_none_iff]
    intro x hx
    obtain ⟨i, hi, rfl⟩ := List.mem_iff_getElem.1 hx
    simp [h i hi]
  unfold sidx; rw [this]
theorem sidx_cases (keep : List UInt8 → Bool) (ns : List (List UInt8)) : (sidx keep ns = -1 ∧ ns.filter keep = ns) ∨ ∃ k, ∃ h : k < ns.length, sidx keep ns = (k : Int) ∧ keep ns[k] = false ∧ (ns.take k).filter keep = ns.take k := by
  unfold sidx
  cases hf : ns.findIdx? (fun n => !keep n) with
  | none =>
    rw [List.findIdx?_eq_none_iff] at hf
    exact .inl ⟨rfl, List.filter_eq_self.2 (fun x hx => by simpa using hf x hx)⟩
  | some k =>
    rw [List.findIdx?_eq_some_iff_getElem] at hf
    obtain ⟨h1, h2, h3⟩ := hf
    refine .inr ⟨k, h1, rfl, by simpa using h2, List.filter_eq_self.2 (fun x hx => ?_)⟩
    obtain ⟨i, hi, rfl⟩ := List.mem_iff_getElem.1 hx
    rw [List.getElem_take]
    rw [List.length_take] at hi
    simpa using h3 i (by omega)

set_option maxHeartbeats 4000000 in
set_option maxRecDepth 100000 in
theorem sindf_any (g c b2 b3 base : Nat) (keep : List UInt8 → Bool) (ns : List (List UInt8)) (w : World) (h : RowOf kc 1 w base 9 (.slice (some ⟨g, 0, none⟩) ns.length c) ns) (hcl : ClosIs g w b2 b3 keep ns) (hn : ns.length ≤ 4096) :
    Calls Try.prog 61 #[.slice (some ⟨g, 0, none⟩) ns.length c, .func (.func 49) #[] #[.pointer (some ⟨b2, 0, none⟩), .pointer (some ⟨b3, 0, none⟩)]] w fun e w' => e = .returned (.int .i64 (sidx keep ns)) ∧ Chg [] w w' := by
  have H := Lib.hid h
  have HC := Lib.hid hcl
  obtain ⟨R, hR⟩ : ∃ R, R = sidx keep ns := ⟨_, rfl⟩
  rw [← hR]
  have HR := Lib.hid hR
  clear h hcl hR
  go_enter Try.func61, Try.ntmps61
  go_wp2_with fail
  go_loopw [8] (fun i wr => ∃ k : Nat, i = .int .i64 k ∧ k ≤ ns.length ∧ Hid (∀ i (hi : i < ns.length), i < k → keep ns[i] = true) ∧ Chg [] w wr) (fun i _ => ns.length - (intOf i).toNat)
  case atStart => exact ⟨0, rfl, Nat.zero_le _, Lib.hid (fun i _ h => absurd h (Nat.not_lt_zero i)), Chg.refl _ _⟩
  case round =>
    obtain ⟨k, rfl, hkl, Hall, hch⟩ := hrel
    have HCh := Lib.hid hch
    have hrow := RowOf.kept H.out hch (by simp)
    obtain ⟨-, -, -, hcell, -, -, -⟩ := RowOf.atS hrow kLen
    clear hch hrow
    by_cases hk : k < ns.length
    · have c0 := hcell k hk 0 (by omega)
      have A := HC.out wr (HCh.out.mono (by simp)) ns[k] (List.getElem_mem hk)
      have hhit := fun h => sidx_hit hk Hall.out h
      rw [← HR.out] at hhit
      have hno := show keep ns[k] = true → ∀ i (hi : i < ns.length), i < k + 1 → keep ns[i] = true from fun h i hi hik => by
        by_cases e : i = k
        · subst e; exact h
        · exact Hall.out i hi (by omega)
      simp only [kc, List.getElem?_cons_zero, Nat.add_zero, Nat.mul_one] at c0
      have HN := Lib.hid hno
      have HH := Lib.hid hhit
      have hk0 : (0 : Int) ≤ (k : Int) := by omega
      have hk1 : (k : Int) < (ns.length : Int) := by omega
      clear hcell hhit hno
      generalize ns[k] = x at *
      unfold encStr at c0 A
      cases hb : keep x
      · rw [hb] at A
        have E := Lib.hid (HH.out hb)
        have A1 := Lib.hid A
        clear A hb HN HH
        go_wp2_with fail
        refine A1.out.mono ?_; rintro e w1 ⟨rfl, hc1⟩
        have C1 := Lib.hid (HCh.out.thenSame hc1)
        clear hc1
        go_wp2_with fail
        go_ret
        exact ⟨by rw [E.out]; rfl, C1.out⟩
      · rw [hb] at A
        have E := Lib.hid (HN.out hb)
        have A1 := Lib.hid A
        clear A hb HN HH
        go_wp2_with fail
        refine A1.out.mono ?_; rintro e w1 ⟨rfl, hc1⟩
        have C1 := Lib.hid (HCh.out.thenSame hc1)
        clear hc1
        go_wp2_with fail
        exact ⟨⟨k + 1, by go_num, by omega, E, C1.out⟩, by simp [intOf]; omega⟩
    · have E := Lib.hid (HR.out.trans (sidx_miss (fun i hi => Hall.out i hi (by omega))))
      clear hcell
      go_wp2_with fail
      go_ret
      exact ⟨by rw [E.out]; rfl, HCh.out⟩

theorem sElem : Try.prog.underlying 46 = some (.slice (Try.prog.elem 46)) := by kernel_rfl
theorem sSize (w : World) : (sizeOf (Try.prog.elem 46)).run Try.prog w = .ok 1 w := by kernel_rfl
theorem zeroStr (w : World) : (zeroValue 9).run Try.prog w = .ok (.string ⟨#[]⟩) w := by kernel_rfl
theorem filter_snoc {keep : List UInt8 → Bool} (ns : List (List UInt8)) (j : Nat) (hj : j < ns.length) : (ns.take (j + 1)).filter keep = (ns.take j).filter keep ++ if keep ns[j] = true then [ns[j]] else [] := by
  rw [List.take_succ_eq_append_getElem hj, List.filter_append]
  congr 1
  split <;> simp_all

set_option maxHeartbeats 8000000 in
set_option maxRecDepth 100000 in
theorem delf_row (g c b2 b3 base : Nat) (keep : List UInt8 → Bool) (ns : List (List UInt8)) (w : World) (h : RowOf kc 1 w base 9 (.slice (some ⟨g, 0, none⟩) ns.length c) ns) (hcl : ClosIs g w b2 b3 keep ns) (hn : ns.length ≤ 4096) :
    Calls Try.prog 48 #[.slice (some ⟨g, 0, none⟩) ns.length c, .func (.func 49) #[] #[.pointer (some ⟨b2, 0, none⟩), .pointer (some ⟨b3, 0, none⟩)]] w fun e w' => ∃ v, e = .returned v ∧ RowOf kc 1 w' base 9 v (ns.filter keep) ∧ Chg [g] w w' := by
  have A1 := sindf_any g c b2 b3 base keep ns w h hcl hn
  have H := Lib.hid h
  have HC := Lib.hid hcl
  have hgw := (RowOf.block h g rfl)
  rcases sidx_cases keep ns with ⟨hi, hf⟩ | ⟨k, hk, hi, hb, hf⟩
  · rw [hi] at A1
    have HF := Lib.hid hf
    have A1 := Lib.hid A1
    rename_i A10
    clear A10 h hcl hi hf
    go_enter Try.func48, Try.ntmps48
    go_wp2_with fail
    refine A1.out.mono ?_; rintro e w1 ⟨rfl, hc1⟩
    have C1 := Lib.hid hc1
    clear hc1
    go_wp2_with fail
    go_ret
    refine ⟨_, rfl, ?_, C1.out.mono (by simp)⟩
    rw [HF.out]
    exact H.out.kept C1.out (by simp)
  · rw [hi] at A1
    have HF := Lib.hid hf
    have HB := Lib.hid hb
    have A1 := Lib.hid A1
    have hneg : ((k : Int) == -1) = false := beq_eq_false_iff_ne.2 (by omega)
    have hcap := (RowOf.atS h kLen).2.1
    rename_i A10
    have hk0 : (0 : Int) ≤ (k : Int) := by omega
    have hk1 : (k : Int) < (ns.length : Int) := by omega
    clear A10 h hcl hi hf hb
    go_enter Try.func48, Try.ntmps48
    go_wp2_with fail
    refine A1.out.mono ?_; rintro e w1 ⟨rfl, hc1⟩
    have C1 := Lib.hid hc1
    clear hc1
    go_wp2_with fail
    go_loopw [5, 6] (fun iv jv wr => ∃ (i j : Nat) (ss : List (List UInt8)), iv = .int .i64 i ∧ jv = .int .i64 j ∧ i < j ∧ j ≤ ns.length ∧ Hid (ss.length = ns.length ∧ ss.take i = (ns.take j).filter keep ∧ ss.drop j = ns.drop j) ∧ RowOf kc 1 wr base 9 (.slice (some ⟨g, 0, none⟩) ns.length c) ss ∧ Chg [g] w wr) (fun _ jv _ => ns.length - (intOf jv).toNat)
    case atStart =>
      refine ⟨k, k + 1, ns, rfl, by go_num, by omega, by omega, Lib.hid ⟨rfl, ?_, rfl⟩, H.out.kept C1.out (by simp), C1.out.mono (by simp)⟩
      rw [filter_snoc ns k hk, HF.out, HB.out]; simp
    case round =>
      obtain ⟨i, j, ss, rfl, rfl, hij, hjl, HS, hrow, hch⟩ := hrel
      have HR := Lib.hid hrow
      have HCh := Lib.hid hch
      obtain ⟨-, -, -, hcell, hfr, -, hgl⟩ := RowOf.atS hrow kLen
      clear hrow hch
      by_cases hjt : j < ns.length
      · have hjs : j < ss.length := by rw [HS.out.1]; exact hjt
        have c0 := hcell j hjs 0 (by omega)
        have hget : ss[j] = ns[j] := by
          have h3 := HS.out.2.2
          have h4 : (ss.drop j)[0]? = (ns.drop j)[0]? := by rw [h3]
          simp only [List.getElem?_drop, Nat.add_zero] at h4
          rw [List.getElem?_eq_getElem hjs, List.getElem?_eq_getElem hjt] at h4
          exact Option.some.inj h4
        rw [hget] at c0
        have hci := hcell i (by rw [HS.out.1]; omega) 0 (by omega)
        simp only [kc, List.getElem?_cons_zero, Nat.add_zero, Nat.mul_one] at c0 hci
        have A2 := HC.out wr HCh.out ns[j] (List.getElem_mem hjt)
        have hsn := filter_snoc (keep := keep) ns j hjt
        have Hst := Lib.hid (RowOf.stored HR.out HS.out.1.symm kLen i (by rw [HS.out.1]; omega) 0 (by omega) (encStr ns[j]) ns[j] rfl)
        obtain ⟨x, hx⟩ : ∃ x, x = ns[j] := ⟨_, rfl⟩
        rw [← hx] at c0 A2 hsn Hst
        have Hx := Lib.hid hx
        have Hsn := Lib.hid hsn
        unfold encStr at c0 A2 hci Hst
        simp only [Nat.mul_one, Nat.add_zero] at Hst
        have hj0 : (0 : Int) ≤ (j : Int) := by omega
        have hj1 : (j : Int) < (ns.length : Int) := by omega
        have hi0 : (0 : Int) ≤ (i : Int) := by omega
        have hi1 : (i : Int) < (ns.length : Int) := by omega
        clear hget hsn hx hcell
        cases hb : keep x
        · rw [hb] at A2 Hsn
          have A3 := Lib.hid A2
          clear A2 hb
          go_wp2_with fail
          refine A3.out.mono ?_; rintro e w2 ⟨rfl, hc2⟩
          have C2 := Lib.hid hc2
          clear hc2
          go_wp2_with fail
          refine ⟨⟨i, j + 1, ss, rfl, by go_num, by omega, by omega, Lib.hid ⟨HS.out.1, ?_, ?_⟩, HR.out.kept C2.out (by simp), HCh.out.then C2.out (by simp)⟩, by simp [intOf]; omega⟩
          · rw [Hsn.out, HS.out.2.1]; simp
          · have := congrArg (List.drop 1) HS.out.2.2
            simpa [List.drop_drop, Nat.add_comm] using this
        · rw [hb] at A2 Hsn
          have A3 := Lib.hid A2
          clear A2 hb
          go_wp2_with fail
          refine A3.out.mono ?_; rintro e w2 ⟨rfl, hc2⟩
          have C2 := Lib.hid hc2
          have hci2 : w2.cell? ⟨g, i, none⟩ = some (.string ⟨ss[i].toArray⟩) := by rw [← hci]; exact World.cell?_of_block (w := wr) (hc2.block g hgl (by simp))
          have hfi2 : ∀ q, w2.frozen? ⟨g, q, none⟩ = false := by
            obtain ⟨-, -, -, -, hfr2, -, -⟩ := RowOf.atS (HR.out.kept hc2 (by simp)) kLen
            exact hfr2
          have Hst2 := Lib.hid (RowOf.stored (HR.out.kept hc2 (by simp)) HS.out.1.symm kLen i (by rw [HS.out.1]; omega) 0 (by omega) (encStr x) x rfl)
          unfold encStr at Hst2
          simp only [Nat.mul_one, Nat.add_zero] at Hst2
          clear hc2 hci
          go_wp2_with fail
          refine ⟨⟨i + 1, j + 1, ss.set i x, by go_num, by go_num, by omega, by omega, Lib.hid ⟨by rw [List.length_set]; exact HS.out.1, ?_, ?_⟩, Hst2.out, (HCh.out.then C2.out (by simp)).setCell _ _ (by simp)⟩, by simp [intOf]; omega⟩
          · have hil : i < ss.length := by rw [HS.out.1]; omega
            rw [Hsn.out, if_pos trivial, ← HS.out.2.1, List.take_succ_eq_append_getElem (by simpa using hil), List.take_set_of_le (Nat.le_refl _)]
            simp
          · rw [List.drop_set_of_lt (by omega)]
            have := congrArg (List.drop 1) HS.out.2.2
            simpa [List.drop_drop, Nat.add_comm] using this
      · have hje : j = ns.length := by omega
        subst hje
        have hfin : ss.take i = ns.filter keep := by rw [HS.out.2.1, List.take_length]
        have hsl : ss.length = ns.length := HS.out.1
        have Hfin := Lib.hid hfin
        have Hsl := Lib.hid hsl
        have hcs : ∀ q, q < ns.length - i → (wr.cell? ⟨g, i + q, none⟩).isSome = true := fun q hq => by
          have := hcell (i + q) (by omega) 0 (by omega)
          simp only [kc, List.getElem?_cons_zero, Nat.add_zero, Nat.mul_one] at this
          rw [this]; rfl
        have hi0 : (0 : Int) ≤ (i : Int) := by omega
        have hi1 : (i : Int) < (ns.length : Int) := by omega
        have hi2 : i ≤ c := by omega
        have Hcs := Lib.hid hcs
        have Hfr := Lib.hid hfr
        clear hfin hsl hcell hcs hfr
        go_wp2_with (first
          | (refine wpl_slice_l rfl _ _ _ rfl sElem (sSize _) g 0 ns.length c i rfl rfl (by omega) hcap ?_; intro off' hoff; have ho : off' = i := by omega
             subst ho)
          | (refine wpl_clear rfl _ 46 9 rfl Try.underlying46 (.string ⟨#[]⟩) zeroStr rfl rfl g _ (ns.length - _) _ rfl (by omega) Hcs.out (fun q _ => Hfr.out _) ?_)
          | (refine wpl_slice_h rfl _ _ _ rfl sElem (sSize _) g 0 ns.length c _ rfl rfl hi2 ?_)
          | fail)
        go_ret
        refine ⟨_, rfl, ?_, Chg.setCells _ _ _ HCh.out (by simp)⟩
        rw [← Hfin.out]
        exact RowOf.behinds _ _ _ (HR.out.pre kLen (by rw [Hsl.out]; omega)) (by rw [List.length_take]; omega)
end Go.Proofs.Ytldilefhmpipkaa
