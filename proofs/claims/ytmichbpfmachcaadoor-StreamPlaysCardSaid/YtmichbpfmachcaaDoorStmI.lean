/- Chapter 30: contract: Read. No condition. -/
import Derived.Deep.DeepCutAuto
import Derived.Test.YtmichbpfmachcaaDoorStmH
namespace Go.Proofs.YtmichbpfmachcaaDoor
set_option linter.unusedVariables false
set_option linter.unusedSimpArgs false
open Go.RowKit
variable {w w' : World} {b g c n : Nat} {D : List Sd} {keep now : Int} {f S : List Nat} {st : Stm}
def readR (st : Stm) (k from_ most : Int) : List PRec × Int :=
  if k < 0 then ([], 2) else match st.sh[k.toNat]? with
    | none => ([], 2)
    | some d => if from_ < 0 then ([], 2) else if d.first + (d.recs.length : Int) < from_ then ([], 2) else if most < 1 then ([], 2) else if 256 < most then ([], 2) else if from_ < d.first then ([], 18)
      else ((d.recs.drop (from_ - d.first).toNat).take most.toNat, 0)
/-- A list of records that can be read. -/
def RecsIn (w : World) (a : Option Addr) (M : List Rc) : Prop := SlIs rcC 10 w a M.length M ∧ ∀ r ∈ M, InIs ceC 4 w r.e.ba r.e.bc r.e.p.body
/-- It lies in memory from B on. -/
def RecsNew (B : Nat) (a : Option Addr) (M : List Rc) : Prop := (∀ x, a = some x → B ≤ x.block) ∧ ∀ r ∈ M, ∀ x, r.e.ba = some x → B ≤ x.block
theorem RecsNew.nil (B : Nat) : RecsNew B none [] := ⟨fun x hx => (by cases hx), fun r hr => (by simp at hr)⟩
theorem readR_bad (k from_ most : Int) (h : k < 0 ∨ (st.sh.length : Int) ≤ k) : readR st k from_ most = ([], 2) := by
  unfold readR
  by_cases h0 : k < 0
  · rw [if_pos h0]
  · have : st.sh[k.toNat]? = none := List.getElem?_eq_none (by omega)
    rw [if_neg h0, this]
def BodyAny (w : World) (e : Ev) : Prop := InIs ceC 4 w e.ba e.bc e.p.body ∧ ∀ x, e.ba = some x → ∃ cur, w.heap[x.block]? = some (.cells cur 66 (0, 0))
theorem BodyAny.keptAt {e : Ev} (h : BodyAny w e) (hc : Chg S w w') (hS : ∀ x, e.ba = some x → x.block ∉ S) : BodyAny w' e :=
  ⟨h.1.keptAt hc (fun x hx _ => hS x hx), fun x hx => by obtain ⟨cur, hh⟩ := h.2 x hx; exact ⟨cur, hc.at (hS x hx) hh⟩⟩
theorem InIs.piece {α : Type} {cf : α → List Value} {sz : Nat} {w : World} {a : Option Addr} {c : Nat} {l : List α} (h : InIs cf sz w a c l) (i j : Nat) (hij : i ≤ j) (hj : j ≤ l.length) (x : Option Addr) (hx : x = a.map (·.add (i * sz)) ∨ i = j ∧ (a = none → x = none)) : InIs cf sz w x (j - i) ((l.drop i).take (j - i)) := by
  obtain ⟨⟨h1, h2⟩, h3, h4, h5⟩ := h
  have hlen : ((l.drop i).take (j - i)).length = j - i := by simp; omega
  refine ⟨⟨rfl, fun k hk => ?_⟩, by omega, by omega, fun hn => ?_⟩
  · rw [hlen] at hk
    rcases hx with rfl | ⟨rfl, _⟩
    · obtain ⟨q, o, e1, e2, e3⟩ := h2 (i + k) (by omega)
      subst e1
      refine ⟨q, o + i * sz, ?_, e2, fun m hm => ?_⟩
      · simp [addr_none]
      · rw [List.getElem_take, List.getElem_drop, ← e3 m hm, Nat.add_mul]
        congr 2
        omega
    · omega
  · subst hn
    rcases hx with hx | ⟨rfl, _⟩
    · cases a with
      | none => have := h5 rfl; omega
      | some y => cases hx
    · omega
theorem RowOf.storedSame {α : Type} {cf : α → List Value} {sz : Nat} {w : World} {base : Nat} {e : TypeId} {g cap n : Nat} {l : List α} (h : RowOf cf sz w base e (.slice (some ⟨g, 0, none⟩) n cap) l) (hn : n = l.length) (hc : ∀ x, (cf x).length = sz) (k : Nat) (hk : k < l.length) (j : Nat) (hj : j < sz) (u : Value)
    (hu : (cf l[k])[j]? = some u) : RowOf cf sz (w.setCell ⟨g, k * sz + j, none⟩ u) base e (.slice (some ⟨g, 0, none⟩) n cap) l := by
  have := RowOf.stored h hn hc k hk j hj u l[k] (by
    obtain ⟨h1, h2⟩ := List.getElem?_eq_some_iff.1 hu
    rw [← h2, List.set_getElem_self])
  rwa [List.set_getElem_self] at this
def evSet (w : World) (g o : Nat) (p : PEv) (u : Value) : World := ((((((w.setCell ⟨g, o, none⟩ (.string p.id)).setCell ⟨g, o + 1, none⟩ (.string p.tn)).setCell ⟨g, o + 2, none⟩ (.string p.src)).setCell ⟨g, o + 3, none⟩ (.string p.key)).setCell ⟨g, o + 4, none⟩ (.int .i64 p.at_)).setCell ⟨g, o + 5, none⟩ (.string p.cause)).setCell ⟨g, o + 6, none⟩ u
theorem RowOf.evPut {w : World} {base : Nat} {e : TypeId} {g m c : Nat} {M : List Rc} (h : RowOf rcC 10 w base e (.slice (some ⟨g, 0, none⟩) m c) M) (hm : m = M.length) (q : Nat) (hq : q < M.length) {r : Rc} (hr : M[q] = r) (a3 : Option Addr) (c3 : Nat) :
    RowOf rcC 10 (evSet w g (q * 10 + 3) r.e.p (.slice a3 r.e.p.body.length c3)) base e (.slice (some ⟨g, 0, none⟩) m c) (M.set q ⟨r.sh, r.sq, r.at_, ⟨r.e.p, a3, c3⟩⟩) := by
  subst hr
  have h3 := h.storedSame hm rcC_len q hq 3 (by omega) (.string (M[q]).e.p.id) rfl
  have h4 := h3.storedSame hm rcC_len q hq 4 (by omega) (.string (M[q]).e.p.tn) rfl
  have h5 := h4.storedSame hm rcC_len q hq 5 (by omega) (.string (M[q]).e.p.src) rfl
  have h6 := h5.storedSame hm rcC_len q hq 6 (by omega) (.string (M[q]).e.p.key) rfl
  have h7 := h6.storedSame hm rcC_len q hq 7 (by omega) (.int .i64 (M[q]).e.p.at_) rfl
  have h8 := h7.storedSame hm rcC_len q hq 8 (by omega) (.string (M[q]).e.p.cause) rfl
  exact RowOf.stored h8 hm rcC_len q hq 9 (by omega) (.slice a3 (M[q]).e.p.body.length c3) ⟨(M[q]).sh, (M[q]).sq, (M[q]).at_, ⟨(M[q]).e.p, a3, c3⟩⟩ rfl
theorem Chg.evSet {w : World} {g o : Nat} {p : PEv} {u : Value} : Chg [g] w (evSet w g o p u) := by
  unfold Go.Proofs.YtmichbpfmachcaaDoor.evSet
  exact (((((((Chg.refl _ _).setCell _ _ (by simp)).setCell _ _ (by simp)).setCell _ _ (by simp)).setCell _ _ (by simp)).setCell _ _ (by simp)).setCell _ _ (by simp)).setCell _ _ (by simp)
set_option maxHeartbeats 16000000 in
set_option maxRecDepth 100000 in
theorem read_any (h : StmIs w b st f) (ho : st.ok n) (hn : n ≤ 1048575) (k from_ most : Int) :
    Calls Tryd.prog 12 #[.pointer (some ⟨b, 0, none⟩), .int .i64 k, .int .i64 from_, .int .i64 most] w fun x w' => ∃ a' c' M, x = .returned (.tuple #[.slice a' M.length c', .int .i64 (readR st k from_ most).2]) ∧ RecsIn w' a' M ∧ M.map Rc.p = (readR st k from_ most).1 ∧ Chg [] w w' ∧ RecsNew w.heap.size a' M ∧ M.length ≤ c' := by
  have E0 : ∀ w', RecsIn w' none [] := fun w' => ⟨⟨rfl, fun k hk => by simp at hk⟩, fun r hr => by simp at hr⟩
  by_cases hk : k < 0 ∨ (st.sh.length : Int) ≤ k
  · have AF := Lib.hid (stm_find_bad k h ho hk)
    rw [readR_bad k from_ most hk]
    have HE := Lib.hid E0
    clear h ho hk E0
    go_enter Tryd.func12, Tryd.ntmps12
    go_wp2_with fail
    refine AF.out.mono ?_; rintro e1 w1 ⟨rfl, rfl⟩
    go_wp2_with fail
    go_ret2
    exact ⟨none, 0, [], rfl, HE.out _, rfl, Chg.refl _ _, RecsNew.nil _, Nat.le_refl _⟩
  have M := stm_made h ho
  obtain ⟨g, c, D, h1, h2⟩ := h
  have hD : st.sh.length = D.length := by rw [h1, List.length_map]
  obtain ⟨k, rfl⟩ : ∃ m : Nat, k = m := ⟨k.toNat, by omega⟩
  have hk : k < D.length := by omega
  obtain ⟨R, hR⟩ : ∃ R, R = readR st k from_ most := ⟨_, rfl⟩
  rw [← hR]
  unfold readR at hR
  have hget : st.sh[k]? = some (D[k]).p := by rw [h1, List.getElem?_map, List.getElem?_eq_getElem hk]; rfl
  rw [if_neg (by omega), Int.toNat_natCast, hget] at hR
  obtain ⟨o1, o2, o3⟩ := ok_at ho h1 k hk
  have HBL : Hid (∀ r ∈ (D[k]).L, r.e.p.body.length ≤ 1048576) := Lib.hid (fun r hr => by
    obtain ⟨-, -, -, -, -, -, h7⟩ := ho
    have := (h7 (D[k]).p (by rw [h1]; exact List.mem_map.2 ⟨_, List.getElem_mem hk, rfl⟩)).2.2.2 r.p (List.mem_map.2 ⟨r, hr, rfl⟩)
    exact this.2.2)
  have hsl : (D[k]).p.recs.length = (D[k]).L.length := by simp [Sd.p]
  have hsf : (D[k]).p.first = (D[k]).first := rfl
  simp only [hsl, hsf] at hR
  have hmem : D[k] ∈ D := List.getElem_mem hk
  have AF := Lib.hid (stm_find k h2 (by omega) hk M)
  have AN := Lib.hid (snext_any h2 k hk o1 (by omega))
  have HSH := Lib.hid (fun (w' : World) (now' : Int) (hx : StmAt w' b g c D st.keep now' f) => hx.shard k hk)
  have HRC := Lib.hid (h2.recs _ hmem)
  have HBD := Lib.hid (h2.body _ hmem)
  unfold Sd.v at HSH HRC
  have H2 : Hid (∀ w', Chg [] w w' → StmAt w' b g c D st.keep st.now f) := Lib.hid (fun w' hc => h2.kept hc (by simp))
  have HE := Lib.hid E0
  have HD : (D[k]).p.recs = (D[k]).L.map Rc.p := rfl
  generalize D[k] = d at *
  have HDD := Lib.hid HD
  have HLT := Lib.hid (show ∀ g, (Value.slice d.a d.L.length d.c).ownBlock = some g → g < w.heap.size from fun g hg => (HRC.out.block g hg).2)
  clear h1 h2 ho hk hget hsl hsf hmem M hD E0 HD
  obtain ⟨s1, s2⟩ := HSH.out w st.now (H2.out _ (Chg.refl _ _))
  by_cases q1 : from_ < 0
  · rw [if_pos q1] at hR
    subst hR
    go_enter Tryd.func12, Tryd.ntmps12
    go_wp2_with fail
    refine AF.out.mono ?_; rintro e1 w1 ⟨rfl, rfl⟩
    go_wp2_with fail
    go_ret2
    exact ⟨none, 0, [], rfl, HE.out _, rfl, Chg.refl _ _, RecsNew.nil _, Nat.le_refl _⟩
  rw [if_neg q1] at hR
  have L0 : 0 ≤ (d.L.length : Int) := by omega
  have L1 : (d.L.length : Int) ≤ 256 := by omega
  by_cases q2 : d.first + (d.L.length : Int) < from_
  · rw [if_pos q2] at hR
    subst hR
    go_enter Tryd.func12, Tryd.ntmps12
    go_wp2_with fail
    refine AF.out.mono ?_; rintro e1 w1 ⟨rfl, rfl⟩
    go_wp2_with (go_at_call 27; refine AN.out.mono ?_; rintro e2 w2 ⟨rfl, hc2⟩; have C := Lib.hid hc2; have HH := Lib.hid (H2.out _ hc2); obtain ⟨s1, s2⟩ := HSH.out _ _ HH.out; clear hc2)
    go_ret2
    exact ⟨none, 0, [], rfl, HE.out _, rfl, C.out, RecsNew.nil _, Nat.le_refl _⟩
  rw [if_neg q2] at hR
  by_cases q3 : most < 1
  · rw [if_pos q3] at hR
    subst hR
    go_enter Tryd.func12, Tryd.ntmps12
    go_wp2_with fail
    refine AF.out.mono ?_; rintro e1 w1 ⟨rfl, rfl⟩
    go_wp2_with (go_at_call 27; refine AN.out.mono ?_; rintro e2 w2 ⟨rfl, hc2⟩; have C := Lib.hid hc2; have HH := Lib.hid (H2.out _ hc2); obtain ⟨s1, s2⟩ := HSH.out _ _ HH.out; clear hc2)
    go_ret2
    exact ⟨none, 0, [], rfl, HE.out _, rfl, C.out, RecsNew.nil _, Nat.le_refl _⟩
  rw [if_neg q3] at hR
  by_cases q4 : 256 < most
  · rw [if_pos q4] at hR
    subst hR
    go_enter Tryd.func12, Tryd.ntmps12
    go_wp2_with fail
    refine AF.out.mono ?_; rintro e1 w1 ⟨rfl, rfl⟩
    go_wp2_with (go_at_call 27; refine AN.out.mono ?_; rintro e2 w2 ⟨rfl, hc2⟩; have C := Lib.hid hc2; have HH := Lib.hid (H2.out _ hc2); obtain ⟨s1, s2⟩ := HSH.out _ _ HH.out; clear hc2)
    go_ret2
    exact ⟨none, 0, [], rfl, HE.out _, rfl, C.out, RecsNew.nil _, Nat.le_refl _⟩
  rw [if_neg q4] at hR
  by_cases q5 : from_ < d.first
  · rw [if_pos q5] at hR
    subst hR
    go_enter Tryd.func12, Tryd.ntmps12
    go_wp2_with fail
    refine AF.out.mono ?_; rintro e1 w1 ⟨rfl, rfl⟩
    go_wp2_with (go_at_call 27; refine AN.out.mono ?_; rintro e2 w2 ⟨rfl, hc2⟩; have C := Lib.hid hc2; have HH := Lib.hid (H2.out _ hc2); obtain ⟨s1, s2⟩ := HSH.out _ _ HH.out; clear hc2)
    go_ret2
    exact ⟨none, 0, [], rfl, HE.out _, rfl, C.out, RecsNew.nil _, Nat.le_refl _⟩
  rw [if_neg q5] at hR
  have hI := (InIs.ofRow HRC.out rcC_len).2
  have hcap := hI.2.1
  have HI := Lib.hid hI
  clear hI
  obtain ⟨i, hi⟩ : ∃ i : Nat, from_ - d.first = i := ⟨(from_ - d.first).toNat, by omega⟩
  obtain ⟨j, hj⟩ : ∃ j : Nat, min ((i : Int) + most) (d.L.length : Int) = j := ⟨(min ((i : Int) + most) (d.L.length : Int)).toNat, by omega⟩
  have i0 : 0 ≤ (i : Int) := by omega
  have ij : (i : Int) ≤ (j : Int) := by omega
  have jl : (j : Int) ≤ (d.L.length : Int) := by omega
  have jc : (j : Int) ≤ (d.c : Int) := by omega
  have hRL : R = (((d.L.drop i).take (j - i)).map Rc.p, 0) := by
    rw [hR, HDD.out, hi, Int.toNat_natCast, ← List.map_drop, ← List.map_take]
    congr 2
    rcases Nat.lt_or_ge most.toNat (d.L.length - i) with h | h
    · rw [show j - i = most.toNat by omega]
    · rw [List.take_of_length_le (by simp; omega), List.take_of_length_le (by simp; omega)]
  have HRL := Lib.hid hRL
  obtain ⟨P, hP⟩ : ∃ P, P = (d.L.drop i).take (j - i) := ⟨_, rfl⟩
  have hPl : P.length = j - i := by rw [hP]; simp; omega
  have AC1 : Hid (∀ w', Chg [] w w' → j = i → Calls Tryd.prog 30 #[.slice d.a 0 0] w' fun e w'' => ∃ a' c', e = .returned (.slice a' P.length c') ∧ RowOf rcC 10 w'' w'.heap.size 55 (.slice a' P.length c') P ∧ Chg [] w' w'') := Lib.hid (fun w' hc hji => by
    have hP0 : P = [] := List.length_eq_zero_iff.1 (by omega)
    rw [hP0]
    exact cloner_any d.a 0 [] w' ⟨⟨rfl, fun k hk => by simp at hk⟩, by simp, by unfold maxLen; omega, fun _ => rfl⟩ (by simp))
  have AC2 : Hid (∀ w', Chg [] w w' → Calls Tryd.prog 30 #[.slice (Option.map (fun x => x.add (i * 10)) d.a) (j - i) (j - i)] w' fun e w'' => ∃ a' c', e = .returned (.slice a' P.length c') ∧ RowOf rcC 10 w'' w'.heap.size 55 (.slice a' P.length c') P ∧ Chg [] w' w'') := Lib.hid (fun w' hc => by
    have hq := (HI.out.kept hc).piece i j (by omega) (by omega) (d.a.map (fun x => x.add (i * 10))) (.inl rfl)
    rw [← hP] at hq
    have := cloner_any _ _ P w' hq (by omega)
    rw [hPl] at this ⊢
    exact this)
  have HPB : Hid (∀ r ∈ P, BodyIn w f r.e ∧ r.e.p.body.length ≤ 1048576) := Lib.hid (fun r hr => by
    rw [hP] at hr
    have := List.mem_of_mem_drop (List.mem_of_mem_take hr)
    exact ⟨HBD.out r this, HBL.out r this⟩)
  have HP := Lib.hid hP
  rw [← hP] at hRL
  have HRL := Lib.hid hRL
  clear hR hRL hP
  go_enter Tryd.func12, Tryd.ntmps12
  go_wp2_with fail
  refine AF.out.mono ?_; rintro e1 w1 ⟨rfl, rfl⟩
  go_upto_region 10 with (go_at_call 27; refine AN.out.mono ?_; rintro e2 w2 ⟨rfl, hc2⟩; have C := Lib.hid hc2; have HH := Lib.hid (H2.out _ hc2); obtain ⟨s1, s2⟩ := HSH.out _ _ HH.out; clear hc2)
  have HPl := Lib.hid hPl
  clear hPl
  go_cut [13, 14] (fun _ v wx => ∃ a' c', v = .slice a' P.length c' ∧ Hid (RowOf rcC 10 wx w2.heap.size 55 v P) ∧ Hid (Chg [] w2 wx))
  case first =>
    go_wp2_with fail
    · refine (AC1.out _ C.out (by first | rfl | assumption | omega)).mono ?_; rintro e3 w3 ⟨a', c', rfl, hr3, hc3⟩
      have R3 := Lib.hid hr3
      have C3 := Lib.hid hc3
      clear hr3 hc3
      go_wp2_with fail
      go_meet
      exact ⟨a', c', rfl, R3, C3⟩
    · refine (AC2.out _ C.out).mono ?_; rintro e3 w3 ⟨a', c', rfl, hr3, hc3⟩
      have R3 := Lib.hid hr3
      have C3 := Lib.hid hc3
      clear hr3 hc3
      go_wp2_with fail
      go_meet
      exact ⟨a', c', rfl, R3, C3⟩
  case rest =>
    obtain ⟨a', c', rfl, R3, C3⟩ := hcut
    have hPl := HPl.out
    have hPm : (P.length : Int) ≤ 256 := by omega
    have hP0 : 0 ≤ (P.length : Int) := by omega
    have HPL : Hid (P.length ≤ 256) := Lib.hid (by omega)
    clear s1 s2 hj ij jl jc hPl i0 hi
    go_wp2_with fail
    go_loopw [73] (fun t wr => ∃ (q : Nat) (M : List Rc), t = .int .i64 q ∧ q ≤ P.length ∧ Hid (M.length = P.length) ∧ Hid (RowOf rcC 10 wr w2.heap.size 55 (.slice a' P.length c') M) ∧ Hid (M.map Rc.p = P.map Rc.p) ∧ Hid (∀ r ∈ M, BodyAny wr r.e ∧ r.e.p.body.length ≤ 1048576) ∧ Hid (Chg [] w2 wr) ∧ Hid (∀ r ∈ M.take q, ∀ x, r.e.ba = some x → w2.heap.size ≤ x.block)) (fun t _ => P.length - (intOf t).toNat)
    case atStart =>
      refine ⟨0, P, rfl, Nat.zero_le _, Lib.hid rfl, R3, Lib.hid rfl, Lib.hid (fun r hr => ?_), C3, Lib.hid (by simp)⟩
      obtain ⟨q1, q2⟩ := HPB.out r hr
      have q3 := q1.kept (C.out.thenSame C3.out) (by simp)
      exact ⟨⟨q3.1, fun x hx => (q3.2 x hx).2⟩, q2⟩
    case round =>
      obtain ⟨q, M, rfl, hq, HML, HM, HMP, HMB, HMC, HMN⟩ := hrel
      by_cases hlt : q < P.length
      · obtain ⟨g2, rfl⟩ : ∃ g2, a' = some ⟨g2, 0, none⟩ := by
          rcases RowOf.at HM.out rcC_len with ⟨_, h0⟩ | ⟨g2, cap, hv, _⟩
          · have := HML.out; rw [h0] at this; simp at this; omega
          · simp only [Value.slice.injEq] at hv; exact ⟨g2, hv.1⟩
        obtain ⟨-, r2, r3, r4, r5, r6, r7⟩ := RowOf.atS HM.out rcC_len
        have hqM : q < M.length := by rw [HML.out]; exact hlt
        have e4 := r4 q hqM
        have hmm : M[q] ∈ M := List.getElem_mem hqM
        have HQM := Lib.hid hqM
        generalize hr : M[q]'hqM = r at *
        have HR := Lib.hid hr
        have d3 := e4 3 (by omega)
        have d4 := e4 4 (by omega)
        have d5 := e4 5 (by omega)
        have d6 := e4 6 (by omega)
        have d7 := e4 7 (by omega)
        have d8 := e4 8 (by omega)
        have d9 := e4 9 (by omega)
        simp only [rcC, evC, List.getElem?_cons_succ, List.getElem?_cons_zero] at d3 d4 d5 d6 d7 d8 d9
        have A := Lib.hid (sclone_any r.e wr (HMB.out r hmm).1.1 (HMB.out r hmm).2)
        simp only [evC] at A
        have q0 : 0 ≤ (q : Int) := by omega
        have qP : (q : Int) < (P.length : Int) := by omega
        simp only at r5 r7
        clear r2 r3 r4 r6 e4 hr
        go_wp2_with fail
        refine A.out.mono ?_; rintro e4 w4 ⟨a4, c4, rfl, hr4, hc4⟩
        have R4 := Lib.hid hr4
        have K4 := Lib.hid hc4
        obtain ⟨-, -, -, r4, r5, -, r7⟩ := RowOf.atS (HM.out.kept hc4 (by simp)) rcC_len
        have e4 := r4 q hqM
        rw [HR.out] at e4
        have b3 : w4.cell? ⟨g2, q * 10 + 3, none⟩ = some (.string r.e.p.id) := e4 3 (by omega)
        have b4 : w4.cell? ⟨g2, q * 10 + 3 + 1, none⟩ = some (.string r.e.p.tn) := e4 4 (by omega)
        have b5 : w4.cell? ⟨g2, q * 10 + 3 + 2, none⟩ = some (.string r.e.p.src) := e4 5 (by omega)
        have b6 : w4.cell? ⟨g2, q * 10 + 3 + 3, none⟩ = some (.string r.e.p.key) := e4 6 (by omega)
        have b7 : w4.cell? ⟨g2, q * 10 + 3 + 4, none⟩ = some (.int .i64 r.e.p.at_) := e4 7 (by omega)
        have b8 : w4.cell? ⟨g2, q * 10 + 3 + 5, none⟩ = some (.string r.e.p.cause) := e4 8 (by omega)
        have b9 : w4.cell? ⟨g2, q * 10 + 3 + 6, none⟩ = some (.slice r.e.ba r.e.p.body.length r.e.bc) := e4 9 (by omega)
        simp only at r5 r7
        have HM5 := Lib.hid (RowOf.evPut (HM.out.kept hc4 (by simp)) HML.out.symm q hqM HR.out a4 c4)
        have K5 := Lib.hid (Chg.evSet (w := w4) (g := g2) (o := q * 10 + 3) (p := r.e.p) (u := .slice a4 r.e.p.body.length c4))
        have HG := Lib.hid (rowBlk (HM.out.kept hc4 (by simp)) rfl)
        have HG2 : Hid (w2.heap.size ≤ g2) := Lib.hid (HM.out.block g2 rfl).1
        unfold evSet at HM5 K5
        clear hr4 hc4 d3 d4 d5 d6 d7 d8 d9 r4 e4
        go_wp2_with fail
        refine ⟨⟨q + 1, _, by go_num, by omega, Lib.hid (by rw [List.length_set]; exact HML.out), HM5, Lib.hid ?_, Lib.hid ?_, Lib.hid ((HMC.out.thenSame K4.out).then K5.out (fun y hy hlt => by simp at hy; have := HG2.out; omega)), Lib.hid ?_⟩, by simp [intOf]; omega⟩
        · rw [List.map_set, ← HMP.out]
          refine List.ext_getElem (by simp) fun i h1 h2 => ?_
          rw [List.getElem_set]
          split
          · rename_i e
            subst e
            rw [List.getElem_map, HR.out]
            rfl
          · rfl
        · intro r' hr'
          have hng : ∀ (e : Ev), BodyAny w4 e → ∀ x, e.ba = some x → x.block ∉ [g2] := fun e he x hx hm => by
            obtain ⟨cur, hcur⟩ := he.2 x hx
            obtain ⟨cur', hcur'⟩ := HG.out
            simp at hm
            rw [hm, hcur'] at hcur
            simp at hcur
          rcases List.mem_or_eq_of_mem_set hr' with h | rfl
          · obtain ⟨u1, u2⟩ := HMB.out r' h
            have u3 := u1.keptAt K4.out (by simp)
            exact ⟨u3.keptAt K5.out (hng _ u3), u2⟩
          · have u3 : BodyAny w4 (⟨r.e.p, a4, c4⟩ : Ev) := ⟨(InIs.ofRow R4.out ceC_len).2, fun x hx => rowBlk R4.out (by simp only at hx; rw [hx]; rfl)⟩
            exact ⟨u3.keptAt K5.out (hng _ u3), (HMB.out r hmm).2⟩
        · intro r' hr' x hx
          rw [List.take_set, List.take_succ_eq_append_getElem hqM, List.set_append_right _ _ (by simp; omega)] at hr'
          rcases List.mem_append.1 hr' with h | h
          · exact HMN.out r' h x hx
          · have hlen : (List.take q M).length = q := by simp; omega
            rw [hlen, Nat.sub_self] at h
            simp at h
            subst h
            have hob : (Value.slice a4 r.e.p.body.length c4).ownBlock = some x.block := by simp only at hx; rw [hx]; rfl
            exact Nat.le_trans HMC.out.size (R4.out.block _ hob).1
      · have hqs : q = P.length := by omega
        subst hqs
        go_wp2_with fail
        go_ret2
        rw [HRL.out]
        refine ⟨a', c', M, by rw [HML.out]; rfl, ⟨?_, fun r hr => (HMB.out r hr).1.1⟩, HMP.out, C.out.thenSame HMC.out, ⟨fun x hx => Nat.le_trans C.out.size (HM.out.block x.block (by rw [hx]; rfl)).1, fun r hr x hx => Nat.le_trans C.out.size (HMN.out r (by rw [List.take_of_length_le (by have := HML.out; omega)]; exact hr) x hx)⟩, ?_⟩
        · have := (RowOf.sl HM.out rcC_len).1
          rw [← HML.out] at this
          exact this
        · have := (RowOf.sl HM.out rcC_len).2.1
          have := HML.out
          omega
end Go.Proofs.YtmichbpfmachcaaDoor
