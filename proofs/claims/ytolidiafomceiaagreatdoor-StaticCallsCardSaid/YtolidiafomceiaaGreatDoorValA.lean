/- Values (chapters 30, 50): contracts: text, plain, Valid, quoted, size. Condition (size): the table of Itoa lies as the program lays it. -/
import Derived.Test.YtolidiafomceiaaGreatDoorShelfG
import Derived.Test.YtolidiafomceiaaGreatDoorId
import Derived.Test.YtolidiafomceiaaGreatDoorInl
namespace Go.Proofs.YtolidiafomceiaaGreatDoor
set_option linter.unusedVariables false
set_option linter.unusedSimpArgs false
open Go.RowKit Go.ChangeShapes Go.WideShapes
open Go.ChangeMaps (open_string)

structure Ce where
  kind : Int
  n : Int
  str : ByteArray
  cn : Int
def ceC (x : Ce) : List Value := [.int .i64 x.kind, .int .i64 x.n, .string x.str, .int .i64 x.cn]
def Ce.good (x : Ce) : Prop := (Lit.int .i64 x.kind).wf = true ∧ (Lit.int .i64 x.n).wf = true ∧ x.str.size ≤ maxLen ∧ (Lit.int .i64 x.cn).wf = true
theorem ceC_len (x : Ce) : (ceC x).length = 4 := rfl
theorem ceC_one (x : Ce) : ∀ u ∈ ceC x, u.oneCell' = true := by intro u hu; simp [ceC] at hu; rcases hu with rfl | rfl | rfl | rfl <;> rfl
theorem dec_Ce {H : Type} {enc : TypeId × Value → H} {w : World} {base : Nat} {spare : Nat → Bool} {held : Bool} {fs : Array Field} (hfs : Tryz.prog.underlying 149 = some (.struct fs)) (f : Nat → Value)
    (h : ∀ (j : Nat) (fd : Field), fs[j]? = some fd → ∃ (y : DataW H × List MemPlace) (n : Nat), DataW.trod enc Tryz.prog w base spare held n fd.type [f j] = some y) : ∃ x : Ce, x.good ∧ ∀ j, j < fs.size → (ceC x)[j]? = some (f j) := by
  rw [Tryz.underlying149] at hfs
  cases hfs
  obtain ⟨y0, n0, h0⟩ := h 0 _ rfl
  obtain ⟨a0, e0, _, w0⟩ := DataW.trod_int Tryz.underlying147 h0
  obtain ⟨y1, n1, h1⟩ := h 1 _ rfl
  obtain ⟨a1, e1, _, w1⟩ := DataW.trod_int Tryz.underlying3 h1
  obtain ⟨y2, n2, h2⟩ := h 2 _ rfl
  obtain ⟨a2, e2, _, w2⟩ := DataW.trod_string Tryz.underlying9 h2
  obtain ⟨y3, n3, h3⟩ := h 3 _ rfl
  obtain ⟨a3, e3, _, w3⟩ := DataW.trod_int Tryz.underlying3 h3
  simp only [List.cons.injEq, and_true] at e0 e1 e2 e3
  refine ⟨⟨a0, a1, a2, a3⟩, ⟨w0, w1, w2, w3⟩, fun j hj => ?_⟩
  match j, hj with
  | 0, _ => simp [ceC, e0]
  | 1, _ => simp [ceC, e1]
  | 2, _ => simp [ceC, e2]
  | 3, _ => simp [ceC, e3]
set_option maxRecDepth 100000 in
theorem open_Ce {H : Type} {enc : TypeId × Value → H} {w : World} {base : Nat} {spare : Nat → Bool} {held : Bool} {r : Reach} {b0 : Nat} {v : Value} {d : DataW H} {ps : List MemPlace}
    (hv : Value.okWide Tryz.prog w r b0 149 v) (h : DataW.Trod enc Tryz.prog w base spare held 149 v d ps) : ∃ x : Ce, v = .agg (ceC x).toArray ∧ x.good :=
  open_st ceC Ce.good Tryz.underlying149 (by kernel_rfl) (by kernel_rfl) (fun _ => rfl) (dec_Ce Tryz.underlying149) hv h
set_option maxRecDepth 100000 in
theorem opens_Ce {H : Type} {enc : TypeId × Value → H} {w : World} {base : Nat} {spare : Nat → Bool} {held : Bool} {a : Option Addr} {len cap : Nat} {d : DataW H} {ps : List MemPlace}
    (h : DataW.Trod enc Tryz.prog w base spare held 142 (.slice a len cap) d ps) : ∃ l : List Ce, SlIs ceC 4 w a len l ∧ (∀ x ∈ l, x.good) ∧ len ≤ maxLen ∧ len ≤ cap := by
  obtain ⟨l, h1, h2, h3⟩ := open_sl ceC Ce.good Tryz.underlying142 Tryz.underlying149 (by kernel_rfl) (by kernel_rfl) (by decide) (fun _ => rfl) (dec_Ce Tryz.underlying149) h
  exact ⟨l, h1, h2, h3, trod_cap Tryz.underlying142 h⟩
def ceV (x : Ce) : Value := .agg #[.int .i64 x.kind, .int .i64 x.n, .string x.str, .int .i64 x.cn]
def ceO (x : Ce) : Obj := .cells #[.int .i64 x.kind, .int .i64 x.n, .string x.str, .int .i64 x.cn] 149
def textB (s : ByteArray) : Bool := s.data.toList.all (fun c => decide (32 ≤ c.toNat) && decide (c.toNat ≤ 126))
theorem text_any (s : ByteArray) (w : World) (hs : s.size ≤ maxLen) : Calls Tryz.prog 146 #[.string s] w fun e w' => e = .returned (.bool (textB s)) ∧ w = w' := by
  unfold maxLen at hs
  obtain ⟨R, hR⟩ : ∃ R, R = textB s := ⟨_, rfl⟩
  rw [← hR]
  have HR := Lib.hid hR
  clear hR
  go_enter Tryz.func146, Tryz.ntmps146
  go_wp2_with fail
  go_loop [6] (fun i => ∃ p : Nat, i = .int .i64 p ∧ p ≤ s.size ∧ (s.data.toList.take p).all (fun c => decide (32 ≤ c.toNat) && decide (c.toNat ≤ 126)) = true) (fun i => s.size - (intOf i).toNat)
  case atStart => exact ⟨0, rfl, Nat.zero_le _, by simp⟩
  case round =>
    obtain ⟨p, rfl, hp, hall⟩ := hrel
    have Hall := Lib.hid hall
    clear hall
    by_cases hlt : p < s.size
    · have hst := all_take_succ s.data.toList (fun c => decide (32 ≤ c.toNat) && decide (c.toNat ≤ 126)) p (by simpa using hlt)
      rw [Hall.out, Bool.true_and] at hst
      have hno : (decide (32 ≤ (s[p]'hlt).toNat) && decide ((s[p]'hlt).toNat ≤ 126)) = false → textB s = false := fun h => by
        unfold textB
        rw [List.all_eq_false]
        exact ⟨s[p]'hlt, by simp [ByteArray.getElem_eq_getElem_data], by simp [h]⟩
      have he : s.data.toList[p]'(by simpa using hlt) = s[p]'hlt := by simp [ByteArray.getElem_eq_getElem_data]
      rw [he] at hst
      have HST := Lib.hid hst
      have HNO := Lib.hid hno
      clear hst hno he
      by_cases h1 : ((s[p]'hlt).toNat : Int) < 32
      · have HE : Hid (R = false) := Lib.hid (by rw [HR.out, HNO.out]; rw [decide_eq_false (by omega)]; rfl)
        go_wp2_with fail
        go_ret
        exact ⟨by rw [HE.out]; rfl, rfl⟩
      · have h1' : (32 : Int) ≤ ((s[p]'hlt).toNat : Int) := by omega
        by_cases h2 : (126 : Int) < ((s[p]'hlt).toNat : Int)
        · have HE : Hid (R = false) := Lib.hid (by rw [HR.out, HNO.out]; rw [show decide ((s[p]'hlt).toNat ≤ 126) = false from decide_eq_false (by omega), Bool.and_false])
          go_wp2_with fail
          go_ret
          exact ⟨by rw [HE.out]; rfl, rfl⟩
        · have h2' : ((s[p]'hlt).toNat : Int) ≤ 126 := by omega
          have HS2 := Lib.hid (HST.out.trans (show (decide (32 ≤ (s[p]'hlt).toNat) && decide ((s[p]'hlt).toNat ≤ 126)) = true by rw [decide_eq_true (by omega), decide_eq_true (by omega)]; rfl))
          go_wp2_with fail
          exact ⟨⟨p + 1, by go_num, by omega, HS2.out⟩, by simp [intOf]; omega⟩
    · have hps : p = s.size := by omega
      have HE : Hid (R = true) := Lib.hid (by
        rw [HR.out]
        have := Hall.out
        rw [List.take_of_length_le (by simp; omega)] at this
        exact this)
      subst hps
      go_wp2_with fail
      go_ret
      exact ⟨by rw [HE.out]; rfl, rfl⟩
def validB (n : Int) : Bool := decide (-1000000000000 ≤ n) && decide (n ≤ 1000000000000)
theorem valid_any (n : Int) (w : World) : Calls Tryz.prog 144 #[.int .i64 n] w fun e w' => e = .returned (.bool (validB n)) ∧ w = w' := by
  by_cases h1 : -1000000000000 ≤ n
  · go_enter Tryz.func144, Tryz.ntmps144
    go_wp2
    go_ret
    exact ⟨by simp [validB, h1], rfl⟩
  · go_enter Tryz.func144, Tryz.ntmps144
    go_wp2
    go_ret
    exact ⟨by simp [validB, h1]; try omega, rfl⟩
def quotZ (s : ByteArray) : Int := IntKind.i64.wrap (IntKind.i64.wrap (IntKind.i64.wrap ((s.size : Int) + 2) + (Lib.countByte s.data.toList 34 : Nat)) + (Lib.countByte s.data.toList 92 : Nat))
theorem quoted_any (s : ByteArray) (w : World) : Calls Tryz.prog 142 #[.string s] w fun e w' => e = .returned (.int .i64 (quotZ s)) ∧ w = w' := by
  have A1 := Lib.hid (fun w' => Tryz.strings_Count_one s 34 w')
  have A2 := Lib.hid (fun w' => Tryz.strings_Count_one s 92 w')
  unfold quotZ
  generalize Lib.countByte s.data.toList 34 = c1 at *
  generalize Lib.countByte s.data.toList 92 = c2 at *
  go_enter Tryz.func142, Tryz.ntmps142
  go_wp2_with fail
  refine (A1.out _).mono ?_; rintro e w1 ⟨rfl, rfl⟩
  go_wp2_with fail
  refine (A2.out _).mono ?_; rintro e w2 ⟨rfl, rfl⟩
  go_wp2_with fail
  go_ret
  exact ⟨by simp [IntWalk.i64_left], rfl⟩
end Go.Proofs.YtolidiafomceiaaGreatDoor
