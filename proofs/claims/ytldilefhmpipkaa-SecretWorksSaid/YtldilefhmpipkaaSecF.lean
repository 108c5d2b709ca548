/- Chapter 22: contract of the program: Redact. No condition. -/
import Derived.Test.YtldilefhmpipkaaSecD
import Derived.Test.YtldilefhmpipkaaSecQ
import Derived.Test.YtldilefhmpipkaaBld
import Derived.Test.YtldilefhmpipkaaRown
import Derived.Lib.MinMax
import Derived.BigRegion
import Derived.RegionTactic
import Derived.ChangeAlike
namespace Go.Proofs.Ytldilefhmpipkaa
set_option linter.unusedVariables false
set_option linter.unusedSimpArgs false
open Go.RowKit

theorem builder_kept {T e : TypeId} {B b : Nat} {bs : List Value} {w w' : World} (h : Lib.IsBuilder T e B b bs w) (hc : Chg [] w w') : Lib.IsBuilder T e B b bs w' := by
  have key : ∀ p, Lib.BuilderAt T e B b p bs w → Lib.BuilderAt T e B b p bs w' := by
    rintro p ⟨h1, v, h2, ⟨h3, h4⟩, h5⟩
    refine ⟨h1, v, hc.at (by simp) h2, ⟨h3, ?_⟩, h5⟩
    rcases h4 with h4 | ⟨g, cap, cur, hv, hg, hh, r⟩
    · exact .inl h4
    · exact .inr ⟨g, cap, cur, hv, hg, hc.at (by simp) hh, r⟩
  rcases h with h | h
  · exact .inl (key _ h)
  · exact .inr (key _ h)

theorem delL_lt {α : Type} {kf : α → ByteArray} {l : List α} {x : α} (hx : x ∈ l) : (delL kf l (kf x)).length < l.length := by
  unfold delL; exact List.length_filter_lt_length_iff_exists.2 ⟨x, hx, by simp⟩
theorem Chg.thenBelow {S : List Nat} {a b c : World} (h : Chg S a b) (k : Below a.heap.size b c) : Chg S a c :=
  ⟨k.os.trans h.os, k.tape.trans h.tape, k.output.trans h.output, Nat.le_trans h.size k.size, fun i hi hn => (k.block i hi).trans (h.block i hi hn)⟩
theorem byteCells_snoc (o : List UInt8) (c : UInt8) : Lib.byteCells o ++ [.int .u8 c.toNat] = Lib.byteCells (o ++ [c]) := by simp [Lib.byteCells]
theorem byteCells_star (o : List UInt8) : Lib.byteCells o ++ Lib.strCells ⟨#[42, 42, 42]⟩ = Lib.byteCells (o ++ [42, 42, 42]) := by simp [Lib.byteCells, Lib.strCells]

def redS (L : List S0) (s : ByteArray) : ByteArray := ⟨(red (texts L) (byt s)).toArray⟩
def strLen : Value → Nat | .string r => r.size | _ => 0

set_option maxHeartbeats 16000000 in
set_option maxRecDepth 100000 in
theorem redact_any (vb mb : Nat) (l : List Sec) (s : ByteArray) (w : World) (h : VIs w vb mb l) (hs : s.size ≤ 4096) :
    Calls Try.prog 14 #[.pointer (some ⟨vb, 0, none⟩), .string s] w fun e w' => e = .returned (.string (redS (l.map Sec.s) s)) ∧ Chg [] w w' := by
  have H := Lib.hid h
  have hc := blk_cell h.1
  have hm := fun w => run_eql_map_nil (P := Try.prog) w 50 9 61 (some mb) Try.underlying50
  have Hd := Lib.hid h.nodup
  obtain ⟨T, hT⟩ : ∃ T, T = texts (l.map Sec.s) := ⟨_, rfl⟩
  have HT := Lib.hid hT
  clear h hT
  go_enter Try.func14, Try.ntmps14
  go_wp2_with fail
  clear hc
  go_loopw [1] (fun sv wr => ∃ (r : ByteArray) (o : List UInt8), sv = .string r ∧ Lib.IsBuilder 60 5 w.heap.size w.heap.size (Lib.byteCells o) wr ∧ Hid (o ++ red T (byt r) = red T (byt s)) ∧ r.size ≤ s.size ∧ Chg [] w wr) (fun sv _ => strLen sv)
  case atStart => exact ⟨s, [], rfl, Lib.fresh_isBuilder _ _ w, Lib.hid rfl, Nat.le_refl _, (Chg.refl _ _).alloc _⟩
  case round =>
    obtain ⟨r, o, rfl, hbd, Ho, hrs, hch⟩ := hrel
    have HC := Lib.hid hch
    have HB := Lib.hid hbd
    have Hol : Hid (o.length ≤ 12288) := Lib.hid (by
      have h1 := congrArg List.length Ho.out
      have h2 := red_len T _ (byt s) (Nat.le_refl _)
      rw [byt_len] at h2
      simp at h1; omega)
    have hwl := hch.size
    clear hch hbd
    by_cases hz : r.size = 0
    · have hr : r = ⟨#[]⟩ := nil_size.2 hz
      subst hr
      have HR : Hid (redS (l.map Sec.s) s = ⟨o.toArray⟩) := Lib.hid (by
        unfold redS
        rw [← HT.out, ← Ho.out, show byt (⟨#[]⟩ : ByteArray) = [] from rfl, red_nil, List.append_nil])
      have A := Lib.hid (Try.Builder_String_any w.heap.size w.heap.size o wr HB.out hwl)
      go_wp2_with fail
      refine A.out.mono ?_; rintro e w1 ⟨rfl, hb1⟩
      have C1 := Lib.hid (HC.out.thenBelow hb1)
      clear hb1
      go_wp2_with fail
      go_ret
      rw [HR.out]
      exact ⟨rfl, C1.out⟩
    · have hn : ¬ r.toList = [] := fun h => hz (toList_nil.1 h)
      have hn2 : (!r.toList.isEmpty) = true := by simpa using hn
      have V := Lib.hid (H.out.keptN HC.out)
      have p := blk_cell V.out.1
      obtain ⟨wo, rfl⟩ : ∃ wo : World, wo = wr := ⟨_, rfl⟩
      go_wp2_with (first | (at_range; refine wpl_range _ rfl _ 50 rfl 9 61 Try.underlying50 mb l rfl V.out.2.1 ?_; intro w0 hit0 hc0 hs0) | fail)
      go_frame
      clear p
      go_loopw [6] (fun n wr => ∃ (k : Nat) (todo : List Sec), n = .int .i64 k ∧ Hid (Seen l todo (byt r) k) ∧ k ≤ r.size ∧ IterIs Sec.name secV wr mb wo.heap.size l todo ∧ Chg [] wo wr) (fun _ wr => wr.rangeLeft mb wo.heap.size)
      case atStart => exact ⟨0, l, rfl, Lib.hid (seen_start _ _), Nat.zero_le _, hit0, hc0⟩
      case round =>
        obtain ⟨k, todo, rfl, HS, hkr, hit, hch⟩ := hrel
        have HC2 := Lib.hid hch
        clear hc0 hit0 hs0 hch
        go_wp2_with (first | (at_next; refine wpl_next _ rfl _ rfl mb wo.heap.size l todo rfl hit ?_ ?_) | fail)
        · intro h0
          have hk := seen_end (h0 ▸ HS.out)
          rw [← HT.out] at hk
          have HC3 := Lib.hid (HC.out.thenSame HC2.out)
          have HB3 := Lib.hid (builder_kept HB.out HC2.out)
          have hwl3 := HC3.out.size
          by_cases hk0 : k = 0
          · have hz1 : 0 < r.size := by omega
            have Hred := Lib.hid (red_zero (byt_cons r hz1) (hk0 ▸ hk.symm))
            subst hk0
            have A := Lib.hid (fun c => writeByte_any w.heap.size w.heap.size (Lib.byteCells o) c wr HB3.out (by rw [Lib.byteCells_length]; have := Hol.out; omega) hwl3)
            have hz2 : (1 : Int) ≤ (r.size : Int) := by omega
            clear hk hz
            go_wp2_with fail
            refine (A.out _).mono ?_; rintro e w4 ⟨rfl, hb4, hbl4⟩
            have HB4 := Lib.hid hb4
            have C4 := Lib.hid (HC3.out.thenBelow hbl4)
            clear hb4 hbl4
            go_wp2_with fail
            refine ⟨⟨_, o ++ [r[0]], rfl, .inr ?_, ?_, ?_, C4.out⟩, ?_⟩
            · have := HB4.out
              rw [← byteCells_snoc]
              exact this
            · refine Lib.hid ?_
              rw [byt_drop, ← Ho.out, Hred.out]
              simp
            · simp; omega
            · simp [strLen]; omega
          · have Hred := Lib.hid (red_some (ts := T) (s := byt r) (by omega))
            rw [← hk] at Hred
            have A := Lib.hid (writeString_any w.heap.size w.heap.size (Lib.byteCells o) ⟨#[42, 42, 42]⟩ wr HB3.out (by rw [Lib.byteCells_length]; have := Hol.out; show o.length + 3 ≤ _; omega) hwl3)
            have hkb : ((k : Int) == 0) = false := beq_eq_false_iff_ne.2 (by omega)
            have hk1 : (0 : Int) ≤ (k : Int) := by omega
            have hk2 : (k : Int) ≤ (r.size : Int) := by omega
            have hk3 : 0 < k := by omega
            clear hk hz hk0
            go_wp2_with fail
            refine A.out.mono ?_; rintro e w4 ⟨rfl, hb4, hbl4⟩
            have HB4 := Lib.hid hb4
            have C4 := Lib.hid (HC3.out.thenBelow hbl4)
            clear hb4 hbl4
            go_wp2_with fail
            refine ⟨⟨_, o ++ [42, 42, 42], rfl, .inr ?_, ?_, ?_, C4.out⟩, ?_⟩
            · have := HB4.out
              rw [← byteCells_star]
              exact this
            · refine Lib.hid ?_
              rw [byt_drop, ← Ho.out, Hred.out]
              simp
            · simp; omega
            · simp [strLen]; omega
        · intro x w1 hx hit1 hch1 hs1 hen
          have hxl : x ∈ l := hit.sub.subset hx
          have Hst := Lib.hid (seen_step Hd.out hxl HS.out)
          have Hleft := Lib.hid hit.left
          have Hlen := Lib.hid (delL_lt (kf := Sec.name) hx)
          have HC1 := Lib.hid (HC2.out.then hch1 (by intro y hy hlt; simp at hy; omega))
          have V1 := Lib.hid (V.out.keptN HC1.out)
          have p1 := blk_cell (V1.out.2.2.1 x hxl).1
          simp only [entC] at p1
          have Hit1 := Lib.hid hit1
          have hb5 := heap_alloc_new w1 (.cells #[.string x.s.text, .string x.s.before] 9)
          have c5 : ∀ i, ((w1.alloc (.cells #[.string x.s.text, .string x.s.before] 9)).drew).cell? ⟨w1.heap.size, i, none⟩ = #[Value.string x.s.text, Value.string x.s.before][i]? := fun i => blk_cell (w := (w1.alloc (.cells #[.string x.s.text, .string x.s.before] 9)).drew) hb5 i
          have HC5 := Lib.hid (HC1.out.alloc (.cells #[.string x.s.text, .string x.s.before] 9)).drew
          have Hit5 := Lib.hid (Hit1.out.kept (((Chg.refl [] w1).alloc (.cells #[.string x.s.text, .string x.s.before] 9)).drew) (by simp) (by simp))
          have Hup1 := Lib.hid (up_le (byt r) (byt x.s.text) (n := k) (by rw [byt_len]; exact hkr))
          have Hup2 := Lib.hid (up_le (byt r) (byt x.s.before) Hup1.out)
          rw [byt_len] at Hup2
          unfold secV at hen
          have Hs1 := Lib.hid hs1
          clear hit hch1 hit1 hb5 hs1
          go_wp2_with fail
          go_region
          go_wp2_with fail
          go_loop [6, 42] (fun n i => ∃ j : Nat, i = .int .i64 j ∧ ((j = 0 ∧ n = .int .i64 k) ∨ (j = 1 ∧ n = .int .i64 (up (byt r) (byt x.s.text) k : Nat)) ∨ (j = 2 ∧ n = .int .i64 (up (byt r) (byt x.s.before) (up (byt r) (byt x.s.text) k) : Nat)))) (fun _ i => 2 - (intOf i).toNat)
          case atStart => exact ⟨0, rfl, .inl ⟨rfl, rfl⟩⟩
          case round =>
            obtain ⟨j, rfl, hj⟩ := hrel
            have q0 := c5 0
            have q1 := c5 1
            simp only [List.getElem?_toArray, List.getElem?_cons_zero, List.getElem?_cons_succ] at q0 q1
            have HPf := Lib.hid (fun p w => Try.strings_HasPrefix r p w)
            rcases hj with ⟨rfl, rfl⟩ | ⟨rfl, rfl⟩ | ⟨rfl, rfl⟩
            · clear c5 p1
              by_cases hp : (byt x.s.text).isPrefixOf (byt r) = true
              · have Hu : Hid (up (byt r) (byt x.s.text) k = max k x.s.text.size) := Lib.hid (by unfold up; rw [if_pos hp, byt_len])
                have A := HPf.out x.s.text
                rw [show Lib.hasPrefix r.data.toList x.s.text.data.toList = true from hp] at A
                have A := Lib.hid A
                rename_i A0
                clear A0 hp
                go_wp2_with fail
                refine (A.out _).mono ?_; rintro e w6 ⟨rfl, rfl⟩
                go_wp2_with fail
                refine ⟨⟨1, rfl, .inr (.inl ⟨rfl, ?_⟩)⟩, by simp [intOf]⟩
                rw [Hu.out]; congr 1; omega
              · have Hu : Hid (up (byt r) (byt x.s.text) k = k) := Lib.hid (by unfold up; rw [if_neg hp])
                have A := HPf.out x.s.text
                rw [show Lib.hasPrefix r.data.toList x.s.text.data.toList = false from Bool.eq_false_iff.2 hp] at A
                have A := Lib.hid A
                rename_i A0
                clear A0 hp
                go_wp2_with fail
                refine (A.out _).mono ?_; rintro e w6 ⟨rfl, rfl⟩
                go_wp2_with fail
                refine ⟨⟨1, rfl, .inr (.inl ⟨rfl, ?_⟩)⟩, by simp [intOf]⟩
                rw [Hu.out]
            · obtain ⟨n1, hn1⟩ : ∃ n1, n1 = up (byt r) (byt x.s.text) k := ⟨_, rfl⟩
              rw [← hn1]
              clear c5 p1 hn1
              by_cases hp : (byt x.s.before).isPrefixOf (byt r) = true
              · have Hu : Hid (up (byt r) (byt x.s.before) n1 = max n1 x.s.before.size) := Lib.hid (by unfold up; rw [if_pos hp, byt_len])
                have A := HPf.out x.s.before
                rw [show Lib.hasPrefix r.data.toList x.s.before.data.toList = true from hp] at A
                have A := Lib.hid A
                rename_i A0
                clear A0 hp
                go_wp2_with fail
                refine (A.out _).mono ?_; rintro e w6 ⟨rfl, rfl⟩
                go_wp2_with fail
                refine ⟨⟨2, rfl, .inr (.inr ⟨rfl, ?_⟩)⟩, by simp [intOf]⟩
                rw [Hu.out]; congr 1; omega
              · have Hu : Hid (up (byt r) (byt x.s.before) n1 = n1) := Lib.hid (by unfold up; rw [if_neg hp])
                have A := HPf.out x.s.before
                rw [show Lib.hasPrefix r.data.toList x.s.before.data.toList = false from Bool.eq_false_iff.2 hp] at A
                have A := Lib.hid A
                rename_i A0
                clear A0 hp
                go_wp2_with fail
                refine (A.out _).mono ?_; rintro e w6 ⟨rfl, rfl⟩
                go_wp2_with fail
                refine ⟨⟨2, rfl, .inr (.inr ⟨rfl, ?_⟩)⟩, by simp [intOf]⟩
                rw [Hu.out]
            · clear c5 p1
              go_wp2_with fail
              refine ⟨⟨_, _, rfl, Hst, Hup2.out, Hit5.out, HC5.out⟩, ?_⟩
              rw [Hit5.out.left, Hleft.out]
              exact Hlen.out
end Go.Proofs.Ytldilefhmpipkaa
