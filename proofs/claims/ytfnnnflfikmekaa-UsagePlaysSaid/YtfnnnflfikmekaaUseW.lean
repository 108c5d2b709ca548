/- Chapter 52: the example that each statement checks: the states. No condition. -/
import Derived.Test.YtfnnnflfikmekaaUseV
namespace Go.Proofs.Ytfnnnflfikmekaa
set_option linter.unusedVariables false
set_option linter.unusedSimpArgs false
open Go.RowKit
def awR (id fn : UInt8) (n : Int) : UR := ⟨⟨#[id]⟩, ⟨#[116]⟩, ⟨#[fn]⟩, 0, ⟨1, 1, 1, n⟩, false⟩
def as0 : Led := ⟨[], 0⟩
def as1 : Led := ⟨[⟨awR 97 102 3, 0⟩], 0⟩
def as2 : Led := ⟨[⟨awR 97 102 3, 0⟩, ⟨awR 98 103 4, 0⟩], 0⟩
def as3 : Led := ⟨[⟨awR 97 102 3, 0⟩, ⟨awR 98 103 4, 0⟩], 1⟩
theorem awE1 : recE as0 (awR 97 102 3) = 0 := by kernel_rfl
theorem awE2 : recE as1 (awR 98 103 4) = 0 := by kernel_rfl
theorem awE3 : recE as2 (awR 97 102 3) = 0 := by kernel_rfl
theorem awE4 : recE as2 (awR 97 102 4) = 19 := by kernel_rfl
theorem awS1 : recS as0 (awR 97 102 3) = as1 := by kernel_rfl
theorem awS2 : recS as1 (awR 98 103 4) = as2 := by kernel_rfl
theorem awS3 : recS as2 (awR 97 102 3) = as2 := by kernel_rfl
theorem awS4 : recS as2 (awR 97 102 4) = as2 := by kernel_rfl
theorem awT : totU as2 ⟨#[116]⟩ 0 = (⟨2, 2, 2, 7⟩, 0) := by kernel_rfl
theorem awF0 : fnL ⟨#[116]⟩ 0 as2.l = [[102], [103]] := by kernel_rfl
theorem awF : fnsU as2 ⟨#[116]⟩ 0 = [[102], [103]] := by
  unfold fnsU
  rw [awF0]
  have : ([[102], [103]] : List (List UInt8)).mergeSort leB = [[102], [103]] := by
    refine List.mergeSort_of_pairwise ?_
    simp [leB]
    decide
  have c : Lib.compact ([[102], [103]] : List (List UInt8)) = [[102], [103]] := by kernel_rfl
  rw [this, c]
theorem awC1 : closeE as2 0 = 0 := by kernel_rfl
theorem awD1 : closeS as2 0 = as3 := by kernel_rfl
theorem awC2 : closeE as3 0 = 11 := by kernel_rfl
theorem awD2 : closeS as3 0 = as3 := by kernel_rfl
theorem awG1 : (awR 97 102 3).good := ⟨by decide, by decide, by decide, by decide, by decide, by decide, by decide, by decide⟩
theorem awG2 : (awR 98 103 4).good := ⟨by decide, by decide, by decide, by decide, by decide, by decide, by decide, by decide⟩
theorem awG4 : (awR 97 102 4).good := ⟨by decide, by decide, by decide, by decide, by decide, by decide, by decide, by decide⟩
end Go.Proofs.Ytfnnnflfikmekaa
