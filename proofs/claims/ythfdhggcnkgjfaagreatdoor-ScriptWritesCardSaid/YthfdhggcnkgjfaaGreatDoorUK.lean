/- The laid tables are what is read. -/
import Derived.Test.YthfdhggcnkgjfaaGreatDoorUB
import Derived.Lib.LaidTab
import Derived.Lib.Tables
import Derived.Stop.LaidErr
import Derived.MakeChecks
namespace Go.Proofs.YthfdhggcnkgjfaaGreatDoor
set_option linter.unusedVariables false
def bru : List Int := [0, 1, 56, 2, 57, 49, 28, 3, 61, 58, 42, 50, 38, 29, 17, 4, 62, 47, 59, 36, 45, 43, 51, 22, 53, 39, 33, 30, 24, 18, 12, 5, 63, 55, 48, 27, 60, 41, 37, 16, 46, 35, 44, 21, 52, 32, 23, 11, 54, 26, 40, 15, 34, 20, 31, 10, 25, 14, 19, 9, 13, 8, 7, 6]
set_option maxRecDepth 20000 in
theorem tabs_of (W : World) (h : laidMet Tryz.prog Rows.scriptReadsRow.laid W) : Tabs W := by
  have t1 := laidMet.tail h
  have t2 := laidMet.tail t1
  have hp : Lib.TabIs Tryz.prog W "internal/strconv.uint64pow10" .u64 Lib.pow10Tab := Lib.tabIs_of_head (g := 1) (t := 143) (e := 23) (n := 20) (by kernel_rfl) (by kernel_rfl) (by kernel_rfl) (by kernel_rfl) (by kernel_rfl) (by kernel_rfl) (show laidMet Tryz.prog (("internal/strconv.uint64pow10", Lib.tabData .u64 Lib.pow10Tab) :: _) W from t2)
  have hd : Lib.TabIs Tryz.prog W "math/bits.deBruijn64tab" .u8 bru := Lib.tabIs_of_head (g := 3) (t := 152) (e := 5) (n := 64) (by kernel_rfl) (by kernel_rfl) (by kernel_rfl) (by kernel_rfl) (by kernel_rfl) (by kernel_rfl) (show laidMet Tryz.prog (("math/bits.deBruijn64tab", Lib.tabData .u8 bru) :: _) W from t1)
  have c := hd.cell (g := 3) (by kernel_rfl) 15 (by decide)
  refine ⟨hp, c, ?_⟩
  have t3 := laidMet.tail t2
  obtain ⟨ps, ⟨g', t', cs, fuel, p, q, hg', ht', hvar, hd', _, _⟩, _⟩ := t3
  unfold World.var? at hvar
  rw [show Tryz.prog.globalNamed "unicode/utf8.acceptRanges" = some 5 by kernel_rfl] at hvar
  simp only [Option.bind_some] at hvar
  cases hh : W.heap[5]? with
  | none => rw [hh] at hvar; cases hvar
  | some b => exact (Array.getElem?_eq_some_iff.1 hh).1
end Go.Proofs.YthfdhggcnkgjfaaGreatDoor
