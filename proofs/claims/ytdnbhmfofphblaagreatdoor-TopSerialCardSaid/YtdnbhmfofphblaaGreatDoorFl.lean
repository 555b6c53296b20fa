/- Arguments that are an address or a flow, opened. -/
import Derived.Test.YtdnbhmfofphblaaGreatDoorTB
import Derived.Test.YtdnbhmfofphblaaGreatDoorBase
import Derived.Lib.SmallJoins
namespace Go.Proofs.YtdnbhmfofphblaaGreatDoor
open Go.Joins Go.ChangeShapes Go.WideShapes Go.ChangeAt Go.RowKit Go.Deep
set_option linter.unusedVariables false
set_option maxRecDepth 100000
structure Ad where
  six : Bool
  high : Int
  low : Int
structure Ad.wf (a : Ad) : Prop where
  high0 : 0 ≤ a.high
  high1 : a.high < 18446744073709551616
  low0 : 0 ≤ a.low
  low1 : a.low < 18446744073709551616
structure Fl where
  src : Ad
  dst : Ad
  sp : Int
  dp : Int
  pr : Int
structure Fl.wf (f : Fl) : Prop where
  src : f.src.wf
  dst : f.dst.wf
  sp0 : 0 ≤ f.sp
  sp1 : f.sp < 65536
  dp0 : 0 ≤ f.dp
  dp1 : f.dp < 65536
  pr0 : 0 ≤ f.pr
  pr1 : f.pr < 256
section
variable {H : Type} {enc : TypeId × Value → H} {w : World} {base : Nat} {spare : Nat → Bool} {held : Bool}
theorem trod_addr {fuel : Nat} {c0 c1 c2 : Value} {x : DataW H × List MemPlace} (h : DataW.trod enc Tryz.prog w base spare held fuel 26 [c0, c1, c2] = some x) : ∃ a : Ad, c0 = .bool a.six ∧ c1 = .int .u64 a.high ∧ c2 = .int .u64 a.low ∧ a.wf := by
  obtain ⟨xs, n, -, -, -, hlen, hg⟩ := DataW.trod_struct Tryz.underlying26 h
  have hl3 : xs.length = 3 := hlen
  have g0 : DataW.trod enc Tryz.prog w base spare held n 4 (([c0, c1, c2].drop 0).take (Tryz.prog.cellsOf 4)) = xs[0]? := hg 0 _ rfl
  have g1 : DataW.trod enc Tryz.prog w base spare held n 24 (([c0, c1, c2].drop 1).take (Tryz.prog.cellsOf 24)) = xs[1]? := hg 1 _ rfl
  have g2 : DataW.trod enc Tryz.prog w base spare held n 24 (([c0, c1, c2].drop 2).take (Tryz.prog.cellsOf 24)) = xs[2]? := hg 2 _ rfl
  rw [show Tryz.prog.cellsOf 4 = 1 by kernel_rfl, List.getElem?_eq_getElem (by omega)] at g0
  rw [show Tryz.prog.cellsOf 24 = 1 by kernel_rfl, List.getElem?_eq_getElem (by omega)] at g1 g2
  obtain ⟨b, e0, -⟩ := DataW.trod_bool Tryz.underlying4 g0
  obtain ⟨hi, e1, -, z1⟩ := DataW.trod_int Tryz.underlying24 g1
  obtain ⟨lo, e2, -, z2⟩ := DataW.trod_int Tryz.underlying24 g2
  simp at e0 e1 e2
  simp [Lit.wf, IntKind.min, IntKind.max, IntKind.signed, IntKind.bits] at z1 z2
  exact ⟨⟨b, hi, lo⟩, e0, e1, e2, ⟨z1.1, by simp; omega, z2.1, by simp; omega⟩⟩
/-- An argument of type api.Flow. -/
theorem open_flow {r : Reach} {b0 : Nat} {v : Value} {d : DataW H} {p : List MemPlace} (hv : Value.okWide Tryz.prog w r b0 28 v) (h : DataW.Trod enc Tryz.prog w base spare held 28 v d p) : ∃ f : Fl, v = .agg #[.bool f.src.six, .int .u64 f.src.high, .int .u64 f.src.low, .bool f.dst.six, .int .u64 f.dst.high, .int .u64 f.dst.low, .int .u16 f.sp, .int .u16 f.dp, .int .u8 f.pr] ∧ f.wf := by
  obtain ⟨cs, rfl, hsz⟩ := okWide_struct Tryz.underlying28 hv
  obtain ⟨l⟩ := cs
  have hl : l.length = 9 := hsz.trans (by kernel_rfl)
  match l, hl with
  | [c0, c1, c2, c3, c4, c5, c6, c7, c8], _ =>
    obtain ⟨fuel, hf⟩ := h
    have hf' : DataW.trod enc Tryz.prog w base spare held fuel 28 [c0, c1, c2, c3, c4, c5, c6, c7, c8] = some (d, p) := hf
    obtain ⟨xs, n, -, -, -, hlen, hg⟩ := DataW.trod_struct Tryz.underlying28 hf'
    have hl5 : xs.length = 5 := hlen
    have g0 : DataW.trod enc Tryz.prog w base spare held n 26 (([c0, c1, c2, c3, c4, c5, c6, c7, c8].drop 0).take (Tryz.prog.cellsOf 26)) = xs[0]? := hg 0 _ rfl
    have g1 : DataW.trod enc Tryz.prog w base spare held n 26 (([c0, c1, c2, c3, c4, c5, c6, c7, c8].drop 3).take (Tryz.prog.cellsOf 26)) = xs[1]? := hg 1 _ rfl
    have g2 : DataW.trod enc Tryz.prog w base spare held n 22 (([c0, c1, c2, c3, c4, c5, c6, c7, c8].drop 6).take (Tryz.prog.cellsOf 22)) = xs[2]? := hg 2 _ rfl
    have g3 : DataW.trod enc Tryz.prog w base spare held n 22 (([c0, c1, c2, c3, c4, c5, c6, c7, c8].drop 7).take (Tryz.prog.cellsOf 22)) = xs[3]? := hg 3 _ rfl
    have g4 : DataW.trod enc Tryz.prog w base spare held n 5 (([c0, c1, c2, c3, c4, c5, c6, c7, c8].drop 8).take (Tryz.prog.cellsOf 5)) = xs[4]? := hg 4 _ rfl
    rw [show Tryz.prog.cellsOf 26 = 3 by kernel_rfl, List.getElem?_eq_getElem (by omega)] at g0 g1
    rw [show Tryz.prog.cellsOf 22 = 1 by kernel_rfl, List.getElem?_eq_getElem (by omega)] at g2 g3
    rw [show Tryz.prog.cellsOf 5 = 1 by kernel_rfl, List.getElem?_eq_getElem (by omega)] at g4
    obtain ⟨a, rfl, rfl, rfl, wa⟩ := trod_addr g0
    obtain ⟨b, rfl, rfl, rfl, wb⟩ := trod_addr g1
    obtain ⟨sp, e2, -, z2⟩ := DataW.trod_int Tryz.underlying22 g2
    obtain ⟨dp, e3, -, z3⟩ := DataW.trod_int Tryz.underlying22 g3
    obtain ⟨pr, e4, -, z4⟩ := DataW.trod_int Tryz.underlying5 g4
    simp at e2 e3 e4
    subst e2 e3 e4
    simp [Lit.wf, IntKind.min, IntKind.max, IntKind.signed, IntKind.bits] at z2 z3 z4
    exact ⟨⟨a, b, sp, dp, pr⟩, rfl, ⟨wa, wb, z2.1, by simp; omega, z3.1, by simp; omega, z4.1, by simp; omega⟩⟩
/-- An argument of type api.Addr. -/
theorem open_addr {r : Reach} {b0 : Nat} {v : Value} {d : DataW H} {p : List MemPlace} (hv : Value.okWide Tryz.prog w r b0 26 v) (h : DataW.Trod enc Tryz.prog w base spare held 26 v d p) : ∃ a : Ad, v = .agg #[.bool a.six, .int .u64 a.high, .int .u64 a.low] ∧ a.wf := by
  obtain ⟨cs, rfl, hsz⟩ := okWide_struct Tryz.underlying26 hv
  obtain ⟨l⟩ := cs
  have hl : l.length = 3 := hsz.trans (by kernel_rfl)
  match l, hl with
  | [c0, c1, c2], _ =>
    obtain ⟨fuel, hf⟩ := h
    have hf' : DataW.trod enc Tryz.prog w base spare held fuel 26 [c0, c1, c2] = some (d, p) := hf
    obtain ⟨a, rfl, rfl, rfl, wa⟩ := trod_addr hf'
    exact ⟨a, rfl, wa⟩
end
end Go.Proofs.YtdnbhmfofphblaaGreatDoor
