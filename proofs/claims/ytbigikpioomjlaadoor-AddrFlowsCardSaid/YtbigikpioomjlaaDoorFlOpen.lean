/- Arguments that are an address or a flow, opened. -/
import Derived.Test.YtbigikpioomjlaaDoorAddr
import Derived.Test.YtbigikpioomjlaaDoorOpen
import Derived.Lib.SmallJoins
namespace Go.Proofs.YtbigikpioomjlaaDoor
open Go.Joins Go.ChangeShapes Go.WideShapes Go.ChangeAt Go.RowKit Go.Deep
set_option linter.unusedVariables false
section
variable {H : Type} {enc : TypeId × Value → H} {w : World} {base : Nat} {spare : Nat → Bool} {held : Bool}
theorem trod_addr {fuel : Nat} {c0 c1 c2 : Value} {x : DataW H × List MemPlace} (h : DataW.trod enc Tryd.prog w base spare held fuel 24 [c0, c1, c2] = some x) : ∃ a : Ad, c0 = .bool a.six ∧ c1 = .int .u64 a.high ∧ c2 = .int .u64 a.low ∧ a.wf := by
  obtain ⟨xs, n, -, -, -, hlen, hg⟩ := DataW.trod_struct Tryd.underlying24 h
  have hl3 : xs.length = 3 := hlen
  have g0 : DataW.trod enc Tryd.prog w base spare held n 4 (([c0, c1, c2].drop 0).take (Tryd.prog.cellsOf 4)) = xs[0]? := hg 0 _ rfl
  have g1 : DataW.trod enc Tryd.prog w base spare held n 22 (([c0, c1, c2].drop 1).take (Tryd.prog.cellsOf 22)) = xs[1]? := hg 1 _ rfl
  have g2 : DataW.trod enc Tryd.prog w base spare held n 22 (([c0, c1, c2].drop 2).take (Tryd.prog.cellsOf 22)) = xs[2]? := hg 2 _ rfl
  rw [show Tryd.prog.cellsOf 4 = 1 by kernel_rfl, List.getElem?_eq_getElem (by omega)] at g0
  rw [show Tryd.prog.cellsOf 22 = 1 by kernel_rfl, List.getElem?_eq_getElem (by omega)] at g1 g2
  obtain ⟨b, e0, -⟩ := DataW.trod_bool Tryd.underlying4 g0
  obtain ⟨hi, e1, -, z1⟩ := DataW.trod_int Tryd.underlying22 g1
  obtain ⟨lo, e2, -, z2⟩ := DataW.trod_int Tryd.underlying22 g2
  simp at e0 e1 e2
  simp [Lit.wf, IntKind.min, IntKind.max, IntKind.signed, IntKind.bits] at z1 z2
  exact ⟨⟨b, hi, lo⟩, e0, e1, e2, ⟨z1.1, by simp; omega, z2.1, by simp; omega⟩⟩
/-- An argument of type api.Flow. -/
theorem open_flow {r : Reach} {b0 : Nat} {v : Value} {d : DataW H} {p : List MemPlace} (hv : Value.okWide Tryd.prog w r b0 27 v) (h : DataW.Trod enc Tryd.prog w base spare held 27 v d p) : ∃ f : Fl, v = .agg #[.bool f.src.six, .int .u64 f.src.high, .int .u64 f.src.low, .bool f.dst.six, .int .u64 f.dst.high, .int .u64 f.dst.low, .int .u16 f.sp, .int .u16 f.dp, .int .u8 f.pr] ∧ f.wf := by
  obtain ⟨cs, rfl, hsz⟩ := okWide_struct Tryd.underlying27 hv
  obtain ⟨l⟩ := cs
  have hl : l.length = 9 := hsz.trans (by kernel_rfl)
  match l, hl with
  | [c0, c1, c2, c3, c4, c5, c6, c7, c8], _ =>
    obtain ⟨fuel, hf⟩ := h
    have hf' : DataW.trod enc Tryd.prog w base spare held fuel 27 [c0, c1, c2, c3, c4, c5, c6, c7, c8] = some (d, p) := hf
    obtain ⟨xs, n, -, -, -, hlen, hg⟩ := DataW.trod_struct Tryd.underlying27 hf'
    have hl5 : xs.length = 5 := hlen
    have g0 : DataW.trod enc Tryd.prog w base spare held n 24 (([c0, c1, c2, c3, c4, c5, c6, c7, c8].drop 0).take (Tryd.prog.cellsOf 24)) = xs[0]? := hg 0 _ rfl
    have g1 : DataW.trod enc Tryd.prog w base spare held n 24 (([c0, c1, c2, c3, c4, c5, c6, c7, c8].drop 3).take (Tryd.prog.cellsOf 24)) = xs[1]? := hg 1 _ rfl
    have g2 : DataW.trod enc Tryd.prog w base spare held n 25 (([c0, c1, c2, c3, c4, c5, c6, c7, c8].drop 6).take (Tryd.prog.cellsOf 25)) = xs[2]? := hg 2 _ rfl
    have g3 : DataW.trod enc Tryd.prog w base spare held n 25 (([c0, c1, c2, c3, c4, c5, c6, c7, c8].drop 7).take (Tryd.prog.cellsOf 25)) = xs[3]? := hg 3 _ rfl
    have g4 : DataW.trod enc Tryd.prog w base spare held n 5 (([c0, c1, c2, c3, c4, c5, c6, c7, c8].drop 8).take (Tryd.prog.cellsOf 5)) = xs[4]? := hg 4 _ rfl
    rw [show Tryd.prog.cellsOf 24 = 3 by kernel_rfl, List.getElem?_eq_getElem (by omega)] at g0 g1
    rw [show Tryd.prog.cellsOf 25 = 1 by kernel_rfl, List.getElem?_eq_getElem (by omega)] at g2 g3
    rw [show Tryd.prog.cellsOf 5 = 1 by kernel_rfl, List.getElem?_eq_getElem (by omega)] at g4
    obtain ⟨a, rfl, rfl, rfl, wa⟩ := trod_addr g0
    obtain ⟨b, rfl, rfl, rfl, wb⟩ := trod_addr g1
    obtain ⟨sp, e2, -, z2⟩ := DataW.trod_int Tryd.underlying25 g2
    obtain ⟨dp, e3, -, z3⟩ := DataW.trod_int Tryd.underlying25 g3
    obtain ⟨pr, e4, -, z4⟩ := DataW.trod_int Tryd.underlying5 g4
    simp at e2 e3 e4
    subst e2 e3 e4
    simp [Lit.wf, IntKind.min, IntKind.max, IntKind.signed, IntKind.bits] at z2 z3 z4
    exact ⟨⟨a, b, sp, dp, pr⟩, rfl, ⟨wa, wb, z2.1, by simp; omega, z3.1, by simp; omega, z4.1, by simp; omega⟩⟩
/-- An argument of type api.Addr. -/
theorem open_addr {r : Reach} {b0 : Nat} {v : Value} {d : DataW H} {p : List MemPlace} (hv : Value.okWide Tryd.prog w r b0 24 v) (h : DataW.Trod enc Tryd.prog w base spare held 24 v d p) : ∃ a : Ad, v = .agg #[.bool a.six, .int .u64 a.high, .int .u64 a.low] ∧ a.wf := by
  obtain ⟨cs, rfl, hsz⟩ := okWide_struct Tryd.underlying24 hv
  obtain ⟨l⟩ := cs
  have hl : l.length = 3 := hsz.trans (by kernel_rfl)
  match l, hl with
  | [c0, c1, c2], _ =>
    obtain ⟨fuel, hf⟩ := h
    have hf' : DataW.trod enc Tryd.prog w base spare held fuel 24 [c0, c1, c2] = some (d, p) := hf
    obtain ⟨a, rfl, rfl, rfl, wa⟩ := trod_addr hf'
    exact ⟨a, rfl, wa⟩
end
end Go.Proofs.YtbigikpioomjlaaDoor
