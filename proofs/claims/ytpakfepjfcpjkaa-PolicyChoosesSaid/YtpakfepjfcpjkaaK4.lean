/- The law PolicyFits, walked; its argument opened. -/
import Derived.Test.YtpakfepjfcpjkaaK1
import Derived.Test.YtpakfepjfcpjkaaK2
import Derived.Test.YtpakfepjfcpjkaaK3
import Derived.Test.YtpakfepjfcpjkaaCdOpen
namespace Go.Proofs.Ytpakfepjfcpjkaa
open Go.ChangeShapes Go.WideShapes Go.ChangeAt Go.RowKit
set_option linter.unusedVariables false
theorem fits_l (A : Option Addr) (c : Nat) (l : List Cd) (way at_ x y : Int) (z : Cd) (w : World) (hl : l.length ≤ maxLen) (hE : ES w w.heap.size A 4 (l.map Cd.cs)) (hx : 0 ≤ x) (hx' : x ≤ 4294967295) (hy : 0 ≤ y) (hy' : y ≤ 4294967295) :
    Calls Try.prog 5 #[.agg #[.int .i64 way, .slice A l.length c, .int .u32 x, .int .u32 y], .int .i64 at_, z.agg] w fun e w' => e = .returned (.bool true) ∧ Below w.heap.size w w' := by
  by_cases h1 : 0 ≤ at_
  · by_cases h2 : at_ < (l.length : Int)
    · exact fits_in A c l way at_ x y z w hl hE hx hx' hy hy' ⟨h1, h2⟩
    · exact fits_ge A c l way at_ x y z w hl hE hx hx' hy hy' ⟨h1, h2⟩
  · exact fits_neg A c l way at_ x y z w hl hE hx hx' hy hy' h1
structure AcV where
  way : Int
  A : Option Addr
  c : Nat
  l : List Cd
  x : Int
  y : Int
def AcV.cs (a : AcV) : List Value := [.int .i64 a.way, .slice a.A a.l.length a.c, .int .u32 a.x, .int .u32 a.y]
theorem AcV.cs_len (a : AcV) : a.cs.length = 4 := rfl
def AcV.wf (a : AcV) (w : World) : Prop := a.l.length ≤ maxLen ∧ ES w w.heap.size a.A 4 (a.l.map Cd.cs) ∧ 0 ≤ a.x ∧ a.x ≤ 4294967295 ∧ 0 ≤ a.y ∧ a.y ≤ 4294967295
section
variable {H : Type} {enc : TypeId × Value → H} {w : World} {base : Nat} {spare : Nat → Bool} {held : Bool}
theorem trod_act {fuel : Nat} {l : List Value} {x : DataW H × List MemPlace} (h : DataW.trod enc Try.prog w base spare held fuel 42 l = some x) (hl : l.length = 4) : ∃ a : AcV, l = a.cs ∧ a.wf w := by
  match l, hl with
  | [c0, c1, c2, c3], _ =>
    obtain ⟨xs, n, -, -, -, hlen, hg⟩ := DataW.trod_struct Try.underlying42 h
    have hlk : xs.length = 4 := hlen
    have g0 : DataW.trod enc Try.prog w base spare held n 3 (([c0, c1, c2, c3].drop 0).take (Try.prog.cellsOf 3)) = xs[0]? := hg 0 _ rfl
    have g1 : DataW.trod enc Try.prog w base spare held n 39 (([c0, c1, c2, c3].drop 1).take (Try.prog.cellsOf 39)) = xs[1]? := hg 1 _ rfl
    have g2 : DataW.trod enc Try.prog w base spare held n 40 (([c0, c1, c2, c3].drop 2).take (Try.prog.cellsOf 40)) = xs[2]? := hg 2 _ rfl
    have g3 : DataW.trod enc Try.prog w base spare held n 40 (([c0, c1, c2, c3].drop 3).take (Try.prog.cellsOf 40)) = xs[3]? := hg 3 _ rfl
    rw [show Try.prog.cellsOf 3 = 1 by kernel_rfl, List.getElem?_eq_getElem (by omega)] at g0
    rw [show Try.prog.cellsOf 39 = 1 by kernel_rfl, List.getElem?_eq_getElem (by omega)] at g1
    rw [show Try.prog.cellsOf 40 = 1 by kernel_rfl, List.getElem?_eq_getElem (by omega)] at g2 g3
    obtain ⟨a0, e0, -, -⟩ := DataW.trod_int Try.underlying3 g0
    obtain ⟨a2, e2, -, z2⟩ := DataW.trod_int Try.underlying40 g2
    obtain ⟨a3, e3, -, z3⟩ := DataW.trod_int Try.underlying40 g3
    have g1' : DataW.trod enc Try.prog w base spare held n 39 [c1] = some xs[1] := g1
    have hform : ∃ A' len' cap', c1 = .slice A' len' cap' := by
      rcases DataW.trod_slice Try.underlying39 g1' with ⟨e, _⟩ | ⟨a', l', c', _, _, _, _, e, _⟩
      · exact ⟨_, _, _, by simpa using e⟩
      · exact ⟨_, _, _, by simpa using e⟩
    obtain ⟨A', len', cap', rfl⟩ := hform
    obtain ⟨l, rfl, h3, _, h4⟩ := open_cands g1'
    simp at e0 e2 e3
    subst e0 e2 e3
    simp [Lit.wf, IntKind.min, IntKind.max, IntKind.signed, IntKind.bits] at z2 z3
    exact ⟨⟨a0, A', cap', l, a2, a3⟩, rfl, h3, h4, z2.1, by simpa using z2.2, z3.1, by simpa using z3.2⟩
theorem open_act {r : Reach} {b0 : Nat} {v : Value} {d : DataW H} {p : List MemPlace} (hv : Value.okWide Try.prog w r b0 42 v) (h : DataW.Trod enc Try.prog w base spare held 42 v d p) : ∃ a : AcV, v = .agg a.cs.toArray ∧ a.wf w := by
  obtain ⟨cs, rfl, hsz⟩ := okWide_struct Try.underlying42 hv
  obtain ⟨l⟩ := cs
  have hl : l.length = 4 := hsz.trans (by kernel_rfl)
  obtain ⟨fuel, hf⟩ := h
  obtain ⟨a, rfl, ha⟩ := trod_act (l := l) hf hl
  exact ⟨a, rfl, ha⟩
theorem open_cand {r : Reach} {b0 : Nat} {v : Value} {d : DataW H} {p : List MemPlace} (hv : Value.okWide Try.prog w r b0 54 v) (h : DataW.Trod enc Try.prog w base spare held 54 v d p) : ∃ a : Cd, v = a.agg := by
  obtain ⟨cs, rfl, hsz⟩ := okWide_struct Try.underlying54 hv
  obtain ⟨l⟩ := cs
  have hl : l.length = 4 := hsz.trans (by kernel_rfl)
  match l, hl with
  | [c0, c1, c2, c3], _ =>
    obtain ⟨fuel, hf⟩ := h
    have hf' : DataW.trod enc Try.prog w base spare held fuel 54 [c0, c1, c2, c3] = some (d, p) := hf
    obtain ⟨xs, n, -, -, -, hlen, hg⟩ := DataW.trod_struct Try.underlying54 hf'
    have hlk : xs.length = 4 := hlen
    have g0 : DataW.trod enc Try.prog w base spare held n 3 (([c0, c1, c2, c3].drop 0).take (Try.prog.cellsOf 3)) = xs[0]? := hg 0 _ rfl
    have g1 : DataW.trod enc Try.prog w base spare held n 3 (([c0, c1, c2, c3].drop 1).take (Try.prog.cellsOf 3)) = xs[1]? := hg 1 _ rfl
    have g2 : DataW.trod enc Try.prog w base spare held n 3 (([c0, c1, c2, c3].drop 2).take (Try.prog.cellsOf 3)) = xs[2]? := hg 2 _ rfl
    have g3 : DataW.trod enc Try.prog w base spare held n 40 (([c0, c1, c2, c3].drop 3).take (Try.prog.cellsOf 40)) = xs[3]? := hg 3 _ rfl
    rw [show Try.prog.cellsOf 3 = 1 by kernel_rfl, List.getElem?_eq_getElem (by omega)] at g0 g1 g2
    rw [show Try.prog.cellsOf 40 = 1 by kernel_rfl, List.getElem?_eq_getElem (by omega)] at g3
    obtain ⟨a0, e0, -, -⟩ := DataW.trod_int Try.underlying3 g0
    obtain ⟨a1, e1, -, -⟩ := DataW.trod_int Try.underlying3 g1
    obtain ⟨a2, e2, -, -⟩ := DataW.trod_int Try.underlying3 g2
    obtain ⟨a3, e3, -, -⟩ := DataW.trod_int Try.underlying40 g3
    simp at e0 e1 e2 e3
    subst e0 e1 e2 e3
    exact ⟨⟨a0, a1, a2, a3⟩, rfl⟩
end
end Go.Proofs.Ytpakfepjfcpjkaa
