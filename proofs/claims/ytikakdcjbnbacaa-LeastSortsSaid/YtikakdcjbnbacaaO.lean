/- The calls of the law LeastPlays, opened. -/
import Derived.Test.YtikakdcjbnbacaaN
import Derived.Test.YtikakdcjbnbacaaOpenN
namespace Go.Proofs.Ytikakdcjbnbacaa
open Go.ChangeShapes Go.WideShapes Go.ChangeAt Go.RowKit Go.Deep
set_option linter.unusedVariables false
structure ItmO where
  w : Int
  id : Int
def ItmO.cs (a : ItmO) : List Value := [.int .u64 a.w, .int .i64 a.id]
theorem ItmO.cs_len (a : ItmO) : a.cs.length = 2 := rfl
def ItmO.wf (a : ItmO) (w : World) : Prop := (0 ≤ a.w ∧ a.w ≤ 18446744073709551615) ∧ (-9223372036854775808 ≤ a.id ∧ a.id ≤ 9223372036854775807)
theorem trod_ItmO {H : Type} {enc : TypeId × Value → H} {w : World} {base : Nat} {spare : Nat → Bool} {held : Bool} {fuel : Nat} {l : List Value} {x : DataW H × List MemPlace} (h : DataW.trod enc Try.prog w base spare held fuel 44 l = some x) (hl : l.length = 2) : ∃ a : ItmO, l = a.cs ∧ a.wf w := by
  match l, hl with
  | [c0, c1], _ =>
    obtain ⟨xs, n, -, -, -, hlen, hg⟩ := DataW.trod_struct Try.underlying44 h
    have hlk : xs.length = 2 := hlen
    have g0 : DataW.trod enc Try.prog w base spare held n 40 (([c0, c1].drop 0).take (Try.prog.cellsOf 40)) = xs[0]? := hg 0 _ rfl
    rw [show Try.prog.cellsOf 40 = 1 by kernel_rfl, List.getElem?_eq_getElem (by omega)] at g0
    have g1 : DataW.trod enc Try.prog w base spare held n 3 (([c0, c1].drop 1).take (Try.prog.cellsOf 3)) = xs[1]? := hg 1 _ rfl
    rw [show Try.prog.cellsOf 3 = 1 by kernel_rfl, List.getElem?_eq_getElem (by omega)] at g1
    obtain ⟨a0, e0, -, z0⟩ := DataW.trod_int Try.underlying40 g0
    simp [Lit.wf, IntKind.min, IntKind.max, IntKind.signed, IntKind.bits] at e0 z0
    subst e0
    obtain ⟨a1, e1, -, z1⟩ := DataW.trod_int Try.underlying3 g1
    simp [Lit.wf, IntKind.min, IntKind.max, IntKind.signed, IntKind.bits] at e1 z1
    subst e1
    exact ⟨⟨a0, a1⟩, rfl, ⟨⟨by simpa using z0.1, by simpa using z0.2⟩, ⟨by simpa using z1.1, by simpa using z1.2⟩⟩⟩
structure AcO where
  kind : Int
  x : ItmO
def AcO.cs (a : AcO) : List Value := [.int .i64 a.kind] ++ a.x.cs
theorem AcO.cs_len (a : AcO) : a.cs.length = 3 := rfl
def AcO.wf (a : AcO) (w : World) : Prop := (-9223372036854775808 ≤ a.kind ∧ a.kind ≤ 9223372036854775807) ∧ a.x.wf w
theorem trod_AcO {H : Type} {enc : TypeId × Value → H} {w : World} {base : Nat} {spare : Nat → Bool} {held : Bool} {fuel : Nat} {l : List Value} {x : DataW H × List MemPlace} (h : DataW.trod enc Try.prog w base spare held fuel 54 l = some x) (hl : l.length = 3) : ∃ a : AcO, l = a.cs ∧ a.wf w := by
  match l, hl with
  | [c0, c1, c2], _ =>
    obtain ⟨xs, n, -, -, -, hlen, hg⟩ := DataW.trod_struct Try.underlying54 h
    have hlk : xs.length = 2 := hlen
    have g0 : DataW.trod enc Try.prog w base spare held n 3 (([c0, c1, c2].drop 0).take (Try.prog.cellsOf 3)) = xs[0]? := hg 0 _ rfl
    rw [show Try.prog.cellsOf 3 = 1 by kernel_rfl, List.getElem?_eq_getElem (by omega)] at g0
    have g1 : DataW.trod enc Try.prog w base spare held n 44 (([c0, c1, c2].drop 1).take (Try.prog.cellsOf 44)) = xs[1]? := hg 1 _ rfl
    rw [show Try.prog.cellsOf 44 = 2 by kernel_rfl, List.getElem?_eq_getElem (by omega)] at g1
    obtain ⟨a0, e0, -, z0⟩ := DataW.trod_int Try.underlying3 g0
    simp [Lit.wf, IntKind.min, IntKind.max, IntKind.signed, IntKind.bits] at e0 z0
    subst e0
    obtain ⟨a1, e1, z1⟩ := trod_ItmO g1 rfl
    have e1' : [c1, c2] = a1.cs := e1
    unfold ItmO.cs at e1'
    first | simp only [List.cons.injEq, and_true] at e1' | simp only [List.cons_append, List.nil_append, List.cons.injEq, and_true] at e1'
    obtain ⟨rfl, rfl⟩ := e1'
    exact ⟨⟨a0, a1⟩, rfl, ⟨⟨by simpa using z0.1, by simpa using z0.2⟩, z1⟩⟩

theorem trod_AcV {H : Type} {enc : TypeId × Value → H} {w : World} {base : Nat} {spare : Nat → Bool} {held : Bool} {fuel : Nat} {l : List Value} {x : DataW H × List MemPlace} (h : DataW.trod enc Try.prog w base spare held fuel 54 l = some x) (hl : l.length = 3) : ∃ a : AcV, l = a.cs ∧ True := by
  obtain ⟨a, h1, _⟩ := trod_AcO h hl
  exact ⟨⟨a.kind, a.x.w, a.x.id⟩, h1, trivial⟩
theorem open_acts {H : Type} {enc : TypeId × Value → H} {w : World} {base : Nat} {spare : Nat → Bool} {held : Bool} {fuel len cap : Nat} {A : Option Addr} {x : DataW H × List MemPlace} (h : DataW.trod enc Try.prog w base spare held fuel 51 [.slice A len cap] = some x) :
    ∃ L : List AcV, len = L.length ∧ L.length ≤ cap ∧ cap ≤ maxLen ∧ ES w w.heap.size A 3 (L.map AcV.cs) ∧ ∀ y ∈ L, True :=
  open_elems AcV.cs (fun a => True) ⟨0, 0, 0⟩ Try.underlying51 (by kernel_rfl) (by omega) AcV.cs_len (fun _ _ _ h hl => trod_AcV h hl) h
end Go.Proofs.Ytikakdcjbnbacaa
