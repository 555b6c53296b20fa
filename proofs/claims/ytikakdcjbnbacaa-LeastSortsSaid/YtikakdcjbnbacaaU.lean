/- The items of the law LeastSorts, opened. -/
import Derived.Test.YtikakdcjbnbacaaS
import Derived.Test.YtikakdcjbnbacaaO
namespace Go.Proofs.Ytikakdcjbnbacaa
open Go.ChangeShapes Go.WideShapes Go.ChangeAt Go.RowKit Go.Deep
set_option linter.unusedVariables false
theorem trod_ItV {H : Type} {enc : TypeId × Value → H} {w : World} {base : Nat} {spare : Nat → Bool} {held : Bool} {fuel : Nat} {l : List Value} {x : DataW H × List MemPlace} (h : DataW.trod enc Try.prog w base spare held fuel 44 l = some x) (hl : l.length = 2) : ∃ a : It, l = a.cs ∧ True := by
  obtain ⟨a, h1, _⟩ := trod_ItmO h hl
  exact ⟨⟨a.w, a.id⟩, h1, trivial⟩
theorem open_its {H : Type} {enc : TypeId × Value → H} {w : World} {base : Nat} {spare : Nat → Bool} {held : Bool} {fuel len cap : Nat} {A : Option Addr} {x : DataW H × List MemPlace} (h : DataW.trod enc Try.prog w base spare held fuel 33 [.slice A len cap] = some x) :
    ∃ L : List It, len = L.length ∧ L.length ≤ cap ∧ cap ≤ maxLen ∧ ES w w.heap.size A 2 (L.map It.cs) ∧ ∀ y ∈ L, True :=
  open_elems It.cs (fun a => True) ⟨0, 0⟩ Try.underlying33 (by kernel_rfl) (by omega) It.cs_len (fun _ _ _ h hl => trod_ItV h hl) h
end Go.Proofs.Ytikakdcjbnbacaa
