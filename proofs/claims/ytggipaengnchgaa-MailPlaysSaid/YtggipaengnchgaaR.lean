/- The acts of the law MailPlays, opened. -/
import Derived.Test.YtggipaengnchgaaP
namespace Go.Proofs.Ytggipaengnchgaa
open Go.ChangeShapes Go.WideShapes Go.ChangeAt Go.RowKit
theorem open_acts {H : Type} {enc : TypeId × Value → H} {w : World} {base : Nat} {spare : Nat → Bool} {held : Bool} {fuel len cap : Nat} {A : Option Addr} {x : DataW H × List MemPlace} (h : DataW.trod enc Try.prog w base spare held fuel 38 [.slice A len cap] = some x) :
    ∃ L : List AcV, len = L.length ∧ L.length ≤ cap ∧ cap ≤ maxLen ∧ ES w w.heap.size A 5 (L.map AcV.cs) ∧ ∀ y ∈ L, y.wf w :=
  open_elems AcV.cs (fun a => a.wf w) ⟨0, ⟨0, false, ⟨none, 0, []⟩⟩, 0⟩ Try.underlying38 (by kernel_rfl) (by omega) AcV.cs_len (fun _ _ _ h hl => trod_AcV h hl) h
end Go.Proofs.Ytggipaengnchgaa
