/- The letters of the law MailClears, opened. -/
import Derived.Test.YtggipaengnchgaaI
namespace Go.Proofs.Ytggipaengnchgaa
open Go.ChangeShapes Go.WideShapes Go.ChangeAt Go.RowKit
theorem open_letters {H : Type} {enc : TypeId × Value → H} {w : World} {base : Nat} {spare : Nat → Bool} {held : Bool} {fuel len cap : Nat} {A : Option Addr} {x : DataW H × List MemPlace} (h : DataW.trod enc Try.prog w base spare held fuel 22 [.slice A len cap] = some x) :
    ∃ L : List LeV, len = L.length ∧ L.length ≤ cap ∧ cap ≤ maxLen ∧ ES w w.heap.size A 3 (L.map LeV.cs) ∧ ∀ y ∈ L, y.wf w :=
  open_elems LeV.cs (fun a => a.wf w) ⟨0, false, ⟨none, 0, []⟩⟩ Try.underlying22 (by kernel_rfl) (by omega) LeV.cs_len (fun _ _ _ h hl => trod_LeV h hl) h
end Go.Proofs.Ytggipaengnchgaa
