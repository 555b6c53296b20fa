/- The acts of the law PolicyChooses, opened. -/
import Derived.Test.YtpakfepjfcpjkaaS
import Derived.Test.YtpakfepjfcpjkaaOpenN
namespace Go.Proofs.Ytpakfepjfcpjkaa
open Go.ChangeShapes Go.WideShapes Go.ChangeAt Go.RowKit
theorem open_acts {H : Type} {enc : TypeId × Value → H} {w : World} {base : Nat} {spare : Nat → Bool} {held : Bool} {fuel len cap : Nat} {A : Option Addr} {x : DataW H × List MemPlace} (h : DataW.trod enc Try.prog w base spare held fuel 27 [.slice A len cap] = some x) :
    ∃ L : List AcV, len = L.length ∧ L.length ≤ cap ∧ cap ≤ maxLen ∧ ES w w.heap.size A 4 (L.map AcV.cs) ∧ ∀ y ∈ L, y.wf w :=
  open_elems AcV.cs (fun a => a.wf w) ⟨0, none, 0, [], 0, 0⟩ Try.underlying27 (by kernel_rfl) (by omega) AcV.cs_len (fun _ _ _ h hl => trod_act h hl) h
end Go.Proofs.Ytpakfepjfcpjkaa
