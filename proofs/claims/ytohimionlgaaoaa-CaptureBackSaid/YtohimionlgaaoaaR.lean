/- The packets of the law CaptureBack, opened. -/
import Derived.Test.YtohimionlgaaoaaQ
namespace Go.Proofs.Ytohimionlgaaoaa
open Go.ChangeShapes Go.WideShapes Go.ChangeAt Go.RowKit
theorem trod_PkV {H : Type} {enc : TypeId × Value → H} {w : World} {base : Nat} {spare : Nat → Bool} {held : Bool} {fuel : Nat} {l : List Value} {x : DataW H × List MemPlace} (h : DataW.trod enc Try.prog w base spare held fuel 27 l = some x) (hl : l.length = 4) : ∃ a : PkV, l = a.cs ∧ a.ok w := by
  obtain ⟨p, rfl, h1, h2, h3, h4, h5, h6⟩ := trod_PackV h hl
  exact ⟨⟨⟨p.sec, p.part, p.len, p.data.l⟩, p.data.A, p.data.c⟩, rfl, ⟨h1, h2, h3⟩, h4, h5, h6⟩
theorem open_packs {H : Type} {enc : TypeId × Value → H} {w : World} {base : Nat} {spare : Nat → Bool} {held : Bool} {fuel len cap : Nat} {A : Option Addr} {x : DataW H × List MemPlace} (h : DataW.trod enc Try.prog w base spare held fuel 44 [.slice A len cap] = some x) :
    ∃ L : List PkV, len = L.length ∧ L.length ≤ cap ∧ cap ≤ maxLen ∧ ES w w.heap.size A 4 (L.map PkV.cs) ∧ ∀ y ∈ L, y.ok w :=
  open_elems PkV.cs (fun a => a.ok w) ⟨⟨0, 0, 0, []⟩, none, 0⟩ Try.underlying44 (by kernel_rfl) (by omega) PkV.cs_len (fun _ _ _ h hl => trod_PkV h hl) h
end Go.Proofs.Ytohimionlgaaoaa
