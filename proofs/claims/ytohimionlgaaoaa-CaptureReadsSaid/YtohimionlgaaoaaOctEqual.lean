/- Contracts of bytes.Equal, octet.Equal. -/
import Derived.Test.YtohimionlgaaoaaRows
import Derived.Test.YtohimionlgaaoaaBytesB
import Derived.Test.YtohimionlgaaoaaRgW
import Derived.Test.YtohimionlgaaoaaOctPlain
import Derived.Outline
import Derived.Deep.Light
import Derived.Deep.DeepCutAuto
import Derived.Deep.LoopGhost
namespace Go.Proofs.Ytohimionlgaaoaa
open Go.RowKit
set_option linter.unusedVariables false

theorem bytesEqual_any (A C : Option Addr) (c d : Nat) (l m : List UInt8) (w : World) (hB : BS w w.heap.size A l) (hC : BS w w.heap.size C m) :
    Calls Try.prog 36 #[.slice A l.length c, .slice C m.length d] w fun e w' => e = .returned (.bool (l == m)) ∧ w = w' := by
  have h3 := hB.conv (P := Try.prog) (c := c) Try.underlying25 Try.underlying5 Try.underlying9
  have h4 := hC.conv (P := Try.prog) (c := d) Try.underlying25 Try.underlying5 Try.underlying9
  clear hB hC
  go_enter Try.func36, Try.ntmps36
  go_wp2_with fail
  go_ret
  exact ⟨rfl, rfl⟩

theorem equal_any (A C : Option Addr) (c d : Nat) (l m : List UInt8) (w : World) (hB : BS w w.heap.size A l) (hC : BS w w.heap.size C m) :
    Calls Try.prog 26 #[.slice A l.length c, .slice C m.length d] w fun e w' => e = .returned (.bool (l == m)) ∧ w = w' := by
  have H := Lib.hid (bytesEqual_any A C c d l m w hB hC)
  clear hB hC
  go_enter Try.func26, Try.ntmps26
  go_wp2_with fail
  refine H.out.mono ?_
  rintro e w' ⟨rfl, rfl⟩
  go_wp2_with fail
  go_ret
  exact ⟨rfl, rfl⟩

end Go.Proofs.Ytohimionlgaaoaa
