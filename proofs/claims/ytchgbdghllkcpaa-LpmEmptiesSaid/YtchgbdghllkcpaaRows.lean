/-
  No cell of these rows narrows 'for every input' (looked for: loops, veiled, ifaces, maps, wideKeys, modest, calm, conditions, laid).
  DERIVED. THE GIVEN ROWS OF THIS SEAT. 3 by the template 'for every input the law returns true; each argument reads behind the call as it read before'; 0 by the template 'total and deterministic' (their statements: YtchgbdghllkcpaaTotals.lean).
  GIVEN WITH THE SEED: the statements are not yours to turn. If you find one false, say at which input.
  Laid BY PROGRAM, IN A SANDBOX (cutbox-rows.mjs): the forced cells as the released guide's own fill.sh prints them over the translation 0249e6c2a3daf3cc… (all of the seat's roots in one cut). By AI agents, Wed Nov 11 2026. No macro, syntax, notation, axiom, sorry.
-/
import Derived.Test.YtchgbdghllkcpaaChecked
import GoSem.Claim
import GoSem.ClaimJoined
import GoSem.ClaimMapViews
import Derived.JoinedTies
import Derived.KernelRfl
namespace Go.Proofs.Ytchgbdghllkcpaa
/- THE CELL 'sum', in the pinned program and in every row, IS THE sha256 OF THE DUMP (.gsa) THAT YtchgbdghllkcpaaProg.lean LOADS. Nothing in Lean hashes anything: it is a label: what it is worth is what the hold of that sum in a sandbox is worth. -/
noncomputable def Try.pinned : Pinned := { name := "ytchgbdghllkcpaa", sum := "0249e6c2a3daf3cc818f7d1eeade5cf10d4b7a95dac6a42988ba4a92436e5e33", checked := Try.checked }
namespace Rows
def none {H : Type} : Left H := { results := [], args := [] }

/-- 'counterfoillaw40.LpmCuts': WHATEVER THE INPUT: true; the input reads as it did. -/
def lpmCutsSpec : ChangeSpec := { name := "lpmCuts", fn := fun _ => fun
  | [d1, d2] => { results := [.lit (.bool true)], args := [d1, d2] }
  | _ => none }
def lpmCutsRow : OpenClaim := { program := "ytchgbdghllkcpaa", sum := "0249e6c2a3daf3cc818f7d1eeade5cf10d4b7a95dac6a42988ba4a92436e5e33", func := "counterfoil/counterfoillaw40.LpmCuts", spec := "lpmCuts", apart := false }
def LpmCutsSaid : Prop := lpmCutsRow.holds Try.pinned (OpenSpec.ofChange lpmCutsSpec)

/-- ITS FALSE NEIGHBOUR: 'it returns false'. Refute it at one input. -/
def lpmCutsWrong : ChangeSpec := { name := "lpmCuts", fn := fun _ => fun
  | [d1, d2] => { results := [.lit (.bool false)], args := [d1, d2] }
  | _ => none }
def LpmCutsWrongFalsely : Prop := lpmCutsRow.holds Try.pinned (OpenSpec.ofChange lpmCutsWrong)

/-- 'counterfoillaw40.LpmFinds': WHATEVER THE INPUT: true; the input reads as it did. -/
def lpmFindsSpec : ChangeSpec := { name := "lpmFinds", fn := fun _ => fun
  | [d1, d2] => { results := [.lit (.bool true)], args := [d1, d2] }
  | _ => none }
def lpmFindsRow : OpenClaim := { program := "ytchgbdghllkcpaa", sum := "0249e6c2a3daf3cc818f7d1eeade5cf10d4b7a95dac6a42988ba4a92436e5e33", func := "counterfoil/counterfoillaw40.LpmFinds", spec := "lpmFinds", apart := false }
def LpmFindsSaid : Prop := lpmFindsRow.holds Try.pinned (OpenSpec.ofChange lpmFindsSpec)

/-- ITS FALSE NEIGHBOUR: 'it returns false'. Refute it at one input. -/
def lpmFindsWrong : ChangeSpec := { name := "lpmFinds", fn := fun _ => fun
  | [d1, d2] => { results := [.lit (.bool false)], args := [d1, d2] }
  | _ => none }
def LpmFindsWrongFalsely : Prop := lpmFindsRow.holds Try.pinned (OpenSpec.ofChange lpmFindsWrong)

/-- 'counterfoillaw40.LpmEmpties': WHATEVER THE INPUT: true; the input reads as it did. -/
def lpmEmptiesSpec : ChangeSpec := { name := "lpmEmpties", fn := fun _ => fun
  | [d1, d2] => { results := [.lit (.bool true)], args := [d1, d2] }
  | _ => none }
def lpmEmptiesRow : OpenClaim := { program := "ytchgbdghllkcpaa", sum := "0249e6c2a3daf3cc818f7d1eeade5cf10d4b7a95dac6a42988ba4a92436e5e33", func := "counterfoil/counterfoillaw40.LpmEmpties", spec := "lpmEmpties", apart := false }
def LpmEmptiesSaid : Prop := lpmEmptiesRow.holds Try.pinned (OpenSpec.ofChange lpmEmptiesSpec)

/-- ITS FALSE NEIGHBOUR: 'it returns false'. Refute it at one input. -/
def lpmEmptiesWrong : ChangeSpec := { name := "lpmEmpties", fn := fun _ => fun
  | [d1, d2] => { results := [.lit (.bool false)], args := [d1, d2] }
  | _ => none }
def LpmEmptiesWrongFalsely : Prop := lpmEmptiesRow.holds Try.pinned (OpenSpec.ofChange lpmEmptiesWrong)

/- THE SECOND FORM. 'bulk': how many values and letters a reading holds, each counted each time it is reached (what is shared counts as often as it is met; a slice's spare places count too). A statement '..UptoSaid' is the law's where the arguments, and the package variables that the reading takes, are together of bulk at most 1048576: NARROWER than '..Said'. Prove '..Said' where nothing that the law and all that it calls make is longer than what came in: it says more and counts as full. Else prove '..UptoSaid'. A law counts once. -/
mutual
def uptoBulk {H : Type} : DataW H → Nat
  | .lit (.string bytes) => bytes.length + 1
  | .lit _ => 1
  | .nil => 1
  | .ptr d => uptoBulk d + 1
  | .slice elems spare => uptoBulkAll elems + uptoBulkAll spare + 1
  | .agg parts => uptoBulkAll parts + 1
  | .iface _ d => uptoBulk d + 1
  | .map entries => uptoBulkEntries entries + 1
  | .held _ => 1
def uptoBulkAll {H : Type} : List (DataW H) → Nat
  | [] => 0
  | d :: r => uptoBulk d + uptoBulkAll r
def uptoBulkEntries {H : Type} : List (Lit × DataW H) → Nat
  | [] => 0
  | x :: r => uptoBulkEntry x + uptoBulkEntries r
def uptoBulkEntry {H : Type} : Lit × DataW H → Nat
  | (.string bytes, d) => bytes.length + uptoBulk d + 1
  | (_, d) => uptoBulk d + 1
 end
def uptoSmall : (H : Type) → List (DataW H) → Bool := fun _ ds => decide (uptoBulkAll ds ≤ 1048576)
def OpenSpec.upto (s : _root_.Go.ChangeSpec) : _root_.Go.OpenSpec := { _root_.Go.OpenSpec.ofChange s with cond := some uptoSmall }

/-- 'counterfoillaw40.LpmCuts', WHERE WHAT IT READS IS OF BULK AT MOST 1048576: true; the input reads as it did. -/
def lpmCutsUptoRow : OpenClaim := { program := "ytchgbdghllkcpaa", sum := "0249e6c2a3daf3cc818f7d1eeade5cf10d4b7a95dac6a42988ba4a92436e5e33", func := "counterfoil/counterfoillaw40.LpmCuts", spec := "lpmCuts", apart := false, narrowed := true }
def LpmCutsUptoSaid : Prop := lpmCutsUptoRow.holds Try.pinned (OpenSpec.upto lpmCutsSpec)

/-- 'counterfoillaw40.LpmFinds', WHERE WHAT IT READS IS OF BULK AT MOST 1048576: true; the input reads as it did. -/
def lpmFindsUptoRow : OpenClaim := { program := "ytchgbdghllkcpaa", sum := "0249e6c2a3daf3cc818f7d1eeade5cf10d4b7a95dac6a42988ba4a92436e5e33", func := "counterfoil/counterfoillaw40.LpmFinds", spec := "lpmFinds", apart := false, narrowed := true }
def LpmFindsUptoSaid : Prop := lpmFindsUptoRow.holds Try.pinned (OpenSpec.upto lpmFindsSpec)

/-- 'counterfoillaw40.LpmEmpties', WHERE WHAT IT READS IS OF BULK AT MOST 1048576: true; the input reads as it did. -/
def lpmEmptiesUptoRow : OpenClaim := { program := "ytchgbdghllkcpaa", sum := "0249e6c2a3daf3cc818f7d1eeade5cf10d4b7a95dac6a42988ba4a92436e5e33", func := "counterfoil/counterfoillaw40.LpmEmpties", spec := "lpmEmpties", apart := false, narrowed := true }
def LpmEmptiesUptoSaid : Prop := lpmEmptiesUptoRow.holds Try.pinned (OpenSpec.upto lpmEmptiesSpec)

end Rows
end Go.Proofs.Ytchgbdghllkcpaa
