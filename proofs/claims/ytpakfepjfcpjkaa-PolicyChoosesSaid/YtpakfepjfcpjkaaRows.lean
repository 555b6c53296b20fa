/-
  No cell of these rows narrows 'for every input' (looked for: loops, veiled, ifaces, maps, wideKeys, modest, calm, conditions, laid).
  DERIVED. THE GIVEN ROWS OF THIS SEAT. 3 by the template 'for every input the law returns true; each argument reads behind the call as it read before'; 0 by the template 'total and deterministic' (their statements: YtpakfepjfcpjkaaTotals.lean).
  GIVEN WITH THE SEED: the statements are not yours to turn. If you find one false, say at which input.
  Laid BY PROGRAM, IN A SANDBOX (cutbox-rows.mjs): the forced cells as the released guide's own fill.sh prints them over the translation f63e96745355a8fa… (all of the seat's roots in one cut). By AI agents, Wed Nov 11 2026. No macro, syntax, notation, axiom, sorry.
-/
import Derived.Test.YtpakfepjfcpjkaaChecked
import GoSem.Claim
import GoSem.ClaimJoined
import GoSem.ClaimMapViews
import Derived.JoinedTies
import Derived.KernelRfl
namespace Go.Proofs.Ytpakfepjfcpjkaa
/- THE CELL 'sum', in the pinned program and in every row, IS THE sha256 OF THE DUMP (.gsa) THAT YtpakfepjfcpjkaaProg.lean LOADS. Nothing in Lean hashes anything: it is a label: what it is worth is what the hold of that sum in a sandbox is worth. -/
noncomputable def Try.pinned : Pinned := { name := "ytpakfepjfcpjkaa", sum := "f63e96745355a8fa36c8cb0f94dcdfced9395434b5c2d76974ff8b486e5b691d", checked := Try.checked }
namespace Rows
def none {H : Type} : Left H := { results := [], args := [] }

/-- 'counterfoillaw21.PolicyNames': WHATEVER THE INPUT: true; the input reads as it did. -/
def policyNamesSpec : ChangeSpec := { name := "policyNames", fn := fun _ => fun
  | [d1, d2] => { results := [.lit (.bool true)], args := [d1, d2] }
  | _ => none }
def policyNamesRow : OpenClaim := { program := "ytpakfepjfcpjkaa", sum := "f63e96745355a8fa36c8cb0f94dcdfced9395434b5c2d76974ff8b486e5b691d", func := "counterfoil/counterfoillaw21.PolicyNames", spec := "policyNames", apart := false }
def PolicyNamesSaid : Prop := policyNamesRow.holds Try.pinned (OpenSpec.ofChange policyNamesSpec)

/-- ITS FALSE NEIGHBOUR: 'it returns false'. Refute it at one input. -/
def policyNamesWrong : ChangeSpec := { name := "policyNames", fn := fun _ => fun
  | [d1, d2] => { results := [.lit (.bool false)], args := [d1, d2] }
  | _ => none }
def PolicyNamesWrongFalsely : Prop := policyNamesRow.holds Try.pinned (OpenSpec.ofChange policyNamesWrong)

/-- 'counterfoillaw21.PolicyChooses': WHATEVER THE INPUT: true; the input reads as it did. -/
def policyChoosesSpec : ChangeSpec := { name := "policyChooses", fn := fun _ => fun
  | [d] => { results := [.lit (.bool true)], args := [d] }
  | _ => none }
def policyChoosesRow : OpenClaim := { program := "ytpakfepjfcpjkaa", sum := "f63e96745355a8fa36c8cb0f94dcdfced9395434b5c2d76974ff8b486e5b691d", func := "counterfoil/counterfoillaw21.PolicyChooses", spec := "policyChooses", apart := false }
def PolicyChoosesSaid : Prop := policyChoosesRow.holds Try.pinned (OpenSpec.ofChange policyChoosesSpec)

/-- ITS FALSE NEIGHBOUR: 'it returns false'. Refute it at one input. -/
def policyChoosesWrong : ChangeSpec := { name := "policyChooses", fn := fun _ => fun
  | [d] => { results := [.lit (.bool false)], args := [d] }
  | _ => none }
def PolicyChoosesWrongFalsely : Prop := policyChoosesRow.holds Try.pinned (OpenSpec.ofChange policyChoosesWrong)

/-- 'counterfoillaw21.PolicyFits': WHATEVER THE INPUT: true; the input reads as it did. -/
def policyFitsSpec : ChangeSpec := { name := "policyFits", fn := fun _ => fun
  | [d1, d2, d3] => { results := [.lit (.bool true)], args := [d1, d2, d3] }
  | _ => none }
def policyFitsRow : OpenClaim := { program := "ytpakfepjfcpjkaa", sum := "f63e96745355a8fa36c8cb0f94dcdfced9395434b5c2d76974ff8b486e5b691d", func := "counterfoil/counterfoillaw21.PolicyFits", spec := "policyFits", apart := false }
def PolicyFitsSaid : Prop := policyFitsRow.holds Try.pinned (OpenSpec.ofChange policyFitsSpec)

/-- ITS FALSE NEIGHBOUR: 'it returns false'. Refute it at one input. -/
def policyFitsWrong : ChangeSpec := { name := "policyFits", fn := fun _ => fun
  | [d1, d2, d3] => { results := [.lit (.bool false)], args := [d1, d2, d3] }
  | _ => none }
def PolicyFitsWrongFalsely : Prop := policyFitsRow.holds Try.pinned (OpenSpec.ofChange policyFitsWrong)

/- THE SECOND FORM. 'bulk': how many values and letters a reading holds, each counted each time it is reached (what is shared counts as often as it is met; a slice's spare places count too). A statement '..UptoSaid' is the law's where the arguments, and the package variables that the reading takes, are together of bulk at most 1048576: NARROWER than '..Said'. Prove '..Said' where nothing that the law and all that it calls make is longer than what came in: it says more and counts as full. Else prove '..UptoSaid'. A law counts once. -/
mutual
def uptoBulk {H : Type} : DataW H → Nat
  | .lit (.string bytes) => bytes.length + 1
  | .lit _ => 1
  | .nil => 1
  | .ptr d => uptoBulk d + 1
  | .slice elems spare => uptoBulkAll elems + uptoBulkAll spare + 1
  | .agg parts => uptoBulkAll parts + 1
  | .iface _ d => uptoBulk d + 1
  | .map entries => uptoBulkEntries entries + 1
  | .held _ => 1
def uptoBulkAll {H : Type} : List (DataW H) → Nat
  | [] => 0
  | d :: r => uptoBulk d + uptoBulkAll r
def uptoBulkEntries {H : Type} : List (Lit × DataW H) → Nat
  | [] => 0
  | x :: r => uptoBulkEntry x + uptoBulkEntries r
def uptoBulkEntry {H : Type} : Lit × DataW H → Nat
  | (.string bytes, d) => bytes.length + uptoBulk d + 1
  | (_, d) => uptoBulk d + 1
 end
def uptoSmall : (H : Type) → List (DataW H) → Bool := fun _ ds => decide (uptoBulkAll ds ≤ 1048576)
def OpenSpec.upto (s : _root_.Go.ChangeSpec) : _root_.Go.OpenSpec := { _root_.Go.OpenSpec.ofChange s with cond := some uptoSmall }

/-- 'counterfoillaw21.PolicyNames', WHERE WHAT IT READS IS OF BULK AT MOST 1048576: true; the input reads as it did. -/
def policyNamesUptoRow : OpenClaim := { program := "ytpakfepjfcpjkaa", sum := "f63e96745355a8fa36c8cb0f94dcdfced9395434b5c2d76974ff8b486e5b691d", func := "counterfoil/counterfoillaw21.PolicyNames", spec := "policyNames", apart := false, narrowed := true }
def PolicyNamesUptoSaid : Prop := policyNamesUptoRow.holds Try.pinned (OpenSpec.upto policyNamesSpec)

/-- 'counterfoillaw21.PolicyChooses', WHERE WHAT IT READS IS OF BULK AT MOST 1048576: true; the input reads as it did. -/
def policyChoosesUptoRow : OpenClaim := { program := "ytpakfepjfcpjkaa", sum := "f63e96745355a8fa36c8cb0f94dcdfced9395434b5c2d76974ff8b486e5b691d", func := "counterfoil/counterfoillaw21.PolicyChooses", spec := "policyChooses", apart := false, narrowed := true }
def PolicyChoosesUptoSaid : Prop := policyChoosesUptoRow.holds Try.pinned (OpenSpec.upto policyChoosesSpec)

/-- 'counterfoillaw21.PolicyFits', WHERE WHAT IT READS IS OF BULK AT MOST 1048576: true; the input reads as it did. -/
def policyFitsUptoRow : OpenClaim := { program := "ytpakfepjfcpjkaa", sum := "f63e96745355a8fa36c8cb0f94dcdfced9395434b5c2d76974ff8b486e5b691d", func := "counterfoil/counterfoillaw21.PolicyFits", spec := "policyFits", apart := false, narrowed := true }
def PolicyFitsUptoSaid : Prop := policyFitsUptoRow.holds Try.pinned (OpenSpec.upto policyFitsSpec)

end Rows
end Go.Proofs.Ytpakfepjfcpjkaa
