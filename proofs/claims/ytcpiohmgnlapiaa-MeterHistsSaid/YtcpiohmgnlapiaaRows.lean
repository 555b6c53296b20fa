/-
  No cell of these rows narrows 'for every input' (looked for: loops, veiled, ifaces, maps, wideKeys, modest, calm, conditions, laid).
  DERIVED. THE GIVEN ROWS OF THIS SEAT. 3 by the template 'for every input the law returns true; each argument reads behind the call as it read before'; 0 by the template 'total and deterministic' (their statements: YtcpiohmgnlapiaaTotals.lean).
  GIVEN WITH THE SEED: the statements are not yours to turn. If you find one false, say at which input.
  Laid BY PROGRAM, IN A SANDBOX (cutbox-rows.mjs): the forced cells as the released guide's own fill.sh prints them over the translation 038fbde4814aabcc… (all of the seat's roots in one cut). By AI agents, Wed Nov 11 2026. No macro, syntax, notation, axiom, sorry.
-/
import Derived.Test.YtcpiohmgnlapiaaChecked
import GoSem.Claim
import GoSem.ClaimJoined
import GoSem.ClaimMapViews
import Derived.JoinedTies
import Derived.KernelRfl
namespace Go.Proofs.Ytcpiohmgnlapiaa
/- THE CELL 'sum', in the pinned program and in every row, IS THE sha256 OF THE DUMP (.gsa) THAT YtcpiohmgnlapiaaProg.lean LOADS. Nothing in Lean hashes anything: it is a label: what it is worth is what the hold of that sum in a sandbox is worth. -/
noncomputable def Try.pinned : Pinned := { name := "ytcpiohmgnlapiaa", sum := "038fbde4814aabcc651ba954ceffd2a8e183b29ffccf07b579c22713fb609673", checked := Try.checked }
namespace Rows
def none {H : Type} : Left H := { results := [], args := [] }

/-- 'counterfoillaw43.MeterBounds': WHATEVER THE INPUT: true; the input reads as it did. -/
def meterBoundsSpec : ChangeSpec := { name := "meterBounds", fn := fun _ => fun
  | [d1, d2, d3] => { results := [.lit (.bool true)], args := [d1, d2, d3] }
  | _ => none }
def meterBoundsRow : OpenClaim := { program := "ytcpiohmgnlapiaa", sum := "038fbde4814aabcc651ba954ceffd2a8e183b29ffccf07b579c22713fb609673", func := "counterfoil/counterfoillaw43.MeterBounds", spec := "meterBounds", apart := false }
def MeterBoundsSaid : Prop := meterBoundsRow.holds Try.pinned (OpenSpec.ofChange meterBoundsSpec)

/-- ITS FALSE NEIGHBOUR: 'it returns false'. Refute it at one input. -/
def meterBoundsWrong : ChangeSpec := { name := "meterBounds", fn := fun _ => fun
  | [d1, d2, d3] => { results := [.lit (.bool false)], args := [d1, d2, d3] }
  | _ => none }
def MeterBoundsWrongFalsely : Prop := meterBoundsRow.holds Try.pinned (OpenSpec.ofChange meterBoundsWrong)

/-- 'counterfoillaw43.MeterBuckets': WHATEVER THE INPUT: true; the input reads as it did. -/
def meterBucketsSpec : ChangeSpec := { name := "meterBuckets", fn := fun _ => fun
  | [d1, d2, d3] => { results := [.lit (.bool true)], args := [d1, d2, d3] }
  | _ => none }
def meterBucketsRow : OpenClaim := { program := "ytcpiohmgnlapiaa", sum := "038fbde4814aabcc651ba954ceffd2a8e183b29ffccf07b579c22713fb609673", func := "counterfoil/counterfoillaw43.MeterBuckets", spec := "meterBuckets", apart := false }
def MeterBucketsSaid : Prop := meterBucketsRow.holds Try.pinned (OpenSpec.ofChange meterBucketsSpec)

/-- ITS FALSE NEIGHBOUR: 'it returns false'. Refute it at one input. -/
def meterBucketsWrong : ChangeSpec := { name := "meterBuckets", fn := fun _ => fun
  | [d1, d2, d3] => { results := [.lit (.bool false)], args := [d1, d2, d3] }
  | _ => none }
def MeterBucketsWrongFalsely : Prop := meterBucketsRow.holds Try.pinned (OpenSpec.ofChange meterBucketsWrong)

/-- 'counterfoillaw43.MeterHists': WHATEVER THE INPUT: true; the input reads as it did. -/
def meterHistsSpec : ChangeSpec := { name := "meterHists", fn := fun _ => fun
  | [d1, d2, d3] => { results := [.lit (.bool true)], args := [d1, d2, d3] }
  | _ => none }
def meterHistsRow : OpenClaim := { program := "ytcpiohmgnlapiaa", sum := "038fbde4814aabcc651ba954ceffd2a8e183b29ffccf07b579c22713fb609673", func := "counterfoil/counterfoillaw43.MeterHists", spec := "meterHists", apart := false }
def MeterHistsSaid : Prop := meterHistsRow.holds Try.pinned (OpenSpec.ofChange meterHistsSpec)

/-- ITS FALSE NEIGHBOUR: 'it returns false'. Refute it at one input. -/
def meterHistsWrong : ChangeSpec := { name := "meterHists", fn := fun _ => fun
  | [d1, d2, d3] => { results := [.lit (.bool false)], args := [d1, d2, d3] }
  | _ => none }
def MeterHistsWrongFalsely : Prop := meterHistsRow.holds Try.pinned (OpenSpec.ofChange meterHistsWrong)

/- THE SECOND FORM. 'bulk': how many values and letters a reading holds, each counted each time it is reached (what is shared counts as often as it is met; a slice's spare places count too). A statement '..UptoSaid' is the law's where the arguments, and the package variables that the reading takes, are together of bulk at most 1048576: NARROWER than '..Said'. Prove '..Said' where nothing that the law and all that it calls make is longer than what came in: it says more and counts as full. Else prove '..UptoSaid'. A law counts once. -/
mutual
def uptoBulk {H : Type} : DataW H → Nat
  | .lit (.string bytes) => bytes.length + 1
  | .lit _ => 1
  | .nil => 1
  | .ptr d => uptoBulk d + 1
  | .slice elems spare => uptoBulkAll elems + uptoBulkAll spare + 1
  | .agg parts => uptoBulkAll parts + 1
  | .iface _ d => uptoBulk d + 1
  | .map entries => uptoBulkEntries entries + 1
  | .held _ => 1
def uptoBulkAll {H : Type} : List (DataW H) → Nat
  | [] => 0
  | d :: r => uptoBulk d + uptoBulkAll r
def uptoBulkEntries {H : Type} : List (Lit × DataW H) → Nat
  | [] => 0
  | x :: r => uptoBulkEntry x + uptoBulkEntries r
def uptoBulkEntry {H : Type} : Lit × DataW H → Nat
  | (.string bytes, d) => bytes.length + uptoBulk d + 1
  | (_, d) => uptoBulk d + 1
 end
def uptoSmall : (H : Type) → List (DataW H) → Bool := fun _ ds => decide (uptoBulkAll ds ≤ 1048576)
def OpenSpec.upto (s : _root_.Go.ChangeSpec) : _root_.Go.OpenSpec := { _root_.Go.OpenSpec.ofChange s with cond := some uptoSmall }

/-- 'counterfoillaw43.MeterBounds', WHERE WHAT IT READS IS OF BULK AT MOST 1048576: true; the input reads as it did. -/
def meterBoundsUptoRow : OpenClaim := { program := "ytcpiohmgnlapiaa", sum := "038fbde4814aabcc651ba954ceffd2a8e183b29ffccf07b579c22713fb609673", func := "counterfoil/counterfoillaw43.MeterBounds", spec := "meterBounds", apart := false, narrowed := true }
def MeterBoundsUptoSaid : Prop := meterBoundsUptoRow.holds Try.pinned (OpenSpec.upto meterBoundsSpec)

/-- 'counterfoillaw43.MeterBuckets', WHERE WHAT IT READS IS OF BULK AT MOST 1048576: true; the input reads as it did. -/
def meterBucketsUptoRow : OpenClaim := { program := "ytcpiohmgnlapiaa", sum := "038fbde4814aabcc651ba954ceffd2a8e183b29ffccf07b579c22713fb609673", func := "counterfoil/counterfoillaw43.MeterBuckets", spec := "meterBuckets", apart := false, narrowed := true }
def MeterBucketsUptoSaid : Prop := meterBucketsUptoRow.holds Try.pinned (OpenSpec.upto meterBucketsSpec)

/-- 'counterfoillaw43.MeterHists', WHERE WHAT IT READS IS OF BULK AT MOST 1048576: true; the input reads as it did. -/
def meterHistsUptoRow : OpenClaim := { program := "ytcpiohmgnlapiaa", sum := "038fbde4814aabcc651ba954ceffd2a8e183b29ffccf07b579c22713fb609673", func := "counterfoil/counterfoillaw43.MeterHists", spec := "meterHists", apart := false, narrowed := true }
def MeterHistsUptoSaid : Prop := meterHistsUptoRow.holds Try.pinned (OpenSpec.upto meterHistsSpec)

end Rows
end Go.Proofs.Ytcpiohmgnlapiaa
