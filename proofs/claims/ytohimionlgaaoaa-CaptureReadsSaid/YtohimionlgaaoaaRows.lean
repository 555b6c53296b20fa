/-
  No cell of these rows narrows 'for every input' (looked for: loops, veiled, ifaces, maps, wideKeys, modest, calm, conditions, laid).
  DERIVED. THE GIVEN ROWS OF THIS SEAT. 3 by the template 'for every input the law returns true; each argument reads behind the call as it read before'; 0 by the template 'total and deterministic' (their statements: YtohimionlgaaoaaTotals.lean).
  GIVEN WITH THE SEED: the statements are not yours to turn. If you find one false, say at which input.
  Laid BY PROGRAM, IN A SANDBOX (cutbox-rows.mjs): the forced cells as the released guide's own fill.sh prints them over the translation 460e470c8feb51c4… (all of the seat's roots in one cut). By AI agents, Wed Nov 11 2026. No macro, syntax, notation, axiom, sorry.
-/
import Derived.Test.YtohimionlgaaoaaChecked
import GoSem.Claim
import GoSem.ClaimJoined
import GoSem.ClaimMapViews
import Derived.JoinedTies
import Derived.KernelRfl
namespace Go.Proofs.Ytohimionlgaaoaa
/- THE CELL 'sum', in the pinned program and in every row, IS THE sha256 OF THE DUMP (.gsa) THAT YtohimionlgaaoaaProg.lean LOADS. Nothing in Lean hashes anything: it is a label: what it is worth is what the hold of that sum in a sandbox is worth. -/
noncomputable def Try.pinned : Pinned := { name := "ytohimionlgaaoaa", sum := "460e470c8feb51c4898c9be569d88122d0452d996eeb1ef302a2e923d911caaf", checked := Try.checked }
namespace Rows
def none {H : Type} : Left H := { results := [], args := [] }

/-- 'counterfoillaw45.CaptureWrites': WHATEVER THE INPUT: true; the input reads as it did. -/
def captureWritesSpec : ChangeSpec := { name := "captureWrites", fn := fun _ => fun
  | [d1, d2] => { results := [.lit (.bool true)], args := [d1, d2] }
  | _ => none }
def captureWritesRow : OpenClaim := { program := "ytohimionlgaaoaa", sum := "460e470c8feb51c4898c9be569d88122d0452d996eeb1ef302a2e923d911caaf", func := "counterfoil/counterfoillaw45.CaptureWrites", spec := "captureWrites", apart := false }
def CaptureWritesSaid : Prop := captureWritesRow.holds Try.pinned (OpenSpec.ofChange captureWritesSpec)

/-- ITS FALSE NEIGHBOUR: 'it returns false'. Refute it at one input. -/
def captureWritesWrong : ChangeSpec := { name := "captureWrites", fn := fun _ => fun
  | [d1, d2] => { results := [.lit (.bool false)], args := [d1, d2] }
  | _ => none }
def CaptureWritesWrongFalsely : Prop := captureWritesRow.holds Try.pinned (OpenSpec.ofChange captureWritesWrong)

/-- 'counterfoillaw45.CaptureReads': WHATEVER THE INPUT: true; the input reads as it did. -/
def captureReadsSpec : ChangeSpec := { name := "captureReads", fn := fun _ => fun
  | [d1, d2, d3] => { results := [.lit (.bool true)], args := [d1, d2, d3] }
  | _ => none }
def captureReadsRow : OpenClaim := { program := "ytohimionlgaaoaa", sum := "460e470c8feb51c4898c9be569d88122d0452d996eeb1ef302a2e923d911caaf", func := "counterfoil/counterfoillaw45.CaptureReads", spec := "captureReads", unfollowed := true, recurses := true, apart := false }
def CaptureReadsSaid : Prop := captureReadsRow.holds Try.pinned (OpenSpec.ofChange captureReadsSpec)

/-- ITS FALSE NEIGHBOUR: 'it returns false'. Refute it at one input. -/
def captureReadsWrong : ChangeSpec := { name := "captureReads", fn := fun _ => fun
  | [d1, d2, d3] => { results := [.lit (.bool false)], args := [d1, d2, d3] }
  | _ => none }
def CaptureReadsWrongFalsely : Prop := captureReadsRow.holds Try.pinned (OpenSpec.ofChange captureReadsWrong)

/-- 'counterfoillaw45.CaptureBack': WHATEVER THE INPUT: true; the input reads as it did. -/
def captureBackSpec : ChangeSpec := { name := "captureBack", fn := fun _ => fun
  | [d1, d2] => { results := [.lit (.bool true)], args := [d1, d2] }
  | _ => none }
def captureBackRow : OpenClaim := { program := "ytohimionlgaaoaa", sum := "460e470c8feb51c4898c9be569d88122d0452d996eeb1ef302a2e923d911caaf", func := "counterfoil/counterfoillaw45.CaptureBack", spec := "captureBack", unfollowed := true, recurses := true, apart := false }
def CaptureBackSaid : Prop := captureBackRow.holds Try.pinned (OpenSpec.ofChange captureBackSpec)

/-- ITS FALSE NEIGHBOUR: 'it returns false'. Refute it at one input. -/
def captureBackWrong : ChangeSpec := { name := "captureBack", fn := fun _ => fun
  | [d1, d2] => { results := [.lit (.bool false)], args := [d1, d2] }
  | _ => none }
def CaptureBackWrongFalsely : Prop := captureBackRow.holds Try.pinned (OpenSpec.ofChange captureBackWrong)

/- THE SECOND FORM. 'bulk': how many values and letters a reading holds, each counted each time it is reached (what is shared counts as often as it is met; a slice's spare places count too). A statement '..UptoSaid' is the law's where the arguments, and the package variables that the reading takes, are together of bulk at most 1048576: NARROWER than '..Said'. Prove '..Said' where nothing that the law and all that it calls make is longer than what came in: it says more and counts as full. Else prove '..UptoSaid'. A law counts once. -/
mutual
def uptoBulk {H : Type} : DataW H → Nat
  | .lit (.string bytes) => bytes.length + 1
  | .lit _ => 1
  | .nil => 1
  | .ptr d => uptoBulk d + 1
  | .slice elems spare => uptoBulkAll elems + uptoBulkAll spare + 1
  | .agg parts => uptoBulkAll parts + 1
  | .iface _ d => uptoBulk d + 1
  | .map entries => uptoBulkEntries entries + 1
  | .held _ => 1
def uptoBulkAll {H : Type} : List (DataW H) → Nat
  | [] => 0
  | d :: r => uptoBulk d + uptoBulkAll r
def uptoBulkEntries {H : Type} : List (Lit × DataW H) → Nat
  | [] => 0
  | x :: r => uptoBulkEntry x + uptoBulkEntries r
def uptoBulkEntry {H : Type} : Lit × DataW H → Nat
  | (.string bytes, d) => bytes.length + uptoBulk d + 1
  | (_, d) => uptoBulk d + 1
 end
def uptoSmall : (H : Type) → List (DataW H) → Bool := fun _ ds => decide (uptoBulkAll ds ≤ 1048576)
def OpenSpec.upto (s : _root_.Go.ChangeSpec) : _root_.Go.OpenSpec := { _root_.Go.OpenSpec.ofChange s with cond := some uptoSmall }

/-- 'counterfoillaw45.CaptureWrites', WHERE WHAT IT READS IS OF BULK AT MOST 1048576: true; the input reads as it did. -/
def captureWritesUptoRow : OpenClaim := { program := "ytohimionlgaaoaa", sum := "460e470c8feb51c4898c9be569d88122d0452d996eeb1ef302a2e923d911caaf", func := "counterfoil/counterfoillaw45.CaptureWrites", spec := "captureWrites", apart := false, narrowed := true }
def CaptureWritesUptoSaid : Prop := captureWritesUptoRow.holds Try.pinned (OpenSpec.upto captureWritesSpec)

/-- 'counterfoillaw45.CaptureReads', WHERE WHAT IT READS IS OF BULK AT MOST 1048576: true; the input reads as it did. -/
def captureReadsUptoRow : OpenClaim := { program := "ytohimionlgaaoaa", sum := "460e470c8feb51c4898c9be569d88122d0452d996eeb1ef302a2e923d911caaf", func := "counterfoil/counterfoillaw45.CaptureReads", spec := "captureReads", unfollowed := true, recurses := true, apart := false, narrowed := true }
def CaptureReadsUptoSaid : Prop := captureReadsUptoRow.holds Try.pinned (OpenSpec.upto captureReadsSpec)

/-- 'counterfoillaw45.CaptureBack', WHERE WHAT IT READS IS OF BULK AT MOST 1048576: true; the input reads as it did. -/
def captureBackUptoRow : OpenClaim := { program := "ytohimionlgaaoaa", sum := "460e470c8feb51c4898c9be569d88122d0452d996eeb1ef302a2e923d911caaf", func := "counterfoil/counterfoillaw45.CaptureBack", spec := "captureBack", unfollowed := true, recurses := true, apart := false, narrowed := true }
def CaptureBackUptoSaid : Prop := captureBackUptoRow.holds Try.pinned (OpenSpec.upto captureBackSpec)

end Rows
end Go.Proofs.Ytohimionlgaaoaa
