/-
  No cell of these rows narrows 'for every input' (looked for: loops, veiled, ifaces, maps, wideKeys, modest, calm, conditions, laid).
  DERIVED. THE GIVEN ROWS OF THIS SEAT. 2 by the template 'for every input the law returns true; each argument reads behind the call as it read before'; 0 by the template 'total and deterministic' (their statements: YtfdlpgmoohlgeaaTotals.lean).
  GIVEN WITH THE SEED: the statements are not yours to turn. If you find one false, say at which input.
  Laid BY PROGRAM, IN A SANDBOX (cutbox-rows.mjs): the forced cells as the released guide's own fill.sh prints them over the translation d2c3bfc952d00f4f… (all of the seat's roots in one cut). By AI agents, Wed Nov 11 2026. No macro, syntax, notation, axiom, sorry.
-/
import Derived.Test.YtfdlpgmoohlgeaaChecked
import GoSem.Claim
import GoSem.ClaimJoined
import GoSem.ClaimMapViews
import Derived.JoinedTies
import Derived.KernelRfl
namespace Go.Proofs.Ytfdlpgmoohlgeaa
/- THE CELL 'sum', in the pinned program and in every row, IS THE sha256 OF THE DUMP (.gsa) THAT YtfdlpgmoohlgeaaProg.lean LOADS. Nothing in Lean hashes anything: it is a label: what it is worth is what the hold of that sum in a sandbox is worth. -/
noncomputable def Try.pinned : Pinned := { name := "ytfdlpgmoohlgeaa", sum := "d2c3bfc952d00f4fb53134d37546dbc735b42ac13f0b0397c76431c66e9d4e30", checked := Try.checked }
namespace Rows
def none {H : Type} : Left H := { results := [], args := [] }

/-- 'counterfoillaw19.SmoothShares': WHATEVER THE INPUT: true; the input reads as it did. -/
def smoothSharesSpec : ChangeSpec := { name := "smoothShares", fn := fun _ => fun
  | [d1, d2] => { results := [.lit (.bool true)], args := [d1, d2] }
  | _ => none }
def smoothSharesRow : OpenClaim := { program := "ytfdlpgmoohlgeaa", sum := "d2c3bfc952d00f4fb53134d37546dbc735b42ac13f0b0397c76431c66e9d4e30", func := "counterfoil/counterfoillaw19.SmoothShares", spec := "smoothShares", apart := false }
def SmoothSharesSaid : Prop := smoothSharesRow.holds Try.pinned (OpenSpec.ofChange smoothSharesSpec)

/-- ITS FALSE NEIGHBOUR: 'it returns false'. Refute it at one input. -/
def smoothSharesWrong : ChangeSpec := { name := "smoothShares", fn := fun _ => fun
  | [d1, d2] => { results := [.lit (.bool false)], args := [d1, d2] }
  | _ => none }
def SmoothSharesWrongFalsely : Prop := smoothSharesRow.holds Try.pinned (OpenSpec.ofChange smoothSharesWrong)

/-- 'counterfoillaw19.SmoothPicks': WHATEVER THE INPUT: true; the input reads as it did. -/
def smoothPicksSpec : ChangeSpec := { name := "smoothPicks", fn := fun _ => fun
  | [d1, d2] => { results := [.lit (.bool true)], args := [d1, d2] }
  | _ => none }
def smoothPicksRow : OpenClaim := { program := "ytfdlpgmoohlgeaa", sum := "d2c3bfc952d00f4fb53134d37546dbc735b42ac13f0b0397c76431c66e9d4e30", func := "counterfoil/counterfoillaw19.SmoothPicks", spec := "smoothPicks", apart := false }
def SmoothPicksSaid : Prop := smoothPicksRow.holds Try.pinned (OpenSpec.ofChange smoothPicksSpec)

/-- ITS FALSE NEIGHBOUR: 'it returns false'. Refute it at one input. -/
def smoothPicksWrong : ChangeSpec := { name := "smoothPicks", fn := fun _ => fun
  | [d1, d2] => { results := [.lit (.bool false)], args := [d1, d2] }
  | _ => none }
def SmoothPicksWrongFalsely : Prop := smoothPicksRow.holds Try.pinned (OpenSpec.ofChange smoothPicksWrong)

/- THE SECOND FORM. 'bulk': how many values and letters a reading holds, each counted each time it is reached (what is shared counts as often as it is met; a slice's spare places count too). A statement '..UptoSaid' is the law's where the arguments, and the package variables that the reading takes, are together of bulk at most 1048576: NARROWER than '..Said'. Prove '..Said' where nothing that the law and all that it calls make is longer than what came in: it says more and counts as full. Else prove '..UptoSaid'. A law counts once. -/
mutual
def uptoBulk {H : Type} : DataW H → Nat
  | .lit (.string bytes) => bytes.length + 1
  | .lit _ => 1
  | .nil => 1
  | .ptr d => uptoBulk d + 1
  | .slice elems spare => uptoBulkAll elems + uptoBulkAll spare + 1
  | .agg parts => uptoBulkAll parts + 1
  | .iface _ d => uptoBulk d + 1
  | .map entries => uptoBulkEntries entries + 1
  | .held _ => 1
def uptoBulkAll {H : Type} : List (DataW H) → Nat
  | [] => 0
  | d :: r => uptoBulk d + uptoBulkAll r
def uptoBulkEntries {H : Type} : List (Lit × DataW H) → Nat
  | [] => 0
  | x :: r => uptoBulkEntry x + uptoBulkEntries r
def uptoBulkEntry {H : Type} : Lit × DataW H → Nat
  | (.string bytes, d) => bytes.length + uptoBulk d + 1
  | (_, d) => uptoBulk d + 1
 end
def uptoSmall : (H : Type) → List (DataW H) → Bool := fun _ ds => decide (uptoBulkAll ds ≤ 1048576)
def OpenSpec.upto (s : _root_.Go.ChangeSpec) : _root_.Go.OpenSpec := { _root_.Go.OpenSpec.ofChange s with cond := some uptoSmall }

/-- 'counterfoillaw19.SmoothShares', WHERE WHAT IT READS IS OF BULK AT MOST 1048576: true; the input reads as it did. -/
def smoothSharesUptoRow : OpenClaim := { program := "ytfdlpgmoohlgeaa", sum := "d2c3bfc952d00f4fb53134d37546dbc735b42ac13f0b0397c76431c66e9d4e30", func := "counterfoil/counterfoillaw19.SmoothShares", spec := "smoothShares", apart := false, narrowed := true }
def SmoothSharesUptoSaid : Prop := smoothSharesUptoRow.holds Try.pinned (OpenSpec.upto smoothSharesSpec)

/-- 'counterfoillaw19.SmoothPicks', WHERE WHAT IT READS IS OF BULK AT MOST 1048576: true; the input reads as it did. -/
def smoothPicksUptoRow : OpenClaim := { program := "ytfdlpgmoohlgeaa", sum := "d2c3bfc952d00f4fb53134d37546dbc735b42ac13f0b0397c76431c66e9d4e30", func := "counterfoil/counterfoillaw19.SmoothPicks", spec := "smoothPicks", apart := false, narrowed := true }
def SmoothPicksUptoSaid : Prop := smoothPicksUptoRow.holds Try.pinned (OpenSpec.upto smoothPicksSpec)

end Rows
end Go.Proofs.Ytfdlpgmoohlgeaa
