/-
  No cell of these rows narrows 'for every input' (looked for: loops, veiled, ifaces, maps, wideKeys, modest, calm, conditions, laid).
  DERIVED. THE GIVEN ROWS OF THIS SEAT. 3 by the template 'for every input the law returns true; each argument reads behind the call as it read before'; 0 by the template 'total and deterministic' (their statements: YtikakdcjbnbacaaTotals.lean).
  GIVEN WITH THE SEED: the statements are not yours to turn. If you find one false, say at which input.
  Laid BY PROGRAM, IN A SANDBOX (cutbox-rows.mjs): the forced cells as the released guide's own fill.sh prints them over the translation a0e8da36235139d0… (all of the seat's roots in one cut). By AI agents, Wed Nov 11 2026. No macro, syntax, notation, axiom, sorry.
-/
import Derived.Test.YtikakdcjbnbacaaChecked
import GoSem.Claim
import GoSem.ClaimJoined
import GoSem.ClaimMapViews
import Derived.JoinedTies
import Derived.KernelRfl
namespace Go.Proofs.Ytikakdcjbnbacaa
/- THE CELL 'sum', in the pinned program and in every row, IS THE sha256 OF THE DUMP (.gsa) THAT YtikakdcjbnbacaaProg.lean LOADS. Nothing in Lean hashes anything: it is a label: what it is worth is what the hold of that sum in a sandbox is worth. -/
noncomputable def Try.pinned : Pinned := { name := "ytikakdcjbnbacaa", sum := "a0e8da36235139d0021271a0a1ae811b671b4a5f2c9f5bca3fb033b22a1f2e61", checked := Try.checked }
namespace Rows
def none {H : Type} : Left H := { results := [], args := [] }

/-- 'counterfoillaw20.LeastPicks': WHATEVER THE INPUT: true; the input reads as it did. -/
def leastPicksSpec : ChangeSpec := { name := "leastPicks", fn := fun _ => fun
  | [d] => { results := [.lit (.bool true)], args := [d] }
  | _ => none }
def leastPicksRow : OpenClaim := { program := "ytikakdcjbnbacaa", sum := "a0e8da36235139d0021271a0a1ae811b671b4a5f2c9f5bca3fb033b22a1f2e61", func := "counterfoil/counterfoillaw20.LeastPicks", spec := "leastPicks", unfollowed := true, recurses := true, apart := false }
def LeastPicksSaid : Prop := leastPicksRow.holds Try.pinned (OpenSpec.ofChange leastPicksSpec)

/-- ITS FALSE NEIGHBOUR: 'it returns false'. Refute it at one input. -/
def leastPicksWrong : ChangeSpec := { name := "leastPicks", fn := fun _ => fun
  | [d] => { results := [.lit (.bool false)], args := [d] }
  | _ => none }
def LeastPicksWrongFalsely : Prop := leastPicksRow.holds Try.pinned (OpenSpec.ofChange leastPicksWrong)

/-- 'counterfoillaw20.LeastSorts': WHATEVER THE INPUT: true; the input reads as it did. -/
def leastSortsSpec : ChangeSpec := { name := "leastSorts", fn := fun _ => fun
  | [d] => { results := [.lit (.bool true)], args := [d] }
  | _ => none }
def leastSortsRow : OpenClaim := { program := "ytikakdcjbnbacaa", sum := "a0e8da36235139d0021271a0a1ae811b671b4a5f2c9f5bca3fb033b22a1f2e61", func := "counterfoil/counterfoillaw20.LeastSorts", spec := "leastSorts", unfollowed := true, recurses := true, apart := false }
def LeastSortsSaid : Prop := leastSortsRow.holds Try.pinned (OpenSpec.ofChange leastSortsSpec)

/-- ITS FALSE NEIGHBOUR: 'it returns false'. Refute it at one input. -/
def leastSortsWrong : ChangeSpec := { name := "leastSorts", fn := fun _ => fun
  | [d] => { results := [.lit (.bool false)], args := [d] }
  | _ => none }
def LeastSortsWrongFalsely : Prop := leastSortsRow.holds Try.pinned (OpenSpec.ofChange leastSortsWrong)

/-- 'counterfoillaw20.LeastPlays': WHATEVER THE INPUT: true; the input reads as it did. -/
def leastPlaysSpec : ChangeSpec := { name := "leastPlays", fn := fun _ => fun
  | [d] => { results := [.lit (.bool true)], args := [d] }
  | _ => none }
def leastPlaysRow : OpenClaim := { program := "ytikakdcjbnbacaa", sum := "a0e8da36235139d0021271a0a1ae811b671b4a5f2c9f5bca3fb033b22a1f2e61", func := "counterfoil/counterfoillaw20.LeastPlays", spec := "leastPlays", unfollowed := true, recurses := true, apart := false }
def LeastPlaysSaid : Prop := leastPlaysRow.holds Try.pinned (OpenSpec.ofChange leastPlaysSpec)

/-- ITS FALSE NEIGHBOUR: 'it returns false'. Refute it at one input. -/
def leastPlaysWrong : ChangeSpec := { name := "leastPlays", fn := fun _ => fun
  | [d] => { results := [.lit (.bool false)], args := [d] }
  | _ => none }
def LeastPlaysWrongFalsely : Prop := leastPlaysRow.holds Try.pinned (OpenSpec.ofChange leastPlaysWrong)

/- THE SECOND FORM. 'bulk': how many values and letters a reading holds, each counted each time it is reached (what is shared counts as often as it is met; a slice's spare places count too). A statement '..UptoSaid' is the law's where the arguments, and the package variables that the reading takes, are together of bulk at most 1048576: NARROWER than '..Said'. Prove '..Said' where nothing that the law and all that it calls make is longer than what came in: it says more and counts as full. Else prove '..UptoSaid'. A law counts once. -/
mutual
def uptoBulk {H : Type} : DataW H → Nat
  | .lit (.string bytes) => bytes.length + 1
  | .lit _ => 1
  | .nil => 1
  | .ptr d => uptoBulk d + 1
  | .slice elems spare => uptoBulkAll elems + uptoBulkAll spare + 1
  | .agg parts => uptoBulkAll parts + 1
  | .iface _ d => uptoBulk d + 1
  | .map entries => uptoBulkEntries entries + 1
  | .held _ => 1
def uptoBulkAll {H : Type} : List (DataW H) → Nat
  | [] => 0
  | d :: r => uptoBulk d + uptoBulkAll r
def uptoBulkEntries {H : Type} : List (Lit × DataW H) → Nat
  | [] => 0
  | x :: r => uptoBulkEntry x + uptoBulkEntries r
def uptoBulkEntry {H : Type} : Lit × DataW H → Nat
  | (.string bytes, d) => bytes.length + uptoBulk d + 1
  | (_, d) => uptoBulk d + 1
 end
def uptoSmall : (H : Type) → List (DataW H) → Bool := fun _ ds => decide (uptoBulkAll ds ≤ 1048576)
def OpenSpec.upto (s : _root_.Go.ChangeSpec) : _root_.Go.OpenSpec := { _root_.Go.OpenSpec.ofChange s with cond := some uptoSmall }

/-- 'counterfoillaw20.LeastPicks', WHERE WHAT IT READS IS OF BULK AT MOST 1048576: true; the input reads as it did. -/
def leastPicksUptoRow : OpenClaim := { program := "ytikakdcjbnbacaa", sum := "a0e8da36235139d0021271a0a1ae811b671b4a5f2c9f5bca3fb033b22a1f2e61", func := "counterfoil/counterfoillaw20.LeastPicks", spec := "leastPicks", unfollowed := true, recurses := true, apart := false, narrowed := true }
def LeastPicksUptoSaid : Prop := leastPicksUptoRow.holds Try.pinned (OpenSpec.upto leastPicksSpec)

/-- 'counterfoillaw20.LeastSorts', WHERE WHAT IT READS IS OF BULK AT MOST 1048576: true; the input reads as it did. -/
def leastSortsUptoRow : OpenClaim := { program := "ytikakdcjbnbacaa", sum := "a0e8da36235139d0021271a0a1ae811b671b4a5f2c9f5bca3fb033b22a1f2e61", func := "counterfoil/counterfoillaw20.LeastSorts", spec := "leastSorts", unfollowed := true, recurses := true, apart := false, narrowed := true }
def LeastSortsUptoSaid : Prop := leastSortsUptoRow.holds Try.pinned (OpenSpec.upto leastSortsSpec)

/-- 'counterfoillaw20.LeastPlays', WHERE WHAT IT READS IS OF BULK AT MOST 1048576: true; the input reads as it did. -/
def leastPlaysUptoRow : OpenClaim := { program := "ytikakdcjbnbacaa", sum := "a0e8da36235139d0021271a0a1ae811b671b4a5f2c9f5bca3fb033b22a1f2e61", func := "counterfoil/counterfoillaw20.LeastPlays", spec := "leastPlays", unfollowed := true, recurses := true, apart := false, narrowed := true }
def LeastPlaysUptoSaid : Prop := leastPlaysUptoRow.holds Try.pinned (OpenSpec.upto leastPlaysSpec)

end Rows
end Go.Proofs.Ytikakdcjbnbacaa
