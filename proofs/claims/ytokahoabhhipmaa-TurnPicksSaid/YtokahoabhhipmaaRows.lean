/-
  No cell of these rows narrows 'for every input' (looked for: loops, veiled, ifaces, maps, wideKeys, modest, calm, conditions, laid).
  DERIVED. THE GIVEN ROWS OF THIS SEAT. 3 by the template 'for every input the law returns true; each argument reads behind the call as it read before'; 0 by the template 'total and deterministic' (their statements: YtokahoabhhipmaaTotals.lean).
  GIVEN WITH THE SEED: the statements are not yours to turn. If you find one false, say at which input.
  Laid BY PROGRAM, IN A SANDBOX (cutbox-rows.mjs): the forced cells as the released guide's own fill.sh prints them over the translation 189ef01ed235950c… (all of the seat's roots in one cut). By AI agents, Wed Nov 11 2026. No macro, syntax, notation, axiom, sorry.
-/
import Derived.Test.YtokahoabhhipmaaChecked
import GoSem.Claim
import GoSem.ClaimJoined
import GoSem.ClaimMapViews
import Derived.JoinedTies
import Derived.KernelRfl
namespace Go.Proofs.Ytokahoabhhipmaa
/- THE CELL 'sum', in the pinned program and in every row, IS THE sha256 OF THE DUMP (.gsa) THAT YtokahoabhhipmaaProg.lean LOADS. Nothing in Lean hashes anything: it is a label: what it is worth is what the hold of that sum in a sandbox is worth. -/
noncomputable def Try.pinned : Pinned := { name := "ytokahoabhhipmaa", sum := "189ef01ed235950ce587a7b28c702e2804bc867891db9a2d2796d4e876d49858", checked := Try.checked }
namespace Rows
def none {H : Type} : Left H := { results := [], args := [] }

/-- 'counterfoillaw18.TurnAll': WHATEVER THE INPUT: true; the input reads as it did. -/
def turnAllSpec : ChangeSpec := { name := "turnAll", fn := fun _ => fun
  | [d1, d2] => { results := [.lit (.bool true)], args := [d1, d2] }
  | _ => none }
def turnAllRow : OpenClaim := { program := "ytokahoabhhipmaa", sum := "189ef01ed235950ce587a7b28c702e2804bc867891db9a2d2796d4e876d49858", func := "counterfoil/counterfoillaw18.TurnAll", spec := "turnAll", apart := false }
def TurnAllSaid : Prop := turnAllRow.holds Try.pinned (OpenSpec.ofChange turnAllSpec)

/-- ITS FALSE NEIGHBOUR: 'it returns false'. Refute it at one input. -/
def turnAllWrong : ChangeSpec := { name := "turnAll", fn := fun _ => fun
  | [d1, d2] => { results := [.lit (.bool false)], args := [d1, d2] }
  | _ => none }
def TurnAllWrongFalsely : Prop := turnAllRow.holds Try.pinned (OpenSpec.ofChange turnAllWrong)

/-- 'counterfoillaw18.TurnTwo': WHATEVER THE INPUT: true; the input reads as it did. -/
def turnTwoSpec : ChangeSpec := { name := "turnTwo", fn := fun _ => fun
  | [d1, d2, d3] => { results := [.lit (.bool true)], args := [d1, d2, d3] }
  | _ => none }
def turnTwoRow : OpenClaim := { program := "ytokahoabhhipmaa", sum := "189ef01ed235950ce587a7b28c702e2804bc867891db9a2d2796d4e876d49858", func := "counterfoil/counterfoillaw18.TurnTwo", spec := "turnTwo", apart := false }
def TurnTwoSaid : Prop := turnTwoRow.holds Try.pinned (OpenSpec.ofChange turnTwoSpec)

/-- ITS FALSE NEIGHBOUR: 'it returns false'. Refute it at one input. -/
def turnTwoWrong : ChangeSpec := { name := "turnTwo", fn := fun _ => fun
  | [d1, d2, d3] => { results := [.lit (.bool false)], args := [d1, d2, d3] }
  | _ => none }
def TurnTwoWrongFalsely : Prop := turnTwoRow.holds Try.pinned (OpenSpec.ofChange turnTwoWrong)

/-- 'counterfoillaw18.TurnPicks': WHATEVER THE INPUT: true; the input reads as it did. -/
def turnPicksSpec : ChangeSpec := { name := "turnPicks", fn := fun _ => fun
  | [d] => { results := [.lit (.bool true)], args := [d] }
  | _ => none }
def turnPicksRow : OpenClaim := { program := "ytokahoabhhipmaa", sum := "189ef01ed235950ce587a7b28c702e2804bc867891db9a2d2796d4e876d49858", func := "counterfoil/counterfoillaw18.TurnPicks", spec := "turnPicks", apart := false }
def TurnPicksSaid : Prop := turnPicksRow.holds Try.pinned (OpenSpec.ofChange turnPicksSpec)

/-- ITS FALSE NEIGHBOUR: 'it returns false'. Refute it at one input. -/
def turnPicksWrong : ChangeSpec := { name := "turnPicks", fn := fun _ => fun
  | [d] => { results := [.lit (.bool false)], args := [d] }
  | _ => none }
def TurnPicksWrongFalsely : Prop := turnPicksRow.holds Try.pinned (OpenSpec.ofChange turnPicksWrong)

/- THE SECOND FORM. 'bulk': how many values and letters a reading holds, each counted each time it is reached (what is shared counts as often as it is met; a slice's spare places count too). A statement '..UptoSaid' is the law's where the arguments, and the package variables that the reading takes, are together of bulk at most 1048576: NARROWER than '..Said'. Prove '..Said' where nothing that the law and all that it calls make is longer than what came in: it says more and counts as full. Else prove '..UptoSaid'. A law counts once. -/
mutual
def uptoBulk {H : Type} : DataW H → Nat
  | .lit (.string bytes) => bytes.length + 1
  | .lit _ => 1
  | .nil => 1
  | .ptr d => uptoBulk d + 1
  | .slice elems spare => uptoBulkAll elems + uptoBulkAll spare + 1
  | .agg parts => uptoBulkAll parts + 1
  | .iface _ d => uptoBulk d + 1
  | .map entries => uptoBulkEntries entries + 1
  | .held _ => 1
def uptoBulkAll {H : Type} : List (DataW H) → Nat
  | [] => 0
  | d :: r => uptoBulk d + uptoBulkAll r
def uptoBulkEntries {H : Type} : List (Lit × DataW H) → Nat
  | [] => 0
  | x :: r => uptoBulkEntry x + uptoBulkEntries r
def uptoBulkEntry {H : Type} : Lit × DataW H → Nat
  | (.string bytes, d) => bytes.length + uptoBulk d + 1
  | (_, d) => uptoBulk d + 1
 end
def uptoSmall : (H : Type) → List (DataW H) → Bool := fun _ ds => decide (uptoBulkAll ds ≤ 1048576)
def OpenSpec.upto (s : _root_.Go.ChangeSpec) : _root_.Go.OpenSpec := { _root_.Go.OpenSpec.ofChange s with cond := some uptoSmall }

/-- 'counterfoillaw18.TurnAll', WHERE WHAT IT READS IS OF BULK AT MOST 1048576: true; the input reads as it did. -/
def turnAllUptoRow : OpenClaim := { program := "ytokahoabhhipmaa", sum := "189ef01ed235950ce587a7b28c702e2804bc867891db9a2d2796d4e876d49858", func := "counterfoil/counterfoillaw18.TurnAll", spec := "turnAll", apart := false, narrowed := true }
def TurnAllUptoSaid : Prop := turnAllUptoRow.holds Try.pinned (OpenSpec.upto turnAllSpec)

/-- 'counterfoillaw18.TurnTwo', WHERE WHAT IT READS IS OF BULK AT MOST 1048576: true; the input reads as it did. -/
def turnTwoUptoRow : OpenClaim := { program := "ytokahoabhhipmaa", sum := "189ef01ed235950ce587a7b28c702e2804bc867891db9a2d2796d4e876d49858", func := "counterfoil/counterfoillaw18.TurnTwo", spec := "turnTwo", apart := false, narrowed := true }
def TurnTwoUptoSaid : Prop := turnTwoUptoRow.holds Try.pinned (OpenSpec.upto turnTwoSpec)

/-- 'counterfoillaw18.TurnPicks', WHERE WHAT IT READS IS OF BULK AT MOST 1048576: true; the input reads as it did. -/
def turnPicksUptoRow : OpenClaim := { program := "ytokahoabhhipmaa", sum := "189ef01ed235950ce587a7b28c702e2804bc867891db9a2d2796d4e876d49858", func := "counterfoil/counterfoillaw18.TurnPicks", spec := "turnPicks", apart := false, narrowed := true }
def TurnPicksUptoSaid : Prop := turnPicksUptoRow.holds Try.pinned (OpenSpec.upto turnPicksSpec)

end Rows
end Go.Proofs.Ytokahoabhhipmaa
