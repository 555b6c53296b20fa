/-
  No cell of these rows narrows 'for every input' (looked for: loops, veiled, ifaces, maps, wideKeys, modest, calm, conditions, laid).
  DERIVED. THE GIVEN ROWS OF THIS SEAT. 3 by the template 'for every input the law returns true; each argument reads behind the call as it read before'; 0 by the template 'total and deterministic' (their statements: YtkkmlpaadbphjaaTotals.lean).
  GIVEN WITH THE SEED: the statements are not yours to turn. If you find one false, say at which input.
  Laid BY PROGRAM, IN A SANDBOX (cutbox-rows.mjs): the forced cells as the released guide's own fill.sh prints them over the translation a402029f7565cf22… (all of the seat's roots in one cut). By AI agents, Wed Nov 11 2026. No macro, syntax, notation, axiom, sorry.
-/
import Derived.Test.YtkkmlpaadbphjaaChecked
import GoSem.Claim
import GoSem.ClaimJoined
import GoSem.ClaimMapViews
import Derived.JoinedTies
import Derived.KernelRfl
namespace Go.Proofs.Ytkkmlpaadbphjaa
/- THE CELL 'sum', in the pinned program and in every row, IS THE sha256 OF THE DUMP (.gsa) THAT YtkkmlpaadbphjaaProg.lean LOADS. Nothing in Lean hashes anything: it is a label: what it is worth is what the hold of that sum in a sandbox is worth. -/
noncomputable def Try.pinned : Pinned := { name := "ytkkmlpaadbphjaa", sum := "a402029f7565cf224443f5a0921cf7c5aa551cb1978c3725b7ce3d14a8568975", checked := Try.checked }
namespace Rows
def none {H : Type} : Left H := { results := [], args := [] }

/-- 'counterfoillaw41.SpreadAdds': WHATEVER THE INPUT: true; the input reads as it did. -/
def spreadAddsSpec : ChangeSpec := { name := "spreadAdds", fn := fun _ => fun
  | [d1, d2, d3] => { results := [.lit (.bool true)], args := [d1, d2, d3] }
  | _ => none }
def spreadAddsRow : OpenClaim := { program := "ytkkmlpaadbphjaa", sum := "a402029f7565cf224443f5a0921cf7c5aa551cb1978c3725b7ce3d14a8568975", func := "counterfoil/counterfoillaw41.SpreadAdds", spec := "spreadAdds", apart := false }
def SpreadAddsSaid : Prop := spreadAddsRow.holds Try.pinned (OpenSpec.ofChange spreadAddsSpec)

/-- ITS FALSE NEIGHBOUR: 'it returns false'. Refute it at one input. -/
def spreadAddsWrong : ChangeSpec := { name := "spreadAdds", fn := fun _ => fun
  | [d1, d2, d3] => { results := [.lit (.bool false)], args := [d1, d2, d3] }
  | _ => none }
def SpreadAddsWrongFalsely : Prop := spreadAddsRow.holds Try.pinned (OpenSpec.ofChange spreadAddsWrong)

/-- 'counterfoillaw41.SpreadPlaces': WHATEVER THE INPUT: true; the input reads as it did. -/
def spreadPlacesSpec : ChangeSpec := { name := "spreadPlaces", fn := fun _ => fun
  | [d1, d2, d3, d4, d5] => { results := [.lit (.bool true)], args := [d1, d2, d3, d4, d5] }
  | _ => none }
def spreadPlacesRow : OpenClaim := { program := "ytkkmlpaadbphjaa", sum := "a402029f7565cf224443f5a0921cf7c5aa551cb1978c3725b7ce3d14a8568975", func := "counterfoil/counterfoillaw41.SpreadPlaces", spec := "spreadPlaces", apart := false }
def SpreadPlacesSaid : Prop := spreadPlacesRow.holds Try.pinned (OpenSpec.ofChange spreadPlacesSpec)

/-- ITS FALSE NEIGHBOUR: 'it returns false'. Refute it at one input. -/
def spreadPlacesWrong : ChangeSpec := { name := "spreadPlaces", fn := fun _ => fun
  | [d1, d2, d3, d4, d5] => { results := [.lit (.bool false)], args := [d1, d2, d3, d4, d5] }
  | _ => none }
def SpreadPlacesWrongFalsely : Prop := spreadPlacesRow.holds Try.pinned (OpenSpec.ofChange spreadPlacesWrong)

/-- 'counterfoillaw41.SpreadSums': WHATEVER THE INPUT: true; the input reads as it did. -/
def spreadSumsSpec : ChangeSpec := { name := "spreadSums", fn := fun _ => fun
  | [d1, d2, d3] => { results := [.lit (.bool true)], args := [d1, d2, d3] }
  | _ => none }
def spreadSumsRow : OpenClaim := { program := "ytkkmlpaadbphjaa", sum := "a402029f7565cf224443f5a0921cf7c5aa551cb1978c3725b7ce3d14a8568975", func := "counterfoil/counterfoillaw41.SpreadSums", spec := "spreadSums", apart := false }
def SpreadSumsSaid : Prop := spreadSumsRow.holds Try.pinned (OpenSpec.ofChange spreadSumsSpec)

/-- ITS FALSE NEIGHBOUR: 'it returns false'. Refute it at one input. -/
def spreadSumsWrong : ChangeSpec := { name := "spreadSums", fn := fun _ => fun
  | [d1, d2, d3] => { results := [.lit (.bool false)], args := [d1, d2, d3] }
  | _ => none }
def SpreadSumsWrongFalsely : Prop := spreadSumsRow.holds Try.pinned (OpenSpec.ofChange spreadSumsWrong)

/- THE SECOND FORM. 'bulk': how many values and letters a reading holds, each counted each time it is reached (what is shared counts as often as it is met; a slice's spare places count too). A statement '..UptoSaid' is the law's where the arguments, and the package variables that the reading takes, are together of bulk at most 1048576: NARROWER than '..Said'. Prove '..Said' where nothing that the law and all that it calls make is longer than what came in: it says more and counts as full. Else prove '..UptoSaid'. A law counts once. -/
mutual
def uptoBulk {H : Type} : DataW H → Nat
  | .lit (.string bytes) => bytes.length + 1
  | .lit _ => 1
  | .nil => 1
  | .ptr d => uptoBulk d + 1
  | .slice elems spare => uptoBulkAll elems + uptoBulkAll spare + 1
  | .agg parts => uptoBulkAll parts + 1
  | .iface _ d => uptoBulk d + 1
  | .map entries => uptoBulkEntries entries + 1
  | .held _ => 1
def uptoBulkAll {H : Type} : List (DataW H) → Nat
  | [] => 0
  | d :: r => uptoBulk d + uptoBulkAll r
def uptoBulkEntries {H : Type} : List (Lit × DataW H) → Nat
  | [] => 0
  | x :: r => uptoBulkEntry x + uptoBulkEntries r
def uptoBulkEntry {H : Type} : Lit × DataW H → Nat
  | (.string bytes, d) => bytes.length + uptoBulk d + 1
  | (_, d) => uptoBulk d + 1
 end
def uptoSmall : (H : Type) → List (DataW H) → Bool := fun _ ds => decide (uptoBulkAll ds ≤ 1048576)
def OpenSpec.upto (s : _root_.Go.ChangeSpec) : _root_.Go.OpenSpec := { _root_.Go.OpenSpec.ofChange s with cond := some uptoSmall }

/-- 'counterfoillaw41.SpreadAdds', WHERE WHAT IT READS IS OF BULK AT MOST 1048576: true; the input reads as it did. -/
def spreadAddsUptoRow : OpenClaim := { program := "ytkkmlpaadbphjaa", sum := "a402029f7565cf224443f5a0921cf7c5aa551cb1978c3725b7ce3d14a8568975", func := "counterfoil/counterfoillaw41.SpreadAdds", spec := "spreadAdds", apart := false, narrowed := true }
def SpreadAddsUptoSaid : Prop := spreadAddsUptoRow.holds Try.pinned (OpenSpec.upto spreadAddsSpec)

/-- 'counterfoillaw41.SpreadPlaces', WHERE WHAT IT READS IS OF BULK AT MOST 1048576: true; the input reads as it did. -/
def spreadPlacesUptoRow : OpenClaim := { program := "ytkkmlpaadbphjaa", sum := "a402029f7565cf224443f5a0921cf7c5aa551cb1978c3725b7ce3d14a8568975", func := "counterfoil/counterfoillaw41.SpreadPlaces", spec := "spreadPlaces", apart := false, narrowed := true }
def SpreadPlacesUptoSaid : Prop := spreadPlacesUptoRow.holds Try.pinned (OpenSpec.upto spreadPlacesSpec)

/-- 'counterfoillaw41.SpreadSums', WHERE WHAT IT READS IS OF BULK AT MOST 1048576: true; the input reads as it did. -/
def spreadSumsUptoRow : OpenClaim := { program := "ytkkmlpaadbphjaa", sum := "a402029f7565cf224443f5a0921cf7c5aa551cb1978c3725b7ce3d14a8568975", func := "counterfoil/counterfoillaw41.SpreadSums", spec := "spreadSums", apart := false, narrowed := true }
def SpreadSumsUptoSaid : Prop := spreadSumsUptoRow.holds Try.pinned (OpenSpec.upto spreadSumsSpec)

end Rows
end Go.Proofs.Ytkkmlpaadbphjaa
