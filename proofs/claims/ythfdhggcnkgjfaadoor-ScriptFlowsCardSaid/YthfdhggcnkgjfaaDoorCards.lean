/-
  DERIVED. GIVEN WITH THE SEED: THE CARDS: each row of YthfdhggcnkgjfaaDoorRows.lean that lists a variable, with what it lists TIED to the program's text (the seventh form; the later family's looks); each row that meets fmt, with fmt's text TOLD by the authors' own Lean function (tested against real Go, not proved from fmt's source: count such statements apart). THE CARD IS WHAT COUNTS. Prove the row's statement (the work); the ties are given (YthfdhggcnkgjfaaDoorTie.lean); close each card by the builder's one call (the guide's Derived/Test/ToyasCard.lean, 'card_holds'). Laid BY PROGRAM, IN A SANDBOX (cutbox-door.mjs). By AI agents, Wed Nov 11 2026. No macro, syntax, notation, axiom, sorry.
-/
import Derived.Test.YthfdhggcnkgjfaaDoorRows
import GoSem.ClaimSeven
namespace Go.Proofs.YthfdhggcnkgjfaaDoor
namespace Rows

/-- THE TIED CARD OF 'counterfoillaw36.ScriptFlows'. -/
def scriptFlowsCard : Claim7 := { stood := { row := scriptFlowsRow, standIns := [], harness := (true, "521a69b090eba34225b830bf1d5b371965c8a0a71cc3087439d6d54c34f3e9a2"), looks := false }, kinds := [], alts := [], laidByText := true, laidKinds := [.data, .pinned], laidTests := true, laidLooks := .later }
def ScriptFlowsCardSaid : Prop := Claim7.holds Tryd.pinned (.plain (OpenSpec.ofChange scriptFlowsSpec)) scriptFlowsCard

/-- THE TIED CARD OF 'counterfoillaw36.ScriptSames'. -/
def scriptSamesCard : Claim7 := { stood := { row := scriptSamesRow, standIns := [], harness := (true, "521a69b090eba34225b830bf1d5b371965c8a0a71cc3087439d6d54c34f3e9a2"), looks := false }, kinds := [], alts := [], laidByText := true, laidKinds := [.data, .pinned], laidTests := true, laidLooks := .later }
def ScriptSamesCardSaid : Prop := Claim7.holds Tryd.pinned (.plain (OpenSpec.ofChange scriptSamesSpec)) scriptSamesCard

/-- THE SECOND FORM's CARD OF 'counterfoillaw36.ScriptFlows'. -/
def scriptFlowsUptoCard : Claim7 := { stood := { row := scriptFlowsUptoRow, standIns := [], harness := (true, "521a69b090eba34225b830bf1d5b371965c8a0a71cc3087439d6d54c34f3e9a2"), looks := false }, kinds := [], alts := [], laidByText := true, laidKinds := [.data, .pinned], laidTests := true, laidLooks := .later }
def ScriptFlowsUptoCardSaid : Prop := Claim7.holds Tryd.pinned (.plain (OpenSpec.upto scriptFlowsSpec)) scriptFlowsUptoCard

/-- THE SECOND FORM's CARD OF 'counterfoillaw36.ScriptSames'. -/
def scriptSamesUptoCard : Claim7 := { stood := { row := scriptSamesUptoRow, standIns := [], harness := (true, "521a69b090eba34225b830bf1d5b371965c8a0a71cc3087439d6d54c34f3e9a2"), looks := false }, kinds := [], alts := [], laidByText := true, laidKinds := [.data, .pinned], laidTests := true, laidLooks := .later }
def ScriptSamesUptoCardSaid : Prop := Claim7.holds Tryd.pinned (.plain (OpenSpec.upto scriptSamesSpec)) scriptSamesUptoCard
end Rows
end Go.Proofs.YthfdhggcnkgjfaaDoor
