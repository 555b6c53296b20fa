/-
  DERIVED. GIVEN WITH THE SEED: THE CARDS: each row of YtbigikpioomjlaaDoorRows.lean that lists a variable, with what it lists TIED to the program's text (the seventh form; the later family's looks); each row that meets fmt, with fmt's text TOLD by the authors' own Lean function (tested against real Go, not proved from fmt's source: count such statements apart). THE CARD IS WHAT COUNTS. Prove the row's statement (the work); the ties are given (YtbigikpioomjlaaDoorTie.lean); close each card by the builder's one call (the guide's Derived/Test/ToyasCard.lean, 'card_holds'). Laid BY PROGRAM, IN A SANDBOX (cutbox-door.mjs). By AI agents, Wed Nov 11 2026. No macro, syntax, notation, axiom, sorry.
-/
import Derived.Test.YtbigikpioomjlaaDoorRows
import GoSem.ClaimSeven
namespace Go.Proofs.YtbigikpioomjlaaDoor
namespace Rows

/-- THE TIED CARD OF 'counterfoillaw03.AddrFlows'. -/
def addrFlowsCard : Claim7 := { stood := { row := addrFlowsRow, standIns := [], harness := (true, "a5b2f0a2defb778c25483366f9c0aa3bf3f4540342b414971a0cc785eb817f49"), looks := false }, kinds := [], alts := [], laidByText := true, laidKinds := [.data, .data, .data, .data, .pinned], laidTests := true, laidLooks := .later }
def AddrFlowsCardSaid : Prop := Claim7.holds Tryd.pinned (.plain (OpenSpec.ofChange addrFlowsSpec)) addrFlowsCard

/-- THE TIED CARD OF 'counterfoillaw03.AddrOrders'. -/
def addrOrdersCard : Claim7 := { stood := { row := addrOrdersRow, standIns := [], harness := (true, "a5b2f0a2defb778c25483366f9c0aa3bf3f4540342b414971a0cc785eb817f49"), looks := false }, kinds := [], alts := [], laidByText := true, laidKinds := [.data, .data, .data, .data, .pinned], laidTests := true, laidLooks := .later }
def AddrOrdersCardSaid : Prop := Claim7.holds Tryd.pinned (.plain (OpenSpec.ofChange addrOrdersSpec)) addrOrdersCard

/-- THE SECOND FORM's CARD OF 'counterfoillaw03.AddrFlows'. -/
def addrFlowsUptoCard : Claim7 := { stood := { row := addrFlowsUptoRow, standIns := [], harness := (true, "a5b2f0a2defb778c25483366f9c0aa3bf3f4540342b414971a0cc785eb817f49"), looks := false }, kinds := [], alts := [], laidByText := true, laidKinds := [.data, .data, .data, .data, .pinned], laidTests := true, laidLooks := .later }
def AddrFlowsUptoCardSaid : Prop := Claim7.holds Tryd.pinned (.plain (OpenSpec.upto addrFlowsSpec)) addrFlowsUptoCard

/-- THE SECOND FORM's CARD OF 'counterfoillaw03.AddrOrders'. -/
def addrOrdersUptoCard : Claim7 := { stood := { row := addrOrdersUptoRow, standIns := [], harness := (true, "a5b2f0a2defb778c25483366f9c0aa3bf3f4540342b414971a0cc785eb817f49"), looks := false }, kinds := [], alts := [], laidByText := true, laidKinds := [.data, .data, .data, .data, .pinned], laidTests := true, laidLooks := .later }
def AddrOrdersUptoCardSaid : Prop := Claim7.holds Tryd.pinned (.plain (OpenSpec.upto addrOrdersSpec)) addrOrdersUptoCard
end Rows
end Go.Proofs.YtbigikpioomjlaaDoor
