/- fits. -/
import Derived.Test.YthfdhggcnkgjfaaGreatDoorUH
import Derived.Test.YthfdhggcnkgjfaaGreatDoorTD
import Derived.Test.YthfdhggcnkgjfaaGreatDoorYH
import Derived.Test.YthfdhggcnkgjfaaGreatDoorPlainU
namespace Go.Proofs.YthfdhggcnkgjfaaGreatDoor
open Go.RowKit
set_option linter.unusedVariables false
set_option linter.unusedSimpArgs false
theorem relAt_load_mid {P : Program} {w : World} {o : Oper} {a : Act} {R : Value → World → Prop} (ty : TypeId) (x : Operand) (ho : o.op = .load ty x)
    (b of_ : Nat) (hx : a.eval x = .pointer (some ⟨b, of_, none⟩)) (cs : List Value) (d : TypeDesc) (hc : w.rangeAt b of_ cs)
    (hu : P.underlying ty = some d) (hd : d.isRow = true) (hi : (P.info? ty).map (·.size) = some cs.length) (h : R (.agg cs.toArray) w) : relAt P o a w R := by
  unfold relAt execOp
  simp only [ho, hx, Instr.loadAt, Instr.sureAddr, Sem.run_bind, Sem.run_pure, Result.andThen_ok, run_loadVar_mid w b of_ ty cs d hc hu hd hi]
  exact h
end Go.Proofs.YthfdhggcnkgjfaaGreatDoor
