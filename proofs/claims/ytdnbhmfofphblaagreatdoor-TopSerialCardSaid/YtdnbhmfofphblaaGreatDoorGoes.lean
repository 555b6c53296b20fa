/- The call starts no goroutine: no body of the whole translation holds a go statement (so whatever its road is). -/
import Derived.Test.YtdnbhmfofphblaaGreatDoorRows
import Derived.Test.YtdnbhmfofphblaaGreatDoorCards
import Derived.KernelRfl
namespace Go.Proofs.YtdnbhmfofphblaaGreatDoor
set_option maxRecDepth 100000
open Go
theorem goes_none (P : Program) (h : P.funcs.any Func.goes = false) (f : FuncId) : P.goes f = false := by
  unfold Program.goes
  rw [h, Bool.and_false, Bool.or_false, List.any_eq_false]
  intro g _
  cases hg : P.funcs[g]? with
  | none => simp
  | some fn =>
    rw [Array.any_eq_false] at h
    obtain ⟨hlt, e⟩ := Array.getElem?_eq_some_iff.1 hg
    have := h g hlt
    rw [e] at this
    simpa using this
theorem goesFrom_none (P : Program) (h : P.funcs.any Func.goes = false) (s : String) : P.goesFrom s = false := by
  unfold Program.goesFrom
  cases P.funcNamed s with
  | none => rfl
  | some f => exact goes_none P h f
theorem goesAt_none (P : Program) (h : P.funcs.any Func.goes = false) (s : String) : P.goesAt .entering s = false := by
  unfold Program.goesAt
  rw [goesFrom_none P h]
  rfl
theorem no_goes : Tryz.prog.funcs.any Func.goes = false := by kernel_rfl
theorem goes_row : false = Rows.topSerialRow.goesBy Tryz.pinned.checked.prog := (goesAt_none Tryz.prog no_goes _).symm
end Go.Proofs.YtdnbhmfofphblaaGreatDoor
