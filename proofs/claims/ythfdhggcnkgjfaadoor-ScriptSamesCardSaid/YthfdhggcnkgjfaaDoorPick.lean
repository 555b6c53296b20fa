/- An operation that picks one of two values, carried out by looking. No program in sight. -/
import Derived.Test.YthfdhggcnkgjfaaDoorRowX
namespace Go.Proofs.YthfdhggcnkgjfaaDoor
open Go.RowKit
theorem wpList_pick {P : Program} {ops : Array Oper} {rest : List Oper} {o : Oper} {a : Act} {w : World} {Q : Exit → Act → World → Prop} (hgd : o.guard = none) (c x y : Operand) (ho : o.op = .pick c x y)
    (b : Bool) (hc : a.eval c = .bool b) (v : Value) (hv : a.eval (if b then x else y) = v) (h : wpList P ops Q rest (a.put o.dst v) w) : wpList P ops Q (o :: rest) a w := by
  refine wpList_plain hgd fun K hK => ?_
  unfold Oper.wp execOp
  simp only [ho, hc, asBool, Sem.run_bind, Sem.run_pure, Result.andThen_ok]
  refine hK _ _ ?_
  cases b
  · simp only [Bool.false_eq_true, if_false] at hv ⊢
    rw [hv]; exact h
  · simp only [if_true] at hv ⊢
    rw [hv]; exact h

theorem wpList_pickF {P : Program} {ops : Array Oper} {rest : List Oper} {a : Act} {w : World} {Q : Exit → Act → World → Prop} {dst : Option Tmp} {c x y : Operand} {t : TypeId} {pos : String} {after : Array Edge}
    (hc : a.eval c = .bool false) (v : Value) (hv : a.eval y = v) (h : wpList P ops Q rest (a.put dst v) w) : wpList P ops Q ({ dst, op := .pick c x y, type := t, pos, after, guard := none } :: rest) a w :=
  wpList_pick rfl c x y rfl false hc v hv h
theorem wpList_pickT {P : Program} {ops : Array Oper} {rest : List Oper} {a : Act} {w : World} {Q : Exit → Act → World → Prop} {dst : Option Tmp} {c x y : Operand} {t : TypeId} {pos : String} {after : Array Edge}
    (hc : a.eval c = .bool true) (v : Value) (hv : a.eval x = v) (h : wpList P ops Q rest (a.put dst v) w) : wpList P ops Q ({ dst, op := .pick c x y, type := t, pos, after, guard := none } :: rest) a w :=
  wpList_pick rfl c x y rfl true hc v hv h
open Lean Elab Tactic Meta in
/-- Stands the walk before an operation that picks? -/
elab "at_pick" : tactic => withMainContext do
  let t := (← instantiateMVars (← getMainTarget)).consumeMData
  unless t.isAppOfArity ``Go.wpList 6 do throwError "at_pick: no wpList"
  let l := t.getArg! 3
  unless l.isAppOfArity ``List.cons 3 do throwError "at_pick: no operation"
  let o := l.getArg! 1
  unless o.isAppOfArity ``Go.Oper.mk 6 do throwError "at_pick: not written out"
  unless (o.getArg! 1).isAppOf ``Go.Op.pick do throwError "at_pick: another operation"
/-- The walk's step takes a pick by looking. -/
macro_rules | `(tactic| go_step) => `(tactic| (at_pick; first | (refine wpList_pickF ?_ (.bool false) ?_ ?_; · exact rfl; · exact rfl) | (refine wpList_pickT ?_ (.bool true) ?_ ?_; · exact rfl; · exact rfl) | (refine wpList_pickT ?_ (.bool false) ?_ ?_; · exact rfl; · exact rfl)))
end Go.Proofs.YthfdhggcnkgjfaaDoor
