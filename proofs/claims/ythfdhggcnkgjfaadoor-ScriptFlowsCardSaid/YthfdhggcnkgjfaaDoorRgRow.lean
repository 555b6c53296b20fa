/- An append among the operations of a region that draws its order. No program in sight. -/
import Derived.Test.YthfdhggcnkgjfaaDoorBytesB
import Derived.Test.YthfdhggcnkgjfaaDoorRgW
namespace Go.Proofs.YthfdhggcnkgjfaaDoor
open Go.RowKit

theorem Own.row {w : World} {e g cap base : Nat} {l : List UInt8} (h : Own w e g cap l) (hb : base ≤ g) : Row w base e (.slice (some ⟨g, 0, none⟩) l.length cap) (bcs l) := by
  unfold Row; rw [bcs_length]; exact h.own hb
theorem relAt_append_row {P : Program} {w : World} {o : Oper} {a : Act} {R : Value → World → Prop} (s x : Operand) (t : TypeId)
    (ho : o.op = .call { callee := .builtin .append, args := #[s, x], argTypes := #[t, t] })
    (base : Nat) (e : TypeId) (z : Value) (bytes : Nat) (ht : P.underlying t = some (.slice e)) (hinfo : (P.info? e).map (fun i => (i.zero, i.size, i.bytes)) = some (some z, 1, bytes)) (hzs : z.cells.size = 1)
    (v : Value) (xs : List Value) (hs : a.eval s = v) (C : Option Addr) (m d : Nat) (news : List Value) (hx : a.eval x = .slice C m d) (hm : m = news.length) (hrow : Row w base e v xs) (hsrc : Src w C news) (h1 : ∀ u ∈ news, u.oneCell' = true)
    (h63 : xs.length + news.length ≤ maxLen) (hbytes : (xs.length + news.length) * bytes ≤ 140737488355328) (hbase : base ≤ w.heap.size)
    (h : ∀ v' w', Row w' base e v' (xs ++ news) → w.grownBy w' v.ownBlock → (v'.ownBlock = v.ownBlock ∨ v'.ownBlock = some w.heap.size) → R v' w') : relAt P o a w R := by
  subst hm
  obtain ⟨v', w', hr, h2, h3, h4⟩ := run_append_row (P := P) (w := w) (ty := o.type) ht hinfo hzs hrow hsrc h1 h63 hbytes hbase
  unfold relAt execOp
  simp only [ho, resolve, invoke, builtin, Sem.run_bind, Sem.run_pure, Result.andThen_ok, List.map_toArray, List.map_cons, List.map_nil, hs, hx]
  rw [hr]
  exact h v' w' h2 h3 h4
end Go.Proofs.YthfdhggcnkgjfaaDoor
