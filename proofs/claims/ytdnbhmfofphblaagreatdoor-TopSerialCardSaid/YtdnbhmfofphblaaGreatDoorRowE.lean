/- Append onto an empty slice that has no room: a new row, and nothing else turned. No program in sight. -/
import Derived.Test.YtdnbhmfofphblaaGreatDoorBase
namespace Go.Proofs.YtdnbhmfofphblaaGreatDoor
set_option maxRecDepth 100000
open Go.RowKit
set_option linter.unusedVariables false
section
variable {P : Program} {w : World}
theorem run_append_emptyN {t ty e : TypeId} {base sz : Nat} {z : Value} {bytes : Nat} (ht : P.underlying t = some (.slice e)) (hinfo : (P.info? e).map (fun i => (i.zero, i.size, i.bytes)) = some (some z, sz, bytes)) (hzs : z.cells.size = sz) (hsz : 0 < sz)
    {g : Nat} (hrow : RowN w base e sz (.slice (some ⟨g, 0, none⟩) 0 0) []) {C : Option Addr} {d : Nat} {M : List (List Value)} (hM : ∀ x ∈ M, x.length = sz) (hsrc : Src w C M.flatten)
    (h63 : M.length ≤ maxLen) (hbytes : M.length * bytes ≤ 140737488355328) (hbase : base ≤ w.heap.size) :
    ∃ v' w', (Builtin.append_ #[t, t] ty #[.slice (some ⟨g, 0, none⟩) 0 0, .slice C M.length d]).run P w = .ok v' w' ∧ RowN w' base e sz v' M ∧ Below w.heap.size w w' ∧ (M ≠ [] → v'.ownBlock = some w.heap.size) := by
  obtain ⟨i, hi, hzz⟩ := Option.map_eq_some_iff.1 hinfo
  injection hzz with hz hzz
  injection hzz with hz1 hz2
  by_cases h0 : M = []
  · subst h0
    refine ⟨.slice (some ⟨g, 0, none⟩) 0 0, w, ?_, hrow, Below.refl _ _, fun h => absurd rfl h⟩
    cases C <;> simp [Builtin.append_, run_underlying ht, sizeOf, typeInfo, hi, Builtin.lenOf, Builtin.firstCells, loadCells, loadCellsFrom, storeCells]
  · have hml : 0 < M.length := List.length_pos_iff.2 h0
    have hfl : M.flatten.length = M.length * sz := flat_len hM
    rcases hsrc with h1 | ⟨ad, rfl, hn⟩
    · have : 0 < M.length * sz := Nat.mul_pos hml hsz
      rw [← hfl, h1] at this
      simp at this
    subst hz1
    subst hz2
    have hr := run_append_grow (P := P) w t ty e i z ht hi hz ⟨g, 0, none⟩ 0 0 [] (by simp) (by intro j v hj; simp at hj) ad M.length d M.flatten hfl hn (by omega) (by unfold maxLen at h63; omega) (growslice_fits (by omega) (by simpa using hbytes))
    have hge := grownCap_ge w (0 + M.length) 0 e
    have hcm : grownCap w (0 + M.length) 0 e ≤ maxLen := grownCap_le_maxLen w (0 + M.length) 0 e (by simpa using h63)
    refine ⟨_, _, hr, ?_, ⟨rfl, rfl, rfl, by simp, fun k hk => Below.heap_alloc w.drew _ k hk⟩, fun _ => rfl⟩
    generalize grownCap w (0 + M.length) 0 e = cap at hr hge hcm ⊢
    simp only [Nat.zero_add] at hge hcm ⊢
    refine ⟨hM, hfl, .inr ⟨w.heap.size, cap, _, rfl, hbase, heap_alloc_new w.drew _, hge, hcm, ?_, ?_⟩⟩
    · simp only [Array.size_append, List.size_toArray, size_zeroCells, hzs, hfl, List.length_nil, Nat.zero_add, ← Nat.add_mul]
      congr 1
      omega
    · simp only [Array.toList_append, List.nil_append]
      rw [← hfl]
      exact List.take_left
theorem relAt_append_emptyN {o : Oper} {a : Act} {R : Value → World → Prop} (s x : Operand) (t : TypeId)
    (ho : o.op = .call { callee := .builtin .append, args := #[s, x], argTypes := #[t, t] })
    (base : Nat) (e : TypeId) (z : Value) (sz bytes : Nat) (ht : P.underlying t = some (.slice e)) (hinfo : (P.info? e).map (fun i => (i.zero, i.size, i.bytes)) = some (some z, sz, bytes)) (hzs : z.cells.size = sz) (hsz : 0 < sz)
    (g : Nat) (hs : a.eval s = .slice (some ⟨g, 0, none⟩) 0 0) (C : Option Addr) (m d : Nat) (M : List (List Value)) (hx : a.eval x = .slice C m d) (hm : m = M.length) (hrow : RowN w base e sz (.slice (some ⟨g, 0, none⟩) 0 0) []) (hM : ∀ x ∈ M, x.length = sz) (hsrc : Src w C M.flatten)
    (h63 : M.length ≤ maxLen) (hbytes : M.length * bytes ≤ 140737488355328) (hbase : base ≤ w.heap.size)
    (h : ∀ v' w', RowN w' base e sz v' M → Below w.heap.size w w' → (M ≠ [] → v'.ownBlock = some w.heap.size) → R v' w') : relAt P o a w R := by
  subst hm
  obtain ⟨v', w', hr, h2, h3, h4⟩ := run_append_emptyN (P := P) (w := w) (ty := o.type) ht hinfo hzs hsz hrow hM hsrc h63 hbytes hbase
  unfold relAt execOp
  simp only [ho, resolve, invoke, builtin, Sem.run_bind, Sem.run_pure, Result.andThen_ok, List.map_toArray, List.map_cons, List.map_nil, hs, hx]
  rw [hr]
  exact h v' w' h2 h3 h4
/-- The empty literal. -/
theorem RowN.lit {t : TypeId} {sz : Nat} (w : World) (base : Nat) (hb : base ≤ w.heap.size) : RowN (w.alloc (.cells #[] t)) base t sz (.slice (some ⟨w.heap.size, 0, none⟩) 0 0) [] :=
  RowN.of_blk (cs := #[]) (Blk.new _ _ _) hb (by unfold maxLen; omega) (fun x hx => by cases hx) rfl rfl
end
end Go.Proofs.YtdnbhmfofphblaaGreatDoor
