/- Rows of one-cell elements that the call itself made: append, from whatever source. No program in sight. -/
import Derived.Test.YthfdhggcnkgjfaaDoorBase
import Derived.Maps.AppendAt
import Derived.Deep.AppendLies
namespace Go.Proofs.YthfdhggcnkgjfaaDoor
open Go.RowKit

/-- The slice v is nil, or of the call's own, and holds the cells xs. -/
def Row (w : World) (base e : Nat) (v : Value) (xs : List Value) : Prop := w.ownsRow base e 1 v xs.length xs
section
variable {w w' : World} {base e : Nat} {v : Value} {xs : List Value}
theorem Row.nil (w : World) (base e : Nat) : Row w base e (.slice none 0 0) [] := World.ownsRow_nil w base e 1
theorem Row.shape (h : Row w base e v xs) : ∃ A c, v = .slice A xs.length c ∧ xs.length ≤ c ∧ c ≤ maxLen := by
  rcases h.2 with ⟨rfl, h0⟩ | ⟨g, cap, cur, rfl, _, _, h1, h2, _⟩
  · exact ⟨none, 0, by rw [h0], by omega, by unfold maxLen; omega⟩
  · exact ⟨_, cap, rfl, h1, h2⟩
theorem Row.lt (h : Row w base e v xs) : ∀ k, v.ownBlock = some k → base ≤ k ∧ k < w.heap.size := World.ownsRow.lt h
theorem Row.keep (h : Row w base e v xs) (hk : ∀ g, v.ownBlock = some g → w'.heap[g]? = w.heap[g]?) : Row w' base e v xs := by
  refine ⟨h.1, ?_⟩
  rcases h.2 with ⟨rfl, h0⟩ | ⟨g, cap, cur, rfl, h1, h2, h3⟩
  · exact .inl ⟨rfl, h0⟩
  · exact .inr ⟨g, cap, cur, rfl, h1, (hk g rfl).trans h2, h3⟩
theorem Row.kept {S : Nat → Prop} (h : Row w base e v xs) (hk : Kept S w w') (hn : ∀ g, v.ownBlock = some g → ¬ S g) : Row w' base e v xs := h.keep fun g hg => hk.block g (h.lt g hg).2 (hn g hg)
theorem Row.below {B : Nat} (h : Row w base e v xs) (hk : Below B w w') (hn : ∀ g, v.ownBlock = some g → g < B) : Row w' base e v xs := h.keep fun g hg => hk.block g (hn g hg)
theorem Row.belowAll (h : Row w base e v xs) (hk : Below w.heap.size w w') : Row w' base e v xs := h.below hk fun g hg => (h.lt g hg).2
theorem Row.grown {row : Option Nat} (h : Row w base e v xs) (hk : w.grownBy w' row) (hn : v.ownBlock = none ∨ v.ownBlock ≠ row) : Row w' base e v xs := World.ownsRow.kept h hk hn
theorem Row.alloc (h : Row w base e v xs) (o : Obj) : Row (w.alloc o) base e v xs := h.keep fun g hg => Below.heap_alloc w o g (h.lt g hg).2
theorem Row.drew (h : Row w base e v xs) : Row w.drew base e v xs := h
theorem Row.drewN (h : Row w base e v xs) (n : Nat) : Row (w.drewN n) base e v xs := h
theorem Row.far {b o : Nat} {s : Option _} {u : Value} (h : Row w base e v xs) (hn : v.ownBlock ≠ some b) : Row (w.setCell ⟨b, o, s⟩ u) base e v xs := h.keep fun g hg => Below.heap_setCell w _ u g (by rintro rfl; exact hn hg)
theorem Row.at {i : Nat} (h : Row w base e v xs) (hi : i < xs.length) : ∃ g c, v = .slice (some ⟨g, 0, none⟩) xs.length c ∧ base ≤ g ∧ g < w.heap.size ∧ ∀ k (hk : k < xs.length), w.cell? ⟨g, k, none⟩ = some xs[k] := by
  obtain ⟨g, c, hv, hb, hlt⟩ := World.ownsRow.form h (by omega)
  refine ⟨g, c, hv, hb, hlt, fun k hk => ?_⟩
  subst hv
  have := World.ownsRow.cellAt h k (by omega)
  rw [this]
  simp [hk]
theorem Row.frozen (h : Row w base e v xs) {g : Nat} (hg : v.ownBlock = some g) (i : Nat) : w.frozen? ⟨g, i, none⟩ = false := by
  rcases h.2 with ⟨rfl, h0⟩ | ⟨g', cap, cur, rfl, h1, h2, h3⟩
  · cases hg
  · injection hg with hg; subst hg; simp [World.frozen?, h2]
theorem Row.ne {t g : Nat} {cs : Array Value} (h : Row w base e v xs) (hg : Blk w g t cs) (hne : e ≠ t) : v.ownBlock ≠ some g := by
  intro he
  rcases h.2 with ⟨rfl, _⟩ | ⟨g', cap, cur, rfl, _, hh, _⟩
  · cases he
  · injection he with he; subst he
    exact Blk.ne_ (t := e) hh hg hne rfl
theorem Row.more {base' : Nat} (h : Row w base e v xs) (hb : base' ≤ base) : Row w base' e v xs := by
  refine ⟨h.1, ?_⟩
  rcases h.2 with h | ⟨g, cap, cur, rfl, h1, h2⟩
  · exact .inl h
  · exact .inr ⟨g, cap, cur, rfl, by omega, h2⟩
theorem Row.of_blk {g : Nat} {cs : Array Value} (h : Blk w g e cs) (hb : base ≤ g) (hs : cs.size ≤ maxLen) (hx : cs.toList = xs) : Row w base e (.slice (some ⟨g, 0, none⟩) cs.size cs.size) xs := by
  subst hx
  exact ⟨by simp, .inr ⟨g, cs.size, cs, by simp, hb, h, by simp, hs, by simp, by simp [List.take_of_length_le]⟩⟩
/-- A store into the row. -/
theorem Row.set {g : Nat} (h : Row w base e v xs) (hg : v.ownBlock = some g) (i : Nat) (u : Value) : Row (w.setCell ⟨g, i, none⟩ u) base e v (xs.set i u) := by
  rcases h.2 with ⟨rfl, _⟩ | ⟨g', cap, cur, rfl, h1, h2, h3, h4, h5, h6⟩
  · cases hg
  · injection hg with hg; subst hg
    refine ⟨by simp, .inr ⟨g', cap, _, by simp, h1, Blk.set_ (t := e) h2 i u, by simpa using h3, h4, by simpa using h5, ?_⟩⟩
    rw [Array.toList_setIfInBounds, List.length_set, List.take_set, h6]
end

/-- What a source of an append is asked: nothing if it is empty. -/
def Src (w : World) (C : Option Addr) (xs : List Value) : Prop := xs = [] ∨ ∃ ad, C = some ad ∧ ∀ j u, xs[j]? = some u → w.cell? (ad.add j) = some u
theorem Src.new (w : World) (t : TypeId) (cs : Array Value) {xs : List Value} (h : cs.toList = xs) : Src (w.alloc (.cells cs t)) (some ⟨w.heap.size, 0, none⟩) xs := by
  subst h
  refine .inr ⟨_, rfl, fun j u hu => ?_⟩
  rw [Addr.add_lit, Nat.zero_add, (Blk.new w t cs).cell j]
  simpa using hu

section
variable {P : Program} {w : World}
theorem run_append_row {t ty e : TypeId} {base : Nat} {z : Value} {bytes : Nat} (ht : P.underlying t = some (.slice e)) (hinfo : (P.info? e).map (fun i => (i.zero, i.size, i.bytes)) = some (some z, 1, bytes)) (hzs : z.cells.size = 1)
    {v : Value} {xs : List Value} (hrow : Row w base e v xs) {C : Option Addr} {d : Nat} {news : List Value} (hsrc : Src w C news) (h1 : ∀ u ∈ news, u.oneCell' = true)
    (h63 : xs.length + news.length ≤ maxLen) (hbytes : (xs.length + news.length) * bytes ≤ 140737488355328) (hbase : base ≤ w.heap.size) :
    ∃ v' w', (Builtin.append_ #[t, t] ty #[v, .slice C news.length d]).run P w = .ok v' w' ∧ Row w' base e v' (xs ++ news) ∧ w.grownBy w' v.ownBlock ∧ (v'.ownBlock = v.ownBlock ∨ v'.ownBlock = some w.heap.size) := by
  obtain ⟨i, hi, hzz⟩ := Option.map_eq_some_iff.1 hinfo
  injection hzz with hz hzz
  injection hzz with hz1 hz2
  have key : ∀ ad, C = some ad → (∀ j u, news[j]? = some u → w.cell? (ad.add j) = some u) →
      ∃ v' w', (Builtin.append_ #[t, t] ty #[v, .slice C news.length d]).run P w = .ok v' w' ∧ Row w' base e v' (xs ++ news) ∧ w.grownBy w' v.ownBlock ∧ (v'.ownBlock = v.ownBlock ∨ v'.ownBlock = some w.heap.size) := fun ad hC hn => by
    obtain ⟨v', w', hr, h2, h3, _, h5⟩ := run_append_own_at (P := P) w base t ty e i z 1 bytes ht hi hz hz1 hz2 hzs (by omega) v xs.length xs hrow ad news.length d news (by simp) hn h1 h63 hbytes hbase
    exact ⟨v', w', by rw [hC]; exact hr, by unfold Row; rw [List.length_append]; exact h2, h3, h5⟩
  rcases hsrc with rfl | ⟨ad, hC, hn⟩
  · cases C with
    | some ad => exact key ad rfl (fun j u hu => by simp at hu)
    | none =>
      refine ⟨v, w, ?_, by rw [List.append_nil]; exact hrow, ⟨rfl, rfl, rfl, Nat.le_refl _, fun _ _ _ => rfl⟩, .inl rfl⟩
      rcases hrow.2 with ⟨rfl, h0⟩ | ⟨g, cap, cur, rfl, _, _, hnc, _⟩
      · simp [Builtin.append_, run_underlying ht, sizeOf, typeInfo, hi, Builtin.lenOf, Builtin.firstCells]
      · simp [Builtin.append_, run_underlying ht, sizeOf, typeInfo, hi, Builtin.lenOf, Builtin.firstCells, hnc, storeCells]
  · exact key ad hC hn

/-- 'append' at the walk's operation. -/
theorem wpList_append_row {ops : Array Oper} {rest : List Oper} {o : Oper} {a : Act} {Q : Exit → Act → World → Prop} (hgd : o.guard = none) (s x : Operand) (t : TypeId)
    (ho : o.op = .call { callee := .builtin .append, args := #[s, x], argTypes := #[t, t] })
    (base : Nat) (e : TypeId) (z : Value) (bytes : Nat) (ht : P.underlying t = some (.slice e)) (hinfo : (P.info? e).map (fun i => (i.zero, i.size, i.bytes)) = some (some z, 1, bytes)) (hzs : z.cells.size = 1)
    (v : Value) (xs : List Value) (hs : a.eval s = v) (C : Option Addr) (m d : Nat) (news : List Value) (hx : a.eval x = .slice C m d) (hm : m = news.length) (hrow : Row w base e v xs) (hsrc : Src w C news) (h1 : ∀ u ∈ news, u.oneCell' = true)
    (h63 : xs.length + news.length ≤ maxLen) (hbytes : (xs.length + news.length) * bytes ≤ 140737488355328) (hbase : base ≤ w.heap.size)
    (h : ∀ v' w', Row w' base e v' (xs ++ news) → w.grownBy w' v.ownBlock → (v'.ownBlock = v.ownBlock ∨ v'.ownBlock = some w.heap.size) → wpList P ops Q rest (a.put o.dst v') w') : wpList P ops Q (o :: rest) a w := by
  refine wpList_plain hgd fun K hK => ?_
  subst hm
  obtain ⟨v', w', hr, h2, h3, h4⟩ := run_append_row (P := P) (w := w) (ty := o.type) ht hinfo hzs hrow hsrc h1 h63 hbytes hbase
  unfold Oper.wp execOp
  simp only [ho, resolve, invoke, builtin, Sem.run_bind, Sem.run_pure, Result.andThen_ok, List.map_toArray, List.map_cons, List.map_nil, hs, hx]
  rw [hr]
  exact hK _ _ (h v' w' h2 h3 h4)
end
theorem kept_grown {S : Nat → Prop} {a w : World} {row : Option Nat} (h : a.grownBy w row) (hS : ∀ i, row = some i → i < a.heap.size → S i) : Kept S a w := Kept.of_grown h fun i hi e => hS i e.symm hi
theorem below_grown {B : Nat} {a w : World} {row : Option Nat} (h : a.grownBy w row) (hS : ∀ i, row = some i → B ≤ i) (hB : B ≤ a.heap.size) : Below B a w :=
  ⟨h.os, h.tape, h.output, h.size, fun i hi => h.block i (by omega) fun e => by have := hS i e.symm; omega⟩
end Go.Proofs.YthfdhggcnkgjfaaDoor
