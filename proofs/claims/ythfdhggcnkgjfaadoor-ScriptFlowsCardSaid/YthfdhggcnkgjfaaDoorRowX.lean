/- Rows of elements that are cut, appended to in place, cleared. No program in sight. -/
import Derived.Test.YthfdhggcnkgjfaaDoorRowN
import Derived.Deep.DeepAppendRoom
import Derived.Lib.SliceRun
namespace Go.Proofs.YthfdhggcnkgjfaaDoor
open Go.RowKit
set_option linter.unusedVariables false
theorem flat_take_n {α : Type} {L : List (List α)} {sz : Nat} (h : ∀ x ∈ L, x.length = sz) (i : Nat) (hi : i ≤ L.length) : L.flatten.take (i * sz) = (L.take i).flatten := by
  have e : L.flatten = (L.take i).flatten ++ (L.drop i).flatten := by rw [← List.flatten_append, List.take_append_drop]
  have hl : (L.take i).flatten.length = i * sz := by rw [flat_len (fun x hx => h x (List.mem_of_mem_take hx)), List.length_take, Nat.min_eq_left hi]
  rw [e, ← hl, List.take_left]
section
variable {w w' : World} {base e sz g n cap : Nat} {L : List (List Value)}
/-- A row's beginning. -/
theorem RowN.cut (h : RowN w base e sz (.slice (some ⟨g, 0, none⟩) n cap) L) (i : Nat) (hi : i ≤ L.length) : RowN w base e sz (.slice (some ⟨g, 0, none⟩) i cap) (L.take i) := by
  refine ⟨fun x hx => h.1 x (List.mem_of_mem_take hx), by rw [flat_len (fun x hx => h.1 x (List.mem_of_mem_take hx))], ?_⟩
  rcases h.2.2 with ⟨h0, _⟩ | ⟨g', cap', cur, hv, h1, h2, h3, h4, h5, h6⟩
  · cases h0
  · cases hv
    refine .inr ⟨g, cap, cur, by rw [List.length_take, Nat.min_eq_left hi], h1, h2, by rw [List.length_take]; omega, h4, h5, ?_⟩
    rw [List.length_take, Nat.min_eq_left hi, ← flat_take_n h.1 i hi, ← h6, List.take_take]
    rw [Nat.min_eq_left (Nat.mul_le_mul_right _ hi)]
theorem RowN.parts (h : RowN w base e sz (.slice (some ⟨g, 0, none⟩) n cap) L) : n = L.length ∧ base ≤ g ∧ ∃ cur : Array Value, Blk w g e cur ∧ n ≤ cap ∧ cap ≤ maxLen ∧ cur.size = cap * sz ∧ cur.toList.take (n * sz) = L.flatten := by
  rcases h.2.2 with ⟨h0, _⟩ | ⟨g', cap', cur, hv, h1, h2, h3, h4, h5, h6⟩
  · cases h0
  · cases hv
    exact ⟨rfl, h1, cur, h2, h3, h4, h5, h6⟩
theorem RowN.mk' (hL : ∀ x ∈ L, x.length = sz) (hn : n = L.length) (hb : base ≤ g) {cur : Array Value} (h2 : Blk w g e cur) (h3 : n ≤ cap) (h4 : cap ≤ maxLen) (h5 : cur.size = cap * sz) (h6 : cur.toList.take (n * sz) = L.flatten) : RowN w base e sz (.slice (some ⟨g, 0, none⟩) n cap) L := by
  subst hn
  exact ⟨hL, flat_len hL, .inr ⟨g, cap, cur, rfl, hb, h2, h3, h4, h5, h6⟩⟩
theorem Blk.setCells {t : TypeId} : ∀ (vs : List Value) (o : Nat) {w : World} {cs : Array Value}, Blk w g t cs → ∃ cs', Blk (w.setCells g o vs) g t cs' ∧ cs'.size = cs.size ∧ ∀ i, i < o → cs'[i]? = cs[i]?
  | [], o, w, cs, h => ⟨cs, h, rfl, fun _ _ => rfl⟩
  | v :: vs, o, w, cs, h => by
    obtain ⟨cs', h1, h2, h3⟩ := Blk.setCells vs (o + 1) (h.set_ o v)
    refine ⟨cs', h1, by rw [h2]; simp, fun i hi => ?_⟩
    rw [h3 i (by omega), Array.getElem?_setIfInBounds_ne (by omega)]
theorem Kept.setCells {S : Nat → Prop} {a : World} (hg : S g) : ∀ (vs : List Value) (o : Nat) {w : World}, Kept S a w → Kept S a (w.setCells g o vs)
  | [], _, _, h => h
  | v :: vs, o, _, h => Kept.setCells hg vs (o + 1) (h.setCell (.inl hg) v)
end
section
variable {P : Program} {w : World}
theorem wpList_append_spareN {ops : Array Oper} {rest : List Oper} {o : Oper} {a : Act} {Q : Exit → Act → World → Prop} (hgd : o.guard = none) (s x : Operand) (t : TypeId)
    (ho : o.op = .call { callee := .builtin .append, args := #[s, x], argTypes := #[t, t] })
    (base : Nat) (e : TypeId) (z : Value) (sz bytes : Nat) (ht : P.underlying t = some (.slice e)) (hinfo : (P.info? e).map (fun i => (i.zero, i.size, i.bytes)) = some (some z, sz, bytes))
    (g n cap : Nat) (L : List (List Value)) (hs : a.eval s = .slice (some ⟨g, 0, none⟩) n cap) (C : Addr) (m d : Nat) (M : List (List Value)) (hx : a.eval x = .slice (some C) m d) (hm : m = M.length)
    (hrow : RowN w base e sz (.slice (some ⟨g, 0, none⟩) n cap) L) (hM : ∀ x ∈ M, x.length = sz) (hsrc : ∀ j u, M.flatten[j]? = some u → w.cell? (C.add j) = some u) (h1 : ∀ u ∈ M.flatten, u.oneCell' = true) (hroom : n + m ≤ cap)
    (h : ∀ w', RowN w' base e sz (.slice (some ⟨g, 0, none⟩) (n + m) cap) (L ++ M) → w.grownBy w' (some g) → wpList P ops Q rest (a.put o.dst (.slice (some ⟨g, 0, none⟩) (n + m) cap)) w') : wpList P ops Q (o :: rest) a w := by
  refine wpList_plain hgd fun K hK => ?_
  subst hm
  obtain ⟨i, hi, hzz⟩ := Option.map_eq_some_iff.1 hinfo
  injection hzz with hz hzz
  injection hzz with hz1 hz2
  obtain ⟨hn, -, -⟩ := hrow.parts
  have hrow' : w.ownsRow base e sz (.slice (some ⟨g, 0, none⟩) n cap) n L.flatten := by have := hrow.2; rw [← hn] at this; exact this
  obtain ⟨w', hr, h2, h3⟩ := run_append_own_spare (P := P) w base t o.type e i sz ht hi hz1 g n cap L.flatten hrow' C M.length d M.flatten (flat_len hM) hsrc h1 hroom
  have hLM : ∀ x ∈ L ++ M, x.length = sz := fun x hx => by rcases List.mem_append.1 hx with h | h; exact hrow.1 x h; exact hM x h
  unfold Oper.wp execOp
  simp only [ho, resolve, invoke, builtin, Sem.run_bind, Sem.run_pure, Result.andThen_ok, List.map_toArray, List.map_cons, List.map_nil, hs, hx]
  rw [hr]
  exact hK _ _ (h w' ⟨hLM, by rw [List.length_append, List.flatten_append, ← hn]; exact h2⟩ h3)
theorem run_clear_cells (t e ty : TypeId) (z : Value) (ht : P.underlying t = some (.slice e)) (hv : ∀ w, (zeroValue e).run P w = .ok z w) (h1 : ∀ u ∈ z.cells, u.oneCell' = true) (b o n c : Nat) (hn : 0 < n) (h0 : 0 < z.cells.size)
    (hc : ∀ j, j < n * z.cells.size → (w.cell? ⟨b, o + j, none⟩).isSome = true) (hf : ∀ j, j < n * z.cells.size → w.frozen? ⟨b, o + j, none⟩ = false) :
    ∃ vs : List Value, (Builtin.clear_ #[t] ty #[.slice (some ⟨b, o, none⟩) n c]).run P w = .ok (.tuple #[]) (w.setCells b o vs) := by
  have hl : (Builtin.zeroCells z.cells n).toList.length = n * z.cells.size := by simp [Builtin.zeroCells]
  have hst := run_storeCells_cells (P := P) b o (Builtin.zeroCells z.cells n).toList 0 w (by rw [hl]; simpa using hc) (by rw [hl]; simpa using hf) (by
    intro v hv'
    simp only [Builtin.zeroCells, Array.toList_map, List.mem_map] at hv'
    obtain ⟨i, _, rfl⟩ := hv'
    have hi : i % z.cells.size < z.cells.size := Nat.mod_lt _ h0
    rw [getElem!_pos z.cells _ hi]
    exact h1 _ (Array.getElem_mem hi))
  simp only [Nat.add_zero] at hst
  obtain ⟨m, rfl⟩ : ∃ m, n = m + 1 := ⟨n - 1, by omega⟩
  exact ⟨(Builtin.zeroCells z.cells (m + 1)).toList, by simp [Builtin.clear_, run_underlying ht, hv, hst]⟩
/-- 'clear' behind a row's end. -/
theorem wpList_clear_rowN {ops : Array Oper} {rest : List Oper} {o : Oper} {a : Act} {Q : Exit → Act → World → Prop} (hgd : o.guard = none) (s : Operand) (t : TypeId)
    (ho : o.op = .call { callee := .builtin .clear, args := #[s], argTypes := #[t] })
    (base : Nat) (e : TypeId) (z : Value) (sz : Nat) (ht : P.underlying t = some (.slice e)) (hv : ∀ w, (zeroValue e).run P w = .ok z w) (hzs : z.cells.size = sz) (h0 : 0 < sz) (h1 : ∀ u ∈ z.cells, u.oneCell' = true)
    (g k n cap d : Nat) (L : List (List Value)) (hs : a.eval s = .slice (some ⟨g, k * sz, none⟩) n d) (hn : 0 < n) (hk : k + n ≤ cap) (hrow : RowN w base e sz (.slice (some ⟨g, 0, none⟩) k cap) L)
    (h : ∀ w', RowN w' base e sz (.slice (some ⟨g, 0, none⟩) k cap) L → Kept (· = g) w w' → wpList P ops Q rest (a.put o.dst (.tuple #[])) w') : wpList P ops Q (o :: rest) a w := by
  refine wpList_plain hgd fun K hK => ?_
  obtain ⟨hkL, hb, cur, hB, h3, h4, h5, h6⟩ := hrow.parts
  have hin : ∀ j, j < n * sz → k * sz + j < cur.size := fun j hj => by
    rw [h5]
    have : (k + n) * sz ≤ cap * sz := Nat.mul_le_mul_right _ hk
    rw [Nat.add_mul] at this
    omega
  obtain ⟨vs, hr⟩ := run_clear_cells (P := P) (w := w) t e o.type z ht hv h1 g (k * sz) n d hn (by omega) (by
    rw [hzs]
    intro j hj
    rw [hB.cell]
    simp [hin j hj]) (by intro j _; exact hB.frozen _)
  obtain ⟨cs', hB', hsz', hpre⟩ := hB.setCells vs (k * sz)
  unfold Oper.wp execOp
  simp only [ho, resolve, invoke, builtin, Sem.run_bind, Sem.run_pure, Result.andThen_ok, List.map_toArray, List.map_cons, List.map_nil, hs]
  rw [hr]
  refine hK _ _ (h _ (RowN.mk' hrow.1 hkL hb hB' h3 h4 (by rw [hsz', h5]) ?_) (Kept.setCells (S := (· = g)) (g := g) rfl vs _ (Kept.refl _ _)))
  rw [← h6]
  apply List.ext_getElem?
  intro i
  rw [List.getElem?_take, List.getElem?_take]
  split
  · rename_i hi
    rw [Array.getElem?_toList, Array.getElem?_toList]
    exact hpre i hi
  · rfl
end
end Go.Proofs.YthfdhggcnkgjfaaDoor
