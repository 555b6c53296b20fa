/- Rows of elements of several cells: slices that came in, and rows that the call itself made. No program in sight. -/
import Derived.Test.YthfdhggcnkgjfaaDoorBase
import Derived.Test.YthfdhggcnkgjfaaDoorRow
import Derived.Test.YthfdhggcnkgjfaaDoorRgW
namespace Go.Proofs.YthfdhggcnkgjfaaDoor
open Go.RowKit

theorem flat_len {α : Type} {L : List (List α)} {sz : Nat} (h : ∀ x ∈ L, x.length = sz) : L.flatten.length = L.length * sz := by
  induction L with
  | nil => simp
  | cons x L ih =>
    rw [List.flatten_cons, List.length_append, h x (by simp), ih (fun y hy => h y (by simp [hy])), List.length_cons, Nat.succ_mul]
    omega
theorem flat_get {α : Type} {L : List (List α)} {sz : Nat} (h : ∀ x ∈ L, x.length = sz) (k : Nat) (hk : k < L.length) (j : Nat) (hj : j < sz) : L.flatten[k * sz + j]? = L[k][j]? := by
  induction L generalizing k with
  | nil => simp at hk
  | cons x L ih =>
    have hx := h x (by simp)
    rw [List.flatten_cons]
    cases k with
    | zero => rw [List.getElem?_append_left (by omega)]; simp
    | succ k =>
      have e : (k + 1) * sz + j = sz + (k * sz + j) := by rw [Nat.succ_mul]; omega
      rw [List.getElem?_append_right (by omega), hx, e, Nat.add_sub_cancel_left]
      simpa using ih (fun y hy => h y (by simp [hy])) k (by simpa using hk)
theorem flat_set {α : Type} {L : List (List α)} {sz : Nat} (h : ∀ x ∈ L, x.length = sz) (k : Nat) (hk : k < L.length) (j : Nat) (hj : j < sz) (u : α) : L.flatten.set (k * sz + j) u = (L.set k (L[k].set j u)).flatten := by
  induction L generalizing k with
  | nil => simp at hk
  | cons x L ih =>
    have hx := h x (by simp)
    rw [List.flatten_cons]
    cases k with
    | zero => rw [List.set_append_left _ _ (by omega)]; simp
    | succ k =>
      have e : (k + 1) * sz + j = sz + (k * sz + j) := by rw [Nat.succ_mul]; omega
      rw [List.set_append_right _ _ (by omega), hx, e, Nat.add_sub_cancel_left, ih (fun y hy => h y (by simp [hy])) k (by simpa using hk)]
      simp
theorem sz_set {α : Type} {L : List (List α)} {sz : Nat} (h : ∀ x ∈ L, x.length = sz) (k : Nat) (hk : k < L.length) (j : Nat) (u : α) : ∀ x ∈ L.set k (L[k].set j u), x.length = sz := by
  intro x hx
  rcases List.mem_or_eq_of_mem_set hx with hx | rfl
  · exact h x hx
  · rw [List.length_set]; exact h _ (List.getElem_mem hk)
theorem sz_map {α : Type} {sz : Nat} {f : α → List Value} (hf : ∀ a, (f a).length = sz) (l : List α) : ∀ x ∈ l.map f, x.length = sz := by
  intro x hx; obtain ⟨a, _, rfl⟩ := List.mem_map.1 hx; exact hf a

/-! ### Cells that lie somewhere -/
def ElAt (w : World) (b off sz : Nat) (L : List (List Value)) : Prop := (∀ x ∈ L, x.length = sz) ∧ ∀ j u, L.flatten[j]? = some u → w.cell? ⟨b, off + j, none⟩ = some u
/-- A slice's address, below block B, leads to the elements L; of none nothing is asked. -/
def ES (w : World) (B : Nat) (A : Option Addr) (sz : Nat) (L : List (List Value)) : Prop := L = [] ∨ ∃ b off, b < B ∧ A = some ⟨b, off, none⟩ ∧ ElAt w b off sz L
section
variable {w w' : World} {b off sz B B' : Nat} {A : Option Addr} {L : List (List Value)}
theorem ElAt.get (h : ElAt w b off sz L) {k : Nat} (hk : k < L.length) (j : Nat) (hj : j < sz) : w.cell? ⟨b, off + k * sz + j, none⟩ = some (L[k]'hk)[j]! := by
  have e := flat_get h.1 k hk j hj
  have hl := h.1 _ (List.getElem_mem hk)
  have e2 : (L[k]'hk)[j]? = some (L[k]'hk)[j]! := by simp [hl, hj]
  have := h.2 (k * sz + j) _ (e.trans e2)
  rwa [Nat.add_assoc]
theorem ElAt.get0 (h : ElAt w b off sz L) {k : Nat} (hk : k < L.length) (hj : 0 < sz) : w.cell? ⟨b, off + k * sz, none⟩ = some (L[k]'hk)[0]! := h.get hk 0 hj
theorem ElAt.keep (h : ElAt w b off sz L) (hk : ∀ o, w'.cell? ⟨b, o, none⟩ = w.cell? ⟨b, o, none⟩) : ElAt w' b off sz L := ⟨h.1, fun j u hu => (hk _).trans (h.2 j u hu)⟩
theorem ElAt.drop (h : ElAt w b off sz L) (k : Nat) (hk : k ≤ L.length) : ElAt w b (off + k * sz) sz (L.drop k) := by
  refine ⟨fun x hx => h.1 x (List.mem_of_mem_drop hx), fun j u hu => ?_⟩
  have e : L.flatten = (L.take k).flatten ++ (L.drop k).flatten := by rw [← List.flatten_append, List.take_append_drop]
  have hl : (L.take k).flatten.length = k * sz := by rw [flat_len (fun x hx => h.1 x (List.mem_of_mem_take hx))]; simp [hk]
  have := h.2 (k * sz + j) u (by rw [e, List.getElem?_append_right (by omega), hl, Nat.add_sub_cancel_left]; exact hu)
  rwa [Nat.add_assoc]
theorem ElAt.take (h : ElAt w b off sz L) (k : Nat) : ElAt w b off sz (L.take k) := by
  refine ⟨fun x hx => h.1 x (List.mem_of_mem_take hx), fun j u hu => h.2 j u ?_⟩
  have e : L.flatten = (L.take k).flatten ++ (L.drop k).flatten := by rw [← List.flatten_append, List.take_append_drop]
  obtain ⟨hj, _⟩ := List.getElem?_eq_some_iff.1 hu
  rw [e, List.getElem?_append_left hj]; exact hu
theorem ElAt.of_blk {t : TypeId} {cs : Array Value} (h : Blk w b t cs) (hL : ∀ x ∈ L, x.length = sz) (hx : cs.toList = L.flatten) : ElAt w b 0 sz L :=
  ⟨hL, fun j u hu => by rw [Nat.zero_add, h.cell j]; rw [← hx] at hu; simpa using hu⟩
theorem ES.nil : ES w B A sz [] := .inl rfl
theorem ES.keep (h : ES w B A sz L) (hk : ∀ b o, b < B → w'.cell? ⟨b, o, none⟩ = w.cell? ⟨b, o, none⟩) : ES w' B A sz L := by
  rcases h with h | ⟨b, off, hb, h1, h2⟩
  · exact .inl h
  · exact .inr ⟨b, off, hb, h1, h2.keep fun o => hk b o hb⟩
theorem ES.kept {S : Nat → Prop} (h : ES w B A sz L) (hk : Kept S w w') (hB : B ≤ w.heap.size) (hS : ∀ i, i < B → ¬ S i) : ES w' B A sz L := h.keep fun b o hb => hk.cell (by omega) (hS b hb) o
theorem ES.below (h : ES w B A sz L) (hk : Below B w w') : ES w' B A sz L := h.keep fun _ _ hb => hk.cell hb
theorem ES.belowLe {C : Nat} (h : ES w B A sz L) (hk : Below C w w') (hC : B ≤ C) : ES w' B A sz L := h.keep fun b o hb => hk.cell (p := ⟨b, o, none⟩) (Nat.lt_of_lt_of_le hb hC)
theorem ES.more (h : ES w B A sz L) (hB : B ≤ B') : ES w B' A sz L := by
  rcases h with h | ⟨b, off, hb, h1, h2⟩
  · exact .inl h
  · exact .inr ⟨b, off, by omega, h1, h2⟩
theorem ES.at (h : ES w B A sz L) {k : Nat} (hk : k < L.length) : ∃ b off, b < B ∧ A = some ⟨b, off, none⟩ ∧ ElAt w b off sz L := by
  rcases h with rfl | h
  · simp at hk
  · exact h
theorem ES.alloc (h : ES w B A sz L) (hB : B ≤ w.heap.size) (o : Obj) : ES (w.alloc o) B A sz L := h.keep fun _ _ hb => World.cell?_alloc_lt _ _ _ (Nat.lt_of_lt_of_le hb hB)
theorem ES.drewN (h : ES w B A sz L) (n : Nat) : ES (w.drewN n) B A sz L := h
theorem ES.drew (h : ES w B A sz L) : ES w.drew B A sz L := h
theorem ES.on {S : Nat → Prop} (h : ES w w.heap.size A sz L) (hk : Kept S w w') (hS : ∀ i, i < w.heap.size → ¬ S i) : ES w' w'.heap.size A sz L := (h.kept hk (Nat.le_refl _) hS).more hk.size
theorem ES.onB {B : Nat} (h : ES w w.heap.size A sz L) (hk : Below B w w') (hB : w.heap.size ≤ B) : ES w' w'.heap.size A sz L := (h.belowLe hk hB).more hk.size
theorem ES.src (h : ES w B A sz L) : Src w A L.flatten := by
  rcases h with rfl | ⟨b, o, _, rfl, h2⟩
  · exact .inl rfl
  · exact .inr ⟨_, rfl, fun j u hu => by rw [Addr.add_lit]; exact h2.2 j u hu⟩
end

/-! ### Rows of the call's own -/
def RowN (w : World) (base e sz : Nat) (v : Value) (L : List (List Value)) : Prop := (∀ x ∈ L, x.length = sz) ∧ w.ownsRow base e sz v L.length L.flatten
section
variable {w w' : World} {base e sz : Nat} {v : Value} {L : List (List Value)}
theorem RowN.nil (w : World) (base e sz : Nat) : RowN w base e sz (.slice none 0 0) [] := ⟨fun x hx => by simp at hx, World.ownsRow_nil w base e sz⟩
theorem RowN.shape (h : RowN w base e sz v L) : ∃ A c, v = .slice A L.length c ∧ L.length ≤ c ∧ c ≤ maxLen := by
  rcases h.2.2 with ⟨rfl, h0⟩ | ⟨g, cap, cur, rfl, _, _, h1, h2, _⟩
  · exact ⟨none, 0, by rw [h0], by omega, by unfold maxLen; omega⟩
  · exact ⟨_, cap, rfl, h1, h2⟩
theorem RowN.lt (h : RowN w base e sz v L) : ∀ k, v.ownBlock = some k → base ≤ k ∧ k < w.heap.size := World.ownsRow.lt h.2
theorem RowN.keep (h : RowN w base e sz v L) (hk : ∀ g, v.ownBlock = some g → w'.heap[g]? = w.heap[g]?) : RowN w' base e sz v L := by
  refine ⟨h.1, h.2.1, ?_⟩
  rcases h.2.2 with ⟨rfl, h0⟩ | ⟨g, cap, cur, rfl, h1, h2, h3⟩
  · exact .inl ⟨rfl, h0⟩
  · exact .inr ⟨g, cap, cur, rfl, h1, (hk g rfl).trans h2, h3⟩
theorem RowN.kept {S : Nat → Prop} (h : RowN w base e sz v L) (hk : Kept S w w') (hn : ∀ g, v.ownBlock = some g → ¬ S g) : RowN w' base e sz v L := h.keep fun g hg => hk.block g (h.lt g hg).2 (hn g hg)
theorem RowN.below {B : Nat} (h : RowN w base e sz v L) (hk : Below B w w') (hn : ∀ g, v.ownBlock = some g → g < B) : RowN w' base e sz v L := h.keep fun g hg => hk.block g (hn g hg)
theorem RowN.belowAll (h : RowN w base e sz v L) (hk : Below w.heap.size w w') : RowN w' base e sz v L := h.below hk fun g hg => (h.lt g hg).2
theorem RowN.alloc (h : RowN w base e sz v L) (o : Obj) : RowN (w.alloc o) base e sz v L := h.keep fun g hg => Below.heap_alloc w o g (h.lt g hg).2
theorem RowN.drew (h : RowN w base e sz v L) : RowN w.drew base e sz v L := h
theorem RowN.drewN (h : RowN w base e sz v L) (n : Nat) : RowN (w.drewN n) base e sz v L := h
theorem RowN.far {b o : Nat} {s : Option _} {u : Value} (h : RowN w base e sz v L) (hn : v.ownBlock ≠ some b) : RowN (w.setCell ⟨b, o, s⟩ u) base e sz v L := h.keep fun g hg => Below.heap_setCell w _ u g (by rintro rfl; exact hn hg)
theorem RowN.more {base' : Nat} (h : RowN w base e sz v L) (hb : base' ≤ base) : RowN w base' e sz v L := by
  refine ⟨h.1, h.2.1, ?_⟩
  rcases h.2.2 with h | ⟨g, cap, cur, rfl, h1, h2⟩
  · exact .inl h
  · exact .inr ⟨g, cap, cur, rfl, by omega, h2⟩
theorem RowN.ne {t g : Nat} {cs : Array Value} (h : RowN w base e sz v L) (hg : Blk w g t cs) (hne : e ≠ t) : v.ownBlock ≠ some g := by
  intro he
  rcases h.2.2 with ⟨rfl, _⟩ | ⟨g', cap, cur, rfl, _, hh, _⟩
  · cases he
  · injection he with he; subst he
    exact Blk.ne_ (t := e) hh hg hne rfl
theorem RowN.blk {g : Nat} (h : RowN w base e sz v L) (hg : v.ownBlock = some g) : ∃ cs, Blk w g e cs := by
  rcases h.2.2 with ⟨rfl, _⟩ | ⟨g', cap, cur, rfl, _, hh, _⟩
  · cases hg
  · injection hg with hg; subst hg; exact ⟨cur, hh⟩
/-- A row that is not empty: where its cells lie. -/
theorem RowN.at {i : Nat} (h : RowN w base e sz v L) (hi : i < L.length) : ∃ g c, v = .slice (some ⟨g, 0, none⟩) L.length c ∧ base ≤ g ∧ g < w.heap.size ∧ ElAt w g 0 sz L := by
  obtain ⟨g, c, hv, hb, hlt⟩ := World.ownsRow.form h.2 (by omega)
  refine ⟨g, c, hv, hb, hlt, h.1, fun j u hu => ?_⟩
  subst hv
  obtain ⟨hj, _⟩ := List.getElem?_eq_some_iff.1 hu
  rw [Nat.zero_add, World.ownsRow.cellAt h.2 j (by rw [← flat_len h.1]; exact hj), hu]
theorem RowN.es (h : RowN w base e sz v L) : ∃ A c, v = .slice A L.length c ∧ L.length ≤ c ∧ c ≤ maxLen ∧ ES w w.heap.size A sz L := by
  obtain ⟨A, c, hv, h1, h2⟩ := h.shape
  refine ⟨A, c, hv, h1, h2, ?_⟩
  by_cases h0 : L = []
  · exact .inl h0
  · obtain ⟨g, c', hv', _, hlt, hel⟩ := h.at (i := 0) (List.length_pos_iff.2 h0)
    rw [hv] at hv'
    injection hv' with e1 _ _
    exact .inr ⟨g, 0, hlt, e1, hel⟩
theorem RowN.frozen (h : RowN w base e sz v L) {g : Nat} (hg : v.ownBlock = some g) (i : Nat) : w.frozen? ⟨g, i, none⟩ = false := by
  rcases h.2.2 with ⟨rfl, h0⟩ | ⟨g', cap, cur, rfl, h1, h2, h3⟩
  · cases hg
  · injection hg with hg; subst hg; simp [World.frozen?, h2]
/-- A store into the row. -/
theorem RowN.set {g : Nat} (h : RowN w base e sz v L) (hg : v.ownBlock = some g) (k : Nat) (hk : k < L.length) (j : Nat) (hj : j < sz) (u : Value) : RowN (w.setCell ⟨g, k * sz + j, none⟩ u) base e sz v (L.set k (L[k].set j u)) := by
  obtain ⟨g', c, hv, _, _, _⟩ := h.at hk
  subst hv
  obtain rfl : g' = g := by simpa [Value.ownBlock] using hg
  refine ⟨sz_set h.1 k hk j u, ?_⟩
  have := (World.ownsRow.stored h.2 (k * sz + j) u).1
  rw [flat_set h.1 k hk j hj u] at this
  rw [show (L.set k (L[k].set j u)).length = L.length by simp]
  exact this
theorem RowN.of_blk {g n : Nat} {cs : Array Value} (h : Blk w g e cs) (hb : base ≤ g) (hn : n ≤ maxLen) (hL : ∀ x ∈ L, x.length = sz) (hx : cs.toList = L.flatten) (hl : L.length = n) : RowN w base e sz (.slice (some ⟨g, 0, none⟩) n n) L := by
  have hs : cs.size = n * sz := by rw [← Array.length_toList, hx, flat_len hL, hl]
  refine ⟨hL, flat_len hL, .inr ⟨g, n, cs, by rw [hl], hb, h, by omega, hn, hs, ?_⟩⟩
  rw [hl, ← hs, ← Array.length_toList, List.take_length, hx]
end

section
variable {P : Program} {w : World}
theorem run_append_rowN {t ty e : TypeId} {base sz : Nat} {z : Value} {bytes : Nat} (ht : P.underlying t = some (.slice e)) (hinfo : (P.info? e).map (fun i => (i.zero, i.size, i.bytes)) = some (some z, sz, bytes)) (hzs : z.cells.size = sz) (hsz : 0 < sz)
    {v : Value} {L : List (List Value)} (hrow : RowN w base e sz v L) {C : Option Addr} {d : Nat} {M : List (List Value)} (hM : ∀ x ∈ M, x.length = sz) (hsrc : Src w C M.flatten) (h1 : ∀ u ∈ M.flatten, u.oneCell' = true)
    (h63 : L.length + M.length ≤ maxLen) (hbytes : (L.length + M.length) * bytes ≤ 140737488355328) (hbase : base ≤ w.heap.size) :
    ∃ v' w', (Builtin.append_ #[t, t] ty #[v, .slice C M.length d]).run P w = .ok v' w' ∧ RowN w' base e sz v' (L ++ M) ∧ w.grownBy w' v.ownBlock ∧ (v'.ownBlock = v.ownBlock ∨ v'.ownBlock = some w.heap.size) := by
  obtain ⟨i, hi, hzz⟩ := Option.map_eq_some_iff.1 hinfo
  injection hzz with hz hzz
  injection hzz with hz1 hz2
  have hLM : ∀ x ∈ L ++ M, x.length = sz := fun x hx => by rcases List.mem_append.1 hx with h | h; exact hrow.1 x h; exact hM x h
  have key : ∀ ad, C = some ad → (∀ j u, M.flatten[j]? = some u → w.cell? (ad.add j) = some u) →
      ∃ v' w', (Builtin.append_ #[t, t] ty #[v, .slice C M.length d]).run P w = .ok v' w' ∧ RowN w' base e sz v' (L ++ M) ∧ w.grownBy w' v.ownBlock ∧ (v'.ownBlock = v.ownBlock ∨ v'.ownBlock = some w.heap.size) := fun ad hC hn => by
    obtain ⟨v', w', hr, h2, h3, _, h5⟩ := run_append_own_at (P := P) w base t ty e i z sz bytes ht hi hz hz1 hz2 hzs hsz v L.length L.flatten hrow.2 ad M.length d M.flatten (flat_len hM) hn h1 h63 hbytes hbase
    exact ⟨v', w', by rw [hC]; exact hr, ⟨hLM, by rw [List.length_append, List.flatten_append]; exact h2⟩, h3, h5⟩
  rcases hsrc with h0 | ⟨ad, hC, hn⟩
  · cases C with
    | some ad => exact key ad rfl (fun j u hu => by rw [h0] at hu; simp at hu)
    | none =>
      have hM0 : M = [] := by
        have := flat_len hM
        rw [h0] at this
        rcases Nat.eq_zero_or_pos M.length with h | h
        · exact List.eq_nil_of_length_eq_zero h
        · have : 0 < M.length * sz := Nat.mul_pos h hsz
          simp at *; omega
      subst hM0
      refine ⟨v, w, ?_, by rw [List.append_nil]; exact hrow, ⟨rfl, rfl, rfl, Nat.le_refl _, fun _ _ _ => rfl⟩, .inl rfl⟩
      rcases hrow.2.2 with ⟨rfl, h0⟩ | ⟨g, cap, cur, rfl, _, _, hnc, _⟩
      · simp [Builtin.append_, run_underlying ht, sizeOf, typeInfo, hi, Builtin.lenOf, Builtin.firstCells]
      · simp [Builtin.append_, run_underlying ht, sizeOf, typeInfo, hi, Builtin.lenOf, Builtin.firstCells, hnc, storeCells]
  · exact key ad hC hn
/-- 'append' at the walk's operation. -/
theorem wpList_append_rowN {ops : Array Oper} {rest : List Oper} {o : Oper} {a : Act} {Q : Exit → Act → World → Prop} (hgd : o.guard = none) (s x : Operand) (t : TypeId)
    (ho : o.op = .call { callee := .builtin .append, args := #[s, x], argTypes := #[t, t] })
    (base : Nat) (e : TypeId) (z : Value) (sz bytes : Nat) (ht : P.underlying t = some (.slice e)) (hinfo : (P.info? e).map (fun i => (i.zero, i.size, i.bytes)) = some (some z, sz, bytes)) (hzs : z.cells.size = sz) (hsz : 0 < sz)
    (v : Value) (L : List (List Value)) (hs : a.eval s = v) (C : Option Addr) (m d : Nat) (M : List (List Value)) (hx : a.eval x = .slice C m d) (hm : m = M.length) (hrow : RowN w base e sz v L) (hM : ∀ x ∈ M, x.length = sz) (hsrc : Src w C M.flatten) (h1 : ∀ u ∈ M.flatten, u.oneCell' = true)
    (h63 : L.length + M.length ≤ maxLen) (hbytes : (L.length + M.length) * bytes ≤ 140737488355328) (hbase : base ≤ w.heap.size)
    (h : ∀ v' w', RowN w' base e sz v' (L ++ M) → w.grownBy w' v.ownBlock → (v'.ownBlock = v.ownBlock ∨ v'.ownBlock = some w.heap.size) → wpList P ops Q rest (a.put o.dst v') w') : wpList P ops Q (o :: rest) a w := by
  refine wpList_plain hgd fun K hK => ?_
  subst hm
  obtain ⟨v', w', hr, h2, h3, h4⟩ := run_append_rowN (P := P) (w := w) (ty := o.type) ht hinfo hzs hsz hrow hM hsrc h1 h63 hbytes hbase
  unfold Oper.wp execOp
  simp only [ho, resolve, invoke, builtin, Sem.run_bind, Sem.run_pure, Result.andThen_ok, List.map_toArray, List.map_cons, List.map_nil, hs, hx]
  rw [hr]
  exact hK _ _ (h v' w' h2 h3 h4)
theorem relAt_append_rowN {o : Oper} {a : Act} {R : Value → World → Prop} (s x : Operand) (t : TypeId)
    (ho : o.op = .call { callee := .builtin .append, args := #[s, x], argTypes := #[t, t] })
    (base : Nat) (e : TypeId) (z : Value) (sz bytes : Nat) (ht : P.underlying t = some (.slice e)) (hinfo : (P.info? e).map (fun i => (i.zero, i.size, i.bytes)) = some (some z, sz, bytes)) (hzs : z.cells.size = sz) (hsz : 0 < sz)
    (v : Value) (L : List (List Value)) (hs : a.eval s = v) (C : Option Addr) (m d : Nat) (M : List (List Value)) (hx : a.eval x = .slice C m d) (hm : m = M.length) (hrow : RowN w base e sz v L) (hM : ∀ x ∈ M, x.length = sz) (hsrc : Src w C M.flatten) (h1 : ∀ u ∈ M.flatten, u.oneCell' = true)
    (h63 : L.length + M.length ≤ maxLen) (hbytes : (L.length + M.length) * bytes ≤ 140737488355328) (hbase : base ≤ w.heap.size)
    (h : ∀ v' w', RowN w' base e sz v' (L ++ M) → w.grownBy w' v.ownBlock → (v'.ownBlock = v.ownBlock ∨ v'.ownBlock = some w.heap.size) → R v' w') : relAt P o a w R := by
  subst hm
  obtain ⟨v', w', hr, h2, h3, h4⟩ := run_append_rowN (P := P) (w := w) (ty := o.type) ht hinfo hzs hsz hrow hM hsrc h1 h63 hbytes hbase
  unfold relAt execOp
  simp only [ho, resolve, invoke, builtin, Sem.run_bind, Sem.run_pure, Result.andThen_ok, List.map_toArray, List.map_cons, List.map_nil, hs, hx]
  rw [hr]
  exact h v' w' h2 h3 h4
end
theorem ownBlock_len {A : Option Addr} {n m c d : Nat} {i : Nat} (h : (Value.slice A n c).ownBlock = some i) : (Value.slice A m d).ownBlock = some i := by cases A <;> exact h
theorem Src.blk {w : World} {g : Nat} {t : TypeId} {cs : Array Value} (h : Blk w g t cs) {xs : List Value} (hx : cs.toList = xs) : Src w (some ⟨g, 0, none⟩) xs := by
  subst hx
  refine .inr ⟨_, rfl, fun j u hu => ?_⟩
  rw [Addr.add_lit, Nat.zero_add, h.cell j]
  simpa using hu
end Go.Proofs.YthfdhggcnkgjfaaDoor
