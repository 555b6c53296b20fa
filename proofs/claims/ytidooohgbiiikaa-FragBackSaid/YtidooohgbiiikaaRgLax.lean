/- A region that draws its order and turns blocks that it made itself: all blocks below H, and all small ones, stay. No program in sight. -/
import Derived.Test.YtidooohgbiiikaaRowN
import Derived.Test.YtidooohgbiiikaaRowE
import Derived.Test.YtidooohgbiiikaaRgW
namespace Go.Proofs.Ytidooohgbiiikaa
open Go.RowKit
set_option linter.unusedVariables false

/-- Blocks below H, and those of at most N cells, stay. -/
structure Lax (H N : Nat) (w w' : World) : Prop where
  os : w'.os = w.os
  tape : w'.tape = w.tape
  output : w'.output = w.output
  size : w.heap.size ≤ w'.heap.size
  block : ∀ k, k < w.heap.size → (k < H ∨ ∃ t cs, Blk w k t cs ∧ cs.size ≤ N) → w'.heap[k]? = w.heap[k]?
section
variable {H N : Nat} {a w w' : World}
theorem Lax.refl (H N : Nat) (w : World) : Lax H N w w := ⟨rfl, rfl, rfl, Nat.le_refl _, fun _ _ _ => rfl⟩
theorem Lax.trans (h : Lax H N a w) (k : Lax H N w w') : Lax H N a w' :=
  ⟨k.os.trans h.os, k.tape.trans h.tape, k.output.trans h.output, Nat.le_trans h.size k.size, fun i hi hn => by
    have e := h.block i hi hn
    refine (k.block i (Nat.lt_of_lt_of_le hi h.size) ?_).trans e
    rcases hn with hn | ⟨t, cs, hb, hc⟩
    · exact .inl hn
    · exact .inr ⟨t, cs, e.trans hb, hc⟩⟩
theorem Lax.of_kept (h : Kept (fun _ => False) w w') : Lax H N w w' := ⟨h.os, h.tape, h.output, h.size, fun k hk _ => h.block k hk (fun h => h)⟩
theorem Lax.of_below (h : Below w.heap.size w w') : Lax H N w w' := Lax.of_kept (Kept.ofB h)
theorem Lax.below (h : Lax H N w w') (hH : H ≤ w.heap.size) : Below H w w' := ⟨h.os, h.tape, h.output, h.size, fun k hk => h.block k (Nat.lt_of_lt_of_le hk hH) (.inl hk)⟩
theorem Lax.undrew (h : Lax H N a.drew w) : Lax H N a w := ⟨h.os, h.tape, h.output, h.size, h.block⟩
theorem Lax.alloc (h : Lax H N a w) (o : Obj) : Lax H N a (w.alloc o) := h.trans (Lax.of_kept ((Kept.refl _ _).alloc _))
theorem Lax.cell (h : Lax H N a w) {b : Nat} (hb : b < a.heap.size) (hn : b < H) (o : Nat) : w.cell? ⟨b, o, none⟩ = a.cell? ⟨b, o, none⟩ :=
  World.cell?_of_block (w := a) (h.block b hb (.inl hn))
theorem Blk.lax {g : Nat} {t : TypeId} {cs : Array Value} (h : Blk a g t cs) (hk : Lax H N a w) (hn : cs.size ≤ N) : Blk w g t cs := (hk.block g h.lt (.inr ⟨t, cs, h, hn⟩)).trans h
theorem ES.lax {A : Option Addr} {sz : Nat} {L : List (List Value)} (h : ES a H A sz L) (hk : Lax H N a w) (hH : H ≤ a.heap.size) : ES w H A sz L := h.keep fun b o hb => hk.cell (Nat.lt_of_lt_of_le hb hH) hb o
/-- One block of many cells was turned. -/
theorem Lax.of_one {g : Nat} {t : TypeId} {cs : Array Value} (h : Kept (fun i => i = g) w w') (hb : Blk w g t cs) (hg : H ≤ g) (hc : N < cs.size) : Lax H N w w' :=
  ⟨h.os, h.tape, h.output, h.size, fun k hk hn => h.block k hk (by
    rintro rfl
    rcases hn with hn | ⟨t', cs', hb', hc'⟩
    · omega
    · unfold Blk at hb hb'
      rw [hb] at hb'
      injection hb' with hb'
      injection hb' with e _
      subst e
      omega)⟩
end

structure RgLx (G : Rg) (H N : Nat) (T : List Nat) (Ψ : Said) (w : World) : Prop where
  w0 : G.w0 = w.drew
  into : ∀ {a b}, Lax H N a b → G.L a b
  out : ∀ {a b}, G.L a b → Lax H N a b
  into0 : ∀ {a b}, Kept (fun _ => False) a b → G.L0 a b
  out0 : ∀ {a b}, G.L0 a b → Kept (fun _ => False) a b
  rel : ∀ k, G.rel k = Ψ.any fun p => p.1 == k
  turns : ∀ k, G.turns k = T.contains k
  adds : ∀ k, G.adds k = ([] : List Nat).contains k
  said : ∀ {k v u}, Ψ.at k v u → G.Φ k v u
  tell : ∀ {k v u}, G.Φ k v u → Ψ.at k v u
section
variable {G : Rg} {H N : Nat} {T : List Nat} {Ψ : Said} {w w' u u' : World} {v : Value}
theorem RgLx.since (h : RgLx G H N T Ψ w) (hL : G.L G.w0 w') : Lax H N w w' := (h.w0 ▸ h.out hL : Lax H N w.drew w').undrew
theorem RgLx.put (hR : RgLx G H N T Ψ w) (i : Nat) {k : Nat} {φ : Value → World → Prop} (hd : Ψ.ok = true) (h : Ψ[i]? = some (k, φ)) (hφ : φ v u) : G.Φ k v u := hR.said (Said.at_get i hd h hφ)
theorem RgLx.get (hR : RgLx G H N T Ψ w) (i : Nat) {k : Nat} {φ : Value → World → Prop} (h : Ψ[i]? = some (k, φ)) (hΦ : G.Φ k v u) : φ v u :=
  hR.tell hΦ (k, φ) (List.mem_of_getElem? h) rfl
theorem RgLx.intoB (hR : RgLx G H N T Ψ w) (h : Below u.heap.size u u') : G.L0 u u' := hR.into0 (Kept.ofB h)
theorem RgLx.same (hR : RgLx G H N T Ψ w) : G.L0 u u := hR.into0 (Kept.refl _ _)
end
/-- **THE REGION**, all blocks below H and those of at most N cells kept by each operation, those of T alone may turn the others. -/
theorem wp_region_lax {P : Program} {id : Nat} {Q : Exit → Act → World → Prop} {a : Act} {w : World} {l : List Oper} (n : Nat) (H N : Nat) (T : List Nat) (Ψ : Said)
    (hΨ : ∀ p ∈ Ψ, ∀ v u u', p.2 v u → (if T.contains p.1 then Kept (fun _ => False) u u' else Lax H N u u') → p.2 v u') (hne : ∀ p ∈ Ψ, ∃ v u, Lax H N w u ∧ p.2 v u) (hd : Ψ.ok = true)
    (hm : P.follows .mixedOrders = true) (hB : rgB l.toArray n = true) (hMu : mutOk l.toArray (fun k => T.contains k) = true)
    (h : ∀ (G : Rg) (pick : World → World), RgLx G H N T Ψ w → (∀ u, Lax H N w (pick u)) → (∀ j u, G.cls j u → ∃ x, u = pick x) →
      WpR P l.toArray G (fun F M a' => ∀ w', Lax H N w w' → Facts G F w' → M w' → wpList P l.toArray Q (l.drop n) a' w') (l.take n) 0 (fun _ => none) (G.L0 w.drew) a) : (Code.region id l.toArray true).wp P Q a w := by
  have hG : (Rg.mk (fun k => Ψ.any fun p => p.1 == k) (fun k => T.contains k) (fun k => ([] : List Nat).contains k) (fun k => ([] : List Nat).contains k) (Lax H N) (Kept fun _ => False) Ψ.at w.drew).Ok := by
    refine ⟨Lax.refl H N, fun _ _ _ h k => h.trans k, Kept.refl _, fun _ _ _ h k => h.trans k, fun _ _ h => Lax.of_kept h, ?_, ?_, ?_⟩
    · intro k v u u' hk h hL p hp e
      refine hΨ p hp v u u' (h p hp e) ?_
      rw [if_neg (by rw [e, show T.contains k = false from hk]; exact Bool.false_ne_true)]
      exact hL
    · intro k v u u' hk h hL p hp e
      refine hΨ p hp v u u' (h p hp e) ?_
      rw [if_pos (by rw [e]; exact hk)]
      exact hL
    · intro k hk
      obtain ⟨p, hp, he⟩ := List.any_eq_true.1 hk
      obtain rfl : p.1 = k := by simpa using he
      obtain ⟨i, hi⟩ := List.mem_iff_getElem?.1 hp
      obtain ⟨v, u, h1, h2⟩ := hne p hp
      exact ⟨v, u, ⟨h1.os, h1.tape, h1.output, h1.size, h1.block⟩, Said.at_get i hd hi h2⟩
  obtain ⟨pick, h1, h2⟩ := pick_of (C := fun u => Lax H N w.drew u) (Lax.refl H N w.drew)
  refine wp_region_rg n _ hG rfl hm hB hMu (peekOk_none fun _ => rfl) ?_
  have H' := h (Rg.mk (fun k => Ψ.any fun p => p.1 == k) (fun k => T.contains k) (fun k => ([] : List Nat).contains k) (fun k => ([] : List Nat).contains k) (Lax H N) (Kept fun _ => False) Ψ.at w.drew) pick ⟨rfl, fun h => h, fun h => h, fun h => h, fun h => h, fun _ => rfl, fun _ => rfl, fun _ => rfl, fun h => h, fun h => h⟩ (fun u => (h1 u).undrew) (fun j u hu => h2 u (Rg.cls_L hG hu))
  replace H' := H'.out
  refine (?_ : ∀ (E E' : Got → Mem → Act → Prop), (∀ F M a, E F M a → E' F M a) → ∀ (G : Rg) (ops : Array Oper) (l : List Oper) (k : Nat) (F : Got) (M : Mem) (a : Act), wpR P ops G E l k F M a → wpR P ops G E' l k F M a) _ _ (fun F M a h w' hw => h w' (Lax.undrew hw)) _ _ _ _ _ _ _ H'
  intro E E' hE G ops l
  induction l with
  | nil => intro k F M a h; exact hE _ _ _ h
  | cons o l ih =>
    intro k F M a h
    unfold wpR stepR at h ⊢
    split
    · rename_i hw; rw [if_pos hw] at h
      split
      · rename_i hr; rw [if_pos hr] at h
        split
        · rename_i ht; rw [if_pos ht] at h; exact ⟨h.1, fun v hv => ih _ _ _ _ (h.2 v hv)⟩
        · rename_i ht; rw [if_neg ht] at h; exact ⟨h.1, fun v hv => ih _ _ _ _ (h.2 v hv)⟩
      · rename_i hr; rw [if_neg hr] at h; obtain ⟨v, h1, h2⟩ := h; exact ⟨v, h1, ih _ _ _ _ h2⟩
    · rename_i hw; rw [if_neg hw] at h; exact ih _ _ _ _ h

/-! ### Appends that say what they turned -/
/-- A row of the call's own, or an empty slice that lies somewhere. -/
def RowZ (w : World) (base e sz : Nat) (v : Value) (L : List (List Value)) : Prop := (L = [] ∧ ∃ g, v = .slice (some ⟨g, 0, none⟩) 0 0) ∨ (L ≠ [] ∧ RowN w base e sz v L)
theorem RowZ.kept {w w' : World} {base e sz : Nat} {v : Value} {L : List (List Value)} (h : RowZ w base e sz v L) (hk : Kept (fun _ => False) w w') : RowZ w' base e sz v L := by
  rcases h with h | ⟨h1, h2⟩
  · exact .inl h
  · exact .inr ⟨h1, h2.kept hk (fun _ _ h => h)⟩
section
variable {P : Program} {w : World}
/-- Onto an empty slice that has no room. -/
theorem run_append_zero {t ty e : TypeId} {base sz : Nat} {z : Value} {bytes : Nat} (ht : P.underlying t = some (.slice e)) (hinfo : (P.info? e).map (fun i => (i.zero, i.size, i.bytes)) = some (some z, sz, bytes)) (hzs : z.cells.size = sz) (hsz : 0 < sz)
    {g : Nat} {C : Option Addr} {d : Nat} {M : List (List Value)} (hM : ∀ x ∈ M, x.length = sz) (hsrc : Src w C M.flatten)
    (h63 : M.length ≤ maxLen) (hbytes : M.length * bytes ≤ 140737488355328) (hbase : base ≤ w.heap.size) :
    ∃ v' w', (Builtin.append_ #[t, t] ty #[.slice (some ⟨g, 0, none⟩) 0 0, .slice C M.length d]).run P w = .ok v' w' ∧ RowZ w' base e sz v' M ∧ Below w.heap.size w w' := by
  obtain ⟨i, hi, hzz⟩ := Option.map_eq_some_iff.1 hinfo
  injection hzz with hz hzz
  injection hzz with hz1 hz2
  by_cases h0 : M = []
  · subst h0
    refine ⟨.slice (some ⟨g, 0, none⟩) 0 0, w, ?_, .inl ⟨rfl, g, rfl⟩, Below.refl _ _⟩
    cases C <;> simp [Builtin.append_, run_underlying ht, sizeOf, typeInfo, hi, Builtin.lenOf, Builtin.firstCells, loadCells, loadCellsFrom, storeCells]
  · have hml : 0 < M.length := List.length_pos_iff.2 h0
    have hfl : M.flatten.length = M.length * sz := flat_len hM
    rcases hsrc with h1 | ⟨ad, rfl, hn⟩
    · have : 0 < M.length * sz := Nat.mul_pos hml hsz
      rw [← hfl, h1] at this
      simp at this
    subst hz1
    subst hz2
    have hr := run_append_grow (P := P) w t ty e i z ht hi hz ⟨g, 0, none⟩ 0 0 [] (by simp) (by intro j v hj; simp at hj) ad M.length d M.flatten hfl hn (by omega) (by unfold maxLen at h63; omega) (growslice_fits (by omega) (by simpa using hbytes))
    have hge := grownCap_ge w (0 + M.length) 0 e
    have hcm : grownCap w (0 + M.length) 0 e ≤ maxLen := grownCap_le_maxLen w (0 + M.length) 0 e (by simpa using h63)
    refine ⟨_, _, hr, .inr ⟨h0, ?_⟩, ⟨rfl, rfl, rfl, by simp, fun k hk => Below.heap_alloc w.drew _ k hk⟩⟩
    generalize grownCap w (0 + M.length) 0 e = cap at hr hge hcm ⊢
    simp only [Nat.zero_add] at hge hcm ⊢
    refine ⟨hM, hfl, .inr ⟨w.heap.size, cap, _, rfl, hbase, heap_alloc_new w.drew _, hge, hcm, ?_, ?_⟩⟩
    · simp only [Array.size_append, List.size_toArray, size_zeroCells, hzs, hfl, List.length_nil, Nat.zero_add, ← Nat.add_mul]
      congr 1
      omega
    · simp only [Array.toList_append, List.nil_append]
      rw [← hfl]
      exact List.take_left
/-- Onto a row that is not empty, one element: what was turned had room for more. -/
theorem run_append_lax {t ty e : TypeId} {base sz : Nat} {z : Value} {bytes : Nat} (ht : P.underlying t = some (.slice e)) (hinfo : (P.info? e).map (fun i => (i.zero, i.size, i.bytes)) = some (some z, sz, bytes)) (hzs : z.cells.size = sz) (hsz : 0 < sz)
    {v : Value} {L : List (List Value)} (hL : L ≠ []) (hrow : RowN w base e sz v L) {C : Option Addr} {d : Nat} {M : List (List Value)} (hM : ∀ x ∈ M, x.length = sz) (hM0 : M ≠ []) (hsrc : Src w C M.flatten) (h1 : ∀ u ∈ M.flatten, u.oneCell' = true)
    (h63 : L.length + M.length ≤ maxLen) (hbytes : (L.length + M.length) * bytes ≤ 140737488355328) (hbase : base ≤ w.heap.size) :
    ∃ v' w', (Builtin.append_ #[t, t] ty #[v, .slice C M.length d]).run P w = .ok v' w' ∧ RowN w' base e sz v' (L ++ M) ∧ Lax base sz w w' := by
  have hll : 0 < L.length := List.length_pos_iff.2 hL
  have hml : 0 < M.length := List.length_pos_iff.2 hM0
  have hfl : L.flatten.length = L.length * sz := flat_len hrow.1
  have hfm : M.flatten.length = M.length * sz := flat_len hM
  rcases hrow.2.2 with ⟨_, h0⟩ | ⟨g, cap, cur, hv, hgb, hblk, hc1, hc2, hcs, htk⟩
  · omega
  subst hv
  by_cases hroom : L.length < cap
  · obtain ⟨v', w', hr, h2, h3, h4⟩ := run_append_rowN (P := P) (w := w) (ty := ty) ht hinfo hzs hsz hrow (d := d) hM hsrc h1 h63 hbytes hbase
    refine ⟨v', w', hr, h2, Lax.of_one (g := g) (t := e) (cs := cur) (Kept.of_grown h3 fun i _ hi => by injection hi) hblk hgb ?_⟩
    rw [hcs]
    have : 2 * sz ≤ cap * sz := Nat.mul_le_mul_right _ (by omega)
    omega
  · obtain ⟨i, hi, hzz⟩ := Option.map_eq_some_iff.1 hinfo
    injection hzz with hz hzz
    injection hzz with hz1 hz2
    rcases hsrc with h1 | ⟨ad, rfl, hn⟩
    · have : 0 < M.length * sz := Nat.mul_pos hml hsz
      rw [← hfm, h1] at this
      simp at this
    subst hz1
    subst hz2
    have hold : ∀ j v, L.flatten[j]? = some v → w.cell? ((⟨g, 0, none⟩ : Addr).add j) = some v := by
      intro j v hj
      obtain ⟨hjl, _⟩ := List.getElem?_eq_some_iff.1 hj
      rw [Addr.add_lit, Nat.zero_add, World.ownsRow.cellAt hrow.2 j (by rw [← hfl]; exact hjl), hj]
    have hr := run_append_grow (P := P) w t ty e i z ht hi hz ⟨g, 0, none⟩ L.length cap L.flatten hfl hold ad M.length d M.flatten hfm hn (by omega) (by unfold maxLen at h63; omega) (growslice_fits (by omega) (by simpa using hbytes))
    have hge := grownCap_ge w (L.length + M.length) cap e
    have hcm : grownCap w (L.length + M.length) cap e ≤ maxLen := grownCap_le_maxLen w (L.length + M.length) cap e h63
    refine ⟨_, _, hr, ?_, Lax.of_below ⟨rfl, rfl, rfl, by simp, fun k hk => Below.heap_alloc w.drew _ k hk⟩⟩
    generalize grownCap w (L.length + M.length) cap e = cap' at hr hge hcm ⊢
    have hLM : ∀ x ∈ L ++ M, x.length = i.size := fun x hx => by rcases List.mem_append.1 hx with h | h; exact hrow.1 x h; exact hM x h
    refine ⟨hLM, flat_len hLM, .inr ⟨w.heap.size, cap', _, by rw [List.length_append], hbase, heap_alloc_new w.drew _, by rw [List.length_append]; exact hge, hcm, ?_, ?_⟩⟩
    · simp only [Array.size_append, List.size_toArray, size_zeroCells, hzs, hfl, hfm, ← Nat.add_mul]
      congr 1
      omega
    · have hfa : (L ++ M).flatten.length = (L ++ M).length * i.size := flat_len hLM
      simp only [Array.toList_append]
      rw [← List.flatten_append, ← hfa]
      exact List.take_left
theorem relAt_append_zero {o : Oper} {a : Act} {R : Value → World → Prop} (s x : Operand) (t : TypeId)
    (ho : o.op = .call { callee := .builtin .append, args := #[s, x], argTypes := #[t, t] })
    (base : Nat) (e : TypeId) (z : Value) (sz bytes : Nat) (ht : P.underlying t = some (.slice e)) (hinfo : (P.info? e).map (fun i => (i.zero, i.size, i.bytes)) = some (some z, sz, bytes)) (hzs : z.cells.size = sz) (hsz : 0 < sz)
    (g : Nat) (hs : a.eval s = .slice (some ⟨g, 0, none⟩) 0 0) (C : Option Addr) (m d : Nat) (M : List (List Value)) (hx : a.eval x = .slice C m d) (hm : m = M.length) (hM : ∀ x ∈ M, x.length = sz) (hsrc : Src w C M.flatten)
    (h63 : M.length ≤ maxLen) (hbytes : M.length * bytes ≤ 140737488355328) (hbase : base ≤ w.heap.size)
    (h : ∀ v' w', RowZ w' base e sz v' M → Below w.heap.size w w' → R v' w') : relAt P o a w R := by
  subst hm
  obtain ⟨v', w', hr, h2, h3⟩ := run_append_zero (P := P) (w := w) (ty := o.type) ht hinfo hzs hsz (g := g) (d := d) hM hsrc h63 hbytes hbase
  unfold relAt execOp
  simp only [ho, resolve, invoke, builtin, Sem.run_bind, Sem.run_pure, Result.andThen_ok, List.map_toArray, List.map_cons, List.map_nil, hs, hx]
  rw [hr]
  exact h v' w' h2 h3
theorem relAt_append_lax {o : Oper} {a : Act} {R : Value → World → Prop} (s x : Operand) (t : TypeId)
    (ho : o.op = .call { callee := .builtin .append, args := #[s, x], argTypes := #[t, t] })
    (base : Nat) (e : TypeId) (z : Value) (sz bytes : Nat) (ht : P.underlying t = some (.slice e)) (hinfo : (P.info? e).map (fun i => (i.zero, i.size, i.bytes)) = some (some z, sz, bytes)) (hzs : z.cells.size = sz) (hsz : 0 < sz)
    (v : Value) (L : List (List Value)) (hs : a.eval s = v) (C : Option Addr) (m d : Nat) (M : List (List Value)) (hx : a.eval x = .slice C m d) (hm : m = M.length) (hrow : RowZ w base e sz v L) (hM : ∀ x ∈ M, x.length = sz) (hM0 : M ≠ []) (hsrc : Src w C M.flatten) (h1 : ∀ u ∈ M.flatten, u.oneCell' = true)
    (h63 : L.length + M.length ≤ maxLen) (hbytes : (L.length + M.length) * bytes ≤ 140737488355328) (hbase : base ≤ w.heap.size)
    (h : ∀ v' w', RowN w' base e sz v' (L ++ M) → Lax base sz w w' → R v' w') : relAt P o a w R := by
  subst hm
  rcases hrow with ⟨rfl, g, rfl⟩ | ⟨hL, hrow⟩
  · refine relAt_append_zero s x t ho base e z sz bytes ht hinfo hzs hsz g hs C M.length d M hx rfl hM hsrc (by simpa using h63) (by simpa using hbytes) hbase fun v' w' hz hb => ?_
    rcases hz with ⟨e0, _⟩ | ⟨_, hz⟩
    · exact absurd e0 hM0
    · exact h v' w' hz (Lax.of_below hb)
  · obtain ⟨v', w', hr, h2, h3⟩ := run_append_lax (P := P) (w := w) (ty := o.type) ht hinfo hzs hsz hL hrow (d := d) hM hM0 hsrc h1 h63 hbytes hbase
    unfold relAt execOp
    simp only [ho, resolve, invoke, builtin, Sem.run_bind, Sem.run_pure, Result.andThen_ok, List.map_toArray, List.map_cons, List.map_nil, hs, hx]
    rw [hr]
    exact h v' w' h2 h3
end
end Go.Proofs.Ytidooohgbiiikaa
