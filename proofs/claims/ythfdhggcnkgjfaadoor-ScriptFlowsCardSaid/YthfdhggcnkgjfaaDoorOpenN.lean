/- Arguments that are slices of anything, opened; a slice of bytes as a value. No program in sight. -/
import Derived.Test.YthfdhggcnkgjfaaDoorOpen
import Derived.Test.YthfdhggcnkgjfaaDoorRowN
import Derived.Test.YthfdhggcnkgjfaaDoorBytesB
namespace Go.Proofs.YthfdhggcnkgjfaaDoor
open Go.ChangeShapes Go.WideShapes Go.Deep Go.RowKit
set_option linter.unusedVariables false
/-- A slice of bytes as a value: where it lies, its room, what it reads. -/
structure BV where
  A : Option Addr
  c : Nat
  l : List UInt8
def BV.val (x : BV) : Value := .slice x.A x.l.length x.c
def BV.ok (x : BV) (w : World) : Prop := x.l.length ≤ x.c ∧ x.c ≤ maxLen ∧ BS w w.heap.size x.A x.l
theorem BV.byt {x : BV} {w : World} (h : x.ok w) : Byt w x.val x.l := ⟨x.A, x.c, rfl, h.1, h.2.1, h.2.2⟩
theorem BV.of_byt {v : Value} {l : List UInt8} {w : World} (h : Byt w v l) : ∃ x : BV, v = x.val ∧ x.l = l ∧ x.ok w := by
  obtain ⟨A, c, rfl, h1, h2, h3⟩ := h
  exact ⟨⟨A, c, l⟩, rfl, rfl, h1, h2, h3⟩
theorem BV.on {x : BV} {w w' : World} (h : x.ok w) (hk : Kept (fun _ => False) w w') : x.ok w' := ⟨h.1, h.2.1, h.2.2.on hk (fun _ _ h => h)⟩
theorem BV.onB {x : BV} {w w' : World} (h : x.ok w) (hk : Below w.heap.size w w') : x.ok w' := ⟨h.1, h.2.1, h.2.2.onB hk (Nat.le_refl _)⟩
section
variable {H : Type} {enc : TypeId × Value → H} {P : Program} {w : World} {base : Nat} {spare : Nat → Bool} {held : Bool}
theorem trod_slice_form {t e : TypeId} {fuel : Nat} {l : List Value} {x : DataW H × List MemPlace} (ht : P.underlying t = some (.slice e)) (h : DataW.trod enc P w base spare held fuel t l = some x) : ∃ A len cap, l = [.slice A len cap] := by
  rcases DataW.trod_slice ht h with ⟨e, _⟩ | ⟨a', l', c', _, _, _, _, e, _⟩
  · exact ⟨_, _, _, e⟩
  · exact ⟨_, _, _, e⟩
theorem trod_bytes {t e : TypeId} {fuel : Nat} {v : Value} {x : DataW H × List MemPlace} (ht : P.underlying t = some (.slice e)) (he : P.underlying e = some (.int .u8)) (hC : P.cellsOf e = 1)
    (h : DataW.trod enc P w base spare held fuel t [v] = some x) : ∃ b : BV, v = b.val ∧ b.ok w := by
  obtain ⟨A, len, cap, e1⟩ := trod_slice_form ht h
  injection e1 with e1
  subst e1
  obtain ⟨l, rfl, h1, h2, h3⟩ := open_bytes ht he hC h
  exact ⟨⟨A, cap, l⟩, rfl, h1, h2, h3⟩
/-- A slice of elements that open as α. -/
theorem open_elems {α : Type} {t e : TypeId} {sz fuel len cap : Nat} {A : Option Addr} {x : DataW H × List MemPlace} (cs : α → List Value) (Q : α → Prop) (d : α) (ht : P.underlying t = some (.slice e)) (hC : P.cellsOf e = sz) (hsz : 0 < sz) (hcs : ∀ a, (cs a).length = sz)
    (hel : ∀ (fuel : Nat) (l : List Value) (x : DataW H × List MemPlace), DataW.trod enc P w base spare held fuel e l = some x → l.length = sz → ∃ a, l = cs a ∧ Q a)
    (h : DataW.trod enc P w base spare held fuel t [.slice A len cap] = some x) :
    ∃ L : List α, len = L.length ∧ L.length ≤ cap ∧ cap ≤ maxLen ∧ ES w w.heap.size A sz (L.map cs) ∧ ∀ y ∈ L, Q y := by
  rcases DataW.trod_slice ht h with ⟨hcs', _⟩ | ⟨a, len', cap', elems, rest, n, _, hcs', _, _, hl, hm, hel', hi, _⟩
  · obtain ⟨rfl, rfl, rfl⟩ : A = none ∧ len = 0 ∧ cap = 0 := by simpa using hcs'
    exact ⟨[], rfl, by simp, by simp, .inl rfl, fun y hy => by cases hy⟩
  · obtain ⟨rfl, rfl, rfl⟩ : A = some a ∧ len = len' ∧ cap = cap' := by simpa using hcs'
    by_cases h0 : len = 0
    · exact ⟨[], by simp [h0], by simp, hm, .inl rfl, fun y hy => by cases hy⟩
    rw [hC] at hi
    have hby : ∀ i, i < len → ∃ y : α, (∀ j (hj : j < sz), w.cell? (a.add (i * sz + j)) = some ((cs y)[j]'(by rw [hcs]; exact hj))) ∧ Q y := fun i hil => by
      have h1 := hi i hil
      rw [List.getElem?_eq_getElem (by omega)] at h1
      obtain ⟨cs1, hc, ht1⟩ := Option.bind_eq_some_iff.1 h1
      obtain ⟨_, hcl, hat⟩ := World.cells?_some hc
      obtain ⟨y, rfl, hq⟩ := hel _ _ _ ht1 hcl
      refine ⟨y, fun j hj => ?_, hq⟩
      have := hat j hj
      rw [Go.Deep.add_add] at this
      rw [this, List.getElem?_eq_getElem]
    obtain ⟨f, hf⟩ : ∃ f : Nat → α, ∀ i, i < len → (∀ j (hj : j < sz), w.cell? (a.add (i * sz + j)) = some ((cs (f i))[j]'(by rw [hcs]; exact hj))) ∧ Q (f i) :=
      ⟨fun i => if hi : i < len then (hby i hi).choose else d, fun i hi => by simp only [hi, dif_pos]; exact (hby i hi).choose_spec⟩
    obtain ⟨b, off, spot⟩ := a
    have hc0 := (hf 0 (by omega)).1 0 hsz
    have hspot : spot = none := by simpa [Addr.add] using World.cell?_spot hc0
    subst hspot
    simp only [Addr.add_lit] at hf hc0
    refine ⟨(List.range len).map f, by simp, by simpa using hl, hm, .inr ⟨b, off, World.block_lt_of_cell? w _ hc0, rfl, sz_map hcs _, ?_⟩, ?_⟩
    · intro j u hu
      have hj : j < len * sz := by
        obtain ⟨hj, _⟩ := List.getElem?_eq_some_iff.1 hu
        rw [flat_len (sz_map hcs _)] at hj
        simpa using hj
      obtain ⟨q, r, hq, hr, rfl⟩ : ∃ q r, q < len ∧ r < sz ∧ j = q * sz + r :=
        ⟨j / sz, j % sz, Nat.div_lt_of_lt_mul (by rw [Nat.mul_comm]; exact hj), Nat.mod_lt _ hsz, by rw [Nat.mul_comm]; exact (Nat.div_add_mod j sz).symm⟩
      rw [flat_get (sz_map hcs _) q (by simpa using hq) r hr] at hu
      rw [(hf q hq).1 r hr, ← hu]
      simp only [List.getElem_map, List.getElem_range]
      rw [List.getElem?_eq_getElem]
    · intro y hy
      obtain ⟨i, hi, rfl⟩ := List.mem_map.1 hy
      exact (hf i (List.mem_range.1 hi)).2
end
end Go.Proofs.YthfdhggcnkgjfaaDoor
