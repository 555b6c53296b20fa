/- An argument of lists of candidates, opened. -/
import Derived.Test.YtfdlpgmoohlgeaaCdOpen
namespace Go.Proofs.Ytfdlpgmoohlgeaa
open Go.ChangeShapes Go.WideShapes Go.ChangeAt Go.RowKit
set_option linter.unusedVariables false
/-- A slice of candidates as a value: where it lies, its room, what it reads. -/
structure CdV where
  A : Option Addr
  c : Nat
  l : List Cd
def CdV.val (x : CdV) : Value := .slice x.A x.l.length x.c
def CdV.cs (x : CdV) : List Value := [x.val]
theorem CdV.cs_len (x : CdV) : x.cs.length = 1 := rfl
section
variable {H : Type} {enc : TypeId × Value → H} {w : World} {base : Nat} {spare : Nat → Bool} {held : Bool}
theorem open_cdss {fuel : Nat} {A : Option Addr} {len cap : Nat} {x : DataW H × List MemPlace} (h : DataW.trod enc Try.prog w base spare held fuel 39 [.slice A len cap] = some x) :
    ∃ L : List CdV, len = L.length ∧ L.length ≤ maxLen ∧ ES w w.heap.size A 1 (L.map CdV.cs) ∧ ∀ y ∈ L, y.l.length ≤ maxLen ∧ ES w w.heap.size y.A 4 (y.l.map Cd.cs) := by
  rcases DataW.trod_slice Try.underlying39 h with ⟨hcs, _⟩ | ⟨a, len', cap', elems, rest, n, _, hcs, _, _, hl, hm, hel, hi, _⟩
  · obtain ⟨rfl, rfl, rfl⟩ : A = none ∧ len = 0 ∧ cap = 0 := by simpa using hcs
    exact ⟨[], rfl, by simp, .inl rfl, fun y hy => by cases hy⟩
  · obtain ⟨rfl, rfl, rfl⟩ : A = some a ∧ len = len' ∧ cap = cap' := by simpa using hcs
    by_cases h0 : len = 0
    · exact ⟨[], by simp [h0], by simp, .inl rfl, fun y hy => by cases hy⟩
    have hC : Try.prog.cellsOf 22 = 1 := by kernel_rfl
    rw [hC] at hi
    have hby : ∀ i, i < len → ∃ y : CdV, w.cell? (a.add i) = some y.val ∧ y.l.length ≤ maxLen ∧ ES w w.heap.size y.A 4 (y.l.map Cd.cs) := fun i hil => by
      have h1 := hi i hil
      rw [List.getElem?_eq_getElem (by omega), Nat.mul_one] at h1
      obtain ⟨cs, hc, ht⟩ := Option.bind_eq_some_iff.1 h1
      obtain ⟨_, hcl, hat⟩ := World.cells?_some hc
      have h2 := hat 0 (by omega)
      have hform : ∃ A' len' cap', cs = [.slice A' len' cap'] := by
        rcases DataW.trod_slice Try.underlying22 ht with ⟨e, _⟩ | ⟨a', l', c', _, _, _, _, e, _⟩
        · exact ⟨_, _, _, e⟩
        · exact ⟨_, _, _, e⟩
      obtain ⟨A', len', cap', rfl⟩ := hform
      obtain ⟨l, rfl, h3, _, h4⟩ := open_cands ht
      exact ⟨⟨A', cap', l⟩, by simpa [CdV.val, Go.Deep.add_add] using h2, h3, h4⟩
    obtain ⟨f, hf⟩ : ∃ f : Nat → CdV, ∀ i, i < len → w.cell? (a.add i) = some (f i).val ∧ (f i).l.length ≤ maxLen ∧ ES w w.heap.size (f i).A 4 ((f i).l.map Cd.cs) :=
      ⟨fun i => if hi : i < len then (hby i hi).choose else ⟨none, 0, []⟩, fun i hi => by simp only [hi, dif_pos]; exact (hby i hi).choose_spec⟩
    obtain ⟨b, off, spot⟩ := a
    have hc0 := (hf 0 (by omega)).1
    have hspot : spot = none := by simpa [Addr.add] using World.cell?_spot hc0
    subst hspot
    simp only [Addr.add_lit] at hf hc0
    refine ⟨(List.range len).map f, by simp, by simp; omega, .inr ⟨b, off, World.block_lt_of_cell? w _ hc0, rfl, sz_map CdV.cs_len _, ?_⟩, ?_⟩
    · intro j u hu
      have e : (((List.range len).map f).map CdV.cs).flatten = (List.range len).map fun i => (f i).val := by
        generalize List.range len = q
        induction q with
        | nil => rfl
        | cons x t ih =>
          rw [List.map_cons, List.map_cons, List.flatten_cons, ih]; rfl
      rw [e, List.getElem?_map] at hu
      by_cases hj : j < len
      · rw [List.getElem?_range hj] at hu
        simp at hu
        rw [← hu]; exact (hf j hj).1
      · rw [List.getElem?_eq_none (by simp; omega)] at hu
        simp at hu
    · intro y hy
      obtain ⟨i, hi, rfl⟩ := List.mem_map.1 hy
      exact (hf i (List.mem_range.1 hi)).2
end
end Go.Proofs.Ytfdlpgmoohlgeaa
