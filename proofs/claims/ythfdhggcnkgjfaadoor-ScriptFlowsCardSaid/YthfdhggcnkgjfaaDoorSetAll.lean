/- A whole block is stored into at once. No program in sight. -/
import Derived.Test.YthfdhggcnkgjfaaDoorRowX
import Derived.Deep.MidRow
namespace Go.Proofs.YthfdhggcnkgjfaaDoor
open Go.RowKit
set_option linter.unusedVariables false
section
variable {w : World} {g : Nat} {t : TypeId} {cs : Array Value}
theorem Blk.there (h : Blk w g t cs) {n : Nat} (hn : n = cs.size) : w.there g 0 n := fun j hj => by
  subst hn
  exact ⟨by rw [h.cell]; simp; omega, h.frozen _⟩
theorem Blk.setAll_aux {t : TypeId} : ∀ (vs : List Value) (o : Nat) {w : World} {cs : Array Value}, Blk w g t cs → o + vs.length ≤ cs.size → ∃ cs', Blk (w.setCells g o vs) g t cs' ∧ cs'.size = cs.size ∧ (∀ i, i < o → cs'[i]? = cs[i]?) ∧ (∀ i, i < vs.length → cs'[o + i]? = vs[i]?) ∧ (∀ i, o + vs.length ≤ i → cs'[i]? = cs[i]?)
  | [], o, w, cs, h, _ => ⟨cs, h, rfl, fun _ _ => rfl, fun i hi => absurd hi (by simp), fun _ _ => rfl⟩
  | v :: vs, o, w, cs, h, hl => by
    simp only [List.length_cons] at hl
    obtain ⟨cs', h1, h2, h3, h4, h5⟩ := Blk.setAll_aux vs (o + 1) (h.set_ o v) (by simp; omega)
    refine ⟨cs', h1, by rw [h2]; simp, fun i hi => ?_, fun i hi => ?_, fun i hi => ?_⟩
    · rw [h3 i (by omega), Array.getElem?_setIfInBounds_ne (by omega)]
    · cases i with
      | zero => rw [Nat.add_zero, h3 o (by omega), Array.getElem?_setIfInBounds_self_of_lt (by omega)]; rfl
      | succ i => rw [show o + (i + 1) = o + 1 + i by omega, h4 i (by simpa using hi)]; rfl
    · simp only [List.length_cons] at hi
      rw [h5 i (by omega), Array.getElem?_setIfInBounds_ne (by omega)]
theorem Blk.setAll (h : Blk w g t cs) (cs' : Array Value) (hs : cs.size = cs'.size) : Blk (w.setCells g 0 cs'.toList) g t cs' := by
  obtain ⟨c, h1, h2, -, h4, h5⟩ := Blk.setAll_aux (g := g) cs'.toList 0 h (by simp; omega)
  have : c = cs' := by
    refine Array.ext_getElem? fun i => ?_
    by_cases hi : i < cs'.size
    · have := h4 i (by simpa using hi)
      rw [Nat.zero_add] at this
      rw [this]
      simp
    · have := h5 i (by simpa using hi)
      rw [Array.getElem?_eq_none (by omega), Array.getElem?_eq_none (by omega)]
  rw [← this]
  rw [← this] at h1
  exact h1
end
end Go.Proofs.YthfdhggcnkgjfaaDoor
