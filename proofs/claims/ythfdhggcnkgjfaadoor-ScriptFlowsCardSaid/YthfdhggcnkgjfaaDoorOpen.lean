/- An argument that is a slice of structs of one-cell fields: where each field of each element lies, and how it reads. -/
import Derived.Test.YthfdhggcnkgjfaaDoorBytes
import Derived.WalkKit
import Derived.ProofKit
import Derived.OpenShut
import Derived.ChangeOld
import Derived.Below
import Derived.Deep.Slices
import Derived.Deep.Fields
import Derived.ChangeSame
namespace Go.Proofs.YthfdhggcnkgjfaaDoor
open Go.ChangeShapes Go.WideShapes Go.Deep

section
variable {H : Type} {enc : TypeId × Value → H} {P : Program} {w : World} {base : Nat} {spare : Nat → Bool} {held : Bool}
/-- Element i's field j lies at cell i * fields + j. -/
theorem field_cells {t e : TypeId} {fs : Array Field} {fuel len cap : Nat} {A : Option Addr} {x : DataW H × List MemPlace} (ht : P.underlying t = some (.slice e)) (he : P.underlying e = some (.struct fs))
    (hone : oneCellFields P fs = true) (hC : P.cellsOf e = fs.size) (h : DataW.trod enc P w base spare held fuel t [.slice A len cap] = some x) :
    (A = none ∧ len = 0) ∨ ∃ a, A = some a ∧ len ≤ cap ∧ cap ≤ maxLen ∧
      ∀ i j f, i < len → fs[j]? = some f → ∃ v y n, w.cell? (a.add (i * fs.size + j)) = some v ∧ DataW.trod enc P w base spare held n f.type [v] = some y := by
  rcases open_slice ht h with ⟨hcs, _⟩ | ⟨a, len', cap', m, n, D, Pl, hcs, _, hl, hm, hmm, _, hi⟩
  · left
    simpa using (show A = none ∧ len = 0 ∧ cap = 0 by simpa using hcs).imp id And.left
  · obtain ⟨rfl, rfl, rfl⟩ : A = some a ∧ len = len' ∧ cap = cap' := by simpa using hcs
    refine .inr ⟨a, rfl, hl, hm, fun i j f hil hj => ?_⟩
    have him : i < m := by rw [hmm]; split <;> omega
    obtain ⟨cs, hc, ht'⟩ := hi i him
    rw [hC] at hc
    obtain ⟨ys, n', _, _, hlen, hyl, hf⟩ := DataW.trod_struct he ht'
    obtain ⟨_, hcl, hat⟩ := World.cells?_some hc
    have hjl : j < fs.size := (Array.getElem?_eq_some_iff.1 hj).1
    obtain ⟨ho, hk⟩ := hone_of hone j f hj
    have hjc : j < cs.length := by omega
    have h1 := hf j f hj
    rw [ho, hk, List.drop_eq_getElem_cons hjc] at h1
    refine ⟨cs[j], ys[j]'(by omega), n', ?_, ?_⟩
    · rw [← Go.Deep.add_add, hat j hjl, List.getElem?_eq_getElem hjc]
    · exact h1.trans (List.getElem?_eq_getElem (by omega))
/-- An argument of type []byte. -/
theorem open_bytes {t e : TypeId} {fuel len cap : Nat} {A : Option Addr} {x : DataW H × List MemPlace} (ht : P.underlying t = some (.slice e)) (he : P.underlying e = some (.int .u8)) (hC : P.cellsOf e = 1)
    (h : DataW.trod enc P w base spare held fuel t [.slice A len cap] = some x) : ∃ l : List UInt8, len = l.length ∧ l.length ≤ cap ∧ cap ≤ maxLen ∧ BS w w.heap.size A l := by
  rcases open_ints ht he hC h with ⟨hcs, _⟩ | ⟨a, len', cap', zs, hcs, _, hl, hm, hz, _, hcell, hwz⟩
  · obtain ⟨rfl, rfl, rfl⟩ : A = none ∧ len = 0 ∧ cap = 0 := by simpa using hcs
    exact ⟨[], rfl, by simp, by simp, .inl rfl⟩
  · obtain ⟨rfl, rfl, rfl⟩ : A = some a ∧ len = len' ∧ cap = cap' := by simpa using hcs
    have hzl : len ≤ zs.length := by rw [hz]; split <;> omega
    by_cases h0 : len = 0
    · exact ⟨[], by simp [h0], by simp, hm, .inl rfl⟩
    have hby : ∀ i, i < len → ∃ b : UInt8, w.cell? (a.add i) = some (.int .u8 (b.toNat : Int)) := fun i hi => by
      have hw := hwz (zs.getD i 0) (by rw [List.getD_eq_getElem?_getD, List.getElem?_eq_getElem (by omega)]; exact List.getElem_mem _)
      have hb : 0 ≤ zs.getD i 0 ∧ zs.getD i 0 ≤ 255 := by simpa [Lit.wf, IntKind.min, IntKind.max, IntKind.signed, IntKind.bits] using hw
      obtain ⟨b, hb'⟩ := byte_of _ hb.1 hb.2
      exact ⟨b, by rw [← hb']; exact hcell i (by omega)⟩
    obtain ⟨f, hf⟩ : ∃ f : Nat → UInt8, ∀ i, i < len → w.cell? (a.add i) = some (.int .u8 ((f i).toNat : Int)) :=
      ⟨fun i => if hi : i < len then (hby i hi).choose else 0, fun i hi => by simp only [hi, dif_pos]; exact (hby i hi).choose_spec⟩
    obtain ⟨b, off, spot⟩ := a
    have hc0 := hf 0 (by omega)
    have hspot : spot = none := by simpa [Addr.add] using World.cell?_spot hc0
    subst hspot
    simp only [Addr.add_lit] at hf hc0
    refine ⟨(List.range len).map f, by simp, by simpa using hl, hm, .inr ⟨b, off, World.block_lt_of_cell? w _ hc0, rfl, ?_⟩⟩
    intro k hk
    have hk' : k < len := by simpa using hk
    simpa using hf k hk'
end
end Go.Proofs.YthfdhggcnkgjfaaDoor
