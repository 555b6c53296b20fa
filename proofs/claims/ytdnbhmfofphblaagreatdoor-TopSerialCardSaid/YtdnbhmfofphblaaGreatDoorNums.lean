/- Words on slices of integers that came in. No program in sight. -/
import Derived.Test.YtdnbhmfofphblaaGreatDoorBase
namespace Go.Proofs.YtdnbhmfofphblaaGreatDoor
set_option maxRecDepth 100000
open Go.RowKit
/-- The cells from ⟨b, off⟩ on hold the numbers l. -/
def NumsAt (w : World) (b off : Nat) (k : IntKind) (l : List Int) : Prop := ∀ i (h : i < l.length), w.cell? ⟨b, off + i, none⟩ = some (.int k l[i])
/-- A slice's address, below block B, leads to the numbers l; of none nothing is asked. -/
def NS (w : World) (B : Nat) (A : Option Addr) (k : IntKind) (l : List Int) : Prop := l = [] ∨ ∃ b off, b < B ∧ A = some ⟨b, off, none⟩ ∧ NumsAt w b off k l
section
variable {w w' : World} {B : Nat} {A : Option Addr} {k : IntKind} {l : List Int}
theorem NS.keep (h : NS w B A k l) (hk : ∀ b o, b < B → w'.cell? ⟨b, o, none⟩ = w.cell? ⟨b, o, none⟩) : NS w' B A k l := by
  rcases h with h | ⟨b, off, hb, h1, h2⟩
  · exact .inl h
  · exact .inr ⟨b, off, hb, h1, fun i hi => (hk b _ hb).trans (h2 i hi)⟩
theorem NS.kept {S : Nat → Prop} (h : NS w B A k l) (hk : Kept S w w') (hB : B ≤ w.heap.size) (hS : ∀ i, i < B → ¬ S i) : NS w' B A k l := h.keep fun b o hb => hk.cell (by omega) (hS b hb) o
theorem NS.below (h : NS w B A k l) (hk : Below B w w') : NS w' B A k l := h.keep fun _ _ hb => hk.cell hb
theorem NS.more {B' : Nat} (h : NS w B A k l) (hB : B ≤ B') : NS w B' A k l := by
  rcases h with h | ⟨b, off, hb, h1, h2⟩
  · exact .inl h
  · exact .inr ⟨b, off, by omega, h1, h2⟩
theorem NS.at (h : NS w B A k l) {i : Nat} (hi : i < l.length) : ∃ b off, b < B ∧ A = some ⟨b, off, none⟩ ∧ NumsAt w b off k l := by
  rcases h with rfl | h
  · simp at hi
  · exact h
end
open Go.ChangeShapes Go.WideShapes Go.Deep
section
variable {H : Type} {enc : TypeId × Value → H} {P : Program} {w : World} {base : Nat} {spare : Nat → Bool} {held : Bool}
/-- An argument that is a slice of integers. -/
theorem open_nums {t e : TypeId} {k : IntKind} {fuel len cap : Nat} {A : Option Addr} {x : DataW H × List MemPlace} (ht : P.underlying t = some (.slice e)) (he : P.underlying e = some (.int k)) (hC : P.cellsOf e = 1)
    (h : DataW.trod enc P w base spare held fuel t [.slice A len cap] = some x) : ∃ l : List Int, len = l.length ∧ l.length ≤ cap ∧ cap ≤ maxLen ∧ NS w w.heap.size A k l ∧ ∀ z ∈ l, (Lit.int k z).wf = true := by
  rcases open_ints ht he hC h with ⟨hcs, _⟩ | ⟨a, len', cap', zs, hcs, _, hl, hm, hz, _, hcell, hwz⟩
  · obtain ⟨rfl, rfl, rfl⟩ : A = none ∧ len = 0 ∧ cap = 0 := by simpa using hcs
    exact ⟨[], rfl, by simp, by simp, .inl rfl, fun z hz => by cases hz⟩
  · obtain ⟨rfl, rfl, rfl⟩ : A = some a ∧ len = len' ∧ cap = cap' := by simpa using hcs
    have hzl : len ≤ zs.length := by rw [hz]; split <;> omega
    by_cases h0 : len = 0
    · exact ⟨[], by simp [h0], by simp, hm, .inl rfl, fun z hz => by cases hz⟩
    obtain ⟨b, off, spot⟩ := a
    have hc0 := hcell 0 (by omega)
    have hspot : spot = none := by simpa [Addr.add] using World.cell?_spot hc0
    subst hspot
    simp only [Addr.add_lit] at hcell hc0
    have hlen : (zs.take len).length = len := by simp; omega
    refine ⟨zs.take len, hlen.symm, by omega, hm, .inr ⟨b, off, World.block_lt_of_cell? w _ hc0, rfl, fun i hi => ?_⟩, fun z hz' => hwz z (List.mem_of_mem_take hz')⟩
    rw [hlen] at hi
    rw [hcell i (by omega), List.getElem_take]
    simp [List.getD_eq_getElem?_getD, List.getElem?_eq_getElem (show i < zs.length by omega)]
end
end Go.Proofs.YtdnbhmfofphblaaGreatDoor
