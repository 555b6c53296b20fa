/- An argument of candidates, opened. -/
import Derived.Test.YtikakdcjbnbacaaOpen
import Derived.Test.YtikakdcjbnbacaaCdEl
namespace Go.Proofs.Ytikakdcjbnbacaa
open Go.ChangeShapes Go.WideShapes Go.ChangeAt Go.RowKit
set_option linter.unusedVariables false
structure Cd.wf (c : Cd) : Prop where
  slot : -9223372036854775808 ≤ c.slot ∧ c.slot ≤ 9223372036854775807
  backend : -9223372036854775808 ≤ c.backend ∧ c.backend ≤ 9223372036854775807
  weight : -9223372036854775808 ≤ c.weight ∧ c.weight ≤ 9223372036854775807
  load : 0 ≤ c.load ∧ c.load ≤ 4294967295
section
variable {H : Type} {enc : TypeId × Value → H} {w : World} {base : Nat} {spare : Nat → Bool} {held : Bool}
/-- An argument of type []Cand: candidates in memory. -/
theorem open_cands {fuel : Nat} {A : Option Addr} {len cap : Nat} {x : DataW H × List MemPlace} (h : DataW.trod enc Try.prog w base spare held fuel 22 [.slice A len cap] = some x) :
    ∃ l : List Cd, len = l.length ∧ l.length ≤ maxLen ∧ (∀ c ∈ l, Cd.wf c) ∧ ES w w.heap.size A 4 (l.map Cd.cs) := by
  rcases field_cells Try.underlying22 Try.underlying28 (by kernel_rfl) (by kernel_rfl) h with ⟨rfl, rfl⟩ | ⟨a, rfl, hl, hm, hf⟩
  · exact ⟨[], rfl, by simp, (fun c hc => by cases hc), .inl rfl⟩
  · have hcell : ∀ i, i < len → ∃ c : Cd, w.cell? (a.add (i * 4)) = some (.int .i64 c.slot) ∧ w.cell? (a.add (i * 4 + 1)) = some (.int .i64 c.backend) ∧ w.cell? (a.add (i * 4 + 2)) = some (.int .i64 c.weight) ∧ w.cell? (a.add (i * 4 + 3)) = some (.int .u32 c.load) ∧ Cd.wf c := by
      intro i hil
      obtain ⟨v0, y0, n0, c0, t0⟩ := hf i 0 _ hil rfl
      obtain ⟨v1, y1, n1, c1, t1⟩ := hf i 1 _ hil rfl
      obtain ⟨v2, y2, n2, c2, t2⟩ := hf i 2 _ hil rfl
      obtain ⟨v3, y3, n3, c3, t3⟩ := hf i 3 _ hil rfl
      obtain ⟨s, e0, _, z0⟩ := DataW.trod_int Try.underlying3 t0
      obtain ⟨bk, e1, _, z1⟩ := DataW.trod_int Try.underlying3 t1
      obtain ⟨wt, e2, _, z2⟩ := DataW.trod_int Try.underlying3 t2
      obtain ⟨ld, e3, _, z3⟩ := DataW.trod_int Try.underlying26 t3
      simp at e0 e1 e2 e3
      subst e0 e1 e2 e3
      simp [Lit.wf, IntKind.min, IntKind.max, IntKind.signed, IntKind.bits] at z0 z1 z2 z3
      exact ⟨⟨s, bk, wt, ld⟩, c0, c1, c2, c3, ⟨by simpa using z0, by simpa using z1, by simpa using z2, by simpa using z3⟩⟩
    by_cases h0 : len = 0
    · exact ⟨[], h0, by simp, (fun c hc => by cases hc), .inl rfl⟩
    obtain ⟨f, hf⟩ : ∃ f : Nat → Cd, ∀ i, i < len → w.cell? (a.add (i * 4)) = some (.int .i64 (f i).slot) ∧ w.cell? (a.add (i * 4 + 1)) = some (.int .i64 (f i).backend) ∧ w.cell? (a.add (i * 4 + 2)) = some (.int .i64 (f i).weight) ∧ w.cell? (a.add (i * 4 + 3)) = some (.int .u32 (f i).load) ∧ Cd.wf (f i) :=
      ⟨fun i => if hi : i < len then (hcell i hi).choose else ⟨0, 0, 0, 0⟩, fun i hi => by simp only [hi, dif_pos]; exact (hcell i hi).choose_spec⟩
    obtain ⟨b, off, spot⟩ := a
    have hc0 := (hf 0 (by omega)).1
    have hspot : spot = none := by simpa [Addr.add] using World.cell?_spot hc0
    subst hspot
    simp only [Addr.add_lit] at hf hc0
    refine ⟨(List.range len).map f, by simp, by simp; omega, ?_, .inr ⟨b, off, World.block_lt_of_cell? w _ hc0, rfl, cells_el ?_⟩⟩
    · intro c hc
      obtain ⟨i, hi, rfl⟩ := List.mem_map.1 hc
      exact (hf i (List.mem_range.1 hi)).2.2.2.2
    · intro k hk
      have hk' : k < len := by simpa using hk
      have := hf k hk'
      simpa [Nat.add_assoc] using ⟨this.1, this.2.1, this.2.2.1, this.2.2.2.1⟩
end

end Go.Proofs.Ytikakdcjbnbacaa
