/- Pick and Next agree with the reference as candidates come and go. Conditions: none beyond the statement's own. -/
import Derived.Test.YtokahoabhhipmaaRowKit
import Derived.Test.YtokahoabhhipmaaPicks
import Derived.WalkKit
import Derived.ProofKit
import Derived.OpenShut
import Derived.ShutString
import Derived.ChangeOld
import Derived.Below
namespace Go.Proofs.Ytokahoabhhipmaa.turnPicks
open Go.ChangeShapes Go.WideShapes Go.ChangeAt Go.RowKit
set_option linter.unusedVariables false


section
variable {H : Type} {enc : TypeId × Value → H} {w : World} {base : Nat} {spare : Nat → Bool} {held : Bool}
open Go.Deep in
/-- An argument of type [][]Cand. -/
theorem open_lists {fuel : Nat} {A : Option Addr} {len cap : Nat} {x : DataW H × List MemPlace} (h : DataW.trod enc Try.prog w base spare held fuel 40 [.slice A len cap] = some x) :
    ∃ L : List (List Cd), len = L.length ∧ L.length ≤ maxLen ∧ Lists w w.heap.size A L := by
  rcases open_slice Try.underlying40 h with ⟨hcs, _⟩ | ⟨a, len', cap', m, n, D, Pl, hcs, _, hl, hm, hmm, _, hi⟩
  · obtain ⟨rfl, rfl, rfl⟩ : A = none ∧ len = 0 ∧ cap = 0 := by simpa using hcs
    exact ⟨[], rfl, by simp, .inl rfl⟩
  · obtain ⟨rfl, rfl, rfl⟩ : A = some a ∧ len = len' ∧ cap = cap' := by simpa using hcs
    have hcell : ∀ i, i < len → ∃ l : List Cd, l.length ≤ maxLen ∧ ∃ Ai ci, w.cell? (a.add i) = some (.slice Ai l.length ci) ∧ Cands w w.heap.size Ai l := by
      intro i hil
      obtain ⟨cs, hc, ht⟩ := hi i (by rw [hmm]; split <;> omega)
      have hC : Try.prog.cellsOf 22 = 1 := by kernel_rfl
      rw [hC, Nat.mul_one] at hc
      obtain ⟨_, hcl, hat⟩ := World.cells?_some hc
      have h0 := hat 0 (by omega)
      have key : ∃ Ai ni ci, cs = [.slice Ai ni ci] := by
        rcases open_slice Try.underlying22 ht with ⟨e, _⟩ | ⟨a', l', c', _, _, _, _, e, _⟩
        · exact ⟨_, _, _, e⟩
        · exact ⟨_, _, _, e⟩
      obtain ⟨Ai, ni, ci, rfl⟩ := key
      obtain ⟨l, rfl, hlm, hcd⟩ := open_cands ht
      refine ⟨l, hlm, Ai, ci, ?_, hcd⟩
      simpa [Go.Deep.add_add] using h0
    by_cases h0 : len = 0
    · exact ⟨[], h0, by simp, .inl rfl⟩
    obtain ⟨f, hf⟩ : ∃ f : Nat → List Cd, ∀ i, i < len → (f i).length ≤ maxLen ∧ ∃ Ai ci, w.cell? (a.add i) = some (.slice Ai (f i).length ci) ∧ Cands w w.heap.size Ai (f i) :=
      ⟨fun i => if hi : i < len then (hcell i hi).choose else [], fun i hi => by simp only [hi, dif_pos]; exact (hcell i hi).choose_spec⟩
    obtain ⟨b, off, spot⟩ := a
    obtain ⟨_, _, _, hc0, _⟩ := hf 0 (by omega)
    have hspot : spot = none := by simpa [Addr.add] using World.cell?_spot hc0
    subst hspot
    simp only [Addr.add_lit] at hf hc0
    refine ⟨(List.range len).map f, by simp, by simp; omega, .inr ⟨b, off, World.block_lt_of_cell? w _ hc0, rfl, ?_⟩⟩
    intro k hk
    have hk' : k < len := by simpa using hk
    simpa using hf k hk'
end

set_option maxRecDepth 100000 in
theorem lifted (os : Os) (started : os.Started) (H : Type) (enc : TypeId × Value → H) :
    ReturnsInHanded {} Try.checked os 5 .any (Rows.turnPicksSpec.pre6 enc Try.prog Try.f5 Rows.turnPicksRow.domain false) (Rows.turnPicksSpec.post enc Try.prog Try.f5 false true false false) := by
  refine returnsInHanded_of_change (C := Try.checked) own started (by kernel_rfl) Try.func5
    (ChangeSpec.witness6 (enc := enc) (C := Try.checked) false ⟨#[], #[.slice none 0 0], []⟩ 8 (by kernel_rfl) (by kernel_rfl) (by kernel_rfl) (by kernel_rfl)) ?_
  intro W base args ds gs before hval0 hW hcnd _
  have hval : ∀ (j : Nat) t v, Try.f5.params[j]? = some t → args[j]? = some v → Value.okWide Try.prog W .any base t v := hval0
  have hW' := hW
  obtain ⟨p, q, hA0, hV, rfl, hfz, hnd⟩ := hW
  have hA : DataW.TrodAll enc Try.prog W 0 (fun _ => true) true Try.f5.params.toList args.toList ds p := hA0
  rw [Try.params5] at hA hval
  obtain ⟨v0, vs0, d0, ds0, p0, q0, hargs, rfl, rfl, h0, r0⟩ := trodAll_cons hA
  obtain ⟨rfl, rfl, rfl⟩ := trodAll_nil r0
  obtain rfl : args = #[v0] := by cases args; simp_all
  obtain ⟨rfl, rfl⟩ := trodVars_none hV
  have k0 := h0
  have lt0 : ∀ x ∈ p0, x.block < W.heap.size := by obtain ⟨m, hm⟩ := k0; exact DataW.trod_lt m _ _ _ hm
  obtain ⟨a0, len0, cap0, rfl⟩ := okWide_slice Try.underlying40 (hval 0 40 v0 rfl rfl)
  obtain ⟨l0, rfl, hlm0, hc0⟩ : ∃ L : List (List Cd), len0 = L.length ∧ L.length ≤ maxLen ∧ Lists W W.heap.size a0 L := by
    obtain ⟨fuel, hf⟩ := h0
    exact open_lists hf
  clear hA0 hval0
  refine (turnPicks_l a0 cap0 l0 W hlm0 hc0).mono fun e W' ⟨he, bel⟩ => ?_
  subst he
  exact ⟨_, rfl, _, _, _, [], _, [], hW', trodAll_mk1 (shut_bool Try.underlying4 _), (trodAll_cons_mk (Below.trod laidOut (by kernel_rfl) (of_decide_eq_true (by kernel_rfl)) k0 bel lt0) trodAll_mk0), rfl, bel.frame _, fun h => by cases h⟩

theorem over : Rows.turnPicksRow.holds Try.pinned (OpenSpec.ofChange Rows.turnPicksSpec) :=
  OpenClaim.holds_of_wide 5 Try.f5 rfl rfl rfl rfl rfl rfl rfl ⟨rfl, rfl, rfl, rfl, rfl⟩ rfl rfl rfl rfl rfl (by kernel_rfl) Try.func5 (by kernel_rfl)
    (of_decide_eq_true (by kernel_rfl)) (by unfold Func.isWrapper; first | (rw [if_pos (by decide +kernel)]; kernel_rfl) | (rw [if_neg (by decide +kernel)]; exact ⟨rfl, rfl⟩))
    (fun os started H enc _ => lifted os started H enc)

theorem proved : Rows.TurnPicksSaid := over
end Go.Proofs.Ytokahoabhhipmaa.turnPicks
