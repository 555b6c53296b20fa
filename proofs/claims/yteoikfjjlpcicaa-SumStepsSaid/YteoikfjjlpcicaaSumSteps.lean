/- Update, UpdateLong and UpdateAll agree with the reference. Conditions: none beyond the statement's own. -/
import Derived.Test.YteoikfjjlpcicaaRows
import Derived.Test.YteoikfjjlpcicaaOpen
import Derived.Test.YteoikfjjlpcicaaC
import Derived.WalkKit
import Derived.ProofKit
import Derived.OpenShut
import Derived.ShutString
import Derived.ChangeOld
import Derived.Below
namespace Go.Proofs.Yteoikfjjlpcicaa.sumSteps
open Go.ChangeShapes Go.WideShapes Go.ChangeAt Go.RowKit
set_option linter.unusedVariables false

theorem own : ownKnob Try.prog.godebug = none := by kernel_rfl
theorem laidOut : laidOutB Try.prog = true := by kernel_rfl

section
variable {H : Type} {enc : TypeId × Value → H} {w : World} {base : Nat} {spare : Nat → Bool} {held : Bool}
/-- An argument of type []sum.Change. -/
theorem open_ch {fuel : Nat} {A : Option Addr} {len cap : Nat} {x : DataW H × List MemPlace} (h : DataW.trod enc Try.prog w base spare held fuel 32 [.slice A len cap] = some x) :
    ∃ l : List (Int × Int), len = l.length ∧ l.length ≤ maxLen ∧ Ch w w.heap.size A l := by
  rcases field_cells Try.underlying32 Try.underlying34 (by kernel_rfl) (by kernel_rfl) h with ⟨rfl, rfl⟩ | ⟨a, rfl, hl, hm, hf⟩
  · exact ⟨[], rfl, by simp, .inl rfl⟩
  · have hcell : ∀ i, i < len → ∃ c : Int × Int, w.cell? (a.add (i * 2)) = some (.int .u16 c.1) ∧ w.cell? (a.add (i * 2 + 1)) = some (.int .u16 c.2) ∧ 0 ≤ c.1 ∧ c.1 ≤ 65535 ∧ 0 ≤ c.2 ∧ c.2 ≤ 65535 := by
      intro i hil
      obtain ⟨v0, y0, n0, c0, t0⟩ := hf i 0 _ hil rfl
      obtain ⟨v1, y1, n1, c1, t1⟩ := hf i 1 _ hil rfl
      obtain ⟨s, e0, _, w0⟩ := DataW.trod_int Try.underlying23 t0
      obtain ⟨bk, e1, _, w1⟩ := DataW.trod_int Try.underlying23 t1
      simp at e0 e1
      subst e0 e1
      have b0 : 0 ≤ s ∧ s ≤ 65535 := by simpa [Lit.wf, IntKind.min, IntKind.max, IntKind.signed, IntKind.bits] using w0
      have b1 : 0 ≤ bk ∧ bk ≤ 65535 := by simpa [Lit.wf, IntKind.min, IntKind.max, IntKind.signed, IntKind.bits] using w1
      exact ⟨(s, bk), c0, c1, b0.1, b0.2, b1.1, b1.2⟩
    by_cases h0 : len = 0
    · exact ⟨[], h0, by simp, .inl rfl⟩
    obtain ⟨f, hf⟩ : ∃ f : Nat → Int × Int, ∀ i, i < len → w.cell? (a.add (i * 2)) = some (.int .u16 (f i).1) ∧ w.cell? (a.add (i * 2 + 1)) = some (.int .u16 (f i).2) ∧ 0 ≤ (f i).1 ∧ (f i).1 ≤ 65535 ∧ 0 ≤ (f i).2 ∧ (f i).2 ≤ 65535 :=
      ⟨fun i => if hi : i < len then (hcell i hi).choose else (0, 0), fun i hi => by simp only [hi, dif_pos]; exact (hcell i hi).choose_spec⟩
    obtain ⟨b, off, spot⟩ := a
    have hc0 := (hf 0 (by omega)).1
    have hspot : spot = none := by simpa [Addr.add] using World.cell?_spot hc0
    subst hspot
    simp only [Addr.add_lit] at hf hc0
    refine ⟨(List.range len).map f, by simp, by simp; omega, .inr ⟨b, off, World.block_lt_of_cell? w _ hc0, rfl, ?_⟩⟩
    intro k hk
    have hk' : k < len := by simpa using hk
    simpa [Nat.add_assoc] using hf k hk'
end
theorem sumSteps_l (s was now : Int) (A : Option Addr) (cap : Nat) (l : List (Int × Int)) (w : World) (s0 : 0 ≤ s) (s1 : s ≤ 65535) (a0 : 0 ≤ was) (a1 : was ≤ 4294967295) (b0 : 0 ≤ now) (b1 : now ≤ 4294967295) (hl : l.length ≤ maxLen) (hc : Ch w w.heap.size A l) :
    Calls Try.prog 4 #[.int .u16 s, .int .u32 was, .int .u32 now, .slice A l.length cap] w fun e w' => e = .returned (.bool true) ∧ Below w.heap.size w w' := by
  unfold maxLen at hl
  by_cases h : 100 < l.length
  · exact sumSteps_far s was now A _ cap w h hl
  · exact sumSteps_any s was now A cap l w s0 s1 a0 a1 b0 b1 (by omega) hc

set_option maxRecDepth 100000 in
theorem lifted (os : Os) (started : os.Started) (H : Type) (enc : TypeId × Value → H) :
    ReturnsInHanded {} Try.checked os 4 .any (Rows.sumStepsSpec.pre6 enc Try.prog Try.f4 Rows.sumStepsRow.domain false) (Rows.sumStepsSpec.post enc Try.prog Try.f4 false true false false) := by
  refine returnsInHanded_of_change (C := Try.checked) own started (by kernel_rfl) Try.func4
    (ChangeSpec.witness6 (enc := enc) (C := Try.checked) false ⟨#[], #[.int .u16 0, .int .u32 0, .int .u32 0, .slice none 0 0], []⟩ 8 (by kernel_rfl) (by kernel_rfl) (by kernel_rfl) (by kernel_rfl)) ?_
  intro W base args ds gs before hval0 hW hcnd _
  have hval : ∀ (j : Nat) t v, Try.f4.params[j]? = some t → args[j]? = some v → Value.okWide Try.prog W .any base t v := hval0
  have hW' := hW
  obtain ⟨p, q, hA0, hV, rfl, hfz, hnd⟩ := hW
  have hA : DataW.TrodAll enc Try.prog W 0 (fun _ => true) true Try.f4.params.toList args.toList ds p := hA0
  rw [Try.params4] at hA hval
  obtain ⟨v0, vs0, d0, ds0, p0, q0, hargs, rfl, rfl, h0, r0⟩ := trodAll_cons hA
  obtain ⟨v1, vs1, d1, ds1, p1, q1, rfl, rfl, rfl, h1, r1⟩ := trodAll_cons r0
  obtain ⟨v2, vs2, d2, ds2, p2, q2, rfl, rfl, rfl, h2, r2⟩ := trodAll_cons r1
  obtain ⟨v3, vs3, d3, ds3, p3, q3, rfl, rfl, rfl, h3, r3⟩ := trodAll_cons r2
  obtain ⟨rfl, rfl, rfl⟩ := trodAll_nil r3
  obtain rfl : args = #[v0, v1, v2, v3] := by cases args; simp_all
  obtain ⟨rfl, rfl⟩ := trodVars_none hV
  have k0 := h0
  have lt0 : ∀ x ∈ p0, x.block < W.heap.size := by obtain ⟨m, hm⟩ := k0; exact DataW.trod_lt m _ _ _ hm
  have k1 := h1
  have lt1 : ∀ x ∈ p1, x.block < W.heap.size := by obtain ⟨m, hm⟩ := k1; exact DataW.trod_lt m _ _ _ hm
  have k2 := h2
  have lt2 : ∀ x ∈ p2, x.block < W.heap.size := by obtain ⟨m, hm⟩ := k2; exact DataW.trod_lt m _ _ _ hm
  have k3 := h3
  have lt3 : ∀ x ∈ p3, x.block < W.heap.size := by obtain ⟨m, hm⟩ := k3; exact DataW.trod_lt m _ _ _ hm
  obtain ⟨a0, rfl, rfl, rfl, w0⟩ := open_int Try.underlying23 (hval 0 23 v0 rfl rfl) h0
  have b0 : 0 ≤ a0 ∧ a0 ≤ 65535 := by simpa [Lit.wf, IntKind.min, IntKind.max, IntKind.signed, IntKind.bits] using w0
  obtain ⟨a1, rfl, rfl, rfl, w1⟩ := open_int Try.underlying31 (hval 1 31 v1 rfl rfl) h1
  have b1 : 0 ≤ a1 ∧ a1 ≤ 4294967295 := by simpa [Lit.wf, IntKind.min, IntKind.max, IntKind.signed, IntKind.bits] using w1
  obtain ⟨a2, rfl, rfl, rfl, w2⟩ := open_int Try.underlying31 (hval 2 31 v2 rfl rfl) h2
  have b2 : 0 ≤ a2 ∧ a2 ≤ 4294967295 := by simpa [Lit.wf, IntKind.min, IntKind.max, IntKind.signed, IntKind.bits] using w2
  obtain ⟨a3, len3, cap3, rfl⟩ := okWide_slice Try.underlying32 (hval 3 32 v3 rfl rfl)
  obtain ⟨l3, rfl, hlm3, hc3⟩ : ∃ l : List (Int × Int), len3 = l.length ∧ l.length ≤ maxLen ∧ Ch W W.heap.size a3 l := by
    obtain ⟨fuel, hf⟩ := h3
    exact open_ch hf
  clear hA0 hval0
  refine (sumSteps_l a0 a1 a2 a3 cap3 l3 W b0.1 b0.2 b1.1 b1.2 b2.1 b2.2 hlm3 hc3).mono fun e W' ⟨he, bel⟩ => ?_
  subst he
  exact ⟨_, rfl, _, _, _, [], _, [], hW', trodAll_mk1 (shut_bool Try.underlying4 _), (trodAll_cons_mk (Below.trod laidOut (by kernel_rfl) (of_decide_eq_true (by kernel_rfl)) k0 bel lt0) (trodAll_cons_mk (Below.trod laidOut (by kernel_rfl) (of_decide_eq_true (by kernel_rfl)) k1 bel lt1) (trodAll_cons_mk (Below.trod laidOut (by kernel_rfl) (of_decide_eq_true (by kernel_rfl)) k2 bel lt2) (trodAll_cons_mk (Below.trod laidOut (by kernel_rfl) (of_decide_eq_true (by kernel_rfl)) k3 bel lt3) trodAll_mk0)))), rfl, bel.frame _, fun h => by cases h⟩

theorem over : Rows.sumStepsRow.holds Try.pinned (OpenSpec.ofChange Rows.sumStepsSpec) :=
  OpenClaim.holds_of_wide 4 Try.f4 rfl rfl rfl rfl rfl rfl rfl ⟨rfl, rfl, rfl, rfl, rfl⟩ rfl rfl rfl rfl rfl (by kernel_rfl) Try.func4 (by kernel_rfl)
    (of_decide_eq_true (by kernel_rfl)) (by unfold Func.isWrapper; first | (rw [if_pos (by decide +kernel)]; kernel_rfl) | (rw [if_neg (by decide +kernel)]; exact ⟨rfl, rfl⟩))
    (fun os started H enc _ => lifted os started H enc)

theorem proved : Rows.SumStepsSaid := over
end Go.Proofs.Yteoikfjjlpcicaa.sumSteps
