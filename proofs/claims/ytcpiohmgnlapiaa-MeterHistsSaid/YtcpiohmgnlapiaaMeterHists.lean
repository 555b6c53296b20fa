/- Add, Total, Join and Below agree with the reference. Conditions: none beyond the statement's own. -/
import Derived.Test.YtcpiohmgnlapiaaRows
import Derived.Test.YtcpiohmgnlapiaaOpen
import Derived.Test.YtcpiohmgnlapiaaI
import Derived.WalkKit
import Derived.ProofKit
import Derived.OpenShut
import Derived.ShutString
import Derived.ChangeOld
import Derived.Below
namespace Go.Proofs.Ytcpiohmgnlapiaa.meterHists
open Go.ChangeShapes Go.WideShapes Go.ChangeAt Go.RowKit
set_option linter.unusedVariables false

theorem own : ownKnob Try.prog.godebug = none := by kernel_rfl
theorem laidOut : laidOutB Try.prog = true := by kernel_rfl
theorem hists_l (A C : Option Addr) (c d : Nat) (l m : List Int) (p : Int) (w : World) (hl : l.length ≤ maxLen) (hm : m.length ≤ maxLen) (hrl : ∀ x ∈ l, 0 ≤ x ∧ x < 18446744073709551616) (hrm : ∀ x ∈ m, 0 ≤ x ∧ x < 18446744073709551616)
    (hA : NS w w.heap.size A .u64 l) (hC : NS w w.heap.size C .u64 m) :
    Calls Try.prog 5 #[.slice A l.length c, .slice C m.length d, .int .i64 p] w fun e w' => e = .returned (.bool true) ∧ Below w.heap.size w w' := by
  by_cases h : 100 < l.length ∨ (l.length ≤ 100 ∧ 100 < m.length)
  · exact hists_long A C l.length c m.length d p w h hl hm
  · exact hists_any A C c d l m p w (by omega) (by omega) hrl hrm hA hC

set_option maxRecDepth 100000 in
theorem lifted (os : Os) (started : os.Started) (H : Type) (enc : TypeId × Value → H) :
    ReturnsInHanded {} Try.checked os 5 .any (Rows.meterHistsSpec.pre6 enc Try.prog Try.f5 Rows.meterHistsRow.domain false) (Rows.meterHistsSpec.post enc Try.prog Try.f5 false true false false) := by
  refine returnsInHanded_of_change (C := Try.checked) own started (by kernel_rfl) Try.func5
    (ChangeSpec.witness6 (enc := enc) (C := Try.checked) false ⟨#[], #[.slice none 0 0, .slice none 0 0, .int .i64 0], []⟩ 8 (by kernel_rfl) (by kernel_rfl) (by kernel_rfl) (by kernel_rfl)) ?_
  intro W base args ds gs before hval0 hW hcnd _
  have hval : ∀ (j : Nat) t v, Try.f5.params[j]? = some t → args[j]? = some v → Value.okWide Try.prog W .any base t v := hval0
  have hW' := hW
  obtain ⟨p, q, hA0, hV, rfl, hfz, hnd⟩ := hW
  have hA : DataW.TrodAll enc Try.prog W 0 (fun _ => true) true Try.f5.params.toList args.toList ds p := hA0
  rw [Try.params5] at hA hval
  obtain ⟨v0, vs0, d0, ds0, p0, q0, hargs, rfl, rfl, h0, r0⟩ := trodAll_cons hA
  obtain ⟨v1, vs1, d1, ds1, p1, q1, rfl, rfl, rfl, h1, r1⟩ := trodAll_cons r0
  obtain ⟨v2, vs2, d2, ds2, p2, q2, rfl, rfl, rfl, h2, r2⟩ := trodAll_cons r1
  obtain ⟨rfl, rfl, rfl⟩ := trodAll_nil r2
  obtain rfl : args = #[v0, v1, v2] := by cases args; simp_all
  obtain ⟨rfl, rfl⟩ := trodVars_none hV
  have k0 := h0
  have lt0 : ∀ x ∈ p0, x.block < W.heap.size := by obtain ⟨m, hm⟩ := k0; exact DataW.trod_lt m _ _ _ hm
  have k1 := h1
  have lt1 : ∀ x ∈ p1, x.block < W.heap.size := by obtain ⟨m, hm⟩ := k1; exact DataW.trod_lt m _ _ _ hm
  have k2 := h2
  have lt2 : ∀ x ∈ p2, x.block < W.heap.size := by obtain ⟨m, hm⟩ := k2; exact DataW.trod_lt m _ _ _ hm
  obtain ⟨a0, len0, cap0, rfl⟩ := okWide_slice Try.underlying30 (hval 0 30 v0 rfl rfl)
  obtain ⟨l0, rfl, hlc0, hcm0, hc0, hw0⟩ : ∃ l : List Int, len0 = l.length ∧ l.length ≤ cap0 ∧ cap0 ≤ maxLen ∧ NS W W.heap.size a0 .u64 l ∧ ∀ z ∈ l, (Lit.int .u64 z).wf = true := by
    obtain ⟨fuel, hf⟩ := h0
    exact open_nums Try.underlying30 Try.underlying29 (by kernel_rfl) hf
  have hz0 : ∀ z ∈ l0, 0 ≤ z ∧ z < 18446744073709551616 := fun z hz => by
    have := hw0 z hz
    simp [Lit.wf, IntKind.min, IntKind.max, IntKind.signed, IntKind.bits] at this
    omega
  obtain ⟨a1, len1, cap1, rfl⟩ := okWide_slice Try.underlying30 (hval 1 30 v1 rfl rfl)
  obtain ⟨l1, rfl, hlc1, hcm1, hc1, hw1⟩ : ∃ l : List Int, len1 = l.length ∧ l.length ≤ cap1 ∧ cap1 ≤ maxLen ∧ NS W W.heap.size a1 .u64 l ∧ ∀ z ∈ l, (Lit.int .u64 z).wf = true := by
    obtain ⟨fuel, hf⟩ := h1
    exact open_nums Try.underlying30 Try.underlying29 (by kernel_rfl) hf
  have hz1 : ∀ z ∈ l1, 0 ≤ z ∧ z < 18446744073709551616 := fun z hz => by
    have := hw1 z hz
    simp [Lit.wf, IntKind.min, IntKind.max, IntKind.signed, IntKind.bits] at this
    omega
  obtain ⟨a2, rfl, rfl, rfl, w2⟩ := open_int Try.underlying3 (hval 2 3 v2 rfl rfl) h2
  have b2 : -9223372036854775808 ≤ a2 ∧ a2 ≤ 9223372036854775807 := by simpa [Lit.wf, IntKind.min, IntKind.max, IntKind.signed, IntKind.bits] using w2
  clear hA0 hval0
  refine (hists_l a0 a1 cap0 cap1 l0 l1 a2 W (by omega) (by omega) hz0 hz1 hc0 hc1).mono fun e W' ⟨he, bel⟩ => ?_
  subst he
  exact ⟨_, rfl, _, _, _, [], _, [], hW', trodAll_mk1 (shut_bool Try.underlying4 _), (trodAll_cons_mk (Below.trod laidOut (by kernel_rfl) (of_decide_eq_true (by kernel_rfl)) k0 bel lt0) (trodAll_cons_mk (Below.trod laidOut (by kernel_rfl) (of_decide_eq_true (by kernel_rfl)) k1 bel lt1) (trodAll_cons_mk (Below.trod laidOut (by kernel_rfl) (of_decide_eq_true (by kernel_rfl)) k2 bel lt2) trodAll_mk0))), rfl, bel.frame _, fun h => by cases h⟩

theorem over : Rows.meterHistsRow.holds Try.pinned (OpenSpec.ofChange Rows.meterHistsSpec) :=
  OpenClaim.holds_of_wide 5 Try.f5 rfl rfl rfl rfl rfl rfl rfl ⟨rfl, rfl, rfl, rfl, rfl⟩ rfl rfl rfl rfl rfl (by kernel_rfl) Try.func5 (by kernel_rfl)
    (of_decide_eq_true (by kernel_rfl)) (by unfold Func.isWrapper; first | (rw [if_pos (by decide +kernel)]; kernel_rfl) | (rw [if_neg (by decide +kernel)]; exact ⟨rfl, rfl⟩))
    (fun os started H enc _ => lifted os started H enc)

theorem proved : Rows.MeterHistsSaid := over
end Go.Proofs.Ytcpiohmgnlapiaa.meterHists
