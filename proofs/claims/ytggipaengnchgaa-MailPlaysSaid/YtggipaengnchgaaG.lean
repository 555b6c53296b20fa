/- The chapter's example. -/
import Derived.Test.YtggipaengnchgaaF
namespace Go.Proofs.Ytggipaengnchgaa
open Go.RowKit
set_option linter.unusedVariables false
set_option maxHeartbeats 2000000 in
theorem awake_any (w : World) : Calls Try.prog 5 #[] w fun e w' => e = .returned (.bool true) ∧ Below w.heap.size w w' := by
  have HNW := Lib.hid (new_any 5 w)
  go_enter Try.func5, Try.ntmps5
  go_wp2_with fail
  refine HNW.out.mono ?_
  rintro e w1 ⟨rfl, hM1, hb1⟩
  obtain ⟨mb, hmb⟩ : ∃ mb, w.heap.size = mb := ⟨_, rfl⟩
  have hbm : mb ≤ w1.heap.size := by rw [← hmb]; exact hb1.size
  rw [hmb] at hM1 hb1 ⊢
  have hz1 := send_ok mb mb 5 0 [] 0 false none 0 [] w1 hM1 (by simp) (by simp) hbm (by simp) .nil
  simp only [List.length_nil] at hz1
  have HZ1 := Lib.hid hz1
  have HB1 := Lib.hid hb1
  have HMB := Lib.hid hmb
  clear hz1 hM1 hb1 HNW hmb
  go_wp2_with fail
  refine HZ1.out.mono ?_
  rintro e w2 ⟨rfl, v1, hP2⟩
  have hbm2 : mb ≤ w2.heap.size := Nat.le_trans hbm hP2.bel.size
  have hz2 := send_ok mb mb 5 0 [(⟨0, false, v1, []⟩ : Le)] 1 false none 0 [] w2 hP2.st (by simp) (by simp) hbm2 (by simp) .nil
  simp only [List.length_nil] at hz2
  have HZ2 := Lib.hid hz2
  have HB2 := Lib.hid (HB1.out.trans hP2.bel)
  clear hz2 hP2 HZ1 HB1
  go_wp2_with fail
  refine HZ2.out.mono ?_
  rintro e w3 ⟨rfl, v2, hP3⟩
  have hbm3 : mb ≤ w3.heap.size := Nat.le_trans hbm2 hP3.bel.size
  obtain ⟨VA, vc, hv, -, -⟩ := (show Row w3 mb 5 v1 (bcs []) from hP3.st.ok ⟨0, false, v1, []⟩ (by simp)).shape
  have hz3 := take_ok mb mb 5 0 _ 0 ⟨0, false, v1, []⟩ w3 hP3.st (by simp) (by simp) hbm3
  subst hv
  simp only [bcs_length, List.length_nil] at hz3
  have HZ3 := Lib.hid hz3
  have HB3 := Lib.hid (HB2.out.trans hP3.bel)
  clear hz3 hP3 HZ2 HB2
  go_wp2_with fail
  refine HZ3.out.mono ?_
  rintro e w4 ⟨rfl, hP4⟩
  have hbm4 : mb ≤ w4.heap.size := Nat.le_trans hbm3 hP4.bel.size
  have HB4 := Lib.hid (HB3.out.trans hP4.bel)
  have HM4 := Lib.hid hP4.st
  clear hP4 HZ3 HB3
  go_wp2_with fail
  refine (len_any mb mb 5 0 _ _ (HM4.out.on ((Kept.refl _ _).alloc _))).mono ?_
  rintro e w5 ⟨rfl, rfl⟩
  go_wp2_with fail
  go_ret
  refine ⟨rfl, ?_⟩
  rw [HMB.out]
  exact HB4.out.alloc hbm4 _
end Go.Proofs.Ytggipaengnchgaa
