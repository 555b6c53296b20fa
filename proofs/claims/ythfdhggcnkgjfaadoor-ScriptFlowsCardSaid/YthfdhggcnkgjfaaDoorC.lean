/- sameOp and Same, walked. -/
import Derived.Test.YthfdhggcnkgjfaaDoorB
namespace Go.Proofs.YthfdhggcnkgjfaaDoor
open Go.RowKit
set_option linter.unusedVariables false
theorem kept_of {w w1 w2 : World} (h1 : Below w.heap.size w w1) (h2 : Below w1.heap.size w1 w2) : Below w.heap.size w w2 := h1.trans (Kept.below (S := fun _ => False) (Kept.ofB h2) h1.size (fun i h => h.elim))
theorem bel_two {w : World} {a b : Obj} : Below w.heap.size w ((w.alloc a).alloc b) := ((Below.refl _ w).alloc (Nat.le_refl _) _).alloc (by simp) _
set_option maxRecDepth 10000 in
set_option maxHeartbeats 8000000 in
theorem sameOp_any (k0 k0z : Int) (k1 k1z : Int) (k2 k2z : Int) (k3 k3z : Int) (s sz : Bool) (h hz : Int) (l lz : Int) (p pz : Int) (q qz : Int) (y yz : Int) (MA MAz : Option Addr) (mc mcz : Nat) (ml mlz : List Mb) (w : World) (hm : ml.length ≤ maxLen) (hM : ES w w.heap.size MA 2 (ml.map Mb.cs)) (hMz : ES w w.heap.size MAz 2 (mlz.map Mb.cs)) :
    Calls Tryd.prog 18 #[.agg #[.int .i64 k0, .int .i64 k1, .int .i64 k2, .int .i64 k3, .bool s, .int .u64 h, .int .u64 l, .int .u16 p, .int .u8 q, .int .i64 y, .slice MA ml.length mc], .agg #[.int .i64 k0z, .int .i64 k1z, .int .i64 k2z, .int .i64 k3z, .bool sz, .int .u64 hz, .int .u64 lz, .int .u16 pz, .int .u8 qz, .int .i64 yz, .slice MAz mlz.length mcz]] w fun e w' => e = .returned (.bool (decide (k0 = k0z ∧ k1 = k1z ∧ k2 = k2z ∧ k3 = k3z ∧ s = sz ∧ h = hz ∧ l = lz ∧ p = pz ∧ q = qz ∧ y = yz ∧ ml = mlz))) ∧ Below w.heap.size w w' := by
  have HM := Lib.hid hm
  have HE := Lib.hid hM
  have HEz := Lib.hid hMz
  clear hm hM hMz
  go_enter Tryd.func18, Tryd.ntmps18
  go_upto_region 1 with fail
  obtain ⟨w1, hw1⟩ : ∃ w1 : World, w1 = (w.alloc (.cells #[.int .i64 k0, .int .i64 k1, .int .i64 k2, .int .i64 k3, .bool s, .int .u64 h, .int .u64 l, .int .u16 p, .int .u8 q, .int .i64 y, .slice MA ml.length mc] 47)).alloc (.cells #[.int .i64 k0z, .int .i64 k1z, .int .i64 k2z, .int .i64 k3z, .bool sz, .int .u64 hz, .int .u64 lz, .int .u16 pz, .int .u8 qz, .int .i64 yz, .slice MAz mlz.length mcz] 47) := ⟨_, rfl⟩
  have HX := Lib.hid (show Blk w1 w.heap.size 47 #[.int .i64 k0, .int .i64 k1, .int .i64 k2, .int .i64 k3, .bool s, .int .u64 h, .int .u64 l, .int .u16 p, .int .u8 q, .int .i64 y, .slice MA ml.length mc] by rw [hw1]; exact (Blk.new _ _ _).alloc _)
  have HY := Lib.hid (show Blk w1 (w.heap.size + 1) 47 #[.int .i64 k0z, .int .i64 k1z, .int .i64 k2z, .int .i64 k3z, .bool sz, .int .u64 hz, .int .u64 lz, .int .u16 pz, .int .u8 qz, .int .i64 yz, .slice MAz mlz.length mcz] by rw [hw1]; exact Blk.new_ (by simp) _ _)
  have HW := Lib.hid (show Below w.heap.size w w1 by rw [hw1]; exact bel_two)
  rw [← hw1]
  clear hw1
  obtain ⟨yb, hyb⟩ : ∃ yb, w.heap.size + 1 = yb := ⟨_, rfl⟩
  rw [hyb] at HY ⊢
  obtain ⟨xb, hxb⟩ : ∃ xb, w.heap.size = xb := ⟨_, rfl⟩
  have HXB := Lib.hid hxb
  rw [hxb] at HX ⊢
  clear hyb hxb
  have cx := HX.out.cell
  have cy := HY.out.cell
  rcases Classical.em (¬ k0 = k0z) with e0 | e0
  · go_wp2_with fail
    go_ret
    first | exact ⟨rfl, HW.out⟩ | exact ⟨congrArg (fun b => Ending.returned (Value.bool b)) (a₁ := false) (decide_eq_false (fun h => e0 h.1)).symm, HW.out⟩
  replace e0 := Classical.not_not.1 e0
  subst e0
  rcases Classical.em (¬ k1 = k1z) with e1 | e1
  · go_wp2_with fail
    go_ret
    first | exact ⟨rfl, HW.out⟩ | exact ⟨congrArg (fun b => Ending.returned (Value.bool b)) (a₁ := false) (decide_eq_false (fun h => e1 h.2.1)).symm, HW.out⟩
  replace e1 := Classical.not_not.1 e1
  subst e1
  rcases Classical.em (¬ k2 = k2z) with e2 | e2
  · go_wp2_with fail
    go_ret
    first | exact ⟨rfl, HW.out⟩ | exact ⟨congrArg (fun b => Ending.returned (Value.bool b)) (a₁ := false) (decide_eq_false (fun h => e2 h.2.2.1)).symm, HW.out⟩
  replace e2 := Classical.not_not.1 e2
  subst e2
  rcases Classical.em (¬ k3 = k3z) with e3 | e3
  · go_wp2_with fail
    go_ret
    first | exact ⟨rfl, HW.out⟩ | exact ⟨congrArg (fun b => Ending.returned (Value.bool b)) (a₁ := false) (decide_eq_false (fun h => e3 h.2.2.2.1)).symm, HW.out⟩
  replace e3 := Classical.not_not.1 e3
  subst e3
  rcases Classical.em (¬ s = sz) with e4 | e4
  · go_wp2_with fail
    go_ret
    first | exact ⟨rfl, HW.out⟩ | exact ⟨congrArg (fun b => Ending.returned (Value.bool b)) (a₁ := false) (decide_eq_false (fun h => e4 h.2.2.2.2.1)).symm, HW.out⟩
  replace e4 := Classical.not_not.1 e4
  subst e4
  rcases Classical.em (¬ h = hz) with e5 | e5
  · go_wp2_with fail
    go_ret
    first | exact ⟨rfl, HW.out⟩ | exact ⟨congrArg (fun b => Ending.returned (Value.bool b)) (a₁ := false) (decide_eq_false (fun h => e5 h.2.2.2.2.2.1)).symm, HW.out⟩
  replace e5 := Classical.not_not.1 e5
  subst e5
  rcases Classical.em (¬ l = lz) with e6 | e6
  · go_wp2_with fail
    go_ret
    first | exact ⟨rfl, HW.out⟩ | exact ⟨congrArg (fun b => Ending.returned (Value.bool b)) (a₁ := false) (decide_eq_false (fun h => e6 h.2.2.2.2.2.2.1)).symm, HW.out⟩
  replace e6 := Classical.not_not.1 e6
  subst e6
  rcases Classical.em (¬ p = pz) with e7 | e7
  · go_wp2_with fail
    go_ret
    first | exact ⟨rfl, HW.out⟩ | exact ⟨congrArg (fun b => Ending.returned (Value.bool b)) (a₁ := false) (decide_eq_false (fun h => e7 h.2.2.2.2.2.2.2.1)).symm, HW.out⟩
  replace e7 := Classical.not_not.1 e7
  subst e7
  rcases Classical.em (¬ q = qz) with e8 | e8
  · go_wp2_with fail
    go_ret
    first | exact ⟨rfl, HW.out⟩ | exact ⟨congrArg (fun b => Ending.returned (Value.bool b)) (a₁ := false) (decide_eq_false (fun h => e8 h.2.2.2.2.2.2.2.2.1)).symm, HW.out⟩
  replace e8 := Classical.not_not.1 e8
  subst e8
  rcases Classical.em (¬ y = yz) with e9 | e9
  · go_wp2_with fail
    go_ret
    first | exact ⟨rfl, HW.out⟩ | exact ⟨congrArg (fun b => Ending.returned (Value.bool b)) (a₁ := false) (decide_eq_false (fun h => e9 h.2.2.2.2.2.2.2.2.2.1)).symm, HW.out⟩
  replace e9 := Classical.not_not.1 e9
  subst e9
  go_wp2_with fail
  refine (eqM_any MA MAz mc mcz ml mlz w1 HM.out (HE.out.onB HW.out (Nat.le_refl _)) (HEz.out.onB HW.out (Nat.le_refl _))).mono ?_
  rintro e w2 ⟨rfl, hb2⟩
  have HW2 := Lib.hid (kept_of HW.out hb2)
  clear hb2
  go_wp2_with fail
  go_ret
  refine ⟨?_, HW2.out⟩
  by_cases hx : ml = mlz
  · simp [hx]
  · simp [hx]
end Go.Proofs.YthfdhggcnkgjfaaDoor
