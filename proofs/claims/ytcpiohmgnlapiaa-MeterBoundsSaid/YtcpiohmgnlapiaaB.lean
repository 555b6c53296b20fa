import Derived.Test.YtcpiohmgnlapiaaRows
import Derived.Test.YtcpiohmgnlapiaaA
import Derived.Outline
import Derived.Deep.Light
import Derived.StillTailTactics
import Derived.Deep.QuietTactic
import Derived.BigQuiet
namespace Go.Proofs.Ytcpiohmgnlapiaa
open Go.RowKit
set_option linter.unusedVariables false


set_option maxHeartbeats 2000000 in
theorem refFill_old (r s lv t now : Int) (w : World) (r0 : 0 ≤ r) (r1 : r ≤ 2147483648) (s1 : s ≤ 2147483648) (l0 : 0 ≤ lv) (l1 : lv ≤ s) (t0 : 0 ≤ t) (t1 : t < 18446744073709551616) (n0 : 0 ≤ now) (n1 : now < 18446744073709551616) (L T2 : Int) (hL : fillL r s lv t now = L) (hT : fillT t now = T2) (h : now ≤ t) : Calls Try.prog 10 #[.agg #[.int .u64 r, .int .u64 s, .int .u64 lv, .int .u64 t], .int .u64 now] w fun e w' => e = .returned (.agg #[.int .u64 r, .int .u64 s, .int .u64 L, .int .u64 T2]) ∧ Below w.heap.size w w' := by
  have HL := Lib.hid (show L = lv by rw [← hL, fillL, if_pos h])
  have HT := Lib.hid (show T2 = t by rw [← hT, fillT, if_pos h])
  clear hL hT
  go_enter Try.func10, Try.ntmps10
  go_wp2
  refine bodyPost_ret (results_blk1 (P := Try.prog) Try.results10 _ _ (w.heap.size + 1) 37 #[.int .u64 r, .int .u64 s, .int .u64 (lv), .int .u64 t] _ rfl ?_ Try.underlying37 rfl (by kernel_rfl)) rfl ⟨by rw [HL.out, HT.out], ?_⟩
  · go_light
    repeat (first | (with_reducible exact Blk.new_ (by simp) _ _) | (with_reducible apply Blk.set_to) | ((with_reducible apply Blk.far'); omega) | (with_reducible apply Blk.alloc))
    all_goals rfl
  · go_light
    refine Kept.below (S := fun i => w.heap.size ≤ i) ?_ (Nat.le_refl _) (fun i h => h)
    repeat (first | (with_reducible exact Kept.refl _ _) | ((with_reducible apply Kept.setNew); omega) | (with_reducible apply Kept.alloc))

set_option maxHeartbeats 2000000 in
theorem refFill_farLe (r s lv t now : Int) (w : World) (r0 : 0 ≤ r) (r1 : r ≤ 2147483648) (s1 : s ≤ 2147483648) (l0 : 0 ≤ lv) (l1 : lv ≤ s) (t0 : 0 ≤ t) (t1 : t < 18446744073709551616) (n0 : 0 ≤ now) (n1 : now < 18446744073709551616) (L T2 : Int) (hL : fillL r s lv t now = L) (hT : fillT t now = T2) (h : t < now) (hp : 2147483648 < now - t) (hc : ¬ s < lv + 2147483648 * r) : Calls Try.prog 10 #[.agg #[.int .u64 r, .int .u64 s, .int .u64 lv, .int .u64 t], .int .u64 now] w fun e w' => e = .returned (.agg #[.int .u64 r, .int .u64 s, .int .u64 L, .int .u64 T2]) ∧ Below w.heap.size w w' := by
  have HL := Lib.hid (show L = lv + 2147483648 * r by
    have hm : min (now - t) 2147483648 = 2147483648 := by omega
    rw [← hL, fillL, if_neg (by omega), hm, Int.mul_comm r]; omega)
  have HT := Lib.hid (show T2 = now by rw [← hT, fillT, if_neg (by omega)])
  have hP := mul_le (r := r) (p := 2147483648) (b := 2147483648) r0 r1 (by omega) (by omega)
  rw [Int.mul_comm r] at hP
  obtain ⟨hP0, hP1⟩ := hP
  have hn : ¬ now ≤ t := by omega
  clear hL hT
  go_enter Try.func10, Try.ntmps10
  go_wp2
  refine bodyPost_ret (results_blk1 (P := Try.prog) Try.results10 _ _ (w.heap.size + 1) 37 #[.int .u64 r, .int .u64 s, .int .u64 (lv + 2147483648 * r), .int .u64 now] _ rfl ?_ Try.underlying37 rfl (by kernel_rfl)) rfl ⟨by rw [HL.out, HT.out], ?_⟩
  · go_light
    repeat (first | (with_reducible exact Blk.new_ (by simp) _ _) | (with_reducible apply Blk.set_to) | ((with_reducible apply Blk.far'); omega) | (with_reducible apply Blk.alloc))
    all_goals rfl
  · go_light
    refine Kept.below (S := fun i => w.heap.size ≤ i) ?_ (Nat.le_refl _) (fun i h => h)
    repeat (first | (with_reducible exact Kept.refl _ _) | ((with_reducible apply Kept.setNew); omega) | (with_reducible apply Kept.alloc))

set_option maxHeartbeats 2000000 in
theorem refFill_farGt (r s lv t now : Int) (w : World) (r0 : 0 ≤ r) (r1 : r ≤ 2147483648) (s1 : s ≤ 2147483648) (l0 : 0 ≤ lv) (l1 : lv ≤ s) (t0 : 0 ≤ t) (t1 : t < 18446744073709551616) (n0 : 0 ≤ now) (n1 : now < 18446744073709551616) (L T2 : Int) (hL : fillL r s lv t now = L) (hT : fillT t now = T2) (h : t < now) (hp : 2147483648 < now - t) (hc : s < lv + 2147483648 * r) : Calls Try.prog 10 #[.agg #[.int .u64 r, .int .u64 s, .int .u64 lv, .int .u64 t], .int .u64 now] w fun e w' => e = .returned (.agg #[.int .u64 r, .int .u64 s, .int .u64 L, .int .u64 T2]) ∧ Below w.heap.size w w' := by
  have HL := Lib.hid (show L = s by
    have hm : min (now - t) 2147483648 = 2147483648 := by omega
    rw [← hL, fillL, if_neg (by omega), hm, Int.mul_comm r]; omega)
  have HT := Lib.hid (show T2 = now by rw [← hT, fillT, if_neg (by omega)])
  have hP := mul_le (r := r) (p := 2147483648) (b := 2147483648) r0 r1 (by omega) (by omega)
  rw [Int.mul_comm r] at hP
  obtain ⟨hP0, hP1⟩ := hP
  have hn : ¬ now ≤ t := by omega
  clear hL hT
  go_enter Try.func10, Try.ntmps10
  go_wp2
  refine bodyPost_ret (results_blk1 (P := Try.prog) Try.results10 _ _ (w.heap.size + 1) 37 #[.int .u64 r, .int .u64 s, .int .u64 (s), .int .u64 now] _ rfl ?_ Try.underlying37 rfl (by kernel_rfl)) rfl ⟨by rw [HL.out, HT.out], ?_⟩
  · go_light
    repeat (first | (with_reducible exact Blk.new_ (by simp) _ _) | (with_reducible apply Blk.set_to) | ((with_reducible apply Blk.far'); omega) | (with_reducible apply Blk.alloc))
    all_goals rfl
  · go_light
    refine Kept.below (S := fun i => w.heap.size ≤ i) ?_ (Nat.le_refl _) (fun i h => h)
    repeat (first | (with_reducible exact Kept.refl _ _) | ((with_reducible apply Kept.setNew); omega) | (with_reducible apply Kept.alloc))

set_option maxHeartbeats 2000000 in
theorem refFill_nearLe (r s lv t now : Int) (w : World) (r0 : 0 ≤ r) (r1 : r ≤ 2147483648) (s1 : s ≤ 2147483648) (l0 : 0 ≤ lv) (l1 : lv ≤ s) (t0 : 0 ≤ t) (t1 : t < 18446744073709551616) (n0 : 0 ≤ now) (n1 : now < 18446744073709551616) (L T2 : Int) (hL : fillL r s lv t now = L) (hT : fillT t now = T2) (h : t < now) (hp : ¬ 2147483648 < now - t) (hc : ¬ s < lv + (now - t) * r) : Calls Try.prog 10 #[.agg #[.int .u64 r, .int .u64 s, .int .u64 lv, .int .u64 t], .int .u64 now] w fun e w' => e = .returned (.agg #[.int .u64 r, .int .u64 s, .int .u64 L, .int .u64 T2]) ∧ Below w.heap.size w w' := by
  have HL := Lib.hid (show L = lv + (now - t) * r by
    have hm : min (now - t) 2147483648 = (now - t) := by omega
    rw [← hL, fillL, if_neg (by omega), hm, Int.mul_comm r]; omega)
  have HT := Lib.hid (show T2 = now by rw [← hT, fillT, if_neg (by omega)])
  have hP := mul_le (r := r) (p := (now - t)) (b := 2147483648) r0 r1 (by omega) (by omega)
  rw [Int.mul_comm r] at hP
  obtain ⟨hP0, hP1⟩ := hP
  have hn : ¬ now ≤ t := by omega
  clear hL hT
  go_enter Try.func10, Try.ntmps10
  go_wp2
  refine bodyPost_ret (results_blk1 (P := Try.prog) Try.results10 _ _ (w.heap.size + 1) 37 #[.int .u64 r, .int .u64 s, .int .u64 (lv + (now - t) * r), .int .u64 now] _ rfl ?_ Try.underlying37 rfl (by kernel_rfl)) rfl ⟨by rw [HL.out, HT.out], ?_⟩
  · go_light
    repeat (first | (with_reducible exact Blk.new_ (by simp) _ _) | (with_reducible apply Blk.set_to) | ((with_reducible apply Blk.far'); omega) | (with_reducible apply Blk.alloc))
    all_goals rfl
  · go_light
    refine Kept.below (S := fun i => w.heap.size ≤ i) ?_ (Nat.le_refl _) (fun i h => h)
    repeat (first | (with_reducible exact Kept.refl _ _) | ((with_reducible apply Kept.setNew); omega) | (with_reducible apply Kept.alloc))

set_option maxHeartbeats 2000000 in
theorem refFill_nearGt (r s lv t now : Int) (w : World) (r0 : 0 ≤ r) (r1 : r ≤ 2147483648) (s1 : s ≤ 2147483648) (l0 : 0 ≤ lv) (l1 : lv ≤ s) (t0 : 0 ≤ t) (t1 : t < 18446744073709551616) (n0 : 0 ≤ now) (n1 : now < 18446744073709551616) (L T2 : Int) (hL : fillL r s lv t now = L) (hT : fillT t now = T2) (h : t < now) (hp : ¬ 2147483648 < now - t) (hc : s < lv + (now - t) * r) : Calls Try.prog 10 #[.agg #[.int .u64 r, .int .u64 s, .int .u64 lv, .int .u64 t], .int .u64 now] w fun e w' => e = .returned (.agg #[.int .u64 r, .int .u64 s, .int .u64 L, .int .u64 T2]) ∧ Below w.heap.size w w' := by
  have HL := Lib.hid (show L = s by
    have hm : min (now - t) 2147483648 = (now - t) := by omega
    rw [← hL, fillL, if_neg (by omega), hm, Int.mul_comm r]; omega)
  have HT := Lib.hid (show T2 = now by rw [← hT, fillT, if_neg (by omega)])
  have hP := mul_le (r := r) (p := (now - t)) (b := 2147483648) r0 r1 (by omega) (by omega)
  rw [Int.mul_comm r] at hP
  obtain ⟨hP0, hP1⟩ := hP
  have hn : ¬ now ≤ t := by omega
  clear hL hT
  go_enter Try.func10, Try.ntmps10
  go_wp2
  refine bodyPost_ret (results_blk1 (P := Try.prog) Try.results10 _ _ (w.heap.size + 1) 37 #[.int .u64 r, .int .u64 s, .int .u64 (s), .int .u64 now] _ rfl ?_ Try.underlying37 rfl (by kernel_rfl)) rfl ⟨by rw [HL.out, HT.out], ?_⟩
  · go_light
    repeat (first | (with_reducible exact Blk.new_ (by simp) _ _) | (with_reducible apply Blk.set_to) | ((with_reducible apply Blk.far'); omega) | (with_reducible apply Blk.alloc))
    all_goals rfl
  · go_light
    refine Kept.below (S := fun i => w.heap.size ≤ i) ?_ (Nat.le_refl _) (fun i h => h)
    repeat (first | (with_reducible exact Kept.refl _ _) | ((with_reducible apply Kept.setNew); omega) | (with_reducible apply Kept.alloc))

theorem refFill_any (r s lv t now : Int) (w : World) (r0 : 0 ≤ r) (r1 : r ≤ 2147483648) (s1 : s ≤ 2147483648) (l0 : 0 ≤ lv) (l1 : lv ≤ s) (t0 : 0 ≤ t) (t1 : t < 18446744073709551616) (n0 : 0 ≤ now) (n1 : now < 18446744073709551616) (L T2 : Int) (hL : fillL r s lv t now = L) (hT : fillT t now = T2) : Calls Try.prog 10 #[.agg #[.int .u64 r, .int .u64 s, .int .u64 lv, .int .u64 t], .int .u64 now] w fun e w' => e = .returned (.agg #[.int .u64 r, .int .u64 s, .int .u64 L, .int .u64 T2]) ∧ Below w.heap.size w w' := by
  by_cases h : now ≤ t
  · exact refFill_old r s lv t now w r0 r1 s1 l0 l1 t0 t1 n0 n1 L T2 hL hT h
  · by_cases hp : 2147483648 < now - t
    · by_cases hc : s < lv + 2147483648 * r
      · exact refFill_farGt r s lv t now w r0 r1 s1 l0 l1 t0 t1 n0 n1 L T2 hL hT (by omega) hp hc
      · exact refFill_farLe r s lv t now w r0 r1 s1 l0 l1 t0 t1 n0 n1 L T2 hL hT (by omega) hp hc
    · by_cases hc : s < lv + (now - t) * r
      · exact refFill_nearGt r s lv t now w r0 r1 s1 l0 l1 t0 t1 n0 n1 L T2 hL hT (by omega) hp hc
      · exact refFill_nearLe r s lv t now w r0 r1 s1 l0 l1 t0 t1 n0 n1 L T2 hL hT (by omega) hp hc

set_option maxHeartbeats 2000000 in
theorem refTake_yes (r s lv t now : Int) (w : World) (r0 : 0 ≤ r) (r1 : r ≤ 2147483648) (s1 : s ≤ 2147483648) (l0 : 0 ≤ lv) (l1 : lv ≤ s) (t0 : 0 ≤ t) (t1 : t < 18446744073709551616) (n0 : 0 ≤ now) (n1 : now < 18446744073709551616) (L T2 : Int) (hL : fillL r s lv t now = L) (hT : fillT t now = T2) (n : Int) (m0 : 0 ≤ n) (hn : n ≤ L) :
    Calls Try.prog 11 #[.agg #[.int .u64 r, .int .u64 s, .int .u64 lv, .int .u64 t], .int .u64 n, .int .u64 now] w fun e w' => e = .returned (.tuple #[.agg #[.int .u64 r, .int .u64 s, .int .u64 (L - n), .int .u64 T2], .bool true]) ∧ Below w.heap.size w w' := by
  have hr := fillL_range (t := t) (now := now) r0 l0 l1
  rw [hL] at hr
  obtain ⟨L0, L1⟩ := hr
  have H := Lib.hid (fun W => refFill_any r s lv t now W r0 r1 s1 l0 l1 t0 t1 n0 n1 L T2 hL hT)
  clear hL hT
  go_enter Try.func11, Try.ntmps11
  go_wp2_with fail
  refine (H.out _).mono ?_
  rintro e w1 ⟨rfl, hb⟩
  have hA : Blk w1 w.heap.size 37 _ := ((Blk.new _ _ _).alloc _).below hb (by simp; omega)
  have hR : Blk w1 (w.heap.size + 1) 37 _ := (Blk.new_ (by simp) _ _).below hb (by simp)
  have cA := hA.cell
  have fA := hA.frozen
  have cR := hR.cell
  have fR := hR.frozen
  have HA := Lib.hid hA
  have HR := Lib.hid hR
  have hs : w.heap.size + 2 ≤ w1.heap.size := by have := hb.size; simpa using this
  have HK := Lib.hid ((((Kept.refl (fun i => w.heap.size ≤ i) w).alloc _).alloc _).then (Kept.of_below (S := fun i => w.heap.size ≤ i) hb (fun i _ h => by simp at h; omega)) (fun i _ h => h))
  clear hA hR hb
  go_upto_region 2 with fail
  have hA2 : Blk ((((w1.setCell ⟨w.heap.size, 0, none⟩ (.int .u64 r)).setCell ⟨w.heap.size, 1, none⟩ (.int .u64 s)).setCell ⟨w.heap.size, 2, none⟩ (.int .u64 L)).setCell ⟨w.heap.size, 3, none⟩ (.int .u64 T2)) w.heap.size 37 #[.int .u64 r, .int .u64 s, .int .u64 L, .int .u64 T2] := (((HA.out.set_ _ _).set_ _ _).set_ _ _).set_to rfl
  have hR2 : Blk ((((w1.setCell ⟨w.heap.size, 0, none⟩ (.int .u64 r)).setCell ⟨w.heap.size, 1, none⟩ (.int .u64 s)).setCell ⟨w.heap.size, 2, none⟩ (.int .u64 L)).setCell ⟨w.heap.size, 3, none⟩ (.int .u64 T2)) (w.heap.size + 1) 37 _ := (((HR.out.far' (by omega)).far' (by omega)).far' (by omega)).far' (by omega)
  have hK2 : Kept (fun i => w.heap.size ≤ i) w ((((w1.setCell ⟨w.heap.size, 0, none⟩ (.int .u64 r)).setCell ⟨w.heap.size, 1, none⟩ (.int .u64 s)).setCell ⟨w.heap.size, 2, none⟩ (.int .u64 L)).setCell ⟨w.heap.size, 3, none⟩ (.int .u64 T2)) := (((HK.out.setNew (Nat.le_refl _)).setNew (Nat.le_refl _)).setNew (Nat.le_refl _)).setNew (Nat.le_refl _)
  have hs2 : ((((w1.setCell ⟨w.heap.size, 0, none⟩ (.int .u64 r)).setCell ⟨w.heap.size, 1, none⟩ (.int .u64 s)).setCell ⟨w.heap.size, 2, none⟩ (.int .u64 L)).setCell ⟨w.heap.size, 3, none⟩ (.int .u64 T2)).heap.size = w1.heap.size := by simp [World.setCell]
  generalize (((w1.setCell ⟨w.heap.size, 0, none⟩ (.int .u64 r)).setCell ⟨w.heap.size, 1, none⟩ (.int .u64 s)).setCell ⟨w.heap.size, 2, none⟩ (.int .u64 L)).setCell ⟨w.heap.size, 3, none⟩ (.int .u64 T2) = w2 at hA2 hR2 hK2 hs2 ⊢
  rw [← hs2] at hs
  clear cA fA cR fR HA HR HK hs2
  have cA := hA2.cell
  have fA := hA2.frozen
  have cR := hR2.cell
  have fR := hR2.frozen
  have HR := Lib.hid hR2
  have HK := Lib.hid hK2
  clear hA2 hR2 hK2
  go_wp2_with fail
  refine bodyPost_ret (results_blk_tmp (P := Try.prog) Try.results11 _ _ (w.heap.size + 1) 37 #[.int .u64 r, .int .u64 s, .int .u64 (L - n), .int .u64 T2] _ rfl ?_ Try.underlying37 rfl (by kernel_rfl)) rfl ⟨rfl, ?_⟩
  · go_light
    repeat (first | (with_reducible apply Blk.set_to) | ((with_reducible apply Blk.far'); omega))
    exact HR.out
    all_goals rfl
  · go_light
    refine Kept.below (S := fun i => w.heap.size ≤ i) ?_ (Nat.le_refl _) (fun i h => h)
    repeat (first | ((with_reducible apply Kept.setNew); omega))
    exact HK.out
set_option maxHeartbeats 2000000 in
theorem refTake_no (r s lv t now : Int) (w : World) (r0 : 0 ≤ r) (r1 : r ≤ 2147483648) (s1 : s ≤ 2147483648) (l0 : 0 ≤ lv) (l1 : lv ≤ s) (t0 : 0 ≤ t) (t1 : t < 18446744073709551616) (n0 : 0 ≤ now) (n1 : now < 18446744073709551616) (L T2 : Int) (hL : fillL r s lv t now = L) (hT : fillT t now = T2) (n : Int) (hn : L < n) :
    Calls Try.prog 11 #[.agg #[.int .u64 r, .int .u64 s, .int .u64 lv, .int .u64 t], .int .u64 n, .int .u64 now] w fun e w' => e = .returned (.tuple #[.agg #[.int .u64 r, .int .u64 s, .int .u64 L, .int .u64 T2], .bool false]) ∧ Below w.heap.size w w' := by
  have H := Lib.hid (fun W => refFill_any r s lv t now W r0 r1 s1 l0 l1 t0 t1 n0 n1 L T2 hL hT)
  clear hL hT
  go_enter Try.func11, Try.ntmps11
  go_wp2_with fail
  refine (H.out _).mono ?_
  rintro e w1 ⟨rfl, hb⟩
  have hA : Blk w1 w.heap.size 37 _ := ((Blk.new _ _ _).alloc _).below hb (by simp; omega)
  have hR : Blk w1 (w.heap.size + 1) 37 _ := (Blk.new_ (by simp) _ _).below hb (by simp)
  have cA := hA.cell
  have fA := hA.frozen
  have cR := hR.cell
  have fR := hR.frozen
  have HA := Lib.hid hA
  have HR := Lib.hid hR
  have hs : w.heap.size + 2 ≤ w1.heap.size := by have := hb.size; simpa using this
  have HK := Lib.hid ((((Kept.refl (fun i => w.heap.size ≤ i) w).alloc _).alloc _).then (Kept.of_below (S := fun i => w.heap.size ≤ i) hb (fun i _ h => by simp at h; omega)) (fun i _ h => h))
  clear hA hR hb
  go_upto_region 2 with fail
  have hA2 : Blk ((((w1.setCell ⟨w.heap.size, 0, none⟩ (.int .u64 r)).setCell ⟨w.heap.size, 1, none⟩ (.int .u64 s)).setCell ⟨w.heap.size, 2, none⟩ (.int .u64 L)).setCell ⟨w.heap.size, 3, none⟩ (.int .u64 T2)) w.heap.size 37 #[.int .u64 r, .int .u64 s, .int .u64 L, .int .u64 T2] := (((HA.out.set_ _ _).set_ _ _).set_ _ _).set_to rfl
  have hR2 : Blk ((((w1.setCell ⟨w.heap.size, 0, none⟩ (.int .u64 r)).setCell ⟨w.heap.size, 1, none⟩ (.int .u64 s)).setCell ⟨w.heap.size, 2, none⟩ (.int .u64 L)).setCell ⟨w.heap.size, 3, none⟩ (.int .u64 T2)) (w.heap.size + 1) 37 _ := (((HR.out.far' (by omega)).far' (by omega)).far' (by omega)).far' (by omega)
  have hK2 : Kept (fun i => w.heap.size ≤ i) w ((((w1.setCell ⟨w.heap.size, 0, none⟩ (.int .u64 r)).setCell ⟨w.heap.size, 1, none⟩ (.int .u64 s)).setCell ⟨w.heap.size, 2, none⟩ (.int .u64 L)).setCell ⟨w.heap.size, 3, none⟩ (.int .u64 T2)) := (((HK.out.setNew (Nat.le_refl _)).setNew (Nat.le_refl _)).setNew (Nat.le_refl _)).setNew (Nat.le_refl _)
  have hs2 : ((((w1.setCell ⟨w.heap.size, 0, none⟩ (.int .u64 r)).setCell ⟨w.heap.size, 1, none⟩ (.int .u64 s)).setCell ⟨w.heap.size, 2, none⟩ (.int .u64 L)).setCell ⟨w.heap.size, 3, none⟩ (.int .u64 T2)).heap.size = w1.heap.size := by simp [World.setCell]
  generalize (((w1.setCell ⟨w.heap.size, 0, none⟩ (.int .u64 r)).setCell ⟨w.heap.size, 1, none⟩ (.int .u64 s)).setCell ⟨w.heap.size, 2, none⟩ (.int .u64 L)).setCell ⟨w.heap.size, 3, none⟩ (.int .u64 T2) = w2 at hA2 hR2 hK2 hs2 ⊢
  rw [← hs2] at hs
  clear cA fA cR fR HA HR HK hs2
  have cA := hA2.cell
  have fA := hA2.frozen
  have cR := hR2.cell
  have fR := hR2.frozen
  have HR := Lib.hid hR2
  have HK := Lib.hid hK2
  clear hA2 hR2 hK2
  go_wp2_with fail
  refine bodyPost_ret (results_blk_tmp (P := Try.prog) Try.results11 _ _ (w.heap.size + 1) 37 #[.int .u64 r, .int .u64 s, .int .u64 L, .int .u64 T2] _ rfl ?_ Try.underlying37 rfl (by kernel_rfl)) rfl ⟨rfl, ?_⟩
  · go_light
    repeat (first | (with_reducible apply Blk.set_to) | ((with_reducible apply Blk.far'); omega))
    exact HR.out
    all_goals rfl
  · go_light
    refine Kept.below (S := fun i => w.heap.size ≤ i) ?_ (Nat.le_refl _) (fun i h => h)
    repeat (first | ((with_reducible apply Kept.setNew); omega))
    exact HK.out
end Go.Proofs.Ytcpiohmgnlapiaa
