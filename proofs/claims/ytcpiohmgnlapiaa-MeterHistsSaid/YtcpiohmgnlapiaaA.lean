import Derived.Test.YtcpiohmgnlapiaaRows
import Derived.Test.YtcpiohmgnlapiaaBase
import Derived.Test.YtcpiohmgnlapiaaPlain
import Derived.Outline
import Derived.Deep.Light
import Derived.StillTailTactics
import Derived.Deep.QuietTactic
import Derived.BigQuiet
namespace Go.Proofs.Ytcpiohmgnlapiaa
open Go.RowKit
set_option linter.unusedVariables false


set_option maxHeartbeats 2000000 in
theorem refill_old (bb : Nat) (r s lv t now : Int) (w : World) (r0 : 0 ≤ r) (r1 : r ≤ 2147483648) (s1 : s ≤ 2147483648) (l0 : 0 ≤ lv) (l1 : lv ≤ s) (t0 : 0 ≤ t) (t1 : t < 18446744073709551616) (n0 : 0 ≤ now) (n1 : now < 18446744073709551616) (hB : Blk w bb 55 #[.int .u64 r, .int .u64 s, .int .u64 lv, .int .u64 t]) (h : now ≤ t) :
    Calls Try.prog 17 #[.pointer (some ⟨bb, 0, none⟩), .int .u64 now] w fun e w' => (∃ v, e = .returned v) ∧ Blk w' bb 55 #[.int .u64 r, .int .u64 s, .int .u64 (fillL r s lv t now), .int .u64 (fillT t now)] ∧ Kept (· = bb) w w' := by
  have HL := Lib.hid (show fillL r s lv t now = lv by rw [fillL, if_pos h])
  have HT := Lib.hid (show fillT t now = t by rw [fillT, if_pos h])
  have c := hB.cell
  have H := Lib.hid hB
  clear hB
  go_enter Try.func17, Try.ntmps17
  go_wp2
  refine bodyPost_ret (results_none rfl _ _ _) rfl ?_
  exact ⟨⟨_, rfl⟩, by rw [HL.out, HT.out]; exact H.out, Kept.refl _ _⟩

set_option maxHeartbeats 2000000 in
theorem refill_farLe (bb : Nat) (r s lv t now : Int) (w : World) (r0 : 0 ≤ r) (r1 : r ≤ 2147483648) (s1 : s ≤ 2147483648) (l0 : 0 ≤ lv) (l1 : lv ≤ s) (t0 : 0 ≤ t) (t1 : t < 18446744073709551616) (n0 : 0 ≤ now) (n1 : now < 18446744073709551616) (hB : Blk w bb 55 #[.int .u64 r, .int .u64 s, .int .u64 lv, .int .u64 t]) (h : t < now) (hp : 2147483648 < now - t) (hc : ¬ s < lv + r * 2147483648) :
    Calls Try.prog 17 #[.pointer (some ⟨bb, 0, none⟩), .int .u64 now] w fun e w' => (∃ v, e = .returned v) ∧ Blk w' bb 55 #[.int .u64 r, .int .u64 s, .int .u64 (fillL r s lv t now), .int .u64 (fillT t now)] ∧ Kept (· = bb) w w' := by
  have HL := Lib.hid (show fillL r s lv t now = lv + r * 2147483648 by
    have hm : min (now - t) 2147483648 = 2147483648 := by omega
    rw [fillL, if_neg (by omega), hm]; omega)
  have HT := Lib.hid (show fillT t now = now by rw [fillT, if_neg (by omega)])
  have hP := mul_le (b := 2147483648) r0 r1 (show 0 ≤ 2147483648 by omega) (by omega)
  have k1 : IntKind.u64.wrap (r * 2147483648) = r * 2147483648 := IntWalk.u64_in _ (by omega)
  have k2 : IntKind.u64.wrap (lv + r * 2147483648) = lv + r * 2147483648 := IntWalk.u64_in _ (by omega)
  have hn : ¬ now ≤ t := by omega
  have c := hB.cell
  have f := hB.frozen
  have H := Lib.hid hB
  clear hB
  go_enter Try.func17, Try.ntmps17
  go_wp2
  go_still_tail 19, (by kernel_rfl)
  go_wp2
  go_end0
  refine ⟨⟨_, rfl⟩, ?_, ?_⟩
  · rw [HL.out, HT.out]
    go_light
    repeat (first | (with_reducible apply Blk.set_to) | ((with_reducible apply Blk.far'); omega) | (with_reducible apply Blk.drew) | (with_reducible apply Blk.drewN) | (with_reducible apply Blk.alloc))
    exact H.out
    all_goals rfl
  · go_light
    repeat (first | (with_reducible exact Kept.refl _ _) | ((with_reducible apply Kept.setIn); rfl) | (with_reducible apply Kept.drew) | (with_reducible apply Kept.drewN))

set_option maxHeartbeats 2000000 in
theorem refill_farGt (bb : Nat) (r s lv t now : Int) (w : World) (r0 : 0 ≤ r) (r1 : r ≤ 2147483648) (s1 : s ≤ 2147483648) (l0 : 0 ≤ lv) (l1 : lv ≤ s) (t0 : 0 ≤ t) (t1 : t < 18446744073709551616) (n0 : 0 ≤ now) (n1 : now < 18446744073709551616) (hB : Blk w bb 55 #[.int .u64 r, .int .u64 s, .int .u64 lv, .int .u64 t]) (h : t < now) (hp : 2147483648 < now - t) (hc : s < lv + r * 2147483648) :
    Calls Try.prog 17 #[.pointer (some ⟨bb, 0, none⟩), .int .u64 now] w fun e w' => (∃ v, e = .returned v) ∧ Blk w' bb 55 #[.int .u64 r, .int .u64 s, .int .u64 (fillL r s lv t now), .int .u64 (fillT t now)] ∧ Kept (· = bb) w w' := by
  have HL := Lib.hid (show fillL r s lv t now = s by
    have hm : min (now - t) 2147483648 = 2147483648 := by omega
    rw [fillL, if_neg (by omega), hm]; omega)
  have HT := Lib.hid (show fillT t now = now by rw [fillT, if_neg (by omega)])
  have hP := mul_le (b := 2147483648) r0 r1 (show 0 ≤ 2147483648 by omega) (by omega)
  have k1 : IntKind.u64.wrap (r * 2147483648) = r * 2147483648 := IntWalk.u64_in _ (by omega)
  have k2 : IntKind.u64.wrap (lv + r * 2147483648) = lv + r * 2147483648 := IntWalk.u64_in _ (by omega)
  have hn : ¬ now ≤ t := by omega
  have c := hB.cell
  have f := hB.frozen
  have H := Lib.hid hB
  clear hB
  go_enter Try.func17, Try.ntmps17
  go_wp2
  go_still_tail 19, (by kernel_rfl)
  go_wp2
  go_end0
  refine ⟨⟨_, rfl⟩, ?_, ?_⟩
  · rw [HL.out, HT.out]
    go_light
    repeat (first | (with_reducible apply Blk.set_to) | ((with_reducible apply Blk.far'); omega) | (with_reducible apply Blk.drew) | (with_reducible apply Blk.drewN) | (with_reducible apply Blk.alloc))
    exact H.out
    all_goals rfl
  · go_light
    repeat (first | (with_reducible exact Kept.refl _ _) | ((with_reducible apply Kept.setIn); rfl) | (with_reducible apply Kept.drew) | (with_reducible apply Kept.drewN))

set_option maxHeartbeats 2000000 in
theorem refill_nearLe (bb : Nat) (r s lv t now : Int) (w : World) (r0 : 0 ≤ r) (r1 : r ≤ 2147483648) (s1 : s ≤ 2147483648) (l0 : 0 ≤ lv) (l1 : lv ≤ s) (t0 : 0 ≤ t) (t1 : t < 18446744073709551616) (n0 : 0 ≤ now) (n1 : now < 18446744073709551616) (hB : Blk w bb 55 #[.int .u64 r, .int .u64 s, .int .u64 lv, .int .u64 t]) (h : t < now) (hp : ¬ 2147483648 < now - t) (hc : ¬ s < lv + r * (now - t)) :
    Calls Try.prog 17 #[.pointer (some ⟨bb, 0, none⟩), .int .u64 now] w fun e w' => (∃ v, e = .returned v) ∧ Blk w' bb 55 #[.int .u64 r, .int .u64 s, .int .u64 (fillL r s lv t now), .int .u64 (fillT t now)] ∧ Kept (· = bb) w w' := by
  have HL := Lib.hid (show fillL r s lv t now = lv + r * (now - t) by
    have hm : min (now - t) 2147483648 = (now - t) := by omega
    rw [fillL, if_neg (by omega), hm]; omega)
  have HT := Lib.hid (show fillT t now = now by rw [fillT, if_neg (by omega)])
  have hP := mul_le (b := 2147483648) r0 r1 (show 0 ≤ (now - t) by omega) (by omega)
  have k1 : IntKind.u64.wrap (r * (now - t)) = r * (now - t) := IntWalk.u64_in _ (by omega)
  have k2 : IntKind.u64.wrap (lv + r * (now - t)) = lv + r * (now - t) := IntWalk.u64_in _ (by omega)
  have hn : ¬ now ≤ t := by omega
  have c := hB.cell
  have f := hB.frozen
  have H := Lib.hid hB
  clear hB
  go_enter Try.func17, Try.ntmps17
  go_wp2
  go_still_tail 19, (by kernel_rfl)
  go_wp2
  go_end0
  refine ⟨⟨_, rfl⟩, ?_, ?_⟩
  · rw [HL.out, HT.out]
    go_light
    repeat (first | (with_reducible apply Blk.set_to) | ((with_reducible apply Blk.far'); omega) | (with_reducible apply Blk.drew) | (with_reducible apply Blk.drewN) | (with_reducible apply Blk.alloc))
    exact H.out
    all_goals rfl
  · go_light
    repeat (first | (with_reducible exact Kept.refl _ _) | ((with_reducible apply Kept.setIn); rfl) | (with_reducible apply Kept.drew) | (with_reducible apply Kept.drewN))

set_option maxHeartbeats 2000000 in
theorem refill_nearGt (bb : Nat) (r s lv t now : Int) (w : World) (r0 : 0 ≤ r) (r1 : r ≤ 2147483648) (s1 : s ≤ 2147483648) (l0 : 0 ≤ lv) (l1 : lv ≤ s) (t0 : 0 ≤ t) (t1 : t < 18446744073709551616) (n0 : 0 ≤ now) (n1 : now < 18446744073709551616) (hB : Blk w bb 55 #[.int .u64 r, .int .u64 s, .int .u64 lv, .int .u64 t]) (h : t < now) (hp : ¬ 2147483648 < now - t) (hc : s < lv + r * (now - t)) :
    Calls Try.prog 17 #[.pointer (some ⟨bb, 0, none⟩), .int .u64 now] w fun e w' => (∃ v, e = .returned v) ∧ Blk w' bb 55 #[.int .u64 r, .int .u64 s, .int .u64 (fillL r s lv t now), .int .u64 (fillT t now)] ∧ Kept (· = bb) w w' := by
  have HL := Lib.hid (show fillL r s lv t now = s by
    have hm : min (now - t) 2147483648 = (now - t) := by omega
    rw [fillL, if_neg (by omega), hm]; omega)
  have HT := Lib.hid (show fillT t now = now by rw [fillT, if_neg (by omega)])
  have hP := mul_le (b := 2147483648) r0 r1 (show 0 ≤ (now - t) by omega) (by omega)
  have k1 : IntKind.u64.wrap (r * (now - t)) = r * (now - t) := IntWalk.u64_in _ (by omega)
  have k2 : IntKind.u64.wrap (lv + r * (now - t)) = lv + r * (now - t) := IntWalk.u64_in _ (by omega)
  have hn : ¬ now ≤ t := by omega
  have c := hB.cell
  have f := hB.frozen
  have H := Lib.hid hB
  clear hB
  go_enter Try.func17, Try.ntmps17
  go_wp2
  go_still_tail 19, (by kernel_rfl)
  go_wp2
  go_end0
  refine ⟨⟨_, rfl⟩, ?_, ?_⟩
  · rw [HL.out, HT.out]
    go_light
    repeat (first | (with_reducible apply Blk.set_to) | ((with_reducible apply Blk.far'); omega) | (with_reducible apply Blk.drew) | (with_reducible apply Blk.drewN) | (with_reducible apply Blk.alloc))
    exact H.out
    all_goals rfl
  · go_light
    repeat (first | (with_reducible exact Kept.refl _ _) | ((with_reducible apply Kept.setIn); rfl) | (with_reducible apply Kept.drew) | (with_reducible apply Kept.drewN))

theorem refill_any (bb : Nat) (r s lv t now : Int) (w : World) (r0 : 0 ≤ r) (r1 : r ≤ 2147483648) (s1 : s ≤ 2147483648) (l0 : 0 ≤ lv) (l1 : lv ≤ s) (t0 : 0 ≤ t) (t1 : t < 18446744073709551616) (n0 : 0 ≤ now) (n1 : now < 18446744073709551616) (hB : Blk w bb 55 #[.int .u64 r, .int .u64 s, .int .u64 lv, .int .u64 t]) :
    Calls Try.prog 17 #[.pointer (some ⟨bb, 0, none⟩), .int .u64 now] w fun e w' => (∃ v, e = .returned v) ∧ Blk w' bb 55 #[.int .u64 r, .int .u64 s, .int .u64 (fillL r s lv t now), .int .u64 (fillT t now)] ∧ Kept (· = bb) w w' := by
  by_cases h : now ≤ t
  · exact refill_old bb r s lv t now w r0 r1 s1 l0 l1 t0 t1 n0 n1 hB h
  · by_cases hp : 2147483648 < now - t
    · by_cases hc : s < lv + r * 2147483648
      · exact refill_farGt bb r s lv t now w r0 r1 s1 l0 l1 t0 t1 n0 n1 hB (by omega) hp hc
      · exact refill_farLe bb r s lv t now w r0 r1 s1 l0 l1 t0 t1 n0 n1 hB (by omega) hp hc
    · by_cases hc : s < lv + r * (now - t)
      · exact refill_nearGt bb r s lv t now w r0 r1 s1 l0 l1 t0 t1 n0 n1 hB (by omega) hp hc
      · exact refill_nearLe bb r s lv t now w r0 r1 s1 l0 l1 t0 t1 n0 n1 hB (by omega) hp hc

theorem refill_to (bb : Nat) (r s lv t now : Int) (w : World) (r0 : 0 ≤ r) (r1 : r ≤ 2147483648) (s1 : s ≤ 2147483648) (l0 : 0 ≤ lv) (l1 : lv ≤ s) (t0 : 0 ≤ t) (t1 : t < 18446744073709551616) (n0 : 0 ≤ now) (n1 : now < 18446744073709551616) (hB : Blk w bb 55 #[.int .u64 r, .int .u64 s, .int .u64 lv, .int .u64 t]) (L T2 : Int) (hL : fillL r s lv t now = L) (hT : fillT t now = T2) :
    Calls Try.prog 17 #[.pointer (some ⟨bb, 0, none⟩), .int .u64 now] w fun e w' => (∃ v, e = .returned v) ∧ Blk w' bb 55 #[.int .u64 r, .int .u64 s, .int .u64 L, .int .u64 T2] ∧ Kept (· = bb) w w' := by
  subst hL hT; exact refill_any bb r s lv t now w r0 r1 s1 l0 l1 t0 t1 n0 n1 hB

set_option maxHeartbeats 2000000 in
theorem take_yes (bb : Nat) (r s lv t now : Int) (w : World) (r0 : 0 ≤ r) (r1 : r ≤ 2147483648) (s1 : s ≤ 2147483648) (l0 : 0 ≤ lv) (l1 : lv ≤ s) (t0 : 0 ≤ t) (t1 : t < 18446744073709551616) (n0 : 0 ≤ now) (n1 : now < 18446744073709551616) (hB : Blk w bb 55 #[.int .u64 r, .int .u64 s, .int .u64 lv, .int .u64 t]) (n L T2 : Int) (m0 : 0 ≤ n) (hL : fillL r s lv t now = L) (hT : fillT t now = T2) (hn : n ≤ L) :
    Calls Try.prog 8 #[.pointer (some ⟨bb, 0, none⟩), .int .u64 n, .int .u64 now] w fun e w' => e = .returned (.bool true) ∧ Blk w' bb 55 #[.int .u64 r, .int .u64 s, .int .u64 (L - n), .int .u64 T2] ∧ Kept (· = bb) w w' := by
  have hr := fillL_range (t := t) (now := now) r0 l0 l1
  rw [hL] at hr
  obtain ⟨L0, L1⟩ := hr
  have H := Lib.hid (refill_to bb r s lv t now w r0 r1 s1 l0 l1 t0 t1 n0 n1 hB L T2 hL hT)
  clear hB hL hT
  go_enter Try.func8, Try.ntmps8
  go_wp2_with fail
  refine H.out.mono ?_
  rintro e w1 ⟨⟨v, rfl⟩, hB, hK⟩
  have c := hB.cell
  have f := hB.frozen
  have HB := Lib.hid hB
  have HK := Lib.hid hK
  clear hB hK
  go_wp2_with fail
  go_ret
  go_light
  refine ⟨rfl, ?_, HK.out.setIn rfl⟩
  exact HB.out.set_to rfl

set_option maxHeartbeats 2000000 in
theorem take_no (bb : Nat) (r s lv t now : Int) (w : World) (r0 : 0 ≤ r) (r1 : r ≤ 2147483648) (s1 : s ≤ 2147483648) (l0 : 0 ≤ lv) (l1 : lv ≤ s) (t0 : 0 ≤ t) (t1 : t < 18446744073709551616) (n0 : 0 ≤ now) (n1 : now < 18446744073709551616) (hB : Blk w bb 55 #[.int .u64 r, .int .u64 s, .int .u64 lv, .int .u64 t]) (n L T2 : Int) (hL : fillL r s lv t now = L) (hT : fillT t now = T2) (hn : L < n) :
    Calls Try.prog 8 #[.pointer (some ⟨bb, 0, none⟩), .int .u64 n, .int .u64 now] w fun e w' => e = .returned (.bool false) ∧ Blk w' bb 55 #[.int .u64 r, .int .u64 s, .int .u64 L, .int .u64 T2] ∧ Kept (· = bb) w w' := by
  have H := Lib.hid (refill_to bb r s lv t now w r0 r1 s1 l0 l1 t0 t1 n0 n1 hB L T2 hL hT)
  clear hB hL hT
  go_enter Try.func8, Try.ntmps8
  go_wp2_with fail
  refine H.out.mono ?_
  rintro e w1 ⟨⟨v, rfl⟩, hB, hK⟩
  have c := hB.cell
  have HB := Lib.hid hB
  have HK := Lib.hid hK
  clear hB hK
  go_wp2_with fail
  go_ret
  exact ⟨rfl, HB.out, HK.out⟩
set_option maxHeartbeats 2000000 in
theorem level_any (bb : Nat) (r s lv t now : Int) (w : World) (r0 : 0 ≤ r) (r1 : r ≤ 2147483648) (s1 : s ≤ 2147483648) (l0 : 0 ≤ lv) (l1 : lv ≤ s) (t0 : 0 ≤ t) (t1 : t < 18446744073709551616) (n0 : 0 ≤ now) (n1 : now < 18446744073709551616) (hB : Blk w bb 55 #[.int .u64 r, .int .u64 s, .int .u64 lv, .int .u64 t]) (L T2 : Int) (hL : fillL r s lv t now = L) (hT : fillT t now = T2) :
    Calls Try.prog 9 #[.pointer (some ⟨bb, 0, none⟩), .int .u64 now] w fun e w' => e = .returned (.int .u64 L) ∧ Blk w' bb 55 #[.int .u64 r, .int .u64 s, .int .u64 L, .int .u64 T2] ∧ Kept (· = bb) w w' := by
  have H := Lib.hid (refill_to bb r s lv t now w r0 r1 s1 l0 l1 t0 t1 n0 n1 hB L T2 hL hT)
  clear hB hL hT
  go_enter Try.func9, Try.ntmps9
  go_wp2_with fail
  refine H.out.mono ?_
  rintro e w1 ⟨⟨v, rfl⟩, hB, hK⟩
  have c := hB.cell
  have HB := Lib.hid hB
  have HK := Lib.hid hK
  clear hB hK
  go_wp2_with fail
  go_ret
  exact ⟨rfl, HB.out, HK.out⟩
theorem take_nil (n now : Int) (w : World) : Calls Try.prog 8 #[.pointer none, .int .u64 n, .int .u64 now] w fun e w' => e = .returned (.bool false) ∧ w = w' := by
  go_enter Try.func8, Try.ntmps8
  go_wp2_with fail
  go_ret
  exact ⟨rfl, rfl⟩
theorem level_nil (now : Int) (w : World) : Calls Try.prog 9 #[.pointer none, .int .u64 now] w fun e w' => e = .returned (.int .u64 0) ∧ w = w' := by
  go_enter Try.func9, Try.ntmps9
  go_wp2_with fail
  go_ret
  exact ⟨rfl, rfl⟩
theorem new_ok (r s : Int) (w : World) (r1 : r ≤ 2147483648) (s0 : 1 ≤ s) (s1 : s ≤ 2147483648) :
    Calls Try.prog 7 #[.int .u64 r, .int .u64 s] w fun e w' => e = .returned (.tuple #[.pointer (some ⟨w.heap.size, 0, none⟩), .int .i64 0]) ∧ w.alloc (.cells #[.int .u64 r, .int .u64 s, .int .u64 s, .int .u64 0] 55) = w' := by
  go_enter Try.func7, Try.ntmps7
  go_wp2_with fail
  go_ret2
  exact ⟨rfl, rfl⟩
theorem new_no (r s : Int) (w : World) (h : 2147483648 < r ∨ (r ≤ 2147483648 ∧ s < 1) ∨ (r ≤ 2147483648 ∧ 1 ≤ s ∧ 2147483648 < s)) :
    Calls Try.prog 7 #[.int .u64 r, .int .u64 s] w fun e w' => e = .returned (.tuple #[.pointer none, .int .i64 1]) ∧ w = w' := by
  rcases h with h | ⟨h1, h2⟩ | ⟨h1, h2, h3⟩
  all_goals
    go_enter Try.func7, Try.ntmps7
    go_wp2_with fail
    go_ret2
    exact ⟨rfl, rfl⟩

set_option maxHeartbeats 2000000 in
theorem awake_any (w : World) : Calls Try.prog 6 #[] w fun e w' => e = .returned (.bool true) ∧ Below w.heap.size w w' := by
  go_enter Try.func6, Try.ntmps6
  go_wp2_with fail
  refine (new_ok 1 2 _ (by decide) (by decide) (by decide)).mono ?_
  rintro e w1 ⟨rfl, rfl⟩
  go_wp2_with fail
  refine (take_yes w.heap.size 1 2 2 0 0 _ (by decide) (by decide) (by decide) (by decide) (by decide) (by decide) (by decide) (by decide) (by decide) (Blk.new _ _ _) 2 2 0 (by decide) (by decide) (by decide) (by decide)).mono ?_
  rintro e w1 ⟨rfl, hB1, hK1⟩
  have HB1 := Lib.hid hB1
  have HK1 := Lib.hid hK1
  clear hB1 hK1
  go_wp2_with fail
  refine (take_no w.heap.size 1 2 0 0 0 _ (by decide) (by decide) (by decide) (by decide) (by decide) (by decide) (by decide) (by decide) (by decide) HB1.out 1 0 0 (by decide) (by decide) (by decide)).mono ?_
  rintro e w2 ⟨rfl, hB2, hK2⟩
  have HB2 := Lib.hid hB2
  have HK2 := Lib.hid hK2
  clear hB2 hK2
  go_wp2_with fail
  refine (take_yes w.heap.size 1 2 0 0 1 _ (by decide) (by decide) (by decide) (by decide) (by decide) (by decide) (by decide) (by decide) (by decide) HB2.out 1 1 1 (by decide) (by decide) (by decide) (by decide)).mono ?_
  rintro e w3 ⟨rfl, hB3, hK3⟩
  have HK3 := Lib.hid hK3
  clear hB3 hK3
  go_wp2_with fail
  go_ret
  exact ⟨rfl, (((((Kept.refl (fun i => w.heap.size ≤ i) w).alloc _).then HK1.out (fun i hi h => by omega)).then HK2.out (fun i hi h => by omega)).then HK3.out (fun i hi h => by omega)).below (Nat.le_refl _) (fun i h => h)⟩
end Go.Proofs.Ytcpiohmgnlapiaa
