import Derived.Test.YtpclmedpnoalhaaRows
import Derived.Test.YtpclmedpnoalhaaExpand
import Derived.Outline
import Derived.Deep.Light
namespace Go.Proofs.Ytpclmedpnoalhaa
open Go.RowKit
set_option linter.unusedVariables false


theorem bitsI_cases (n a : Int) : bitsI n a = 0 ∨ (1 ≤ bitsI n a ∧ bitsI n a ≤ 4) := by
  unfold bitsI sizeOfDiff; repeat' split
  all_goals omega
theorem bitsI_zero {n a : Int} (h : bitsI n a = 0) : 4611686018427387904 ≤ n ∨ n ≤ a ∨ 2147483648 < n - a := by
  unfold bitsI sizeOfDiff at h; repeat' split at h
  all_goals omega


set_option maxHeartbeats 4000000 in
theorem numbers_bad (n acked e t s b : Int) (w : World) (h0 : 0 ≤ n) (h1 : n < 18446744073709551616) (a0 : 0 ≤ acked) (a1 : acked < 18446744073709551616) (e0 : 0 ≤ e) (t0 : 0 ≤ t) (s0 : -9223372036854775808 ≤ s) (s1 : s ≤ 9223372036854775807) (hb : bitsI n acked = b)
    (hs : s < 1 ∨ 4 < s ∨ (1 ≤ s ∧ s ≤ 4 ∧ 4611686018427387904 ≤ e)) :
    Calls Try.prog 3 #[.int .u64 n, .int .u64 acked, .int .u64 e, .int .u64 t, .int .i64 s] w fun r w' => r = .returned (.bool true) ∧ w = w' := by
  have hB := bits_any n acked w h0 h1 a0 a1
  have hR := refBits_any n acked w h0 h1 a0 a1
  have hE : Calls Try.prog 9 #[.int .u64 e, .int .u64 t, .int .i64 s] w fun r w' => r = .returned (.tuple #[.int .u64 0, .int .i64 1]) ∧ w = w' := by
    rcases hs with hs | hs | ⟨hs1, hs2, hs⟩
    · exact expand_size e t s w (.inl hs)
    · exact expand_size e t s w (.inr hs)
    · exact expand_great e t s w hs1 hs2 hs
  rw [hb] at hB hR
  have hbc := bitsI_cases n acked
  rw [hb] at hbc
  have HB := Lib.hid hB
  have HR := Lib.hid hR
  have HE := Lib.hid hE
  clear hB hR hE hb
  rcases hbc with rfl | ⟨b1, b4⟩
  · rw [show errI 0 = 1 from rfl] at HB
    rcases hs with hs | hs | ⟨hs1, hs2, hs⟩
    · go_enter Try.func3, Try.ntmps3
      go_wp2_with fail
      refine HB.out.mono ?_
      rintro r w' ⟨rfl, rfl⟩
      go_wp2_with fail
      refine HR.out.mono ?_
      rintro r w' ⟨rfl, rfl⟩
      go_wp2_with fail
      refine HE.out.mono ?_
      rintro r w' ⟨rfl, rfl⟩
      go_wp2_with fail
      refine (awake_any _).mono ?_
      rintro r w' ⟨rfl, rfl⟩
      go_wp2_with fail
      go_ret
      exact ⟨rfl, rfl⟩
    · have hn : ¬ s < 1 := by omega
      go_enter Try.func3, Try.ntmps3
      go_wp2_with fail
      refine HB.out.mono ?_
      rintro r w' ⟨rfl, rfl⟩
      go_wp2_with fail
      refine HR.out.mono ?_
      rintro r w' ⟨rfl, rfl⟩
      go_wp2_with fail
      refine HE.out.mono ?_
      rintro r w' ⟨rfl, rfl⟩
      go_wp2_with fail
      refine (awake_any _).mono ?_
      rintro r w' ⟨rfl, rfl⟩
      go_wp2_with fail
      go_ret
      exact ⟨rfl, rfl⟩
    · go_enter Try.func3, Try.ntmps3
      go_wp2_with fail
      refine HB.out.mono ?_
      rintro r w' ⟨rfl, rfl⟩
      go_wp2_with fail
      refine HR.out.mono ?_
      rintro r w' ⟨rfl, rfl⟩
      go_wp2_with fail
      refine HE.out.mono ?_
      rintro r w' ⟨rfl, rfl⟩
      go_wp2_with fail
      refine (awake_any _).mono ?_
      rintro r w' ⟨rfl, rfl⟩
      go_wp2_with fail
      go_ret
      exact ⟨rfl, rfl⟩
  · have hb0 : (b == 0) = false := beq_eq_false_iff_ne.2 (by omega)
    rw [show errI b = 0 by unfold errI; rw [if_neg (by omega)]] at HB
    rcases hs with hs | hs | ⟨hs1, hs2, hs⟩
    · go_enter Try.func3, Try.ntmps3
      go_wp2_with fail
      refine HB.out.mono ?_
      rintro r w' ⟨rfl, rfl⟩
      go_wp2_with fail
      refine HR.out.mono ?_
      rintro r w' ⟨rfl, rfl⟩
      go_wp2_with fail
      refine HE.out.mono ?_
      rintro r w' ⟨rfl, rfl⟩
      go_wp2_with fail
      refine (awake_any _).mono ?_
      rintro r w' ⟨rfl, rfl⟩
      go_wp2_with fail
      go_ret
      exact ⟨rfl, rfl⟩
    · have hn : ¬ s < 1 := by omega
      go_enter Try.func3, Try.ntmps3
      go_wp2_with fail
      refine HB.out.mono ?_
      rintro r w' ⟨rfl, rfl⟩
      go_wp2_with fail
      refine HR.out.mono ?_
      rintro r w' ⟨rfl, rfl⟩
      go_wp2_with fail
      refine HE.out.mono ?_
      rintro r w' ⟨rfl, rfl⟩
      go_wp2_with fail
      refine (awake_any _).mono ?_
      rintro r w' ⟨rfl, rfl⟩
      go_wp2_with fail
      go_ret
      exact ⟨rfl, rfl⟩
    · go_enter Try.func3, Try.ntmps3
      go_wp2_with fail
      refine HB.out.mono ?_
      rintro r w' ⟨rfl, rfl⟩
      go_wp2_with fail
      refine HR.out.mono ?_
      rintro r w' ⟨rfl, rfl⟩
      go_wp2_with fail
      refine HE.out.mono ?_
      rintro r w' ⟨rfl, rfl⟩
      go_wp2_with fail
      refine (awake_any _).mono ?_
      rintro r w' ⟨rfl, rfl⟩
      go_wp2_with fail
      go_ret
      exact ⟨rfl, rfl⟩

set_option maxHeartbeats 4000000 in
theorem numbers_1 (n acked e t b : Int) (w : World) (h0 : 0 ≤ n) (h1 : n < 18446744073709551616) (a0 : 0 ≤ acked) (a1 : acked < 18446744073709551616) (e0 : 0 ≤ e) (e1 : e < 4611686018427387904) (t0 : 0 ≤ t) (hb : bitsI n acked = b) :
    Calls Try.prog 3 #[.int .u64 n, .int .u64 acked, .int .u64 e, .int .u64 t, .int .i64 1] w fun r w' => r = .returned (.bool true) ∧ w = w' := by
  have hB := bits_any n acked w h0 h1 a0 a1
  have hR := refBits_any n acked w h0 h1 a0 a1
  rw [hb] at hB hR
  have hbc := bitsI_cases n acked
  rw [hb] at hbc
  have HB := Lib.hid hB
  have HR := Lib.hid hR
  clear hB hR hb
  by_cases ht : 256 ≤ t
  · have HE := Lib.hid (expand_told1 e t w e1 ht)
    rcases hbc with rfl | ⟨b1, b4⟩
    · rw [show errI 0 = 1 from rfl] at HB
      go_enter Try.func3, Try.ntmps3
      go_wp2_with fail
      refine HB.out.mono ?_
      rintro r w' ⟨rfl, rfl⟩
      go_wp2_with fail
      refine HR.out.mono ?_
      rintro r w' ⟨rfl, rfl⟩
      go_wp2_with fail
      refine HE.out.mono ?_
      rintro r w' ⟨rfl, rfl⟩
      go_wp2_with fail
      refine (awake_any _).mono ?_
      rintro r w' ⟨rfl, rfl⟩
      go_wp2_with fail
      go_ret
      exact ⟨rfl, rfl⟩
    · have hb0 : (b == 0) = false := beq_eq_false_iff_ne.2 (by omega)
      rw [show errI b = 0 by unfold errI; rw [if_neg (by omega)]] at HB
      go_enter Try.func3, Try.ntmps3
      go_wp2_with fail
      refine HB.out.mono ?_
      rintro r w' ⟨rfl, rfl⟩
      go_wp2_with fail
      refine HR.out.mono ?_
      rintro r w' ⟨rfl, rfl⟩
      go_wp2_with fail
      refine HE.out.mono ?_
      rintro r w' ⟨rfl, rfl⟩
      go_wp2_with fail
      refine (awake_any _).mono ?_
      rintro r w' ⟨rfl, rfl⟩
      go_wp2_with fail
      go_ret
      exact ⟨rfl, rfl⟩
  · obtain ⟨x, hx⟩ : ∃ x, expandI 256 e t = x := ⟨_, rfl⟩
    have hE := expand_1 e t w e0 e1 t0 (by omega)
    have hF := refExpand_1 e t w e0 e1 t0 (by omega)
    rw [hx] at hE hF
    have HE := Lib.hid hE
    have HF := Lib.hid hF
    clear hE hF hx
    rcases hbc with rfl | ⟨b1, b4⟩
    · rw [show errI 0 = 1 from rfl] at HB
      go_enter Try.func3, Try.ntmps3
      go_wp2_with fail
      refine HB.out.mono ?_
      rintro r w' ⟨rfl, rfl⟩
      go_wp2_with fail
      refine HR.out.mono ?_
      rintro r w' ⟨rfl, rfl⟩
      go_wp2_with fail
      refine HE.out.mono ?_
      rintro r w' ⟨rfl, rfl⟩
      go_wp2_with fail
      refine HF.out.mono ?_
      rintro r w' ⟨rfl, rfl⟩
      go_wp2_with fail
      refine (awake_any _).mono ?_
      rintro r w' ⟨rfl, rfl⟩
      go_wp2_with fail
      go_ret
      exact ⟨rfl, rfl⟩
    · have hb0 : (b == 0) = false := beq_eq_false_iff_ne.2 (by omega)
      rw [show errI b = 0 by unfold errI; rw [if_neg (by omega)]] at HB
      go_enter Try.func3, Try.ntmps3
      go_wp2_with fail
      refine HB.out.mono ?_
      rintro r w' ⟨rfl, rfl⟩
      go_wp2_with fail
      refine HR.out.mono ?_
      rintro r w' ⟨rfl, rfl⟩
      go_wp2_with fail
      refine HE.out.mono ?_
      rintro r w' ⟨rfl, rfl⟩
      go_wp2_with fail
      refine HF.out.mono ?_
      rintro r w' ⟨rfl, rfl⟩
      go_wp2_with fail
      refine (awake_any _).mono ?_
      rintro r w' ⟨rfl, rfl⟩
      go_wp2_with fail
      go_ret
      exact ⟨rfl, rfl⟩

set_option maxHeartbeats 4000000 in
theorem numbers_2 (n acked e t b : Int) (w : World) (h0 : 0 ≤ n) (h1 : n < 18446744073709551616) (a0 : 0 ≤ acked) (a1 : acked < 18446744073709551616) (e0 : 0 ≤ e) (e1 : e < 4611686018427387904) (t0 : 0 ≤ t) (hb : bitsI n acked = b) :
    Calls Try.prog 3 #[.int .u64 n, .int .u64 acked, .int .u64 e, .int .u64 t, .int .i64 2] w fun r w' => r = .returned (.bool true) ∧ w = w' := by
  have hB := bits_any n acked w h0 h1 a0 a1
  have hR := refBits_any n acked w h0 h1 a0 a1
  rw [hb] at hB hR
  have hbc := bitsI_cases n acked
  rw [hb] at hbc
  have HB := Lib.hid hB
  have HR := Lib.hid hR
  clear hB hR hb
  by_cases ht : 65536 ≤ t
  · have HE := Lib.hid (expand_told2 e t w e1 ht)
    rcases hbc with rfl | ⟨b1, b4⟩
    · rw [show errI 0 = 1 from rfl] at HB
      go_enter Try.func3, Try.ntmps3
      go_wp2_with fail
      refine HB.out.mono ?_
      rintro r w' ⟨rfl, rfl⟩
      go_wp2_with fail
      refine HR.out.mono ?_
      rintro r w' ⟨rfl, rfl⟩
      go_wp2_with fail
      refine HE.out.mono ?_
      rintro r w' ⟨rfl, rfl⟩
      go_wp2_with fail
      refine (awake_any _).mono ?_
      rintro r w' ⟨rfl, rfl⟩
      go_wp2_with fail
      go_ret
      exact ⟨rfl, rfl⟩
    · have hb0 : (b == 0) = false := beq_eq_false_iff_ne.2 (by omega)
      rw [show errI b = 0 by unfold errI; rw [if_neg (by omega)]] at HB
      go_enter Try.func3, Try.ntmps3
      go_wp2_with fail
      refine HB.out.mono ?_
      rintro r w' ⟨rfl, rfl⟩
      go_wp2_with fail
      refine HR.out.mono ?_
      rintro r w' ⟨rfl, rfl⟩
      go_wp2_with fail
      refine HE.out.mono ?_
      rintro r w' ⟨rfl, rfl⟩
      go_wp2_with fail
      refine (awake_any _).mono ?_
      rintro r w' ⟨rfl, rfl⟩
      go_wp2_with fail
      go_ret
      exact ⟨rfl, rfl⟩
  · obtain ⟨x, hx⟩ : ∃ x, expandI 65536 e t = x := ⟨_, rfl⟩
    have hE := expand_2 e t w e0 e1 t0 (by omega)
    have hF := refExpand_2 e t w e0 e1 t0 (by omega)
    rw [hx] at hE hF
    have HE := Lib.hid hE
    have HF := Lib.hid hF
    clear hE hF hx
    rcases hbc with rfl | ⟨b1, b4⟩
    · rw [show errI 0 = 1 from rfl] at HB
      go_enter Try.func3, Try.ntmps3
      go_wp2_with fail
      refine HB.out.mono ?_
      rintro r w' ⟨rfl, rfl⟩
      go_wp2_with fail
      refine HR.out.mono ?_
      rintro r w' ⟨rfl, rfl⟩
      go_wp2_with fail
      refine HE.out.mono ?_
      rintro r w' ⟨rfl, rfl⟩
      go_wp2_with fail
      refine HF.out.mono ?_
      rintro r w' ⟨rfl, rfl⟩
      go_wp2_with fail
      refine (awake_any _).mono ?_
      rintro r w' ⟨rfl, rfl⟩
      go_wp2_with fail
      go_ret
      exact ⟨rfl, rfl⟩
    · have hb0 : (b == 0) = false := beq_eq_false_iff_ne.2 (by omega)
      rw [show errI b = 0 by unfold errI; rw [if_neg (by omega)]] at HB
      go_enter Try.func3, Try.ntmps3
      go_wp2_with fail
      refine HB.out.mono ?_
      rintro r w' ⟨rfl, rfl⟩
      go_wp2_with fail
      refine HR.out.mono ?_
      rintro r w' ⟨rfl, rfl⟩
      go_wp2_with fail
      refine HE.out.mono ?_
      rintro r w' ⟨rfl, rfl⟩
      go_wp2_with fail
      refine HF.out.mono ?_
      rintro r w' ⟨rfl, rfl⟩
      go_wp2_with fail
      refine (awake_any _).mono ?_
      rintro r w' ⟨rfl, rfl⟩
      go_wp2_with fail
      go_ret
      exact ⟨rfl, rfl⟩

set_option maxHeartbeats 4000000 in
theorem numbers_3 (n acked e t b : Int) (w : World) (h0 : 0 ≤ n) (h1 : n < 18446744073709551616) (a0 : 0 ≤ acked) (a1 : acked < 18446744073709551616) (e0 : 0 ≤ e) (e1 : e < 4611686018427387904) (t0 : 0 ≤ t) (hb : bitsI n acked = b) :
    Calls Try.prog 3 #[.int .u64 n, .int .u64 acked, .int .u64 e, .int .u64 t, .int .i64 3] w fun r w' => r = .returned (.bool true) ∧ w = w' := by
  have hB := bits_any n acked w h0 h1 a0 a1
  have hR := refBits_any n acked w h0 h1 a0 a1
  rw [hb] at hB hR
  have hbc := bitsI_cases n acked
  rw [hb] at hbc
  have HB := Lib.hid hB
  have HR := Lib.hid hR
  clear hB hR hb
  by_cases ht : 16777216 ≤ t
  · have HE := Lib.hid (expand_told3 e t w e1 ht)
    rcases hbc with rfl | ⟨b1, b4⟩
    · rw [show errI 0 = 1 from rfl] at HB
      go_enter Try.func3, Try.ntmps3
      go_wp2_with fail
      refine HB.out.mono ?_
      rintro r w' ⟨rfl, rfl⟩
      go_wp2_with fail
      refine HR.out.mono ?_
      rintro r w' ⟨rfl, rfl⟩
      go_wp2_with fail
      refine HE.out.mono ?_
      rintro r w' ⟨rfl, rfl⟩
      go_wp2_with fail
      refine (awake_any _).mono ?_
      rintro r w' ⟨rfl, rfl⟩
      go_wp2_with fail
      go_ret
      exact ⟨rfl, rfl⟩
    · have hb0 : (b == 0) = false := beq_eq_false_iff_ne.2 (by omega)
      rw [show errI b = 0 by unfold errI; rw [if_neg (by omega)]] at HB
      go_enter Try.func3, Try.ntmps3
      go_wp2_with fail
      refine HB.out.mono ?_
      rintro r w' ⟨rfl, rfl⟩
      go_wp2_with fail
      refine HR.out.mono ?_
      rintro r w' ⟨rfl, rfl⟩
      go_wp2_with fail
      refine HE.out.mono ?_
      rintro r w' ⟨rfl, rfl⟩
      go_wp2_with fail
      refine (awake_any _).mono ?_
      rintro r w' ⟨rfl, rfl⟩
      go_wp2_with fail
      go_ret
      exact ⟨rfl, rfl⟩
  · obtain ⟨x, hx⟩ : ∃ x, expandI 16777216 e t = x := ⟨_, rfl⟩
    have hE := expand_3 e t w e0 e1 t0 (by omega)
    have hF := refExpand_3 e t w e0 e1 t0 (by omega)
    rw [hx] at hE hF
    have HE := Lib.hid hE
    have HF := Lib.hid hF
    clear hE hF hx
    rcases hbc with rfl | ⟨b1, b4⟩
    · rw [show errI 0 = 1 from rfl] at HB
      go_enter Try.func3, Try.ntmps3
      go_wp2_with fail
      refine HB.out.mono ?_
      rintro r w' ⟨rfl, rfl⟩
      go_wp2_with fail
      refine HR.out.mono ?_
      rintro r w' ⟨rfl, rfl⟩
      go_wp2_with fail
      refine HE.out.mono ?_
      rintro r w' ⟨rfl, rfl⟩
      go_wp2_with fail
      refine HF.out.mono ?_
      rintro r w' ⟨rfl, rfl⟩
      go_wp2_with fail
      refine (awake_any _).mono ?_
      rintro r w' ⟨rfl, rfl⟩
      go_wp2_with fail
      go_ret
      exact ⟨rfl, rfl⟩
    · have hb0 : (b == 0) = false := beq_eq_false_iff_ne.2 (by omega)
      rw [show errI b = 0 by unfold errI; rw [if_neg (by omega)]] at HB
      go_enter Try.func3, Try.ntmps3
      go_wp2_with fail
      refine HB.out.mono ?_
      rintro r w' ⟨rfl, rfl⟩
      go_wp2_with fail
      refine HR.out.mono ?_
      rintro r w' ⟨rfl, rfl⟩
      go_wp2_with fail
      refine HE.out.mono ?_
      rintro r w' ⟨rfl, rfl⟩
      go_wp2_with fail
      refine HF.out.mono ?_
      rintro r w' ⟨rfl, rfl⟩
      go_wp2_with fail
      refine (awake_any _).mono ?_
      rintro r w' ⟨rfl, rfl⟩
      go_wp2_with fail
      go_ret
      exact ⟨rfl, rfl⟩

set_option maxHeartbeats 4000000 in
theorem numbers_4 (n acked e t b : Int) (w : World) (h0 : 0 ≤ n) (h1 : n < 18446744073709551616) (a0 : 0 ≤ acked) (a1 : acked < 18446744073709551616) (e0 : 0 ≤ e) (e1 : e < 4611686018427387904) (t0 : 0 ≤ t) (hb : bitsI n acked = b) :
    Calls Try.prog 3 #[.int .u64 n, .int .u64 acked, .int .u64 e, .int .u64 t, .int .i64 4] w fun r w' => r = .returned (.bool true) ∧ w = w' := by
  have hB := bits_any n acked w h0 h1 a0 a1
  have hR := refBits_any n acked w h0 h1 a0 a1
  rw [hb] at hB hR
  have hbc := bitsI_cases n acked
  rw [hb] at hbc
  have HB := Lib.hid hB
  have HR := Lib.hid hR
  clear hB hR hb
  by_cases ht : 4294967296 ≤ t
  · have HE := Lib.hid (expand_told4 e t w e1 ht)
    rcases hbc with rfl | ⟨b1, b4⟩
    · rw [show errI 0 = 1 from rfl] at HB
      go_enter Try.func3, Try.ntmps3
      go_wp2_with fail
      refine HB.out.mono ?_
      rintro r w' ⟨rfl, rfl⟩
      go_wp2_with fail
      refine HR.out.mono ?_
      rintro r w' ⟨rfl, rfl⟩
      go_wp2_with fail
      refine HE.out.mono ?_
      rintro r w' ⟨rfl, rfl⟩
      go_wp2_with fail
      refine (awake_any _).mono ?_
      rintro r w' ⟨rfl, rfl⟩
      go_wp2_with fail
      go_ret
      exact ⟨rfl, rfl⟩
    · have hb0 : (b == 0) = false := beq_eq_false_iff_ne.2 (by omega)
      rw [show errI b = 0 by unfold errI; rw [if_neg (by omega)]] at HB
      go_enter Try.func3, Try.ntmps3
      go_wp2_with fail
      refine HB.out.mono ?_
      rintro r w' ⟨rfl, rfl⟩
      go_wp2_with fail
      refine HR.out.mono ?_
      rintro r w' ⟨rfl, rfl⟩
      go_wp2_with fail
      refine HE.out.mono ?_
      rintro r w' ⟨rfl, rfl⟩
      go_wp2_with fail
      refine (awake_any _).mono ?_
      rintro r w' ⟨rfl, rfl⟩
      go_wp2_with fail
      go_ret
      exact ⟨rfl, rfl⟩
  · obtain ⟨x, hx⟩ : ∃ x, expandI 4294967296 e t = x := ⟨_, rfl⟩
    have hE := expand_4 e t w e0 e1 t0 (by omega)
    have hF := refExpand_4 e t w e0 e1 t0 (by omega)
    rw [hx] at hE hF
    have HE := Lib.hid hE
    have HF := Lib.hid hF
    clear hE hF hx
    rcases hbc with rfl | ⟨b1, b4⟩
    · rw [show errI 0 = 1 from rfl] at HB
      go_enter Try.func3, Try.ntmps3
      go_wp2_with fail
      refine HB.out.mono ?_
      rintro r w' ⟨rfl, rfl⟩
      go_wp2_with fail
      refine HR.out.mono ?_
      rintro r w' ⟨rfl, rfl⟩
      go_wp2_with fail
      refine HE.out.mono ?_
      rintro r w' ⟨rfl, rfl⟩
      go_wp2_with fail
      refine HF.out.mono ?_
      rintro r w' ⟨rfl, rfl⟩
      go_wp2_with fail
      refine (awake_any _).mono ?_
      rintro r w' ⟨rfl, rfl⟩
      go_wp2_with fail
      go_ret
      exact ⟨rfl, rfl⟩
    · have hb0 : (b == 0) = false := beq_eq_false_iff_ne.2 (by omega)
      rw [show errI b = 0 by unfold errI; rw [if_neg (by omega)]] at HB
      go_enter Try.func3, Try.ntmps3
      go_wp2_with fail
      refine HB.out.mono ?_
      rintro r w' ⟨rfl, rfl⟩
      go_wp2_with fail
      refine HR.out.mono ?_
      rintro r w' ⟨rfl, rfl⟩
      go_wp2_with fail
      refine HE.out.mono ?_
      rintro r w' ⟨rfl, rfl⟩
      go_wp2_with fail
      refine HF.out.mono ?_
      rintro r w' ⟨rfl, rfl⟩
      go_wp2_with fail
      refine (awake_any _).mono ?_
      rintro r w' ⟨rfl, rfl⟩
      go_wp2_with fail
      go_ret
      exact ⟨rfl, rfl⟩

theorem numbers_any (n acked e t s : Int) (w : World) (h0 : 0 ≤ n) (h1 : n < 18446744073709551616) (a0 : 0 ≤ acked) (a1 : acked < 18446744073709551616) (e0 : 0 ≤ e) (t0 : 0 ≤ t) (s0 : -9223372036854775808 ≤ s) (s1 : s ≤ 9223372036854775807) :
    Calls Try.prog 3 #[.int .u64 n, .int .u64 acked, .int .u64 e, .int .u64 t, .int .i64 s] w fun r w' => r = .returned (.bool true) ∧ w = w' := by
  by_cases hs : s < 1 ∨ 4 < s ∨ (1 ≤ s ∧ s ≤ 4 ∧ 4611686018427387904 ≤ e)
  · exact numbers_bad n acked e t s _ w h0 h1 a0 a1 e0 t0 s0 s1 rfl hs
  · have h : s = 1 ∨ s = 2 ∨ s = 3 ∨ s = 4 := by omega
    have e1 : e < 4611686018427387904 := by omega
    rcases h with rfl | rfl | rfl | rfl
    · exact numbers_1 n acked e t _ w h0 h1 a0 a1 e0 e1 t0 rfl
    · exact numbers_2 n acked e t _ w h0 h1 a0 a1 e0 e1 t0 rfl
    · exact numbers_3 n acked e t _ w h0 h1 a0 a1 e0 e1 t0 rfl
    · exact numbers_4 n acked e t _ w h0 h1 a0 a1 e0 e1 t0 rfl
end Go.Proofs.Ytpclmedpnoalhaa
