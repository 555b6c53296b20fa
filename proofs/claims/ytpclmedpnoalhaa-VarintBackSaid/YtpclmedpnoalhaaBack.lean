import Derived.Test.YtpclmedpnoalhaaRows
import Derived.Test.YtpclmedpnoalhaaNumbers
import Derived.Outline
import Derived.Deep.Light
namespace Go.Proofs.Ytpclmedpnoalhaa
open Go.RowKit
set_option linter.unusedVariables false


theorem back_plain1 (n acked r : Int) (h0 : 0 ≤ n) (h1 : n < 2305843009213693952) (a0 : 0 ≤ acked) (hd : n - acked ≤ 128) (r0 : 0 ≤ r) (r1 : r < n - acked) : expandI 256 (acked + 1 + r) (n % 256) = n := by
  unfold expandI; simp only
  split
  · omega
  · split <;> omega
set_option maxHeartbeats 4000000 in
theorem back_1 (n acked x r : Int) (w : World) (h0 : 0 ≤ n) (h1 : n < 2305843009213693952) (a0 : 0 ≤ acked) (a1 : acked < n) (x0 : 0 ≤ x) (x1 : x < 18446744073709551616) (hb : bitsI n acked = 1) (hd : n - acked ≤ 128) (hr : x % (n - acked) = r) (r0 : 0 ≤ r) (r1 : r < n - acked) :
    Calls Try.prog 4 #[.int .u64 n, .int .u64 acked, .int .u64 x] w fun e w' => e = .returned (.bool true) ∧ w = w' := by
  have hB := bits_any n acked w h0 (by omega) a0 (by omega)
  rw [hb, show errI 1 = 0 from rfl] at hB
  have hE := expand_1 (acked + 1 + r) (n % 256) w (by omega) (by omega) (by omega) (by omega)
  rw [back_plain1 n acked r h0 h1 a0 hd r0 r1] at hE
  have HB := Lib.hid hB
  have HE := Lib.hid hE
  clear hB hE hb
  have hne : ((n - acked : Int) == 0) = false := beq_eq_false_iff_ne.2 (by omega)
  go_enter Try.func4, Try.ntmps4
  go_wp2_with fail
  refine HB.out.mono ?_
  rintro e w' ⟨rfl, rfl⟩
  go_wp2_with fail
  refine HE.out.mono ?_
  rintro e w' ⟨rfl, rfl⟩
  go_wp2_with fail
  refine (awake_any _).mono ?_
  rintro r w' ⟨rfl, rfl⟩
  go_wp2_with fail
  go_ret
  exact ⟨rfl, rfl⟩

theorem back_plain2 (n acked r : Int) (h0 : 0 ≤ n) (h1 : n < 2305843009213693952) (a0 : 0 ≤ acked) (hd : n - acked ≤ 32768) (r0 : 0 ≤ r) (r1 : r < n - acked) : expandI 65536 (acked + 1 + r) (n % 65536) = n := by
  unfold expandI; simp only
  split
  · omega
  · split <;> omega
set_option maxHeartbeats 4000000 in
theorem back_2 (n acked x r : Int) (w : World) (h0 : 0 ≤ n) (h1 : n < 2305843009213693952) (a0 : 0 ≤ acked) (a1 : acked < n) (x0 : 0 ≤ x) (x1 : x < 18446744073709551616) (hb : bitsI n acked = 2) (hd : n - acked ≤ 32768) (hr : x % (n - acked) = r) (r0 : 0 ≤ r) (r1 : r < n - acked) :
    Calls Try.prog 4 #[.int .u64 n, .int .u64 acked, .int .u64 x] w fun e w' => e = .returned (.bool true) ∧ w = w' := by
  have hB := bits_any n acked w h0 (by omega) a0 (by omega)
  rw [hb, show errI 2 = 0 from rfl] at hB
  have hE := expand_2 (acked + 1 + r) (n % 65536) w (by omega) (by omega) (by omega) (by omega)
  rw [back_plain2 n acked r h0 h1 a0 hd r0 r1] at hE
  have HB := Lib.hid hB
  have HE := Lib.hid hE
  clear hB hE hb
  have hne : ((n - acked : Int) == 0) = false := beq_eq_false_iff_ne.2 (by omega)
  go_enter Try.func4, Try.ntmps4
  go_wp2_with fail
  refine HB.out.mono ?_
  rintro e w' ⟨rfl, rfl⟩
  go_wp2_with fail
  refine HE.out.mono ?_
  rintro e w' ⟨rfl, rfl⟩
  go_wp2_with fail
  refine (awake_any _).mono ?_
  rintro r w' ⟨rfl, rfl⟩
  go_wp2_with fail
  go_ret
  exact ⟨rfl, rfl⟩

theorem back_plain3 (n acked r : Int) (h0 : 0 ≤ n) (h1 : n < 2305843009213693952) (a0 : 0 ≤ acked) (hd : n - acked ≤ 8388608) (r0 : 0 ≤ r) (r1 : r < n - acked) : expandI 16777216 (acked + 1 + r) (n % 16777216) = n := by
  unfold expandI; simp only
  split
  · omega
  · split <;> omega
set_option maxHeartbeats 4000000 in
theorem back_3 (n acked x r : Int) (w : World) (h0 : 0 ≤ n) (h1 : n < 2305843009213693952) (a0 : 0 ≤ acked) (a1 : acked < n) (x0 : 0 ≤ x) (x1 : x < 18446744073709551616) (hb : bitsI n acked = 3) (hd : n - acked ≤ 8388608) (hr : x % (n - acked) = r) (r0 : 0 ≤ r) (r1 : r < n - acked) :
    Calls Try.prog 4 #[.int .u64 n, .int .u64 acked, .int .u64 x] w fun e w' => e = .returned (.bool true) ∧ w = w' := by
  have hB := bits_any n acked w h0 (by omega) a0 (by omega)
  rw [hb, show errI 3 = 0 from rfl] at hB
  have hE := expand_3 (acked + 1 + r) (n % 16777216) w (by omega) (by omega) (by omega) (by omega)
  rw [back_plain3 n acked r h0 h1 a0 hd r0 r1] at hE
  have HB := Lib.hid hB
  have HE := Lib.hid hE
  clear hB hE hb
  have hne : ((n - acked : Int) == 0) = false := beq_eq_false_iff_ne.2 (by omega)
  go_enter Try.func4, Try.ntmps4
  go_wp2_with fail
  refine HB.out.mono ?_
  rintro e w' ⟨rfl, rfl⟩
  go_wp2_with fail
  refine HE.out.mono ?_
  rintro e w' ⟨rfl, rfl⟩
  go_wp2_with fail
  refine (awake_any _).mono ?_
  rintro r w' ⟨rfl, rfl⟩
  go_wp2_with fail
  go_ret
  exact ⟨rfl, rfl⟩

theorem back_plain4 (n acked r : Int) (h0 : 0 ≤ n) (h1 : n < 2305843009213693952) (a0 : 0 ≤ acked) (hd : n - acked ≤ 2147483648) (r0 : 0 ≤ r) (r1 : r < n - acked) : expandI 4294967296 (acked + 1 + r) (n % 4294967296) = n := by
  unfold expandI; simp only
  split
  · omega
  · split <;> omega
set_option maxHeartbeats 4000000 in
theorem back_4 (n acked x r : Int) (w : World) (h0 : 0 ≤ n) (h1 : n < 2305843009213693952) (a0 : 0 ≤ acked) (a1 : acked < n) (x0 : 0 ≤ x) (x1 : x < 18446744073709551616) (hb : bitsI n acked = 4) (hd : n - acked ≤ 2147483648) (hr : x % (n - acked) = r) (r0 : 0 ≤ r) (r1 : r < n - acked) :
    Calls Try.prog 4 #[.int .u64 n, .int .u64 acked, .int .u64 x] w fun e w' => e = .returned (.bool true) ∧ w = w' := by
  have hB := bits_any n acked w h0 (by omega) a0 (by omega)
  rw [hb, show errI 4 = 0 from rfl] at hB
  have hE := expand_4 (acked + 1 + r) (n % 4294967296) w (by omega) (by omega) (by omega) (by omega)
  rw [back_plain4 n acked r h0 h1 a0 hd r0 r1] at hE
  have HB := Lib.hid hB
  have HE := Lib.hid hE
  clear hB hE hb
  have hne : ((n - acked : Int) == 0) = false := beq_eq_false_iff_ne.2 (by omega)
  go_enter Try.func4, Try.ntmps4
  go_wp2_with fail
  refine HB.out.mono ?_
  rintro e w' ⟨rfl, rfl⟩
  go_wp2_with fail
  refine HE.out.mono ?_
  rintro e w' ⟨rfl, rfl⟩
  go_wp2_with fail
  refine (awake_any _).mono ?_
  rintro r w' ⟨rfl, rfl⟩
  go_wp2_with fail
  go_ret
  exact ⟨rfl, rfl⟩

set_option maxHeartbeats 4000000 in
theorem back_zero (n acked x : Int) (w : World) (h0 : 0 ≤ n) (h1 : n < 18446744073709551616) (a0 : 0 ≤ acked) (a1 : acked < 18446744073709551616) (hb : bitsI n acked = 0) :
    Calls Try.prog 4 #[.int .u64 n, .int .u64 acked, .int .u64 x] w fun e w' => e = .returned (.bool true) ∧ w = w' := by
  have hB := bits_any n acked w h0 h1 a0 a1
  have hR := refBits_any n acked w h0 h1 a0 a1
  rw [hb] at hR
  rw [hb, show errI 0 = 1 from rfl] at hB
  have HB := Lib.hid hB
  have HR := Lib.hid hR
  clear hB hR hb
  by_cases hn : 2305843009213693952 ≤ n
  · go_enter Try.func4, Try.ntmps4
    go_wp2_with fail
    refine HB.out.mono ?_
    rintro e w' ⟨rfl, rfl⟩
    go_wp2_with fail
    refine (awake_any _).mono ?_
    rintro r w' ⟨rfl, rfl⟩
    go_wp2_with fail
    go_ret
    exact ⟨rfl, rfl⟩
  · go_enter Try.func4, Try.ntmps4
    go_wp2_with fail
    refine HB.out.mono ?_
    rintro e w' ⟨rfl, rfl⟩
    go_wp2_with fail
    refine HR.out.mono ?_
    rintro e w' ⟨rfl, rfl⟩
    go_wp2_with fail
    refine (awake_any _).mono ?_
    rintro r w' ⟨rfl, rfl⟩
    go_wp2_with fail
    go_ret
    exact ⟨rfl, rfl⟩
set_option maxHeartbeats 4000000 in
theorem back_great (n acked x b : Int) (w : World) (h0 : 0 ≤ n) (h1 : n < 18446744073709551616) (a0 : 0 ≤ acked) (a1 : acked < 18446744073709551616) (hb : bitsI n acked = b) (b1 : 1 ≤ b) (b4 : b ≤ 4) (hn : 2305843009213693952 ≤ n) :
    Calls Try.prog 4 #[.int .u64 n, .int .u64 acked, .int .u64 x] w fun e w' => e = .returned (.bool true) ∧ w = w' := by
  have hB := bits_any n acked w h0 h1 a0 a1
  rw [hb, show errI b = 0 by unfold errI; rw [if_neg (by omega)]] at hB
  have HB := Lib.hid hB
  clear hB hb
  go_enter Try.func4, Try.ntmps4
  go_wp2_with fail
  refine HB.out.mono ?_
  rintro e w' ⟨rfl, rfl⟩
  go_wp2_with fail
  refine (awake_any _).mono ?_
  rintro r w' ⟨rfl, rfl⟩
  go_wp2_with fail
  go_ret
  exact ⟨rfl, rfl⟩

theorem bitsI_is (n a b : Int) (hb : bitsI n a = b) (h : 1 ≤ b) : a < n ∧ (b = 1 ∧ n - a ≤ 128 ∨ b = 2 ∧ n - a ≤ 32768 ∨ b = 3 ∧ n - a ≤ 8388608 ∨ b = 4 ∧ n - a ≤ 2147483648) := by
  unfold bitsI sizeOfDiff at hb; repeat' split at hb
  all_goals omega

theorem back_any (n acked x : Int) (w : World) (h0 : 0 ≤ n) (h1 : n < 18446744073709551616) (a0 : 0 ≤ acked) (a1 : acked < 18446744073709551616) (x0 : 0 ≤ x) (x1 : x < 18446744073709551616) :
    Calls Try.prog 4 #[.int .u64 n, .int .u64 acked, .int .u64 x] w fun e w' => e = .returned (.bool true) ∧ w = w' := by
  obtain ⟨b, hb⟩ : ∃ b, bitsI n acked = b := ⟨_, rfl⟩
  have hbc := bitsI_cases n acked
  rw [hb] at hbc
  rcases hbc with rfl | ⟨b1, b4⟩
  · exact back_zero n acked x w h0 h1 a0 a1 hb
  · by_cases hn : 2305843009213693952 ≤ n
    · exact back_great n acked x b w h0 h1 a0 a1 hb b1 b4 hn
    · obtain ⟨hlt, h⟩ := bitsI_is n acked b hb b1
      have r0 := Int.emod_nonneg x (b := n - acked) (by omega)
      have r1 := Int.emod_lt_of_pos x (b := n - acked) (by omega)
      rcases h with ⟨rfl, hd⟩ | ⟨rfl, hd⟩ | ⟨rfl, hd⟩ | ⟨rfl, hd⟩
      · exact back_1 n acked x _ w h0 (by omega) a0 hlt x0 x1 hb hd rfl r0 r1
      · exact back_2 n acked x _ w h0 (by omega) a0 hlt x0 x1 hb hd rfl r0 r1
      · exact back_3 n acked x _ w h0 (by omega) a0 hlt x0 x1 hb hd rfl r0 r1
      · exact back_4 n acked x _ w h0 (by omega) a0 hlt x0 x1 hb hd rfl r0 r1
end Go.Proofs.Ytpclmedpnoalhaa
