import Derived.Test.YtpclmedpnoalhaaRows
import Derived.Test.YtpclmedpnoalhaaBase
import Derived.Test.YtpclmedpnoalhaaPlain
import Derived.Outline
import Derived.Deep.Light
namespace Go.Proofs.Ytpclmedpnoalhaa
open Go.RowKit
set_option linter.unusedVariables false


theorem power_any (n : Nat) (w : World) (hn : n ≤ 62) : Calls Try.prog 19 #[.int .i64 (n : Int)] w fun e w' => e = .returned (.int .u64 ((2 ^ n : Nat) : Int)) ∧ w = w' := by
  go_enter Try.func19, Try.ntmps19
  go_wp2
  go_loop [3, 4] (fun p i => ∃ k m : Nat, k ≤ n ∧ i = .int .i64 k ∧ p = .int .u64 (m : Int) ∧ m ≤ 4611686018427387904 ∧ Hid (m = 2 ^ k)) (fun _ i => n - (intOf i).toNat)
  case atStart => exact ⟨0, 1, Nat.zero_le _, rfl, rfl, by omega, Lib.hid rfl⟩
  case round =>
    obtain ⟨k, m, hk, rfl, rfl, hm1, hm⟩ := hrel
    by_cases hlt : k < n
    · have hlt' : (k : Int) < (n : Int) := by omega
      go_wp2
      go_round
      case rel => exact ⟨k + 1, m * 2, by omega, by go_num, by go_num, by rw [hm.out, ← Nat.pow_succ]; exact Nat.le_trans (Nat.pow_le_pow_right (by omega) (show k + 1 ≤ 62 by omega)) (by decide), Lib.hid (by rw [hm.out, Nat.pow_succ])⟩
      case measure => simp [intOf]; omega
    · have : k = n := by omega
      subst this
      go_wp2
      go_ret
      exact ⟨ret_int (by rw [hm.out]; first | rfl | simp), rfl⟩
theorem power_7 (w : World) : Calls Try.prog 19 #[.int .i64 7] w fun e w' => e = .returned (.int .u64 128) ∧ w = w' := power_any 7 w (by decide)
theorem power_15 (w : World) : Calls Try.prog 19 #[.int .i64 15] w fun e w' => e = .returned (.int .u64 32768) ∧ w = w' := power_any 15 w (by decide)
theorem power_23 (w : World) : Calls Try.prog 19 #[.int .i64 23] w fun e w' => e = .returned (.int .u64 8388608) ∧ w = w' := power_any 23 w (by decide)
theorem power_31 (w : World) : Calls Try.prog 19 #[.int .i64 31] w fun e w' => e = .returned (.int .u64 2147483648) ∧ w = w' := power_any 31 w (by decide)
theorem power_8 (w : World) : Calls Try.prog 19 #[.int .i64 8] w fun e w' => e = .returned (.int .u64 256) ∧ w = w' := power_any 8 w (by decide)
theorem power_16 (w : World) : Calls Try.prog 19 #[.int .i64 16] w fun e w' => e = .returned (.int .u64 65536) ∧ w = w' := power_any 16 w (by decide)
theorem power_24 (w : World) : Calls Try.prog 19 #[.int .i64 24] w fun e w' => e = .returned (.int .u64 16777216) ∧ w = w' := power_any 24 w (by decide)
theorem power_32 (w : World) : Calls Try.prog 19 #[.int .i64 32] w fun e w' => e = .returned (.int .u64 4294967296) ∧ w = w' := power_any 32 w (by decide)
theorem power_62 (w : World) : Calls Try.prog 19 #[.int .i64 62] w fun e w' => e = .returned (.int .u64 4611686018427387904) ∧ w = w' := power_any 62 w (by decide)

set_option maxHeartbeats 2000000 in
theorem refBits_any (n acked : Int) (w : World) (h0 : 0 ≤ n) (h1 : n < 18446744073709551616) (a0 : 0 ≤ acked) (a1 : acked < 18446744073709551616) :
    Calls Try.prog 8 #[.int .u64 n, .int .u64 acked] w fun e w' => e = .returned (.int .i64 (bitsI n acked)) ∧ w = w' := by
  by_cases c1 : 4611686018427387904 ≤ n
  · have HF := Lib.hid (show bitsI n acked = 0 by rw [bitsI, if_pos (.inl c1)])
    go_enter Try.func8, Try.ntmps8
    go_wp2_with fail
    refine (power_62 _).mono ?_
    rintro e w' ⟨rfl, rfl⟩
    go_wp2_with fail
    go_ret
    exact ⟨ret_int HF.out.symm, rfl⟩
  · by_cases c2 : n ≤ acked
    · have HF := Lib.hid (show bitsI n acked = 0 by rw [bitsI, if_pos (.inr c2)])
      go_enter Try.func8, Try.ntmps8
      go_wp2_with fail
      refine (power_62 _).mono ?_
      rintro e w' ⟨rfl, rfl⟩
      go_wp2_with fail
      go_ret
      exact ⟨ret_int HF.out.symm, rfl⟩
    · have HF := Lib.hid (show bitsI n acked = sizeOfDiff (n - acked) by rw [bitsI, if_neg (by omega)])
      have hd1 : decide (4611686018427387904 ≤ n) = false := by simp; omega
      have hd2 : decide (n ≤ acked) = false := by simp; omega
      go_enter Try.func8, Try.ntmps8
      go_wp2_with fail
      refine (power_62 _).mono ?_
      rintro e w' ⟨rfl, rfl⟩
      go_wp2_with fail
      go_loop [5] (fun i => ∃ k : Nat, i = .int .i64 k ∧ (k = 1 ∨ (k = 2 ∧ 128 < n - acked) ∨ (k = 3 ∧ 32768 < n - acked) ∨ (k = 4 ∧ 8388608 < n - acked) ∨ (k = 5 ∧ 2147483648 < n - acked))) (fun i => 6 - (intOf i).toNat)
      case atStart => exact ⟨1, rfl, .inl rfl⟩
      case round =>
        obtain ⟨k, rfl, hk⟩ := hrel
        rcases hk with rfl | ⟨rfl, hk⟩ | ⟨rfl, hk⟩ | ⟨rfl, hk⟩ | ⟨rfl, hk⟩
        · by_cases hc : n - acked ≤ 128
          · go_wp2_with fail
            refine (power_7 _).mono ?_
            rintro e w' ⟨rfl, rfl⟩
            go_wp2_with fail
            go_ret
            exact ⟨ret_int (by rw [HF.out, sizeOfDiff, if_pos hc]), rfl⟩
          · go_wp2_with fail
            refine (power_7 _).mono ?_
            rintro e w' ⟨rfl, rfl⟩
            go_wp2_with fail
            go_round
            case rel => exact ⟨2, rfl, by omega⟩
            case measure => simp [intOf]
        · by_cases hc : n - acked ≤ 32768
          · go_wp2_with fail
            refine (power_15 _).mono ?_
            rintro e w' ⟨rfl, rfl⟩
            go_wp2_with fail
            go_ret
            exact ⟨ret_int (by rw [HF.out, sizeOfDiff, if_neg (show ¬ n - acked ≤ 128 by omega), if_pos hc]), rfl⟩
          · go_wp2_with fail
            refine (power_15 _).mono ?_
            rintro e w' ⟨rfl, rfl⟩
            go_wp2_with fail
            go_round
            case rel => exact ⟨3, rfl, by omega⟩
            case measure => simp [intOf]
        · by_cases hc : n - acked ≤ 8388608
          · go_wp2_with fail
            refine (power_23 _).mono ?_
            rintro e w' ⟨rfl, rfl⟩
            go_wp2_with fail
            go_ret
            exact ⟨ret_int (by rw [HF.out, sizeOfDiff, if_neg (show ¬ n - acked ≤ 128 by omega), if_neg (show ¬ n - acked ≤ 32768 by omega), if_pos hc]), rfl⟩
          · go_wp2_with fail
            refine (power_23 _).mono ?_
            rintro e w' ⟨rfl, rfl⟩
            go_wp2_with fail
            go_round
            case rel => exact ⟨4, rfl, by omega⟩
            case measure => simp [intOf]
        · by_cases hc : n - acked ≤ 2147483648
          · go_wp2_with fail
            refine (power_31 _).mono ?_
            rintro e w' ⟨rfl, rfl⟩
            go_wp2_with fail
            go_ret
            exact ⟨ret_int (by rw [HF.out, sizeOfDiff, if_neg (show ¬ n - acked ≤ 128 by omega), if_neg (show ¬ n - acked ≤ 32768 by omega), if_neg (show ¬ n - acked ≤ 8388608 by omega), if_pos hc]), rfl⟩
          · go_wp2_with fail
            refine (power_31 _).mono ?_
            rintro e w' ⟨rfl, rfl⟩
            go_wp2_with fail
            go_round
            case rel => exact ⟨5, rfl, by omega⟩
            case measure => simp [intOf]
        · go_wp2_with fail
          go_ret
          exact ⟨ret_int (by rw [HF.out, sizeOfDiff, if_neg (show ¬ n - acked ≤ 128 by omega), if_neg (show ¬ n - acked ≤ 32768 by omega), if_neg (show ¬ n - acked ≤ 8388608 by omega), if_neg (show ¬ n - acked ≤ 2147483648 by omega)]), rfl⟩

/-- The error beside a size. -/
def errI (b : Int) : Int := if b = 0 then 1 else 0
set_option maxHeartbeats 2000000 in
theorem bits_any (n acked : Int) (w : World) (h0 : 0 ≤ n) (h1 : n < 18446744073709551616) (a0 : 0 ≤ acked) (a1 : acked < 18446744073709551616) :
    Calls Try.prog 7 #[.int .u64 n, .int .u64 acked] w fun e w' => e = .returned (.tuple #[.int .i64 (bitsI n acked), .int .i64 (errI (bitsI n acked))]) ∧ w = w' := by
  by_cases c1 : 4611686018427387904 ≤ n
  · have HF := Lib.hid (show bitsI n acked = 0 by rw [bitsI, if_pos (.inl c1)])
    go_enter Try.func7, Try.ntmps7
    go_wp2_with fail
    go_ret2
    exact ⟨by rw [HF.out]; rfl, rfl⟩
  · by_cases c2 : n ≤ acked
    · have HF := Lib.hid (show bitsI n acked = 0 by rw [bitsI, if_pos (.inr c2)])
      go_enter Try.func7, Try.ntmps7
      go_wp2_with fail
      go_ret2
      exact ⟨by rw [HF.out]; rfl, rfl⟩
    · have HF := Lib.hid (show bitsI n acked = sizeOfDiff (n - acked) by rw [bitsI, if_neg (by omega)])
      have hd1 : decide ((4611686018427387903 : Int) < n) = false := by simp; omega
      have hd2 : decide (n ≤ acked) = false := by simp; omega
      go_enter Try.func7, Try.ntmps7
      go_wp2_with fail
      go_loop [6] (fun i => ∃ k : Nat, i = .int .i64 k ∧ (k = 1 ∨ (k = 2 ∧ 128 < n - acked) ∨ (k = 3 ∧ 32768 < n - acked) ∨ (k = 4 ∧ 8388608 < n - acked) ∨ (k = 5 ∧ 2147483648 < n - acked))) (fun i => 6 - (intOf i).toNat)
      case atStart => exact ⟨1, rfl, .inl rfl⟩
      case round =>
        obtain ⟨k, rfl, hk⟩ := hrel
        rcases hk with rfl | ⟨rfl, hk⟩ | ⟨rfl, hk⟩ | ⟨rfl, hk⟩ | ⟨rfl, hk⟩
        · by_cases hc : n - acked ≤ 128
          · go_wp2_with fail
            go_ret2
            exact ⟨by rw [HF.out, sizeOfDiff, if_pos hc]; rfl, rfl⟩
          · go_wp2_with fail
            go_round
            case rel => exact ⟨2, rfl, by omega⟩
            case measure => simp [intOf]
        · by_cases hc : n - acked ≤ 32768
          · go_wp2_with fail
            go_ret2
            exact ⟨by rw [HF.out, sizeOfDiff, if_neg (show ¬ n - acked ≤ 128 by omega), if_pos hc]; rfl, rfl⟩
          · go_wp2_with fail
            go_round
            case rel => exact ⟨3, rfl, by omega⟩
            case measure => simp [intOf]
        · by_cases hc : n - acked ≤ 8388608
          · go_wp2_with fail
            go_ret2
            exact ⟨by rw [HF.out, sizeOfDiff, if_neg (show ¬ n - acked ≤ 128 by omega), if_neg (show ¬ n - acked ≤ 32768 by omega), if_pos hc]; rfl, rfl⟩
          · go_wp2_with fail
            go_round
            case rel => exact ⟨4, rfl, by omega⟩
            case measure => simp [intOf]
        · by_cases hc : n - acked ≤ 2147483648
          · go_wp2_with fail
            go_ret2
            exact ⟨by rw [HF.out, sizeOfDiff, if_neg (show ¬ n - acked ≤ 128 by omega), if_neg (show ¬ n - acked ≤ 32768 by omega), if_neg (show ¬ n - acked ≤ 8388608 by omega), if_pos hc]; rfl, rfl⟩
          · go_wp2_with fail
            go_round
            case rel => exact ⟨5, rfl, by omega⟩
            case measure => simp [intOf]
        · go_wp2_with fail
          go_ret2
          exact ⟨by rw [HF.out, sizeOfDiff, if_neg (show ¬ n - acked ≤ 128 by omega), if_neg (show ¬ n - acked ≤ 32768 by omega), if_neg (show ¬ n - acked ≤ 8388608 by omega), if_neg (show ¬ n - acked ≤ 2147483648 by omega)]; rfl, rfl⟩
end Go.Proofs.Ytpclmedpnoalhaa
