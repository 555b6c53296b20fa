/- Plain arithmetic of layer 39: powers of two, low bits, how many bytes are told, which number is nearest. -/
import Derived.WalkKit
import Derived.Laws.BitsAllLaws
namespace Go.Proofs.Ytpclmedpnoalhaa

theorem and_high (x i : Nat) (hi : i ≤ 64) (hx : x < 2 ^ 64) : x &&& (2 ^ 64 - 2 ^ i) = x - x % 2 ^ i := by
  have e1 : 2 ^ 64 - 2 ^ i = (2 ^ (64 - i) - 1) <<< i := by
    rw [Nat.shiftLeft_eq, Nat.sub_mul, ← Nat.pow_add, Nat.one_mul, Nat.sub_add_cancel hi]
  have e2 : x - x % 2 ^ i = (x >>> i) <<< i := by
    rw [Nat.shiftLeft_eq, Nat.shiftRight_eq_div_pow]
    have := Nat.div_add_mod x (2 ^ i)
    rw [Nat.mul_comm] at this
    omega
  rw [e1, e2]
  apply Nat.eq_of_testBit_eq
  intro j
  rw [Nat.testBit_and, Nat.testBit_shiftLeft, Nat.testBit_shiftLeft, Nat.testBit_shiftRight, Nat.testBit_two_pow_sub_one]
  by_cases h : i ≤ j
  · have e : i + (j - i) = j := by omega
    simp only [h, decide_true, Bool.true_and, e]
    by_cases h64 : j < 64
    · simp [show j - i < 64 - i by omega]
    · have : x.testBit j = false := Nat.testBit_lt_two_pow (Nat.lt_of_lt_of_le hx (Nat.pow_le_pow_right (by omega) (by omega)))
      simp [this]
  · simp [h]

theorem andNot_mask (x : Int) (i : Nat) (m : Int) (hi : i ≤ 63) (hm : m = 2 ^ i - 1) (h0 : 0 ≤ x) (h1 : x < 18446744073709551616) : bits .andNot .u64 x m = x - x % 2 ^ i := by
  subst hm
  obtain ⟨x, rfl⟩ := Int.eq_ofNat_of_zero_le h0
  have hp : (1 : Nat) ≤ 2 ^ i := Nat.one_le_two_pow
  have hp2 : (2 : Nat) ^ i ≤ 2 ^ 63 := Nat.pow_le_pow_right (by omega) hi
  have e : ((2 : Int) ^ i - 1) = ((2 ^ i - 1 : Nat) : Int) := by
    rw [Int.natCast_sub hp]; simp
  rw [e, u64_andNot_nat x (2 ^ i - 1) (by omega) (by omega)]
  have e2 : 18446744073709551615 - (2 ^ i - 1) = 2 ^ 64 - 2 ^ i := by omega
  rw [e2, and_high x i (by omega) (by omega)]
  have := Nat.mod_le x (2 ^ i)
  rw [Int.natCast_sub this]
  simp

theorem or_low (x t : Int) (i : Nat) (W : Int) (hW : W = 2 ^ i) (hi : i ≤ 63) (h0 : 0 ≤ x) (h1 : x < 18446744073709551616) (t0 : 0 ≤ t) (t1 : t < W) : bits .or .u64 (x - x % W) t = x - x % W + t := by
  subst hW
  obtain ⟨x, rfl⟩ := Int.eq_ofNat_of_zero_le h0
  obtain ⟨t, rfl⟩ := Int.eq_ofNat_of_zero_le t0
  have t1' : t < 2 ^ i := by
    have : ((t : Nat) : Int) < ((2 ^ i : Nat) : Int) := by simpa using t1
    omega
  have hp2 : (2 : Nat) ^ i ≤ 2 ^ 63 := Nat.pow_le_pow_right (by omega) hi
  have hml := Nat.mod_le x (2 ^ i)
  have e : ((x : Int) - (x : Int) % 2 ^ i) = ((x - x % 2 ^ i : Nat) : Int) := by
    rw [Int.natCast_sub hml]; simp
  rw [e, u64_or_nat _ _ (by omega) (by omega), nat_join i _ _ _ t1']
  · simp
  · have := Nat.div_add_mod x (2 ^ i)
    have e3 : x - x % 2 ^ i = 2 ^ i * (x / 2 ^ i) := by omega
    rw [e3, Nat.mul_mod_right]

/-- How many bytes are told, of the difference d. -/
def sizeOfDiff (d : Int) : Int := if d ≤ 128 then 1 else if d ≤ 32768 then 2 else if d ≤ 8388608 then 3 else if d ≤ 2147483648 then 4 else 0
def bitsI (n acked : Int) : Int := if 4611686018427387904 ≤ n ∨ n ≤ acked then 0 else sizeOfDiff (n - acked)

/-- The number that is nearest to the expected one. -/
def expandI (W e t : Int) : Int :=
  let n := e - e % W + t
  if n + W / 2 ≤ e ∧ n < 4611686018427387904 - W then n + W else if e + W / 2 < n ∧ W ≤ n then n - W else n

end Go.Proofs.Ytpclmedpnoalhaa
