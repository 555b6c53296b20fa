/- The CRC-32C, in plain Lean. -/
import Derived.Test.YtnfolopodjdlbaaRows
namespace Go.Proofs.Ytnfolopodjdlbaa
/-- One bit of the CRC-32C. -/
def stp (c : Nat) : Nat := if c % 2 = 1 then c / 2 ^^^ 2197175160 else c / 2
def stps : Nat → Nat → Nat
  | 0, c => c
  | k + 1, c => stps k (stp c)
theorem stps_succ (k c : Nat) : stps (k + 1) c = stp (stps k c) := by
  induction k generalizing c with
  | zero => rfl
  | succ k ih => exact ih (stp c)
theorem stps_add (j k c : Nat) : stps (j + k) c = stps k (stps j c) := by
  induction j generalizing c with
  | zero => simp [stps]
  | succ j ih => rw [Nat.succ_add]; exact ih (stp c)
theorem xlc (a b c : Nat) : a ^^^ (b ^^^ c) = b ^^^ (a ^^^ c) := by rw [← Nat.xor_assoc, Nat.xor_comm a b, Nat.xor_assoc]
theorem stp_xor (a b : Nat) : stp (a ^^^ b) = stp a ^^^ stp b := by
  unfold stp
  have h1 : (a ^^^ b) / 2 = a / 2 ^^^ b / 2 := Nat.xor_div_two
  have h2 := Nat.xor_mod_two_eq_one (a := a) (b := b)
  rw [h1]
  rcases Nat.mod_two_eq_zero_or_one a with ha | ha <;> rcases Nat.mod_two_eq_zero_or_one b with hb | hb <;> simp [ha, hb] at h2 <;> simp [ha, hb] <;> simp only [Nat.xor_assoc]
  · rw [Nat.xor_comm 2197175160]
  · rw [xlc 2197175160, Nat.xor_self, Nat.xor_zero]
theorem stps_xor (k a b : Nat) : stps k (a ^^^ b) = stps k a ^^^ stps k b := by
  induction k generalizing a b with
  | zero => rfl
  | succ k ih => simp only [stps]; rw [stp_xor, ih]
theorem stp_even (m : Nat) : stp (2 * m) = m := by
  unfold stp
  rw [if_neg (by omega)]; omega
theorem split16 (c : Nat) : (16 * (c / 16)) ^^^ (c % 16) = c := by
  apply Nat.eq_of_testBit_eq
  intro i
  rw [Nat.testBit_xor, show 16 * (c / 16) = 2 ^ 4 * (c / 2 ^ 4) by rfl, show (16 : Nat) = 2 ^ 4 by rfl, Nat.testBit_two_pow_mul, Nat.testBit_div_two_pow, Nat.testBit_mod_two_pow]
  by_cases h : 4 ≤ i
  · simp [h, show ¬ i < 4 by omega, show i - 4 + 4 = i by omega]
  · simp [h, show i < 4 by omega]
/-- A table of sixteen does four bits. -/
theorem four (c : Nat) : stps 4 c = (c / 16) ^^^ stps 4 (c % 16) := by
  have h := stps_xor 4 (16 * (c / 16)) (c % 16)
  rw [split16] at h
  rw [h]
  congr 1
  simp only [stps]
  rw [show 16 * (c / 16) = 2 * (2 * (2 * (2 * (c / 16)))) by omega, stp_even, stp_even, stp_even, stp_even]
theorem stp_lt {c : Nat} (h : c < 2 ^ 32) : stp c < 2 ^ 32 := by
  unfold stp
  split
  · exact Nat.xor_lt_two_pow (by omega) (by decide)
  · omega
theorem stps_lt {k c : Nat} (h : c < 2 ^ 32) : stps k c < 2 ^ 32 := by
  induction k generalizing c with
  | zero => exact h
  | succ k ih => exact ih (stp_lt h)
/-- The CRC of bytes so far. -/
def crc (c : Nat) : List UInt8 → Nat
  | [] => c
  | b :: l => crc (stps 8 (c ^^^ b.toNat)) l
theorem crc_append (c : Nat) (l m : List UInt8) : crc c (l ++ m) = crc (crc c l) m := by
  induction l generalizing c with
  | nil => rfl
  | cons b l ih => exact ih _
theorem crc_lt {c : Nat} (h : c < 2 ^ 32) (l : List UInt8) : crc c l < 2 ^ 32 := by
  induction l generalizing c with
  | nil => exact h
  | cons b l ih => exact ih (stps_lt (Nat.xor_lt_two_pow h (by have := b.toNat_lt; omega)))
theorem eight (c : Nat) : stps 8 c = (stps 4 c / 16) ^^^ stps 4 (stps 4 c % 16) := by
  rw [← four, ← stps_add]
end Go.Proofs.Ytnfolopodjdlbaa
