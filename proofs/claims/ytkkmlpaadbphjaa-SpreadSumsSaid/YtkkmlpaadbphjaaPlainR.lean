/- Plain words: the sum bit by bit is the sum byte by byte. -/
import Derived.Test.YtkkmlpaadbphjaaPlain
namespace Go.Proofs.Ytkkmlpaadbphjaa
set_option linter.unusedVariables false
/-- Bit k of bytes. -/
def kbit (b : List UInt8) (k : Nat) : Nat := kb b (k / 8) / 2 ^ (7 - k % 8) % 2
theorem kbit_lt (b : List UInt8) (k : Nat) : kbit b k < 2 := by unfold kbit; omega
theorem kbit_at (b : List UInt8) (m j : Nat) (hj : j < 8) : kbit b (8 * m + j) = kb b m / 2 ^ (7 - j) % 2 := by
  unfold kbit
  rw [show (8 * m + j) / 8 = m by omega, show (8 * m + j) % 8 = j by omega]
/-- n bits from bit k on, as a number. -/
def wr (key : List UInt8) (k : Nat) : Nat → Nat
  | 0 => 0
  | n + 1 => wr key k n * 2 + kbit key (k + n)
theorem wr_lt (key : List UInt8) (k n : Nat) : wr key k n < 2 ^ n := by
  induction n with
  | zero => simp [wr]
  | succ n ih => have := kbit_lt key (k + n); rw [wr, Nat.pow_succ]; omega
theorem wr_add (key : List UInt8) (k a b : Nat) : wr key k (a + b) = wr key k a * 2 ^ b + wr key (k + a) b := by
  induction b with
  | zero => simp [wr]
  | succ b ih =>
    rw [← Nat.add_assoc, wr, ih, wr, Nat.pow_succ, ← Nat.add_assoc k a b, Nat.add_mul, Nat.mul_assoc]
    omega
theorem wr_byte (key : List UInt8) (m : Nat) : wr key (8 * m) 8 = kb key m := by
  have h := kb_lt key m
  have e : ∀ j, j < 8 → kbit key (8 * m + j) = kb key m / 2 ^ (7 - j) % 2 := fun j hj => kbit_at key m j hj
  simp only [wr]
  rw [e 0 (by omega), e 1 (by omega), e 2 (by omega), e 3 (by omega), e 4 (by omega), e 5 (by omega), e 6 (by omega), e 7 (by omega)]
  generalize kb key m = x at h
  simp only [Nat.reduceSub, Nat.reducePow]
  omega
def W5 (key : List UInt8) (i : Nat) : Nat := (((kb key i * 256 + kb key (i + 1)) * 256 + kb key (i + 2)) * 256 + kb key (i + 3)) * 256 + kb key (i + 4)
theorem wr_five (key : List UInt8) (i : Nat) : wr key (8 * i) 40 = W5 key i := by
  rw [show (40 : Nat) = 8 + (8 + (8 + (8 + 8))) from rfl]
  rw [wr_add, wr_add, wr_add, wr_add]
  rw [show 8 * i + 8 = 8 * (i + 1) by omega, show 8 * (i + 1) + 8 = 8 * (i + 2) by omega, show 8 * (i + 2) + 8 = 8 * (i + 3) by omega, show 8 * (i + 3) + 8 = 8 * (i + 4) by omega]
  rw [wr_byte, wr_byte, wr_byte, wr_byte, wr_byte]
  unfold W5
  simp only [Nat.reduceAdd, Nat.reducePow]
  omega
theorem win_five (key : List UInt8) (i : Nat) : win key (i + 1) % 1099511627776 = W5 key i := by
  induction i with
  | zero =>
    have h0 := kb_lt key 0
    have h1 := kb_lt key 1
    have h2 := kb_lt key 2
    have h3 := kb_lt key 3
    have h4 := kb_lt key 4
    simp only [win, pre, W5, Nat.zero_add]
    omega
  | succ i ih =>
    have h1 := kb_lt key (i + 1)
    have h2 := kb_lt key (i + 2)
    have h3 := kb_lt key (i + 3)
    have h4 := kb_lt key (i + 4)
    have h5 := kb_lt key (i + 5)
    rw [win, show i + 1 + 4 = i + 5 by omega]
    unfold W5 at ih ⊢
    rw [show i + 1 + 1 = i + 2 by omega, show i + 1 + 2 = i + 3 by omega, show i + 1 + 3 = i + 4 by omega, show i + 1 + 4 = i + 5 by omega]
    generalize win key (i + 1) = x at ih
    omega
theorem wr_term (key : List UInt8) (i j : Nat) (hj : j < 8) : wr key (8 * i + j) 32 = term (win key (i + 1)) j := by
  have h5 := wr_five key i
  have hw := win_five key i
  rw [show (40 : Nat) = j + (32 + (8 - j)) by omega, wr_add, wr_add] at h5
  have h1 := wr_lt key (8 * i + j) 32
  have h2 := wr_lt key (8 * i + j + 32) (8 - j)
  unfold term
  generalize wr key (8 * i + j) 32 = y at *
  generalize wr key (8 * i + j + 32) (8 - j) = z at *
  generalize wr key (8 * i) j = u at *
  generalize W5 key i = v at *
  generalize win key (i + 1) = x at *
  have hc : j = 0 ∨ j = 1 ∨ j = 2 ∨ j = 3 ∨ j = 4 ∨ j = 5 ∨ j = 6 ∨ j = 7 := by omega
  rcases hc with rfl | rfl | rfl | rfl | rfl | rfl | rfl | rfl <;> simp only [Nat.reduceSub, Nat.reduceAdd, Nat.reducePow] at * <;> omega
/-- The sum of the bits before k. -/
def rs (key b : List UInt8) : Nat → Nat
  | 0 => 0
  | k + 1 => if kbit b k = 0 then rs key b k else rs key b k ^^^ wr key k 32
theorem rs_lt (key b : List UInt8) (k : Nat) : rs key b k < 4294967296 := by
  induction k with
  | zero => simp [rs]
  | succ k ih =>
    rw [rs]; split
    · exact ih
    · exact Nat.xor_lt_two_pow (n := 32) ih (wr_lt key k 32)
theorem rs_inn (key b : List UInt8) (i : Nat) (h : rs key b (8 * i) = sm key b i) (j : Nat) (hj : j ≤ 8) : rs key b (8 * i + j) = sm key b i ^^^ inn (win key (i + 1)) (kb b i) j := by
  induction j with
  | zero => simpa [inn] using h
  | succ j ih =>
    have ih' := ih (by omega)
    rw [← Nat.add_assoc, rs, ih', kbit_at b i j (by omega), wr_term key i j (by omega)]
    simp only [inn]
    rw [Nat.testBit_eq_decide_div_mod_eq]
    by_cases e : kb b i / 2 ^ (7 - j) % 2 = 0
    · rw [if_pos e, if_neg (by simp; omega)]; simp
    · rw [if_neg e, if_pos (by simp; omega), Nat.xor_assoc]
theorem rs_sm (key b : List UInt8) (i : Nat) : rs key b (8 * i) = sm key b i := by
  induction i with
  | zero => rfl
  | succ i ih => rw [show 8 * (i + 1) = 8 * i + 8 by omega, rs_inn key b i ih 8 (by omega), sm]
end Go.Proofs.Ytkkmlpaadbphjaa
