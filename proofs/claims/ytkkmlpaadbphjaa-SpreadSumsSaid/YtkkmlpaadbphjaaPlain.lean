/- Plain words on the sum of bytes with a key: exclusive-or, bit by bit. -/
import Derived.WalkKit
import Derived.Laws.BitsAllLaws
namespace Go.Proofs.Ytkkmlpaadbphjaa
/-- The key's byte i, 0 behind it. -/
def kb (key : List UInt8) (i : Nat) : Nat := (key.getD i 0).toNat
theorem kb_lt (key : List UInt8) (i : Nat) : kb key i < 256 := by unfold kb; exact (key.getD i 0).toNat_lt
/-- The key's first k bytes as a number. -/
def pre (key : List UInt8) : Nat → Nat
  | 0 => 0
  | k + 1 => pre key k * 256 + kb key k
theorem pre_lt (key : List UInt8) (k : Nat) (h : k ≤ 4) : pre key k < 4294967296 := by
  have h0 := kb_lt key 0
  have h1 := kb_lt key 1
  have h2 := kb_lt key 2
  have h3 := kb_lt key 3
  have : k = 0 ∨ k = 1 ∨ k = 2 ∨ k = 3 ∨ k = 4 := by omega
  rcases this with rfl | rfl | rfl | rfl | rfl <;> simp only [pre] <;> omega
/-- The window at byte i. -/
def win (key : List UInt8) : Nat → Nat
  | 0 => pre key 4
  | i + 1 => win key i * 256 % 18446744073709551616 + kb key (i + 4)
theorem win_lt (key : List UInt8) (i : Nat) : win key i < 18446744073709551616 := by
  cases i with
  | zero => have := pre_lt key 4 (by omega); simp only [win]; omega
  | succ i => have := kb_lt key (i + 4); simp only [win]; omega
def term (B j : Nat) : Nat := B / 2 ^ (8 - j) % 4294967296
def inn (B x : Nat) : Nat → Nat
  | 0 => 0
  | j + 1 => inn B x j ^^^ (if x.testBit (7 - j) then term B j else 0)
def sm (key b : List UInt8) : Nat → Nat
  | 0 => 0
  | i + 1 => sm key b i ^^^ inn (win key (i + 1)) (kb b i) 8
theorem term_lt (B j : Nat) : term B j < 4294967296 := by unfold term; omega
theorem inn_lt (B x j : Nat) : inn B x j < 4294967296 := by
  induction j with
  | zero => simp [inn]
  | succ j ih =>
    simp only [inn]
    exact Nat.xor_lt_two_pow (n := 32) ih (by split; exact term_lt B j; decide)
theorem sm_lt (key b : List UInt8) (i : Nat) : sm key b i < 4294967296 := by
  induction i with
  | zero => simp [sm]
  | succ i ih => simp only [sm]; exact Nat.xor_lt_two_pow (n := 32) ih (inn_lt _ _ _)
/-- The sum of exclusive-ors is the exclusive-or of the sums. -/
theorem xor4 (a b c d : Nat) : (a ^^^ b) ^^^ (c ^^^ d) = (a ^^^ c) ^^^ (b ^^^ d) := by
  rw [Nat.xor_assoc, Nat.xor_assoc, ← Nat.xor_assoc b c d, Nat.xor_comm b c, Nat.xor_assoc c b d]
theorem inn_xor (B x y j : Nat) : inn B (x ^^^ y) j = inn B x j ^^^ inn B y j := by
  induction j with
  | zero => simp [inn]
  | succ j ih =>
    simp only [inn]
    rw [ih, xor4, Nat.testBit_xor]
    cases x.testBit (7 - j) <;> cases y.testBit (7 - j) <;> simp
theorem sm_xor (key a b c : List UInt8) (i : Nat) (h : ∀ k, k < i → kb c k = kb a k ^^^ kb b k) : sm key c i = sm key a i ^^^ sm key b i := by
  induction i with
  | zero => simp [sm]
  | succ i ih =>
    simp only [sm]
    rw [ih (fun k hk => h k (by omega)), h i (by omega), inn_xor, xor4]
theorem sm_congr (key a b : List UInt8) (i : Nat) (h : ∀ k, k < i → kb a k = kb b k) : sm key a i = sm key b i := by
  induction i with
  | zero => rfl
  | succ i ih => simp only [sm]; rw [ih (fun k hk => h k (by omega)), h i (by omega)]
end Go.Proofs.Ytkkmlpaadbphjaa
