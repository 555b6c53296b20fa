/- Plain words: the bytes of a number with its marks. -/
import Derived.Test.YtpclmedpnoalhaaT
namespace Go.Proofs.Ytpclmedpnoalhaa
theorem digs_cons (k : Nat) (n : Int) : digs (k + 1) n = b8 (n / 256 ^ k) :: digs k n := by
  induction k generalizing n with
  | zero => simp [digs]
  | succ k ih =>
    rw [digs, ih (n / 256), digs, Int.pow_succ, Int.mul_comm (256 ^ k) 256, ← Int.ediv_ediv_of_nonneg (by omega)]
    rfl
theorem b8_add (n c : Int) : b8 (n + c * 256) = b8 n := by unfold b8; rw [show (n + c * 256) % 256 = n % 256 by omega]
theorem digs_add (k : Nat) (n c : Int) : digs k (n + c * 256 ^ k) = digs k n := by
  induction k generalizing n c with
  | zero => rfl
  | succ k ih =>
    have e : n + c * 256 ^ (k + 1) = n + (c * 256 ^ k) * 256 := by rw [Int.pow_succ, Int.mul_assoc]
    rw [e, digs, digs, b8_add, Int.add_mul_ediv_right _ _ (by omega), ih]
theorem num_digs (k : Nat) (n : Int) : num (digs k n) = n % 256 ^ k := by
  induction k generalizing n with
  | zero => simp [digs, num, Int.emod_one]
  | succ k ih =>
    rw [digs, num_snoc, ih, b8_val, Int.pow_succ]
    have hp : (0 : Int) < 256 ^ k := Int.pow_pos (by omega)
    generalize (256 : Int) ^ k = p at hp
    have h1 := Int.mul_ediv_add_emod (n / 256) p
    have h2 := Int.emod_nonneg (n / 256) (Int.ne_of_gt hp)
    have h3 := Int.emod_lt_of_pos (n / 256) hp
    generalize hq : n / 256 / p = q at h1
    generalize n / 256 % p = r at h1 h2 h3
    have h4 : n = (r * 256 + n % 256) + (p * 256) * q := by
      rw [Int.mul_assoc, Int.mul_comm 256 q, ← Int.mul_assoc]; omega
    have b0 : 0 ≤ n % 256 ∧ n % 256 < 256 := by omega
    generalize n % 256 = r0 at h4 b0
    rw [h4, Int.add_mul_emod_self_left, Int.emod_eq_of_lt (by omega) (by omega)]
/-- The bytes of a number of k + 1 bytes, and those with the marks q. -/
theorem digs_marks (k : Nat) (n q : Int) (h0 : 0 ≤ n) (h1 : n < 64 * 256 ^ k) (q0 : 0 ≤ q) (q3 : q ≤ 3) :
    ∃ (x y : UInt8) (t : List UInt8), digs (k + 1) n = x :: t ∧ digs (k + 1) (n + 64 * q * 256 ^ k) = y :: t ∧ (x.toNat : Int) < 64 ∧ (y.toNat : Int) = x.toNat + 64 * q ∧ t.length = k := by
  have hp : (0 : Int) < 256 ^ k := Int.pow_pos (by omega)
  have hd0 : 0 ≤ n / 256 ^ k := Int.ediv_nonneg h0 (Int.le_of_lt hp)
  have hd1 : n / 256 ^ k < 64 := Int.ediv_lt_of_lt_mul hp h1
  refine ⟨b8 (n / 256 ^ k), b8 ((n + 64 * q * 256 ^ k) / 256 ^ k), digs k n, digs_cons _ _, by rw [digs_cons, digs_add], ?_, ?_, digs_length _ _⟩
  · rw [b8_val]; omega
  · rw [b8_val, b8_val, Int.add_mul_ediv_right _ _ (Int.ne_of_gt hp)]; omega
theorem tk_marks (k : Nat) (n q : Int) (l : List UInt8) (h0 : 0 ≤ n) (h1 : n < 64 * 256 ^ k) (q0 : 0 ≤ q) (q3 : q ≤ 3) (hk : k + 1 = 2 ^ q.toNat) :
    tkN (digs (k + 1) (n + 64 * q * 256 ^ k) ++ l) = k + 1 ∧ tkV (digs (k + 1) (n + 64 * q * 256 ^ k) ++ l) = n := by
  have hnd := num_digs (k + 1) (n + 64 * q * 256 ^ k)
  obtain ⟨x, y, t, -, h2, h3, h4, h5⟩ := digs_marks k n q h0 h1 q0 q3
  rw [h2] at hnd ⊢
  have hyl := y.toNat_lt
  have hsz : szOf y = k + 1 := by
    unfold szOf
    rw [show y.toNat / 64 = q.toNat by omega, hk]
  have hlen : (t ++ l).length = k + l.length := by simp [h5]
  rw [List.cons_append]
  simp only [tkN, tkV]
  rw [hsz, hlen, if_neg (by omega), if_neg (by omega)]
  refine ⟨rfl, ?_⟩
  unfold valOf
  rw [List.take_succ_cons, List.take_append_of_le_length (by omega), List.take_of_length_le (by omega), hnd]
  have hq : q = 0 ∨ q = 1 ∨ q = 2 ∨ q = 3 := by omega
  rcases hq with rfl | rfl | rfl | rfl
  · obtain rfl : k = 0 := by simp at hk; exact hk
    simp at h1 ⊢; omega
  · obtain rfl : k = 1 := by simp at hk; exact hk
    simp at h1 ⊢; omega
  · obtain rfl : k = 3 := by simp at hk; omega
    simp at h1 ⊢; omega
  · obtain rfl : k = 7 := by simp at hk; omega
    simp at h1 ⊢; omega
theorem or_marks (n q : Int) (k : Nat) (hk : k ≤ 62) (h0 : 0 ≤ n) (h1 : n < 2 ^ k) (q0 : 0 ≤ q) (q3 : q ≤ 3) : bits .or .u64 n (q * 2 ^ k) = n + q * 2 ^ k := by
  have hp' : 2 ^ k ≤ 2 ^ 62 := Nat.pow_le_pow_right (show 0 < 2 by omega) hk
  have hc : ((2 ^ k : Nat) : Int) = 2 ^ k := by simp
  obtain ⟨n, rfl⟩ := Int.eq_ofNat_of_zero_le h0
  obtain ⟨q, rfl⟩ := Int.eq_ofNat_of_zero_le q0
  rw [← hc] at h1 ⊢
  have e : ((q : Int) * ((2 ^ k : Nat) : Int)) = ((q * 2 ^ k : Nat) : Int) := by simp
  have hq : q ≤ 3 := by omega
  have hn : n < 2 ^ k := by omega
  have hm : q * 2 ^ k ≤ 3 * 2 ^ 62 := Nat.mul_le_mul hq hp'
  rw [e, u64_or_nat _ _ (by omega) (by omega), Nat.or_comm, nat_join k _ _ (Nat.mul_mod_left _ _) hn]
  omega
end Go.Proofs.Ytpclmedpnoalhaa
