/- A frame is what stands there just if the record is whole. No program in sight. -/
import Derived.Test.YtnfolopodjdlbaaF
namespace Go.Proofs.Ytnfolopodjdlbaa
open Go.RowKit
set_option linter.unusedVariables false
theorem num_digsP (k : Nat) (n : Int) : num (digs k n) = n % 256 ^ k := by
  induction k generalizing n with
  | zero => simp [digs, num, Int.emod_one]
  | succ k ih =>
    rw [digs, num_snoc, ih, b8_val, Int.pow_succ]
    have hp : (0 : Int) < 256 ^ k := Int.pow_pos (by omega)
    generalize (256 : Int) ^ k = p at hp
    have h1 := Int.mul_ediv_add_emod (n / 256) p
    have h2 := Int.emod_nonneg (n / 256) (Int.ne_of_gt hp)
    have h3 := Int.emod_lt_of_pos (n / 256) hp
    generalize hq : n / 256 / p = q at h1
    generalize n / 256 % p = r at h1 h2 h3
    have h4 : n = (r * 256 + n % 256) + (p * 256) * q := by
      rw [Int.mul_assoc, Int.mul_comm 256 q, ← Int.mul_assoc]; omega
    have b0 : 0 ≤ n % 256 ∧ n % 256 < 256 := by omega
    generalize n % 256 = r0 at h4 b0
    rw [h4, Int.add_mul_emod_self_left, Int.emod_eq_of_lt (by omega) (by omega)]
/-- The bytes of a number of k + 1 bytes, and those with the marks q. -/
theorem digs_numP (l : List UInt8) : digs l.length (num l) = l := by
  induction h : l.length generalizing l with
  | zero => rw [List.eq_nil_of_length_eq_zero h]; rfl
  | succ k ih =>
    obtain ⟨m, x, rfl⟩ : ∃ m x, l = m ++ [x] := ⟨l.dropLast, l.getLast (by intro e; simp [e] at h), (List.dropLast_concat_getLast _).symm⟩
    have hm : m.length = k := by simpa using h
    have hx : ((x.toNat : Int)) < 256 := by have := x.toNat_lt; omega
    have h1 : (num m * 256 + (x.toNat : Int)) / 256 = num m := by omega
    have h2 : b8 (num m * 256 + (x.toNat : Int)) = x := by
      have := b8_val (num m * 256 + (x.toNat : Int))
      have h3 : (num m * 256 + (x.toNat : Int)) % 256 = (x.toNat : Int) := by omega
      rw [h3] at this
      exact UInt8.toNat_inj.1 (by omega)
    rw [num_snoc, digs, h1, h2, ih m hm]
theorem digs_eq_iff (k : Nat) (n : Int) (l : List UInt8) (hl : l.length = k) (n0 : 0 ≤ n) (n1 : n < 256 ^ k) : digs k n = l ↔ n = num l := by
  constructor
  · rintro rfl
    rw [num_digsP, Int.emod_eq_of_lt n0 n1]
  · rintro rfl
    rw [← hl]; exact digs_numP l
theorem split4 (x : List UInt8) (n : Nat) : x.take (14 + n) = x.take 8 ++ ((x.drop 8).take 2 ++ ((x.drop 10).take 4 ++ (x.drop 14).take n)) := by
  rw [show (x.drop 14).take n = (x.drop 14).take n from rfl]
  have h1 : x.take (14 + n) = x.take 8 ++ (x.drop 8).take (6 + n) := by rw [show 14 + n = 8 + (6 + n) by omega, List.take_add]
  have h2 : (x.drop 8).take (6 + n) = (x.drop 8).take 2 ++ (x.drop 10).take (4 + n) := by rw [show 6 + n = 2 + (4 + n) by omega, List.take_add, List.drop_drop]
  have h3 : (x.drop 10).take (4 + n) = (x.drop 10).take 4 ++ (x.drop 14).take n := by rw [List.take_add, List.drop_drop]
  rw [h1, h2, h3]
theorem frame_iff (x : List UInt8) (n : Int) (h14 : 14 ≤ x.length) (h4 : szOf x ≤ 4096) (h5 : szOf x + 14 ≤ x.length) (n0 : 0 ≤ n) (n1 : n < 18446744073709551616) :
    frame n ((x.drop 14).take (szOf x)) = x.take (14 + szOf x) ↔ firstOk x n := by
  have hy : ((x.drop 14).take (szOf x)).length = szOf x := by rw [List.length_take, List.length_drop]; omega
  have hn2 := num_range (x.drop 8) 2 (by rw [List.length_drop]; omega)
  have hs2 : ((szOf x : Nat) : Int) = num ((x.drop 8).take 2) := by unfold szOf; omega
  have hd2 : digs 2 ((szOf x : Nat) : Int) = (x.drop 8).take 2 := by
    rw [hs2]
    have := digs_numP ((x.drop 8).take 2)
    rwa [show ((x.drop 8).take 2).length = 2 by rw [List.length_take, List.length_drop]; omega] at this
  have h10 : x.take 10 = x.take 8 ++ (x.drop 8).take 2 := by rw [show 10 = 8 + 2 by rfl, List.take_add]
  obtain ⟨y, hye⟩ : ∃ y, (x.drop 14).take (szOf x) = y := ⟨_, rfl⟩
  unfold frame hd firstOk
  rw [hye] at hy
  rw [split4, hye, hy, hd2, h10]
  have e8 := digs_eq_iff 8 n (x.take 8) (by rw [List.length_take]; omega) n0 (by omega)
  have hlt := crcOf_lt ((x.take 8 ++ (x.drop 8).take 2) ++ y)
  have e4 := digs_eq_iff 4 (crcOf ((x.take 8 ++ (x.drop 8).take 2) ++ y) : Int) ((x.drop 10).take 4) (by rw [List.length_take, List.length_drop]; omega) (by omega) (by omega)
  constructor
  · intro h
    simp only [List.append_assoc] at h
    obtain ⟨a1, h⟩ := List.append_inj h (by rw [digs_length, List.length_take]; omega)
    obtain ⟨a2, h⟩ := List.append_inj h rfl
    obtain ⟨a3, h⟩ := List.append_inj h (by rw [digs_length, List.length_take, List.length_drop]; omega)
    rw [a1] at a3
    have a3' : digs 4 (crcOf ((x.take 8 ++ (x.drop 8).take 2) ++ y) : Int) = (x.drop 10).take 4 := by rw [List.append_assoc]; exact a3
    exact ⟨h14, (e8.1 a1).symm, h4, h5, e4.1 a3'⟩
  · rintro ⟨_, b1, _, _, b2⟩
    rw [e8.2 b1.symm, e4.2 b2]
    simp [List.append_assoc]
end Go.Proofs.Ytnfolopodjdlbaa
