/- Plain words: the number that bytes begin with. -/
import Derived.Test.YtpclmedpnoalhaaOctPlain
namespace Go.Proofs.Ytpclmedpnoalhaa
theorem foldl_num (t : List UInt8) (a : Int) : t.foldl (fun n c => n * 256 + (c.toNat : Int)) a = a * 256 ^ t.length + num t := by
  unfold num
  induction t generalizing a with
  | nil => simp
  | cons x t ih =>
    simp only [List.foldl_cons, List.length_cons]
    rw [ih, ih (0 * 256 + (x.toNat : Int)), Int.pow_succ, Int.add_mul, Int.mul_assoc, Int.mul_comm 256 (256 ^ t.length), Int.zero_mul, Int.zero_add]
    omega
theorem num_cons (x : UInt8) (t : List UInt8) : num (x :: t) = (x.toNat : Int) * 256 ^ t.length + num t := by
  have := foldl_num t (0 * 256 + (x.toNat : Int))
  simp only [num, List.foldl_cons] at this ⊢
  rw [this]; simp
theorem num_lt (t : List UInt8) : 0 ≤ num t ∧ num t < 256 ^ t.length := by
  have := num_range t t.length (Nat.le_refl _)
  rwa [List.take_of_length_le (Nat.le_refl _)] at this
/-- How many bytes a number has that begins so. -/
def szOf (x : UInt8) : Nat := 2 ^ (x.toNat / 64)
/-- The number, of the first bytes. -/
def valOf (l : List UInt8) (k : Nat) : Int := num (l.take k) % 2 ^ (8 * k - 2)
theorem sz_cases (x : UInt8) : (x.toNat / 64 = 0 ∧ szOf x = 1) ∨ (x.toNat / 64 = 1 ∧ szOf x = 2) ∨ (x.toNat / 64 = 2 ∧ szOf x = 4) ∨ (x.toNat / 64 = 3 ∧ szOf x = 8) := by
  have := x.toNat_lt
  have h : x.toNat / 64 = 0 ∨ x.toNat / 64 = 1 ∨ x.toNat / 64 = 2 ∨ x.toNat / 64 = 3 := by omega
  unfold szOf
  rcases h with h | h | h | h <;> rw [h] <;> simp
theorem low6 (x : UInt8) : ((UInt8.ofNat (x.toNat % 64)).toNat) = x.toNat % 64 := by
  have := x.toNat_lt
  rw [UInt8.toNat_ofNat_of_lt' (by show x.toNat % 64 < 256; omega)]
/-- The marks of the first byte struck: the same number. -/
theorem val_eq (x y : UInt8) (l : List UInt8) (hx : szOf x ≤ l.length + 1) (hy : y.toNat = x.toNat % 64) : num (y :: l.take (szOf x - 1)) = valOf (x :: l) (szOf x) := by
  have hxl := x.toNat_lt
  unfold valOf
  obtain ⟨k, hk⟩ : ∃ k, szOf x = k + 1 := ⟨szOf x - 1, by have : 0 < szOf x := Nat.two_pow_pos _; omega⟩
  rw [hk] at hx ⊢
  rw [List.take_succ_cons, num_cons, num_cons, Nat.add_sub_cancel, hy]
  have hl : (l.take k).length = k := by simp; omega
  have hr := num_lt (l.take k)
  rw [hl] at hr ⊢
  generalize num (l.take k) = t at hr ⊢
  have hk4 : k = 0 ∨ k = 1 ∨ k = 3 ∨ k = 7 := by rcases sz_cases x with ⟨_, h⟩ | ⟨_, h⟩ | ⟨_, h⟩ | ⟨_, h⟩ <;> omega
  rcases hk4 with rfl | rfl | rfl | rfl <;> simp at hr ⊢ <;> omega
end Go.Proofs.Ytpclmedpnoalhaa
