/- Plain words on token buckets. -/
import Derived.WalkKit
namespace Go.Proofs.Ytcpiohmgnlapiaa
/-- The level and the time after a refill at 'now'. -/
def fillL (r s lv t now : Int) : Int := if now ≤ t then lv else min (lv + r * min (now - t) 2147483648) s
def fillT (t now : Int) : Int := if now ≤ t then t else now
theorem mul_le {r p a b : Int} (r0 : 0 ≤ r) (r1 : r ≤ a) (p0 : 0 ≤ p) (p1 : p ≤ b) : 0 ≤ r * p ∧ r * p ≤ a * b :=
  ⟨Int.mul_nonneg r0 p0, Int.mul_le_mul r1 p1 p0 (by omega)⟩
theorem fillL_range {r s lv t now : Int} (r0 : 0 ≤ r) (l0 : 0 ≤ lv) (l1 : lv ≤ s) : 0 ≤ fillL r s lv t now ∧ fillL r s lv t now ≤ s := by
  unfold fillL
  split
  · omega
  · have : 0 ≤ r * min (now - t) 2147483648 := Int.mul_nonneg r0 (by omega)
    omega
theorem fillT_range {t now : Int} (t0 : 0 ≤ t) (t1 : t < 18446744073709551616) (n0 : 0 ≤ now) (n1 : now < 18446744073709551616) : 0 ≤ fillT t now ∧ fillT t now < 18446744073709551616 := by
  unfold fillT; split <;> omega
theorem fillT_again (t now : Int) : fillT (fillT t now) now = fillT t now := by
  by_cases h : now ≤ t
  · simp [fillT, h]
  · simp [fillT, h]
theorem fillL_again (r s x t now : Int) : fillL r s x (fillT t now) now = x := by
  unfold fillL; rw [if_pos]; unfold fillT; split <;> omega
end Go.Proofs.Ytcpiohmgnlapiaa
