/- Plain arithmetic of the Internet checksum: folded sums are sums modulo 65535, with 65535 for 0 where the sum is not 0. -/
import Derived.WalkKit
import Derived.Laws.BitsAllLaws
namespace Go.Proofs.Ytidooohgbiiikaa

/-- n folded. -/
def norm (n : Int) : Int := if n = 0 then 0 else (n - 1) % 65535 + 1
theorem norm_range (n : Int) : 0 ≤ norm n ∧ norm n ≤ 65535 := by unfold norm; split <;> omega
theorem norm_small (n : Int) (h0 : 0 ≤ n) (h : n ≤ 65535) : norm n = n := by unfold norm; split <;> omega
theorem norm_step (n : Int) (h : 65535 < n) : norm (n % 65536 + n / 65536) = norm n := by
  unfold norm
  rw [if_neg (by omega), if_neg (by omega)]
  omega
theorem norm_zero (n : Int) : norm n = 0 ↔ n = 0 := by unfold norm; split <;> omega

/-- Two words, folded. -/
def plus (a b : Int) : Int := if 65535 < a + b then a + b - 65535 else a + b
theorem plus_range (a b : Int) (a0 : 0 ≤ a) (a1 : a ≤ 65535) (b0 : 0 ≤ b) (b1 : b ≤ 65535) : 0 ≤ plus a b ∧ plus a b ≤ 65535 := by unfold plus; split <;> omega
theorem plus_norm (n b : Int) (n0 : 0 ≤ n) (b0 : 0 ≤ b) (b1 : b ≤ 65535) : plus (norm n) b = norm (n + b) := by
  have := norm_range n
  unfold plus norm at *
  split <;> split <;> split <;> omega
theorem plus_plus (x y z : Int) (x0 : 0 ≤ x) (x1 : x ≤ 65535) (y0 : 0 ≤ y) (y1 : y ≤ 65535) (z0 : 0 ≤ z) (z1 : z ≤ 65535) : plus (plus x y) z = norm (x + y + z) := by
  rw [← plus_norm (x + y) z (by omega) z0 z1, ← plus_norm x y x0 y0 y1, norm_small x x0 x1]

/-- The checksum with one word replaced. -/
def updI (s was now : Int) : Int := 65535 - norm (65535 - s + (65535 - was) + now)
theorem updI_range (s was now : Int) : 0 ≤ updI s was now ∧ updI s was now ≤ 65535 := by
  have := norm_range (65535 - s + (65535 - was) + now)
  unfold updI; omega

/-- The sum of bytes, every other one times 256; 'hi': is the first one? -/
def total : Bool → List UInt8 → Int
  | _, [] => 0
  | true, x :: r => (x.toNat : Int) * 256 + total false r
  | false, x :: r => (x.toNat : Int) + total true r
theorem total_nonneg (b : Bool) (l : List UInt8) : 0 ≤ total b l := by
  induction l generalizing b with
  | nil => simp [total]
  | cons x r ih => cases b <;> simp only [total] <;> have := ih true <;> have := ih false <;> omega
theorem total_le (b : Bool) (l : List UInt8) : total b l ≤ 65280 * l.length := by
  induction l generalizing b with
  | nil => simp [total]
  | cons x r ih =>
    have hx := x.toNat_lt
    cases b <;> simp only [total, List.length_cons] <;> have := ih true <;> have := ih false <;> omega
/-- Which byte of a word a place holds. -/
def par : Bool → Nat → Bool
  | b, 0 => b
  | b, k + 1 => par (!b) k
theorem par_even (b : Bool) (k : Nat) : par b (2 * k) = b := by
  induction k with
  | zero => rfl
  | succ k ih => rw [show 2 * (k + 1) = 2 * k + 1 + 1 by omega]; simp [par, ih]
theorem par_succ (b : Bool) (k : Nat) : par b (k + 1) = !par b k := by
  induction k generalizing b with
  | zero => rfl
  | succ k ih => rw [par, ih, ← par]
theorem total_take (b : Bool) (l : List UInt8) (k : Nat) (h : k < l.length) : total b (l.take (k + 1)) = total b (l.take k) + (if par b k then (l[k].toNat : Int) * 256 else (l[k].toNat : Int)) := by
  induction l generalizing b k with
  | nil => simp at h
  | cons x r ih =>
    cases k with
    | zero => cases b <;> simp [total, par]
    | succ k =>
      have h' : k < r.length := by simpa using h
      have := ih (!b) k h'
      cases b <;> simp only [List.take_succ_cons, total, par, List.getElem_cons_succ, Bool.not_true, Bool.not_false] at * <;> rw [this] <;> omega
theorem total_set (b : Bool) (l : List UInt8) (k : Nat) (v : UInt8) (h : k < l.length) :
    total b (l.set k v) = total b l + (if par b k then ((v.toNat : Int) - (l[k].toNat : Int)) * 256 else ((v.toNat : Int) - (l[k].toNat : Int))) := by
  induction l generalizing b k with
  | nil => simp at h
  | cons x r ih =>
    cases k with
    | zero => cases b <;> simp only [List.set_cons_zero, total, par, List.getElem_cons_zero] <;> simp <;> omega
    | succ k =>
      have h' : k < r.length := by simpa using h
      have := ih (!b) k h'
      cases b <;> simp only [List.set_cons_succ, total, par, List.getElem_cons_succ, Bool.not_true, Bool.not_false] at * <;> rw [this] <;> omega
end Go.Proofs.Ytidooohgbiiikaa
