/- Plain words on numbers as bytes, most significant byte first. -/
import Derived.WalkKit
namespace Go.Proofs.Ytncejkmjognmlaa
/-- A number's last byte. -/
def b8 (n : Int) : UInt8 := UInt8.ofNat (n % 256).toNat
theorem b8_val (n : Int) : ((b8 n).toNat : Int) = n % 256 := by
  unfold b8
  have h : (n % 256).toNat < 256 := by omega
  rw [UInt8.toNat_ofNat_of_lt' (by simpa using h)]
  omega
/-- The last k bytes of a number. -/
def digs : Nat → Int → List UInt8
  | 0, _ => []
  | k + 1, n => digs k (n / 256) ++ [b8 n]
theorem digs_length (k : Nat) (n : Int) : (digs k n).length = k := by
  induction k generalizing n with
  | zero => rfl
  | succ k ih => simp [digs, ih]
/-- The bytes l with the last j bytes of M at 'off'. -/
def fin (l : List UInt8) (off j : Nat) (M : Int) : List UInt8 := l.take off ++ (digs j M ++ l.drop (off + j))
theorem fin_zero (l : List UInt8) (off : Nat) (M : Int) : fin l off 0 M = l := by simp [fin, digs]
theorem drop_set_self (l : List UInt8) (i : Nat) (x : UInt8) (h : i < l.length) : (l.set i x).drop i = x :: l.drop (i + 1) := by
  rw [List.drop_eq_getElem_cons (by simpa using h), List.getElem_set_self, List.drop_set_of_lt (by omega)]
theorem fin_step (l : List UInt8) (off j : Nat) (M : Int) (h : off + j < l.length) : fin (l.set (off + j) (b8 M)) off j (M / 256) = fin l off (j + 1) M := by
  unfold fin
  rw [List.take_set_of_le (by omega), drop_set_self _ _ _ h]
  simp [digs, Nat.add_assoc]
theorem fin_length (l : List UInt8) (off j : Nat) (M : Int) (h : off + j ≤ l.length) : (fin l off j M).length = l.length := by
  simp [fin, digs_length]; omega
/-- The bytes l with x at 'off'. -/
def over (l : List UInt8) (off : Nat) (x : List UInt8) : List UInt8 := l.take off ++ (x ++ l.drop (off + x.length))
theorem over_length (l : List UInt8) (off : Nat) (x : List UInt8) (h : off + x.length ≤ l.length) : (over l off x).length = l.length := by
  simp [over]; omega
theorem over_zero (l : List UInt8) (off : Nat) (x : List UInt8) : over l off (x.take 0) = l := by simp [over]
theorem over_step (l : List UInt8) (off : Nat) (x : List UInt8) (k : Nat) (hk : k < x.length) (h : off + x.length ≤ l.length) : (over l off (x.take k)).set (off + k) x[k] = over l off (x.take (k + 1)) := by
  have h1 : (x.take k).length = k := by simp; omega
  have h2 : (x.take (k + 1)).length = k + 1 := by simp; omega
  have h3 : (l.take off).length = off := by simp; omega
  unfold over
  rw [h1, h2, List.set_append_right _ _ (by omega), h3, List.set_append_right _ _ (by omega), h1, show off + k - off - k = 0 by omega,
    List.drop_eq_getElem_cons (show off + k < l.length by omega), List.set_cons_zero, List.take_succ_eq_append_getElem hk, List.append_assoc (x.take k), List.singleton_append, Nat.add_assoc]
theorem over_fin (l : List UInt8) (off k : Nat) (M : Int) : over l off (digs k M) = fin l off k M := by simp [over, fin, digs_length]
end Go.Proofs.Ytncejkmjognmlaa
