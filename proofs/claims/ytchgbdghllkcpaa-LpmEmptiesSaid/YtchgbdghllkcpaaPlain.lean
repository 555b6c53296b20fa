/- Plain words on addresses and their bits. No program in sight. -/
import Derived.Test.YtchgbdghllkcpaaOctPlain
namespace Go.Proofs.Ytchgbdghllkcpaa
/-- An address. -/
structure Ad where
  six : Bool
  hi : Nat
  lo : Nat
deriving DecidableEq
def Ad.wf (a : Ad) : Prop := a.hi < 18446744073709551616 ∧ a.lo < 18446744073709551616
def Ad.right (a : Ad) : Prop := a.six = true ∨ (a.hi = 0 ∧ a.lo < 4294967296)
instance (a : Ad) : Decidable a.right := inferInstanceAs (Decidable (_ ∨ _))
def Ad.bits (a : Ad) : Nat := if a.six then 128 else 32
/-- x with its last j bits 0. -/
def clr (x j : Nat) : Nat := x / 2 ^ j * 2 ^ j
theorem clr_sub (x j : Nat) : clr x j = x - x % 2 ^ j := by
  unfold clr
  have := Nat.div_add_mod x (2 ^ j)
  rw [Nat.mul_comm] at this
  omega
theorem clr_le (x j : Nat) : clr x j ≤ x := by rw [clr_sub]; omega
theorem clr_zero (x : Nat) : clr x 0 = x := by simp [clr]
theorem clr_testBit (x j i : Nat) : (clr x j).testBit i = (decide (j ≤ i) && x.testBit i) := by
  unfold clr
  rw [Nat.testBit_mul_two_pow]
  by_cases h : j ≤ i
  · simp only [h, decide_true, Bool.true_and]
    rw [Nat.testBit_div_two_pow]
    congr 1
    omega
  · simp [h]
theorem clr_small (x j : Nat) (h : x < 2 ^ j) : clr x j = 0 := by unfold clr; rw [Nat.div_eq_of_lt h, Nat.zero_mul]
/-- n, held to the bits of the address. -/
def Ad.cl (a : Ad) (n : Int) : Nat := (min (max n 0) (a.bits : Int)).toNat
def Ad.cutN (a : Ad) (m : Nat) : Ad := if a.six then ⟨true, clr a.hi (64 - m), clr a.lo (64 - (m - 64))⟩ else ⟨false, a.hi, clr a.lo (32 - m)⟩
def Ad.cut (a : Ad) (n : Int) : Ad := a.cutN (a.cl n)
/-- Bit i, from the left. -/
def Ad.bit (a : Ad) (i : Nat) : Bool := if a.six then (if i < 64 then a.hi.testBit (63 - i) else a.lo.testBit (127 - i)) else a.lo.testBit (31 - i)
def Ad.path (a : Ad) (n : Nat) : List Bool := (List.range n).map a.bit
theorem Ad.path_len (a : Ad) (n : Nat) : (a.path n).length = n := by simp [Ad.path]
theorem Ad.path_succ (a : Ad) (n : Nat) : a.path (n + 1) = a.path n ++ [a.bit n] := by simp [Ad.path, List.range_succ]
theorem Ad.path_get (a : Ad) (n i : Nat) (h : i < n) : (a.path n)[i]? = some (a.bit i) := by simp [Ad.path, h]
theorem Ad.path_eq {a b : Ad} {n m : Nat} (h : a.path n = b.path m) : n = m ∧ ∀ i, i < n → a.bit i = b.bit i := by
  have hl : n = m := by have := congrArg List.length h; simpa [Ad.path_len] using this
  subst hl
  refine ⟨rfl, fun i hi => ?_⟩
  have := congrArg (fun l => l[i]?) h
  simpa [Ad.path_get _ _ _ hi] using this
theorem Ad.path_of {a b : Ad} {n : Nat} (h : ∀ i, i < n → a.bit i = b.bit i) : a.path n = b.path n :=
  List.map_congr_left fun i hi => h i (List.mem_range.1 hi)
theorem clr_eq (x y j k : Nat) (hx : x < 2 ^ k) (hy : y < 2 ^ k) (h : ∀ i, j ≤ i → i < k → x.testBit i = y.testBit i) : clr x j = clr y j := by
  apply Nat.eq_of_testBit_eq
  intro i
  rw [clr_testBit, clr_testBit]
  by_cases h1 : j ≤ i
  · by_cases h2 : i < k
    · rw [h i h1 h2]
    · rw [Nat.testBit_lt_two_pow (Nat.lt_of_lt_of_le hx (Nat.pow_le_pow_right (by omega) (by omega))), Nat.testBit_lt_two_pow (Nat.lt_of_lt_of_le hy (Nat.pow_le_pow_right (by omega) (by omega)))]
  · simp [h1]
theorem clr_bits {x y j : Nat} (h : clr x j = clr y j) (i : Nat) (hi : j ≤ i) : x.testBit i = y.testBit i := by
  have := congrArg (fun z => z.testBit i) h
  simpa [clr_testBit, hi] using this
theorem Ad.cutN_six (a : Ad) (n : Nat) : (a.cutN n).six = a.six := by unfold Ad.cutN; split <;> simp_all
theorem Ad.cutN_wf (a : Ad) (n : Nat) (h : a.wf) : (a.cutN n).wf := by
  unfold Ad.cutN Ad.wf at *
  have := clr_le a.hi (64 - n); have := clr_le a.lo (64 - (n - 64)); have := clr_le a.lo (32 - n)
  split <;> simp <;> omega
theorem Ad.cutN_right (a : Ad) (n : Nat) (h : a.right) : (a.cutN n).right := by
  unfold Ad.cutN Ad.right at *
  have := clr_le a.lo (32 - n)
  split
  · exact .inl rfl
  · rename_i h6
    rcases h with h | h
    · exact absurd h h6
    · exact .inr ⟨h.1, by show clr a.lo (32 - n) < _; omega⟩
/-- Two addresses that begin with the same n bits are cut alike, and the other way round. -/
theorem cutN_eq {a b : Ad} {n : Nat} (ha : a.wf) (hb : b.wf) (hra : a.right) (hrb : b.right) (h6 : a.six = b.six) (hn : n ≤ a.bits) : a.cutN n = b.cutN n ↔ ∀ i, i < n → a.bit i = b.bit i := by
  obtain ⟨s, hi, lo⟩ := a
  obtain ⟨s', hi', lo'⟩ := b
  simp only at h6
  subst h6
  cases s with
  | false =>
    simp only [Ad.right, Ad.bits, Ad.cutN, Ad.bit] at *
    simp at hra hrb hn ⊢
    obtain ⟨rfl, hlo⟩ := hra
    obtain ⟨rfl, hlo'⟩ := hrb
    constructor
    · rintro ⟨-, h⟩ i hin
      exact clr_bits h (31 - i) (by omega)
    · intro h
      refine ⟨rfl, clr_eq lo lo' (32 - n) 32 hlo hlo' fun i h1 h2 => ?_⟩
      have := h (31 - i) (by omega)
      rwa [show 31 - (31 - i) = i by omega] at this
  | true =>
    simp only [Ad.wf, Ad.bits, Ad.cutN, Ad.bit] at *
    simp at hn ⊢
    constructor
    · rintro ⟨h1, h2⟩ i hin
      split
      · exact clr_bits h1 (63 - i) (by omega)
      · exact clr_bits h2 (127 - i) (by omega)
    · intro h
      refine ⟨clr_eq hi hi' (64 - n) 64 ha.1 hb.1 fun i h1 h2 => ?_, clr_eq lo lo' (64 - (n - 64)) 64 ha.2 hb.2 fun i h1 h2 => ?_⟩
      · have := h (63 - i) (by omega)
        rw [if_pos (by omega), if_pos (by omega), show 63 - (63 - i) = i by omega] at this
        exact this
      · have := h (127 - i) (by omega)
        rw [if_neg (by omega), if_neg (by omega), show 127 - (127 - i) = i by omega] at this
        exact this
theorem cutN_bit (a : Ad) (n i : Nat) (h : i < n) (hn : n ≤ a.bits) : (a.cutN n).bit i = a.bit i := by
  obtain ⟨s, hi, lo⟩ := a
  cases s with
  | false =>
    simp [Ad.bits] at hn
    simp [Ad.cutN, Ad.bit, clr_testBit]
    omega
  | true =>
    simp [Ad.bits] at hn
    simp only [Ad.cutN, Ad.bit, if_true]
    split
    · rw [clr_testBit]; simp; omega
    · rw [clr_testBit]; simp; omega
theorem Ad.cutN_cutN (a : Ad) (n : Nat) (ha : a.wf) (hr : a.right) (hn : n ≤ a.bits) : (a.cutN n).cutN n = a.cutN n := by
  have h6 := a.cutN_six n
  have hb : (a.cutN n).bits = a.bits := by unfold Ad.bits; rw [h6]
  exact (cutN_eq (a.cutN_wf n ha) ha (a.cutN_right n hr) hr h6 (by omega)).2 fun i hi => cutN_bit a n i hi hn

theorem and_high (x i : Nat) (hi : i ≤ 64) (hx : x < 2 ^ 64) : x &&& (2 ^ 64 - 2 ^ i) = x - x % 2 ^ i := by
  have e1 : 2 ^ 64 - 2 ^ i = (2 ^ (64 - i) - 1) <<< i := by
    rw [Nat.shiftLeft_eq, Nat.sub_mul, ← Nat.pow_add, Nat.one_mul, Nat.sub_add_cancel hi]
  have e2 : x - x % 2 ^ i = (x >>> i) <<< i := by
    rw [Nat.shiftLeft_eq, Nat.shiftRight_eq_div_pow]
    have := Nat.div_add_mod x (2 ^ i)
    rw [Nat.mul_comm] at this
    omega
  rw [e1, e2]
  apply Nat.eq_of_testBit_eq
  intro j
  rw [Nat.testBit_and, Nat.testBit_shiftLeft, Nat.testBit_shiftLeft, Nat.testBit_shiftRight, Nat.testBit_two_pow_sub_one]
  by_cases h : i ≤ j
  · have e : i + (j - i) = j := by omega
    simp only [h, decide_true, Bool.true_and, e]
    by_cases h64 : j < 64
    · simp [show j - i < 64 - i by omega]
    · have : x.testBit j = false := Nat.testBit_lt_two_pow (Nat.lt_of_lt_of_le hx (Nat.pow_le_pow_right (by omega) (by omega)))
      simp [this]
  · simp [h]

theorem andNot_mask (x : Int) (i : Nat) (m : Int) (hi : i ≤ 63) (hm : m = 2 ^ i - 1) (h0 : 0 ≤ x) (h1 : x < 18446744073709551616) : bits .andNot .u64 x m = x - x % 2 ^ i := by
  subst hm
  obtain ⟨x, rfl⟩ := Int.eq_ofNat_of_zero_le h0
  have hp : (1 : Nat) ≤ 2 ^ i := Nat.one_le_two_pow
  have hp2 : (2 : Nat) ^ i ≤ 2 ^ 63 := Nat.pow_le_pow_right (by omega) hi
  have e : ((2 : Int) ^ i - 1) = ((2 ^ i - 1 : Nat) : Int) := by
    rw [Int.natCast_sub hp]; simp
  rw [e, u64_andNot_nat x (2 ^ i - 1) (by omega) (by omega)]
  have e2 : 18446744073709551615 - (2 ^ i - 1) = 2 ^ 64 - 2 ^ i := by omega
  rw [e2, and_high x i (by omega) (by omega)]
  have := Nat.mod_le x (2 ^ i)
  rw [Int.natCast_sub this]
  simp

/-! ### Bytes -/
def numB (l : List Nat) : Nat := l.foldl (fun n b => n * 256 + b) 0
theorem numB_go (l : List Nat) (n : Nat) : l.foldl (fun n b => n * 256 + b) n = n * 256 ^ l.length + numB l := by
  induction l generalizing n with
  | nil => simp [numB]
  | cons b l ih =>
    unfold numB
    rw [List.foldl_cons, List.foldl_cons, ih, ih (0 * 256 + b), List.length_cons, Nat.pow_succ, Nat.zero_mul, Nat.zero_add, Nat.add_mul, Nat.mul_assoc, Nat.mul_comm 256, Nat.add_assoc]
theorem numB_cons (b : Nat) (l : List Nat) : numB (b :: l) = b * 256 ^ l.length + numB l := by
  have := numB_go l (0 * 256 + b)
  unfold numB at *
  rw [List.foldl_cons, this]; simp
theorem numB_lt (l : List Nat) (h : ∀ b ∈ l, b < 256) : numB l < 256 ^ l.length := by
  induction l with
  | nil => simp [numB]
  | cons b l ih =>
    rw [numB_cons, List.length_cons, Nat.pow_succ]
    have h1 := ih fun x hx => h x (by simp [hx])
    have h2 := h b (by simp)
    have : (b + 1) * 256 ^ l.length ≤ 256 * 256 ^ l.length := Nat.mul_le_mul_right _ h2
    rw [Nat.add_mul] at this
    omega
/-- Bytes of which the first n bits are left. -/
def cutL : List Nat → Nat → List Nat
  | [], _ => []
  | b :: l, n => clr b (8 - n) :: cutL l (n - 8)
theorem cutL_len (l : List Nat) (n : Nat) : (cutL l n).length = l.length := by
  induction l generalizing n with
  | nil => rfl
  | cons b l ih => simp [cutL, ih]
theorem cutL_lt (l : List Nat) (n : Nat) (h : ∀ b ∈ l, b < 256) : ∀ b ∈ cutL l n, b < 256 := by
  induction l generalizing n with
  | nil => intro b hb; cases hb
  | cons c l ih =>
    intro b hb
    rcases List.mem_cons.1 hb with rfl | hb
    · have := clr_le c (8 - n); have := h c (by simp); omega
    · exact ih (n - 8) (fun x hx => h x (by simp [hx])) b hb
theorem cutL_append (l m : List Nat) (n : Nat) : cutL (l ++ m) n = cutL l n ++ cutL m (n - 8 * l.length) := by
  induction l generalizing n with
  | nil => simp [cutL]
  | cons b l ih =>
    simp only [List.cons_append, cutL, ih, List.length_cons]
    congr 3
    omega
theorem cutL_zero (l : List Nat) (h : ∀ b ∈ l, b < 256) : numB (cutL l 0) = 0 := by
  induction l with
  | nil => rfl
  | cons b l ih =>
    simp only [cutL]
    rw [numB_cons, ih fun x hx => h x (by simp [hx]), clr_small b 8 (h b (by simp))]
    simp
theorem pow256 (k : Nat) : 256 ^ k = 2 ^ (8 * k) := by rw [Nat.pow_mul]
theorem numB_cut (l : List Nat) (n : Nat) (h : ∀ b ∈ l, b < 256) : numB (cutL l n) = clr (numB l) (8 * l.length - n) := by
  induction l generalizing n with
  | nil => simp [cutL, numB, clr]
  | cons b l ih =>
    have hl : ∀ x ∈ l, x < 256 := fun x hx => h x (by simp [hx])
    have hlt := numB_lt l hl
    simp only [cutL]
    rw [numB_cons, numB_cons, cutL_len, List.length_cons]
    by_cases h8 : 8 ≤ n
    · rw [ih _ hl, show 8 - n = 0 by omega, clr_zero, show 8 * (l.length + 1) - n = 8 * l.length - (n - 8) by omega]
      generalize hj : 8 * l.length - (n - 8) = j
      unfold clr
      have e : 256 ^ l.length = 2 ^ (8 * l.length - j) * 2 ^ j := by rw [pow256, ← Nat.pow_add]; congr 1; omega
      have : (b * 256 ^ l.length + numB l) / 2 ^ j = b * 2 ^ (8 * l.length - j) + numB l / 2 ^ j := by
        rw [e, ← Nat.mul_assoc, Nat.add_comm, Nat.add_mul_div_right _ _ (Nat.two_pow_pos j), Nat.add_comm]
      rw [this, Nat.add_mul, e, Nat.mul_assoc]
    · rw [show n - 8 = 0 by omega, cutL_zero l hl, Nat.add_zero]
      unfold clr
      have e : 8 * (l.length + 1) - n = 8 * l.length + (8 - n) := by omega
      rw [e, Nat.pow_add, ← pow256]
      have : (b * 256 ^ l.length + numB l) / (256 ^ l.length * 2 ^ (8 - n)) = b / 2 ^ (8 - n) := by
        rw [← Nat.div_div_eq_div_mul]
        congr 1
        rw [Nat.add_comm, Nat.add_mul_div_right _ _ (Nat.pow_pos (by omega)), Nat.div_eq_of_lt hlt, Nat.zero_add]
      rw [this, Nat.mul_assoc, Nat.mul_comm (2 ^ (8 - n))]
/-- Byte x, of which of the bits from m on those before k are 0. -/
def byteTo (x m k : Nat) : Nat := if k ≤ m then x else clr x (8 - m) + x % 2 ^ (8 - k)
theorem byteTo_zero (x m : Nat) : byteTo x m 0 = x := by simp [byteTo]
theorem byteTo_end (x m : Nat) : byteTo x m 8 = clr x (8 - m) := by
  unfold byteTo; split
  · rw [show 8 - m = 0 by omega, clr_zero]
  · simp [Nat.mod_one]
theorem byteTo_lt : ∀ x < 256, ∀ m ≤ 8, ∀ k ≤ 8, byteTo x m k < 256 := by decide +kernel
theorem byteTo_on : ∀ x < 256, ∀ m ≤ 8, ∀ k < 8, (m ≤ k ∧ byteTo x m k / 2 ^ (7 - k) % 2 = 1) → 2 ^ (7 - k) ≤ byteTo x m k ∧ byteTo x m (k + 1) = byteTo x m k - 2 ^ (7 - k) := by decide +kernel
theorem byteTo_off : ∀ x < 256, ∀ m ≤ 8, ∀ k < 8, (k < m ∨ byteTo x m k / 2 ^ (7 - k) % 2 ≠ 1) → byteTo x m (k + 1) = byteTo x m k := by decide +kernel
end Go.Proofs.Ytchgbdghllkcpaa
