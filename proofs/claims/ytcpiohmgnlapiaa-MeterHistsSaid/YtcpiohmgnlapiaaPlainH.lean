/- Plain words: how many bits a number has, counts of numbers by their bits, the least bits up to which enough were counted. -/
import Derived.Lib.Tables
import Derived.Laws.BitsAllLaws
namespace Go.Proofs.Ytcpiohmgnlapiaa
set_option linter.unusedVariables false
/-- How many bits a number has. -/
def bl (n : Nat) : Nat := if n = 0 then 0 else n.log2 + 1
theorem bl_le (n k : Nat) : bl n ≤ k ↔ n < 2 ^ k := by
  unfold bl
  split
  · rename_i h; subst h; exact ⟨fun _ => Nat.two_pow_pos k, fun _ => Nat.zero_le _⟩
  · rename_i h; rw [← Nat.log2_lt h]; omega
theorem bl_shift (x k : Nat) (h : 2 ^ k ≤ x) : bl x = k + bl (x / 2 ^ k) := by
  apply Nat.le_antisymm
  · rw [bl_le, Nat.pow_add]
    have := (bl_le (x / 2 ^ k) (bl (x / 2 ^ k))).1 (Nat.le_refl _)
    have h2 := (Nat.div_lt_iff_lt_mul (Nat.two_pow_pos k)).1 this
    rwa [Nat.mul_comm] at h2
  · rcases Nat.lt_or_ge (bl x) k with hlt | hge
    · have := (bl_le x k).1 (by omega); omega
    · have h1 := (bl_le x (bl x)).1 (Nat.le_refl _)
      have h2 : x / 2 ^ k < 2 ^ (bl x - k) := by
        rw [Nat.div_lt_iff_lt_mul (Nat.two_pow_pos k), ← Nat.pow_add]
        rwa [show bl x - k + k = bl x by omega]
      have := (bl_le (x / 2 ^ k) (bl x - k)).2 h2
      omega
theorem bl_64 (x : Nat) (h : x < 18446744073709551616) : bl x ≤ 64 := (bl_le x 64).2 (by simpa using h)
theorem len8_all : ∀ i : Fin 256, Lib.len8 (i.val : Int) = (bl i.val : Int) := by decide +kernel
theorem len8_bl (x : Int) (h0 : 0 ≤ x) (h1 : x < 256) : Lib.len8 x = (bl x.toNat : Int) := by
  have := len8_all ⟨x.toNat, by omega⟩
  rwa [show ((⟨x.toNat, by omega⟩ : Fin 256).val : Int) = x by simp; omega] at this
theorem bl_shiftI (x : Int) (k : Nat) (p : Int) (hp : p = 2 ^ k) (h : p ≤ x) : (bl x.toNat : Int) = k + (bl (x / p).toNat : Int) := by
  have hp' : p = ((2 ^ k : Nat) : Int) := by rw [hp]; simp
  obtain ⟨n, rfl⟩ := Int.eq_ofNat_of_zero_le (show 0 ≤ x by have : (0 : Int) ≤ ((2 ^ k : Nat) : Int) := Int.natCast_nonneg _; omega)
  rw [hp'] at h ⊢
  have := bl_shift n k (by omega)
  rw [show ((n : Int) / ((2 ^ k : Nat) : Int)).toNat = n / 2 ^ k by rw [← Int.natCast_ediv, Int.toNat_natCast], Int.toNat_natCast, this]
  simp

/-! ### Counts -/
def psum (f : Nat → Int) : Nat → Int
  | 0 => 0
  | k + 1 => psum f k + f k
/-- How many of the numbers have k bits. -/
def cnt (l : List Int) (k : Nat) : Int := ((l.countP fun x => decide (bl x.toNat = k) : Nat) : Int)
/-- How many have at most k bits. -/
def cle (l : List Int) (k : Nat) : Nat := l.countP fun x => decide (bl x.toNat ≤ k)
theorem cle_succ (l : List Int) (k : Nat) : (cle l (k + 1) : Int) = cle l k + cnt l (k + 1) := by
  unfold cle cnt
  induction l with
  | nil => rfl
  | cons x l ih =>
    simp only [List.countP_cons]
    rcases Nat.lt_trichotomy (bl x.toNat) (k + 1) with h | h | h
    · rw [if_pos (by simp; omega), if_pos (by simp; omega), if_neg (by simp; omega)]; omega
    · rw [if_pos (by simp; omega), if_neg (by simp; omega), if_pos (by simp; omega)]; omega
    · rw [if_neg (by simp; omega), if_neg (by simp; omega), if_neg (by simp; omega)]; omega
theorem psum_cnt (l : List Int) (k : Nat) : psum (cnt l) (k + 1) = (cle l k : Int) := by
  induction k with
  | zero =>
    simp only [psum, cnt, cle, Int.zero_add]
    congr 2; funext x; simp
  | succ k ih => rw [psum, ih, cle_succ]
theorem cle_le (l : List Int) (k : Nat) : cle l k ≤ l.length := List.countP_le_length
theorem cle_all (l : List Int) (h : ∀ x ∈ l, 0 ≤ x ∧ x < 18446744073709551616) : cle l 64 = l.length := by
  unfold cle
  rw [List.countP_eq_length]
  intro x hx
  have := h x hx
  simp only [decide_eq_true_eq]
  exact bl_64 _ (by omega)
theorem psum_all (l : List Int) (h : ∀ x ∈ l, 0 ≤ x ∧ x < 18446744073709551616) : psum (cnt l) 65 = (l.length : Int) := by rw [psum_cnt, cle_all l h]
theorem cnt_range (l : List Int) (k : Nat) : 0 ≤ cnt l k ∧ cnt l k ≤ l.length := by
  unfold cnt
  have := List.countP_le_length (p := fun x : Int => decide (bl x.toNat = k)) (l := l)
  omega
theorem psum_range (l : List Int) (k : Nat) : 0 ≤ psum (cnt l) k ∧ psum (cnt l) k ≤ l.length := by
  cases k with
  | zero => simp [psum]
  | succ k => rw [psum_cnt]; have := cle_le l k; omega
def upd (f : Nat → Int) (i : Nat) (x : Int) : Nat → Int := fun k => if k = i then x else f k
theorem cnt_nil : cnt [] = fun _ => 0 := by funext k; rfl
theorem cnt_snoc (l : List Int) (x : Int) : cnt (l ++ [x]) = upd (cnt l) (bl x.toNat) (cnt l (bl x.toNat) + 1) := by
  funext k
  unfold cnt upd
  rw [List.countP_append]
  by_cases h : k = bl x.toNat
  · subst h; simp
  · rw [if_neg h, List.countP_cons, if_neg (by simp; omega)]; simp
theorem cnt_append (l m : List Int) (k : Nat) : cnt (l ++ m) k = cnt l k + cnt m k := by unfold cnt; rw [List.countP_append]; simp
/-- How many are needed. -/
def need (n : Nat) (p : Int) : Int := max (((n : Int) * p + 99) / 100) 1
theorem need_prog (n : Nat) (p : Int) : max ((n : Int) / 100 * p + ((n : Int) % 100 * p + 99) / 100) 1 = need n p := by
  unfold need
  have e : (n : Int) * p = 100 * ((n : Int) / 100 * p) + (n : Int) % 100 * p := by
    have h : (n : Int) = 100 * ((n : Int) / 100) + (n : Int) % 100 := by omega
    rw [← Int.mul_assoc, ← Int.add_mul, ← h]
  rw [e]
  generalize (n : Int) / 100 * p = a
  generalize (n : Int) % 100 * p = b
  congr 1
  omega
theorem need_range (n : Nat) (p : Int) (h0 : 0 ≤ p) (h1 : p ≤ 100) (hn : 0 < n) : 1 ≤ need n p ∧ need n p ≤ n := by
  unfold need
  have h2 : (n : Int) * p ≤ n * 100 := Int.mul_le_mul_of_nonneg_left h1 (by omega)
  omega
/-- The least bits up to which enough were counted. -/
def lk (l : List Int) (p : Int) : Nat := (List.range 65).findIdx fun k => decide (need l.length p ≤ (cle l k : Int))
theorem lk_is (l : List Int) (p : Int) (k : Nat) (hk : k < 65) (h1 : need l.length p ≤ (cle l k : Int)) (h2 : ∀ j, j < k → (cle l j : Int) < need l.length p) : lk l p = k := by
  unfold lk
  rw [List.findIdx_eq (by simpa using hk)]
  refine ⟨by simpa using h1, fun j hj => ?_⟩
  have := h2 j hj
  simp; omega
def blwB (l : List Int) (p : Int) : Bool := !(l.isEmpty || decide (p < 0) || decide (100 < p))
def blwV (l : List Int) (p : Int) : Int := if blwB l p = true then 2 ^ lk l p - 1 else 0
theorem blw_no (l : List Int) (p : Int) (h : l.length = 0 ∨ p < 0 ∨ 100 < p) : blwB l p = false ∧ blwV l p = 0 := by
  have : blwB l p = false := by
    unfold blwB
    rcases h with h | h | h
    · obtain rfl := List.eq_nil_of_length_eq_zero h; simp
    · simp [h]
    · simp [h]
  exact ⟨this, by unfold blwV; rw [this]; rfl⟩
theorem blw_yes (l : List Int) (p : Int) (h : l.length ≠ 0) (h0 : 0 ≤ p) (h1 : p ≤ 100) {k : Nat} (hk : lk l p = k) : blwB l p = true ∧ blwV l p = 2 ^ k - 1 := by
  have : blwB l p = true := by
    unfold blwB
    have : l.isEmpty = false := by cases l with | nil => simp at h | cons _ _ => rfl
    simp [this]; omega
  exact ⟨this, by unfold blwV; rw [if_pos this, hk]⟩
theorem pow_range (k : Nat) (hk : k ≤ 64) : (1 : Int) ≤ 2 ^ k ∧ (2 : Int) ^ k ≤ 18446744073709551616 := by
  have h1 : 1 ≤ 2 ^ k := Nat.one_le_two_pow
  have h2 : 2 ^ k ≤ 2 ^ 64 := Nat.pow_le_pow_right (by omega) hk
  have e : (2 : Int) ^ k = ((2 ^ k : Nat) : Int) := by simp
  rw [e]; omega
theorem div_step (x k : Nat) : x / 2 ^ k / 2 = x / 2 ^ (k + 1) := by rw [Nat.div_div_eq_div_mul, Nat.pow_succ]
theorem bits_pos (x k : Nat) (h : 0 < x / 2 ^ k) : k < bl x := by
  rcases Nat.lt_or_ge k (bl x) with h' | h'
  · exact h'
  · have := (bl_le x k).1 h'
    rw [Nat.div_eq_of_lt this] at h; omega
theorem bits_zero (x k : Nat) (h : x / 2 ^ k = 0) : bl x ≤ k := by
  rw [bl_le]
  exact (Nat.div_eq_zero_iff_lt (Nat.two_pow_pos k)).1 h
/-- A histogram's cells. -/
def hv (f : Nat → Int) : Array Value := ((List.range 65).map fun i => Value.int .u64 (f i)).toArray
theorem hv_size (f : Nat → Int) : (hv f).size = 65 := by simp [hv]
theorem hv_at (f : Nat → Int) (i : Nat) (h : i < 65) : (hv f)[i]? = some (.int .u64 (f i)) := by simp [hv, h]
theorem hv_set (f : Nat → Int) (i : Nat) (x : Int) : (hv f).setIfInBounds i (.int .u64 x) = hv (upd f i x) := by
  apply Array.ext
  · simp [hv]
  · intro j h1 h2
    rw [Array.getElem_setIfInBounds (by simpa using h1)]
    by_cases h : i = j
    · subst h; simp [hv, upd]
    · rw [if_neg h]; simp [hv, upd, Ne.symm h]
def jn (f g : Nat → Int) (k : Nat) : Nat → Int := fun i => if i < k then f i + g i else f i
theorem jn_zero (f g : Nat → Int) : jn f g 0 = f := by funext i; simp [jn]
theorem jn_at (f g : Nat → Int) (k : Nat) : jn f g k k = f k := by simp [jn]
theorem jn_step (f g : Nat → Int) (k : Nat) : upd (jn f g k) k (f k + g k) = jn f g (k + 1) := by
  funext i
  unfold upd jn
  by_cases h : i = k
  · subst h; simp
  · rw [if_neg h]
    by_cases h2 : i < k
    · rw [if_pos h2, if_pos (by omega)]
    · rw [if_neg h2, if_neg (by omega)]
theorem hv_jn (l m : List Int) : hv (jn (cnt l) (cnt m) 65) = hv (cnt (l ++ m)) := by
  unfold hv
  congr 1
  apply List.map_congr_left
  intro i hi
  rw [cnt_append]
  simp [jn, List.mem_range.1 hi]
end Go.Proofs.Ytcpiohmgnlapiaa
