/- Small functions of layer 40: Bits, Right, high. -/
import Derived.Test.YtchgbdghllkcpaaPlain
import Derived.Test.YtchgbdghllkcpaaRefBytes
import Derived.Test.YtchgbdghllkcpaaRefNum
import Derived.Test.YtchgbdghllkcpaaRefSet
import Derived.Test.YtchgbdghllkcpaaOpenN
import Derived.IntWalk
namespace Go.Proofs.Ytchgbdghllkcpaa
open Go.RowKit
set_option linter.unusedVariables false
theorem bel1 {w : World} {o : Obj} : Below w.heap.size w (w.alloc o) := (Below.refl _ _).alloc (Nat.le_refl _) _

set_option maxHeartbeats 1000000 in
theorem bits_any (a : Ad) (w : World) : Calls Try.prog 6 #[.agg #[.bool a.six, .int .u64 (a.hi : Int), .int .u64 (a.lo : Int)]] w fun e w' => e = .returned (.int .i64 (a.bits : Int)) ∧ Below w.heap.size w w' := by
  obtain ⟨s, hi, lo⟩ := a
  cases s with
  | false =>
    go_enter Try.func6, Try.ntmps6
    go_wp2_with fail
    go_ret
    exact ⟨rfl, bel1⟩
  | true =>
    go_enter Try.func6, Try.ntmps6
    go_wp2_with fail
    go_ret
    exact ⟨rfl, bel1⟩

set_option maxHeartbeats 1000000 in
theorem refBits_any (a : Ad) (w : World) : Calls Try.prog 7 #[.agg #[.bool a.six, .int .u64 (a.hi : Int), .int .u64 (a.lo : Int)]] w fun e w' => e = .returned (.int .i64 (a.bits : Int)) ∧ Below w.heap.size w w' := by
  obtain ⟨s, hi, lo⟩ := a
  cases s with
  | false =>
    go_enter Try.func7, Try.ntmps7
    go_wp2_with fail
    go_ret
    exact ⟨rfl, bel1⟩
  | true =>
    go_enter Try.func7, Try.ntmps7
    go_wp2_with fail
    go_ret
    exact ⟨rfl, bel1⟩

set_option maxHeartbeats 1000000 in
theorem refRight_any (a : Ad) (w : World) : Calls Try.prog 10 #[.agg #[.bool a.six, .int .u64 (a.hi : Int), .int .u64 (a.lo : Int)]] w fun e w' => e = .returned (.bool (decide a.right)) ∧ Below w.heap.size w w' := by
  obtain ⟨s, hi, lo⟩ := a
  cases s with
  | true =>
    have HR := Lib.hid (show decide (Ad.right ⟨true, hi, lo⟩) = true by simp [Ad.right])
    go_enter Try.func10, Try.ntmps10
    go_wp2_with fail
    go_ret
    exact ⟨by rw [HR.out]; rfl, bel1⟩
  | false =>
    by_cases h0 : hi = 0
    · subst h0
      by_cases h1 : lo < 4294967296
      · have HR := Lib.hid (show decide (Ad.right ⟨false, 0, lo⟩) = true by simp [Ad.right]; omega)
        have h1I : (lo : Int) < 4294967296 := by omega
        have h2I : (lo : Int) ≤ 4294967295 := by omega
        go_enter Try.func10, Try.ntmps10
        go_wp2_with fail
        go_ret
        exact ⟨by rw [HR.out]; rfl, bel1⟩
      · have HR := Lib.hid (show decide (Ad.right ⟨false, 0, lo⟩) = false by simp [Ad.right]; omega)
        have h1I : ¬ (lo : Int) < 4294967296 := by omega
        have h2I : ¬ (lo : Int) ≤ 4294967295 := by omega
        go_enter Try.func10, Try.ntmps10
        go_wp2_with fail
        go_ret
        exact ⟨by rw [HR.out]; rfl, bel1⟩
    · have HR := Lib.hid (show decide (Ad.right ⟨false, hi, lo⟩) = false by simp [Ad.right]; omega)
      have h0I : ((hi : Int) == 0) = false := beq_eq_false_iff_ne.2 (by omega)
      clear h0
      go_enter Try.func10, Try.ntmps10
      go_wp2_with fail
      go_ret
      exact ⟨by rw [HR.out]; rfl, bel1⟩

set_option maxHeartbeats 1000000 in
theorem addrRight_any (a : Ad) (w : World) : Calls Try.prog 21 #[.agg #[.bool a.six, .int .u64 (a.hi : Int), .int .u64 (a.lo : Int)]] w fun e w' => e = .returned (.bool (decide a.right)) ∧ Below w.heap.size w w' := by
  obtain ⟨s, hi, lo⟩ := a
  cases s with
  | true =>
    have HR := Lib.hid (show decide (Ad.right ⟨true, hi, lo⟩) = true by simp [Ad.right])
    go_enter Try.func21, Try.ntmps21
    go_wp2_with fail
    go_ret
    exact ⟨by rw [HR.out]; rfl, bel1⟩
  | false =>
    by_cases h0 : hi = 0
    · subst h0
      by_cases h1 : lo < 4294967296
      · have HR := Lib.hid (show decide (Ad.right ⟨false, 0, lo⟩) = true by simp [Ad.right]; omega)
        have h1I : (lo : Int) < 4294967296 := by omega
        have h2I : (lo : Int) ≤ 4294967295 := by omega
        go_enter Try.func21, Try.ntmps21
        go_wp2_with fail
        go_ret
        exact ⟨by rw [HR.out]; rfl, bel1⟩
      · have HR := Lib.hid (show decide (Ad.right ⟨false, 0, lo⟩) = false by simp [Ad.right]; omega)
        have h1I : ¬ (lo : Int) < 4294967296 := by omega
        have h2I : ¬ (lo : Int) ≤ 4294967295 := by omega
        go_enter Try.func21, Try.ntmps21
        go_wp2_with fail
        go_ret
        exact ⟨by rw [HR.out]; rfl, bel1⟩
    · have HR := Lib.hid (show decide (Ad.right ⟨false, hi, lo⟩) = false by simp [Ad.right]; omega)
      have h0I : ((hi : Int) == 0) = false := beq_eq_false_iff_ne.2 (by omega)
      clear h0
      go_enter Try.func21, Try.ntmps21
      go_wp2_with fail
      go_ret
      exact ⟨by rw [HR.out]; rfl, bel1⟩

def highN (n : Nat) (size : Int) : Nat := if size ≤ 0 then 0 else if 64 ≤ size then n else clr n (64 - size.toNat)
theorem high_mask (n k : Nat) (hk : k ≤ 63) (hn : n < 18446744073709551616) : bits .andNot .u64 (n : Int) (IntKind.u64.wrap (IntKind.u64.wrap (2 ^ (64 - (64 - k))) - 1)) = ((clr n k : Nat) : Int) := by
  rw [show 64 - (64 - k) = k by omega]
  have hp : (2 : Nat) ^ k ≤ 2 ^ 63 := Nat.pow_le_pow_right (by omega) hk
  have hp1 : 1 ≤ (2 : Nat) ^ k := Nat.one_le_two_pow
  have e : ((2 : Int) ^ k) = ((2 ^ k : Nat) : Int) := by simp
  have e1 : IntKind.u64.wrap ((2 : Int) ^ k) = (2 : Int) ^ k := IntWalk.u64_in _ (by omega)
  rw [e1, IntWalk.u64_in _ (by omega), andNot_mask (n : Int) k _ hk rfl (by omega) (by omega), clr_sub, Int.natCast_sub (Nat.mod_le _ _)]
  simp
set_option maxHeartbeats 1000000 in
theorem high_any (n : Nat) (size : Int) (w : World) (hn : n < 18446744073709551616) (h1 : size ≤ 1000) : Calls Try.prog 22 #[.int .u64 (n : Int), .int .i64 size] w fun e w' => e = .returned (.int .u64 (highN n size : Int)) ∧ w = w' := by
  by_cases h0 : size ≤ 0
  · have HR := Lib.hid (show highN n size = 0 by unfold highN; rw [if_pos h0])
    go_enter Try.func22, Try.ntmps22
    go_wp2_with fail
    go_ret
    exact ⟨by rw [HR.out]; rfl, rfl⟩
  by_cases h64 : 64 ≤ size
  · have HR := Lib.hid (show highN n size = n by unfold highN; rw [if_neg h0, if_pos h64])
    go_enter Try.func22, Try.ntmps22
    go_wp2_with fail
    go_ret
    exact ⟨by rw [HR.out]; rfl, rfl⟩
  · obtain ⟨k, hk, hk1⟩ : ∃ k : Nat, size = 64 - (k : Int) ∧ k ≤ 63 := ⟨(64 - size).toNat, by omega, by omega⟩
    subst hk
    have HR := Lib.hid (show highN n (64 - (k : Int)) = clr n k by unfold highN; rw [if_neg h0, if_neg h64]; congr 1; omega)
    go_enter Try.func22, Try.ntmps22
    go_wp2_with fail
    go_ret
    exact ⟨ret_int (by rw [HR.out]; exact high_mask n k hk1 hn), rfl⟩
def rootO (f : Bool) : Nat := if f then 5 else 1
theorem root_any (tb : Nat) (a : Ad) (w : World) : Calls Try.prog 30 #[.pointer (some ⟨tb, 0, none⟩), .agg #[.bool a.six, .int .u64 (a.hi : Int), .int .u64 (a.lo : Int)]] w fun e w' => e = .returned (.pointer (some ⟨tb, rootO a.six, none⟩)) ∧ Below w.heap.size w w' := by
  obtain ⟨s, hi, lo⟩ := a
  cases s with
  | false =>
    go_enter Try.func30, Try.ntmps30
    go_wp2_with fail
    go_ret
    exact ⟨rfl, bel1⟩
  | true =>
    go_enter Try.func30, Try.ntmps30
    go_wp2_with fail
    go_ret
    exact ⟨rfl, bel1⟩
theorem and_one (x : Nat) (h : x < 18446744073709551616) : bits .and .u64 (x : Int) 1 = ((x % 2 : Nat) : Int) := by
  have := u64_and_nat x 1 (by omega) (by omega)
  rw [show ((1 : Nat) : Int) = 1 by rfl] at this
  rw [this, Nat.and_one_is_mod]
def bI (b : Bool) : Int := if b then 1 else 0
theorem bI_of (x j : Nat) : ((x / 2 ^ j % 2 : Nat) : Int) = bI (x.testBit j) := by
  unfold bI
  rw [Nat.testBit_eq_decide_div_mod_eq]
  by_cases h : x / 2 ^ j % 2 = 1
  · simp [h]
  · have : x / 2 ^ j % 2 = 0 := by omega
    simp [this]
theorem bit_val (x j : Nat) (h : x < 18446744073709551616) : wrap64 (bits .and .u64 ((x : Int) / 2 ^ j) 1) = bI (x.testBit j) := by
  have e : (x : Int) / 2 ^ j = ((x / 2 ^ j : Nat) : Int) := by simp
  have hle : x / 2 ^ j ≤ x := Nat.div_le_self _ _
  rw [e, and_one _ (by omega), ← bI_of]
  generalize hy : x / 2 ^ j = y
  have hm := Nat.mod_lt y (show 0 < 2 by omega)
  unfold wrap64
  simp; omega
theorem or_add (x t i : Nat) (hx : x % 2 ^ i = 0) (ht : t < 2 ^ i) (h1 : x < 18446744073709551616) (h2 : t < 18446744073709551616) : bits .or .u64 (x : Int) (t : Int) = ((x + t : Nat) : Int) := by
  rw [u64_or_nat _ _ (by omega) (by omega), nat_join i _ _ hx ht]
set_option maxHeartbeats 1000000 in
theorem bit_any (a : Ad) (i : Nat) (w : World) (hw : a.wf) (hi : i < a.bits) : Calls Try.prog 31 #[.agg #[.bool a.six, .int .u64 (a.hi : Int), .int .u64 (a.lo : Int)], .int .i64 (i : Int)] w fun e w' => e = .returned (.int .i64 (bI (a.bit i))) ∧ Below w.heap.size w w' := by
  obtain ⟨s, hi', lo⟩ := a
  unfold Ad.wf at hw
  simp only at hw
  obtain ⟨hw1, hw2⟩ := hw
  cases s with
  | false =>
    simp [Ad.bits] at hi
    go_enter Try.func31, Try.ntmps31
    go_wp2_with fail
    go_ret
    exact ⟨ret_int (bit_val lo _ hw2), bel1⟩
  | true =>
    simp [Ad.bits] at hi
    by_cases h64 : i < 64
    · have HE := Lib.hid (show Ad.bit ⟨true, hi', lo⟩ i = hi'.testBit (63 - i) by simp [Ad.bit, h64])
      have h64I : (i : Int) < 64 := by omega
      clear h64
      go_enter Try.func31, Try.ntmps31
      go_wp2_with fail
      go_ret
      exact ⟨ret_int (by rw [HE.out]; exact bit_val hi' _ hw1), bel1⟩
    · have HE := Lib.hid (show Ad.bit ⟨true, hi', lo⟩ i = lo.testBit (127 - i) by simp [Ad.bit, h64])
      have h64I : ¬ (i : Int) < 64 := by omega
      clear h64
      go_enter Try.func31, Try.ntmps31
      go_wp2_with fail
      go_ret
      exact ⟨ret_int (by rw [HE.out]; exact bit_val lo _ hw2), bel1⟩
set_option maxHeartbeats 1000000 in
theorem v4_any (a b c d : Nat) (w : World) (ha : a < 256) (hb : b < 256) (hc : c < 256) (hd : d < 256) : Calls Try.prog 27 #[.int .u8 (a : Int), .int .u8 (b : Int), .int .u8 (c : Int), .int .u8 (d : Int)] w fun e w' => e = .returned (.agg #[.bool false, .int .u64 0, .int .u64 ((a * 16777216 + b * 65536 + c * 256 + d : Nat) : Int)]) ∧ Below w.heap.size w w' := by
  have H1 := Lib.hid (show bits .or .u64 ((a : Int) * 16777216) ((b : Int) * 65536) = ((a * 16777216 + b * 65536 : Nat) : Int) from or_add (a * 16777216) (b * 65536) 24 (by omega) (by omega) (by omega) (by omega))
  have H2 := Lib.hid (show bits .or .u64 ((a * 16777216 + b * 65536 : Nat) : Int) ((c : Int) * 256) = ((a * 16777216 + b * 65536 + c * 256 : Nat) : Int) from or_add _ (c * 256) 16 (by omega) (by omega) (by omega) (by omega))
  have H3 := Lib.hid (show bits .or .u64 ((a * 16777216 + b * 65536 + c * 256 : Nat) : Int) (d : Int) = ((a * 16777216 + b * 65536 + c * 256 + d : Nat) : Int) from or_add _ d 8 (by omega) (by omega) (by omega) (by omega))
  go_enter Try.func27, Try.ntmps27
  go_wp2_with fail
  rw [H1.out, H2.out, H3.out]
  exact bodyPost_ret (results_blk1 (P := Try.prog) Try.results27 _ _ w.heap.size 24 _ _ rfl (Blk.new _ _ _) Try.underlying24 rfl (by kernel_rfl)) rfl ⟨rfl, bel1⟩
theorem bits4_any (hi lo : Int) (w : World) : Calls Try.prog 6 #[.agg #[.bool false, .int .u64 hi, .int .u64 lo]] w fun e w' => e = .returned (.int .i64 32) ∧ Below w.heap.size w w' := by
  go_enter Try.func6, Try.ntmps6
  go_wp2_with fail
  go_ret
  exact ⟨rfl, bel1⟩
theorem bits6_any (hi lo : Int) (w : World) : Calls Try.prog 6 #[.agg #[.bool true, .int .u64 hi, .int .u64 lo]] w fun e w' => e = .returned (.int .i64 128) ∧ Below w.heap.size w w' := by
  go_enter Try.func6, Try.ntmps6
  go_wp2_with fail
  go_ret
  exact ⟨rfl, bel1⟩
theorem clr_shift (x m : Nat) (h : m ≤ 32) : clr (x * 4294967296) (64 - m) = clr x (32 - m) * 4294967296 := by
  unfold clr
  have e : 2 ^ (64 - m) = 2 ^ (32 - m) * 4294967296 := by rw [show 64 - m = 32 - m + 32 by omega, Nat.pow_add]
  rw [e, Nat.mul_div_mul_right _ _ (by omega), Nat.mul_assoc]
theorem high4 (lo m : Nat) (z : Int) (w : World) (hz : z = m) (hm : m ≤ 32) (hlo : lo < 4294967296) : Calls Try.prog 22 #[.int .u64 ((lo : Int) * 4294967296), .int .i64 z] w fun e w' => e = .returned (.int .u64 ((clr lo (32 - m) : Int) * 4294967296)) ∧ w = w' := by
  subst hz
  have h := high_any (lo * 4294967296) (m : Int) w (by omega) (by omega)
  have e : highN (lo * 4294967296) (m : Int) = clr lo (32 - m) * 4294967296 := by
    unfold highN
    split
    · have : m = 0 := by omega
      subst this
      rw [clr_small lo _ hlo]
    · rw [if_neg (by omega), ← clr_shift lo m hm]
      rfl
  rw [e] at h
  simpa using h
theorem high6a (x m : Nat) (z : Int) (w : World) (hz : z = m) (hm : m ≤ 128) (hx : x < 18446744073709551616) : Calls Try.prog 22 #[.int .u64 (x : Int), .int .i64 z] w fun e w' => e = .returned (.int .u64 (clr x (64 - m) : Int)) ∧ w = w' := by
  subst hz
  have h := high_any x (m : Int) w hx (by omega)
  have e : highN x (m : Int) = clr x (64 - m) := by
    unfold highN
    split
    · have : m = 0 := by omega
      subst this
      rw [clr_small x _ hx]
    · split
      · rw [show 64 - m = 0 by omega, clr_zero]
      · rfl
  rwa [e] at h
theorem high6b (x m : Nat) (z : Int) (w : World) (hz : z = (m : Int) - 64) (hm : m ≤ 128) (hx : x < 18446744073709551616) : Calls Try.prog 22 #[.int .u64 (x : Int), .int .i64 z] w fun e w' => e = .returned (.int .u64 (clr x (64 - (m - 64)) : Int)) ∧ w = w' := by
  subst hz
  have h := high_any x ((m : Int) - 64) w hx (by omega)
  have e : highN x ((m : Int) - 64) = clr x (64 - (m - 64)) := by
    unfold highN
    split
    · rw [show m - 64 = 0 by omega, clr_small x _ hx]
    · split
      · rw [show 64 - (m - 64) = 0 by omega, clr_zero]
      · congr 1; omega
  rwa [e] at h
set_option maxHeartbeats 2000000 in
theorem cut_any (a : Ad) (n : Int) (w : World) (hw : a.wf) (hr : a.right) : Calls Try.prog 11 #[.agg #[.bool a.six, .int .u64 (a.hi : Int), .int .u64 (a.lo : Int)], .int .i64 n] w fun e w' => e = .returned (.agg #[.bool (a.cut n).six, .int .u64 ((a.cut n).hi : Int), .int .u64 ((a.cut n).lo : Int)]) ∧ Below w.heap.size w w' := by
  obtain ⟨s, hi, lo⟩ := a
  unfold Ad.wf at hw
  unfold Ad.right at hr
  simp only at hw hr
  obtain ⟨hhi, hlo⟩ := hw
  cases s with
  | false =>
    obtain ⟨rfl, hlo⟩ : hi = 0 ∧ lo < 4294967296 := by simpa using hr
    have hloI : (lo : Int) < 4294967296 := by omega
    by_cases hn1 : n < 0
    · have hn2 : True := trivial
      have hnI : n < 0 := by omega
      have HC := Lib.hid (show Ad.cut ⟨false, 0, lo⟩ n = Ad.cutN ⟨false, 0, lo⟩ 0 by unfold Ad.cut Ad.cl; congr 1; simp [Ad.bits]; omega)
      clear hn1 hn2
      go_enter Try.func11, Try.ntmps11
      go_wp2_with fail
      obtain ⟨w0, hw0⟩ : ∃ w0 : World, w0 = (w.alloc (.cells #[.bool false, .int .u64 0, .int .u64 (lo : Int)] 24)).alloc (.cells #[.bool false, .int .u64 0, .int .u64 0] 24) := ⟨_, rfl⟩
      have HX0 := Lib.hid (show Blk w0 w.heap.size 24 #[.bool false, .int .u64 0, .int .u64 (lo : Int)] by rw [hw0]; exact (Blk.new _ _ _).alloc _)
      have HY0 := Lib.hid (show Blk w0 (w.heap.size + 1) 24 #[.bool false, .int .u64 0, .int .u64 0] by rw [hw0]; exact Blk.new_ (by simp) _ _)
      have HB0 := Lib.hid (show Below w.heap.size w w0 by rw [hw0]; exact bel1.alloc (by simp) _)
      rw [← hw0]
      clear hw0
      refine (bits4_any _ _ _).mono ?_
      rintro e w1 ⟨rfl, hb1⟩
      have HX1 := Lib.hid (HX0.out.below hb1 HX0.out.lt)
      have HY1 := Lib.hid (HY0.out.below hb1 HY0.out.lt)
      have HB1 := Lib.hid (HB0.out.trans (hb1.mono HB0.out.size))
      have x0 := HX1.out.cell
      have xf := HX1.out.frozen
      have xlt := HX1.out.lt
      have y0 := HY1.out.cell
      have yf := HY1.out.frozen
      have ylt := HY1.out.lt
      clear hb1
      go_wp2_with fail
      refine (high4 lo 0 0 _ (by omega) (by omega) hlo).mono ?_
      rintro e w2 ⟨rfl, rfl⟩
      go_wp2_with fail
      refine bodyPost_ret (results_blk1 (P := Try.prog) Try.results11 _ _ (w.heap.size + 1) 24 #[.bool false, .int .u64 (0 : Int), .int .u64 ((clr lo (32 - 0) : Nat) : Int)] _ rfl ?_ Try.underlying24 rfl (by kernel_rfl)) rfl ⟨by rw [HC.out]; simp [Ad.cutN], ?_⟩
      · go_light
        repeat (first | (with_reducible apply Blk.set_to) | ((with_reducible apply Blk.far'); omega))
        exact HY1.out
        all_goals rfl
      · go_light
        have hs1 := HB1.out.size
        refine Kept.below (S := fun i => w.heap.size ≤ i) ?_ (Nat.le_refl _) (fun i h => h)
        repeat (first | ((with_reducible apply Kept.setNew); omega))
        exact Kept.of_below HB1.out (fun i _ h => h)
    by_cases hn2 : n ≤ 32
    · skip
      obtain ⟨m, rfl⟩ := Int.eq_ofNat_of_zero_le (show 0 ≤ n by omega)
      have hmI : (m : Int) ≤ 32 := by omega
      have hm0 : (0 : Int) ≤ (m : Int) := by omega
      have HC := Lib.hid (show Ad.cut ⟨false, 0, lo⟩ (m : Int) = Ad.cutN ⟨false, 0, lo⟩ m by unfold Ad.cut Ad.cl; congr 1; simp [Ad.bits]; omega)
      clear hn1 hn2
      go_enter Try.func11, Try.ntmps11
      go_wp2_with fail
      obtain ⟨w0, hw0⟩ : ∃ w0 : World, w0 = (w.alloc (.cells #[.bool false, .int .u64 0, .int .u64 (lo : Int)] 24)).alloc (.cells #[.bool false, .int .u64 0, .int .u64 0] 24) := ⟨_, rfl⟩
      have HX0 := Lib.hid (show Blk w0 w.heap.size 24 #[.bool false, .int .u64 0, .int .u64 (lo : Int)] by rw [hw0]; exact (Blk.new _ _ _).alloc _)
      have HY0 := Lib.hid (show Blk w0 (w.heap.size + 1) 24 #[.bool false, .int .u64 0, .int .u64 0] by rw [hw0]; exact Blk.new_ (by simp) _ _)
      have HB0 := Lib.hid (show Below w.heap.size w w0 by rw [hw0]; exact bel1.alloc (by simp) _)
      rw [← hw0]
      clear hw0
      refine (bits4_any _ _ _).mono ?_
      rintro e w1 ⟨rfl, hb1⟩
      have HX1 := Lib.hid (HX0.out.below hb1 HX0.out.lt)
      have HY1 := Lib.hid (HY0.out.below hb1 HY0.out.lt)
      have HB1 := Lib.hid (HB0.out.trans (hb1.mono HB0.out.size))
      have x0 := HX1.out.cell
      have xf := HX1.out.frozen
      have xlt := HX1.out.lt
      have y0 := HY1.out.cell
      have yf := HY1.out.frozen
      have ylt := HY1.out.lt
      clear hb1
      go_wp2_with fail
      refine (high4 lo m (m : Int) _ (by omega) (by omega) hlo).mono ?_
      rintro e w2 ⟨rfl, rfl⟩
      go_wp2_with fail
      refine bodyPost_ret (results_blk1 (P := Try.prog) Try.results11 _ _ (w.heap.size + 1) 24 #[.bool false, .int .u64 (0 : Int), .int .u64 ((clr lo (32 - m) : Nat) : Int)] _ rfl ?_ Try.underlying24 rfl (by kernel_rfl)) rfl ⟨by rw [HC.out]; simp [Ad.cutN], ?_⟩
      · go_light
        repeat (first | (with_reducible apply Blk.set_to) | ((with_reducible apply Blk.far'); omega))
        exact HY1.out
        all_goals rfl
      · go_light
        have hs1 := HB1.out.size
        refine Kept.below (S := fun i => w.heap.size ≤ i) ?_ (Nat.le_refl _) (fun i h => h)
        repeat (first | ((with_reducible apply Kept.setNew); omega))
        exact Kept.of_below HB1.out (fun i _ h => h)
    · skip
      have hn0 : 0 ≤ n := by omega
      have hnI : 32 < n := by omega
      have HC := Lib.hid (show Ad.cut ⟨false, 0, lo⟩ n = Ad.cutN ⟨false, 0, lo⟩ 32 by unfold Ad.cut Ad.cl; congr 1; simp [Ad.bits]; omega)
      clear hn1 hn2
      go_enter Try.func11, Try.ntmps11
      go_wp2_with fail
      obtain ⟨w0, hw0⟩ : ∃ w0 : World, w0 = (w.alloc (.cells #[.bool false, .int .u64 0, .int .u64 (lo : Int)] 24)).alloc (.cells #[.bool false, .int .u64 0, .int .u64 0] 24) := ⟨_, rfl⟩
      have HX0 := Lib.hid (show Blk w0 w.heap.size 24 #[.bool false, .int .u64 0, .int .u64 (lo : Int)] by rw [hw0]; exact (Blk.new _ _ _).alloc _)
      have HY0 := Lib.hid (show Blk w0 (w.heap.size + 1) 24 #[.bool false, .int .u64 0, .int .u64 0] by rw [hw0]; exact Blk.new_ (by simp) _ _)
      have HB0 := Lib.hid (show Below w.heap.size w w0 by rw [hw0]; exact bel1.alloc (by simp) _)
      rw [← hw0]
      clear hw0
      refine (bits4_any _ _ _).mono ?_
      rintro e w1 ⟨rfl, hb1⟩
      have HX1 := Lib.hid (HX0.out.below hb1 HX0.out.lt)
      have HY1 := Lib.hid (HY0.out.below hb1 HY0.out.lt)
      have HB1 := Lib.hid (HB0.out.trans (hb1.mono HB0.out.size))
      have x0 := HX1.out.cell
      have xf := HX1.out.frozen
      have xlt := HX1.out.lt
      have y0 := HY1.out.cell
      have yf := HY1.out.frozen
      have ylt := HY1.out.lt
      clear hb1
      go_wp2_with fail
      refine (high4 lo 32 32 _ (by omega) (by omega) hlo).mono ?_
      rintro e w2 ⟨rfl, rfl⟩
      go_wp2_with fail
      refine bodyPost_ret (results_blk1 (P := Try.prog) Try.results11 _ _ (w.heap.size + 1) 24 #[.bool false, .int .u64 (0 : Int), .int .u64 ((clr lo (32 - 32) : Nat) : Int)] _ rfl ?_ Try.underlying24 rfl (by kernel_rfl)) rfl ⟨by rw [HC.out]; simp [Ad.cutN], ?_⟩
      · go_light
        repeat (first | (with_reducible apply Blk.set_to) | ((with_reducible apply Blk.far'); omega))
        exact HY1.out
        all_goals rfl
      · go_light
        have hs1 := HB1.out.size
        refine Kept.below (S := fun i => w.heap.size ≤ i) ?_ (Nat.le_refl _) (fun i h => h)
        repeat (first | ((with_reducible apply Kept.setNew); omega))
        exact Kept.of_below HB1.out (fun i _ h => h)
  | true =>
    by_cases hn1 : n < 0
    · have hn2 : True := trivial
      have hnI : n < 0 := by omega
      have HC := Lib.hid (show Ad.cut ⟨true, hi, lo⟩ n = Ad.cutN ⟨true, hi, lo⟩ 0 by unfold Ad.cut Ad.cl; congr 1; simp [Ad.bits]; omega)
      clear hn1 hn2
      go_enter Try.func11, Try.ntmps11
      go_wp2_with fail
      obtain ⟨w0, hw0⟩ : ∃ w0 : World, w0 = (w.alloc (.cells #[.bool true, .int .u64 (hi : Int), .int .u64 (lo : Int)] 24)).alloc (.cells #[.bool false, .int .u64 0, .int .u64 0] 24) := ⟨_, rfl⟩
      have HX0 := Lib.hid (show Blk w0 w.heap.size 24 #[.bool true, .int .u64 (hi : Int), .int .u64 (lo : Int)] by rw [hw0]; exact (Blk.new _ _ _).alloc _)
      have HY0 := Lib.hid (show Blk w0 (w.heap.size + 1) 24 #[.bool false, .int .u64 0, .int .u64 0] by rw [hw0]; exact Blk.new_ (by simp) _ _)
      have HB0 := Lib.hid (show Below w.heap.size w w0 by rw [hw0]; exact bel1.alloc (by simp) _)
      rw [← hw0]
      clear hw0
      refine (bits6_any _ _ _).mono ?_
      rintro e w1 ⟨rfl, hb1⟩
      have HX1 := Lib.hid (HX0.out.below hb1 HX0.out.lt)
      have HY1 := Lib.hid (HY0.out.below hb1 HY0.out.lt)
      have HB1 := Lib.hid (HB0.out.trans (hb1.mono HB0.out.size))
      have x0 := HX1.out.cell
      have xf := HX1.out.frozen
      have xlt := HX1.out.lt
      have y0 := HY1.out.cell
      have yf := HY1.out.frozen
      have ylt := HY1.out.lt
      clear hb1
      go_wp2_with fail
      refine (high6a hi 0 0 _ (by omega) (by omega) hhi).mono ?_
      rintro e w2 ⟨rfl, rfl⟩
      go_wp2_with fail
      refine (high6b lo 0 _ _ (by omega) (by omega) hlo).mono ?_
      rintro e w2 ⟨rfl, rfl⟩
      go_wp2_with fail
      refine bodyPost_ret (results_blk1 (P := Try.prog) Try.results11 _ _ (w.heap.size + 1) 24 #[.bool true, .int .u64 ((clr hi (64 - 0) : Nat) : Int), .int .u64 ((clr lo (64 - (0 - 64)) : Nat) : Int)] _ rfl ?_ Try.underlying24 rfl (by kernel_rfl)) rfl ⟨by rw [HC.out]; simp [Ad.cutN], ?_⟩
      · go_light
        repeat (first | (with_reducible apply Blk.set_to) | ((with_reducible apply Blk.far'); omega))
        exact HY1.out
        all_goals rfl
      · go_light
        have hs1 := HB1.out.size
        refine Kept.below (S := fun i => w.heap.size ≤ i) ?_ (Nat.le_refl _) (fun i h => h)
        repeat (first | ((with_reducible apply Kept.setNew); omega))
        exact Kept.of_below HB1.out (fun i _ h => h)
    by_cases hn2 : n ≤ 128
    · skip
      obtain ⟨m, rfl⟩ := Int.eq_ofNat_of_zero_le (show 0 ≤ n by omega)
      have hmI : (m : Int) ≤ 128 := by omega
      have hm0 : (0 : Int) ≤ (m : Int) := by omega
      have HC := Lib.hid (show Ad.cut ⟨true, hi, lo⟩ (m : Int) = Ad.cutN ⟨true, hi, lo⟩ m by unfold Ad.cut Ad.cl; congr 1; simp [Ad.bits]; omega)
      clear hn1 hn2
      go_enter Try.func11, Try.ntmps11
      go_wp2_with fail
      obtain ⟨w0, hw0⟩ : ∃ w0 : World, w0 = (w.alloc (.cells #[.bool true, .int .u64 (hi : Int), .int .u64 (lo : Int)] 24)).alloc (.cells #[.bool false, .int .u64 0, .int .u64 0] 24) := ⟨_, rfl⟩
      have HX0 := Lib.hid (show Blk w0 w.heap.size 24 #[.bool true, .int .u64 (hi : Int), .int .u64 (lo : Int)] by rw [hw0]; exact (Blk.new _ _ _).alloc _)
      have HY0 := Lib.hid (show Blk w0 (w.heap.size + 1) 24 #[.bool false, .int .u64 0, .int .u64 0] by rw [hw0]; exact Blk.new_ (by simp) _ _)
      have HB0 := Lib.hid (show Below w.heap.size w w0 by rw [hw0]; exact bel1.alloc (by simp) _)
      rw [← hw0]
      clear hw0
      refine (bits6_any _ _ _).mono ?_
      rintro e w1 ⟨rfl, hb1⟩
      have HX1 := Lib.hid (HX0.out.below hb1 HX0.out.lt)
      have HY1 := Lib.hid (HY0.out.below hb1 HY0.out.lt)
      have HB1 := Lib.hid (HB0.out.trans (hb1.mono HB0.out.size))
      have x0 := HX1.out.cell
      have xf := HX1.out.frozen
      have xlt := HX1.out.lt
      have y0 := HY1.out.cell
      have yf := HY1.out.frozen
      have ylt := HY1.out.lt
      clear hb1
      go_wp2_with fail
      refine (high6a hi m (m : Int) _ (by omega) (by omega) hhi).mono ?_
      rintro e w2 ⟨rfl, rfl⟩
      go_wp2_with fail
      refine (high6b lo m _ _ (by omega) (by omega) hlo).mono ?_
      rintro e w2 ⟨rfl, rfl⟩
      go_wp2_with fail
      refine bodyPost_ret (results_blk1 (P := Try.prog) Try.results11 _ _ (w.heap.size + 1) 24 #[.bool true, .int .u64 ((clr hi (64 - m) : Nat) : Int), .int .u64 ((clr lo (64 - (m - 64)) : Nat) : Int)] _ rfl ?_ Try.underlying24 rfl (by kernel_rfl)) rfl ⟨by rw [HC.out]; simp [Ad.cutN], ?_⟩
      · go_light
        repeat (first | (with_reducible apply Blk.set_to) | ((with_reducible apply Blk.far'); omega))
        exact HY1.out
        all_goals rfl
      · go_light
        have hs1 := HB1.out.size
        refine Kept.below (S := fun i => w.heap.size ≤ i) ?_ (Nat.le_refl _) (fun i h => h)
        repeat (first | ((with_reducible apply Kept.setNew); omega))
        exact Kept.of_below HB1.out (fun i _ h => h)
    · skip
      have hn0 : 0 ≤ n := by omega
      have hnI : 128 < n := by omega
      have HC := Lib.hid (show Ad.cut ⟨true, hi, lo⟩ n = Ad.cutN ⟨true, hi, lo⟩ 128 by unfold Ad.cut Ad.cl; congr 1; simp [Ad.bits]; omega)
      clear hn1 hn2
      go_enter Try.func11, Try.ntmps11
      go_wp2_with fail
      obtain ⟨w0, hw0⟩ : ∃ w0 : World, w0 = (w.alloc (.cells #[.bool true, .int .u64 (hi : Int), .int .u64 (lo : Int)] 24)).alloc (.cells #[.bool false, .int .u64 0, .int .u64 0] 24) := ⟨_, rfl⟩
      have HX0 := Lib.hid (show Blk w0 w.heap.size 24 #[.bool true, .int .u64 (hi : Int), .int .u64 (lo : Int)] by rw [hw0]; exact (Blk.new _ _ _).alloc _)
      have HY0 := Lib.hid (show Blk w0 (w.heap.size + 1) 24 #[.bool false, .int .u64 0, .int .u64 0] by rw [hw0]; exact Blk.new_ (by simp) _ _)
      have HB0 := Lib.hid (show Below w.heap.size w w0 by rw [hw0]; exact bel1.alloc (by simp) _)
      rw [← hw0]
      clear hw0
      refine (bits6_any _ _ _).mono ?_
      rintro e w1 ⟨rfl, hb1⟩
      have HX1 := Lib.hid (HX0.out.below hb1 HX0.out.lt)
      have HY1 := Lib.hid (HY0.out.below hb1 HY0.out.lt)
      have HB1 := Lib.hid (HB0.out.trans (hb1.mono HB0.out.size))
      have x0 := HX1.out.cell
      have xf := HX1.out.frozen
      have xlt := HX1.out.lt
      have y0 := HY1.out.cell
      have yf := HY1.out.frozen
      have ylt := HY1.out.lt
      clear hb1
      go_wp2_with fail
      refine (high6a hi 128 128 _ (by omega) (by omega) hhi).mono ?_
      rintro e w2 ⟨rfl, rfl⟩
      go_wp2_with fail
      refine (high6b lo 128 _ _ (by omega) (by omega) hlo).mono ?_
      rintro e w2 ⟨rfl, rfl⟩
      go_wp2_with fail
      refine bodyPost_ret (results_blk1 (P := Try.prog) Try.results11 _ _ (w.heap.size + 1) 24 #[.bool true, .int .u64 ((clr hi (64 - 128) : Nat) : Int), .int .u64 ((clr lo (64 - (128 - 64)) : Nat) : Int)] _ rfl ?_ Try.underlying24 rfl (by kernel_rfl)) rfl ⟨by rw [HC.out]; simp [Ad.cutN], ?_⟩
      · go_light
        repeat (first | (with_reducible apply Blk.set_to) | ((with_reducible apply Blk.far'); omega))
        exact HY1.out
        all_goals rfl
      · go_light
        have hs1 := HB1.out.size
        refine Kept.below (S := fun i => w.heap.size ≤ i) ?_ (Nat.le_refl _) (fun i h => h)
        repeat (first | ((with_reducible apply Kept.setNew); omega))
        exact Kept.of_below HB1.out (fun i _ h => h)
end Go.Proofs.Ytchgbdghllkcpaa
