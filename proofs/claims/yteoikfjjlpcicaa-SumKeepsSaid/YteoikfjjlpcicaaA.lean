/- Contracts of sum.fold, sum.Update, the reference's Plus and Update. -/
import Derived.Test.YteoikfjjlpcicaaRows
import Derived.Test.YteoikfjjlpcicaaBase
import Derived.Test.YteoikfjjlpcicaaPlain
import Derived.Outline
import Derived.Deep.Light
namespace Go.Proofs.Yteoikfjjlpcicaa
open Go.RowKit

theorem and_low16 (n : Int) (h0 : 0 ≤ n) (h1 : n < 18446744073709551616) : bits .and .u64 n 65535 = n % 65536 := by
  obtain ⟨n, rfl⟩ := Int.eq_ofNat_of_zero_le h0
  have := u64_and_nat n 65535 (by omega) (by omega)
  rw [nat_mask16] at this
  simpa using this

set_option maxHeartbeats 1000000 in
theorem fold_any (n : Int) (w : World) (h0 : 0 ≤ n) (h1 : n < 18446744073709551616) :
    Calls Try.prog 13 #[.int .u64 n] w fun e w' => e = .returned (.int .u16 (norm n)) ∧ w = w' := by
  have hand := Lib.hid and_low16
  go_enter Try.func13, Try.ntmps13
  go_wp2
  go_loop [0] (fun x => ∃ m : Int, x = .int .u64 m ∧ 0 ≤ m ∧ m < 18446744073709551616 ∧ Hid (norm m = norm n)) (fun x => (intOf x).toNat)
  case atStart => exact ⟨n, rfl, h0, h1, Lib.hid rfl⟩
  case round =>
    obtain ⟨m, rfl, m0, m1, hm⟩ := hrel
    by_cases hlt : 65535 < m
    · have ha := hand.out m m0 m1
      go_wp2
      go_round
      case rel => exact ⟨_, rfl, by omega, by omega, Lib.hid (by rw [norm_step m hlt, hm.out])⟩
      case measure => simp [intOf]; omega
    · go_wp2
      go_ret
      exact ⟨ret_int (by rw [← hm.out, norm_small m m0 (by omega)]), rfl⟩

theorem not16 (s : Int) (h0 : 0 ≤ s) (h1 : s ≤ 65535) : bits .xor .u16 IntKind.u16.max s = 65535 - s := by
  obtain ⟨s, rfl⟩ := Int.eq_ofNat_of_zero_le h0
  rw [show IntKind.u16.max = ((65535 : Nat) : Int) from rfl, u16_xor_nat 65535 s (by omega) (by omega)]
  have e : (65535 ^^^ s : Nat) = 65535 - s := by
    have h := congrArg BitVec.toNat (BitVec.allOnes_xor (x := BitVec.ofNat 16 s))
    rw [BitVec.toNat_xor, BitVec.toNat_not, BitVec.toNat_allOnes, BitVec.toNat_ofNat, Nat.mod_eq_of_lt (by omega)] at h
    simpa using h
  rw [e]
  omega

theorem update_any (s was now : Int) (w : World) (s0 : 0 ≤ s) (s1 : s ≤ 65535) (a0 : 0 ≤ was) (a1 : was ≤ 65535) (b0 : 0 ≤ now) (b1 : now ≤ 65535) :
    Calls Try.prog 7 #[.int .u16 s, .int .u16 was, .int .u16 now] w fun e w' => e = .returned (.int .u16 (updI s was now)) ∧ w = w' := by
  have ex := not16 s s0 s1
  have ey := not16 was a0 a1
  have x0 : 0 ≤ bits .xor .u16 IntKind.u16.max s := by omega
  have x1 : bits .xor .u16 IntKind.u16.max s ≤ 65535 := by omega
  have y0 : 0 ≤ bits .xor .u16 IntKind.u16.max was := by omega
  have y1 : bits .xor .u16 IntKind.u16.max was ≤ 65535 := by omega
  have hr := norm_range (bits .xor .u16 IntKind.u16.max s + bits .xor .u16 IntKind.u16.max was + now)
  have hf := fold_any (bits .xor .u16 IntKind.u16.max s + bits .xor .u16 IntKind.u16.max was + now) w (by omega) (by omega)
  obtain ⟨r, hN⟩ : ∃ r, norm (bits .xor .u16 IntKind.u16.max s + bits .xor .u16 IntKind.u16.max was + now) = r := ⟨_, rfl⟩
  rw [hN] at hf hr
  obtain ⟨hr0, hr1⟩ := hr
  have HU := Lib.hid (show updI s was now = bits .xor .u16 IntKind.u16.max r by rw [not16 r hr0 hr1, updI, ← ex, ← ey, hN])
  have HF := Lib.hid hf
  have K1 := Lib.hid (IntWalk.u64_in (bits .xor .u16 IntKind.u16.max s) (by omega))
  have K2 := Lib.hid (IntWalk.u64_in (bits .xor .u16 IntKind.u16.max was) (by omega))
  have K3 := Lib.hid (IntWalk.u64_in (bits .xor .u16 IntKind.u16.max s + bits .xor .u16 IntKind.u16.max was) (by omega))
  have K4 := Lib.hid (IntWalk.u64_in (bits .xor .u16 IntKind.u16.max s + bits .xor .u16 IntKind.u16.max was + now) (by omega))
  clear hf hN ex ey
  go_enter Try.func7, Try.ntmps7
  go_wp2_with fail
  rw [K1.out, K2.out, K3.out, K4.out]
  refine HF.out.mono ?_
  rintro e w' ⟨rfl, rfl⟩
  go_wp2_with fail
  go_ret
  exact ⟨ret_int HU.out.symm, rfl⟩

theorem plus_any (a b : Int) (w : World) (a0 : 0 ≤ a) (a1 : a ≤ 65535) (b0 : 0 ≤ b) (b1 : b ≤ 65535) :
    Calls Try.prog 14 #[.int .u32 a, .int .u32 b] w fun e w' => e = .returned (.int .u32 (plus a b)) ∧ w = w' := by
  by_cases h : 65535 < a + b
  · have HF := Lib.hid (show plus a b = a + b - 65535 by rw [plus, if_pos h])
    go_enter Try.func14, Try.ntmps14
    go_wp2
    go_ret
    exact ⟨ret_int HF.out.symm, rfl⟩
  · have HF := Lib.hid (show plus a b = a + b by rw [plus, if_neg h])
    go_enter Try.func14, Try.ntmps14
    go_wp2
    go_ret
    exact ⟨ret_int HF.out.symm, rfl⟩
theorem refUpdate_any (s was now : Int) (w : World) (s0 : 0 ≤ s) (s1 : s ≤ 65535) (a0 : 0 ≤ was) (a1 : was ≤ 65535) (b0 : 0 ≤ now) (b1 : now ≤ 65535) :
    Calls Try.prog 10 #[.int .u16 s, .int .u16 was, .int .u16 now] w fun e w' => e = .returned (.int .u16 (updI s was now)) ∧ w = w' := by
  have hp := plus_range (65535 - s) (65535 - was) (by omega) (by omega) (by omega) (by omega)
  have hq := plus_range (plus (65535 - s) (65535 - was)) now hp.1 hp.2 b0 b1
  have h1 := plus_any (65535 - s) (65535 - was) w (by omega) (by omega) (by omega) (by omega)
  have h2 := plus_any (plus (65535 - s) (65535 - was)) now w hp.1 hp.2 b0 b1
  have hU : updI s was now = 65535 - plus (plus (65535 - s) (65535 - was)) now := by rw [updI, plus_plus _ _ _ (by omega) (by omega) (by omega) (by omega) b0 b1]
  obtain ⟨x, hx⟩ : ∃ x, plus (65535 - s) (65535 - was) = x := ⟨_, rfl⟩
  rw [hx] at h1 h2 hp hq hU
  obtain ⟨y, hy⟩ : ∃ y, plus x now = y := ⟨_, rfl⟩
  rw [hy] at h2 hq hU
  have H1 := Lib.hid h1
  have H2 := Lib.hid h2
  have HU := Lib.hid hU
  obtain ⟨x0, x1⟩ := hp
  obtain ⟨y0, y1⟩ := hq
  clear h1 h2 hU hx hy
  go_enter Try.func10, Try.ntmps10
  go_wp2_with fail
  refine H1.out.mono ?_
  rintro e w' ⟨rfl, rfl⟩
  go_wp2_with fail
  refine H2.out.mono ?_
  rintro e w' ⟨rfl, rfl⟩
  go_wp2_with fail
  go_ret
  exact ⟨ret_int HU.out.symm, rfl⟩
end Go.Proofs.Yteoikfjjlpcicaa
