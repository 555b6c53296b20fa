/- Contracts of the reference's Bit and Sum, of spread.Flow; the law SpreadSums, walked. -/
import Derived.Test.YtkkmlpaadbphjaaAddr
import Derived.Test.YtkkmlpaadbphjaaPlainR
import Derived.Test.YtkkmlpaadbphjaaB
namespace Go.Proofs.Ytkkmlpaadbphjaa
open Go.RowKit
set_option linter.unusedVariables false

theorem half_step (x m : Nat) : x / 2 ^ m / 2 = x / 2 ^ (m + 1) := by rw [Nat.div_div_eq_div_mul, Nat.pow_succ]
set_option maxHeartbeats 1000000 in
theorem refBit_any (A : Option Addr) (c : Nat) (l : List UInt8) (k : Nat) (w : World) (hl : l.length ≤ 1000000) (hk : k ≤ 8000000) (hB : BS w w.heap.size A l) :
    Calls Try.prog 21 #[.slice A l.length c, .int .i64 (k : Int)] w fun e w' => e = .returned (.int .u32 (kbit l k : Int)) ∧ w = w' := by
  by_cases h : k / 8 < l.length
  · obtain ⟨b, o, hb, rfl, hca⟩ := hB.at h
    have c1 := hca (k / 8) h
    have iI : (k : Int) / 8 < (l.length : Int) := by omega
    have hq : ((k : Int) / 8).toNat = k / 8 := by omega
    have HX := Lib.hid (show kb l (k / 8) = l[k / 8].toNat by simp [kb, List.getD_eq_getElem?_getD, h])
    have HK := Lib.hid (show kbit l k = kb l (k / 8) / 2 ^ (7 - k % 8) % 2 from rfl)
    rw [HX.out] at HK
    have hx := (l[k / 8]).toNat_lt
    generalize l[k / 8] = x at c1 HK hx
    clear hca hB HX
    go_enter Try.func21, Try.ntmps21
    go_wp2_with fail
    go_loop [5, 6] (fun y i => ∃ m : Nat, m ≤ 7 - k % 8 ∧ i = .int .i64 (7 - (m : Int)) ∧ y = .int .u32 ((x.toNat / 2 ^ m : Nat) : Int)) (fun _ i => (intOf i).toNat)
    case atStart => exact ⟨0, by omega, rfl, congrArg (Value.int .u32) (by simp)⟩
    case round =>
      obtain ⟨m, hm, rfl, rfl⟩ := hrel
      have hxm : x.toNat / 2 ^ m ≤ x.toNat := Nat.div_le_self _ _
      by_cases hlt : m < 7 - k % 8
      · have hI : (k : Int) % 8 < 7 - (m : Int) := by omega
        have HH := Lib.hid (half_step x.toNat m)
        generalize x.toNat / 2 ^ m = y at *
        go_wp2_with fail
        go_round
        case rel => exact ⟨m + 1, by omega, congrArg (Value.int .i64) (by omega), congrArg (Value.int .u32) (by rw [← HH.out]; omega)⟩
        case measure => simp [intOf]; omega
      · obtain rfl : m = 7 - k % 8 := by omega
        have hI : ¬ (k : Int) % 8 < 7 - ((7 - k % 8 : Nat) : Int) := by omega
        generalize x.toNat / 2 ^ (7 - k % 8) = y at *
        go_wp2_with fail
        go_ret
        exact ⟨ret_int (by rw [HK.out]; omega), rfl⟩
  · have HK := Lib.hid (show kbit l k = 0 by unfold kbit kb; simp [List.getD_eq_getElem?_getD, List.getElem?_eq_none (Nat.le_of_not_lt h)])
    have iI : ¬ (k : Int) / 8 < (l.length : Int) := by omega
    clear hB
    go_enter Try.func21, Try.ntmps21
    go_wp2_with fail
    go_ret
    exact ⟨ret_int (by rw [HK.out]; rfl), rfl⟩
theorem xor_u32 (a b : Nat) (ha : a < 4294967296) (hb : b < 4294967296) : bits .xor .u32 (a : Int) (b : Int) = ((a ^^^ b : Nat) : Int) := u32_xor_nat a b ha hb
set_option maxHeartbeats 2000000 in
theorem refSum_any (A C : Option Addr) (c d : Nat) (key b : List UInt8) (w : World) (hl : key.length ≤ 100000) (hb : b.length ≤ 10000) (hA : BS w w.heap.size A key) (hC : BS w w.heap.size C b) :
    Calls Try.prog 16 #[.slice A key.length c, .slice C b.length d] w fun e w' => e = .returned (.int .u32 (sm key b b.length : Int)) ∧ w = w' := by
  have HA := Lib.hid hA
  have HC := Lib.hid hC
  clear hA hC
  go_enter Try.func16, Try.ntmps16
  go_wp2_with fail
  go_loop [5, 6, 7, 8] (fun s i _ _ => ∃ k : Nat, k ≤ 8 * b.length ∧ i = .int .i64 (k : Int) ∧ s = .int .u32 (rs key b k : Int)) (fun _ i _ _ => 8 * b.length - (intOf i).toNat)
  case atStart => exact ⟨0, by omega, rfl, rfl⟩
  case round =>
    obtain ⟨k, hk, rfl, rfl⟩ := hrel
    have hrs := rs_lt key b k
    by_cases hkl : k < 8 * b.length
    · have hkI : (k : Int) < 8 * (b.length : Int) := by omega
      have hkb := kbit_lt b k
      have HRS := Lib.hid (show rs key b (k + 1) = if kbit b k = 0 then rs key b k else rs key b k ^^^ wr key k 32 from rfl)
      have HBT := Lib.hid (refBit_any C d b k w (by omega) (by omega) HC.out)
      generalize rs key b k = r at *
      go_wp2_with fail
      refine HBT.out.mono ?_
      rintro e w1 ⟨rfl, rfl⟩
      by_cases hz : kbit b k = 0
      · have HR2 := Lib.hid (HRS.out.trans (by rw [if_pos hz]))
        rw [hz]
        clear hz HRS HBT
        go_wp2_with fail
        go_round
        case rel => exact ⟨k + 1, by omega, by go_num, by rw [HR2.out]⟩
        case measure => simp [intOf]; omega
      · have HR2 := Lib.hid (HRS.out.trans (by rw [if_neg hz]))
        rw [show kbit b k = 1 by omega]
        clear hz HRS HBT hkb
        go_wp2_with fail
        go_loop [7, 8] (fun y i => ∃ j : Nat, j ≤ 32 ∧ i = .int .i64 (j : Int) ∧ y = .int .u32 (wr key k j : Int)) (fun _ i => 32 - (intOf i).toNat)
        case atStart => exact ⟨0, by omega, rfl, rfl⟩
        case round =>
          obtain ⟨j, hj, rfl, rfl⟩ := hrel
          by_cases hj32 : j < 32
          · have hjI : (j : Int) < 32 := by omega
            have hwl : wr key k j < 2147483648 := by
              have h1 := wr_lt key k j
              have h2 : 2 ^ j ≤ 2 ^ 31 := Nat.pow_le_pow_right (by omega) (by omega)
              omega
            have hkb := kbit_lt key (k + j)
            have HW := Lib.hid (show wr key k (j + 1) = wr key k j * 2 + kbit key (k + j) from rfl)
            have HBT := Lib.hid (refBit_any A c key (k + j) w (by omega) (by omega) HA.out)
            rw [show ((k + j : Nat) : Int) = (k : Int) + (j : Int) by omega] at HBT
            generalize wr key k j = y at *
            generalize kbit key (k + j) = z at *
            go_wp2_with fail
            refine HBT.out.mono ?_
            rintro e w1 ⟨rfl, rfl⟩
            go_wp2_with fail
            go_round
            case rel => exact ⟨j + 1, by omega, by go_num, congrArg (Value.int .u32) (by rw [HW.out]; omega)⟩
            case measure => simp [intOf]; omega
          · obtain rfl : j = 32 := by omega
            have hwl : wr key k 32 < 4294967296 := wr_lt key k 32
            have hxo := xor_u32 r (wr key k 32) hrs hwl
            go_wp2_with fail
            go_round
            case rel => exact ⟨k + 1, by omega, by go_num, by rw [HR2.out]⟩
            case measure => simp [intOf]; omega
    · obtain rfl : k = 8 * b.length := by omega
      have HS := Lib.hid (rs_sm key b b.length)
      go_wp2_with fail
      go_ret
      exact ⟨ret_int (by rw [HS.out]), rfl⟩
end Go.Proofs.Ytkkmlpaadbphjaa
