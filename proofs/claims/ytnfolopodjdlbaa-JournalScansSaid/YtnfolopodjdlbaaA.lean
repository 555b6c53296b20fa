/- The reference's Crc. -/
import Derived.Test.YtnfolopodjdlbaaPlain
import Derived.Test.YtnfolopodjdlbaaRgW
import Derived.Test.YtnfolopodjdlbaaBytesB
import Derived.Deep.Light
import Derived.Deep.LoopGhost
namespace Go.Proofs.Ytnfolopodjdlbaa
open Go.RowKit
set_option linter.unusedVariables false
theorem xor32 (a b : Nat) (ha : a < 4294967296) (hb : b < 4294967296) : bits .xor .u32 (a : Int) (b : Int) = ((a ^^^ b : Nat) : Int) := u32_xor_nat a b ha hb
theorem not32 (a : Nat) (ha : a < 4294967296) : bits .xor .u32 (a : Int) 4294967295 = ((a ^^^ 4294967295 : Nat) : Int) := u32_xor_nat a 4294967295 ha (by omega)
theorem not32' (a : Nat) (ha : a < 4294967296) : bits .xor .u32 4294967295 (a : Int) = ((a ^^^ 4294967295 : Nat) : Int) := by rw [Nat.xor_comm]; exact u32_xor_nat 4294967295 a (by omega) ha
theorem crc_take (c : Nat) (l : List UInt8) (k : Nat) (hk : k < l.length) : crc c (l.take (k + 1)) = stps 8 (crc c (l.take k) ^^^ l[k].toNat) := by
  rw [List.take_succ_eq_append_getElem hk, crc_append]; rfl
set_option maxHeartbeats 4000000 in
theorem refCrc_any (A : Option Addr) (c : Nat) (l : List UInt8) (w : World) (hl : l.length ≤ 1000000) (hB : BS w w.heap.size A l) :
    Calls Try.prog 21 #[.slice A l.length c] w fun e w' => e = .returned (.int .u32 ((crc 4294967295 l ^^^ 4294967295 : Nat) : Int)) ∧ w = w' := by
  have HB := Lib.hid hB
  clear hB
  go_enter Try.func21, Try.ntmps21
  go_wp2_with fail
  go_loop [3, 4] (fun v i => ∃ k : Nat, k ≤ l.length ∧ i = .int .i64 (k : Int) ∧ v = .int .u32 (crc 4294967295 (l.take k) : Int)) (fun _ i => l.length - (intOf i).toNat)
  case atStart => exact ⟨0, Nat.zero_le _, rfl, rfl⟩
  case round =>
    obtain ⟨k, hk, rfl, rfl⟩ := hrel
    have hk0 : (0 : Int) ≤ (k : Int) := Int.natCast_nonneg _
    by_cases hlt : k < l.length
    · have hk1 : (k : Int) < (l.length : Int) := by omega
      obtain ⟨b, o, hb, rfl, hca⟩ := HB.out.at hlt
      have c1 := hca k hlt
      have HT := Lib.hid (crc_take 4294967295 l k hlt)
      have HC := Lib.hid (crc_lt (c := 4294967295) (by decide) (l.take k))
      have hby := l[k].toNat_lt
      generalize l[k] = x at c1 HT hby
      clear hca
      obtain ⟨a, ha⟩ : ∃ a, crc 4294967295 (l.take k) = a := ⟨_, rfl⟩
      rw [ha] at HT HC ⊢
      have hx := xor32 a x.toNat HC.out (by omega)
      clear ha
      go_wp2_with fail
      go_loop [3, 5] (fun v i => ∃ j : Nat, j ≤ 8 ∧ i = .int .i64 (j : Int) ∧ v = .int .u32 (stps j (a ^^^ x.toNat) : Int)) (fun _ i => 8 - (intOf i).toNat)
      case atStart => exact ⟨0, by omega, rfl, rfl⟩
      case round =>
        obtain ⟨j, hj, rfl, rfl⟩ := hrel
        by_cases hlj : j < 8
        · have hS := Lib.hid (stps_succ j (a ^^^ x.toNat))
          obtain ⟨y, hy⟩ : ∃ y, stps j (a ^^^ x.toNat) = y := ⟨_, rfl⟩
          have hyl : y < 4294967296 := by rw [← hy]; exact stps_lt (Nat.xor_lt_two_pow (n := 32) HC.out (by omega))
          rw [hy] at hS ⊢
          clear hy
          rcases Nat.mod_two_eq_zero_or_one y with hm | hm
          · have hm1 : (y : Int) % 2 = 0 := by omega
            have hS2 := Lib.hid (show stp y = y / 2 by unfold stp; rw [if_neg (by omega)])
            go_wp2_with fail
            go_round
            case rel => exact ⟨j + 1, by omega, rfl, congrArg (Value.int .u32) (by rw [hS.out, hS2.out]; omega)⟩
            case measure => simp [intOf]; omega
          · have hm1 : (y : Int) % 2 = 1 := by omega
            have hS2 := Lib.hid (show stp y = y / 2 ^^^ 2197175160 by unfold stp; rw [if_pos hm])
            go_wp2_with fail
            go_round
            case rel => exact ⟨j + 1, by omega, rfl, congrArg (Value.int .u32) (by rw [hS.out, hS2.out]; exact xor32 (y / 2) 2197175160 (by omega) (by omega))⟩
            case measure => simp [intOf]; omega
        · have : j = 8 := by omega
          subst this
          go_wp2_with fail
          go_round
          case rel => exact ⟨k + 1, hlt, rfl, congrArg (Value.int .u32) (by rw [HT.out])⟩
          case measure => simp [intOf]; omega
    · have : k = l.length := by omega
      subst this
      rw [List.take_length]
      go_wp2_with fail
      go_ret
      exact ⟨congrArg (fun z => Ending.returned (.int .u32 z)) (not32' _ (crc_lt (by decide) l)), rfl⟩
end Go.Proofs.Ytnfolopodjdlbaa
