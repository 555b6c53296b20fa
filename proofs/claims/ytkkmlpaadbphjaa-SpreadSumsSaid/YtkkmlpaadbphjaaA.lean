/- Contracts of spread.at and spread.Sum. -/
import Derived.Test.YtkkmlpaadbphjaaRows
import Derived.Test.YtkkmlpaadbphjaaBytesB
import Derived.Test.YtkkmlpaadbphjaaRgW
import Derived.Test.YtkkmlpaadbphjaaPlain
import Derived.Test.YtkkmlpaadbphjaaNums
import Derived.Outline
import Derived.Deep.Light
import Derived.Deep.DeepCutAuto
import Derived.Deep.LoopGhost
namespace Go.Proofs.Ytkkmlpaadbphjaa
open Go.RowKit
set_option linter.unusedVariables false

theorem at_any (A : Option Addr) (c : Nat) (l : List UInt8) (i : Nat) (w : World) (hl : l.length ≤ 1000000) (hi : i ≤ 1000000) (hB : BS w w.heap.size A l) :
    Calls Try.prog 19 #[.slice A l.length c, .int .i64 (i : Int)] w fun e w' => e = .returned (.int .u8 (kb l i : Int)) ∧ w = w' := by
  by_cases h : i < l.length
  · obtain ⟨b, o, hb, rfl, hca⟩ := hB.at h
    have c1 := hca i h
    have iI : (i : Int) < (l.length : Int) := by omega
    have HX := Lib.hid (show kb l i = l[i].toNat by simp [kb, List.getD_eq_getElem?_getD, h])
    generalize l[i] = x at c1 HX
    clear hca hB
    go_enter Try.func19, Try.ntmps19
    go_wp2_with fail
    go_ret
    exact ⟨ret_int (by rw [HX.out]), rfl⟩
  · have HX := Lib.hid (show kb l i = 0 by simp [kb, List.getD_eq_getElem?_getD, List.getElem?_eq_none (Nat.le_of_not_lt h)])
    have iI : ¬ (i : Int) < (l.length : Int) := by omega
    clear hB
    go_enter Try.func19, Try.ntmps19
    go_wp2_with fail
    go_ret
    exact ⟨ret_int (by rw [HX.out]; rfl), rfl⟩

theorem or_byteN (n : Nat) (c : Nat) (n1 : n < 72057594037927936) (c1 : c < 256) : bits .or .u64 ((n : Int) * 256) (c : Int) = ((n * 256 + c : Nat) : Int) := by
  have e : ((n : Int) * 256) = ((n * 256 : Nat) : Int) := by omega
  rw [e, u64_or_nat _ _ (by omega) (by omega), nat_join 8 _ _ _ (by omega)]
  omega
theorem or_wrap (n c : Nat) (n1 : n < 18446744073709551616) (c1 : c < 256) : bits .or .u64 (IntKind.u64.wrap ((n : Int) * 256)) (c : Int) = ((n * 256 % 18446744073709551616 + c : Nat) : Int) := by
  have e : IntKind.u64.wrap ((n : Int) * 256) = ((n * 256 % 18446744073709551616 : Nat) : Int) := by rw [IntKind.wrap_u64]; omega
  rw [e, u64_or_nat _ _ (by omega) (by omega), nat_join 8 _ _ (by omega) (by omega)]
theorem bit_test (x i : Nat) (hx : x < 256) (hi : i < 8) : (bits .and .u8 (x : Int) ((2 ^ i : Nat) : Int) != 0) = x.testBit i := by
  have hp : 2 ^ i ≤ 2 ^ 7 := Nat.pow_le_pow_right (by omega) (by omega)
  rw [u8_and_nat x (2 ^ i) hx (by omega)]
  cases h : x.testBit i
  · have : x &&& 2 ^ i = 0 := by
      apply Nat.eq_of_testBit_eq
      intro j
      rw [Nat.testBit_and, Nat.testBit_two_pow, Nat.zero_testBit]
      by_cases hj : i = j
      · subst hj; simp [h]
      · simp [hj]
    rw [this]; rfl
  · have : x &&& 2 ^ i ≠ 0 := by
      intro e
      have h2 : (x &&& 2 ^ i).testBit i = true := by rw [Nat.testBit_and, Nat.testBit_two_pow]; simp [h]
      rw [e] at h2; simp at h2
    rw [bne_iff_ne]; omega
theorem inn_yes (N x j s0 : Nat) (T : Int) (b : Bool) (hs : s0 < 4294967296) (hT : T = (term N j : Int)) (hb : b = x.testBit (7 - j)) (h : b = true) : bits .xor .u32 ((s0 ^^^ inn N x j : Nat) : Int) T = ((s0 ^^^ inn N x (j + 1) : Nat) : Int) := by
  rw [hT, u32_xor_nat _ _ (Nat.xor_lt_two_pow (n := 32) hs (inn_lt _ _ _)) (term_lt _ _), Nat.xor_assoc]
  simp only [inn]
  rw [← hb, h, if_pos rfl]
theorem inn_no (N x j : Nat) (b : Bool) (hb : b = x.testBit (7 - j)) (h : b = false) : inn N x (j + 1) = inn N x j := by
  simp only [inn]
  rw [← hb, h]; simp
set_option maxRecDepth 100000 in
set_option maxHeartbeats 4000000 in
theorem sum_any (A C : Option Addr) (c d : Nat) (key b : List UInt8) (w : World) (hl : key.length ≤ 1000000) (hb : b.length ≤ 100000) (hA : BS w w.heap.size A key) (hC : BS w w.heap.size C b) :
    Calls Try.prog 7 #[.slice A key.length c, .slice C b.length d] w fun e w' => e = .returned (.int .u32 (sm key b b.length : Int)) ∧ w = w' := by
  have HA := Lib.hid hA
  have HC := Lib.hid hC
  have hor := Lib.hid or_byteN
  clear hA hC
  go_enter Try.func7, Try.ntmps7
  go_wp2_with fail
  go_loop [6, 7, 11] (fun n q i => ∃ k : Nat, k ≤ 4 ∧ i = .int .i64 (k : Int) ∧ n = .int .u64 (pre key k : Int)) (fun _ _ i => 4 - (intOf i).toNat)
  case atStart => exact ⟨0, by omega, rfl, rfl⟩
  case round =>
    obtain ⟨k, hk, rfl, rfl⟩ := hrel
    by_cases hk4 : k < 4
    · have hp := pre_lt key k (by omega)
      have hbk := kb_lt key k
      have HS := Lib.hid (show pre key (k + 1) = pre key k * 256 + kb key k from rfl)
      obtain ⟨x, hx⟩ : ∃ x, kb key k = x := ⟨_, rfl⟩
      have HT := Lib.hid (at_any A c key k w hl (by omega) HA.out)
      rw [hx] at HT HS hbk
      generalize pre key k = n at hp HS ⊢
      have ho := hor.out n x (by omega) hbk
      clear hx
      go_wp2_with fail
      refine HT.out.mono ?_
      rintro e w' ⟨rfl, rfl⟩
      go_wp2_with fail
      go_round
      case rel => exact ⟨k + 1, by omega, by go_num, by rw [HS.out]; exact congrArg (Value.int .u64) (by omega)⟩
      case measure => simp [intOf]; omega
    · obtain rfl : k = 4 := by omega
      go_wp2_with fail
      go_loop [5, 6, 8, 9, 10, 24, 38] (fun s n _ _ _ i _ => ∃ k : Nat, k ≤ b.length ∧ i = .int .i64 (k : Int) ∧ n = .int .u64 (win key k : Int) ∧ s = .int .u32 (sm key b k : Int)) (fun _ _ _ _ _ i _ => b.length - (intOf i).toNat)
      case atStart => exact ⟨0, by omega, rfl, rfl, rfl⟩
      case round =>
        obtain ⟨k, hk, rfl, rfl, rfl⟩ := hrel
        by_cases hkb : k < b.length
        · obtain ⟨b', o', hb', rfl, hca⟩ := HC.out.at hkb
          have c1 := hca k hkb
          have kI : (k : Int) < (b.length : Int) := by omega
          have HX := Lib.hid (show kb b k = b[k].toNat by simp [kb, List.getD_eq_getElem?_getD, hkb])
          generalize b[k] = x at c1 HX
          have hxl := x.toNat_lt
          have hwl := win_lt key k
          have hbk := kb_lt key (k + 4)
          have HW := Lib.hid (show win key (k + 1) = win key k * 256 % 18446744073709551616 + kb key (k + 4) from rfl)
          have hsl := sm_lt key b k
          have HT := Lib.hid (at_any A c key (k + 4) w hl (by omega) HA.out)
          have HSM := Lib.hid (show sm key b (k + 1) = sm key b k ^^^ inn (win key (k + 1)) (kb b k) 8 from rfl)
          rw [HX.out] at HSM
          obtain ⟨y, hy⟩ : ∃ y, kb key (k + 4) = y := ⟨_, rfl⟩
          rw [hy] at HT HW hbk
          obtain ⟨n, hn⟩ : ∃ n, win key k = n := ⟨_, rfl⟩
          rw [hn] at HW hwl
          obtain ⟨s0, hs0⟩ : ∃ s0, sm key b k = s0 := ⟨_, rfl⟩
          rw [hs0] at HSM hsl
          rw [hn, hs0]
          have ho := or_wrap n y hwl hbk
          rw [← HW.out] at ho
          have hNl := win_lt key (k + 1)
          obtain ⟨N, hN⟩ : ∃ N, win key (k + 1) = N := ⟨_, rfl⟩
          rw [hN] at HSM HW ho hNl
          have HN := Lib.hid hN
          clear hy hn hs0 hca hN
          go_wp2_with fail
          rw [show ((k : Int) + 5 - 1) = ((k + 4 : Nat) : Int) by omega]
          refine HT.out.mono ?_
          rintro e w' ⟨rfl, rfl⟩
          go_wp2_with fail
          go_loop [5, 10, 38] (fun s _ i => ∃ j : Nat, j ≤ 8 ∧ i = .int .i64 (j : Int) ∧ s = .int .u32 ((s0 ^^^ inn N x.toNat j : Nat) : Int)) (fun _ _ i => 8 - (intOf i).toNat)
          case atStart => exact ⟨0, by omega, rfl, by simp [inn]⟩
          case round =>
            obtain ⟨j, hj, rfl, rfl⟩ := hrel
            by_cases hj8 : j < 8
            · have : j = 0 ∨ j = 1 ∨ j = 2 ∨ j = 3 ∨ j = 4 ∨ j = 5 ∨ j = 6 ∨ j = 7 := by omega
              rcases this with rfl | rfl | rfl | rfl | rfl | rfl | rfl | rfl
              · go_wp2_with fail
                · have hT := (bit_test x.toNat 7 hxl (by omega)).symm
                  have HY : (bits .and .u8 (x.toNat : Int) 128 != 0) = true := by assumption
                  have he := inn_yes N x.toNat 0 s0 ((N : Int) / 256 % 4294967296) _ hsl (by unfold term; omega) hT.symm HY
                  go_round
                  case rel => exact ⟨0+1, by omega, rfl, congrArg (Value.int .u32) he⟩
                  case measure => simp [intOf]
                · have hT := (bit_test x.toNat 7 hxl (by omega)).symm
                  have HY : (bits .and .u8 (x.toNat : Int) 128 != 0) = false := by assumption
                  have he := inn_no N x.toNat 0 _ hT.symm HY
                  go_round
                  case rel => exact ⟨0+1, by omega, rfl, by rw [he]⟩
                  case measure => simp [intOf]
              · go_wp2_with fail
                · have hT := (bit_test x.toNat 6 hxl (by omega)).symm
                  have HY : (bits .and .u8 (x.toNat : Int) 64 != 0) = true := by assumption
                  have he := inn_yes N x.toNat 1 s0 ((N : Int) / 128 % 4294967296) _ hsl (by unfold term; omega) hT.symm HY
                  go_round
                  case rel => exact ⟨1+1, by omega, rfl, congrArg (Value.int .u32) he⟩
                  case measure => simp [intOf]
                · have hT := (bit_test x.toNat 6 hxl (by omega)).symm
                  have HY : (bits .and .u8 (x.toNat : Int) 64 != 0) = false := by assumption
                  have he := inn_no N x.toNat 1 _ hT.symm HY
                  go_round
                  case rel => exact ⟨1+1, by omega, rfl, by rw [he]⟩
                  case measure => simp [intOf]
              · go_wp2_with fail
                · have hT := (bit_test x.toNat 5 hxl (by omega)).symm
                  have HY : (bits .and .u8 (x.toNat : Int) 32 != 0) = true := by assumption
                  have he := inn_yes N x.toNat 2 s0 ((N : Int) / 64 % 4294967296) _ hsl (by unfold term; omega) hT.symm HY
                  go_round
                  case rel => exact ⟨2+1, by omega, rfl, congrArg (Value.int .u32) he⟩
                  case measure => simp [intOf]
                · have hT := (bit_test x.toNat 5 hxl (by omega)).symm
                  have HY : (bits .and .u8 (x.toNat : Int) 32 != 0) = false := by assumption
                  have he := inn_no N x.toNat 2 _ hT.symm HY
                  go_round
                  case rel => exact ⟨2+1, by omega, rfl, by rw [he]⟩
                  case measure => simp [intOf]
              · go_wp2_with fail
                · have hT := (bit_test x.toNat 4 hxl (by omega)).symm
                  have HY : (bits .and .u8 (x.toNat : Int) 16 != 0) = true := by assumption
                  have he := inn_yes N x.toNat 3 s0 ((N : Int) / 32 % 4294967296) _ hsl (by unfold term; omega) hT.symm HY
                  go_round
                  case rel => exact ⟨3+1, by omega, rfl, congrArg (Value.int .u32) he⟩
                  case measure => simp [intOf]
                · have hT := (bit_test x.toNat 4 hxl (by omega)).symm
                  have HY : (bits .and .u8 (x.toNat : Int) 16 != 0) = false := by assumption
                  have he := inn_no N x.toNat 3 _ hT.symm HY
                  go_round
                  case rel => exact ⟨3+1, by omega, rfl, by rw [he]⟩
                  case measure => simp [intOf]
              · go_wp2_with fail
                · have hT := (bit_test x.toNat 3 hxl (by omega)).symm
                  have HY : (bits .and .u8 (x.toNat : Int) 8 != 0) = true := by assumption
                  have he := inn_yes N x.toNat 4 s0 ((N : Int) / 16 % 4294967296) _ hsl (by unfold term; omega) hT.symm HY
                  go_round
                  case rel => exact ⟨4+1, by omega, rfl, congrArg (Value.int .u32) he⟩
                  case measure => simp [intOf]
                · have hT := (bit_test x.toNat 3 hxl (by omega)).symm
                  have HY : (bits .and .u8 (x.toNat : Int) 8 != 0) = false := by assumption
                  have he := inn_no N x.toNat 4 _ hT.symm HY
                  go_round
                  case rel => exact ⟨4+1, by omega, rfl, by rw [he]⟩
                  case measure => simp [intOf]
              · go_wp2_with fail
                · have hT := (bit_test x.toNat 2 hxl (by omega)).symm
                  have HY : (bits .and .u8 (x.toNat : Int) 4 != 0) = true := by assumption
                  have he := inn_yes N x.toNat 5 s0 ((N : Int) / 8 % 4294967296) _ hsl (by unfold term; omega) hT.symm HY
                  go_round
                  case rel => exact ⟨5+1, by omega, rfl, congrArg (Value.int .u32) he⟩
                  case measure => simp [intOf]
                · have hT := (bit_test x.toNat 2 hxl (by omega)).symm
                  have HY : (bits .and .u8 (x.toNat : Int) 4 != 0) = false := by assumption
                  have he := inn_no N x.toNat 5 _ hT.symm HY
                  go_round
                  case rel => exact ⟨5+1, by omega, rfl, by rw [he]⟩
                  case measure => simp [intOf]
              · go_wp2_with fail
                · have hT := (bit_test x.toNat 1 hxl (by omega)).symm
                  have HY : (bits .and .u8 (x.toNat : Int) 2 != 0) = true := by assumption
                  have he := inn_yes N x.toNat 6 s0 ((N : Int) / 4 % 4294967296) _ hsl (by unfold term; omega) hT.symm HY
                  go_round
                  case rel => exact ⟨6+1, by omega, rfl, congrArg (Value.int .u32) he⟩
                  case measure => simp [intOf]
                · have hT := (bit_test x.toNat 1 hxl (by omega)).symm
                  have HY : (bits .and .u8 (x.toNat : Int) 2 != 0) = false := by assumption
                  have he := inn_no N x.toNat 6 _ hT.symm HY
                  go_round
                  case rel => exact ⟨6+1, by omega, rfl, by rw [he]⟩
                  case measure => simp [intOf]
              · go_wp2_with fail
                · have hT := (bit_test x.toNat 0 hxl (by omega)).symm
                  have HY : (bits .and .u8 (x.toNat : Int) 1 != 0) = true := by assumption
                  have he := inn_yes N x.toNat 7 s0 ((N : Int) / 2 % 4294967296) _ hsl (by unfold term; omega) hT.symm HY
                  go_round
                  case rel => exact ⟨7+1, by omega, rfl, congrArg (Value.int .u32) he⟩
                  case measure => simp [intOf]
                · have hT := (bit_test x.toNat 0 hxl (by omega)).symm
                  have HY : (bits .and .u8 (x.toNat : Int) 1 != 0) = false := by assumption
                  have he := inn_no N x.toNat 7 _ hT.symm HY
                  go_round
                  case rel => exact ⟨7+1, by omega, rfl, by rw [he]⟩
                  case measure => simp [intOf]
            · obtain rfl : j = 8 := by omega
              go_wp2_with fail
              go_round
              case rel => exact ⟨k + 1, by omega, by go_num, by rw [HN.out], by rw [HSM.out]⟩
              case measure => simp [intOf]; omega
        · obtain rfl : k = b.length := by omega
          go_wp2_with fail
          go_ret
          exact ⟨rfl, rfl⟩
end Go.Proofs.Ytkkmlpaadbphjaa
