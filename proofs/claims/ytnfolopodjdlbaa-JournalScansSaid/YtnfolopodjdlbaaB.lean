/- castagnoli, walked. -/
import Derived.Test.YtnfolopodjdlbaaA
import Derived.Test.YtnfolopodjdlbaaBysN
namespace Go.Proofs.Ytnfolopodjdlbaa
open Go.RowKit
set_option linter.unusedVariables false
def tab (k : Nat) : Array Value := Array.ofFn (n := 16) fun i => if i.val < k then Value.int .u32 (stps 4 i.val : Int) else .int .u32 0
theorem tab_size (k : Nat) : (tab k).size = 16 := by simp [tab]
theorem tab_at (k i : Nat) (h : i < 16) : (tab k)[i]? = some (if i < k then Value.int .u32 (stps 4 i : Int) else .int .u32 0) := by
  rw [Array.getElem?_eq_getElem (by rw [tab_size]; exact h)]
  simp [tab]
theorem tab_set (k : Nat) (hk : k < 16) : (tab k).setIfInBounds k (.int .u32 (stps 4 k : Int)) = tab (k + 1) := by
  apply Array.ext_getElem?
  intro i
  rw [Array.getElem?_setIfInBounds, tab_size]
  by_cases hi : i < 16
  · rw [tab_at _ _ hi, tab_at _ _ hi]
    by_cases h : k = i
    · subst h; rw [if_pos rfl, if_pos hi, if_pos (by omega)]
    · rw [if_neg h]
      by_cases h' : i < k
      · rw [if_pos h', if_pos (by omega)]
      · rw [if_neg h', if_neg (by omega)]
  · rw [if_neg (by omega), Array.getElem?_eq_none (by rw [tab_size]; omega), Array.getElem?_eq_none (by rw [tab_size]; omega)]
theorem tab_get (k : Nat) (h : k < 16) : (tab 16)[k]? = some (.int .u32 (stps 4 k : Int)) := by
  rw [tab_at _ _ h, if_pos h]
theorem and32 (a b : Nat) (ha : a < 4294967296) (hb : b < 4294967296) : bits .and .u32 (a : Int) (b : Int) = ((a &&& b : Nat) : Int) := u32_and_nat a b ha hb
theorem stp_bits (y : Nat) (hy : y < 4294967296) : bits .xor .u32 ((y : Int) / 2) (bits .and .u32 2197175160 (-bits .and .u32 (y : Int) 1 % 4294967296)) = (stp y : Int) := by
  have h1 : bits .and .u32 (y : Int) 1 = ((y % 2 : Nat) : Int) := (and32 y 1 hy (by omega)).trans (by rw [show y &&& 1 = y % 2 from Nat.and_one_is_mod y])
  rw [h1]
  unfold stp
  rcases Nat.mod_two_eq_zero_or_one y with h | h
  · rw [h, if_neg (by omega)]
    rw [show (-((0 : Nat) : Int) % 4294967296) = ((0 : Nat) : Int) by rfl, show (2197175160 : Int) = ((2197175160 : Nat) : Int) by rfl, and32 _ _ (by omega) (by omega)]
    rw [show (y : Int) / 2 = ((y / 2 : Nat) : Int) by omega, xor32 _ _ (by omega) (by simp)]
    simp
  · rw [h, if_pos rfl]
    rw [show (-((1 : Nat) : Int) % 4294967296) = ((4294967295 : Nat) : Int) by rfl, show (2197175160 : Int) = ((2197175160 : Nat) : Int) by rfl, and32 _ _ (by omega) (by omega)]
    rw [show (y : Int) / 2 = ((y / 2 : Nat) : Int) by omega, show (2197175160 &&& 4294967295 : Nat) = 2197175160 by rfl, xor32 _ _ (by omega) (by omega)]
theorem low4 (z : Nat) (hz : z < 4294967296) : bits .and .u32 (z : Int) 15 = ((z % 16 : Nat) : Int) := (and32 z 15 hz (by omega)).trans (by rw [show z &&& 15 = z % 16 from Nat.and_two_pow_sub_one_eq_mod z 4])
theorem nib (z n m : Nat) (hz : z < 4294967296) (hn : z % 16 = n) (hm : stps 4 n = m) : bits .xor .u32 ((z : Int) / 16) (m : Int) = ((stps 4 z : Nat) : Int) := by
  rw [show (z : Int) / 16 = ((z / 16 : Nat) : Int) by omega, xor32 _ _ (by omega) (by rw [← hm]; exact stps_lt (by omega)), four z, hn, hm]
def pre (l1 l2 : List UInt8) : Nat → List UInt8
  | 0 => []
  | 1 => l1
  | _ => l1 ++ l2
theorem tab_zero : tab 0 = #[.int .u32 0, .int .u32 0, .int .u32 0, .int .u32 0, .int .u32 0, .int .u32 0, .int .u32 0, .int .u32 0, .int .u32 0, .int .u32 0, .int .u32 0, .int .u32 0, .int .u32 0, .int .u32 0, .int .u32 0, .int .u32 0] := by rfl
set_option maxHeartbeats 8000000 in
theorem cast_any (pb : Nat) (A1 A2 : Option Addr) (c1 c2 : Nat) (l1 l2 : List UInt8) (w : World) (hp : pb < w.heap.size)
    (h0 : w.cell? ⟨pb, 0, none⟩ = some (.slice A1 l1.length c1)) (h1 : w.cell? ⟨pb, 1, none⟩ = some (.slice A2 l2.length c2))
    (m1 : l1.length ≤ 1000000) (m2 : l2.length ≤ 1000000) (hB1 : BS w w.heap.size A1 l1) (hB2 : BS w w.heap.size A2 l2) :
    Calls Try.prog 19 #[.slice (some ⟨pb, 0, none⟩) 2 2] w fun e w' => e = .returned (.int .u32 ((crc 4294967295 (l1 ++ l2) ^^^ 4294967295 : Nat) : Int)) ∧ Below w.heap.size w w' := by
  have HP := Lib.hid hp
  have H0 := Lib.hid h0
  have H1 := Lib.hid h1
  have HB1 := Lib.hid hB1
  have HB2 := Lib.hid hB2
  have M1 := Lib.hid m1
  have M2 := Lib.hid m2
  clear hp h0 h1 hB1 hB2 m1 m2
  go_enter Try.func19, Try.ntmps19
  go_upto_region 2 with fail
  obtain ⟨w1, hw1⟩ : ∃ w1 : World, w1 = w.alloc (.cells #[.int .u32 0, .int .u32 0, .int .u32 0, .int .u32 0, .int .u32 0, .int .u32 0, .int .u32 0, .int .u32 0, .int .u32 0, .int .u32 0, .int .u32 0, .int .u32 0, .int .u32 0, .int .u32 0, .int .u32 0, .int .u32 0] 65) := ⟨_, rfl⟩
  have HTB := Lib.hid (show Blk w1 w.heap.size 65 (tab 0) by rw [hw1, tab_zero]; exact Blk.new _ _ _)
  have HW := Lib.hid (show Below w.heap.size w w1 by rw [hw1]; exact (Below.refl _ w).alloc (Nat.le_refl _) _)
  rw [← hw1]
  clear hw1
  obtain ⟨tb, htb⟩ : ∃ tb, w.heap.size = tb := ⟨_, rfl⟩
  have HTS := Lib.hid htb
  rw [htb] at HTB ⊢
  clear htb
  go_wp2_with fail
  go_loopw [11] (fun i wr => ∃ k : Nat, k ≤ 16 ∧ i = .int .i64 (k : Int) ∧ Hid (Blk wr tb 65 (tab k)) ∧ Hid (Below w.heap.size w wr)) (fun i _ => 16 - (intOf i).toNat)
  case atStart => exact ⟨0, by omega, rfl, HTB, HW⟩
  case round =>
    obtain ⟨k, hk, rfl, HT, HWr⟩ := hrel
    have hk0 : (0 : Int) ≤ (k : Int) := Int.natCast_nonneg _
    by_cases hlt : k < 16
    · have hk1 : (k : Int) < 16 := by omega
      go_wp2_with fail
      go_loop [5, 16] (fun v i => ∃ j : Nat, j ≤ 4 ∧ i = .int .i64 (j : Int) ∧ v = .int .u32 (stps j k : Int)) (fun _ i => 4 - (intOf i).toNat)
      case atStart => exact ⟨0, by omega, rfl, rfl⟩
      case round =>
        obtain ⟨j, hj, rfl, rfl⟩ := hrel
        by_cases hlj : j < 4
        · have hS := Lib.hid (stps_succ j k)
          obtain ⟨y, hy⟩ : ∃ y, stps j k = y := ⟨_, rfl⟩
          have hyl : y < 4294967296 := by rw [← hy]; exact stps_lt (by omega)
          rw [hy] at hS ⊢
          clear hy
          go_wp2_with fail
          go_round
          case rel => exact ⟨j + 1, by omega, rfl, congrArg (Value.int .u32) (by rw [hS.out]; exact stp_bits y hyl)⟩
          case measure => simp [intOf]; omega
        · have : j = 4 := by omega
          subst this
          have ck : wr.cell? ⟨tb, k, none⟩ = some (.int .u32 0) := (HT.out.cell k).trans (by rw [tab_at _ _ hlt, if_neg (by omega)])
          have fT := HT.out.frozen
          have lT := HT.out.lt
          go_wp2_with fail
          go_roundw
          case rel => exact ⟨k + 1, by omega, rfl, Lib.hid (by rw [← tab_set k hlt]; exact HT.out.set_ _ _), Lib.hid (HWr.out.setCell (p := ⟨tb, k, none⟩) (by rw [HTS.out]; exact Nat.le_refl _) _)⟩
          case measure => simp [intOf]; omega
    · have : k = 16 := by omega
      subst this
      have hhp := HP.out
      have HB1r := Lib.hid (HB1.out.onB HWr.out (Nat.le_refl _))
      have HB2r := Lib.hid (HB2.out.onB HWr.out (Nat.le_refl _))
      have H0r := Lib.hid ((HWr.out.cell (p := ⟨pb, 0, none⟩) hhp).trans H0.out)
      have H1r := Lib.hid ((HWr.out.cell (p := ⟨pb, 1, none⟩) hhp).trans H1.out)
      have HTG := Lib.hid (fun n (hn : n < 16) => (HT.out.cell n).trans (tab_get n hn))
      have lpb : pb < wr.heap.size := Nat.lt_of_lt_of_le hhp HWr.out.size
      have lT := HT.out.lt
      clear hhp hk hk0 hlt
      go_wp2_with fail
      go_loop [6, 32] (fun c i => ∃ k : Nat, k ≤ 2 ∧ i = .int .i64 (k : Int) ∧ c = .int .u32 (crc 4294967295 (pre l1 l2 k) : Int)) (fun _ i => 2 - (intOf i).toNat)
      case atStart => exact ⟨0, by omega, rfl, rfl⟩
      case round =>
        obtain ⟨k, hk, rfl, rfl⟩ := hrel
        have hk0 : (0 : Int) ≤ (k : Int) := Int.natCast_nonneg _
        by_cases hlt : k < 2
        · have hk1 : (k : Int) < 2 := by omega
          obtain ⟨A, c, l, hcell, hB, hlen, hpre⟩ : ∃ (A : Option Addr) (c : Nat) (l : List UInt8), wr.cell? ⟨pb, k, none⟩ = some (.slice A l.length c) ∧ BS wr wr.heap.size A l ∧ l.length ≤ 1000000 ∧ pre l1 l2 (k + 1) = pre l1 l2 k ++ l := by
            rcases (show k = 0 ∨ k = 1 by omega) with rfl | rfl
            · exact ⟨A1, c1, l1, H0r.out, HB1r.out, M1.out, rfl⟩
            · exact ⟨A2, c2, l2, H1r.out, HB2r.out, M2.out, rfl⟩
          have HB := Lib.hid hB
          have HPR := Lib.hid (show crc 4294967295 (pre l1 l2 (k + 1)) = crc (crc 4294967295 (pre l1 l2 k)) l by rw [hpre, crc_append])
          have HA := Lib.hid (crc_lt (c := 4294967295) (by decide) (pre l1 l2 k))
          clear hB hpre
          obtain ⟨a, ha⟩ : ∃ a, crc 4294967295 (pre l1 l2 k) = a := ⟨_, rfl⟩
          rw [ha] at HPR HA ⊢
          clear ha
          go_wp2_with fail
          go_loop [6, 38] (fun c i => ∃ j : Nat, j ≤ l.length ∧ i = .int .i64 (j : Int) ∧ c = .int .u32 (crc a (l.take j) : Int)) (fun _ i => l.length - (intOf i).toNat)
          case atStart => exact ⟨0, by omega, rfl, rfl⟩
          case round =>
            obtain ⟨j, hj, rfl, rfl⟩ := hrel
            have hj0 : (0 : Int) ≤ (j : Int) := Int.natCast_nonneg _
            by_cases hlj : j < l.length
            · have hj1 : (j : Int) < (l.length : Int) := by omega
              obtain ⟨b, o, hb, rfl, hca⟩ := HB.out.at hlj
              have cb := hca j hlj
              have HT2 := Lib.hid (crc_take a l j hlj)
              have HC := Lib.hid (crc_lt HA.out (l.take j))
              have hby := l[j].toNat_lt
              generalize l[j] = x at cb HT2 hby
              clear hca
              obtain ⟨y, hy⟩ : ∃ y, crc a (l.take j) = y := ⟨_, rfl⟩
              rw [hy] at HT2 HC ⊢
              clear hy
              obtain ⟨z, hz⟩ : ∃ z, y ^^^ x.toNat = z := ⟨_, rfl⟩
              have HZ := Lib.hid (show z < 4294967296 by rw [← hz]; exact Nat.xor_lt_two_pow (n := 32) HC.out (by omega))
              have hx := xor32 y x.toNat HC.out (by omega)
              rw [hz] at HT2 hx
              clear hz
              obtain ⟨n, hn⟩ : ∃ n, z % 16 = n := ⟨_, rfl⟩
              have a1 := low4 z HZ.out
              rw [hn] at a1
              have ln : n < 16 := by omega
              have t1 := HTG.out n ln
              obtain ⟨m, hm⟩ : ∃ m, stps 4 n = m := ⟨_, rfl⟩
              rw [hm] at t1
              have x1 := nib z n m HZ.out hn hm
              have HZ2 := Lib.hid (show stps 4 z < 4294967296 from stps_lt HZ.out)
              have H8 := Lib.hid (show stps 8 z = stps 4 (stps 4 z) from stps_add 4 4 z)
              obtain ⟨z2, hz2⟩ : ∃ z2, stps 4 z = z2 := ⟨_, rfl⟩
              rw [hz2] at x1 HZ2 H8
              clear hz2 hn hm
              obtain ⟨n2, hn2⟩ : ∃ n, z2 % 16 = n := ⟨_, rfl⟩
              have a2 := low4 z2 HZ2.out
              rw [hn2] at a2
              have ln2 : n2 < 16 := by omega
              have t2 := HTG.out n2 ln2
              obtain ⟨m2, hm2⟩ : ∃ m, stps 4 n2 = m := ⟨_, rfl⟩
              rw [hm2] at t2
              have x2 := nib z2 n2 m2 HZ2.out hn2 hm2
              clear hn2 hm2
              go_wp2_with fail
              go_round
              case rel => exact ⟨j + 1, hlj, rfl, congrArg (Value.int .u32) (by rw [HT2.out, H8.out])⟩
              case measure => simp [intOf]; omega
            · have : j = l.length := by omega
              subst this
              go_wp2_with fail
              go_round
              case rel => exact ⟨_, _, _, _, ⟨k + 1, hlt, rfl, rfl⟩, congrArg (Value.int .u32) (by rw [HPR.out]), rfl, rfl, rfl⟩
              case measure => simp [intOf]; omega
        · have : k = 2 := by omega
          subst this
          go_wp2_with fail
          go_ret
          exact ⟨congrArg (fun z => Ending.returned (.int .u32 z)) (not32' _ (crc_lt (by decide) (l1 ++ l2))), HWr.out⟩
end Go.Proofs.Ytnfolopodjdlbaa
