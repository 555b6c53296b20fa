/- Contracts of sum.fold, sum.Of over one part, sum.Right, and the reference's Plus and Of. -/
import Derived.Test.YtdnbhmfofphblaaGreatDoorRows
import Derived.Test.YtdnbhmfofphblaaGreatDoorBase
import Derived.Test.YtdnbhmfofphblaaGreatDoorPlainT
import Derived.Outline
import Derived.Deep.Light
namespace Go.Proofs.YtdnbhmfofphblaaGreatDoor
set_option maxRecDepth 100000
open Go.RowKit
theorem and_low16 (n : Int) (h0 : 0 ≤ n) (h1 : n < 18446744073709551616) : bits .and .u64 n 65535 = n % 65536 := by
  obtain ⟨n, rfl⟩ := Int.eq_ofNat_of_zero_le h0
  have := u64_and_nat n 65535 (by omega) (by omega)
  rw [nat_mask16] at this
  simpa using this

set_option maxHeartbeats 1000000 in
theorem fold_any (n : Int) (w : World) (h0 : 0 ≤ n) (h1 : n < 18446744073709551616) :
    Calls Tryz.prog 121 #[.int .u64 n] w fun e w' => e = .returned (.int .u16 (norm n)) ∧ w = w' := by
  have hand := Lib.hid and_low16
  go_enter Tryz.func121, Tryz.ntmps121
  go_wp2
  go_loop [0] (fun x => ∃ m : Int, x = .int .u64 m ∧ 0 ≤ m ∧ m < 18446744073709551616 ∧ Hid (norm m = norm n)) (fun x => (intOf x).toNat)
  case atStart => exact ⟨n, rfl, h0, h1, Lib.hid rfl⟩
  case round =>
    obtain ⟨m, rfl, m0, m1, hm⟩ := hrel
    by_cases hlt : 65535 < m
    · have ha := hand.out m m0 m1
      go_wp2
      go_round
      case rel => exact ⟨_, rfl, by omega, by omega, Lib.hid (by rw [norm_step m hlt, hm.out])⟩
      case measure => simp [intOf]; omega
    · go_wp2
      go_ret
      exact ⟨ret_int (by rw [← hm.out, norm_small m m0 (by omega)]), rfl⟩

theorem not16 (s : Int) (h0 : 0 ≤ s) (h1 : s ≤ 65535) : bits .xor .u16 IntKind.u16.max s = 65535 - s := by
  obtain ⟨s, rfl⟩ := Int.eq_ofNat_of_zero_le h0
  rw [show IntKind.u16.max = ((65535 : Nat) : Int) from rfl, u16_xor_nat 65535 s (by omega) (by omega)]
  have e : (65535 ^^^ s : Nat) = 65535 - s := by
    have h := congrArg BitVec.toNat (BitVec.allOnes_xor (x := BitVec.ofNat 16 s))
    rw [BitVec.toNat_xor, BitVec.toNat_not, BitVec.toNat_allOnes, BitVec.toNat_ofNat, Nat.mod_eq_of_lt (by omega)] at h
    simpa using h
  rw [e]
  omega

theorem plus_any (a b : Int) (w : World) (a0 : 0 ≤ a) (a1 : a ≤ 65535) (b0 : 0 ≤ b) (b1 : b ≤ 65535) :
    Calls Tryz.prog 113 #[.int .u32 a, .int .u32 b] w fun e w' => e = .returned (.int .u32 (plus a b)) ∧ w = w' := by
  by_cases h : 65535 < a + b
  · have HF := Lib.hid (show plus a b = a + b - 65535 by rw [plus, if_pos h])
    go_enter Tryz.func113, Tryz.ntmps113
    go_wp2
    go_ret
    exact ⟨ret_int HF.out.symm, rfl⟩
  · have HF := Lib.hid (show plus a b = a + b by rw [plus, if_neg h])
    go_enter Tryz.func113, Tryz.ntmps113
    go_wp2
    go_ret
    exact ⟨ret_int HF.out.symm, rfl⟩
set_option maxHeartbeats 2000000 in
theorem of_any (pb po pc cap B : Nat) (A : Option Addr) (l : List UInt8) (w : World) (hl : l.length ≤ 100000) (hp : w.cell? ⟨pb, po, none⟩ = some (.slice A l.length cap)) (hb : BS w B A l) :
    Calls Tryz.prog 68 #[.slice (some ⟨pb, po, none⟩) 1 pc] w fun e w' => e = .returned (.int .u16 (65535 - norm (total true l))) ∧ w = w' := by
  have HB := Lib.hid hb
  have ht0 := total_nonneg true l
  have ht1 := total_le true l
  obtain ⟨T, hT⟩ : ∃ T, total true l = T := ⟨_, rfl⟩
  rw [hT] at ht0 ht1
  have hf := fold_any T w ht0 (by omega)
  have hr := norm_range T
  obtain ⟨r, hN⟩ : ∃ r, norm T = r := ⟨_, rfl⟩
  rw [hN] at hf hr
  obtain ⟨hr0, hr1⟩ := hr
  have HU := Lib.hid (show 65535 - norm (total true l) = bits .xor .u16 IntKind.u16.max r by rw [not16 r hr0 hr1, hT, hN])
  have HF := Lib.hid hf
  have HT := Lib.hid hT
  clear hb hf hN hT
  go_enter Tryz.func68, Tryz.ntmps68
  go_wp2
  go_loop [3, 4, 11] (fun t lo i => (t = .int .u64 0 ∧ lo = .bool false ∧ i = .int .i64 0) ∨ (t = .int .u64 T ∧ i = .int .i64 1)) (fun _ _ i => 2 - (intOf i).toNat)
  case atStart => exact .inl ⟨rfl, rfl, rfl⟩
  case round =>
    rcases hrel with ⟨rfl, rfl, rfl⟩ | ⟨rfl, rfl⟩
    · go_wp2
      go_loop [3, 4, 17] (fun t lo i => ∃ j : Nat, ∃ x : Int, j ≤ l.length ∧ i = .int .i64 j ∧ t = .int .u64 x ∧ 0 ≤ x ∧ x ≤ 65280 * j ∧ lo = .bool (!par true j) ∧ Hid (x = total true (l.take j))) (fun _ _ i => l.length - (intOf i).toNat)
      case atStart => exact ⟨0, 0, Nat.zero_le _, rfl, rfl, by omega, by omega, rfl, Lib.hid rfl⟩
      case round =>
        obtain ⟨j, x, hj, rfl, rfl, x0, x1, rfl, hx⟩ := hrel
        by_cases hlt : j < l.length
        · obtain ⟨b, off, _, rfl, hc⟩ := HB.out.at hlt
          have hcj := hc j hlt
          have b1 := byte_le l[j]
          have b0 : (0 : Int) ≤ (l[j].toNat : Int) := by omega
          have hts := total_take true l j hlt
          have hps := par_succ true j
          obtain ⟨c, hcc⟩ : ∃ c : Int, (l[j].toNat : Int) = c := ⟨_, rfl⟩
          rw [hcc] at hcj b1 b0 hts
          obtain ⟨p, hpar⟩ : ∃ p, par true j = p := ⟨_, rfl⟩
          rw [hpar] at hts hps ⊢
          have HTS := Lib.hid hts
          have HPS := Lib.hid hps
          clear hc hcc hts hps hpar
          cases p
          · go_wp2
            go_round
            case rel => exact ⟨j + 1, _, by omega, by go_num, rfl, by omega, by omega, by rw [HPS.out]; rfl, Lib.hid (by rw [HTS.out, hx.out]; simp)⟩
            case measure => simp [intOf]; omega
          · go_wp2
            go_round
            case rel => exact ⟨j + 1, _, by omega, by go_num, rfl, by omega, by omega, by rw [HPS.out]; rfl, Lib.hid (by rw [HTS.out, hx.out]; simp)⟩
            case measure => simp [intOf]; omega
        · have hjl : j = l.length := by omega
          have hxT : x = T := by rw [hx.out, hjl, List.take_length, HT.out]
          clear hjl
          subst hxT
          go_wp2
          go_round
          case rel => exact .inr ⟨rfl, rfl⟩
          case measure => simp [intOf]
    · go_wp2_with fail
      refine HF.out.mono ?_
      rintro e w' ⟨rfl, rfl⟩
      go_wp2_with fail
      go_ret
      exact ⟨ret_int HU.out.symm, rfl⟩

theorem right_any (pb po pc cap B : Nat) (A : Option Addr) (l : List UInt8) (w : World) (hl : l.length ≤ 100000) (hp : w.cell? ⟨pb, po, none⟩ = some (.slice A l.length cap)) (hb : BS w B A l) :
    Calls Tryz.prog 174 #[.slice (some ⟨pb, po, none⟩) 1 pc] w fun e w' => e = .returned (.bool (decide (65535 - norm (total true l) = 0))) ∧ w = w' := by
  have h := of_any pb po pc cap B A l w hl hp hb
  have hr := norm_range (total true l)
  obtain ⟨r, hN⟩ : ∃ r, 65535 - norm (total true l) = r := ⟨_, rfl⟩
  rw [hN] at h ⊢
  have H := Lib.hid h
  clear h hp hb
  have r0 : 0 ≤ r := by omega
  have r1 : r ≤ 65535 := by omega
  clear hN hr
  by_cases hz : r = 0
  · subst hz
    go_enter Tryz.func174, Tryz.ntmps174
    go_wp2_with fail
    refine H.out.mono ?_
    rintro e w' ⟨rfl, rfl⟩
    go_wp2_with fail
    go_ret
    exact ⟨rfl, rfl⟩
  · go_enter Tryz.func174, Tryz.ntmps174
    go_wp2_with fail
    refine H.out.mono ?_
    rintro e w' ⟨rfl, rfl⟩
    go_wp2_with fail
    go_ret
    exact ⟨by show Ending.returned (.bool (r == 0)) = _; simp [hz], rfl⟩
end Go.Proofs.YtdnbhmfofphblaaGreatDoor
