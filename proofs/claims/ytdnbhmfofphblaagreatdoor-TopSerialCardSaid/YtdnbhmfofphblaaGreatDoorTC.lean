/- sum.Of and sum.Right over two parts; the pseudo-header (version 4). -/
import Derived.Test.YtdnbhmfofphblaaGreatDoorTB
namespace Go.Proofs.YtdnbhmfofphblaaGreatDoor
open Go.RowKit
set_option maxRecDepth 100000
set_option linter.unusedVariables false
set_option linter.unusedSimpArgs false
set_option maxHeartbeats 4000000 in
theorem of2_any (pb c1 c2 pc B n1 n2 : Nat) (A1 A2 : Option Addr) (l1 l2 : List UInt8) (k : Nat) (he : l1.length = 2 * k) (hn1 : l1.length = n1) (hn2 : l2.length = n2) (w : World) (hl1 : l1.length ≤ 100000) (hl2 : l2.length ≤ 100000)
    (hp1 : w.cell? ⟨pb, 0, none⟩ = some (.slice A1 n1 c1)) (hp2 : w.cell? ⟨pb, 1, none⟩ = some (.slice A2 n2 c2)) (hb1 : BS w B A1 l1) (hb2 : BS w B A2 l2) :
    Calls Tryz.prog 68 #[.slice (some ⟨pb, 0, none⟩) 2 pc] w fun e w' => e = .returned (.int .u16 (65535 - norm (total true (l1 ++ l2)))) ∧ w = w' := by
  subst hn1 hn2
  have HB1 := Lib.hid hb1
  have HB2 := Lib.hid hb2
  have HE := Lib.hid he
  have t10 := total_nonneg true l1
  have t11 := total_le true l1
  have t20 := total_nonneg true l2
  have t21 := total_le true l2
  have ht := total_app_even l1 l2 k he
  obtain ⟨T1, hT1⟩ : ∃ T, total true l1 = T := ⟨_, rfl⟩
  rw [hT1] at t10 t11 ht
  obtain ⟨T2, hT2⟩ : ∃ T, T1 + total true l2 = T := ⟨_, rfl⟩
  rw [hT2] at ht
  have hf := fold_any T2 w (by omega) (by omega)
  have hr := norm_range T2
  obtain ⟨r, hN⟩ : ∃ r, norm T2 = r := ⟨_, rfl⟩
  rw [hN] at hf hr
  obtain ⟨hr0, hr1⟩ := hr
  have HU := Lib.hid (show 65535 - norm (total true (l1 ++ l2)) = bits .xor .u16 IntKind.u16.max r by rw [not16 r hr0 hr1, ht, hN])
  have HF := Lib.hid hf
  have HT1 := Lib.hid hT1
  have HT2 := Lib.hid hT2
  have T10 : T1 ≤ 6528000000 := by omega
  clear hb1 hb2 he hf hN hT1 hT2 ht t11 t20 t21
  go_enter Tryz.func68, Tryz.ntmps68
  go_wp2
  go_loop [3, 4, 11] (fun t lo i => (t = .int .u64 0 ∧ lo = .bool false ∧ i = .int .i64 0) ∨ (t = .int .u64 T1 ∧ lo = .bool false ∧ i = .int .i64 1) ∨ (t = .int .u64 T2 ∧ i = .int .i64 2)) (fun _ _ i => 3 - (intOf i).toNat)
  case atStart => exact .inl ⟨rfl, rfl, rfl⟩
  case round =>
    rcases hrel with ⟨rfl, rfl, rfl⟩ | ⟨rfl, rfl, rfl⟩ | ⟨rfl, rfl⟩
    · go_wp2
      go_loop [3, 4, 17] (fun t lo i => ∃ j : Nat, ∃ x : Int, j ≤ l1.length ∧ i = .int .i64 j ∧ t = .int .u64 x ∧ 0 ≤ x ∧ x ≤ 7000000000 + 65280 * j ∧ lo = .bool (!par true j) ∧ Hid (x = total true (l1.take j))) (fun _ _ i => l1.length - (intOf i).toNat)
      case atStart => exact ⟨0, 0, Nat.zero_le _, rfl, rfl, by omega, by omega, rfl, Lib.hid (by simp [total])⟩
      case round =>
        obtain ⟨j, x, hj, rfl, rfl, x0, x1, rfl, hx⟩ := hrel
        by_cases hlt : j < l1.length
        · obtain ⟨b, off, _, rfl, hc⟩ := HB1.out.at hlt
          have hcj := hc j hlt
          have b1 := byte_le l1[j]
          have b0 : (0 : Int) ≤ (l1[j].toNat : Int) := by omega
          have hts := total_take true l1 j hlt
          have hps := par_succ true j
          obtain ⟨c, hcc⟩ : ∃ c : Int, (l1[j].toNat : Int) = c := ⟨_, rfl⟩
          rw [hcc] at hcj b1 b0 hts
          obtain ⟨p, hpar⟩ : ∃ p, par true j = p := ⟨_, rfl⟩
          rw [hpar] at hts hps ⊢
          have HTS := Lib.hid hts
          have HPS := Lib.hid hps
          clear hc hcc hts hps hpar
          cases p
          · go_wp2
            go_round
            case rel => exact ⟨j + 1, _, by omega, by go_num, rfl, by omega, by omega, by rw [HPS.out]; rfl, Lib.hid (by rw [HTS.out, hx.out]; simp [Int.add_assoc])⟩
            case measure => simp [intOf]; omega
          · go_wp2
            go_round
            case rel => exact ⟨j + 1, _, by omega, by go_num, rfl, by omega, by omega, by rw [HPS.out]; rfl, Lib.hid (by rw [HTS.out, hx.out]; simp [Int.add_assoc])⟩
            case measure => simp [intOf]; omega
        · have hjl : j = l1.length := by omega
          have hxT : x = T1 := by rw [hx.out, hjl, List.take_length]; exact HT1.out
          have hpp : par true j = true := by rw [hjl, HE.out]; exact par_even true k
          clear hjl
          rw [hpp]
          clear hpp
          subst hxT
          go_wp2
          go_round
          case rel => exact .inr (.inl ⟨rfl, rfl, rfl⟩)
          case measure => simp [intOf]
    · go_wp2
      go_loop [3, 4, 17] (fun t lo i => ∃ j : Nat, ∃ x : Int, j ≤ l2.length ∧ i = .int .i64 j ∧ t = .int .u64 x ∧ 0 ≤ x ∧ x ≤ 7000000000 + 65280 * j ∧ lo = .bool (!par true j) ∧ Hid (x = T1 + total true (l2.take j))) (fun _ _ i => l2.length - (intOf i).toNat)
      case atStart => exact ⟨0, T1, Nat.zero_le _, rfl, rfl, by omega, by omega, rfl, Lib.hid (by simp [total])⟩
      case round =>
        obtain ⟨j, x, hj, rfl, rfl, x0, x1, rfl, hx⟩ := hrel
        by_cases hlt : j < l2.length
        · obtain ⟨b, off, _, rfl, hc⟩ := HB2.out.at hlt
          have hcj := hc j hlt
          have b1 := byte_le l2[j]
          have b0 : (0 : Int) ≤ (l2[j].toNat : Int) := by omega
          have hts := total_take true l2 j hlt
          have hps := par_succ true j
          obtain ⟨c, hcc⟩ : ∃ c : Int, (l2[j].toNat : Int) = c := ⟨_, rfl⟩
          rw [hcc] at hcj b1 b0 hts
          obtain ⟨p, hpar⟩ : ∃ p, par true j = p := ⟨_, rfl⟩
          rw [hpar] at hts hps ⊢
          have HTS := Lib.hid hts
          have HPS := Lib.hid hps
          clear hc hcc hts hps hpar
          cases p
          · go_wp2
            go_round
            case rel => exact ⟨j + 1, _, by omega, by go_num, rfl, by omega, by omega, by rw [HPS.out]; rfl, Lib.hid (by rw [HTS.out, hx.out]; simp [Int.add_assoc])⟩
            case measure => simp [intOf]; omega
          · go_wp2
            go_round
            case rel => exact ⟨j + 1, _, by omega, by go_num, rfl, by omega, by omega, by rw [HPS.out]; rfl, Lib.hid (by rw [HTS.out, hx.out]; simp [Int.add_assoc])⟩
            case measure => simp [intOf]; omega
        · have hjl : j = l2.length := by omega
          have hxT : x = T2 := by rw [hx.out, hjl, List.take_length]; exact HT2.out
          skip
          clear hjl
          skip
          skip
          subst hxT
          go_wp2
          go_round
          case rel => exact .inr (.inr ⟨rfl, rfl⟩)
          case measure => simp [intOf]
    · go_wp2_with fail
      refine HF.out.mono ?_
      rintro e w' ⟨rfl, rfl⟩
      go_wp2_with fail
      go_ret
      exact ⟨ret_int HU.out.symm, rfl⟩
theorem right2_yes (pb c1 c2 pc B n1 n2 : Nat) (A1 A2 : Option Addr) (l1 l2 : List UInt8) (k : Nat) (he : l1.length = 2 * k) (hn1 : l1.length = n1) (hn2 : l2.length = n2) (w : World) (hl1 : l1.length ≤ 100000) (hl2 : l2.length ≤ 100000)
    (hp1 : w.cell? ⟨pb, 0, none⟩ = some (.slice A1 n1 c1)) (hp2 : w.cell? ⟨pb, 1, none⟩ = some (.slice A2 n2 c2)) (hb1 : BS w B A1 l1) (hb2 : BS w B A2 l2) (hz : 65535 - norm (total true (l1 ++ l2)) = 0) :
    Calls Tryz.prog 174 #[.slice (some ⟨pb, 0, none⟩) 2 pc] w fun e w' => e = .returned (.bool true) ∧ w = w' := by
  have h := of2_any pb c1 c2 pc B n1 n2 A1 A2 l1 l2 k he hn1 hn2 w hl1 hl2 hp1 hp2 hb1 hb2
  rw [hz] at h
  have H := Lib.hid h
  clear h hp1 hp2 hb1 hb2 hz he hn1 hn2
  go_enter Tryz.func174, Tryz.ntmps174
  go_wp2_with fail
  refine H.out.mono ?_
  rintro e w' ⟨rfl, rfl⟩
  go_wp2_with fail
  go_ret
  exact ⟨rfl, rfl⟩
end Go.Proofs.YtdnbhmfofphblaaGreatDoor
