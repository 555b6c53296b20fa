/- The document's Number at any text. -/
import Derived.Test.YthfdhggcnkgjfaaGreatDoorWA
namespace Go.Proofs.YthfdhggcnkgjfaaGreatDoor
open Go.RowKit
set_option linter.unusedVariables false
set_option linter.unusedSimpArgs false
theorem numP_none {b m : Nat} {l : List UInt8} (h : numF b m l 0 = none) : numP b m l = none := by
  unfold numP
  split
  · rfl
  · exact h
set_option maxHeartbeats 8000000 in
theorem refNumber10 (s : ByteArray) (m : Nat) (hm : m ≤ 1073741824) (hl : s.size ≤ 100000) (w : World) : Calls Tryz.prog 38 #[.string s, .int .i64 10, .int .i64 (m : Int)] w fun e w' => e = .returned (NumRet (numP 10 m s.data.toList)) ∧ w' = w := by
  have hm0 : (0 : Int) ≤ (m : Int) := Int.natCast_nonneg _
  go_enter Tryz.func38, Tryz.ntmps38
  go_wp2_with fail
  go_loop [8, 9] (fun n i => ∃ k v : Nat, k ≤ s.size ∧ i = .int .i64 (k : Int) ∧ n = .int .i64 (v : Int) ∧ v ≤ m ∧ Hid (numF 10 m s.data.toList 0 = numF 10 m (s.data.toList.drop k) v)) (fun _ i => (s.size - intOf i).toNat)
  case atStart => exact ⟨0, 0, by omega, rfl, rfl, by omega, Lib.hid rfl⟩
  case round =>
    obtain ⟨k, v, hk, rfl, rfl, hv, HF⟩ := hrel
    have k0 : (0 : Int) ≤ (k : Int) := Int.natCast_nonneg _
    have v0 : (0 : Int) ≤ (v : Int) := Int.natCast_nonneg _
    by_cases hkl : k < s.size
    · have kI : (k : Int) < (s.size : Int) := by omega
      have HDR := Lib.hid (show s.data.toList.drop k = (s[k]'hkl) :: s.data.toList.drop (k + 1) from List.drop_eq_getElem_cons (by rw [← Lib.size_eq]; exact hkl))
      have bx := byte_le (s[k]'hkl)
      have bx0 : (0 : Int) ≤ ((s[k]'hkl).toNat : Int) := Int.natCast_nonneg _
      by_cases c1 : 48 ≤ (s[k]'hkl).toNat ∧ (s[k]'hkl).toNat ≤ 57
      · have i1 : (48 : Int) ≤ ((s[k]'hkl).toNat : Int) := by omega
        have i2 : ((s[k]'hkl).toNat : Int) ≤ 57 := by omega
        have i3 : ¬ (97 : Int) ≤ ((s[k]'hkl).toNat : Int) := by omega
        have hd : dig 10 (s[k]'hkl) = some ((s[k]'hkl).toNat - 48) := by unfold dig; rw [if_pos c1]
        have i6 : ¬ (10 : Int) ≤ ((s[k]'hkl).toNat : Int) - 48 := by omega
        by_cases hov : m < v * 10 + ((s[k]'hkl).toNat - 48)
        · have HN := Lib.hid (show numP 10 m s.data.toList = none from numP_none (by rw [HF.out, HDR.out, numF_over hd hov]))
          have i5 : (m : Int) < (v : Int) * 10 + (((s[k]'hkl).toNat : Int) - 48) := by omega
          clear hd
          go_wp2_with fail
          go_ret2
          exact ⟨by rw [HN.out]; rfl, rfl⟩
        · have i5 : ¬ (m : Int) < (v : Int) * 10 + (((s[k]'hkl).toNat : Int) - 48) := by omega
          have HN := Lib.hid (show numF 10 m s.data.toList 0 = numF 10 m (s.data.toList.drop (k + 1)) (v * 10 + ((s[k]'hkl).toNat - 48)) by rw [HF.out, HDR.out, numF_step hd hov])
          clear hd
          go_wp2_with fail
          go_round
          case rel => exact ⟨k + 1, v * 10 + ((s[k]'hkl).toNat - 48), by omega, by go_num, by first | go_num | (congr 1; omega), by omega, HN⟩
          case measure => simp [intOf]; omega
      by_cases c2 : 97 ≤ (s[k]'hkl).toNat ∧ (s[k]'hkl).toNat ≤ 102
      · have i1 : (48 : Int) ≤ ((s[k]'hkl).toNat : Int) := by omega
        have i2 : ¬ ((s[k]'hkl).toNat : Int) ≤ 57 := by omega
        have i3 : (97 : Int) ≤ ((s[k]'hkl).toNat : Int) := by omega
        have i4 : ((s[k]'hkl).toNat : Int) ≤ 102 := by omega
        have hd : dig 10 (s[k]'hkl) = none := by
          unfold dig
          rw [if_neg (by omega), if_neg (by omega)]
        have HN := Lib.hid (show numP 10 m s.data.toList = none from numP_none (by rw [HF.out, HDR.out, numF_none hd]))
        have i6 : (10 : Int) ≤ ((s[k]'hkl).toNat : Int) - 97 + 10 := by omega
        clear hd
        go_wp2_with fail
        go_ret2
        exact ⟨by rw [HN.out]; rfl, rfl⟩
      have hd : dig 10 (s[k]'hkl) = none := by unfold dig; rw [if_neg c1, if_neg (by omega)]
      have HN := Lib.hid (show numP 10 m s.data.toList = none from numP_none (by rw [HF.out, HDR.out, numF_none hd]))
      clear hd
      by_cases c3 : 48 ≤ (s[k]'hkl).toNat
      · have i1 : (48 : Int) ≤ ((s[k]'hkl).toNat : Int) := by omega
        have i2 : ¬ ((s[k]'hkl).toNat : Int) ≤ 57 := by omega
        by_cases c4 : 97 ≤ (s[k]'hkl).toNat
        · have i3 : (97 : Int) ≤ ((s[k]'hkl).toNat : Int) := by omega
          have i4 : ¬ ((s[k]'hkl).toNat : Int) ≤ 102 := by omega
          go_wp2_with fail
          go_ret2
          exact ⟨by rw [HN.out]; rfl, rfl⟩
        · have i3 : ¬ (97 : Int) ≤ ((s[k]'hkl).toNat : Int) := by omega
          go_wp2_with fail
          go_ret2
          exact ⟨by rw [HN.out]; rfl, rfl⟩
      · have i1 : ¬ (48 : Int) ≤ ((s[k]'hkl).toNat : Int) := by omega
        have i3 : ¬ (97 : Int) ≤ ((s[k]'hkl).toNat : Int) := by omega
        go_wp2_with fail
        go_ret2
        exact ⟨by rw [HN.out]; rfl, rfl⟩
    · have kI : ¬ (k : Int) < (s.size : Int) := by omega
      have HV := Lib.hid (show numF 10 m s.data.toList 0 = some v by rw [HF.out, List.drop_eq_nil_of_le (by rw [← Lib.size_eq]; omega), numF])
      by_cases hE : s.toList = []
      · have HN := Lib.hid (show numP 10 m s.data.toList = none from numP_shape (by rw [← Lib.toList_data, hE]; rfl))
        have hEm : s.toList.isEmpty = true := by rw [hE]; rfl
        go_wp2_with fail
        go_ret2
        exact ⟨by rw [HN.out]; rfl, rfl⟩
      have hEm : s.toList.isEmpty = false := by simpa using hE
      have hs0 : 0 < s.size := by
        rw [Lib.size_eq, ← Lib.toList_data]
        exact List.length_pos_iff.2 hE
      have h0I : (0 : Int) < (s.size : Int) := by omega
      by_cases h48 : ((s[0]'hs0).toNat : Int) = 48
      · by_cases h1 : 1 < s.size
        · have h1I : (1 : Int) < (s.size : Int) := by omega
          have HN := Lib.hid (show numP 10 m s.data.toList = none from numP_shape (shape48 hs0 h48 (by
            rw [Lib.toList_data]
            refine beq_eq_false_iff_ne.2 fun e => ?_
            have := congrArg List.length e
            rw [← Lib.size_eq] at this
            simp at this
            omega)))
          go_wp2_with fail
          go_ret2
          exact ⟨by rw [HN.out]; rfl, rfl⟩
        · have h1I : ¬ (1 : Int) < (s.size : Int) := by omega
          have HN := Lib.hid (show numP 10 m s.data.toList = some v by
            rw [numP_fits (by
              unfold shapeB
              simp only [decide_eq_true_eq]
              rintro (h | ⟨_, h⟩)
              · rw [Lib.size_eq, h] at hs0; simp at hs0
              · rw [← Lib.size_eq] at h; omega), HV.out])
          go_wp2_with fail
          go_ret2
          exact ⟨by rw [HN.out]; rfl, rfl⟩
      · have HN := Lib.hid (show numP 10 m s.data.toList = some v by rw [numP_fits (shape_no hs0 h48), HV.out])
        go_wp2_with fail
        go_ret2
        exact ⟨by rw [HN.out]; rfl, rfl⟩
set_option maxHeartbeats 8000000 in
theorem refNumber16 (s : ByteArray) (m : Nat) (hm : m ≤ 1073741824) (hl : s.size ≤ 100000) (w : World) : Calls Tryz.prog 38 #[.string s, .int .i64 16, .int .i64 (m : Int)] w fun e w' => e = .returned (NumRet (numP 16 m s.data.toList)) ∧ w' = w := by
  have hm0 : (0 : Int) ≤ (m : Int) := Int.natCast_nonneg _
  go_enter Tryz.func38, Tryz.ntmps38
  go_wp2_with fail
  go_loop [8, 9] (fun n i => ∃ k v : Nat, k ≤ s.size ∧ i = .int .i64 (k : Int) ∧ n = .int .i64 (v : Int) ∧ v ≤ m ∧ Hid (numF 16 m s.data.toList 0 = numF 16 m (s.data.toList.drop k) v)) (fun _ i => (s.size - intOf i).toNat)
  case atStart => exact ⟨0, 0, by omega, rfl, rfl, by omega, Lib.hid rfl⟩
  case round =>
    obtain ⟨k, v, hk, rfl, rfl, hv, HF⟩ := hrel
    have k0 : (0 : Int) ≤ (k : Int) := Int.natCast_nonneg _
    have v0 : (0 : Int) ≤ (v : Int) := Int.natCast_nonneg _
    by_cases hkl : k < s.size
    · have kI : (k : Int) < (s.size : Int) := by omega
      have HDR := Lib.hid (show s.data.toList.drop k = (s[k]'hkl) :: s.data.toList.drop (k + 1) from List.drop_eq_getElem_cons (by rw [← Lib.size_eq]; exact hkl))
      have bx := byte_le (s[k]'hkl)
      have bx0 : (0 : Int) ≤ ((s[k]'hkl).toNat : Int) := Int.natCast_nonneg _
      by_cases c1 : 48 ≤ (s[k]'hkl).toNat ∧ (s[k]'hkl).toNat ≤ 57
      · have i1 : (48 : Int) ≤ ((s[k]'hkl).toNat : Int) := by omega
        have i2 : ((s[k]'hkl).toNat : Int) ≤ 57 := by omega
        have i3 : ¬ (97 : Int) ≤ ((s[k]'hkl).toNat : Int) := by omega
        have hd : dig 16 (s[k]'hkl) = some ((s[k]'hkl).toNat - 48) := by unfold dig; rw [if_pos c1]
        have i6 : ¬ (16 : Int) ≤ ((s[k]'hkl).toNat : Int) - 48 := by omega
        by_cases hov : m < v * 16 + ((s[k]'hkl).toNat - 48)
        · have HN := Lib.hid (show numP 16 m s.data.toList = none from numP_none (by rw [HF.out, HDR.out, numF_over hd hov]))
          have i5 : (m : Int) < (v : Int) * 16 + (((s[k]'hkl).toNat : Int) - 48) := by omega
          clear hd
          go_wp2_with fail
          go_ret2
          exact ⟨by rw [HN.out]; rfl, rfl⟩
        · have i5 : ¬ (m : Int) < (v : Int) * 16 + (((s[k]'hkl).toNat : Int) - 48) := by omega
          have HN := Lib.hid (show numF 16 m s.data.toList 0 = numF 16 m (s.data.toList.drop (k + 1)) (v * 16 + ((s[k]'hkl).toNat - 48)) by rw [HF.out, HDR.out, numF_step hd hov])
          clear hd
          go_wp2_with fail
          go_round
          case rel => exact ⟨k + 1, v * 16 + ((s[k]'hkl).toNat - 48), by omega, by go_num, by first | go_num | (congr 1; omega), by omega, HN⟩
          case measure => simp [intOf]; omega
      by_cases c2 : 97 ≤ (s[k]'hkl).toNat ∧ (s[k]'hkl).toNat ≤ 102
      · have i1 : (48 : Int) ≤ ((s[k]'hkl).toNat : Int) := by omega
        have i2 : ¬ ((s[k]'hkl).toNat : Int) ≤ 57 := by omega
        have i3 : (97 : Int) ≤ ((s[k]'hkl).toNat : Int) := by omega
        have i4 : ((s[k]'hkl).toNat : Int) ≤ 102 := by omega
        have hd : dig 16 (s[k]'hkl) = some ((s[k]'hkl).toNat - 87) := by
          unfold dig
          rw [if_neg (by omega), if_pos ⟨rfl, by omega, by omega⟩]
        have i6 : ¬ (16 : Int) ≤ ((s[k]'hkl).toNat : Int) - 97 + 10 := by omega
        by_cases hov : m < v * 16 + ((s[k]'hkl).toNat - 87)
        · have HN := Lib.hid (show numP 16 m s.data.toList = none from numP_none (by rw [HF.out, HDR.out, numF_over hd hov]))
          have i5 : (m : Int) < (v : Int) * 16 + (((s[k]'hkl).toNat : Int) - 97 + 10) := by omega
          clear hd
          go_wp2_with fail
          go_ret2
          exact ⟨by rw [HN.out]; rfl, rfl⟩
        · have i5 : ¬ (m : Int) < (v : Int) * 16 + (((s[k]'hkl).toNat : Int) - 97 + 10) := by omega
          have HN := Lib.hid (show numF 16 m s.data.toList 0 = numF 16 m (s.data.toList.drop (k + 1)) (v * 16 + ((s[k]'hkl).toNat - 87)) by rw [HF.out, HDR.out, numF_step hd hov])
          clear hd
          go_wp2_with fail
          go_round
          case rel => exact ⟨k + 1, v * 16 + ((s[k]'hkl).toNat - 87), by omega, by go_num, by first | go_num | (congr 1; omega), by omega, HN⟩
          case measure => simp [intOf]; omega
      have hd : dig 16 (s[k]'hkl) = none := by unfold dig; rw [if_neg c1, if_neg (by omega)]
      have HN := Lib.hid (show numP 16 m s.data.toList = none from numP_none (by rw [HF.out, HDR.out, numF_none hd]))
      clear hd
      by_cases c3 : 48 ≤ (s[k]'hkl).toNat
      · have i1 : (48 : Int) ≤ ((s[k]'hkl).toNat : Int) := by omega
        have i2 : ¬ ((s[k]'hkl).toNat : Int) ≤ 57 := by omega
        by_cases c4 : 97 ≤ (s[k]'hkl).toNat
        · have i3 : (97 : Int) ≤ ((s[k]'hkl).toNat : Int) := by omega
          have i4 : ¬ ((s[k]'hkl).toNat : Int) ≤ 102 := by omega
          go_wp2_with fail
          go_ret2
          exact ⟨by rw [HN.out]; rfl, rfl⟩
        · have i3 : ¬ (97 : Int) ≤ ((s[k]'hkl).toNat : Int) := by omega
          go_wp2_with fail
          go_ret2
          exact ⟨by rw [HN.out]; rfl, rfl⟩
      · have i1 : ¬ (48 : Int) ≤ ((s[k]'hkl).toNat : Int) := by omega
        have i3 : ¬ (97 : Int) ≤ ((s[k]'hkl).toNat : Int) := by omega
        go_wp2_with fail
        go_ret2
        exact ⟨by rw [HN.out]; rfl, rfl⟩
    · have kI : ¬ (k : Int) < (s.size : Int) := by omega
      have HV := Lib.hid (show numF 16 m s.data.toList 0 = some v by rw [HF.out, List.drop_eq_nil_of_le (by rw [← Lib.size_eq]; omega), numF])
      by_cases hE : s.toList = []
      · have HN := Lib.hid (show numP 16 m s.data.toList = none from numP_shape (by rw [← Lib.toList_data, hE]; rfl))
        have hEm : s.toList.isEmpty = true := by rw [hE]; rfl
        go_wp2_with fail
        go_ret2
        exact ⟨by rw [HN.out]; rfl, rfl⟩
      have hEm : s.toList.isEmpty = false := by simpa using hE
      have hs0 : 0 < s.size := by
        rw [Lib.size_eq, ← Lib.toList_data]
        exact List.length_pos_iff.2 hE
      have h0I : (0 : Int) < (s.size : Int) := by omega
      by_cases h48 : ((s[0]'hs0).toNat : Int) = 48
      · by_cases h1 : 1 < s.size
        · have h1I : (1 : Int) < (s.size : Int) := by omega
          have HN := Lib.hid (show numP 16 m s.data.toList = none from numP_shape (shape48 hs0 h48 (by
            rw [Lib.toList_data]
            refine beq_eq_false_iff_ne.2 fun e => ?_
            have := congrArg List.length e
            rw [← Lib.size_eq] at this
            simp at this
            omega)))
          go_wp2_with fail
          go_ret2
          exact ⟨by rw [HN.out]; rfl, rfl⟩
        · have h1I : ¬ (1 : Int) < (s.size : Int) := by omega
          have HN := Lib.hid (show numP 16 m s.data.toList = some v by
            rw [numP_fits (by
              unfold shapeB
              simp only [decide_eq_true_eq]
              rintro (h | ⟨_, h⟩)
              · rw [Lib.size_eq, h] at hs0; simp at hs0
              · rw [← Lib.size_eq] at h; omega), HV.out])
          go_wp2_with fail
          go_ret2
          exact ⟨by rw [HN.out]; rfl, rfl⟩
      · have HN := Lib.hid (show numP 16 m s.data.toList = some v by rw [numP_fits (shape_no hs0 h48), HV.out])
        go_wp2_with fail
        go_ret2
        exact ⟨by rw [HN.out]; rfl, rfl⟩
end Go.Proofs.YthfdhggcnkgjfaaGreatDoor
