/- A digit; a number at any text. -/
import Derived.Test.YthfdhggcnkgjfaaGreatDoorRows
import Derived.Outline
import Derived.Test.YthfdhggcnkgjfaaGreatDoorPlainU
import Derived.Test.YthfdhggcnkgjfaaGreatDoorBase
import Derived.Deep.Light
namespace Go.Proofs.YthfdhggcnkgjfaaGreatDoor
open Go.RowKit
set_option linter.unusedVariables false
def digI (b : Nat) (x : UInt8) : Int := match dig b x with
  | some d => (d : Int)
  | none => -1
theorem digit_at (x : UInt8) (b : Nat) (hb : b = 10 ∨ b = 16) (w : World) : Calls Tryz.prog 73 #[.int .u8 (x.toNat : Int), .int .i64 (b : Int)] w fun e w' => e = .returned (.int .i64 (digI b x)) ∧ w' = w := by
  have hx := byte_le x
  have hx0 : (0 : Int) ≤ (x.toNat : Int) := Int.natCast_nonneg _
  have HD := Lib.hid (show digI b x = if 48 ≤ x.toNat ∧ x.toNat ≤ 57 then ((x.toNat - 48 : Nat) : Int) else if b = 16 ∧ 97 ≤ x.toNat ∧ x.toNat ≤ 102 then ((x.toNat - 87 : Nat) : Int) else -1 by
    unfold digI dig
    by_cases h1 : 48 ≤ x.toNat ∧ x.toNat ≤ 57
    · rw [if_pos h1, if_pos h1]
    · rw [if_neg h1, if_neg h1]
      by_cases h2 : b = 16 ∧ 97 ≤ x.toNat ∧ x.toNat ≤ 102
      · rw [if_pos h2, if_pos h2]
      · rw [if_neg h2, if_neg h2])
  obtain ⟨v, hv⟩ : ∃ v, digI b x = v := ⟨_, rfl⟩
  rw [hv] at HD ⊢
  clear hv
  obtain ⟨c, hc⟩ : ∃ c, x.toNat = c := ⟨_, rfl⟩
  rw [hc] at hx hx0 HD ⊢
  clear hc
  by_cases h1 : 48 ≤ c
  · by_cases h2 : c ≤ 57
    · have i1 : (48 : Int) ≤ (c : Int) := by omega
      have i2 : (c : Int) ≤ 57 := by omega
      have e := HD.out
      rw [if_pos ⟨h1, h2⟩] at e
      have HV := Lib.hid (show (c : Int) - 48 = v by omega)
      clear e
      go_enter Tryz.func73, Tryz.ntmps73
      go_wp2_with fail
      go_ret
      exact ⟨ret_int (by rw [HV.out]), rfl⟩
    · have i1 : (48 : Int) ≤ (c : Int) := by omega
      have i2 : ¬ (c : Int) ≤ 57 := by omega
      rcases hb with rfl | rfl
      · have e := HD.out
        rw [if_neg (by omega), if_neg (by omega)] at e
        have HV := Lib.hid e
        clear e
        go_enter Tryz.func73, Tryz.ntmps73
        go_wp2_with fail
        go_ret
        exact ⟨ret_int (by rw [HV.out]), rfl⟩
      · by_cases h3 : 97 ≤ c
        · have i3 : (97 : Int) ≤ (c : Int) := by omega
          by_cases h4 : c ≤ 102
          · have i4 : (c : Int) ≤ 102 := by omega
            have e := HD.out
            rw [if_neg (by omega), if_pos ⟨rfl, h3, h4⟩] at e
            have HV := Lib.hid (show (c : Int) - 97 + 10 = v by omega)
            clear e
            go_enter Tryz.func73, Tryz.ntmps73
            go_wp2_with fail
            go_ret
            exact ⟨ret_int (by rw [HV.out]), rfl⟩
          · have i4 : ¬ (c : Int) ≤ 102 := by omega
            have e := HD.out
            rw [if_neg (by omega), if_neg (by omega)] at e
            have HV := Lib.hid e
            clear e
            go_enter Tryz.func73, Tryz.ntmps73
            go_wp2_with fail
            go_ret
            exact ⟨ret_int (by rw [HV.out]), rfl⟩
        · have i3 : ¬ (97 : Int) ≤ (c : Int) := by omega
          have e := HD.out
          rw [if_neg (by omega), if_neg (by omega)] at e
          have HV := Lib.hid e
          clear e
          go_enter Tryz.func73, Tryz.ntmps73
          go_wp2_with fail
          go_ret
          exact ⟨ret_int (by rw [HV.out]), rfl⟩
  · have i1 : ¬ (48 : Int) ≤ (c : Int) := by omega
    have i3 : ¬ (97 : Int) ≤ (c : Int) := by omega
    have e := HD.out
    rw [if_neg (by omega), if_neg (by omega)] at e
    have HV := Lib.hid e
    clear e
    rcases hb with rfl | rfl
    · go_enter Tryz.func73, Tryz.ntmps73
      go_wp2_with fail
      go_ret
      exact ⟨ret_int (by rw [HV.out]), rfl⟩
    · go_enter Tryz.func73, Tryz.ntmps73
      go_wp2_with fail
      go_ret
      exact ⟨ret_int (by rw [HV.out]), rfl⟩
def NumRet (o : Option Nat) : Value := match o with
  | some n => .tuple #[.int .i64 (n : Int), .bool true]
  | none => .tuple #[.int .i64 0, .bool false]
theorem quo_nat (m d b v : Nat) (hd : d ≤ m) (hb : 0 < b) : Int.tdiv ((m : Int) - (d : Int)) (b : Int) = (((m - d) / b : Nat) : Int) ∧ ((m - d) / b < v ↔ m < v * b + d) := by
  refine ⟨?_, ?_⟩
  · rw [show (m : Int) - (d : Int) = ((m - d : Nat) : Int) by omega]; rfl
  · rw [Nat.div_lt_iff_lt_mul hb]; omega
theorem numP_shape {b m : Nat} {l : List UInt8} (h : shapeB l = true) : numP b m l = none := by unfold numP; rw [if_pos h]
theorem numP_fits {b m : Nat} {l : List UInt8} (h : ¬ shapeB l = true) : numP b m l = numF b m l 0 := by unfold numP; rw [if_neg h]
theorem cons_of {s : ByteArray} (h : 0 < s.size) : ∃ r, s.data.toList = (s[0]'h) :: r := by
  have : 0 < s.data.toList.length := by rw [← Lib.size_eq]; exact h
  exact ⟨s.data.toList.drop 1, List.drop_eq_getElem_cons (i := 0) this⟩
theorem shape48 {s : ByteArray} (h : 0 < s.size) (h48 : ((s[0]'h).toNat : Int) = 48) (hq : (s.toList == [48]) = false) : shapeB s.data.toList = true := by
  obtain ⟨r, hr⟩ := cons_of h
  have e : (s[0]'h) = 48 := by
    apply UInt8.toNat_inj.1
    have : (48 : UInt8).toNat = 48 := rfl
    omega
  rw [Lib.toList_data] at hq
  rw [hr, e] at hq ⊢
  unfold shapeB
  refine decide_eq_true (.inr ⟨rfl, ?_⟩)
  cases r with
  | nil => simp at hq
  | cons y r => simp
theorem shape_no {s : ByteArray} (h : 0 < s.size) (h48 : ¬ ((s[0]'h).toNat : Int) = 48) : ¬ shapeB s.data.toList = true := by
  obtain ⟨r, hr⟩ := cons_of h
  rw [hr]
  unfold shapeB
  simp only [decide_eq_true_eq]
  rintro (h1 | ⟨h1, _⟩)
  · cases h1
  · injection h1 with h1
    rw [h1] at h48
    exact h48 rfl
set_option maxHeartbeats 8000000 in
theorem number10 (s : ByteArray) (m : Nat) (hm : m ≤ 1073741824) (hl : s.size ≤ 100000) (w : World) : Calls Tryz.prog 57 #[.string s, .int .i64 10, .int .i64 (m : Int)] w fun e w' => e = .returned (NumRet (numP 10 m s.data.toList)) ∧ w' = w := by
  have hm0 : (0 : Int) ≤ (m : Int) := Int.natCast_nonneg _
  by_cases hE : s.toList = []
  · have HN := Lib.hid (show numP 10 m s.data.toList = none from numP_shape (by rw [← Lib.toList_data, hE]; rfl))
    have hEm : s.toList.isEmpty = true := by rw [hE]; rfl
    go_enter Tryz.func57, Tryz.ntmps57
    go_wp2_with fail
    go_ret2
    exact ⟨by rw [HN.out]; rfl, rfl⟩
  have hEm : s.toList.isEmpty = false := by simpa using hE
  have hs0 : 0 < s.size := by
    rw [Lib.size_eq, ← Lib.toList_data]
    exact List.length_pos_iff.2 hE
  have h0I : (0 : Int) < (s.size : Int) := by omega
  by_cases h48 : ((s[0]'hs0).toNat : Int) = 48
  · by_cases hq : (s.toList == [48]) = true
    · have HSH := Lib.hid (show ¬ shapeB s.data.toList = true by
        rw [← Lib.toList_data, eq_of_beq hq]; decide)
      go_enter Tryz.func57, Tryz.ntmps57
      go_upto_region 5 with fail
      go_wp2_with fail
      go_loop [8, 34] (fun n i => ∃ k v : Nat, k ≤ s.size ∧ i = .int .i64 (k : Int) ∧ n = .int .i64 (v : Int) ∧ v ≤ m ∧ Hid (numF 10 m s.data.toList 0 = numF 10 m (s.data.toList.drop k) v)) (fun _ i => (s.size - intOf i).toNat)
      case atStart => exact ⟨0, 0, by omega, rfl, rfl, by omega, Lib.hid rfl⟩
      case round =>
        obtain ⟨k, v, hk, rfl, rfl, hv, HF⟩ := hrel
        have k0 : (0 : Int) ≤ (k : Int) := Int.natCast_nonneg _
        have v0 : (0 : Int) ≤ (v : Int) := Int.natCast_nonneg _
        by_cases hkl : k < s.size
        · have kI : (k : Int) < (s.size : Int) := by omega
          have HDR := Lib.hid (show s.data.toList.drop k = s[k] :: s.data.toList.drop (k + 1) from List.drop_eq_getElem_cons (by rw [← Lib.size_eq]; exact hkl))
          go_wp2_with fail
          refine (digit_at s[k] 10 (by omega) w).mono ?_
          rintro e w1 ⟨rfl, rfl⟩
          have HDG := Lib.hid (fun d (h : dig 10 (s[k]'hkl) = some d) => dig_lt (by omega) h)
          unfold digI
          generalize s[k] = x at HDR HDG
          cases hd : dig 10 x with
          | none =>
            have HN := Lib.hid (show numP 10 m s.data.toList = none by rw [numP_fits HSH.out, HF.out, HDR.out, numF_none hd])
            clear hd
            go_wp2_with fail
            go_ret2
            exact ⟨by rw [HN.out]; rfl, rfl⟩
          | some d =>
            have d0 : (0 : Int) ≤ (d : Int) := Int.natCast_nonneg _
            have d16 : (d : Int) < 10 := by have := HDG.out d hd; omega
            have dn : ¬ (d : Int) < 0 := by omega
            by_cases hdm : m < d
            · have HN := Lib.hid (show numP 10 m s.data.toList = none by rw [numP_fits HSH.out, HF.out, HDR.out, numF_over hd (by omega)])
              have i4 : (m : Int) < (d : Int) := by omega
              clear hd
              go_wp2_with fail
              go_ret2
              exact ⟨by rw [HN.out]; rfl, rfl⟩
            · have i4 : ¬ (m : Int) < (d : Int) := by omega
              obtain ⟨hq1, hq2⟩ := quo_nat m d 10 v (by omega) (by omega)
              obtain ⟨q, hq⟩ : ∃ q, (m - d) / 10 = q := ⟨_, rfl⟩
              rw [hq] at hq1 hq2
              have hqm : q ≤ m := by rw [← hq]; exact Nat.le_trans (Nat.div_le_self _ _) (by omega)
              clear hq
              have hq1' : Int.tdiv ((m : Int) - (d : Int)) 10 = (q : Int) := hq1
              by_cases hov : m < v * 10 + d
              · have i5 : (q : Int) < (v : Int) := by have := hq2.2 hov; omega
                have HN := Lib.hid (show numP 10 m s.data.toList = none by rw [numP_fits HSH.out, HF.out, HDR.out, numF_over hd hov])
                clear hd hq1 hq2 hov
                go_wp2_with fail
                go_ret2
                exact ⟨by rw [HN.out]; rfl, rfl⟩
              · have i5 : ¬ (q : Int) < (v : Int) := by have := hq2.1; omega
                have HN := Lib.hid (show numF 10 m s.data.toList 0 = numF 10 m (s.data.toList.drop (k + 1)) (v * 10 + d) by rw [HF.out, HDR.out, numF_step hd hov])
                clear hd hq1 hq2
                go_wp2_with fail
                go_round
                case rel => exact ⟨k + 1, v * 10 + d, by omega, by go_num, by go_num, by omega, HN⟩
                case measure => simp [intOf]; omega
        · have kI : ¬ (k : Int) < (s.size : Int) := by omega
          have HN := Lib.hid (show numP 10 m s.data.toList = some v by rw [numP_fits HSH.out, HF.out, List.drop_eq_nil_of_le (by rw [← Lib.size_eq]; omega), numF])
          go_wp2_with fail
          go_ret2
          exact ⟨by rw [HN.out]; rfl, rfl⟩
    · have hq' : (s.toList == [48]) = false := by simpa using hq
      have HN := Lib.hid (show numP 10 m s.data.toList = none from numP_shape (shape48 hs0 h48 hq'))
      clear hq
      go_enter Tryz.func57, Tryz.ntmps57
      go_wp2_with fail
      go_ret2
      exact ⟨by rw [HN.out]; rfl, rfl⟩
  · have HSH := Lib.hid (show ¬ shapeB s.data.toList = true from shape_no hs0 h48)
    go_enter Tryz.func57, Tryz.ntmps57
    go_upto_region 5 with fail
    go_wp2_with fail
    go_loop [8, 34] (fun n i => ∃ k v : Nat, k ≤ s.size ∧ i = .int .i64 (k : Int) ∧ n = .int .i64 (v : Int) ∧ v ≤ m ∧ Hid (numF 10 m s.data.toList 0 = numF 10 m (s.data.toList.drop k) v)) (fun _ i => (s.size - intOf i).toNat)
    case atStart => exact ⟨0, 0, by omega, rfl, rfl, by omega, Lib.hid rfl⟩
    case round =>
      obtain ⟨k, v, hk, rfl, rfl, hv, HF⟩ := hrel
      have k0 : (0 : Int) ≤ (k : Int) := Int.natCast_nonneg _
      have v0 : (0 : Int) ≤ (v : Int) := Int.natCast_nonneg _
      by_cases hkl : k < s.size
      · have kI : (k : Int) < (s.size : Int) := by omega
        have HDR := Lib.hid (show s.data.toList.drop k = s[k] :: s.data.toList.drop (k + 1) from List.drop_eq_getElem_cons (by rw [← Lib.size_eq]; exact hkl))
        go_wp2_with fail
        refine (digit_at s[k] 10 (by omega) w).mono ?_
        rintro e w1 ⟨rfl, rfl⟩
        have HDG := Lib.hid (fun d (h : dig 10 (s[k]'hkl) = some d) => dig_lt (by omega) h)
        unfold digI
        generalize s[k] = x at HDR HDG
        cases hd : dig 10 x with
        | none =>
          have HN := Lib.hid (show numP 10 m s.data.toList = none by rw [numP_fits HSH.out, HF.out, HDR.out, numF_none hd])
          clear hd
          go_wp2_with fail
          go_ret2
          exact ⟨by rw [HN.out]; rfl, rfl⟩
        | some d =>
          have d0 : (0 : Int) ≤ (d : Int) := Int.natCast_nonneg _
          have d16 : (d : Int) < 10 := by have := HDG.out d hd; omega
          have dn : ¬ (d : Int) < 0 := by omega
          by_cases hdm : m < d
          · have HN := Lib.hid (show numP 10 m s.data.toList = none by rw [numP_fits HSH.out, HF.out, HDR.out, numF_over hd (by omega)])
            have i4 : (m : Int) < (d : Int) := by omega
            clear hd
            go_wp2_with fail
            go_ret2
            exact ⟨by rw [HN.out]; rfl, rfl⟩
          · have i4 : ¬ (m : Int) < (d : Int) := by omega
            obtain ⟨hq1, hq2⟩ := quo_nat m d 10 v (by omega) (by omega)
            obtain ⟨q, hq⟩ : ∃ q, (m - d) / 10 = q := ⟨_, rfl⟩
            rw [hq] at hq1 hq2
            have hqm : q ≤ m := by rw [← hq]; exact Nat.le_trans (Nat.div_le_self _ _) (by omega)
            clear hq
            have hq1' : Int.tdiv ((m : Int) - (d : Int)) 10 = (q : Int) := hq1
            by_cases hov : m < v * 10 + d
            · have i5 : (q : Int) < (v : Int) := by have := hq2.2 hov; omega
              have HN := Lib.hid (show numP 10 m s.data.toList = none by rw [numP_fits HSH.out, HF.out, HDR.out, numF_over hd hov])
              clear hd hq1 hq2 hov
              go_wp2_with fail
              go_ret2
              exact ⟨by rw [HN.out]; rfl, rfl⟩
            · have i5 : ¬ (q : Int) < (v : Int) := by have := hq2.1; omega
              have HN := Lib.hid (show numF 10 m s.data.toList 0 = numF 10 m (s.data.toList.drop (k + 1)) (v * 10 + d) by rw [HF.out, HDR.out, numF_step hd hov])
              clear hd hq1 hq2
              go_wp2_with fail
              go_round
              case rel => exact ⟨k + 1, v * 10 + d, by omega, by go_num, by go_num, by omega, HN⟩
              case measure => simp [intOf]; omega
      · have kI : ¬ (k : Int) < (s.size : Int) := by omega
        have HN := Lib.hid (show numP 10 m s.data.toList = some v by rw [numP_fits HSH.out, HF.out, List.drop_eq_nil_of_le (by rw [← Lib.size_eq]; omega), numF])
        go_wp2_with fail
        go_ret2
        exact ⟨by rw [HN.out]; rfl, rfl⟩
set_option maxHeartbeats 8000000 in
theorem number16 (s : ByteArray) (m : Nat) (hm : m ≤ 1073741824) (hl : s.size ≤ 100000) (w : World) : Calls Tryz.prog 57 #[.string s, .int .i64 16, .int .i64 (m : Int)] w fun e w' => e = .returned (NumRet (numP 16 m s.data.toList)) ∧ w' = w := by
  have hm0 : (0 : Int) ≤ (m : Int) := Int.natCast_nonneg _
  by_cases hE : s.toList = []
  · have HN := Lib.hid (show numP 16 m s.data.toList = none from numP_shape (by rw [← Lib.toList_data, hE]; rfl))
    have hEm : s.toList.isEmpty = true := by rw [hE]; rfl
    go_enter Tryz.func57, Tryz.ntmps57
    go_wp2_with fail
    go_ret2
    exact ⟨by rw [HN.out]; rfl, rfl⟩
  have hEm : s.toList.isEmpty = false := by simpa using hE
  have hs0 : 0 < s.size := by
    rw [Lib.size_eq, ← Lib.toList_data]
    exact List.length_pos_iff.2 hE
  have h0I : (0 : Int) < (s.size : Int) := by omega
  by_cases h48 : ((s[0]'hs0).toNat : Int) = 48
  · by_cases hq : (s.toList == [48]) = true
    · have HSH := Lib.hid (show ¬ shapeB s.data.toList = true by
        rw [← Lib.toList_data, eq_of_beq hq]; decide)
      go_enter Tryz.func57, Tryz.ntmps57
      go_upto_region 5 with fail
      go_wp2_with fail
      go_loop [8, 34] (fun n i => ∃ k v : Nat, k ≤ s.size ∧ i = .int .i64 (k : Int) ∧ n = .int .i64 (v : Int) ∧ v ≤ m ∧ Hid (numF 16 m s.data.toList 0 = numF 16 m (s.data.toList.drop k) v)) (fun _ i => (s.size - intOf i).toNat)
      case atStart => exact ⟨0, 0, by omega, rfl, rfl, by omega, Lib.hid rfl⟩
      case round =>
        obtain ⟨k, v, hk, rfl, rfl, hv, HF⟩ := hrel
        have k0 : (0 : Int) ≤ (k : Int) := Int.natCast_nonneg _
        have v0 : (0 : Int) ≤ (v : Int) := Int.natCast_nonneg _
        by_cases hkl : k < s.size
        · have kI : (k : Int) < (s.size : Int) := by omega
          have HDR := Lib.hid (show s.data.toList.drop k = s[k] :: s.data.toList.drop (k + 1) from List.drop_eq_getElem_cons (by rw [← Lib.size_eq]; exact hkl))
          go_wp2_with fail
          refine (digit_at s[k] 16 (by omega) w).mono ?_
          rintro e w1 ⟨rfl, rfl⟩
          have HDG := Lib.hid (fun d (h : dig 16 (s[k]'hkl) = some d) => dig_lt (by omega) h)
          unfold digI
          generalize s[k] = x at HDR HDG
          cases hd : dig 16 x with
          | none =>
            have HN := Lib.hid (show numP 16 m s.data.toList = none by rw [numP_fits HSH.out, HF.out, HDR.out, numF_none hd])
            clear hd
            go_wp2_with fail
            go_ret2
            exact ⟨by rw [HN.out]; rfl, rfl⟩
          | some d =>
            have d0 : (0 : Int) ≤ (d : Int) := Int.natCast_nonneg _
            have d16 : (d : Int) < 16 := by have := HDG.out d hd; omega
            have dn : ¬ (d : Int) < 0 := by omega
            by_cases hdm : m < d
            · have HN := Lib.hid (show numP 16 m s.data.toList = none by rw [numP_fits HSH.out, HF.out, HDR.out, numF_over hd (by omega)])
              have i4 : (m : Int) < (d : Int) := by omega
              clear hd
              go_wp2_with fail
              go_ret2
              exact ⟨by rw [HN.out]; rfl, rfl⟩
            · have i4 : ¬ (m : Int) < (d : Int) := by omega
              obtain ⟨hq1, hq2⟩ := quo_nat m d 16 v (by omega) (by omega)
              obtain ⟨q, hq⟩ : ∃ q, (m - d) / 16 = q := ⟨_, rfl⟩
              rw [hq] at hq1 hq2
              have hqm : q ≤ m := by rw [← hq]; exact Nat.le_trans (Nat.div_le_self _ _) (by omega)
              clear hq
              have hq1' : Int.tdiv ((m : Int) - (d : Int)) 16 = (q : Int) := hq1
              by_cases hov : m < v * 16 + d
              · have i5 : (q : Int) < (v : Int) := by have := hq2.2 hov; omega
                have HN := Lib.hid (show numP 16 m s.data.toList = none by rw [numP_fits HSH.out, HF.out, HDR.out, numF_over hd hov])
                clear hd hq1 hq2 hov
                go_wp2_with fail
                go_ret2
                exact ⟨by rw [HN.out]; rfl, rfl⟩
              · have i5 : ¬ (q : Int) < (v : Int) := by have := hq2.1; omega
                have HN := Lib.hid (show numF 16 m s.data.toList 0 = numF 16 m (s.data.toList.drop (k + 1)) (v * 16 + d) by rw [HF.out, HDR.out, numF_step hd hov])
                clear hd hq1 hq2
                go_wp2_with fail
                go_round
                case rel => exact ⟨k + 1, v * 16 + d, by omega, by go_num, by go_num, by omega, HN⟩
                case measure => simp [intOf]; omega
        · have kI : ¬ (k : Int) < (s.size : Int) := by omega
          have HN := Lib.hid (show numP 16 m s.data.toList = some v by rw [numP_fits HSH.out, HF.out, List.drop_eq_nil_of_le (by rw [← Lib.size_eq]; omega), numF])
          go_wp2_with fail
          go_ret2
          exact ⟨by rw [HN.out]; rfl, rfl⟩
    · have hq' : (s.toList == [48]) = false := by simpa using hq
      have HN := Lib.hid (show numP 16 m s.data.toList = none from numP_shape (shape48 hs0 h48 hq'))
      clear hq
      go_enter Tryz.func57, Tryz.ntmps57
      go_wp2_with fail
      go_ret2
      exact ⟨by rw [HN.out]; rfl, rfl⟩
  · have HSH := Lib.hid (show ¬ shapeB s.data.toList = true from shape_no hs0 h48)
    go_enter Tryz.func57, Tryz.ntmps57
    go_upto_region 5 with fail
    go_wp2_with fail
    go_loop [8, 34] (fun n i => ∃ k v : Nat, k ≤ s.size ∧ i = .int .i64 (k : Int) ∧ n = .int .i64 (v : Int) ∧ v ≤ m ∧ Hid (numF 16 m s.data.toList 0 = numF 16 m (s.data.toList.drop k) v)) (fun _ i => (s.size - intOf i).toNat)
    case atStart => exact ⟨0, 0, by omega, rfl, rfl, by omega, Lib.hid rfl⟩
    case round =>
      obtain ⟨k, v, hk, rfl, rfl, hv, HF⟩ := hrel
      have k0 : (0 : Int) ≤ (k : Int) := Int.natCast_nonneg _
      have v0 : (0 : Int) ≤ (v : Int) := Int.natCast_nonneg _
      by_cases hkl : k < s.size
      · have kI : (k : Int) < (s.size : Int) := by omega
        have HDR := Lib.hid (show s.data.toList.drop k = s[k] :: s.data.toList.drop (k + 1) from List.drop_eq_getElem_cons (by rw [← Lib.size_eq]; exact hkl))
        go_wp2_with fail
        refine (digit_at s[k] 16 (by omega) w).mono ?_
        rintro e w1 ⟨rfl, rfl⟩
        have HDG := Lib.hid (fun d (h : dig 16 (s[k]'hkl) = some d) => dig_lt (by omega) h)
        unfold digI
        generalize s[k] = x at HDR HDG
        cases hd : dig 16 x with
        | none =>
          have HN := Lib.hid (show numP 16 m s.data.toList = none by rw [numP_fits HSH.out, HF.out, HDR.out, numF_none hd])
          clear hd
          go_wp2_with fail
          go_ret2
          exact ⟨by rw [HN.out]; rfl, rfl⟩
        | some d =>
          have d0 : (0 : Int) ≤ (d : Int) := Int.natCast_nonneg _
          have d16 : (d : Int) < 16 := by have := HDG.out d hd; omega
          have dn : ¬ (d : Int) < 0 := by omega
          by_cases hdm : m < d
          · have HN := Lib.hid (show numP 16 m s.data.toList = none by rw [numP_fits HSH.out, HF.out, HDR.out, numF_over hd (by omega)])
            have i4 : (m : Int) < (d : Int) := by omega
            clear hd
            go_wp2_with fail
            go_ret2
            exact ⟨by rw [HN.out]; rfl, rfl⟩
          · have i4 : ¬ (m : Int) < (d : Int) := by omega
            obtain ⟨hq1, hq2⟩ := quo_nat m d 16 v (by omega) (by omega)
            obtain ⟨q, hq⟩ : ∃ q, (m - d) / 16 = q := ⟨_, rfl⟩
            rw [hq] at hq1 hq2
            have hqm : q ≤ m := by rw [← hq]; exact Nat.le_trans (Nat.div_le_self _ _) (by omega)
            clear hq
            have hq1' : Int.tdiv ((m : Int) - (d : Int)) 16 = (q : Int) := hq1
            by_cases hov : m < v * 16 + d
            · have i5 : (q : Int) < (v : Int) := by have := hq2.2 hov; omega
              have HN := Lib.hid (show numP 16 m s.data.toList = none by rw [numP_fits HSH.out, HF.out, HDR.out, numF_over hd hov])
              clear hd hq1 hq2 hov
              go_wp2_with fail
              go_ret2
              exact ⟨by rw [HN.out]; rfl, rfl⟩
            · have i5 : ¬ (q : Int) < (v : Int) := by have := hq2.1; omega
              have HN := Lib.hid (show numF 16 m s.data.toList 0 = numF 16 m (s.data.toList.drop (k + 1)) (v * 16 + d) by rw [HF.out, HDR.out, numF_step hd hov])
              clear hd hq1 hq2
              go_wp2_with fail
              go_round
              case rel => exact ⟨k + 1, v * 16 + d, by omega, by go_num, by go_num, by omega, HN⟩
              case measure => simp [intOf]; omega
      · have kI : ¬ (k : Int) < (s.size : Int) := by omega
        have HN := Lib.hid (show numP 16 m s.data.toList = some v by rw [numP_fits HSH.out, HF.out, List.drop_eq_nil_of_le (by rw [← Lib.size_eq]; omega), numF])
        go_wp2_with fail
        go_ret2
        exact ⟨by rw [HN.out]; rfl, rfl⟩
end Go.Proofs.YthfdhggcnkgjfaaGreatDoor
