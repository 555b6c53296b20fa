import Derived.Test.YtpclmedpnoalhaaRows
import Derived.Test.YtpclmedpnoalhaaBits
import Derived.Outline
import Derived.Deep.Light
namespace Go.Proofs.Ytpclmedpnoalhaa
open Go.RowKit
set_option linter.unusedVariables false


/-- The nearest number, of the candidate m. -/
def nearI (W e m : Int) : Int := if m + W / 2 ≤ e ∧ m < 4611686018427387904 - W then m + W else if e + W / 2 < m ∧ W ≤ m then m - W else m
theorem expandI_near (W e t : Int) : expandI W e t = nearI W e (e - e % W + t) := rfl

theorem expand_size (e t s : Int) (w : World) (hs : s < 1 ∨ 4 < s) : Calls Try.prog 9 #[.int .u64 e, .int .u64 t, .int .i64 s] w fun r w' => r = .returned (.tuple #[.int .u64 0, .int .i64 1]) ∧ w = w' := by
  rcases hs with hs | hs
  · go_enter Try.func9, Try.ntmps9
    go_wp2_with fail
    go_ret2
    exact ⟨rfl, rfl⟩
  · have hn : ¬ s < 1 := by omega
    go_enter Try.func9, Try.ntmps9
    go_wp2_with fail
    go_ret2
    exact ⟨rfl, rfl⟩
theorem expand_great (e t s : Int) (w : World) (h1 : 1 ≤ s) (h4 : s ≤ 4) (he : 4611686018427387904 ≤ e) : Calls Try.prog 9 #[.int .u64 e, .int .u64 t, .int .i64 s] w fun r w' => r = .returned (.tuple #[.int .u64 0, .int .i64 1]) ∧ w = w' := by
  go_enter Try.func9, Try.ntmps9
  go_wp2_with fail
  go_ret2
  exact ⟨rfl, rfl⟩

theorem expand_told1 (e t : Int) (w : World) (he : e < 4611686018427387904) (ht : 256 ≤ t) : Calls Try.prog 9 #[.int .u64 e, .int .u64 t, .int .i64 1] w fun r w' => r = .returned (.tuple #[.int .u64 0, .int .i64 1]) ∧ w = w' := by
  go_enter Try.func9, Try.ntmps9
  go_wp2_with fail
  go_ret2
  exact ⟨rfl, rfl⟩
set_option maxHeartbeats 2000000 in
theorem expand_1 (e t : Int) (w : World) (e0 : 0 ≤ e) (he : e < 4611686018427387904) (t0 : 0 ≤ t) (ht : t < 256) : Calls Try.prog 9 #[.int .u64 e, .int .u64 t, .int .i64 1] w fun r w' => r = .returned (.tuple #[.int .u64 (expandI 256 e t), .int .i64 0]) ∧ w = w' := by
  have hA : bits .andNot .u64 e 255 = e - e % 256 := andNot_mask e 8 255 (by decide) (by decide) e0 (by omega)
  have hO : bits .or .u64 (e - e % 256) t = e - e % 256 + t := or_low e t 8 256 (by decide) (by decide) e0 (by omega) t0 ht
  obtain ⟨m, hm⟩ : ∃ m, e - e % 256 + t = m := ⟨_, rfl⟩
  have hm0 : 0 ≤ m := by omega
  have hm1 : m < 4611686018427387904 := by omega
  rw [hm] at hO
  have HE := Lib.hid (show expandI 256 e t = nearI 256 e m by rw [expandI_near, hm])
  clear hm
  by_cases c1 : m + 128 ≤ e
  · by_cases c2 : m < 4611686018427387648
    · have HF := Lib.hid (show nearI 256 e m = m + 256 by rw [nearI, if_pos (by omega)])
      go_enter Try.func9, Try.ntmps9
      go_wp2_with fail
      go_ret2
      exact ⟨by rw [HE.out, HF.out]; rfl, rfl⟩
    · have c3 : ¬ e + 128 < m := by omega
      have HF := Lib.hid (show nearI 256 e m = m by rw [nearI, if_neg (by omega), if_neg (by omega)])
      go_enter Try.func9, Try.ntmps9
      go_wp2_with fail
      go_ret2
      exact ⟨by rw [HE.out, HF.out]; rfl, rfl⟩
  · by_cases c3 : e + 128 < m
    · by_cases c4 : 256 ≤ m
      · have HF := Lib.hid (show nearI 256 e m = m - 256 by rw [nearI, if_neg (by omega), if_pos (by omega)])
        go_enter Try.func9, Try.ntmps9
        go_wp2_with fail
        go_ret2
        exact ⟨by rw [HE.out, HF.out]; rfl, rfl⟩
      · have HF := Lib.hid (show nearI 256 e m = m by rw [nearI, if_neg (by omega), if_neg (by omega)])
        go_enter Try.func9, Try.ntmps9
        go_wp2_with fail
        go_ret2
        exact ⟨by rw [HE.out, HF.out]; rfl, rfl⟩
    · have HF := Lib.hid (show nearI 256 e m = m by rw [nearI, if_neg (by omega), if_neg (by omega)])
      go_enter Try.func9, Try.ntmps9
      go_wp2_with fail
      go_ret2
      exact ⟨by rw [HE.out, HF.out]; rfl, rfl⟩
set_option maxHeartbeats 2000000 in
theorem refExpand_1 (e t : Int) (w : World) (e0 : 0 ≤ e) (he : e < 4611686018427387904) (t0 : 0 ≤ t) (ht : t < 256) : Calls Try.prog 11 #[.int .u64 e, .int .u64 t, .int .i64 1] w fun r w' => r = .returned (.int .u64 (expandI 256 e t)) ∧ w = w' := by
  obtain ⟨m, hm⟩ : ∃ m, e - e % 256 + t = m := ⟨_, rfl⟩
  have hm0 : 0 ≤ m := by omega
  have hm1 : m < 4611686018427387904 := by omega
  have HE := Lib.hid (show expandI 256 e t = nearI 256 e m by rw [expandI_near, hm])
  have hmod : e % 256 ≤ e := by omega
  by_cases c1 : m + 128 ≤ e
  · by_cases c2 : m < 4611686018427387648
    · have HF := Lib.hid (show nearI 256 e m = m + 256 by rw [nearI, if_pos (by omega)])
      go_enter Try.func11, Try.ntmps11
      go_wp2_with fail
      refine (power_8 _).mono ?_
      rintro r w' ⟨rfl, rfl⟩
      go_wp2_with fail
      refine (power_62 _).mono ?_
      rintro r w' ⟨rfl, rfl⟩
      go_wp2_with fail
      go_ret
      exact ⟨ret_int (by rw [HE.out, HF.out]), rfl⟩
    · have c3 : ¬ e + 128 < m := by omega
      have HF := Lib.hid (show nearI 256 e m = m by rw [nearI, if_neg (by omega), if_neg (by omega)])
      go_enter Try.func11, Try.ntmps11
      go_wp2_with fail
      refine (power_8 _).mono ?_
      rintro r w' ⟨rfl, rfl⟩
      go_wp2_with fail
      refine (power_62 _).mono ?_
      rintro r w' ⟨rfl, rfl⟩
      go_wp2_with fail
      go_ret
      exact ⟨ret_int (by rw [HE.out, HF.out]), rfl⟩
  · by_cases c3 : e + 128 < m
    · by_cases c4 : 256 ≤ m
      · have HF := Lib.hid (show nearI 256 e m = m - 256 by rw [nearI, if_neg (by omega), if_pos (by omega)])
        go_enter Try.func11, Try.ntmps11
        go_wp2_with fail
        refine (power_8 _).mono ?_
        rintro r w' ⟨rfl, rfl⟩
        go_wp2_with fail
        go_ret
        exact ⟨ret_int (by rw [HE.out, HF.out]), rfl⟩
      · have HF := Lib.hid (show nearI 256 e m = m by rw [nearI, if_neg (by omega), if_neg (by omega)])
        go_enter Try.func11, Try.ntmps11
        go_wp2_with fail
        refine (power_8 _).mono ?_
        rintro r w' ⟨rfl, rfl⟩
        go_wp2_with fail
        go_ret
        exact ⟨ret_int (by rw [HE.out, HF.out]), rfl⟩
    · have HF := Lib.hid (show nearI 256 e m = m by rw [nearI, if_neg (by omega), if_neg (by omega)])
      go_enter Try.func11, Try.ntmps11
      go_wp2_with fail
      refine (power_8 _).mono ?_
      rintro r w' ⟨rfl, rfl⟩
      go_wp2_with fail
      go_ret
      exact ⟨ret_int (by rw [HE.out, HF.out]), rfl⟩

theorem expand_told2 (e t : Int) (w : World) (he : e < 4611686018427387904) (ht : 65536 ≤ t) : Calls Try.prog 9 #[.int .u64 e, .int .u64 t, .int .i64 2] w fun r w' => r = .returned (.tuple #[.int .u64 0, .int .i64 1]) ∧ w = w' := by
  go_enter Try.func9, Try.ntmps9
  go_wp2_with fail
  go_ret2
  exact ⟨rfl, rfl⟩
set_option maxHeartbeats 2000000 in
theorem expand_2 (e t : Int) (w : World) (e0 : 0 ≤ e) (he : e < 4611686018427387904) (t0 : 0 ≤ t) (ht : t < 65536) : Calls Try.prog 9 #[.int .u64 e, .int .u64 t, .int .i64 2] w fun r w' => r = .returned (.tuple #[.int .u64 (expandI 65536 e t), .int .i64 0]) ∧ w = w' := by
  have hA : bits .andNot .u64 e 65535 = e - e % 65536 := andNot_mask e 16 65535 (by decide) (by decide) e0 (by omega)
  have hO : bits .or .u64 (e - e % 65536) t = e - e % 65536 + t := or_low e t 16 65536 (by decide) (by decide) e0 (by omega) t0 ht
  obtain ⟨m, hm⟩ : ∃ m, e - e % 65536 + t = m := ⟨_, rfl⟩
  have hm0 : 0 ≤ m := by omega
  have hm1 : m < 4611686018427387904 := by omega
  rw [hm] at hO
  have HE := Lib.hid (show expandI 65536 e t = nearI 65536 e m by rw [expandI_near, hm])
  clear hm
  by_cases c1 : m + 32768 ≤ e
  · by_cases c2 : m < 4611686018427322368
    · have HF := Lib.hid (show nearI 65536 e m = m + 65536 by rw [nearI, if_pos (by omega)])
      go_enter Try.func9, Try.ntmps9
      go_wp2_with fail
      go_ret2
      exact ⟨by rw [HE.out, HF.out]; rfl, rfl⟩
    · have c3 : ¬ e + 32768 < m := by omega
      have HF := Lib.hid (show nearI 65536 e m = m by rw [nearI, if_neg (by omega), if_neg (by omega)])
      go_enter Try.func9, Try.ntmps9
      go_wp2_with fail
      go_ret2
      exact ⟨by rw [HE.out, HF.out]; rfl, rfl⟩
  · by_cases c3 : e + 32768 < m
    · by_cases c4 : 65536 ≤ m
      · have HF := Lib.hid (show nearI 65536 e m = m - 65536 by rw [nearI, if_neg (by omega), if_pos (by omega)])
        go_enter Try.func9, Try.ntmps9
        go_wp2_with fail
        go_ret2
        exact ⟨by rw [HE.out, HF.out]; rfl, rfl⟩
      · have HF := Lib.hid (show nearI 65536 e m = m by rw [nearI, if_neg (by omega), if_neg (by omega)])
        go_enter Try.func9, Try.ntmps9
        go_wp2_with fail
        go_ret2
        exact ⟨by rw [HE.out, HF.out]; rfl, rfl⟩
    · have HF := Lib.hid (show nearI 65536 e m = m by rw [nearI, if_neg (by omega), if_neg (by omega)])
      go_enter Try.func9, Try.ntmps9
      go_wp2_with fail
      go_ret2
      exact ⟨by rw [HE.out, HF.out]; rfl, rfl⟩
set_option maxHeartbeats 2000000 in
theorem refExpand_2 (e t : Int) (w : World) (e0 : 0 ≤ e) (he : e < 4611686018427387904) (t0 : 0 ≤ t) (ht : t < 65536) : Calls Try.prog 11 #[.int .u64 e, .int .u64 t, .int .i64 2] w fun r w' => r = .returned (.int .u64 (expandI 65536 e t)) ∧ w = w' := by
  obtain ⟨m, hm⟩ : ∃ m, e - e % 65536 + t = m := ⟨_, rfl⟩
  have hm0 : 0 ≤ m := by omega
  have hm1 : m < 4611686018427387904 := by omega
  have HE := Lib.hid (show expandI 65536 e t = nearI 65536 e m by rw [expandI_near, hm])
  have hmod : e % 65536 ≤ e := by omega
  by_cases c1 : m + 32768 ≤ e
  · by_cases c2 : m < 4611686018427322368
    · have HF := Lib.hid (show nearI 65536 e m = m + 65536 by rw [nearI, if_pos (by omega)])
      go_enter Try.func11, Try.ntmps11
      go_wp2_with fail
      refine (power_16 _).mono ?_
      rintro r w' ⟨rfl, rfl⟩
      go_wp2_with fail
      refine (power_62 _).mono ?_
      rintro r w' ⟨rfl, rfl⟩
      go_wp2_with fail
      go_ret
      exact ⟨ret_int (by rw [HE.out, HF.out]), rfl⟩
    · have c3 : ¬ e + 32768 < m := by omega
      have HF := Lib.hid (show nearI 65536 e m = m by rw [nearI, if_neg (by omega), if_neg (by omega)])
      go_enter Try.func11, Try.ntmps11
      go_wp2_with fail
      refine (power_16 _).mono ?_
      rintro r w' ⟨rfl, rfl⟩
      go_wp2_with fail
      refine (power_62 _).mono ?_
      rintro r w' ⟨rfl, rfl⟩
      go_wp2_with fail
      go_ret
      exact ⟨ret_int (by rw [HE.out, HF.out]), rfl⟩
  · by_cases c3 : e + 32768 < m
    · by_cases c4 : 65536 ≤ m
      · have HF := Lib.hid (show nearI 65536 e m = m - 65536 by rw [nearI, if_neg (by omega), if_pos (by omega)])
        go_enter Try.func11, Try.ntmps11
        go_wp2_with fail
        refine (power_16 _).mono ?_
        rintro r w' ⟨rfl, rfl⟩
        go_wp2_with fail
        go_ret
        exact ⟨ret_int (by rw [HE.out, HF.out]), rfl⟩
      · have HF := Lib.hid (show nearI 65536 e m = m by rw [nearI, if_neg (by omega), if_neg (by omega)])
        go_enter Try.func11, Try.ntmps11
        go_wp2_with fail
        refine (power_16 _).mono ?_
        rintro r w' ⟨rfl, rfl⟩
        go_wp2_with fail
        go_ret
        exact ⟨ret_int (by rw [HE.out, HF.out]), rfl⟩
    · have HF := Lib.hid (show nearI 65536 e m = m by rw [nearI, if_neg (by omega), if_neg (by omega)])
      go_enter Try.func11, Try.ntmps11
      go_wp2_with fail
      refine (power_16 _).mono ?_
      rintro r w' ⟨rfl, rfl⟩
      go_wp2_with fail
      go_ret
      exact ⟨ret_int (by rw [HE.out, HF.out]), rfl⟩

theorem expand_told3 (e t : Int) (w : World) (he : e < 4611686018427387904) (ht : 16777216 ≤ t) : Calls Try.prog 9 #[.int .u64 e, .int .u64 t, .int .i64 3] w fun r w' => r = .returned (.tuple #[.int .u64 0, .int .i64 1]) ∧ w = w' := by
  go_enter Try.func9, Try.ntmps9
  go_wp2_with fail
  go_ret2
  exact ⟨rfl, rfl⟩
set_option maxHeartbeats 2000000 in
theorem expand_3 (e t : Int) (w : World) (e0 : 0 ≤ e) (he : e < 4611686018427387904) (t0 : 0 ≤ t) (ht : t < 16777216) : Calls Try.prog 9 #[.int .u64 e, .int .u64 t, .int .i64 3] w fun r w' => r = .returned (.tuple #[.int .u64 (expandI 16777216 e t), .int .i64 0]) ∧ w = w' := by
  have hA : bits .andNot .u64 e 16777215 = e - e % 16777216 := andNot_mask e 24 16777215 (by decide) (by decide) e0 (by omega)
  have hO : bits .or .u64 (e - e % 16777216) t = e - e % 16777216 + t := or_low e t 24 16777216 (by decide) (by decide) e0 (by omega) t0 ht
  obtain ⟨m, hm⟩ : ∃ m, e - e % 16777216 + t = m := ⟨_, rfl⟩
  have hm0 : 0 ≤ m := by omega
  have hm1 : m < 4611686018427387904 := by omega
  rw [hm] at hO
  have HE := Lib.hid (show expandI 16777216 e t = nearI 16777216 e m by rw [expandI_near, hm])
  clear hm
  by_cases c1 : m + 8388608 ≤ e
  · by_cases c2 : m < 4611686018410610688
    · have HF := Lib.hid (show nearI 16777216 e m = m + 16777216 by rw [nearI, if_pos (by omega)])
      go_enter Try.func9, Try.ntmps9
      go_wp2_with fail
      go_ret2
      exact ⟨by rw [HE.out, HF.out]; rfl, rfl⟩
    · have c3 : ¬ e + 8388608 < m := by omega
      have HF := Lib.hid (show nearI 16777216 e m = m by rw [nearI, if_neg (by omega), if_neg (by omega)])
      go_enter Try.func9, Try.ntmps9
      go_wp2_with fail
      go_ret2
      exact ⟨by rw [HE.out, HF.out]; rfl, rfl⟩
  · by_cases c3 : e + 8388608 < m
    · by_cases c4 : 16777216 ≤ m
      · have HF := Lib.hid (show nearI 16777216 e m = m - 16777216 by rw [nearI, if_neg (by omega), if_pos (by omega)])
        go_enter Try.func9, Try.ntmps9
        go_wp2_with fail
        go_ret2
        exact ⟨by rw [HE.out, HF.out]; rfl, rfl⟩
      · have HF := Lib.hid (show nearI 16777216 e m = m by rw [nearI, if_neg (by omega), if_neg (by omega)])
        go_enter Try.func9, Try.ntmps9
        go_wp2_with fail
        go_ret2
        exact ⟨by rw [HE.out, HF.out]; rfl, rfl⟩
    · have HF := Lib.hid (show nearI 16777216 e m = m by rw [nearI, if_neg (by omega), if_neg (by omega)])
      go_enter Try.func9, Try.ntmps9
      go_wp2_with fail
      go_ret2
      exact ⟨by rw [HE.out, HF.out]; rfl, rfl⟩
set_option maxHeartbeats 2000000 in
theorem refExpand_3 (e t : Int) (w : World) (e0 : 0 ≤ e) (he : e < 4611686018427387904) (t0 : 0 ≤ t) (ht : t < 16777216) : Calls Try.prog 11 #[.int .u64 e, .int .u64 t, .int .i64 3] w fun r w' => r = .returned (.int .u64 (expandI 16777216 e t)) ∧ w = w' := by
  obtain ⟨m, hm⟩ : ∃ m, e - e % 16777216 + t = m := ⟨_, rfl⟩
  have hm0 : 0 ≤ m := by omega
  have hm1 : m < 4611686018427387904 := by omega
  have HE := Lib.hid (show expandI 16777216 e t = nearI 16777216 e m by rw [expandI_near, hm])
  have hmod : e % 16777216 ≤ e := by omega
  by_cases c1 : m + 8388608 ≤ e
  · by_cases c2 : m < 4611686018410610688
    · have HF := Lib.hid (show nearI 16777216 e m = m + 16777216 by rw [nearI, if_pos (by omega)])
      go_enter Try.func11, Try.ntmps11
      go_wp2_with fail
      refine (power_24 _).mono ?_
      rintro r w' ⟨rfl, rfl⟩
      go_wp2_with fail
      refine (power_62 _).mono ?_
      rintro r w' ⟨rfl, rfl⟩
      go_wp2_with fail
      go_ret
      exact ⟨ret_int (by rw [HE.out, HF.out]), rfl⟩
    · have c3 : ¬ e + 8388608 < m := by omega
      have HF := Lib.hid (show nearI 16777216 e m = m by rw [nearI, if_neg (by omega), if_neg (by omega)])
      go_enter Try.func11, Try.ntmps11
      go_wp2_with fail
      refine (power_24 _).mono ?_
      rintro r w' ⟨rfl, rfl⟩
      go_wp2_with fail
      refine (power_62 _).mono ?_
      rintro r w' ⟨rfl, rfl⟩
      go_wp2_with fail
      go_ret
      exact ⟨ret_int (by rw [HE.out, HF.out]), rfl⟩
  · by_cases c3 : e + 8388608 < m
    · by_cases c4 : 16777216 ≤ m
      · have HF := Lib.hid (show nearI 16777216 e m = m - 16777216 by rw [nearI, if_neg (by omega), if_pos (by omega)])
        go_enter Try.func11, Try.ntmps11
        go_wp2_with fail
        refine (power_24 _).mono ?_
        rintro r w' ⟨rfl, rfl⟩
        go_wp2_with fail
        go_ret
        exact ⟨ret_int (by rw [HE.out, HF.out]), rfl⟩
      · have HF := Lib.hid (show nearI 16777216 e m = m by rw [nearI, if_neg (by omega), if_neg (by omega)])
        go_enter Try.func11, Try.ntmps11
        go_wp2_with fail
        refine (power_24 _).mono ?_
        rintro r w' ⟨rfl, rfl⟩
        go_wp2_with fail
        go_ret
        exact ⟨ret_int (by rw [HE.out, HF.out]), rfl⟩
    · have HF := Lib.hid (show nearI 16777216 e m = m by rw [nearI, if_neg (by omega), if_neg (by omega)])
      go_enter Try.func11, Try.ntmps11
      go_wp2_with fail
      refine (power_24 _).mono ?_
      rintro r w' ⟨rfl, rfl⟩
      go_wp2_with fail
      go_ret
      exact ⟨ret_int (by rw [HE.out, HF.out]), rfl⟩

theorem expand_told4 (e t : Int) (w : World) (he : e < 4611686018427387904) (ht : 4294967296 ≤ t) : Calls Try.prog 9 #[.int .u64 e, .int .u64 t, .int .i64 4] w fun r w' => r = .returned (.tuple #[.int .u64 0, .int .i64 1]) ∧ w = w' := by
  go_enter Try.func9, Try.ntmps9
  go_wp2_with fail
  go_ret2
  exact ⟨rfl, rfl⟩
set_option maxHeartbeats 2000000 in
theorem expand_4 (e t : Int) (w : World) (e0 : 0 ≤ e) (he : e < 4611686018427387904) (t0 : 0 ≤ t) (ht : t < 4294967296) : Calls Try.prog 9 #[.int .u64 e, .int .u64 t, .int .i64 4] w fun r w' => r = .returned (.tuple #[.int .u64 (expandI 4294967296 e t), .int .i64 0]) ∧ w = w' := by
  have hA : bits .andNot .u64 e 4294967295 = e - e % 4294967296 := andNot_mask e 32 4294967295 (by decide) (by decide) e0 (by omega)
  have hO : bits .or .u64 (e - e % 4294967296) t = e - e % 4294967296 + t := or_low e t 32 4294967296 (by decide) (by decide) e0 (by omega) t0 ht
  obtain ⟨m, hm⟩ : ∃ m, e - e % 4294967296 + t = m := ⟨_, rfl⟩
  have hm0 : 0 ≤ m := by omega
  have hm1 : m < 4611686018427387904 := by omega
  rw [hm] at hO
  have HE := Lib.hid (show expandI 4294967296 e t = nearI 4294967296 e m by rw [expandI_near, hm])
  clear hm
  by_cases c1 : m + 2147483648 ≤ e
  · by_cases c2 : m < 4611686014132420608
    · have HF := Lib.hid (show nearI 4294967296 e m = m + 4294967296 by rw [nearI, if_pos (by omega)])
      go_enter Try.func9, Try.ntmps9
      go_wp2_with fail
      go_ret2
      exact ⟨by rw [HE.out, HF.out]; rfl, rfl⟩
    · have c3 : ¬ e + 2147483648 < m := by omega
      have HF := Lib.hid (show nearI 4294967296 e m = m by rw [nearI, if_neg (by omega), if_neg (by omega)])
      go_enter Try.func9, Try.ntmps9
      go_wp2_with fail
      go_ret2
      exact ⟨by rw [HE.out, HF.out]; rfl, rfl⟩
  · by_cases c3 : e + 2147483648 < m
    · by_cases c4 : 4294967296 ≤ m
      · have HF := Lib.hid (show nearI 4294967296 e m = m - 4294967296 by rw [nearI, if_neg (by omega), if_pos (by omega)])
        go_enter Try.func9, Try.ntmps9
        go_wp2_with fail
        go_ret2
        exact ⟨by rw [HE.out, HF.out]; rfl, rfl⟩
      · have HF := Lib.hid (show nearI 4294967296 e m = m by rw [nearI, if_neg (by omega), if_neg (by omega)])
        go_enter Try.func9, Try.ntmps9
        go_wp2_with fail
        go_ret2
        exact ⟨by rw [HE.out, HF.out]; rfl, rfl⟩
    · have HF := Lib.hid (show nearI 4294967296 e m = m by rw [nearI, if_neg (by omega), if_neg (by omega)])
      go_enter Try.func9, Try.ntmps9
      go_wp2_with fail
      go_ret2
      exact ⟨by rw [HE.out, HF.out]; rfl, rfl⟩
set_option maxHeartbeats 2000000 in
theorem refExpand_4 (e t : Int) (w : World) (e0 : 0 ≤ e) (he : e < 4611686018427387904) (t0 : 0 ≤ t) (ht : t < 4294967296) : Calls Try.prog 11 #[.int .u64 e, .int .u64 t, .int .i64 4] w fun r w' => r = .returned (.int .u64 (expandI 4294967296 e t)) ∧ w = w' := by
  obtain ⟨m, hm⟩ : ∃ m, e - e % 4294967296 + t = m := ⟨_, rfl⟩
  have hm0 : 0 ≤ m := by omega
  have hm1 : m < 4611686018427387904 := by omega
  have HE := Lib.hid (show expandI 4294967296 e t = nearI 4294967296 e m by rw [expandI_near, hm])
  have hmod : e % 4294967296 ≤ e := by omega
  by_cases c1 : m + 2147483648 ≤ e
  · by_cases c2 : m < 4611686014132420608
    · have HF := Lib.hid (show nearI 4294967296 e m = m + 4294967296 by rw [nearI, if_pos (by omega)])
      go_enter Try.func11, Try.ntmps11
      go_wp2_with fail
      refine (power_32 _).mono ?_
      rintro r w' ⟨rfl, rfl⟩
      go_wp2_with fail
      refine (power_62 _).mono ?_
      rintro r w' ⟨rfl, rfl⟩
      go_wp2_with fail
      go_ret
      exact ⟨ret_int (by rw [HE.out, HF.out]), rfl⟩
    · have c3 : ¬ e + 2147483648 < m := by omega
      have HF := Lib.hid (show nearI 4294967296 e m = m by rw [nearI, if_neg (by omega), if_neg (by omega)])
      go_enter Try.func11, Try.ntmps11
      go_wp2_with fail
      refine (power_32 _).mono ?_
      rintro r w' ⟨rfl, rfl⟩
      go_wp2_with fail
      refine (power_62 _).mono ?_
      rintro r w' ⟨rfl, rfl⟩
      go_wp2_with fail
      go_ret
      exact ⟨ret_int (by rw [HE.out, HF.out]), rfl⟩
  · by_cases c3 : e + 2147483648 < m
    · by_cases c4 : 4294967296 ≤ m
      · have HF := Lib.hid (show nearI 4294967296 e m = m - 4294967296 by rw [nearI, if_neg (by omega), if_pos (by omega)])
        go_enter Try.func11, Try.ntmps11
        go_wp2_with fail
        refine (power_32 _).mono ?_
        rintro r w' ⟨rfl, rfl⟩
        go_wp2_with fail
        go_ret
        exact ⟨ret_int (by rw [HE.out, HF.out]), rfl⟩
      · have HF := Lib.hid (show nearI 4294967296 e m = m by rw [nearI, if_neg (by omega), if_neg (by omega)])
        go_enter Try.func11, Try.ntmps11
        go_wp2_with fail
        refine (power_32 _).mono ?_
        rintro r w' ⟨rfl, rfl⟩
        go_wp2_with fail
        go_ret
        exact ⟨ret_int (by rw [HE.out, HF.out]), rfl⟩
    · have HF := Lib.hid (show nearI 4294967296 e m = m by rw [nearI, if_neg (by omega), if_neg (by omega)])
      go_enter Try.func11, Try.ntmps11
      go_wp2_with fail
      refine (power_32 _).mono ?_
      rintro r w' ⟨rfl, rfl⟩
      go_wp2_with fail
      go_ret
      exact ⟨ret_int (by rw [HE.out, HF.out]), rfl⟩

theorem awake_any (w : World) : Calls Try.prog 10 #[] w fun e w' => e = .returned (.bool true) ∧ w = w' := by
  go_enter Try.func10, Try.ntmps10
  go_wp2_with fail
  refine (expand_2 _ _ _ (by decide) (by decide) (by decide) (by decide)).mono ?_
  rintro r w' ⟨rfl, rfl⟩
  rw [show expandI 65536 2821665003 39730 = 2821692210 by decide]
  go_wp2_with fail
  go_ret
  exact ⟨rfl, rfl⟩
end Go.Proofs.Ytpclmedpnoalhaa
