/- The law PolicyNames, walked. -/
import Derived.Test.YtpakfepjfcpjkaaA
namespace Go.Proofs.Ytpakfepjfcpjkaa
open Go.RowKit
set_option linter.unusedVariables false
/-- What the reference's Name and the program's Name, and Right, tell of a way. -/
structure WayIs (way : Int) (b : Bool) (s : ByteArray) : Prop where
  right : ∀ w, Calls Try.prog 8 #[.int .i64 way] w fun e w' => e = .returned (.bool b) ∧ w = w'
  name : ∀ w, Calls Try.prog 9 #[.int .i64 way] w fun e w' => e = .returned (.string s) ∧ w = w'
  refName : ∀ w, Calls Try.prog 7 #[.int .i64 way] w fun e w' => e = .returned (.string s) ∧ Below w.heap.size w w'
  is : (b = false ∧ way < 1) ∨ (b = false ∧ 1 ≤ way ∧ decide (way ≤ 4) = false) ∨ (b = true ∧ 1 ≤ way ∧ decide (way ≤ 4) = true)
theorem way_is (way : Int) : ∃ b s, WayIs way b s := by
  by_cases h : way < 1 ∨ 4 < way
  · exact ⟨false, ⟨#[]⟩, fun w => right_no way w h, fun w => name_no way w h, fun w => refName_no way w h, by simp; omega⟩
  · have h' : way = 1 ∨ way = 2 ∨ way = 3 ∨ way = 4 := by omega
    rcases h' with rfl | rfl | rfl | rfl
    · exact ⟨true, nm1, fun w => right_yes 1 w (by omega) (by omega), name_1, refName_1, .inr (.inr ⟨rfl, by omega, by decide⟩)⟩
    · exact ⟨true, nm2, fun w => right_yes 2 w (by omega) (by omega), name_2, refName_2, .inr (.inr ⟨rfl, by omega, by decide⟩)⟩
    · exact ⟨true, nm3, fun w => right_yes 3 w (by omega) (by omega), name_3, refName_3, .inr (.inr ⟨rfl, by omega, by decide⟩)⟩
    · exact ⟨true, nm4, fun w => right_yes 4 w (by omega) (by omega), name_4, refName_4, .inr (.inr ⟨rfl, by omega, by decide⟩)⟩
theorem names_long (way : Int) (s : ByteArray) (w : World) (h : 50 < s.size) (hs : s.size ≤ 9223372036854775807) : Calls Try.prog 3 #[.int .i64 way, .string s] w fun e w' => e = .returned (.bool true) ∧ Below w.heap.size w w' := by
  go_enter Try.func3, Try.ntmps3
  go_wp2_with fail
  refine (awake_any w).mono ?_
  rintro e w1 ⟨rfl, hb1⟩
  have HB1 := Lib.hid hb1
  clear hb1
  go_wp2_with fail
  go_ret
  exact ⟨rfl, HB1.out⟩
set_option maxRecDepth 100000 in
set_option maxHeartbeats 1000000 in
theorem names_0 (way : Int) (s : ByteArray) (w : World) (h : s.size ≤ 50) (e1 : (nm1.toList == s.toList) = false) (e2 : (nm2.toList == s.toList) = false) (e3 : (nm3.toList == s.toList) = false) (e4 : (nm4.toList == s.toList) = false) : Calls Try.prog 3 #[.int .i64 way, .string s] w fun e w' => e = .returned (.bool true) ∧ Below w.heap.size w w' := by
  obtain ⟨b, n, hway⟩ := way_is way
  have HWAY := Lib.hid hway
  have HOF := Lib.hid (fun u => of_0 s u e1 e2 e3 e4)
  rcases hway.is with ⟨rfl, h1⟩ | ⟨rfl, h1, h2⟩ | ⟨rfl, h1, h2⟩
  all_goals
    clear hway
    go_enter Try.func3, Try.ntmps3
    go_wp2_with fail
    refine wp_loop_rounds 5 ?_; rw [rounds_succ]
    go_wp2_with fail
    refine (refName_1 _).mono ?_
    rintro e w1 ⟨rfl, hb1⟩
    have hs1 := hb1.size
    have HB1 := Lib.hid hb1
    clear hb1
    go_wp2_with fail
    rw [rounds_succ]
    go_wp2_with fail
    refine (refName_2 _).mono ?_
    rintro e w2 ⟨rfl, hb2⟩
    have hs2 := hb2.size
    have HB2 := Lib.hid (HB1.out.trans (hb2.mono (by omega)))
    clear hb2
    go_wp2_with fail
    rw [rounds_succ]
    go_wp2_with fail
    refine (refName_3 _).mono ?_
    rintro e w3 ⟨rfl, hb3⟩
    have hs3 := hb3.size
    have HB3 := Lib.hid (HB2.out.trans (hb3.mono (by omega)))
    clear hb3
    go_wp2_with fail
    rw [rounds_succ]
    go_wp2_with fail
    refine (refName_4 _).mono ?_
    rintro e w4 ⟨rfl, hb4⟩
    have hs4 := hb4.size
    have HB4 := Lib.hid (HB3.out.trans (hb4.mono (by omega)))
    clear hb4
    go_wp2_with fail
    rw [rounds_succ]
    go_wp2_with fail
    refine (HWAY.out.right _).mono ?_
    rintro e w5 ⟨rfl, rfl⟩
    go_wp2_with fail
    refine (HWAY.out.name _).mono ?_
    rintro e w5 ⟨rfl, rfl⟩
    go_wp2_with fail
    refine (HWAY.out.refName _).mono ?_
    rintro e w5 ⟨rfl, hb5⟩
    have hs5 := hb5.size
    have HB5 := Lib.hid (HB4.out.trans (hb5.mono (by omega)))
    clear hb5
    go_wp2_with fail
    refine (HOF.out _).mono ?_
    rintro e w6 ⟨rfl, rfl⟩
    go_wp2_with fail
    refine (awake_any _).mono ?_
    rintro e w6 ⟨rfl, hb6⟩
    have HB6 := Lib.hid (HB5.out.trans (hb6.mono (by omega)))
    clear hb6
    go_wp2_with fail
    go_ret
    exact ⟨rfl, HB6.out⟩
set_option maxRecDepth 100000 in
set_option maxHeartbeats 1000000 in
theorem names_1 (way : Int) (s : ByteArray) (w : World) (h : s.size ≤ 50) (e1 : (nm1.toList == s.toList) = true) (e2 : (nm2.toList == s.toList) = false) (e3 : (nm3.toList == s.toList) = false) (e4 : (nm4.toList == s.toList) = false) : Calls Try.prog 3 #[.int .i64 way, .string s] w fun e w' => e = .returned (.bool true) ∧ Below w.heap.size w w' := by
  obtain ⟨b, n, hway⟩ := way_is way
  have HWAY := Lib.hid hway
  have HOF := Lib.hid (fun u => of_1 s u e1 e2 e3 e4)
  rcases hway.is with ⟨rfl, h1⟩ | ⟨rfl, h1, h2⟩ | ⟨rfl, h1, h2⟩
  all_goals
    clear hway
    go_enter Try.func3, Try.ntmps3
    go_wp2_with fail
    refine wp_loop_rounds 5 ?_; rw [rounds_succ]
    go_wp2_with fail
    refine (refName_1 _).mono ?_
    rintro e w1 ⟨rfl, hb1⟩
    have hs1 := hb1.size
    have HB1 := Lib.hid hb1
    clear hb1
    go_wp2_with fail
    rw [rounds_succ]
    go_wp2_with fail
    refine (refName_2 _).mono ?_
    rintro e w2 ⟨rfl, hb2⟩
    have hs2 := hb2.size
    have HB2 := Lib.hid (HB1.out.trans (hb2.mono (by omega)))
    clear hb2
    go_wp2_with fail
    rw [rounds_succ]
    go_wp2_with fail
    refine (refName_3 _).mono ?_
    rintro e w3 ⟨rfl, hb3⟩
    have hs3 := hb3.size
    have HB3 := Lib.hid (HB2.out.trans (hb3.mono (by omega)))
    clear hb3
    go_wp2_with fail
    rw [rounds_succ]
    go_wp2_with fail
    refine (refName_4 _).mono ?_
    rintro e w4 ⟨rfl, hb4⟩
    have hs4 := hb4.size
    have HB4 := Lib.hid (HB3.out.trans (hb4.mono (by omega)))
    clear hb4
    go_wp2_with fail
    rw [rounds_succ]
    go_wp2_with fail
    refine (HWAY.out.right _).mono ?_
    rintro e w5 ⟨rfl, rfl⟩
    go_wp2_with fail
    refine (HWAY.out.name _).mono ?_
    rintro e w5 ⟨rfl, rfl⟩
    go_wp2_with fail
    refine (HWAY.out.refName _).mono ?_
    rintro e w5 ⟨rfl, hb5⟩
    have hs5 := hb5.size
    have HB5 := Lib.hid (HB4.out.trans (hb5.mono (by omega)))
    clear hb5
    go_wp2_with fail
    refine (HOF.out _).mono ?_
    rintro e w6 ⟨rfl, rfl⟩
    go_wp2_with fail
    refine (awake_any _).mono ?_
    rintro e w6 ⟨rfl, hb6⟩
    have HB6 := Lib.hid (HB5.out.trans (hb6.mono (by omega)))
    clear hb6
    go_wp2_with fail
    go_ret
    exact ⟨rfl, HB6.out⟩
set_option maxRecDepth 100000 in
set_option maxHeartbeats 1000000 in
theorem names_2 (way : Int) (s : ByteArray) (w : World) (h : s.size ≤ 50) (e1 : (nm1.toList == s.toList) = false) (e2 : (nm2.toList == s.toList) = true) (e3 : (nm3.toList == s.toList) = false) (e4 : (nm4.toList == s.toList) = false) : Calls Try.prog 3 #[.int .i64 way, .string s] w fun e w' => e = .returned (.bool true) ∧ Below w.heap.size w w' := by
  obtain ⟨b, n, hway⟩ := way_is way
  have HWAY := Lib.hid hway
  have HOF := Lib.hid (fun u => of_2 s u e1 e2 e3 e4)
  rcases hway.is with ⟨rfl, h1⟩ | ⟨rfl, h1, h2⟩ | ⟨rfl, h1, h2⟩
  all_goals
    clear hway
    go_enter Try.func3, Try.ntmps3
    go_wp2_with fail
    refine wp_loop_rounds 5 ?_; rw [rounds_succ]
    go_wp2_with fail
    refine (refName_1 _).mono ?_
    rintro e w1 ⟨rfl, hb1⟩
    have hs1 := hb1.size
    have HB1 := Lib.hid hb1
    clear hb1
    go_wp2_with fail
    rw [rounds_succ]
    go_wp2_with fail
    refine (refName_2 _).mono ?_
    rintro e w2 ⟨rfl, hb2⟩
    have hs2 := hb2.size
    have HB2 := Lib.hid (HB1.out.trans (hb2.mono (by omega)))
    clear hb2
    go_wp2_with fail
    rw [rounds_succ]
    go_wp2_with fail
    refine (refName_3 _).mono ?_
    rintro e w3 ⟨rfl, hb3⟩
    have hs3 := hb3.size
    have HB3 := Lib.hid (HB2.out.trans (hb3.mono (by omega)))
    clear hb3
    go_wp2_with fail
    rw [rounds_succ]
    go_wp2_with fail
    refine (refName_4 _).mono ?_
    rintro e w4 ⟨rfl, hb4⟩
    have hs4 := hb4.size
    have HB4 := Lib.hid (HB3.out.trans (hb4.mono (by omega)))
    clear hb4
    go_wp2_with fail
    rw [rounds_succ]
    go_wp2_with fail
    refine (HWAY.out.right _).mono ?_
    rintro e w5 ⟨rfl, rfl⟩
    go_wp2_with fail
    refine (HWAY.out.name _).mono ?_
    rintro e w5 ⟨rfl, rfl⟩
    go_wp2_with fail
    refine (HWAY.out.refName _).mono ?_
    rintro e w5 ⟨rfl, hb5⟩
    have hs5 := hb5.size
    have HB5 := Lib.hid (HB4.out.trans (hb5.mono (by omega)))
    clear hb5
    go_wp2_with fail
    refine (HOF.out _).mono ?_
    rintro e w6 ⟨rfl, rfl⟩
    go_wp2_with fail
    refine (awake_any _).mono ?_
    rintro e w6 ⟨rfl, hb6⟩
    have HB6 := Lib.hid (HB5.out.trans (hb6.mono (by omega)))
    clear hb6
    go_wp2_with fail
    go_ret
    exact ⟨rfl, HB6.out⟩
set_option maxRecDepth 100000 in
set_option maxHeartbeats 1000000 in
theorem names_3 (way : Int) (s : ByteArray) (w : World) (h : s.size ≤ 50) (e1 : (nm1.toList == s.toList) = false) (e2 : (nm2.toList == s.toList) = false) (e3 : (nm3.toList == s.toList) = true) (e4 : (nm4.toList == s.toList) = false) : Calls Try.prog 3 #[.int .i64 way, .string s] w fun e w' => e = .returned (.bool true) ∧ Below w.heap.size w w' := by
  obtain ⟨b, n, hway⟩ := way_is way
  have HWAY := Lib.hid hway
  have HOF := Lib.hid (fun u => of_3 s u e1 e2 e3 e4)
  rcases hway.is with ⟨rfl, h1⟩ | ⟨rfl, h1, h2⟩ | ⟨rfl, h1, h2⟩
  all_goals
    clear hway
    go_enter Try.func3, Try.ntmps3
    go_wp2_with fail
    refine wp_loop_rounds 5 ?_; rw [rounds_succ]
    go_wp2_with fail
    refine (refName_1 _).mono ?_
    rintro e w1 ⟨rfl, hb1⟩
    have hs1 := hb1.size
    have HB1 := Lib.hid hb1
    clear hb1
    go_wp2_with fail
    rw [rounds_succ]
    go_wp2_with fail
    refine (refName_2 _).mono ?_
    rintro e w2 ⟨rfl, hb2⟩
    have hs2 := hb2.size
    have HB2 := Lib.hid (HB1.out.trans (hb2.mono (by omega)))
    clear hb2
    go_wp2_with fail
    rw [rounds_succ]
    go_wp2_with fail
    refine (refName_3 _).mono ?_
    rintro e w3 ⟨rfl, hb3⟩
    have hs3 := hb3.size
    have HB3 := Lib.hid (HB2.out.trans (hb3.mono (by omega)))
    clear hb3
    go_wp2_with fail
    rw [rounds_succ]
    go_wp2_with fail
    refine (refName_4 _).mono ?_
    rintro e w4 ⟨rfl, hb4⟩
    have hs4 := hb4.size
    have HB4 := Lib.hid (HB3.out.trans (hb4.mono (by omega)))
    clear hb4
    go_wp2_with fail
    rw [rounds_succ]
    go_wp2_with fail
    refine (HWAY.out.right _).mono ?_
    rintro e w5 ⟨rfl, rfl⟩
    go_wp2_with fail
    refine (HWAY.out.name _).mono ?_
    rintro e w5 ⟨rfl, rfl⟩
    go_wp2_with fail
    refine (HWAY.out.refName _).mono ?_
    rintro e w5 ⟨rfl, hb5⟩
    have hs5 := hb5.size
    have HB5 := Lib.hid (HB4.out.trans (hb5.mono (by omega)))
    clear hb5
    go_wp2_with fail
    refine (HOF.out _).mono ?_
    rintro e w6 ⟨rfl, rfl⟩
    go_wp2_with fail
    refine (awake_any _).mono ?_
    rintro e w6 ⟨rfl, hb6⟩
    have HB6 := Lib.hid (HB5.out.trans (hb6.mono (by omega)))
    clear hb6
    go_wp2_with fail
    go_ret
    exact ⟨rfl, HB6.out⟩
set_option maxRecDepth 100000 in
set_option maxHeartbeats 1000000 in
theorem names_4 (way : Int) (s : ByteArray) (w : World) (h : s.size ≤ 50) (e1 : (nm1.toList == s.toList) = false) (e2 : (nm2.toList == s.toList) = false) (e3 : (nm3.toList == s.toList) = false) (e4 : (nm4.toList == s.toList) = true) : Calls Try.prog 3 #[.int .i64 way, .string s] w fun e w' => e = .returned (.bool true) ∧ Below w.heap.size w w' := by
  obtain ⟨b, n, hway⟩ := way_is way
  have HWAY := Lib.hid hway
  have HOF := Lib.hid (fun u => of_4 s u e1 e2 e3 e4)
  rcases hway.is with ⟨rfl, h1⟩ | ⟨rfl, h1, h2⟩ | ⟨rfl, h1, h2⟩
  all_goals
    clear hway
    go_enter Try.func3, Try.ntmps3
    go_wp2_with fail
    refine wp_loop_rounds 5 ?_; rw [rounds_succ]
    go_wp2_with fail
    refine (refName_1 _).mono ?_
    rintro e w1 ⟨rfl, hb1⟩
    have hs1 := hb1.size
    have HB1 := Lib.hid hb1
    clear hb1
    go_wp2_with fail
    rw [rounds_succ]
    go_wp2_with fail
    refine (refName_2 _).mono ?_
    rintro e w2 ⟨rfl, hb2⟩
    have hs2 := hb2.size
    have HB2 := Lib.hid (HB1.out.trans (hb2.mono (by omega)))
    clear hb2
    go_wp2_with fail
    rw [rounds_succ]
    go_wp2_with fail
    refine (refName_3 _).mono ?_
    rintro e w3 ⟨rfl, hb3⟩
    have hs3 := hb3.size
    have HB3 := Lib.hid (HB2.out.trans (hb3.mono (by omega)))
    clear hb3
    go_wp2_with fail
    rw [rounds_succ]
    go_wp2_with fail
    refine (refName_4 _).mono ?_
    rintro e w4 ⟨rfl, hb4⟩
    have hs4 := hb4.size
    have HB4 := Lib.hid (HB3.out.trans (hb4.mono (by omega)))
    clear hb4
    go_wp2_with fail
    rw [rounds_succ]
    go_wp2_with fail
    refine (HWAY.out.right _).mono ?_
    rintro e w5 ⟨rfl, rfl⟩
    go_wp2_with fail
    refine (HWAY.out.name _).mono ?_
    rintro e w5 ⟨rfl, rfl⟩
    go_wp2_with fail
    refine (HWAY.out.refName _).mono ?_
    rintro e w5 ⟨rfl, hb5⟩
    have hs5 := hb5.size
    have HB5 := Lib.hid (HB4.out.trans (hb5.mono (by omega)))
    clear hb5
    go_wp2_with fail
    refine (HOF.out _).mono ?_
    rintro e w6 ⟨rfl, rfl⟩
    go_wp2_with fail
    refine (awake_any _).mono ?_
    rintro e w6 ⟨rfl, hb6⟩
    have HB6 := Lib.hid (HB5.out.trans (hb6.mono (by omega)))
    clear hb6
    go_wp2_with fail
    go_ret
    exact ⟨rfl, HB6.out⟩
theorem names_l (way : Int) (s : ByteArray) (w : World) (hs : s.size ≤ 9223372036854775807) : Calls Try.prog 3 #[.int .i64 way, .string s] w fun e w' => e = .returned (.bool true) ∧ Below w.heap.size w w' := by
  rcases Nat.lt_or_ge 50 s.size with h | h
  · exact names_long way s w h hs
  · have ne : ∀ a b : ByteArray, (a.toList == s.toList) = true → (b.toList == a.toList) = false → (b.toList == s.toList) = false := by
      intro a b h1 h2
      rw [beq_iff_eq] at h1
      rw [← h1]; exact h2
    by_cases e1 : (nm1.toList == s.toList) = true
    · exact names_1 way s w h e1 (ne _ _ e1 (by decide +kernel)) (ne _ _ e1 (by decide +kernel)) (ne _ _ e1 (by decide +kernel))
    · have f1 : (nm1.toList == s.toList) = false := by simpa using e1
      by_cases e2 : (nm2.toList == s.toList) = true
      · exact names_2 way s w h f1 e2 (ne _ _ e2 (by decide +kernel)) (ne _ _ e2 (by decide +kernel))
      · have f2 : (nm2.toList == s.toList) = false := by simpa using e2
        by_cases e3 : (nm3.toList == s.toList) = true
        · exact names_3 way s w h f1 f2 e3 (ne _ _ e3 (by decide +kernel))
        · have f3 : (nm3.toList == s.toList) = false := by simpa using e3
          by_cases e4 : (nm4.toList == s.toList) = true
          · exact names_4 way s w h f1 f2 f3 e4
          · exact names_0 way s w h f1 f2 f3 (by simpa using e4)
end Go.Proofs.Ytpakfepjfcpjkaa
