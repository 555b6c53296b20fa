/- The law's awake: two prefixes set, one address looked up. -/
import Derived.Test.YtchgbdghllkcpaaG
namespace Go.Proofs.Ytchgbdghllkcpaa
open Go.RowKit
set_option linter.unusedVariables false
theorem v4_a (w : World) : Calls Try.prog 27 #[.int .u8 10, .int .u8 0, .int .u8 0, .int .u8 0] w fun e w' => e = .returned (.agg #[.bool false, .int .u64 0, .int .u64 167772160]) ∧ Below w.heap.size w w' :=
  v4_any 10 0 0 0 w (by decide) (by decide) (by decide) (by decide)
theorem v4_b (w : World) : Calls Try.prog 27 #[.int .u8 10, .int .u8 1, .int .u8 0, .int .u8 0] w fun e w' => e = .returned (.agg #[.bool false, .int .u64 0, .int .u64 167837696]) ∧ Below w.heap.size w w' :=
  v4_any 10 1 0 0 w (by decide) (by decide) (by decide) (by decide)
theorem v4_c (w : World) : Calls Try.prog 27 #[.int .u8 10, .int .u8 1, .int .u8 2, .int .u8 3] w fun e w' => e = .returned (.agg #[.bool false, .int .u64 0, .int .u64 167838211]) ∧ Below w.heap.size w w' :=
  v4_any 10 1 2 3 w (by decide) (by decide) (by decide) (by decide)
instance (a : Ad) : Decidable a.wf := inferInstanceAs (Decidable (_ ∧ _))
theorem set_a (tb base : Nat) (M : Bool → Path → Option Int) (sz : Int) (w : World) (hT : TabS tb base M sz w) (hb : base ≤ w.heap.size) (hs0 : 0 ≤ sz) (hs1 : sz ≤ 1000000) :
    Calls Try.prog 26 #[.pointer (some ⟨tb, 0, none⟩), .agg #[.bool false, .int .u64 0, .int .u64 167772160, .int .i64 8], .int .i64 1] w (SetP tb base M false (Ad.path ⟨false, 0, 167772160⟩ 8) 1 sz w) :=
  set_yes tb base M sz ⟨false, 0, 167772160⟩ 8 1 w (by decide +kernel) (by decide +kernel) (by decide +kernel) hT hb hs0 hs1
theorem set_b (tb base : Nat) (M : Bool → Path → Option Int) (sz : Int) (w : World) (hT : TabS tb base M sz w) (hb : base ≤ w.heap.size) (hs0 : 0 ≤ sz) (hs1 : sz ≤ 1000000) :
    Calls Try.prog 26 #[.pointer (some ⟨tb, 0, none⟩), .agg #[.bool false, .int .u64 0, .int .u64 167837696, .int .i64 16], .int .i64 2] w (SetP tb base M false (Ad.path ⟨false, 0, 167837696⟩ 16) 2 sz w) :=
  set_yes tb base M sz ⟨false, 0, 167837696⟩ 16 2 w (by decide +kernel) (by decide +kernel) (by decide +kernel) hT hb hs0 hs1
theorem find_c (tb base : Nat) (M : Bool → Path → Option Int) (sz : Int) (w : World) (hT : TabS tb base M sz w) :
    Calls Try.prog 15 #[.pointer (some ⟨tb, 0, none⟩), .agg #[.bool false, .int .u64 0, .int .u64 167838211]] w (FindP (fun k => M false (Ad.path ⟨false, 0, 167838211⟩ k)) ⟨false, 0, 167838211⟩ w) :=
  find_yes tb base M sz ⟨false, 0, 167838211⟩ w (by decide +kernel) (by decide +kernel) hT
def AwkM : Bool → Path → Option Int := upd (upd (fun _ _ => none) false (Ad.path ⟨false, 0, 167772160⟩ 8) (some 1)) false (Ad.path ⟨false, 0, 167837696⟩ 16) (some 2)
theorem awk_16 : AwkM false (Ad.path ⟨false, 0, 167838211⟩ 16) = some 2 := by
  unfold AwkM
  rw [show Ad.path ⟨false, 0, 167838211⟩ 16 = Ad.path ⟨false, 0, 167837696⟩ 16 by decide +kernel, upd_self]
theorem awk_long (k : Nat) (h : 16 < k) : AwkM false (Ad.path ⟨false, 0, 167838211⟩ k) = none := by
  unfold AwkM
  rw [upd_ne _ _ (fun e => by have := (Ad.path_eq e.2).1; omega), upd_ne _ _ (fun e => by have := (Ad.path_eq e.2).1; omega)]
theorem awk_best {sz val : Int} {fd : Bool} (h : Best (fun k => AwkM false (Ad.path ⟨false, 0, 167838211⟩ k)) 33 sz val fd) : sz = 16 ∧ val = 2 ∧ fd = true := by
  rcases h with ⟨h1, h2, h3, h4⟩ | ⟨h1, j, h2, h3, h4, h5⟩
  · have := (h4 16 (by omega)).symm.trans awk_16
    cases this
  · have hj : j = 16 := by
      rcases Nat.lt_trichotomy j 16 with h | h | h
      · have := (h5 16 h (by omega)).symm.trans awk_16
        cases this
      · exact h
      · have := h4.symm.trans (awk_long j h)
        cases this
    subst hj
    exact ⟨h3, Option.some.inj (h4.symm.trans awk_16), h1⟩
set_option maxHeartbeats 4000000 in
theorem awake_any (w : World) : Calls Try.prog 13 #[] w fun e w' => e = .returned (.bool true) ∧ Below w.heap.size w w' := by
  go_enter Try.func13, Try.ntmps13
  go_wp2_with fail
  obtain ⟨w1, hw1⟩ : ∃ w1 : World, w1 = w.alloc (.cells #[.int .i64 0, .pointer none, .pointer none, .bool false, .int .i64 0, .pointer none, .pointer none, .bool false, .int .i64 0] 62) := ⟨_, rfl⟩
  have HT1 := Lib.hid (show TabS w.heap.size w.heap.size (fun _ _ => none) 0 w1 by rw [hw1]; exact TabS.empty w _ (Nat.le_refl _))
  have HB1 := Lib.hid (show Below w.heap.size w w1 by rw [hw1]; exact bel1)
  rw [← hw1]
  clear hw1
  obtain ⟨tb, htb⟩ : ∃ tb, w.heap.size = tb := ⟨_, rfl⟩
  rw [htb] at HT1 HB1 ⊢
  have hs1 : tb ≤ w1.heap.size := by have := HB1.out.size; omega
  have HTB := Lib.hid htb
  clear htb
  refine (v4_a _).mono ?_
  rintro e w2 ⟨rfl, hb2⟩
  have HT2 := Lib.hid (HT1.out.onB hb2)
  have HB2 := Lib.hid (HB1.out.trans (hb2.mono hs1))
  have hs2 : tb ≤ w2.heap.size := by have := hb2.size; omega
  clear hb2
  go_wp2_with fail
  refine (set_a tb tb _ 0 w2 HT2.out hs2 (by omega) (by omega)).mono ?_
  rintro e w3 ⟨rfl, hT3, hb3, -⟩
  have HT3 := Lib.hid (show TabS tb tb (upd (fun _ _ => none) false (Ad.path ⟨false, 0, 167772160⟩ 8) (some 1)) 1 w3 from hT3)
  have HB3 := Lib.hid (HB2.out.trans hb3)
  have hs3 : tb ≤ w3.heap.size := by have := hb3.size; omega
  clear hT3 hb3
  go_wp2_with fail
  refine (v4_b _).mono ?_
  rintro e w4 ⟨rfl, hb4⟩
  have HT4 := Lib.hid (HT3.out.onB hb4)
  have HB4 := Lib.hid (HB3.out.trans (hb4.mono hs3))
  have hs4 : tb ≤ w4.heap.size := by have := hb4.size; omega
  clear hb4
  go_wp2_with fail
  refine (set_b tb tb _ 1 w4 HT4.out hs4 (by omega) (by omega)).mono ?_
  rintro e w5 ⟨rfl, hT5, hb5, -⟩
  obtain ⟨sz5, hz5⟩ : ∃ z, (if ((upd (fun _ _ => none) false (Ad.path ⟨false, 0, 167772160⟩ 8) (some (1 : Int))) false (Ad.path ⟨false, 0, 167837696⟩ 16)).isSome then (1 : Int) else 1 + 1) = z := ⟨_, rfl⟩
  rw [hz5] at hT5
  have HT5 := Lib.hid (show TabS tb tb AwkM sz5 w5 from hT5)
  have HB5 := Lib.hid (HB4.out.trans hb5)
  have hs5 : tb ≤ w5.heap.size := by have := hb5.size; omega
  clear hT5 hb5 hz5
  go_wp2_with fail
  refine (v4_c _).mono ?_
  rintro e w6 ⟨rfl, hb6⟩
  have HT6 := Lib.hid (HT5.out.onB hb6)
  have HB6 := Lib.hid (HB5.out.trans (hb6.mono hs5))
  have hs6 : tb ≤ w6.heap.size := by have := hb6.size; omega
  clear hb6
  go_wp2_with fail
  refine (find_c tb tb _ sz5 w6 HT6.out).mono ?_
  rintro e w7 ⟨⟨sz, val, fd, hbest, rfl⟩, hb7⟩
  obtain ⟨rfl, rfl, rfl⟩ := awk_best hbest
  have HB7 := Lib.hid (HB6.out.trans (hb7.mono hs6))
  have hs7 : tb ≤ w7.heap.size := by have := hb7.size; omega
  clear hb7 hbest
  obtain ⟨c, hc⟩ : ∃ c, Ad.cut ⟨false, 0, 167838211⟩ 16 = c := ⟨_, rfl⟩
  rw [hc]
  clear hc
  simp only [if_true]
  go_wp2_with fail
  go_ret
  exact ⟨rfl, by rw [HTB.out]; exact HB7.out.alloc hs7 _⟩
end Go.Proofs.Ytchgbdghllkcpaa
