/- journal.first and Frame, walked. -/
import Derived.Test.YtnfolopodjdlbaaC
import Derived.Test.YtnfolopodjdlbaaOctPut
namespace Go.Proofs.Ytnfolopodjdlbaa
open Go.RowKit
set_option linter.unusedVariables false
def crcOf (l : List UInt8) : Nat := crc 4294967295 l ^^^ 4294967295
theorem crcOf_lt (l : List UInt8) : crcOf l < 4294967296 := Nat.xor_lt_two_pow (n := 32) (crc_lt (by decide) l) (by decide)
def szOf (b : List UInt8) : Nat := (num ((b.drop 8).take 2)).toNat
def firstOk (b : List UInt8) (n : Int) : Prop := 14 ≤ b.length ∧ num (b.take 8) = n ∧ szOf b ≤ 4096 ∧ szOf b + 14 ≤ b.length ∧ (crcOf (b.take 10 ++ (b.drop 14).take (szOf b)) : Int) = num ((b.drop 10).take 4)
def FirstPost (b : List UInt8) (n : Int) (w : World) (e : Ending) (w' : World) : Prop :=
  (firstOk b n ∧ ∃ v, e = .returned (.tuple #[v, .bool true]) ∧ Row w' w.heap.size 5 v (bcs ((b.drop 14).take (szOf b)))) ∨ (¬ firstOk b n ∧ e = .returned (.tuple #[.slice none 0 0, .bool false]))
theorem word_any (rb : Nat) (l : List UInt8) (w : World) (hl : l.length ≤ 1000000) (hk : 2 ≤ l.length) (hR : Rd w rb l) :
    Calls Try.prog 30 #[.pointer (some ⟨rb, 0, none⟩)] w fun e w' => e = .returned (.int .u16 (num (l.take 2))) ∧ Rd w' rb (l.drop 2) ∧ Kept (· = rb) w w' := by
  have H := Lib.hid (num_any rb 2 l w hl hk (by omega) hR)
  obtain ⟨n, hn⟩ : ∃ n, num (l.take 2) = n := ⟨_, rfl⟩
  have hr := num_range l 2 hk
  rw [hn] at H hr ⊢
  clear hR hn
  go_enter Try.func30, Try.ntmps30
  go_wp2_with fail
  refine H.out.mono ?_
  rintro e w1 ⟨rfl, h1, h2⟩
  have H1 := Lib.hid h1
  have H2 := Lib.hid h2
  clear h1 h2
  have n0 := hr.1
  have n1 : n ≤ 65535 := by have := hr.2; omega
  go_wp2_with fail
  go_ret
  exact ⟨rfl, H1.out, H2.out⟩
theorem long_any (rb : Nat) (l : List UInt8) (w : World) (hl : l.length ≤ 1000000) (hk : 4 ≤ l.length) (hR : Rd w rb l) :
    Calls Try.prog 31 #[.pointer (some ⟨rb, 0, none⟩)] w fun e w' => e = .returned (.int .u32 (num (l.take 4))) ∧ Rd w' rb (l.drop 4) ∧ Kept (· = rb) w w' := by
  have H := Lib.hid (num_any rb 4 l w hl hk (by omega) hR)
  obtain ⟨n, hn⟩ : ∃ n, num (l.take 4) = n := ⟨_, rfl⟩
  have hr := num_range l 4 hk
  rw [hn] at H hr ⊢
  clear hR hn
  go_enter Try.func31, Try.ntmps31
  go_wp2_with fail
  refine H.out.mono ?_
  rintro e w1 ⟨rfl, h1, h2⟩
  have H1 := Lib.hid h1
  have H2 := Lib.hid h2
  clear h1 h2
  have n0 := hr.1
  have n1 : n ≤ 4294967295 := by have := hr.2; omega
  go_wp2_with fail
  go_ret
  exact ⟨rfl, H1.out, H2.out⟩
set_option maxHeartbeats 4000000 in
theorem first_any (A : Option Addr) (c : Nat) (b : List UInt8) (n : Int) (w : World) (hl : b.length ≤ 1000000) (hc : b.length ≤ c) (hcm : c ≤ maxLen) (n0 : 0 ≤ n) (n1 : n < 18446744073709551616) (hB : BS w w.heap.size A b) :
    Calls Try.prog 16 #[.slice A b.length c, .int .u64 n] w fun e w' => FirstPost b n w e w' ∧ Below w.heap.size w w' := by
  have HB := Lib.hid hB
  unfold maxLen at hcm
  by_cases h14 : 14 ≤ b.length
  · obtain ⟨bb, o, hbb, rfl, hby⟩ := hB.at (k := 0) (by omega)
    have HBY := Lib.hid hby
    have i14 : ¬ (b.length : Int) < 14 := by omega
    have c14 : (14 : Int) ≤ (c : Int) := by omega
    have e14 : (b.take 14).length = 14 := by simp; omega
    have hz := read_any (some ⟨bb, o, none⟩) c (b.take 14) w (by rw [e14]; omega) (HB.out.take_ 14)
    rw [e14] at hz
    have HRD := Lib.hid hz
    have HE := Lib.hid e14
    clear hB hby hz e14
    go_enter Try.func16, Try.ntmps16
    go_wp2_with fail
    refine HRD.out.mono ?_
    rintro e w1 ⟨rb, rfl, hrb, hr1, hb1⟩
    have HR1 := Lib.hid hr1
    have HW1 := Lib.hid hb1
    have HRB := Lib.hid hrb
    clear hr1 hb1 hrb
    go_wp2_with fail
    refine (num_any rb 8 (b.take 14) w1 (by rw [HE.out]; omega) (by rw [HE.out]; omega) (by omega) HR1.out).mono ?_
    rintro e w2 ⟨rfl, hr2, hk2⟩
    have HR2 := Lib.hid hr2
    have HW2 := Lib.hid (show Below w.heap.size w w2 from HW1.out.trans (hk2.below HW1.out.size (fun i e => by have := HRB.out; omega)))
    have e8 : (b.take 14).take 8 = b.take 8 := by rw [List.take_take]; rfl
    rw [e8]
    clear hr2 hk2 e8
    have HN := Lib.hid (num_range b 8 (by omega))
    obtain ⟨m, hm⟩ : ∃ m, num (b.take 8) = m := ⟨_, rfl⟩
    rw [hm] at HN ⊢
    have HM := Lib.hid hm
    have m0 := HN.out.1
    have m1 : m < 18446744073709551616 := by have := HN.out.2; omega
    clear hm
    by_cases hmn : m = n
    · have HMN := Lib.hid hmn
      go_wp2_with fail
      refine (word_any rb ((b.take 14).drop 8) w2 (by simp; omega) (by simp; omega) HR2.out).mono ?_
      rintro e w3 ⟨rfl, hr3, hk3⟩
      have HR3 := Lib.hid hr3
      have HW3 := Lib.hid (show Below w.heap.size w w3 from HW2.out.trans (hk3.below HW2.out.size (fun i e => by have := HRB.out; omega)))
      have e2 : ((b.take 14).drop 8).take 2 = (b.drop 8).take 2 := by rw [List.drop_take, List.take_take]; rfl
      rw [e2]
      clear hr3 hk3 e2
      have hsr := num_range ((b.drop 8)) 2 (by simp; omega)
      obtain ⟨sz, hsz⟩ : ∃ sz : Nat, szOf b = sz := ⟨_, rfl⟩
      have hs1 : num ((b.drop 8).take 2) = (sz : Int) := by rw [← hsz]; unfold szOf; omega
      rw [hs1] at hsr ⊢
      have s1 : sz ≤ 65535 := by have := hsr.2; omega
      have HSZ := Lib.hid hsz
      clear hsr hs1 hsz
      go_wp2_with fail
      refine (long_any rb (((b.take 14).drop 8).drop 2) w3 (by simp; omega) (by simp; omega) HR3.out).mono ?_
      rintro e w4 ⟨rfl, hr4, hk4⟩
      have HW4 := Lib.hid (show Below w.heap.size w w4 from HW3.out.trans (hk4.below HW3.out.size (fun i e => by have := HRB.out; omega)))
      have e4 : (((b.take 14).drop 8).drop 2).take 4 = (b.drop 10).take 4 := by rw [List.drop_drop, List.drop_take, List.take_take]; rfl
      rw [e4]
      clear hr4 hk4 e4
      have hqr := num_range (b.drop 10) 4 (by simp; omega)
      obtain ⟨sm, hsm⟩ : ∃ sm, num ((b.drop 10).take 4) = sm := ⟨_, rfl⟩
      rw [hsm] at hqr ⊢
      have q0 := hqr.1
      have q1 : sm ≤ 4294967295 := by have := hqr.2; omega
      have HSM := Lib.hid hsm
      clear hqr hsm
      by_cases h4 : sz ≤ 4096
      · by_cases h5 : sz + 14 ≤ b.length
        · have i1 : ¬ (4096 : Int) < (sz : Int) := by omega
          have i2 : ¬ (b.length : Int) - 10 - 4 < (sz : Int) := by omega
          have cs : (14 : Int) + (sz : Int) ≤ (c : Int) := by omega
          go_wp2_with fail
          all_goals
            obtain ⟨X, hX⟩ : ∃ X, (b.drop 14).take sz = X := ⟨_, rfl⟩
            have hXl : X.length = sz := by rw [← hX]; simp; omega
            have HX := Lib.hid hX
            have hcl := fun A c W h => clone_row A c X W (by rw [hXl]; omega) h
            simp only [hXl] at hcl
            have HCL := Lib.hid hcl
            have hbx : BS w w.heap.size (some ⟨bb, o + 14, none⟩) X := by rw [← hX]; exact (HB.out.drop_ 14).take_ sz
            have hb0 : sz = 0 → X = [] := fun h => List.eq_nil_of_length_eq_zero (by rw [hXl, h])
            have HBX := Lib.hid hbx
            have HB0 := Lib.hid hb0
            have HXL := Lib.hid hXl
            have HW5 := Lib.hid (show ∀ ob, Below w.heap.size w (w4.alloc ob) from fun ob => HW4.out.alloc HW4.out.size _)
            clear hX hXl hcl hbx hb0
            refine (cast_any _ _ _ _ _ (b.take 10) X _ ?castp ((Blk.new _ _ _).cell 0 |>.trans (by rw [show (b.take 10).length = 10 by simp; omega]; rfl)) ((Blk.new _ _ _).cell 1 |>.trans (by rw [HXL.out]; rfl)) (by simp; omega) (by rw [HXL.out]; omega) ((HB.out.take_ 10).onB (HW5.out _) (Nat.le_refl _)) ?castb).mono ?_
            case castp => simp
            case castb => first | exact HBX.out.onB (HW5.out _) (Nat.le_refl _) | exact .inl (HB0.out (by omega))
            rintro e w6 ⟨rfl, hb6⟩
            have HW6 := Lib.hid (show Below w.heap.size w w6 from (HW5.out _).trans (hb6.mono (HW5.out _).size))
            clear hb6
            have HCR := Lib.hid (show (crc 4294967295 (b.take 10 ++ X) ^^^ 4294967295 : Nat) = crcOf (b.take 10 ++ X) from rfl)
            rw [HCR.out]
            obtain ⟨cv, hcv⟩ : ∃ cv, crcOf (b.take 10 ++ X) = cv := ⟨_, rfl⟩
            rw [hcv]
            have HCV := Lib.hid hcv
            clear hcv
            by_cases he : (cv : Int) = sm
            · have HE1 := Lib.hid he
              go_wp2_with fail
              refine (HCL.out _ _ _ (by first | exact HBX.out.onB HW6.out (Nat.le_refl _) | exact .inl (HB0.out (by omega)))).mono ?_
              rintro e w7 ⟨v, rfl, hr, hb7⟩
              have HR7 := Lib.hid (show Row w7 w.heap.size 5 v (bcs X) from hr.more HW6.out.size)
              have HW7 := Lib.hid (show Below w.heap.size w w7 from HW6.out.trans (hb7.mono HW6.out.size))
              clear hr hb7
              go_wp2_with fail
              go_ret2
              refine ⟨.inl ⟨⟨h14, HM.out.trans HMN.out, by rw [HSZ.out]; omega, by rw [HSZ.out]; omega, ?_⟩, v, rfl, ?_⟩, HW7.out⟩
              · rw [HSZ.out, HX.out, HCV.out, HSM.out]; exact HE1.out
              · rw [HSZ.out, HX.out]; exact HR7.out
            · have HNO := Lib.hid (show ¬ firstOk b n from fun h => he (by have := h.2.2.2.2; rw [HSZ.out, HX.out, HCV.out, HSM.out] at this; exact this))
              go_wp2_with fail
              go_ret2
              exact ⟨.inr ⟨HNO.out, rfl⟩, HW6.out⟩
        · have i1 : ¬ (4096 : Int) < (sz : Int) := by omega
          have i2 : (b.length : Int) - 10 - 4 < (sz : Int) := by omega
          have HNO := Lib.hid (show ¬ firstOk b n from fun h => h5 (by have := h.2.2.2.1; rw [HSZ.out] at this; exact this))
          go_wp2_with fail
          go_ret2
          exact ⟨.inr ⟨HNO.out, rfl⟩, HW4.out⟩
      · have i1 : (4096 : Int) < (sz : Int) := by omega
        have HNO := Lib.hid (show ¬ firstOk b n from fun h => h4 (by have := h.2.2.1; rw [HSZ.out] at this; exact this))
        go_wp2_with fail
        go_ret2
        exact ⟨.inr ⟨HNO.out, rfl⟩, HW4.out⟩
    · have HNO := Lib.hid (show ¬ firstOk b n from fun h => hmn (HM.out.symm.trans h.2.1))
      go_wp2_with fail
      go_ret2
      exact ⟨.inr ⟨HNO.out, rfl⟩, HW2.out⟩
  · have i14 : (b.length : Int) < 14 := by omega
    have HNO := Lib.hid (show ¬ firstOk b n from fun h => h14 h.1)
    clear hB
    go_enter Try.func16, Try.ntmps16
    go_wp2_with fail
    go_ret2
    exact ⟨.inr ⟨HNO.out, rfl⟩, Below.refl _ _⟩
end Go.Proofs.Ytnfolopodjdlbaa
