/- Contracts of varint.first, Take; the reference's Take. -/
import Derived.Test.YtpclmedpnoalhaaExpand
import Derived.Test.YtpclmedpnoalhaaOctRead
import Derived.Test.YtpclmedpnoalhaaRefNum
import Derived.Test.YtpclmedpnoalhaaPlainT
namespace Go.Proofs.Ytpclmedpnoalhaa
open Go.RowKit
set_option linter.unusedVariables false

/-- What bytes begin with: a number and its size, or nothing. -/
def tkV : List UInt8 → Int
  | [] => 0
  | x :: l => if l.length + 1 < szOf x then 0 else valOf (x :: l) (szOf x)
def tkN : List UInt8 → Nat
  | [] => 0
  | x :: l => if l.length + 1 < szOf x then 0 else szOf x

theorem first_nil (A : Option Addr) (c : Nat) (w : World) : Calls Try.prog 20 #[.slice A 0 c] w fun e w' => e = .returned (.tuple #[.int .u64 0, .int .i64 0]) ∧ w = w' := by
  go_enter Try.func20, Try.ntmps20
  go_wp2_with fail
  go_ret2
  exact ⟨rfl, rfl⟩
theorem and_mask (n : Int) (k : Nat) (M : Int) (hk : k ≤ 63) (hM : M = 2 ^ k - 1) (h0 : 0 ≤ n) (h1 : n < 18446744073709551616) : bits .and .u64 n M = n % 2 ^ k := by
  subst hM
  obtain ⟨n, rfl⟩ := Int.eq_ofNat_of_zero_le h0
  have hp : (1 : Nat) ≤ 2 ^ k := Nat.one_le_two_pow
  have hp2 : (2 : Nat) ^ k ≤ 2 ^ 63 := Nat.pow_le_pow_right (by omega) hk
  have e : ((2 : Int) ^ k - 1) = ((2 ^ k - 1 : Nat) : Int) := by rw [Int.natCast_sub hp]; simp
  rw [e, u64_and_nat n (2 ^ k - 1) (by omega) (by omega), Nat.and_two_pow_sub_one_eq_mod]
  simp

set_option maxHeartbeats 2000000 in
theorem first_any (A : Option Addr) (c : Nat) (l : List UInt8) (w : World) (hl : l.length ≤ 100000) (hc : l.length ≤ c) (hcm : c ≤ maxLen) (hB : BS w w.heap.size A l) :
    Calls Try.prog 20 #[.slice A l.length c] w fun e w' => e = .returned (.tuple #[.int .u64 (tkV l), .int .i64 (tkN l : Int)]) ∧ Below w.heap.size w w' := by
  unfold maxLen at hcm
  cases l with
  | nil => exact (first_nil A c w).mono fun e w' ⟨h1, h2⟩ => ⟨h1, by subst h2; exact Below.refl _ _⟩
  | cons x l =>
    obtain ⟨b, o, hb, rfl, hca⟩ := hB.at (k := 0) (by simp)
    have c1 := hca 0 (by simp)
    simp only [List.getElem_cons_zero, Nat.add_zero] at c1
    have HB := Lib.hid hB
    have hlen : (x :: l).length = l.length + 1 := rfl
    have l0 : (((l.length : Int) + 1) == 0) = false := beq_eq_false_iff_ne.2 (by omega)
    rw [hlen] at hl hc ⊢
    have hxl := x.toNat_lt
    have HTV := Lib.hid (show tkV (x :: l) = if l.length + 1 < szOf x then 0 else valOf (x :: l) (szOf x) from rfl)
    have HTN := Lib.hid (show tkN (x :: l) = if l.length + 1 < szOf x then 0 else szOf x from rfl)
    clear hca hB hlen
    rcases sz_cases x with ⟨hq, hs⟩ | ⟨hq, hs⟩ | ⟨hq, hs⟩ | ⟨hq, hs⟩
    · have hq' : (x.toNat : Int) / 64 = 0 := by omega
      have HQ := Lib.hid hs
      rw [hs] at HTV HTN
      clear hq hs
      by_cases hsh : l.length + 1 < 1
      · exact absurd hsh (by omega)
      · rw [if_neg hsh] at HTV HTN
        have HLS := Lib.hid (show ((x :: l).take 1).length = 1 by simp)
        have hlI : ¬ ((l.length : Int) + 1 < 1) := by omega
        have hN := num_lt ((x :: l).take 1)
        rw [HLS.out] at hN
        have hm := and_mask (num ((x :: l).take 1)) 6 63 (by omega) (by decide) hN.1 (by have := hN.2; simp at this; omega)
        have HV := Lib.hid (show valOf (x :: l) 1 = num ((x :: l).take 1) % 2 ^ 6 from rfl)
        have hz := read_any (some ⟨b, o, none⟩) c ((x :: l).take 1) w (by rw [HLS.out]; omega) (HB.out.take_ 1)
        rw [HLS.out] at hz
        have HZ := Lib.hid hz
        have hnum : ∀ rb u, Rd u rb ((x :: l).take 1) → Calls Try.prog 26 #[.pointer (some ⟨rb, 0, none⟩), .int .i64 1] u fun e w' => e = .returned (.int .u64 (num ((x :: l).take 1))) ∧ Kept (· = rb) u w' := fun rb u hu => by
          have h := num_any rb 1 ((x :: l).take 1) u (by rw [HLS.out]; omega) (by rw [HLS.out]; omega) (by omega) hu
          rw [List.take_take, Nat.min_self] at h
          exact h.mono fun e w' ⟨h1, _, h3⟩ => ⟨h1, h3⟩
        have HNUM := Lib.hid hnum
        generalize num ((x :: l).take 1) = N at hm HV HNUM
        clear hz hnum hN
        go_enter Try.func20, Try.ntmps20
        go_wp2_with fail
        refine HZ.out.mono ?_
        rintro e w1 ⟨rb, rfl, hrb, hRd, hb1⟩
        have hs1 := hb1.size
        have HRD := Lib.hid hRd
        have HB1 := Lib.hid hb1
        clear hRd hb1
        go_wp2_with fail
        refine (HNUM.out rb w1 HRD.out).mono ?_
        rintro e w2 ⟨rfl, hK⟩
        have HK := Lib.hid hK
        clear hK
        go_wp2_with fail
        go_ret2
        refine ⟨?_, HB1.out.trans (HK.out.below hs1 (fun i h => by omega))⟩
        rw [HTV.out, HTN.out, HV.out]
        rfl
    · have hq' : (x.toNat : Int) / 64 = 1 := by omega
      have HQ := Lib.hid hs
      rw [hs] at HTV HTN
      clear hq hs
      by_cases hsh : l.length + 1 < 2
      · rw [if_pos hsh] at HTV HTN
        go_enter Try.func20, Try.ntmps20
        go_wp2_with fail
        go_ret2
        exact ⟨by rw [HTV.out, HTN.out]; rfl, Below.refl _ _⟩
      · rw [if_neg hsh] at HTV HTN
        have HLS := Lib.hid (show ((x :: l).take 2).length = 2 by simp; omega)
        have hlI : ¬ ((l.length : Int) + 1 < 2) := by omega
        have hN := num_lt ((x :: l).take 2)
        rw [HLS.out] at hN
        have hm := and_mask (num ((x :: l).take 2)) 14 16383 (by omega) (by decide) hN.1 (by have := hN.2; simp at this; omega)
        have HV := Lib.hid (show valOf (x :: l) 2 = num ((x :: l).take 2) % 2 ^ 14 from rfl)
        have hz := read_any (some ⟨b, o, none⟩) c ((x :: l).take 2) w (by rw [HLS.out]; omega) (HB.out.take_ 2)
        rw [HLS.out] at hz
        have HZ := Lib.hid hz
        have hnum : ∀ rb u, Rd u rb ((x :: l).take 2) → Calls Try.prog 26 #[.pointer (some ⟨rb, 0, none⟩), .int .i64 2] u fun e w' => e = .returned (.int .u64 (num ((x :: l).take 2))) ∧ Kept (· = rb) u w' := fun rb u hu => by
          have h := num_any rb 2 ((x :: l).take 2) u (by rw [HLS.out]; omega) (by rw [HLS.out]; omega) (by omega) hu
          rw [List.take_take, Nat.min_self] at h
          exact h.mono fun e w' ⟨h1, _, h3⟩ => ⟨h1, h3⟩
        have HNUM := Lib.hid hnum
        generalize num ((x :: l).take 2) = N at hm HV HNUM
        clear hz hnum hN
        go_enter Try.func20, Try.ntmps20
        go_wp2_with fail
        refine HZ.out.mono ?_
        rintro e w1 ⟨rb, rfl, hrb, hRd, hb1⟩
        have hs1 := hb1.size
        have HRD := Lib.hid hRd
        have HB1 := Lib.hid hb1
        clear hRd hb1
        go_wp2_with fail
        refine (HNUM.out rb w1 HRD.out).mono ?_
        rintro e w2 ⟨rfl, hK⟩
        have HK := Lib.hid hK
        clear hK
        go_wp2_with fail
        go_ret2
        refine ⟨?_, HB1.out.trans (HK.out.below hs1 (fun i h => by omega))⟩
        rw [HTV.out, HTN.out, HV.out]
        rfl
    · have hq' : (x.toNat : Int) / 64 = 2 := by omega
      have HQ := Lib.hid hs
      rw [hs] at HTV HTN
      clear hq hs
      by_cases hsh : l.length + 1 < 4
      · rw [if_pos hsh] at HTV HTN
        go_enter Try.func20, Try.ntmps20
        go_wp2_with fail
        go_ret2
        exact ⟨by rw [HTV.out, HTN.out]; rfl, Below.refl _ _⟩
      · rw [if_neg hsh] at HTV HTN
        have HLS := Lib.hid (show ((x :: l).take 4).length = 4 by simp; omega)
        have hlI : ¬ ((l.length : Int) + 1 < 4) := by omega
        have hN := num_lt ((x :: l).take 4)
        rw [HLS.out] at hN
        have hm := and_mask (num ((x :: l).take 4)) 30 1073741823 (by omega) (by decide) hN.1 (by have := hN.2; simp at this; omega)
        have HV := Lib.hid (show valOf (x :: l) 4 = num ((x :: l).take 4) % 2 ^ 30 from rfl)
        have hz := read_any (some ⟨b, o, none⟩) c ((x :: l).take 4) w (by rw [HLS.out]; omega) (HB.out.take_ 4)
        rw [HLS.out] at hz
        have HZ := Lib.hid hz
        have hnum : ∀ rb u, Rd u rb ((x :: l).take 4) → Calls Try.prog 26 #[.pointer (some ⟨rb, 0, none⟩), .int .i64 4] u fun e w' => e = .returned (.int .u64 (num ((x :: l).take 4))) ∧ Kept (· = rb) u w' := fun rb u hu => by
          have h := num_any rb 4 ((x :: l).take 4) u (by rw [HLS.out]; omega) (by rw [HLS.out]; omega) (by omega) hu
          rw [List.take_take, Nat.min_self] at h
          exact h.mono fun e w' ⟨h1, _, h3⟩ => ⟨h1, h3⟩
        have HNUM := Lib.hid hnum
        generalize num ((x :: l).take 4) = N at hm HV HNUM
        clear hz hnum hN
        go_enter Try.func20, Try.ntmps20
        go_wp2_with fail
        refine HZ.out.mono ?_
        rintro e w1 ⟨rb, rfl, hrb, hRd, hb1⟩
        have hs1 := hb1.size
        have HRD := Lib.hid hRd
        have HB1 := Lib.hid hb1
        clear hRd hb1
        go_wp2_with fail
        refine (HNUM.out rb w1 HRD.out).mono ?_
        rintro e w2 ⟨rfl, hK⟩
        have HK := Lib.hid hK
        clear hK
        go_wp2_with fail
        go_ret2
        refine ⟨?_, HB1.out.trans (HK.out.below hs1 (fun i h => by omega))⟩
        rw [HTV.out, HTN.out, HV.out]
        rfl
    · have hq' : (x.toNat : Int) / 64 = 3 := by omega
      have HQ := Lib.hid hs
      rw [hs] at HTV HTN
      clear hq hs
      by_cases hsh : l.length + 1 < 8
      · rw [if_pos hsh] at HTV HTN
        go_enter Try.func20, Try.ntmps20
        go_wp2_with fail
        go_ret2
        exact ⟨by rw [HTV.out, HTN.out]; rfl, Below.refl _ _⟩
      · rw [if_neg hsh] at HTV HTN
        have HLS := Lib.hid (show ((x :: l).take 8).length = 8 by simp; omega)
        have hlI : ¬ ((l.length : Int) + 1 < 8) := by omega
        have hN := num_lt ((x :: l).take 8)
        rw [HLS.out] at hN
        have hm := and_mask (num ((x :: l).take 8)) 62 4611686018427387903 (by omega) (by decide) hN.1 (by have := hN.2; simp at this; omega)
        have HV := Lib.hid (show valOf (x :: l) 8 = num ((x :: l).take 8) % 2 ^ 62 from rfl)
        have hz := read_any (some ⟨b, o, none⟩) c ((x :: l).take 8) w (by rw [HLS.out]; omega) (HB.out.take_ 8)
        rw [HLS.out] at hz
        have HZ := Lib.hid hz
        have hnum : ∀ rb u, Rd u rb ((x :: l).take 8) → Calls Try.prog 26 #[.pointer (some ⟨rb, 0, none⟩), .int .i64 8] u fun e w' => e = .returned (.int .u64 (num ((x :: l).take 8))) ∧ Kept (· = rb) u w' := fun rb u hu => by
          have h := num_any rb 8 ((x :: l).take 8) u (by rw [HLS.out]; omega) (by rw [HLS.out]; omega) (by omega) hu
          rw [List.take_take, Nat.min_self] at h
          exact h.mono fun e w' ⟨h1, _, h3⟩ => ⟨h1, h3⟩
        have HNUM := Lib.hid hnum
        generalize num ((x :: l).take 8) = N at hm HV HNUM
        clear hz hnum hN
        go_enter Try.func20, Try.ntmps20
        go_wp2_with fail
        refine HZ.out.mono ?_
        rintro e w1 ⟨rb, rfl, hrb, hRd, hb1⟩
        have hs1 := hb1.size
        have HRD := Lib.hid hRd
        have HB1 := Lib.hid hb1
        clear hRd hb1
        go_wp2_with fail
        refine (HNUM.out rb w1 HRD.out).mono ?_
        rintro e w2 ⟨rfl, hK⟩
        have HK := Lib.hid hK
        clear hK
        go_wp2_with fail
        go_ret2
        refine ⟨?_, HB1.out.trans (HK.out.below hs1 (fun i h => by omega))⟩
        rw [HTV.out, HTN.out, HV.out]
        rfl

theorem tkN_le (l : List UInt8) : tkN l ≤ l.length := by
  cases l with
  | nil => simp [tkN]
  | cons x l => simp only [tkN]; split <;> simp; omega
theorem tkV_range (l : List UInt8) : 0 ≤ tkV l ∧ tkV l < 18446744073709551616 := by
  cases l with
  | nil => simp [tkV]
  | cons x l =>
    simp only [tkV]
    split
    · omega
    · unfold valOf
      have h := num_lt ((x :: l).take (szOf x))
      rcases sz_cases x with ⟨_, hs⟩ | ⟨_, hs⟩ | ⟨_, hs⟩ | ⟨_, hs⟩ <;> rw [hs] <;> simp <;> omega
theorem Try.info5t : (Try.prog.info? 5).map (fun i => (i.zero, i.size, i.bytes)) = some (some (.int .u8 0), 1, 1) := by kernel_rfl

/-- What Take leaves. -/
def TakePost (w : World) (l : List UInt8) (e : Ending) (w' : World) : Prop :=
  (tkN l = 0 ∧ e = .returned (.tuple #[.int .u64 0, .slice none 0 0, .int .i64 20]) ∨ tkN l ≠ 0 ∧ ∃ v, e = .returned (.tuple #[.int .u64 (tkV l), v, .int .i64 0]) ∧ Byt w' v (l.drop (tkN l))) ∧ Below w.heap.size w w'
set_option maxHeartbeats 1000000 in
theorem take_any (A : Option Addr) (c : Nat) (l : List UInt8) (w : World) (hl : l.length ≤ 100000) (hc : l.length ≤ c) (hcm : c ≤ maxLen) (hB : BS w w.heap.size A l) :
    Calls Try.prog 12 #[.slice A l.length c] w (TakePost w l) := by
  have H := Lib.hid (first_any A c l w hl hc hcm hB)
  have h5 := Try.info5t
  have hn := tkN_le l
  have HB := Lib.hid hB
  have HDL := Lib.hid (show (l.drop (tkN l)).length = l.length - tkN l by simp)
  unfold maxLen at hcm
  obtain ⟨n, hnn⟩ : ∃ n, tkN l = n := ⟨_, rfl⟩
  obtain ⟨V, hV⟩ : ∃ V, tkV l = V := ⟨_, rfl⟩
  rw [hnn, hV] at H
  rw [hnn] at hn HDL
  have HN := Lib.hid hnn
  have HV := Lib.hid hV
  clear hB hnn hV
  rcases Nat.eq_zero_or_pos n with h0 | h0
  · subst h0
    go_enter Try.func12, Try.ntmps12
    go_wp2_with fail
    refine H.out.mono ?_
    rintro e w1 ⟨rfl, hb⟩
    have HB1 := Lib.hid hb
    clear hb
    go_wp2_with fail
    go_ret3
    exact ⟨.inl ⟨HN.out, rfl⟩, HB1.out⟩
  · obtain ⟨b, o, hb, rfl, _⟩ := HB.out.at (k := 0) (by omega)
    have n0 : ((n : Int) == 0) = false := beq_eq_false_iff_ne.2 (by omega)
    by_cases hcn : c = n
    · subst hcn
      go_enter Try.func12, Try.ntmps12
      go_wp2_with fail
      refine H.out.mono ?_
      rintro e w1 ⟨rfl, hb1⟩
      have HB1 := Lib.hid hb1
      have hs1 := hb1.size
      clear hb1
      go_wp2_with fail
      go_ret3
      refine ⟨.inr ⟨by rw [HN.out]; omega, .slice none 0 0, by rw [HV.out]; rfl, ?_⟩, HB1.out⟩
      rw [HN.out, List.drop_eq_nil_of_le hc]
      exact Byt.nil _
    · have hcn' : ¬ n = c := fun h => hcn h.symm
      have HD := Lib.hid (HB.out.drop_ n)
      go_enter Try.func12, Try.ntmps12
      go_wp2_with fail
      refine H.out.mono ?_
      rintro e w1 ⟨rfl, hb1⟩
      have HB1 := Lib.hid hb1
      have HD1 := Lib.hid (HD.out.onB hb1 (Nat.le_refl _))
      have hs1 := hb1.size
      clear hb1
      go_wp2_with (at_builtin; refine wpList_append_row rfl (.const (.slice none 0 0)) (.tmp 17) 34 rfl w.heap.size 5 (.int .u8 0) 1 Try.underlying34 h5 rfl _ [] rfl (some ⟨b, o + n, none⟩) (l.length - n) (c - n) (bcs (l.drop n)) rfl ?a0 (Row.nil _ _ _) HD1.out.src (bcs_one _) ?a3 ?a4 hs1 ?_)
      case a0 => rw [bcs_length, HDL.out]
      case a3 => rw [bcs_length, HDL.out]; unfold maxLen; simp; omega
      case a4 => rw [bcs_length, HDL.out]; simp; omega
      intro v1 w2 hrow hgr _
      have HY := Lib.hid (show Byt w2 v1 (l.drop n) from Row.byt hrow)
      have HB2 := Lib.hid (HB1.out.trans (below_grown hgr (fun i e => by cases e) hs1))
      clear hrow hgr
      go_wp2_with fail
      go_ret3
      exact ⟨.inr ⟨by rw [HN.out]; omega, v1, by rw [HV.out]; rfl, by rw [HN.out]; exact HY.out⟩, HB2.out⟩

theorem refTake_nil (A : Option Addr) (c : Nat) (w : World) : Calls Try.prog 13 #[.slice A 0 c] w fun e w' => e = .returned (.tuple #[.int .u64 0, .int .i64 0]) ∧ w = w' := by
  go_enter Try.func13, Try.ntmps13
  go_wp2_with fail
  go_ret2
  exact ⟨rfl, rfl⟩
set_option maxHeartbeats 2000000 in
theorem refTake_any (A : Option Addr) (c : Nat) (l : List UInt8) (w : World) (hl : l.length ≤ 100000) (hc : l.length ≤ c) (hcm : c ≤ maxLen) (hB : BS w w.heap.size A l) :
    Calls Try.prog 13 #[.slice A l.length c] w fun e w' => e = .returned (.tuple #[.int .u64 (tkV l), .int .i64 (tkN l : Int)]) ∧ Below w.heap.size w w' := by
  unfold maxLen at hcm
  have h5 := Try.info5t
  cases l with
  | nil => exact (refTake_nil A c w).mono fun e w' ⟨h1, h2⟩ => ⟨h1, by subst h2; exact Below.refl _ _⟩
  | cons x l =>
    obtain ⟨b, o, hb, rfl, hca⟩ := hB.at (k := 0) (by simp)
    have c1 := hca 0 (by simp)
    simp only [List.getElem_cons_zero, Nat.add_zero] at c1
    have HB := Lib.hid hB
    have hlen : (x :: l).length = l.length + 1 := rfl
    have l0 : (((l.length : Int) + 1) == 0) = false := beq_eq_false_iff_ne.2 (by omega)
    rw [hlen] at hl hc ⊢
    have hxl := x.toNat_lt
    have HTV := Lib.hid (show tkV (x :: l) = if l.length + 1 < szOf x then 0 else valOf (x :: l) (szOf x) from rfl)
    have HTN := Lib.hid (show tkN (x :: l) = if l.length + 1 < szOf x then 0 else szOf x from rfl)
    have HVE := Lib.hid (fun h => val_eq x (UInt8.ofNat (x.toNat % 64)) l h (low6 x))
    have hy6 : ((UInt8.ofNat (x.toNat % 64)).toNat : Int) = (x.toNat : Int) % 64 := by rw [low6]; omega
    obtain ⟨y, hy⟩ : ∃ y, UInt8.ofNat (x.toNat % 64) = y := ⟨_, rfl⟩
    rw [hy] at HVE hy6
    have HY6 := Lib.hid hy6
    clear hca hB hlen hy hy6
    rcases sz_cases x with ⟨hq, hs⟩ | ⟨hq, hs⟩ | ⟨hq, hs⟩ | ⟨hq, hs⟩
    · have hq' : (x.toNat : Int) / 64 = 0 := by omega
      rw [hs] at HTV HTN HVE
      clear hq hs
      by_cases hsh : l.length + 1 < 1
      · exact absurd hsh (by omega)
      · rw [if_neg hsh] at HTV HTN
        obtain ⟨tl, htl⟩ : ∃ tl, tl = l.take 0 := ⟨_, rfl⟩
        have HTL := Lib.hid htl
        have HTK := Lib.hid (show tl.length = 0 by rw [htl]; simp)
        by_cases hc1 : c = 1
        · have HD := Lib.hid (show BS w w.heap.size (some ⟨b, o, none⟩) tl from .inl (by rw [htl]; simp))
          clear htl
          subst hc1
          go_enter Try.func13, Try.ntmps13
          go_wp2_with fail
          refine (power_any 0 w (by omega)).mono ?_
          rintro e w1 ⟨rfl, rfl⟩
          rw [show ((2 ^ 0 : Nat) : Int) = 1 from rfl]
          go_wp2_with fail
          refine wp_region_kept 8 [(4, fun v u => ∃ g, v = .slice (some ⟨g, 0, none⟩) 1 1 ∧ w.heap.size ≤ g ∧ Blk u g 5 #[.int .u8 ((x.toNat : Int) % 64)])] ?st ?ne rfl (by kernel_rfl) (by kernel_rfl) ?_
          case st =>
            intro p hp
            simp only [List.mem_cons, List.not_mem_nil, or_false] at hp
            subst hp
            · rintro v u u' ⟨g, rfl, hg, h⟩ hk; exact ⟨g, rfl, hg, h.kept hk (fun h => h)⟩
          case ne =>
            intro p hp
            simp only [List.mem_cons, List.not_mem_nil, or_false] at hp
            subst hp
            · exact ⟨_, _, (Kept.refl _ _).alloc _, w.heap.size, rfl, Nat.le_refl _, Blk.new _ _ _⟩
          simp only [List.take_succ_cons, List.take_zero, List.drop_succ_cons, List.drop_zero]
          intro G pick hR hp1 hp2
          have pc1 : ∀ u, (pick u).cell? ⟨b, o, none⟩ = some (.int .u8 (x.toNat : Int)) := fun u => ((hp1 u).cell hb (fun h => h) _).trans c1
          repeat (first | (refine wpR_det hp2 rfl ((hR.rel _).trans rfl) rfl ?_; intro K hK; go_big_quiet_op; go_big_quiet_on) | (refine wpR_skip pick rfl ?_; intro K hK; go_big_quiet_op; go_big_quiet_on))
          refine wpR_rel pick rfl ((hR.rel _).trans rfl) ((hR.turns _).trans rfl) ?_ ?_
          · intro u hu
            have hk := hR.since hu.1
            have hks := hk.size
            unfold relAt
            go_simp
            exact ⟨hR.into0 ((Kept.refl _ _).alloc _), hR.put 0 rfl rfl ⟨_, rfl, hks, Blk.new _ _ _⟩⟩
          intro v hv
          obtain ⟨u, _, hu⟩ := hv
          obtain ⟨g, rfl, hg, -⟩ := hR.get 0 rfl hu
          clear hu
          intro K hK
          go_big_quiet_op
          go_big_quiet_on
          repeat (first | (refine wpR_det hp2 rfl ((hR.rel _).trans rfl) rfl ?_; intro K hK; go_big_quiet_op; go_big_quiet_on) | (refine wpR_skip pick rfl ?_; intro K hK; go_big_quiet_op; go_big_quiet_on))
          refine wpR_nil ?_
          intro w2 hk2 hF hM
          obtain ⟨g', e, -, hblk⟩ := (hR.get 0 rfl (hF _ _ (Got.upd_self _ _ _)))
          obtain rfl : g = g' := by injection e with e; injection e with e; injection e
          have hrow0 : Row w2 w.heap.size 5 (.slice (some ⟨g, 0, none⟩) 1 1) (bcs [y]) := Row.of_blk (cs := #[.int .u8 ((x.toNat : Int) % 64)]) hblk hg (by unfold maxLen; simp) (by simp [bcs, HY6.out])
          have HR0 := Lib.hid hrow0
          have HD2 := Lib.hid (HD.out.on hk2 (fun _ _ h => h))
          have HB2 := Lib.hid (show Below w.heap.size w w2 from hk2.below (Nat.le_refl _) (fun _ h => h.elim))
          have hs2 := hk2.size
          clear e hblk hF hM hk2 pc1 hp1 hp2 hR hrow0
          go_wp2_with (at_builtin; refine wpList_append_row rfl (.tmp 24) (.tmp 27) 34 rfl w.heap.size 5 (.int .u8 0) 1 Try.underlying34 h5 rfl _ (bcs [y]) rfl (some ⟨b, o, none⟩) 0 0 (bcs tl) rfl ?a0 HR0.out HD2.out.src (bcs_one _) ?a3 ?a4 hs2 ?_)
          case a0 => rw [bcs_length, HTK.out]
          case a3 => rw [bcs_length, bcs_length, HTK.out]; unfold maxLen; simp
          case a4 => rw [bcs_length, bcs_length, HTK.out]; simp
          intro v1 w3 hrow hgr _
          rw [← bcs_append] at hrow
          obtain ⟨NA, nc, hve, -, -, hbs⟩ := Row.byt hrow
          rw [show ([y] ++ tl).length = 1 by rw [List.length_append, HTK.out]; rfl] at hve
          subst hve
          have HN := Lib.hid hbs
          have HB3 := Lib.hid (HB2.out.trans (below_grown hgr (fun i e => by simp [Value.ownBlock] at e; omega) hs2))
          clear hrow hgr hbs
          go_wp2_with fail
          have hz := refNum_any NA nc ([y] ++ tl) w3 (by rw [List.length_append, HTK.out]; simp) HN.out
          rw [show ([y] ++ tl).length = 1 by rw [List.length_append, HTK.out]; rfl] at hz
          refine hz.mono ?_
          rintro e w4 ⟨rfl, rfl⟩
          go_wp2_with fail
          go_ret2
          refine ⟨?_, HB3.out⟩
          rw [HTV.out, HTN.out, ← HVE.out (by omega), show l.take (1 - 1) = tl from HTL.out.symm]
          rfl
        · have HD := Lib.hid (show BS w w.heap.size (some ⟨b, o + 1, none⟩) tl from .inl (by rw [htl]; simp))
          clear htl
          have hc1' : ¬ 1 = c := fun h => hc1 h.symm
          go_enter Try.func13, Try.ntmps13
          go_wp2_with fail
          refine (power_any 0 w (by omega)).mono ?_
          rintro e w1 ⟨rfl, rfl⟩
          rw [show ((2 ^ 0 : Nat) : Int) = 1 from rfl]
          go_wp2_with fail
          refine wp_region_kept 8 [(4, fun v u => ∃ g, v = .slice (some ⟨g, 0, none⟩) 1 1 ∧ w.heap.size ≤ g ∧ Blk u g 5 #[.int .u8 ((x.toNat : Int) % 64)])] ?st ?ne rfl (by kernel_rfl) (by kernel_rfl) ?_
          case st =>
            intro p hp
            simp only [List.mem_cons, List.not_mem_nil, or_false] at hp
            subst hp
            · rintro v u u' ⟨g, rfl, hg, h⟩ hk; exact ⟨g, rfl, hg, h.kept hk (fun h => h)⟩
          case ne =>
            intro p hp
            simp only [List.mem_cons, List.not_mem_nil, or_false] at hp
            subst hp
            · exact ⟨_, _, (Kept.refl _ _).alloc _, w.heap.size, rfl, Nat.le_refl _, Blk.new _ _ _⟩
          simp only [List.take_succ_cons, List.take_zero, List.drop_succ_cons, List.drop_zero]
          intro G pick hR hp1 hp2
          have pc1 : ∀ u, (pick u).cell? ⟨b, o, none⟩ = some (.int .u8 (x.toNat : Int)) := fun u => ((hp1 u).cell hb (fun h => h) _).trans c1
          repeat (first | (refine wpR_det hp2 rfl ((hR.rel _).trans rfl) rfl ?_; intro K hK; go_big_quiet_op; go_big_quiet_on) | (refine wpR_skip pick rfl ?_; intro K hK; go_big_quiet_op; go_big_quiet_on))
          refine wpR_rel pick rfl ((hR.rel _).trans rfl) ((hR.turns _).trans rfl) ?_ ?_
          · intro u hu
            have hk := hR.since hu.1
            have hks := hk.size
            unfold relAt
            go_simp
            exact ⟨hR.into0 ((Kept.refl _ _).alloc _), hR.put 0 rfl rfl ⟨_, rfl, hks, Blk.new _ _ _⟩⟩
          intro v hv
          obtain ⟨u, _, hu⟩ := hv
          obtain ⟨g, rfl, hg, -⟩ := hR.get 0 rfl hu
          clear hu
          intro K hK
          go_big_quiet_op
          go_big_quiet_on
          repeat (first | (refine wpR_det hp2 rfl ((hR.rel _).trans rfl) rfl ?_; intro K hK; go_big_quiet_op; go_big_quiet_on) | (refine wpR_skip pick rfl ?_; intro K hK; go_big_quiet_op; go_big_quiet_on))
          refine wpR_nil ?_
          intro w2 hk2 hF hM
          obtain ⟨g', e, -, hblk⟩ := (hR.get 0 rfl (hF _ _ (Got.upd_self _ _ _)))
          obtain rfl : g = g' := by injection e with e; injection e with e; injection e
          have hrow0 : Row w2 w.heap.size 5 (.slice (some ⟨g, 0, none⟩) 1 1) (bcs [y]) := Row.of_blk (cs := #[.int .u8 ((x.toNat : Int) % 64)]) hblk hg (by unfold maxLen; simp) (by simp [bcs, HY6.out])
          have HR0 := Lib.hid hrow0
          have HD2 := Lib.hid (HD.out.on hk2 (fun _ _ h => h))
          have HB2 := Lib.hid (show Below w.heap.size w w2 from hk2.below (Nat.le_refl _) (fun _ h => h.elim))
          have hs2 := hk2.size
          clear e hblk hF hM hk2 pc1 hp1 hp2 hR hrow0
          go_wp2_with (at_builtin; refine wpList_append_row rfl (.tmp 24) (.tmp 27) 34 rfl w.heap.size 5 (.int .u8 0) 1 Try.underlying34 h5 rfl _ (bcs [y]) rfl (some ⟨b, o + 1, none⟩) 0 (c - 1) (bcs tl) rfl ?a0 HR0.out HD2.out.src (bcs_one _) ?a3 ?a4 hs2 ?_)
          case a0 => rw [bcs_length, HTK.out]
          case a3 => rw [bcs_length, bcs_length, HTK.out]; unfold maxLen; simp
          case a4 => rw [bcs_length, bcs_length, HTK.out]; simp
          intro v1 w3 hrow hgr _
          rw [← bcs_append] at hrow
          obtain ⟨NA, nc, hve, -, -, hbs⟩ := Row.byt hrow
          rw [show ([y] ++ tl).length = 1 by rw [List.length_append, HTK.out]; rfl] at hve
          subst hve
          have HN := Lib.hid hbs
          have HB3 := Lib.hid (HB2.out.trans (below_grown hgr (fun i e => by simp [Value.ownBlock] at e; omega) hs2))
          clear hrow hgr hbs
          go_wp2_with fail
          have hz := refNum_any NA nc ([y] ++ tl) w3 (by rw [List.length_append, HTK.out]; simp) HN.out
          rw [show ([y] ++ tl).length = 1 by rw [List.length_append, HTK.out]; rfl] at hz
          refine hz.mono ?_
          rintro e w4 ⟨rfl, rfl⟩
          go_wp2_with fail
          go_ret2
          refine ⟨?_, HB3.out⟩
          rw [HTV.out, HTN.out, ← HVE.out (by omega), show l.take (1 - 1) = tl from HTL.out.symm]
          rfl
    · have hq' : (x.toNat : Int) / 64 = 1 := by omega
      rw [hs] at HTV HTN HVE
      clear hq hs
      by_cases hsh : l.length + 1 < 2
      · rw [if_pos hsh] at HTV HTN
        go_enter Try.func13, Try.ntmps13
        go_wp2_with fail
        refine (power_any 1 w (by omega)).mono ?_
        rintro e w1 ⟨rfl, rfl⟩
        rw [show ((2 ^ 1 : Nat) : Int) = 2 from rfl]
        go_wp2_with fail
        go_ret2
        exact ⟨by rw [HTV.out, HTN.out]; rfl, Below.refl _ _⟩
      · rw [if_neg hsh] at HTV HTN
        have hlI : ¬ ((l.length : Int) + 1 < 2) := by omega
        obtain ⟨tl, htl⟩ : ∃ tl, tl = l.take 1 := ⟨_, rfl⟩
        have HTL := Lib.hid htl
        have HTK := Lib.hid (show tl.length = 1 by rw [htl]; simp; omega)
        have HD := Lib.hid (show BS w w.heap.size (some ⟨b, o + 1, none⟩) tl by rw [htl]; exact (HB.out.drop_ 1).take_ 1)
        clear htl
        have hc1 : ¬ c = 1 := by omega
        have hc1' : ¬ 1 = c := by omega
        go_enter Try.func13, Try.ntmps13
        go_wp2_with fail
        refine (power_any 1 w (by omega)).mono ?_
        rintro e w1 ⟨rfl, rfl⟩
        rw [show ((2 ^ 1 : Nat) : Int) = 2 from rfl]
        go_wp2_with fail
        refine wp_region_kept 8 [(4, fun v u => ∃ g, v = .slice (some ⟨g, 0, none⟩) 1 1 ∧ w.heap.size ≤ g ∧ Blk u g 5 #[.int .u8 ((x.toNat : Int) % 64)])] ?st ?ne rfl (by kernel_rfl) (by kernel_rfl) ?_
        case st =>
          intro p hp
          simp only [List.mem_cons, List.not_mem_nil, or_false] at hp
          subst hp
          · rintro v u u' ⟨g, rfl, hg, h⟩ hk; exact ⟨g, rfl, hg, h.kept hk (fun h => h)⟩
        case ne =>
          intro p hp
          simp only [List.mem_cons, List.not_mem_nil, or_false] at hp
          subst hp
          · exact ⟨_, _, (Kept.refl _ _).alloc _, w.heap.size, rfl, Nat.le_refl _, Blk.new _ _ _⟩
        simp only [List.take_succ_cons, List.take_zero, List.drop_succ_cons, List.drop_zero]
        intro G pick hR hp1 hp2
        have pc1 : ∀ u, (pick u).cell? ⟨b, o, none⟩ = some (.int .u8 (x.toNat : Int)) := fun u => ((hp1 u).cell hb (fun h => h) _).trans c1
        repeat (first | (refine wpR_det hp2 rfl ((hR.rel _).trans rfl) rfl ?_; intro K hK; go_big_quiet_op; go_big_quiet_on) | (refine wpR_skip pick rfl ?_; intro K hK; go_big_quiet_op; go_big_quiet_on))
        refine wpR_rel pick rfl ((hR.rel _).trans rfl) ((hR.turns _).trans rfl) ?_ ?_
        · intro u hu
          have hk := hR.since hu.1
          have hks := hk.size
          unfold relAt
          go_simp
          exact ⟨hR.into0 ((Kept.refl _ _).alloc _), hR.put 0 rfl rfl ⟨_, rfl, hks, Blk.new _ _ _⟩⟩
        intro v hv
        obtain ⟨u, _, hu⟩ := hv
        obtain ⟨g, rfl, hg, -⟩ := hR.get 0 rfl hu
        clear hu
        intro K hK
        go_big_quiet_op
        go_big_quiet_on
        repeat (first | (refine wpR_det hp2 rfl ((hR.rel _).trans rfl) rfl ?_; intro K hK; go_big_quiet_op; go_big_quiet_on) | (refine wpR_skip pick rfl ?_; intro K hK; go_big_quiet_op; go_big_quiet_on))
        refine wpR_nil ?_
        intro w2 hk2 hF hM
        obtain ⟨g', e, -, hblk⟩ := (hR.get 0 rfl (hF _ _ (Got.upd_self _ _ _)))
        obtain rfl : g = g' := by injection e with e; injection e with e; injection e
        have hrow0 : Row w2 w.heap.size 5 (.slice (some ⟨g, 0, none⟩) 1 1) (bcs [y]) := Row.of_blk (cs := #[.int .u8 ((x.toNat : Int) % 64)]) hblk hg (by unfold maxLen; simp) (by simp [bcs, HY6.out])
        have HR0 := Lib.hid hrow0
        have HD2 := Lib.hid (HD.out.on hk2 (fun _ _ h => h))
        have HB2 := Lib.hid (show Below w.heap.size w w2 from hk2.below (Nat.le_refl _) (fun _ h => h.elim))
        have hs2 := hk2.size
        clear e hblk hF hM hk2 pc1 hp1 hp2 hR hrow0
        go_wp2_with (at_builtin; refine wpList_append_row rfl (.tmp 24) (.tmp 27) 34 rfl w.heap.size 5 (.int .u8 0) 1 Try.underlying34 h5 rfl _ (bcs [y]) rfl (some ⟨b, o + 1, none⟩) 1 (c - 1) (bcs tl) rfl ?a0 HR0.out HD2.out.src (bcs_one _) ?a3 ?a4 hs2 ?_)
        case a0 => rw [bcs_length, HTK.out]
        case a3 => rw [bcs_length, bcs_length, HTK.out]; unfold maxLen; simp
        case a4 => rw [bcs_length, bcs_length, HTK.out]; simp
        intro v1 w3 hrow hgr _
        rw [← bcs_append] at hrow
        obtain ⟨NA, nc, hve, -, -, hbs⟩ := Row.byt hrow
        rw [show ([y] ++ tl).length = 2 by rw [List.length_append, HTK.out]; rfl] at hve
        subst hve
        have HN := Lib.hid hbs
        have HB3 := Lib.hid (HB2.out.trans (below_grown hgr (fun i e => by simp [Value.ownBlock] at e; omega) hs2))
        clear hrow hgr hbs
        go_wp2_with fail
        have hz := refNum_any NA nc ([y] ++ tl) w3 (by rw [List.length_append, HTK.out]; simp) HN.out
        rw [show ([y] ++ tl).length = 2 by rw [List.length_append, HTK.out]; rfl] at hz
        refine hz.mono ?_
        rintro e w4 ⟨rfl, rfl⟩
        go_wp2_with fail
        go_ret2
        refine ⟨?_, HB3.out⟩
        rw [HTV.out, HTN.out, ← HVE.out (by omega), show l.take (2 - 1) = tl from HTL.out.symm]
        rfl
    · have hq' : (x.toNat : Int) / 64 = 2 := by omega
      rw [hs] at HTV HTN HVE
      clear hq hs
      by_cases hsh : l.length + 1 < 4
      · rw [if_pos hsh] at HTV HTN
        go_enter Try.func13, Try.ntmps13
        go_wp2_with fail
        refine (power_any 2 w (by omega)).mono ?_
        rintro e w1 ⟨rfl, rfl⟩
        rw [show ((2 ^ 2 : Nat) : Int) = 4 from rfl]
        go_wp2_with fail
        go_ret2
        exact ⟨by rw [HTV.out, HTN.out]; rfl, Below.refl _ _⟩
      · rw [if_neg hsh] at HTV HTN
        have hlI : ¬ ((l.length : Int) + 1 < 4) := by omega
        obtain ⟨tl, htl⟩ : ∃ tl, tl = l.take 3 := ⟨_, rfl⟩
        have HTL := Lib.hid htl
        have HTK := Lib.hid (show tl.length = 3 by rw [htl]; simp; omega)
        have HD := Lib.hid (show BS w w.heap.size (some ⟨b, o + 1, none⟩) tl by rw [htl]; exact (HB.out.drop_ 1).take_ 3)
        clear htl
        have hc1 : ¬ c = 1 := by omega
        have hc1' : ¬ 1 = c := by omega
        go_enter Try.func13, Try.ntmps13
        go_wp2_with fail
        refine (power_any 2 w (by omega)).mono ?_
        rintro e w1 ⟨rfl, rfl⟩
        rw [show ((2 ^ 2 : Nat) : Int) = 4 from rfl]
        go_wp2_with fail
        refine wp_region_kept 8 [(4, fun v u => ∃ g, v = .slice (some ⟨g, 0, none⟩) 1 1 ∧ w.heap.size ≤ g ∧ Blk u g 5 #[.int .u8 ((x.toNat : Int) % 64)])] ?st ?ne rfl (by kernel_rfl) (by kernel_rfl) ?_
        case st =>
          intro p hp
          simp only [List.mem_cons, List.not_mem_nil, or_false] at hp
          subst hp
          · rintro v u u' ⟨g, rfl, hg, h⟩ hk; exact ⟨g, rfl, hg, h.kept hk (fun h => h)⟩
        case ne =>
          intro p hp
          simp only [List.mem_cons, List.not_mem_nil, or_false] at hp
          subst hp
          · exact ⟨_, _, (Kept.refl _ _).alloc _, w.heap.size, rfl, Nat.le_refl _, Blk.new _ _ _⟩
        simp only [List.take_succ_cons, List.take_zero, List.drop_succ_cons, List.drop_zero]
        intro G pick hR hp1 hp2
        have pc1 : ∀ u, (pick u).cell? ⟨b, o, none⟩ = some (.int .u8 (x.toNat : Int)) := fun u => ((hp1 u).cell hb (fun h => h) _).trans c1
        repeat (first | (refine wpR_det hp2 rfl ((hR.rel _).trans rfl) rfl ?_; intro K hK; go_big_quiet_op; go_big_quiet_on) | (refine wpR_skip pick rfl ?_; intro K hK; go_big_quiet_op; go_big_quiet_on))
        refine wpR_rel pick rfl ((hR.rel _).trans rfl) ((hR.turns _).trans rfl) ?_ ?_
        · intro u hu
          have hk := hR.since hu.1
          have hks := hk.size
          unfold relAt
          go_simp
          exact ⟨hR.into0 ((Kept.refl _ _).alloc _), hR.put 0 rfl rfl ⟨_, rfl, hks, Blk.new _ _ _⟩⟩
        intro v hv
        obtain ⟨u, _, hu⟩ := hv
        obtain ⟨g, rfl, hg, -⟩ := hR.get 0 rfl hu
        clear hu
        intro K hK
        go_big_quiet_op
        go_big_quiet_on
        repeat (first | (refine wpR_det hp2 rfl ((hR.rel _).trans rfl) rfl ?_; intro K hK; go_big_quiet_op; go_big_quiet_on) | (refine wpR_skip pick rfl ?_; intro K hK; go_big_quiet_op; go_big_quiet_on))
        refine wpR_nil ?_
        intro w2 hk2 hF hM
        obtain ⟨g', e, -, hblk⟩ := (hR.get 0 rfl (hF _ _ (Got.upd_self _ _ _)))
        obtain rfl : g = g' := by injection e with e; injection e with e; injection e
        have hrow0 : Row w2 w.heap.size 5 (.slice (some ⟨g, 0, none⟩) 1 1) (bcs [y]) := Row.of_blk (cs := #[.int .u8 ((x.toNat : Int) % 64)]) hblk hg (by unfold maxLen; simp) (by simp [bcs, HY6.out])
        have HR0 := Lib.hid hrow0
        have HD2 := Lib.hid (HD.out.on hk2 (fun _ _ h => h))
        have HB2 := Lib.hid (show Below w.heap.size w w2 from hk2.below (Nat.le_refl _) (fun _ h => h.elim))
        have hs2 := hk2.size
        clear e hblk hF hM hk2 pc1 hp1 hp2 hR hrow0
        go_wp2_with (at_builtin; refine wpList_append_row rfl (.tmp 24) (.tmp 27) 34 rfl w.heap.size 5 (.int .u8 0) 1 Try.underlying34 h5 rfl _ (bcs [y]) rfl (some ⟨b, o + 1, none⟩) 3 (c - 1) (bcs tl) rfl ?a0 HR0.out HD2.out.src (bcs_one _) ?a3 ?a4 hs2 ?_)
        case a0 => rw [bcs_length, HTK.out]
        case a3 => rw [bcs_length, bcs_length, HTK.out]; unfold maxLen; simp
        case a4 => rw [bcs_length, bcs_length, HTK.out]; simp
        intro v1 w3 hrow hgr _
        rw [← bcs_append] at hrow
        obtain ⟨NA, nc, hve, -, -, hbs⟩ := Row.byt hrow
        rw [show ([y] ++ tl).length = 4 by rw [List.length_append, HTK.out]; rfl] at hve
        subst hve
        have HN := Lib.hid hbs
        have HB3 := Lib.hid (HB2.out.trans (below_grown hgr (fun i e => by simp [Value.ownBlock] at e; omega) hs2))
        clear hrow hgr hbs
        go_wp2_with fail
        have hz := refNum_any NA nc ([y] ++ tl) w3 (by rw [List.length_append, HTK.out]; simp) HN.out
        rw [show ([y] ++ tl).length = 4 by rw [List.length_append, HTK.out]; rfl] at hz
        refine hz.mono ?_
        rintro e w4 ⟨rfl, rfl⟩
        go_wp2_with fail
        go_ret2
        refine ⟨?_, HB3.out⟩
        rw [HTV.out, HTN.out, ← HVE.out (by omega), show l.take (4 - 1) = tl from HTL.out.symm]
        rfl
    · have hq' : (x.toNat : Int) / 64 = 3 := by omega
      rw [hs] at HTV HTN HVE
      clear hq hs
      by_cases hsh : l.length + 1 < 8
      · rw [if_pos hsh] at HTV HTN
        go_enter Try.func13, Try.ntmps13
        go_wp2_with fail
        refine (power_any 3 w (by omega)).mono ?_
        rintro e w1 ⟨rfl, rfl⟩
        rw [show ((2 ^ 3 : Nat) : Int) = 8 from rfl]
        go_wp2_with fail
        go_ret2
        exact ⟨by rw [HTV.out, HTN.out]; rfl, Below.refl _ _⟩
      · rw [if_neg hsh] at HTV HTN
        have hlI : ¬ ((l.length : Int) + 1 < 8) := by omega
        obtain ⟨tl, htl⟩ : ∃ tl, tl = l.take 7 := ⟨_, rfl⟩
        have HTL := Lib.hid htl
        have HTK := Lib.hid (show tl.length = 7 by rw [htl]; simp; omega)
        have HD := Lib.hid (show BS w w.heap.size (some ⟨b, o + 1, none⟩) tl by rw [htl]; exact (HB.out.drop_ 1).take_ 7)
        clear htl
        have hc1 : ¬ c = 1 := by omega
        have hc1' : ¬ 1 = c := by omega
        go_enter Try.func13, Try.ntmps13
        go_wp2_with fail
        refine (power_any 3 w (by omega)).mono ?_
        rintro e w1 ⟨rfl, rfl⟩
        rw [show ((2 ^ 3 : Nat) : Int) = 8 from rfl]
        go_wp2_with fail
        refine wp_region_kept 8 [(4, fun v u => ∃ g, v = .slice (some ⟨g, 0, none⟩) 1 1 ∧ w.heap.size ≤ g ∧ Blk u g 5 #[.int .u8 ((x.toNat : Int) % 64)])] ?st ?ne rfl (by kernel_rfl) (by kernel_rfl) ?_
        case st =>
          intro p hp
          simp only [List.mem_cons, List.not_mem_nil, or_false] at hp
          subst hp
          · rintro v u u' ⟨g, rfl, hg, h⟩ hk; exact ⟨g, rfl, hg, h.kept hk (fun h => h)⟩
        case ne =>
          intro p hp
          simp only [List.mem_cons, List.not_mem_nil, or_false] at hp
          subst hp
          · exact ⟨_, _, (Kept.refl _ _).alloc _, w.heap.size, rfl, Nat.le_refl _, Blk.new _ _ _⟩
        simp only [List.take_succ_cons, List.take_zero, List.drop_succ_cons, List.drop_zero]
        intro G pick hR hp1 hp2
        have pc1 : ∀ u, (pick u).cell? ⟨b, o, none⟩ = some (.int .u8 (x.toNat : Int)) := fun u => ((hp1 u).cell hb (fun h => h) _).trans c1
        repeat (first | (refine wpR_det hp2 rfl ((hR.rel _).trans rfl) rfl ?_; intro K hK; go_big_quiet_op; go_big_quiet_on) | (refine wpR_skip pick rfl ?_; intro K hK; go_big_quiet_op; go_big_quiet_on))
        refine wpR_rel pick rfl ((hR.rel _).trans rfl) ((hR.turns _).trans rfl) ?_ ?_
        · intro u hu
          have hk := hR.since hu.1
          have hks := hk.size
          unfold relAt
          go_simp
          exact ⟨hR.into0 ((Kept.refl _ _).alloc _), hR.put 0 rfl rfl ⟨_, rfl, hks, Blk.new _ _ _⟩⟩
        intro v hv
        obtain ⟨u, _, hu⟩ := hv
        obtain ⟨g, rfl, hg, -⟩ := hR.get 0 rfl hu
        clear hu
        intro K hK
        go_big_quiet_op
        go_big_quiet_on
        repeat (first | (refine wpR_det hp2 rfl ((hR.rel _).trans rfl) rfl ?_; intro K hK; go_big_quiet_op; go_big_quiet_on) | (refine wpR_skip pick rfl ?_; intro K hK; go_big_quiet_op; go_big_quiet_on))
        refine wpR_nil ?_
        intro w2 hk2 hF hM
        obtain ⟨g', e, -, hblk⟩ := (hR.get 0 rfl (hF _ _ (Got.upd_self _ _ _)))
        obtain rfl : g = g' := by injection e with e; injection e with e; injection e
        have hrow0 : Row w2 w.heap.size 5 (.slice (some ⟨g, 0, none⟩) 1 1) (bcs [y]) := Row.of_blk (cs := #[.int .u8 ((x.toNat : Int) % 64)]) hblk hg (by unfold maxLen; simp) (by simp [bcs, HY6.out])
        have HR0 := Lib.hid hrow0
        have HD2 := Lib.hid (HD.out.on hk2 (fun _ _ h => h))
        have HB2 := Lib.hid (show Below w.heap.size w w2 from hk2.below (Nat.le_refl _) (fun _ h => h.elim))
        have hs2 := hk2.size
        clear e hblk hF hM hk2 pc1 hp1 hp2 hR hrow0
        go_wp2_with (at_builtin; refine wpList_append_row rfl (.tmp 24) (.tmp 27) 34 rfl w.heap.size 5 (.int .u8 0) 1 Try.underlying34 h5 rfl _ (bcs [y]) rfl (some ⟨b, o + 1, none⟩) 7 (c - 1) (bcs tl) rfl ?a0 HR0.out HD2.out.src (bcs_one _) ?a3 ?a4 hs2 ?_)
        case a0 => rw [bcs_length, HTK.out]
        case a3 => rw [bcs_length, bcs_length, HTK.out]; unfold maxLen; simp
        case a4 => rw [bcs_length, bcs_length, HTK.out]; simp
        intro v1 w3 hrow hgr _
        rw [← bcs_append] at hrow
        obtain ⟨NA, nc, hve, -, -, hbs⟩ := Row.byt hrow
        rw [show ([y] ++ tl).length = 8 by rw [List.length_append, HTK.out]; rfl] at hve
        subst hve
        have HN := Lib.hid hbs
        have HB3 := Lib.hid (HB2.out.trans (below_grown hgr (fun i e => by simp [Value.ownBlock] at e; omega) hs2))
        clear hrow hgr hbs
        go_wp2_with fail
        have hz := refNum_any NA nc ([y] ++ tl) w3 (by rw [List.length_append, HTK.out]; simp) HN.out
        rw [show ([y] ++ tl).length = 8 by rw [List.length_append, HTK.out]; rfl] at hz
        refine hz.mono ?_
        rintro e w4 ⟨rfl, rfl⟩
        go_wp2_with fail
        go_ret2
        refine ⟨?_, HB3.out⟩
        rw [HTV.out, HTN.out, ← HVE.out (by omega), show l.take (8 - 1) = tl from HTL.out.symm]
        rfl
end Go.Proofs.Ytpclmedpnoalhaa
