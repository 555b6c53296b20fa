/- The reference's Get and Frame, walked. -/
import Derived.Test.YtnfolopodjdlbaaE
import Derived.Test.YtnfolopodjdlbaaRefBytes
import Derived.Test.YtnfolopodjdlbaaRefJoin
import Derived.Test.YtnfolopodjdlbaaRefNum
import Derived.Test.YtnfolopodjdlbaaBysN
namespace Go.Proofs.Ytnfolopodjdlbaa
open Go.RowKit
set_option linter.unusedVariables false
theorem BS.alloc_ {w : World} {A : Option Addr} {l : List UInt8} (h : BS w w.heap.size A l) (o : Obj) : BS (w.alloc o) (w.alloc o).heap.size A l := (h.alloc (Nat.le_refl _) o).more (by rw [World.size_alloc]; omega)
theorem get2_any (A : Option Addr) (c at_ : Nat) (b : List UInt8) (w : World) (hl : b.length ≤ 100000) (hc : b.length ≤ c) (hcm : c ≤ maxLen) (ha : at_ + 2 ≤ b.length) (hB : BS w w.heap.size A b) :
    Calls Try.prog 17 #[.slice A b.length c, .int .i64 (at_ : Int), .int .i64 2] w fun e w' => e = .returned (.int .u64 (num ((b.drop at_).take 2))) ∧ w' = w := by
  obtain ⟨bb, o, hbb, rfl, hby⟩ := hB.at (k := 0) (by omega)
  unfold maxLen at hcm
  have e2 : ((b.drop at_).take 2).length = 2 := by simp; omega
  have hz := refNum_any (some ⟨bb, o + at_, none⟩) (c - at_) ((b.drop at_).take 2) w (by omega) ((hB.drop_ at_).take_ 2)
  rw [e2] at hz
  have HZ := Lib.hid hz
  have a0 : (0 : Int) ≤ (at_ : Int) := Int.natCast_nonneg _
  have a1 : (at_ : Int) + 2 ≤ (b.length : Int) := by omega
  have a2 : (at_ : Int) + 2 ≤ (c : Int) := by omega
  have a3 : at_ < c := by omega
  have a4 : (at_ : Int) ≤ 100000 := by omega
  clear hB hz e2 hby
  go_enter Try.func17, Try.ntmps17
  go_wp2_with fail
  all_goals
    first
    | (exfalso; omega)
    | (refine HZ.out.mono ?_
       rintro e w1 ⟨rfl, rfl⟩
       go_wp2_with fail
       go_ret
       exact ⟨rfl, rfl⟩)
set_option maxHeartbeats 4000000 in
theorem refFrame_any (A : Option Addr) (c : Nat) (x : List UInt8) (n : Int) (w : World) (hx : x.length ≤ 4096) (hxc : x.length ≤ c) (hcm : c ≤ maxLen) (n0 : 0 ≤ n) (n1 : n < 18446744073709551616) (hB : BS w w.heap.size A x) :
    Calls Try.prog 8 #[.int .u64 n, .slice A x.length c] w fun e w' => ∃ v, e = .returned v ∧ Byt w' v (frame n x) ∧ Below w.heap.size w w' := by
  have h5 := Try.info5d
  have HB := Lib.hid hB
  have HXC := Lib.hid (show x.length ≤ c ∧ c ≤ maxLen from ⟨hxc, hcm⟩)
  have xl : (0 : Int) ≤ (x.length : Int) := Int.natCast_nonneg _
  have xl2 : (x.length : Int) ≤ 4096 := by omega
  clear hB hxc hcm
  go_enter Try.func8, Try.ntmps8
  go_wp2_with fail
  refine (refBytes_any 8 n 8 w n0 n1 (by omega)).mono ?_
  rintro e w1 ⟨rfl, ho1, hb1⟩
  have HO1 := Lib.hid ho1
  have HW1 := Lib.hid hb1
  clear ho1 hb1
  go_wp2_with fail
  refine (refBytes_any 2 (x.length : Int) 2 w1 (by omega) (by omega) (by omega)).mono ?_
  rintro e w2 ⟨rfl, ho2, hb2⟩
  have HO2 := Lib.hid ho2
  have HO12 := Lib.hid (HO1.out.below hb2 HO1.out.lt)
  have HW2 := Lib.hid (show Below w.heap.size w w2 from HW1.out.trans (hb2.mono HW1.out.size))
  have HS2 := Lib.hid (show w.heap.size ≤ w2.heap.size from HW2.out.size)
  clear ho2 hb2
  go_wp2_with (at_builtin; refine wpList_append_row rfl (.tmp 8) (.tmp 12) 22 rfl w.heap.size 5 (.int .u8 0) 1 Try.underlying22 h5 rfl _ (bcs (digs 8 n)) rfl (some ⟨w1.heap.size, 0, none⟩) 2 2 (bcs (digs 2 (x.length : Int))) rfl ?a0 ?a1 ?a2 (bcs_one _) ?a3 ?a4 ?a5 ?_)
  case a0 => rw [bcs_length, digs_length]
  case a1 =>
    have := HO12.out.own (Nat.le_refl _)
    rw [digs_length] at this
    exact (show Row w2 w.heap.size 5 (.slice (some ⟨w.heap.size, 0, none⟩) 8 8) (bcs (digs 8 n)) by unfold Row; rw [bcs_length, digs_length]; exact this)
  case a2 => exact HO2.out.bs.src
  case a3 => rw [bcs_length, bcs_length, digs_length, digs_length]; decide
  case a4 => rw [bcs_length, bcs_length, digs_length, digs_length]; decide
  case a5 => exact HS2.out
  intro v3 w3 hrow hgr _
  rw [← bcs_append] at hrow
  have hb3 := (show Row w3 w.heap.size 5 v3 (bcs (hd n x)) from hrow).byt
  have hk3 : Kept (fun i => w.heap.size ≤ i) w2 w3 := kept_grown hgr (fun i e _ => by simp [Value.ownBlock] at e; omega)
  have HW3 := Lib.hid (show Below w.heap.size w w3 from HW2.out.trans (hk3.below HW2.out.size (fun i h => h)))
  obtain ⟨HA, hc3, hve, hl3, hm3, hbs3⟩ := hb3
  rw [hd_len] at hve hl3
  subst hve
  have HBS := Lib.hid hbs3
  have HHC := Lib.hid (show 10 ≤ hc3 ∧ hc3 ≤ maxLen from ⟨hl3, hm3⟩)
  clear hrow hgr hk3 hbs3 hl3 hm3
  -- the bytes for the sum
  go_wp2_with (at_builtin; refine wpList_append_row rfl (.tmp 14) (.tmp 15) 22 rfl w3.heap.size 5 (.int .u8 0) 1 Try.underlying22 h5 rfl _ (bcs []) rfl HA 10 hc3 (bcs (hd n x)) rfl ?b0 ?b1 ?b2 (bcs_one _) ?b3 ?b4 ?b5 ?_)
  case b0 => rw [bcs_length, hd_len]
  case b1 => exact Row.of_blk (cs := #[]) (Blk.new_ rfl _ _) (Nat.le_refl _) (by simp) rfl
  case b2 => exact (HBS.out.alloc (Nat.le_refl _) _).src
  case b3 => rw [bcs_length, bcs_length, hd_len]; decide
  case b4 => rw [bcs_length, bcs_length, hd_len]; decide
  case b5 => rw [World.size_alloc]; omega
  intro v4 w4 hrow hgr _
  rw [← bcs_append, List.nil_append] at hrow
  have HR4 := Lib.hid hrow
  have HK4 := Lib.hid (show Kept (fun i => w3.heap.size ≤ i) w3 w4 from Kept.trans ((Kept.refl _ _).alloc _) (kept_grown hgr (fun i e _ => by simp [Value.ownBlock] at e; omega)))
  have HBX4 := Lib.hid (show BS w4 w4.heap.size A x from ((HB.out.onB HW3.out (Nat.le_refl _)).on HK4.out (fun i h1 h2 => by omega)))
  have HH4 := Lib.hid (show BS w4 w4.heap.size HA (hd n x) from HBS.out.on HK4.out (fun i h1 h2 => by omega))
  have HW4 := Lib.hid (show Below w.heap.size w w4 from HW3.out.trans (HK4.out.below HW3.out.size (fun i h => by have := HW3.out.size; omega)))
  clear hrow hgr
  go_wp2_with (at_builtin; refine wpList_append_row rfl (.tmp 16) (.tmp 17) 22 rfl w3.heap.size 5 (.int .u8 0) 1 Try.underlying22 h5 rfl _ (bcs (hd n x)) rfl A x.length c (bcs x) rfl ?c0 HR4.out HBX4.out.src (bcs_one _) ?c3 ?c4 HK4.out.size ?_)
  case c0 => rw [bcs_length]
  case c3 => rw [bcs_length, bcs_length, hd_len]; unfold maxLen; omega
  case c4 => rw [bcs_length, bcs_length, hd_len]; omega
  intro v5 w5 hrow hgr _
  rw [← bcs_append] at hrow
  obtain ⟨Z, hZ⟩ : ∃ Z, hd n x ++ x = Z := ⟨_, rfl⟩
  have hZl : Z.length ≤ 10000 := by rw [← hZ, List.length_append, hd_len]; omega
  rw [hZ] at hrow
  have HZ := Lib.hid hZ
  have HZL := Lib.hid hZl
  clear hZ hZl
  have hk5 : Kept (fun i => w3.heap.size ≤ i) w4 w5 := kept_grown hgr (fun i e _ => (HR4.out.lt i e).1)
  have HK5 := Lib.hid (HK4.out.trans hk5)
  have hb5 := hrow.byt
  obtain ⟨SA, sc, hve, hl5, hm5, hbs5⟩ := hb5
  subst hve
  have HBS5 := Lib.hid hbs5
  have HW5 := Lib.hid (show Below w.heap.size w w5 from HW3.out.trans (HK5.out.below HW3.out.size (fun i h => by have := HW3.out.size; omega)))
  clear hrow hgr hk5 hbs5 hl5 hm5
  go_wp2_with fail
  refine (refCrc_any SA sc Z w5 (by have := HZL.out; omega) HBS5.out).mono ?_
  rintro e w6 ⟨rfl, rfl⟩
  have HCR := Lib.hid (show (crc 4294967295 Z ^^^ 4294967295 : Nat) = crcOf (hd n x ++ x) by rw [HZ.out]; rfl)
  rw [HCR.out]
  have HCL := Lib.hid (crcOf_lt (hd n x ++ x))
  obtain ⟨cv, hcv⟩ : ∃ cv, crcOf (hd n x ++ x) = cv := ⟨_, rfl⟩
  rw [hcv] at HCL ⊢
  have HCV := Lib.hid hcv
  have cv0 : (0 : Int) ≤ (cv : Int) := Int.natCast_nonneg _
  have cv1 : (cv : Int) < 4294967296 := by have := HCL.out; omega
  clear hcv
  go_wp2_with fail
  refine (refBytes_any 4 (cv : Int) 4 w5 (by omega) (by omega) (by omega)).mono ?_
  rintro e w7 ⟨rfl, ho7, hb7⟩
  have HO7 := Lib.hid ho7
  have HK7 := Lib.hid (show Kept (fun i => w3.heap.size ≤ i) w3 w7 from HK5.out.trans (Kept.of_below hb7 (fun i h1 h2 => by have := HK5.out.size; omega)))
  have HW7 := Lib.hid (show Below w.heap.size w w7 from HW3.out.trans (HK7.out.below HW3.out.size (fun i h => by have := HW3.out.size; omega)))
  have HB7 := Lib.hid (show BS w7 w7.heap.size A x from (HB.out.onB HW3.out (Nat.le_refl _)).on HK7.out (fun i h1 h2 => by omega))
  have HH7 := Lib.hid (show BS w7 w7.heap.size HA (hd n x) from HBS.out.on HK7.out (fun i h1 h2 => by omega))
  clear ho7 hb7
  go_wp2_with fail
  refine (refJoin_any w7.heap.size 3 [.slice HA 10 hc3, .slice (some ⟨w5.heap.size, 0, none⟩) 4 4, .slice A x.length c] [hd n x, digs 4 (cv : Int), x] _ ?_ (show 3 ≤ 1000000 by decide) (by simp [hd_len, digs_length]; omega)).mono ?_
  · refine Al.bys (t := 22) ⟨⟨HA, hc3, by rw [hd_len], by rw [hd_len]; exact HHC.out.1, HHC.out.2, HH7.out.alloc_ _⟩, ⟨some ⟨w5.heap.size, 0, none⟩, 4, by rw [digs_length], by rw [digs_length]; exact Nat.le_refl _, by decide, (HO7.out.alloc _).bs⟩, ⟨A, c, rfl, HXC.out.1, HXC.out.2, HB7.out.alloc_ _⟩, trivial⟩ (Blk.new _ _ _)
  rintro e w8 ⟨v, rfl, hv, hb8⟩
  have HV := Lib.hid hv
  have HW8 := Lib.hid (show Below w.heap.size w w8 from (HW7.out.alloc HW7.out.size _).trans (hb8.mono (by rw [World.size_alloc]; have := HW7.out.size; omega)))
  clear hv hb8
  go_wp2_with fail
  go_ret
  refine ⟨_, rfl, ?_, HW8.out⟩
  have := HV.out
  rw [← HCV.out] at this
  simpa [frame] using this
end Go.Proofs.Ytnfolopodjdlbaa
