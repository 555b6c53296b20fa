/- The document's text of an address. -/
import Derived.Test.YthfdhggcnkgjfaaGreatDoorTA
import Derived.Test.YthfdhggcnkgjfaaGreatDoorRefNum
namespace Go.Proofs.YthfdhggcnkgjfaaGreatDoor
open Go.RowKit
set_option linter.unusedVariables false
set_option linter.unusedSimpArgs false
theorem ps_lt6 {hi lo q : Nat} (h : q ∈ grp hi ++ grp lo) : q < 65536 := grp_lt h
theorem ps_lt4 {lo q : Nat} (h : q ∈ by4 lo) : q < 256 := by
  unfold by4 at h
  simp only [List.mem_cons, List.not_mem_nil, or_false] at h
  omega
theorem num2 (m : Int) (h : 0 ≤ m) : num [b8 (m / 256), b8 m] = m % 65536 := by
  simp only [num, List.foldl_cons, List.foldl_nil]
  have h1 := b8_val (m / 256)
  have h2 := b8_val m
  omega
theorem digs8 (n : Int) : digs 8 n = [b8 (n / 281474976710656 / 256), b8 (n / 281474976710656), b8 (n / 4294967296 / 256), b8 (n / 4294967296), b8 (n / 65536 / 256), b8 (n / 65536), b8 (n / 256), b8 n] := by
  unfold digs digs digs digs digs digs digs digs digs
  simp only [List.nil_append, List.cons_append]
  have e1 : n / 256 / 256 = n / 65536 := by omega
  have e2 : n / 65536 / 256 / 256 = n / 4294967296 := by omega
  have e3 : n / 4294967296 / 256 / 256 = n / 281474976710656 := by omega
  simp only [e1, e2, e3]
theorem six_at (hi lo : Nat) (k : Nat) (hk : k < 8) : num (((digs 8 (hi : Int) ++ digs 8 (lo : Int)).drop (2 * k)).take 2) = (((grp hi ++ grp lo)[k]'hk : Nat) : Int) := by
  rw [digs8, digs8]
  obtain rfl | rfl | rfl | rfl | rfl | rfl | rfl | rfl : k = 0 ∨ k = 1 ∨ k = 2 ∨ k = 3 ∨ k = 4 ∨ k = 5 ∨ k = 6 ∨ k = 7 := by omega
  · exact (num2 ((hi : Int) / 281474976710656) (by omega)).trans (by show _ = ((hi / 281474976710656 % 65536 : Nat) : Int); omega)
  · exact (num2 ((hi : Int) / 4294967296) (by omega)).trans (by show _ = ((hi / 4294967296 % 65536 : Nat) : Int); omega)
  · exact (num2 ((hi : Int) / 65536) (by omega)).trans (by show _ = ((hi / 65536 % 65536 : Nat) : Int); omega)
  · exact (num2 (hi : Int) (by omega)).trans (by show _ = ((hi % 65536 : Nat) : Int); omega)
  · exact (num2 ((lo : Int) / 281474976710656) (by omega)).trans (by show _ = ((lo / 281474976710656 % 65536 : Nat) : Int); omega)
  · exact (num2 ((lo : Int) / 4294967296) (by omega)).trans (by show _ = ((lo / 4294967296 % 65536 : Nat) : Int); omega)
  · exact (num2 ((lo : Int) / 65536) (by omega)).trans (by show _ = ((lo / 65536 % 65536 : Nat) : Int); omega)
  · exact (num2 (lo : Int) (by omega)).trans (by show _ = ((lo % 65536 : Nat) : Int); omega)
theorem num1 (m : Int) : num [b8 m] = m % 256 := by
  simp only [num, List.foldl_cons, List.foldl_nil]
  have h2 := b8_val m
  omega
theorem digs4 (n : Int) : digs 4 n = [b8 (n / 16777216), b8 (n / 65536), b8 (n / 256), b8 n] := by
  unfold digs digs digs digs digs
  simp only [List.nil_append, List.cons_append]
  have e1 : n / 256 / 256 = n / 65536 := by omega
  have e2 : n / 65536 / 256 = n / 16777216 := by omega
  simp only [e1, e2]
theorem four_at (lo : Nat) (k : Nat) (hk : k < 4) : num (((digs 4 (lo : Int)).drop k).take 1) = (((by4 lo)[k]'hk : Nat) : Int) := by
  rw [digs4]
  obtain rfl | rfl | rfl | rfl : k = 0 ∨ k = 1 ∨ k = 2 ∨ k = 3 := by omega
  · exact (num1 ((lo : Int) / 16777216)).trans (by show _ = ((lo / 16777216 % 256 : Nat) : Int); omega)
  · exact (num1 ((lo : Int) / 65536)).trans (by show _ = ((lo / 65536 % 256 : Nat) : Int); omega)
  · exact (num1 ((lo : Int) / 256)).trans (by show _ = ((lo / 256 % 256 : Nat) : Int); omega)
  · exact (num1 (lo : Int)).trans (by show _ = ((lo % 256 : Nat) : Int); omega)
set_option maxRecDepth 20000 in
set_option maxHeartbeats 8000000 in
theorem refText_six (hi lo : Nat) (h1 : hi < 18446744073709551616) (l1 : lo < 18446744073709551616) (w : World) : Calls Tryz.prog 26 #[.agg #[.bool true, .int .u64 (hi : Int), .int .u64 (lo : Int)]] w (WordR w (adrT ⟨true, hi, lo⟩)) := by
  have HBY := Lib.hid (fun W => refAdBytes_any ⟨true, (hi : Int), (lo : Int)⟩ W ⟨Int.natCast_nonneg _, by show (hi : Int) < 18446744073709551616; omega, Int.natCast_nonneg _, by show (lo : Int) < 18446744073709551616; omega⟩)
  go_enter Tryz.func26, Tryz.ntmps26
  go_upto_region 1 with fail
  obtain ⟨w1, hw1⟩ : ∃ w1 : World, w1 = w.alloc (.cells #[.bool true, .int .u64 (hi : Int), .int .u64 (lo : Int)] 25) := ⟨_, rfl⟩
  have HK1 := Lib.hid (show Kept (fun _ => False) w w1 by rw [hw1]; exact (Kept.refl _ _).alloc _)
  have HN1 := Lib.hid (show Blk w1 w.heap.size 25 #[.bool true, .int .u64 (hi : Int), .int .u64 (lo : Int)] by rw [hw1]; exact Blk.new _ _ _)
  rw [← hw1]
  clear hw1
  have cB := HN1.out.cell
  go_wp2_with fail
  refine (HBY.out w1).mono ?_
  rintro e w2 ⟨v, rfl, hrow, hb⟩
  obtain ⟨bs, hbs⟩ : ∃ bs, (digs 8 (hi : Int) ++ digs 8 (lo : Int)) = bs := ⟨_, rfl⟩
  have hrow' : Row w2 w1.heap.size 5 v (bcs bs) := by rw [← hbs]; exact hrow
  have hbl : bs.length = 16 := by rw [← hbs]; rw [List.length_append, digs_length, digs_length]
  have HNM := Lib.hid (show ∀ k (hk : k < 8), num ((bs.drop (2 * k)).take 2) = (((grp hi ++ grp lo)[k]'hk : Nat) : Int) from fun k hk => by rw [← hbs]; exact six_at hi lo k hk)
  have HK := Lib.hid (HK1.out.trans (Kept.ofB hb))
  have HN2 := Lib.hid (HN1.out.below hb HN1.out.lt)
  have wz := HK.out.size
  obtain ⟨_, _, hve0, hvl, hvm⟩ := hrow'.shape
  obtain ⟨g, c, rfl, hg0, hg1, hcs⟩ := hrow'.at (i := 0) (by rw [bcs_length]; omega)
  injection hve0 with hA _ hcc
  subst hA hcc
  have hbl2 : (bcs bs).length = 16 := by rw [bcs_length, hbl]
  have HC := Lib.hid (show BytesAt w2 g 0 bs from fun k hk => by rw [Nat.zero_add, hcs k (by rw [bcs_length]; exact hk)]; simp [bcs])
  rw [hbl2] at hvl ⊢
  clear hrow hrow' hb hcs hg0 hbs cB HN1 HK1 hbl2
  have cB := HN2.out.cell
  go_wp2_with fail
  go_loopw [4, 8] (fun v n wr => ∃ (k : Nat) (y : ByteArray), k ≤ 8 ∧ n = .int .i64 (2 * (k : Int)) ∧ v = .string y ∧ Hid (y.data.toList = joinC 58 (((grp hi ++ grp lo).take k).map (digB 16))) ∧ Hid (Kept (fun _ => False) w2 wr)) (fun _ n _ => 16 - (intOf n).toNat)
  case atStart => exact ⟨0, _, by omega, rfl, rfl, Lib.hid rfl, Lib.hid (Kept.refl _ _)⟩
  case round =>
    obtain ⟨k, y, hk, rfl, rfl, HY, HK2⟩ := hrel
    have k0 : (0 : Int) ≤ (k : Int) := Int.natCast_nonneg _
    have wz2 := HK2.out.size
    by_cases hlt : k < 8
    · have kI : 2 * (k : Int) < 16 := by omega
      have hkl : k < (grp hi ++ grp lo).length := hlt
      obtain ⟨x, hx⟩ : ∃ x, (grp hi ++ grp lo)[k] = x := ⟨_, rfl⟩
      have HTK := Lib.hid (show (grp hi ++ grp lo).take (k + 1) = (grp hi ++ grp lo).take k ++ [x] by rw [List.take_succ_eq_append_getElem hkl, hx])
      have HXB := Lib.hid (show x < 65536 by rw [← hx]; exact ps_lt6 (List.getElem_mem hkl))
      have hyl : y.size ≤ 60 := by
        rw [Lib.size_eq, HY.out]
        refine Nat.le_trans (joinC_len_le 58 4 _ ?_) (by simp [grp, by4]; omega)
        intro p hp
        obtain ⟨q, hq, rfl⟩ := List.mem_map.1 hp
        exact digB_len (b := 16) (by omega) 3 q (ps_lt6 (List.mem_of_mem_take hq))
      have HNU := Lib.hid (show Calls Tryz.prog 49 #[.slice (some ⟨g, 2 * k, none⟩) 2 (c - 2 * k)] wr fun e w' => e = .returned (.int .u64 (x : Int)) ∧ w' = wr by
        have hb := (HC.out.kept HK2.out hg1 (fun h => h)).drop (2 * k) |>.take 2
        have hl2 : ((bs.drop (2 * k)).take 2).length = 2 := by simp; omega
        have h := refNum_any (some ⟨g, 0 + 2 * k, none⟩) (c - 2 * k) ((bs.drop (2 * k)).take 2) wr (by omega) (BS.of_at hb (by omega))
        rw [hl2, Nat.zero_add, show num ((bs.drop (2 * k)).take 2) = (x : Int) from (HNM.out k hlt).trans (congrArg (fun (z : Nat) => (z : Int)) hx)] at h
        exact h.mono (by rintro e w' ⟨rfl, rfl⟩; exact ⟨rfl, rfl⟩))
      have HDG := Lib.hid (fun W => refDigits_any x 16 (by have := HXB.out; omega) (by decide) W)
      clear hx
      by_cases hk1 : k = 0
      · subst hk1
        go_wp2_with fail
        refine HNU.out.mono ?_
        rintro e w3 ⟨rfl, rfl⟩
        go_wp2_with fail
        refine (HDG.out w3).mono ?_
        rintro e w4 ⟨z, rfl, hz, hk4⟩
        have HZ := Lib.hid hz
        have HK4 := Lib.hid (HK2.out.trans hk4)
        have hzl : z.size ≤ 4 := by
          rw [Lib.size_eq, hz]
          exact digB_len (b := 16) (by omega) 3 x HXB.out
        have hz2 : ¬ (9223372036854775807 < y.size + z.size) := by omega
        clear hz hk4 HNU HDG
        go_wp2_with fail
        go_roundw
        case rel => exact ⟨1, _, by omega, by go_num, rfl, Lib.hid (by rw [HTK.out, cat_data, HY.out, HZ.out]; rfl), HK4⟩
        case measure => simp [intOf] <;> omega
      · have kP : (0 : Int) < 2 * (k : Int) := by omega
        have hz1 : ¬ (9223372036854775807 < y.size + 1) := by omega
        have hne : ((grp hi ++ grp lo).take k).map (digB 16) ≠ [] := fun e => by have := congrArg List.length e; simp [grp, by4] at this; omega
        go_wp2_with fail
        refine HNU.out.mono ?_
        rintro e w3 ⟨rfl, rfl⟩
        go_wp2_with fail
        refine (HDG.out w3).mono ?_
        rintro e w4 ⟨z, rfl, hz, hk4⟩
        have HZ := Lib.hid hz
        have HK4 := Lib.hid (HK2.out.trans hk4)
        have hzl : z.size ≤ 4 := by
          rw [Lib.size_eq, hz]
          exact digB_len (b := 16) (by omega) 3 x HXB.out
        have hz2 : ¬ (9223372036854775807 < (y.size + 1) + z.size) := by omega
        clear hz hk4 HNU HDG
        go_wp2_with fail
        go_roundw
        case rel => exact ⟨k + 1, _, by omega, by go_num, rfl, Lib.hid (by rw [HTK.out, List.map_append, List.map_cons, List.map_nil, joinC_snoc _ _ hne, cat_data, cat_data, HY.out, HZ.out]; simp), HK4⟩
        case measure => simp [intOf] <;> omega
    · obtain rfl : k = 8 := by omega
      have HF := Lib.hid (show y.data.toList = adrT ⟨true, hi, lo⟩ by rw [HY.out, List.take_of_length_le (by simp [grp, by4])]; unfold adrT; rw [if_pos rfl])
      go_wp2_with fail
      go_ret
      exact ⟨y, rfl, HF.out, HK.out.trans HK2.out⟩
set_option maxRecDepth 20000 in
set_option maxHeartbeats 8000000 in
theorem refText_four (hi lo : Nat) (h1 : hi < 18446744073709551616) (l1 : lo < 18446744073709551616) (w : World) : Calls Tryz.prog 26 #[.agg #[.bool false, .int .u64 (hi : Int), .int .u64 (lo : Int)]] w (WordR w (adrT ⟨false, hi, lo⟩)) := by
  have HBY := Lib.hid (fun W => refAdBytes_any ⟨false, (hi : Int), (lo : Int)⟩ W ⟨Int.natCast_nonneg _, by show (hi : Int) < 18446744073709551616; omega, Int.natCast_nonneg _, by show (lo : Int) < 18446744073709551616; omega⟩)
  go_enter Tryz.func26, Tryz.ntmps26
  go_upto_region 1 with fail
  obtain ⟨w1, hw1⟩ : ∃ w1 : World, w1 = w.alloc (.cells #[.bool false, .int .u64 (hi : Int), .int .u64 (lo : Int)] 25) := ⟨_, rfl⟩
  have HK1 := Lib.hid (show Kept (fun _ => False) w w1 by rw [hw1]; exact (Kept.refl _ _).alloc _)
  have HN1 := Lib.hid (show Blk w1 w.heap.size 25 #[.bool false, .int .u64 (hi : Int), .int .u64 (lo : Int)] by rw [hw1]; exact Blk.new _ _ _)
  rw [← hw1]
  clear hw1
  have cB := HN1.out.cell
  go_wp2_with fail
  refine (HBY.out w1).mono ?_
  rintro e w2 ⟨v, rfl, hrow, hb⟩
  obtain ⟨bs, hbs⟩ : ∃ bs, digs 4 (lo : Int) = bs := ⟨_, rfl⟩
  have hrow' : Row w2 w1.heap.size 5 v (bcs bs) := by rw [← hbs]; exact hrow
  have hbl : bs.length = 4 := by rw [← hbs]; exact digs_length _ _
  have HNM := Lib.hid (show ∀ k (hk : k < 4), num ((bs.drop (k)).take 1) = (((by4 lo)[k]'hk : Nat) : Int) from fun k hk => by rw [← hbs]; exact four_at lo k hk)
  have HK := Lib.hid (HK1.out.trans (Kept.ofB hb))
  have HN2 := Lib.hid (HN1.out.below hb HN1.out.lt)
  have wz := HK.out.size
  obtain ⟨_, _, hve0, hvl, hvm⟩ := hrow'.shape
  obtain ⟨g, c, rfl, hg0, hg1, hcs⟩ := hrow'.at (i := 0) (by rw [bcs_length]; omega)
  injection hve0 with hA _ hcc
  subst hA hcc
  have hbl2 : (bcs bs).length = 4 := by rw [bcs_length, hbl]
  have HC := Lib.hid (show BytesAt w2 g 0 bs from fun k hk => by rw [Nat.zero_add, hcs k (by rw [bcs_length]; exact hk)]; simp [bcs])
  rw [hbl2] at hvl ⊢
  clear hrow hrow' hb hcs hg0 hbs cB HN1 HK1 hbl2
  have cB := HN2.out.cell
  go_wp2_with fail
  go_loopw [4, 8] (fun v n wr => ∃ (k : Nat) (y : ByteArray), k ≤ 4 ∧ n = .int .i64 ((k : Int)) ∧ v = .string y ∧ Hid (y.data.toList = joinC 46 (((by4 lo).take k).map (digB 10))) ∧ Hid (Kept (fun _ => False) w2 wr)) (fun _ n _ => 4 - (intOf n).toNat)
  case atStart => exact ⟨0, _, by omega, rfl, rfl, Lib.hid rfl, Lib.hid (Kept.refl _ _)⟩
  case round =>
    obtain ⟨k, y, hk, rfl, rfl, HY, HK2⟩ := hrel
    have k0 : (0 : Int) ≤ (k : Int) := Int.natCast_nonneg _
    have wz2 := HK2.out.size
    by_cases hlt : k < 4
    · have kI : (k : Int) < 4 := by omega
      have hkl : k < (by4 lo).length := hlt
      obtain ⟨x, hx⟩ : ∃ x, (by4 lo)[k] = x := ⟨_, rfl⟩
      have HTK := Lib.hid (show (by4 lo).take (k + 1) = (by4 lo).take k ++ [x] by rw [List.take_succ_eq_append_getElem hkl, hx])
      have HXB := Lib.hid (show x < 256 by rw [← hx]; exact ps_lt4 (List.getElem_mem hkl))
      have hyl : y.size ≤ 60 := by
        rw [Lib.size_eq, HY.out]
        refine Nat.le_trans (joinC_len_le 46 4 _ ?_) (by simp [grp, by4]; omega)
        intro p hp
        obtain ⟨q, hq, rfl⟩ := List.mem_map.1 hp
        exact Nat.le_trans (digB_len (b := 10) (by omega) 2 q (Nat.lt_of_lt_of_le (ps_lt4 (List.mem_of_mem_take hq)) (by decide))) (by omega)
      have HNU := Lib.hid (show Calls Tryz.prog 49 #[.slice (some ⟨g, k, none⟩) 1 (c - k)] wr fun e w' => e = .returned (.int .u64 (x : Int)) ∧ w' = wr by
        have hb := (HC.out.kept HK2.out hg1 (fun h => h)).drop (k) |>.take 1
        have hl2 : ((bs.drop (k)).take 1).length = 1 := by simp; omega
        have h := refNum_any (some ⟨g, 0 + k, none⟩) (c - k) ((bs.drop (k)).take 1) wr (by omega) (BS.of_at hb (by omega))
        rw [hl2, Nat.zero_add, show num ((bs.drop (k)).take 1) = (x : Int) from (HNM.out k hlt).trans (congrArg (fun (z : Nat) => (z : Int)) hx)] at h
        exact h.mono (by rintro e w' ⟨rfl, rfl⟩; exact ⟨rfl, rfl⟩))
      have HDG := Lib.hid (fun W => refDigits_any x 10 (by have := HXB.out; omega) (by decide) W)
      clear hx
      by_cases hk1 : k = 0
      · subst hk1
        go_wp2_with fail
        refine HNU.out.mono ?_
        rintro e w3 ⟨rfl, rfl⟩
        go_wp2_with fail
        refine (HDG.out w3).mono ?_
        rintro e w4 ⟨z, rfl, hz, hk4⟩
        have HZ := Lib.hid hz
        have HK4 := Lib.hid (HK2.out.trans hk4)
        have hzl : z.size ≤ 4 := by
          rw [Lib.size_eq, hz]
          exact Nat.le_trans (digB_len (b := 10) (by omega) 2 x (Nat.lt_of_lt_of_le HXB.out (by decide))) (by omega)
        have hz2 : ¬ (9223372036854775807 < y.size + z.size) := by omega
        clear hz hk4 HNU HDG
        go_wp2_with fail
        go_roundw
        case rel => exact ⟨1, _, by omega, by go_num, rfl, Lib.hid (by rw [HTK.out, cat_data, HY.out, HZ.out]; rfl), HK4⟩
        case measure => simp [intOf] <;> omega
      · have kP : (0 : Int) < (k : Int) := by omega
        have hz1 : ¬ (9223372036854775807 < y.size + 1) := by omega
        have hne : ((by4 lo).take k).map (digB 10) ≠ [] := fun e => by have := congrArg List.length e; simp [grp, by4] at this; omega
        go_wp2_with fail
        refine HNU.out.mono ?_
        rintro e w3 ⟨rfl, rfl⟩
        go_wp2_with fail
        refine (HDG.out w3).mono ?_
        rintro e w4 ⟨z, rfl, hz, hk4⟩
        have HZ := Lib.hid hz
        have HK4 := Lib.hid (HK2.out.trans hk4)
        have hzl : z.size ≤ 4 := by
          rw [Lib.size_eq, hz]
          exact Nat.le_trans (digB_len (b := 10) (by omega) 2 x (Nat.lt_of_lt_of_le HXB.out (by decide))) (by omega)
        have hz2 : ¬ (9223372036854775807 < (y.size + 1) + z.size) := by omega
        clear hz hk4 HNU HDG
        go_wp2_with fail
        go_roundw
        case rel => exact ⟨k + 1, _, by omega, by go_num, rfl, Lib.hid (by rw [HTK.out, List.map_append, List.map_cons, List.map_nil, joinC_snoc _ _ hne, cat_data, cat_data, HY.out, HZ.out]; simp), HK4⟩
        case measure => simp [intOf] <;> omega
    · obtain rfl : k = 4 := by omega
      have HF := Lib.hid (show y.data.toList = adrT ⟨false, hi, lo⟩ by rw [HY.out, List.take_of_length_le (by simp [grp, by4])]; unfold adrT; rw [if_neg (by simp)])
      go_wp2_with fail
      go_ret
      exact ⟨y, rfl, HF.out, HK.out.trans HK2.out⟩
theorem refText_any (a : Adr) (h1 : a.hi < 18446744073709551616) (l1 : a.lo < 18446744073709551616) (w : World) : Calls Tryz.prog 26 #[.agg #[.bool a.six, .int .u64 (a.hi : Int), .int .u64 (a.lo : Int)]] w (WordR w (adrT a)) := by
  obtain ⟨six, hi, lo⟩ := a
  cases six with
  | true => exact refText_six hi lo h1 l1 w
  | false => exact refText_four hi lo h1 l1 w
end Go.Proofs.YthfdhggcnkgjfaaGreatDoor
