/- script.Parse at 'offer 0'. -/
import Derived.Test.YtdnbhmfofphblaaGreatDoorVL
namespace Go.Proofs.YtdnbhmfofphblaaGreatDoor
open Go.RowKit
set_option maxRecDepth 100000
set_option linter.unusedVariables false
set_option linter.unusedSimpArgs false
theorem digit_any (c : Int) (h0 : 48 ≤ c) (h1 : c ≤ 57) (b : Int) (w : World) : Calls Tryz.prog 188 #[.int .u8 c, .int .i64 b] w fun e w' => e = .returned (.int .i64 (c - 48)) ∧ w' = w := by
  go_enter Tryz.func188, Tryz.ntmps188
  go_wp2_with fail
  go_ret
  refine ⟨?_, rfl⟩
  go_num
set_option maxHeartbeats 2000000 in
theorem num0_any (w : World) : Calls Tryz.prog 147 #[.string ⟨#[48]⟩, .int .i64 10, .int .i64 1073741824] w fun e w' => e = .returned (.tuple #[.int .i64 0, .bool true]) ∧ w' = w := by
  go_enter Tryz.func147, Tryz.ntmps147
  go_wp2_with fail
  go_loop [8, 34] (fun n i => (i = .int .i64 0 ∧ n = .int .i64 0) ∨ (i = .int .i64 1 ∧ n = .int .i64 0)) (fun _ i => (2 - intOf i).toNat)
  case atStart => exact .inl ⟨rfl, rfl⟩
  case round =>
    rcases hrel with ⟨rfl, rfl⟩ | ⟨rfl, rfl⟩
    · go_wp2_with fail
      refine (digit_any 48 (by omega) (by omega) 10 w).mono ?_
      rintro e w1 ⟨rfl, rfl⟩
      go_wp2_with fail
      go_round
      case rel => exact .inr ⟨rfl, rfl⟩
      case measure => simp [intOf]
    · go_wp2_with fail
      go_ret2
      exact ⟨rfl, rfl⟩
set_option maxHeartbeats 2000000 in
theorem cut_a (w : World) : Calls Tryz.prog 92 #[.string ⟨#[111, 102, 102, 101, 114, 32, 48]⟩, .string ⟨#[32]⟩] w fun e w' => e = .returned (.tuple #[.string ⟨#[111, 102, 102, 101, 114]⟩, .string ⟨#[48]⟩, .bool true]) ∧ Below w.heap.size w w' := by
  have HI := Lib.hid ((Tryz.stringslite_Index_one ⟨#[111, 102, 102, 101, 114, 32, 48]⟩ 32 w).mono (R' := fun e w' => e = .returned (.int .i64 (5)) ∧ w' = w) (fun e w' h => ⟨h.1.trans (by kernel_rfl), h.2⟩))
  have HC : Calls Tryz.prog 145 #[.string ⟨#[111, 102, 102, 101, 114, 32, 48]⟩, .string ⟨#[32]⟩] w fun e w' => e = .returned (.tuple #[.string ⟨#[111, 102, 102, 101, 114]⟩, .string ⟨#[48]⟩, .bool true]) ∧ Below w.heap.size w w' := by
    go_enter Tryz.func145, Tryz.ntmps145
    go_wp2_with fail
    refine HI.out.mono ?_
    rintro e w1 ⟨rfl, rfl⟩
    go_wp2_with fail
    go_region
    go_wp2_with fail
    go_ret3
    exact ⟨by kernel_rfl, belowN (Below.refl _ _) 1⟩
  have HC := Lib.hid HC
  go_enter Tryz.func92, Tryz.ntmps92
  go_wp2_with fail
  refine HC.out.mono ?_
  rintro e w1 ⟨rfl, hb1⟩
  go_wp2_with fail
  go_ret3
  exact ⟨rfl, hb1⟩
set_option maxHeartbeats 2000000 in
theorem cut_c (w : World) : Calls Tryz.prog 92 #[.string ⟨#[48]⟩, .string ⟨#[32]⟩] w fun e w' => e = .returned (.tuple #[.string ⟨#[48]⟩, .string ⟨#[]⟩, .bool false]) ∧ Below w.heap.size w w' := by
  have HI := Lib.hid ((Tryz.stringslite_Index_one ⟨#[48]⟩ 32 w).mono (R' := fun e w' => e = .returned (.int .i64 (-1)) ∧ w' = w) (fun e w' h => ⟨h.1.trans (by kernel_rfl), h.2⟩))
  have HC : Calls Tryz.prog 145 #[.string ⟨#[48]⟩, .string ⟨#[32]⟩] w fun e w' => e = .returned (.tuple #[.string ⟨#[48]⟩, .string ⟨#[]⟩, .bool false]) ∧ Below w.heap.size w w' := by
    go_enter Tryz.func145, Tryz.ntmps145
    go_wp2_with fail
    refine HI.out.mono ?_
    rintro e w1 ⟨rfl, rfl⟩
    go_wp2_with fail
    skip
    skip
    go_ret3
    exact ⟨by kernel_rfl, Below.refl _ _⟩
  have HC := Lib.hid HC
  go_enter Tryz.func92, Tryz.ntmps92
  go_wp2_with fail
  refine HC.out.mono ?_
  rintro e w1 ⟨rfl, hb1⟩
  go_wp2_with fail
  go_ret3
  exact ⟨rfl, hb1⟩
/-- One word is taken off. -/
theorem word_at (s word tail : ByteArray) (more bad : Bool) (wb : Nat) (w : World) (hB : Blk w wb 341 #[.string s, .bool false, .bool bad])
    (hc : Calls Tryz.prog 92 #[.string s, .string ⟨#[32]⟩] w fun e w' => e = .returned (.tuple #[.string word, .string tail, .bool more]) ∧ Below w.heap.size w w') :
    Calls Tryz.prog 152 #[.pointer (some ⟨wb, 0, none⟩)] w fun e w' => e = .returned (.string word) ∧ Blk w' wb 341 #[.string tail, .bool (!more), .bool bad] ∧ Kept (fun i => i = wb) w w' := by
  have HB := Lib.hid hB
  have HC := Lib.hid hc
  have c0 := hB.cell
  have f0 := hB.frozen
  have lt0 := hB.lt
  clear hB hc
  go_enter Tryz.func152, Tryz.ntmps152
  go_wp2_with fail
  refine HC.out.mono ?_
  rintro e w1 ⟨rfl, hb1⟩
  have HK := Lib.hid (Kept.ofB (S := fun i => i = wb) hb1)
  have HB1 := Lib.hid (HB.out.below hb1 HB.out.lt)
  clear hb1 c0 f0 lt0
  have c0 := HB1.out.cell
  have f0 := HB1.out.frozen
  have lt0 := HB1.out.lt
  go_wp2_with fail
  go_ret
  refine ⟨rfl, ?_, ?_⟩
  · exact (HB1.out.set_to (cs' := #[.string tail, .bool false, .bool bad]) rfl).set_to rfl
  · exact Kept.setIn (S := fun i => i = wb) (b := wb) rfl (Kept.setIn (S := fun i => i = wb) (b := wb) rfl HK.out)
theorem num_ok (s : ByteArray) (n most : Int) (b0 : ByteArray) (en bad : Bool) (wb : Nat) (w : World) (hB : Blk w wb 341 #[.string b0, .bool en, .bool bad])
    (hc : ∀ u, Calls Tryz.prog 147 #[.string s, .int .i64 10, .int .i64 most] u fun e w' => e = .returned (.tuple #[.int .i64 n, .bool true]) ∧ w' = u) :
    Calls Tryz.prog 195 #[.pointer (some ⟨wb, 0, none⟩), .string s, .int .i64 most] w fun e w' => e = .returned (.int .i64 n) ∧ Blk w' wb 341 #[.string b0, .bool en, .bool bad] ∧ Kept (fun i => i = wb) w w' := by
  have HB := Lib.hid hB
  have HC := Lib.hid (hc w)
  clear hB hc
  go_enter Tryz.func195, Tryz.ntmps195
  go_wp2_with fail
  refine HC.out.mono ?_
  rintro e w1 ⟨rfl, rfl⟩
  go_wp2_with fail
  go_ret
  exact ⟨rfl, HB.out, Kept.refl _ _⟩
theorem great_0 (wb : Nat) (w : World) (hB : Blk w wb 341 #[.string ⟨#[48]⟩, .bool false, .bool false]) :
    Calls Tryz.prog 192 #[.pointer (some ⟨wb, 0, none⟩)] w fun e w' => e = .returned (.int .i64 0) ∧ Blk w' wb 341 #[.string ⟨#[]⟩, .bool true, .bool false] ∧ Kept (fun i => i = wb) w w' := by
  have HB := Lib.hid hB
  clear hB
  go_enter Tryz.func192, Tryz.ntmps192
  go_wp2_with fail
  refine (word_at ⟨#[48]⟩ ⟨#[48]⟩ ⟨#[]⟩ false false wb w HB.out (cut_c w)).mono ?_
  rintro e w1 ⟨rfl, hB1, hk1⟩
  have HB1 := Lib.hid (show Blk w1 wb 341 #[.string ⟨#[]⟩, .bool true, .bool false] from hB1)
  have HK1 := Lib.hid hk1
  clear hB1 hk1
  go_wp2_with fail
  refine (num_ok ⟨#[48]⟩ 0 1073741824 ⟨#[]⟩ true false wb w1 HB1.out (fun u => num0_any u)).mono ?_
  rintro e w2 ⟨rfl, hB2, hk2⟩
  have HB2 := Lib.hid hB2
  have HK2 := Lib.hid (HK1.out.then hk2 (fun i _ h => h))
  clear hB2 hk2
  go_wp2_with fail
  go_ret
  exact ⟨rfl, HB2.out, HK2.out⟩
set_option maxRecDepth 100000 in
set_option maxHeartbeats 4000000 in
theorem control_0 (wb : Nat) (w : World) (hB : Blk w wb 341 #[.string ⟨#[48]⟩, .bool false, .bool false]) :
    Calls Tryz.prog 151 #[.pointer (some ⟨wb, 0, none⟩), .string ⟨#[111, 102, 102, 101, 114]⟩] w fun e w' => e = .returned (.agg #[.int .i64 3, .int .i64 0, .int .i64 0, .int .i64 0, .int .i64 0, .bool false, .int .u64 0, .int .u64 0, .int .u16 0, .int .u8 0, .int .i64 0, .slice none 0 0, .int .i64 0, .int .i64 0, .int .u8 0, .slice none 0 0, .int .u32 0, .int .u32 0, .int .u32 0, .bool false, .int .u64 0, .int .u64 0, .int .u16 0]) ∧ Blk w' wb 341 #[.string ⟨#[]⟩, .bool true, .bool false] ∧ Kept (fun i => i = wb) w w' := by
  have HB := Lib.hid hB
  clear hB
  go_enter Tryz.func151, Tryz.ntmps151
  go_upto_region 1 with fail
  obtain ⟨w1, hw1⟩ : ∃ w1 : World, w1 = w.alloc (.cells #[.int .i64 0, .int .i64 0, .int .i64 0, .int .i64 0, .int .i64 0, .bool false, .int .u64 0, .int .u64 0, .int .u16 0, .int .u8 0, .int .i64 0, .slice none 0 0, .int .i64 0, .int .i64 0, .int .u8 0, .slice none 0 0, .int .u32 0, .int .u32 0, .int .u32 0, .bool false, .int .u64 0, .int .u64 0, .int .u16 0] 227) := ⟨_, rfl⟩
  have HB1 := Lib.hid (show Blk w1 wb 341 #[.string ⟨#[48]⟩, .bool false, .bool false] by rw [hw1]; exact HB.out.alloc _)
  have HR1 := Lib.hid (show Blk w1 w.heap.size 227 #[.int .i64 0, .int .i64 0, .int .i64 0, .int .i64 0, .int .i64 0, .bool false, .int .u64 0, .int .u64 0, .int .u16 0, .int .u8 0, .int .i64 0, .slice none 0 0, .int .i64 0, .int .i64 0, .int .u8 0, .slice none 0 0, .int .u32 0, .int .u32 0, .int .u32 0, .bool false, .int .u64 0, .int .u64 0, .int .u16 0] by rw [hw1]; exact Blk.new _ _ _)
  have HK1 := Lib.hid (show Kept (fun i => i = wb) w w1 by rw [hw1]; exact (Kept.refl _ _).alloc _)
  rw [← hw1]
  clear hw1
  have HRL := Lib.hid (show w.heap.size ≠ wb from fun e => by have := HB.out.lt; omega)
  obtain ⟨rb, hrb⟩ : ∃ rb, w.heap.size = rb := ⟨_, rfl⟩
  have HRB := Lib.hid hrb
  rw [hrb] at HR1 HRL ⊢
  clear hrb
  go_wp2_with fail
  refine (great_0 wb w1 HB1.out).mono ?_
  rintro e w2 ⟨rfl, hB2, hk2⟩
  have HB2 := Lib.hid hB2
  have HK2 := Lib.hid (HK1.out.then hk2 (fun i _ h => h))
  have HR2 := Lib.hid (HR1.out.kept hk2 HRL.out)
  clear hB2 hk2
  go_wp2_with (refine wpList_store_mid rfl 227 (.tmp 4) _ rfl rb 0 #[.int .i64 3, .int .i64 0, .int .i64 0, .int .i64 0, .int .i64 0, .bool false, .int .u64 0, .int .u64 0, .int .u16 0, .int .u8 0, .int .i64 0, .slice none 0 0, .int .i64 0, .int .i64 0, .int .u8 0, .slice none 0 0, .int .u32 0, .int .u32 0, .int .u32 0, .bool false, .int .u64 0, .int .u64 0, .int .u16 0] rfl rfl (HR2.out.there rfl) (by kernel_rfl) (by simp [Value.oneCell']) ?_)
  generalize hw9 : (World.setCells _ _ _ _) = w9
  have HK9 := Lib.hid (show Kept (fun i => i = rb) w2 w9 by rw [← hw9]; exact Kept.setCells (S := fun i => i = rb) rfl _ _ (Kept.refl _ _))
  have HR9 := Lib.hid (show Blk w9 rb 227 #[.int .i64 3, .int .i64 0, .int .i64 0, .int .i64 0, .int .i64 0, .bool false, .int .u64 0, .int .u64 0, .int .u16 0, .int .u8 0, .int .i64 0, .slice none 0 0, .int .i64 0, .int .i64 0, .int .u8 0, .slice none 0 0, .int .u32 0, .int .u32 0, .int .u32 0, .bool false, .int .u64 0, .int .u64 0, .int .u16 0] by rw [← hw9]; exact HR2.out.setAll #[.int .i64 3, .int .i64 0, .int .i64 0, .int .i64 0, .int .i64 0, .bool false, .int .u64 0, .int .u64 0, .int .u16 0, .int .u8 0, .int .i64 0, .slice none 0 0, .int .i64 0, .int .i64 0, .int .u8 0, .slice none 0 0, .int .u32 0, .int .u32 0, .int .u32 0, .bool false, .int .u64 0, .int .u64 0, .int .u16 0] rfl)
  clear hw9
  refine bodyPost_ret (results_blk1 (P := Tryz.prog) (show Tryz.f151.results = _ from rfl) _ _ rb 227 #[.int .i64 3, .int .i64 0, .int .i64 0, .int .i64 0, .int .i64 0, .bool false, .int .u64 0, .int .u64 0, .int .u16 0, .int .u8 0, .int .i64 0, .slice none 0 0, .int .i64 0, .int .i64 0, .int .u8 0, .slice none 0 0, .int .u32 0, .int .u32 0, .int .u32 0, .bool false, .int .u64 0, .int .u64 0, .int .u16 0] _ rfl HR9.out Tryz.underlying227 rfl (by kernel_rfl)) rfl ⟨rfl, ?_, ?_⟩
  · exact HB2.out.kept HK9.out (fun e => HRL.out e.symm)
  · exact HK2.out.then HK9.out (fun i hi e => absurd e (by have := HRB.out; omega))
theorem fine_any (s : ByteArray) (bad : Bool) (wb : Nat) (w : World) (hB : Blk w wb 341 #[.string s, .bool true, .bool bad]) :
    Calls Tryz.prog 153 #[.pointer (some ⟨wb, 0, none⟩)] w fun e w' => e = .returned (.bool (!bad)) ∧ w' = w := by
  have c0 := hB.cell
  go_enter Tryz.func153, Tryz.ntmps153
  go_wp2_with fail
  go_ret
  exact ⟨rfl, rfl⟩
theorem split_0 (w : World) : Calls Tryz.prog 150 #[.string ⟨#[111, 102, 102, 101, 114, 32, 48]⟩] w fun e w' => e = .returned (.pointer (some ⟨w.heap.size, 0, none⟩)) ∧ w' = w.alloc (.cells #[.string ⟨#[111, 102, 102, 101, 114, 32, 48]⟩, .bool false, .bool false] 341) := by
  have HI := Lib.hid ((Tryz.strings_Contains_one ⟨#[111, 102, 102, 101, 114, 32, 48]⟩ 10 w).mono (R' := fun e w' => e = .returned (.bool false) ∧ w' = w) (fun e w' h => ⟨h.1.trans (by kernel_rfl), h.2⟩))
  go_enter Tryz.func150, Tryz.ntmps150
  go_wp2_with fail
  refine HI.out.mono ?_
  rintro e w1 ⟨rfl, rfl⟩
  go_wp2_with fail
  go_ret
  exact ⟨rfl, rfl⟩
set_option maxRecDepth 100000 in
set_option maxHeartbeats 4000000 in
theorem parse_0 (w : World) : Calls Tryz.prog 96 #[.string ⟨#[111, 102, 102, 101, 114, 32, 48]⟩] w fun e w' => e = .returned (.tuple #[.agg #[.int .i64 3, .int .i64 0, .int .i64 0, .int .i64 0, .int .i64 0, .bool false, .int .u64 0, .int .u64 0, .int .u16 0, .int .u8 0, .int .i64 0, .slice none 0 0, .int .i64 0, .int .i64 0, .int .u8 0, .slice none 0 0, .int .u32 0, .int .u32 0, .int .u32 0, .bool false, .int .u64 0, .int .u64 0, .int .u16 0], .int .i64 0]) ∧ Below w.heap.size w w' := by
  go_enter Tryz.func96, Tryz.ntmps96
  go_upto_region 1 with fail
  obtain ⟨w1, hw1⟩ : ∃ w1 : World, w1 = w.alloc (.cells #[.int .i64 0, .int .i64 0, .int .i64 0, .int .i64 0, .int .i64 0, .bool false, .int .u64 0, .int .u64 0, .int .u16 0, .int .u8 0, .int .i64 0, .slice none 0 0, .int .i64 0, .int .i64 0, .int .u8 0, .slice none 0 0, .int .u32 0, .int .u32 0, .int .u32 0, .bool false, .int .u64 0, .int .u64 0, .int .u16 0] 227) := ⟨_, rfl⟩
  have HR1 := Lib.hid (show Blk w1 w.heap.size 227 #[.int .i64 0, .int .i64 0, .int .i64 0, .int .i64 0, .int .i64 0, .bool false, .int .u64 0, .int .u64 0, .int .u16 0, .int .u8 0, .int .i64 0, .slice none 0 0, .int .i64 0, .int .i64 0, .int .u8 0, .slice none 0 0, .int .u32 0, .int .u32 0, .int .u32 0, .bool false, .int .u64 0, .int .u64 0, .int .u16 0] by rw [hw1]; exact Blk.new _ _ _)
  have HK1 := Lib.hid (show Kept (fun _ => False) w w1 by rw [hw1]; exact (Kept.refl _ _).alloc _)
  rw [← hw1]
  clear hw1
  obtain ⟨rb, hrb⟩ : ∃ rb, w.heap.size = rb := ⟨_, rfl⟩
  have HRB := Lib.hid hrb
  rw [hrb] at HR1 ⊢
  clear hrb
  go_wp2_with fail
  refine (split_0 w1).mono ?_
  rintro e w2 ⟨rfl, hw2⟩
  have HB2 := Lib.hid (show Blk w2 w1.heap.size 341 #[.string ⟨#[111, 102, 102, 101, 114, 32, 48]⟩, .bool false, .bool false] by rw [hw2]; exact Blk.new _ _ _)
  have HK2 := Lib.hid (show Kept (fun _ => False) w w2 by rw [hw2]; exact HK1.out.alloc _)
  have HR2 := Lib.hid (show Blk w2 rb 227 #[.int .i64 0, .int .i64 0, .int .i64 0, .int .i64 0, .int .i64 0, .bool false, .int .u64 0, .int .u64 0, .int .u16 0, .int .u8 0, .int .i64 0, .slice none 0 0, .int .i64 0, .int .i64 0, .int .u8 0, .slice none 0 0, .int .u32 0, .int .u32 0, .int .u32 0, .bool false, .int .u64 0, .int .u64 0, .int .u16 0] by rw [hw2]; exact HR1.out.alloc _)
  have HNE := Lib.hid (show rb ≠ w1.heap.size from fun e => by have := HR1.out.lt; omega)
  have HGE := Lib.hid (show w.heap.size ≤ w1.heap.size from HK1.out.size)
  clear hw2
  obtain ⟨wb, hwb⟩ : ∃ wb, w1.heap.size = wb := ⟨_, rfl⟩
  rw [hwb] at HB2 HNE HGE ⊢
  clear hwb
  go_wp2_with fail
  refine (word_at ⟨#[111, 102, 102, 101, 114, 32, 48]⟩ ⟨#[111, 102, 102, 101, 114]⟩ ⟨#[48]⟩ true false wb w2 HB2.out (cut_a w2)).mono ?_
  rintro e w3 ⟨rfl, hB3, hk3⟩
  have HB3 := Lib.hid (show Blk w3 wb 341 #[.string ⟨#[48]⟩, .bool false, .bool false] from hB3)
  have HR3 := Lib.hid (HR2.out.kept hk3 HNE.out)
  have HK3 := Lib.hid (show Kept (fun _ => False) w w3 from HK2.out.then hk3 (fun i hi e => by have := HGE.out; omega))
  clear hB3 hk3
  go_wp2_with fail
  refine (control_0 wb w3 HB3.out).mono ?_
  rintro e w4 ⟨rfl, hB4, hk4⟩
  have HB4 := Lib.hid hB4
  have HR4 := Lib.hid (HR3.out.kept hk4 HNE.out)
  have HK4 := Lib.hid (show Kept (fun _ => False) w w4 from HK3.out.then hk4 (fun i hi e => by have := HGE.out; omega))
  clear hB4 hk4
  go_upto_region 3 with (refine wpList_store_mid rfl 227 (.tmp 5) _ rfl w4.heap.size 0 #[.int .i64 3, .int .i64 0, .int .i64 0, .int .i64 0, .int .i64 0, .bool false, .int .u64 0, .int .u64 0, .int .u16 0, .int .u8 0, .int .i64 0, .slice none 0 0, .int .i64 0, .int .i64 0, .int .u8 0, .slice none 0 0, .int .u32 0, .int .u32 0, .int .u32 0, .bool false, .int .u64 0, .int .u64 0, .int .u16 0] rfl rfl ((Blk.new w4 227 #[.int .i64 0, .int .i64 0, .int .i64 0, .int .i64 0, .int .i64 0, .bool false, .int .u64 0, .int .u64 0, .int .u16 0, .int .u8 0, .int .i64 0, .slice none 0 0, .int .i64 0, .int .i64 0, .int .u8 0, .slice none 0 0, .int .u32 0, .int .u32 0, .int .u32 0, .bool false, .int .u64 0, .int .u64 0, .int .u16 0]).there rfl) (by kernel_rfl) (by simp [Value.oneCell']) ?_)
  generalize hw5 : (World.setCells _ _ _ _) = w5
  have HS5 := Lib.hid (show Blk w5 w4.heap.size 227 #[.int .i64 3, .int .i64 0, .int .i64 0, .int .i64 0, .int .i64 0, .bool false, .int .u64 0, .int .u64 0, .int .u16 0, .int .u8 0, .int .i64 0, .slice none 0 0, .int .i64 0, .int .i64 0, .int .u8 0, .slice none 0 0, .int .u32 0, .int .u32 0, .int .u32 0, .bool false, .int .u64 0, .int .u64 0, .int .u16 0] by rw [← hw5]; exact (Blk.new w4 227 #[.int .i64 0, .int .i64 0, .int .i64 0, .int .i64 0, .int .i64 0, .bool false, .int .u64 0, .int .u64 0, .int .u16 0, .int .u8 0, .int .i64 0, .slice none 0 0, .int .i64 0, .int .i64 0, .int .u8 0, .slice none 0 0, .int .u32 0, .int .u32 0, .int .u32 0, .bool false, .int .u64 0, .int .u64 0, .int .u16 0]).setAll #[.int .i64 3, .int .i64 0, .int .i64 0, .int .i64 0, .int .i64 0, .bool false, .int .u64 0, .int .u64 0, .int .u16 0, .int .u8 0, .int .i64 0, .slice none 0 0, .int .i64 0, .int .i64 0, .int .u8 0, .slice none 0 0, .int .u32 0, .int .u32 0, .int .u32 0, .bool false, .int .u64 0, .int .u64 0, .int .u16 0] rfl)
  have HKA := Lib.hid (show Kept (fun i => i = w4.heap.size) (w4.alloc (.cells #[.int .i64 0, .int .i64 0, .int .i64 0, .int .i64 0, .int .i64 0, .bool false, .int .u64 0, .int .u64 0, .int .u16 0, .int .u8 0, .int .i64 0, .slice none 0 0, .int .i64 0, .int .i64 0, .int .u8 0, .slice none 0 0, .int .u32 0, .int .u32 0, .int .u32 0, .bool false, .int .u64 0, .int .u64 0, .int .u16 0] 227)) w5 by rw [← hw5]; exact Kept.setCells (S := fun i => i = w4.heap.size) rfl _ _ (Kept.refl _ _))
  have HB5 := Lib.hid (show Blk w5 wb 341 #[.string ⟨#[]⟩, .bool true, .bool false] from (HB4.out.alloc _).kept HKA.out (fun e => by have := HB4.out.lt; omega))
  have HR5 := Lib.hid (show Blk w5 rb 227 #[.int .i64 0, .int .i64 0, .int .i64 0, .int .i64 0, .int .i64 0, .bool false, .int .u64 0, .int .u64 0, .int .u16 0, .int .u8 0, .int .i64 0, .slice none 0 0, .int .i64 0, .int .i64 0, .int .u8 0, .slice none 0 0, .int .u32 0, .int .u32 0, .int .u32 0, .bool false, .int .u64 0, .int .u64 0, .int .u16 0] from (HR4.out.alloc _).kept HKA.out (fun e => by have := HR4.out.lt; omega))
  have HK5 := Lib.hid (show Kept (fun _ => False) w w5 from (HK4.out.alloc _).then HKA.out (fun i hi e => by have := HK4.out.size; omega))
  clear hw5 HKA
  obtain ⟨sb, hsb⟩ : ∃ sb, w4.heap.size = sb := ⟨_, rfl⟩
  rw [hsb] at HS5 ⊢
  clear hsb
  go_wp2_with fail
  refine (fine_any ⟨#[]⟩ false wb w5 HB5.out).mono ?_
  rintro e w6 ⟨rfl, rfl⟩
  go_wp2_with (first | refine wpList_load_mid rfl 227 (.tmp 5) rfl sb 0 rfl [.int .i64 3, .int .i64 0, .int .i64 0, .int .i64 0, .int .i64 0, .bool false, .int .u64 0, .int .u64 0, .int .u16 0, .int .u8 0, .int .i64 0, .slice none 0 0, .int .i64 0, .int .i64 0, .int .u8 0, .slice none 0 0, .int .u32 0, .int .u32 0, .int .u32 0, .bool false, .int .u64 0, .int .u64 0, .int .u16 0] _ HS5.out.range Tryz.underlying227 rfl (by kernel_rfl) ?_ | refine wpList_store_mid rfl 227 (.tmp 2) _ rfl rb 0 #[.int .i64 3, .int .i64 0, .int .i64 0, .int .i64 0, .int .i64 0, .bool false, .int .u64 0, .int .u64 0, .int .u16 0, .int .u8 0, .int .i64 0, .slice none 0 0, .int .i64 0, .int .i64 0, .int .u8 0, .slice none 0 0, .int .u32 0, .int .u32 0, .int .u32 0, .bool false, .int .u64 0, .int .u64 0, .int .u16 0] rfl rfl (HR5.out.there rfl) (by kernel_rfl) (by simp [Value.oneCell']) ?_)
  generalize hw9 : (World.setCells _ _ _ _) = w9
  have HK9 := Lib.hid (show Kept (fun i => i = rb) w6 w9 by rw [← hw9]; exact Kept.setCells (S := fun i => i = rb) rfl _ _ (Kept.refl _ _))
  have HR9 := Lib.hid (show Blk w9 rb 227 #[.int .i64 3, .int .i64 0, .int .i64 0, .int .i64 0, .int .i64 0, .bool false, .int .u64 0, .int .u64 0, .int .u16 0, .int .u8 0, .int .i64 0, .slice none 0 0, .int .i64 0, .int .i64 0, .int .u8 0, .slice none 0 0, .int .u32 0, .int .u32 0, .int .u32 0, .bool false, .int .u64 0, .int .u64 0, .int .u16 0] by rw [← hw9]; exact HR5.out.setAll #[.int .i64 3, .int .i64 0, .int .i64 0, .int .i64 0, .int .i64 0, .bool false, .int .u64 0, .int .u64 0, .int .u16 0, .int .u8 0, .int .i64 0, .slice none 0 0, .int .i64 0, .int .i64 0, .int .u8 0, .slice none 0 0, .int .u32 0, .int .u32 0, .int .u32 0, .bool false, .int .u64 0, .int .u64 0, .int .u16 0] rfl)
  clear hw9
  refine bodyPost_ret (results_blk_tmp (P := Tryz.prog) (show Tryz.f96.results = _ from rfl) _ _ rb 227 #[.int .i64 3, .int .i64 0, .int .i64 0, .int .i64 0, .int .i64 0, .bool false, .int .u64 0, .int .u64 0, .int .u16 0, .int .u8 0, .int .i64 0, .slice none 0 0, .int .i64 0, .int .i64 0, .int .u8 0, .slice none 0 0, .int .u32 0, .int .u32 0, .int .u32 0, .bool false, .int .u64 0, .int .u64 0, .int .u16 0] _ rfl HR9.out Tryz.underlying227 rfl (by kernel_rfl)) rfl ⟨rfl, ?_⟩
  exact (HK5.out.below (Nat.le_refl _) (fun i h => h.elim)).trans (HK9.out.below HK5.out.size (fun i e => by have := HRB.out; omega))
end Go.Proofs.YtdnbhmfofphblaaGreatDoor
