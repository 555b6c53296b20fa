/- Parse at what awake meets; awake. -/
import Derived.Test.YthfdhggcnkgjfaaDoorH
namespace Go.Proofs.YthfdhggcnkgjfaaDoor
open Go.RowKit
set_option linter.unusedVariables false
theorem Blk.range {w : World} {g t : Nat} {cs : Array Value} (h : Blk w g t cs) : w.rangeAt g 0 cs.toList := by
  have := World.rangeAt_of_block h 0 cs.size
  simpa using this
theorem fine_any (s : ByteArray) (bad : Bool) (wb : Nat) (w : World) (hB : Blk w wb 72 #[.string s, .bool true, .bool bad]) :
    Calls Tryd.prog 15 #[.pointer (some ⟨wb, 0, none⟩)] w fun e w' => e = .returned (.bool (!bad)) ∧ w' = w := by
  have c0 := hB.cell
  go_enter Tryd.func15, Tryd.ntmps15
  go_wp2_with fail
  go_ret
  exact ⟨rfl, rfl⟩
theorem split_3 (w : World) : Calls Tryd.prog 11 #[.string ⟨#[111, 102, 102, 101, 114, 32, 51]⟩] w fun e w' => e = .returned (.pointer (some ⟨w.heap.size, 0, none⟩)) ∧ w' = w.alloc (.cells #[.string ⟨#[111, 102, 102, 101, 114, 32, 51]⟩, .bool false, .bool false] 72) := by
  have HI := Lib.hid ((Tryd.strings_Contains_one ⟨#[111, 102, 102, 101, 114, 32, 51]⟩ 10 w).mono (R' := fun e w' => e = .returned (.bool false) ∧ w' = w) (fun e w' h => ⟨h.1.trans (by kernel_rfl), h.2⟩))
  go_enter Tryd.func11, Tryd.ntmps11
  go_wp2_with fail
  refine HI.out.mono ?_
  rintro e w1 ⟨rfl, rfl⟩
  go_wp2_with fail
  go_ret
  exact ⟨rfl, rfl⟩
theorem split_03 (w : World) : Calls Tryd.prog 11 #[.string ⟨#[111, 102, 102, 101, 114, 32, 48, 51]⟩] w fun e w' => e = .returned (.pointer (some ⟨w.heap.size, 0, none⟩)) ∧ w' = w.alloc (.cells #[.string ⟨#[111, 102, 102, 101, 114, 32, 48, 51]⟩, .bool false, .bool false] 72) := by
  have HI := Lib.hid ((Tryd.strings_Contains_one ⟨#[111, 102, 102, 101, 114, 32, 48, 51]⟩ 10 w).mono (R' := fun e w' => e = .returned (.bool false) ∧ w' = w) (fun e w' h => ⟨h.1.trans (by kernel_rfl), h.2⟩))
  go_enter Tryd.func11, Tryd.ntmps11
  go_wp2_with fail
  refine HI.out.mono ?_
  rintro e w1 ⟨rfl, rfl⟩
  go_wp2_with fail
  go_ret
  exact ⟨rfl, rfl⟩
set_option maxRecDepth 20000 in
set_option maxHeartbeats 4000000 in
theorem parse_3 (w : World) : Calls Tryd.prog 10 #[.string ⟨#[111, 102, 102, 101, 114, 32, 51]⟩] w fun e w' => e = .returned (.tuple #[.agg #[.int .i64 3, .int .i64 0, .int .i64 0, .int .i64 0, .int .i64 0, .bool false, .int .u64 0, .int .u64 0, .int .u16 0, .int .u8 0, .int .i64 0, .slice none 0 0, .int .i64 3, .int .i64 0, .int .u8 0, .slice none 0 0, .int .u32 0, .int .u32 0, .int .u32 0, .bool false, .int .u64 0, .int .u64 0, .int .u16 0], .int .i64 0]) ∧ Below w.heap.size w w' := by
  go_enter Tryd.func10, Tryd.ntmps10
  go_upto_region 1 with fail
  obtain ⟨w1, hw1⟩ : ∃ w1 : World, w1 = w.alloc (.cells #[.int .i64 0, .int .i64 0, .int .i64 0, .int .i64 0, .int .i64 0, .bool false, .int .u64 0, .int .u64 0, .int .u16 0, .int .u8 0, .int .i64 0, .slice none 0 0, .int .i64 0, .int .i64 0, .int .u8 0, .slice none 0 0, .int .u32 0, .int .u32 0, .int .u32 0, .bool false, .int .u64 0, .int .u64 0, .int .u16 0] 49) := ⟨_, rfl⟩
  have HR1 := Lib.hid (show Blk w1 w.heap.size 49 #[.int .i64 0, .int .i64 0, .int .i64 0, .int .i64 0, .int .i64 0, .bool false, .int .u64 0, .int .u64 0, .int .u16 0, .int .u8 0, .int .i64 0, .slice none 0 0, .int .i64 0, .int .i64 0, .int .u8 0, .slice none 0 0, .int .u32 0, .int .u32 0, .int .u32 0, .bool false, .int .u64 0, .int .u64 0, .int .u16 0] by rw [hw1]; exact Blk.new _ _ _)
  have HK1 := Lib.hid (show Kept (fun _ => False) w w1 by rw [hw1]; exact (Kept.refl _ _).alloc _)
  rw [← hw1]
  clear hw1
  obtain ⟨rb, hrb⟩ : ∃ rb, w.heap.size = rb := ⟨_, rfl⟩
  have HRB := Lib.hid hrb
  rw [hrb] at HR1 ⊢
  clear hrb
  go_wp2_with fail
  refine (split_3 w1).mono ?_
  rintro e w2 ⟨rfl, hw2⟩
  have HB2 := Lib.hid (show Blk w2 w1.heap.size 72 #[.string ⟨#[111, 102, 102, 101, 114, 32, 51]⟩, .bool false, .bool false] by rw [hw2]; exact Blk.new _ _ _)
  have HK2 := Lib.hid (show Kept (fun _ => False) w w2 by rw [hw2]; exact HK1.out.alloc _)
  have HR2 := Lib.hid (show Blk w2 rb 49 #[.int .i64 0, .int .i64 0, .int .i64 0, .int .i64 0, .int .i64 0, .bool false, .int .u64 0, .int .u64 0, .int .u16 0, .int .u8 0, .int .i64 0, .slice none 0 0, .int .i64 0, .int .i64 0, .int .u8 0, .slice none 0 0, .int .u32 0, .int .u32 0, .int .u32 0, .bool false, .int .u64 0, .int .u64 0, .int .u16 0] by rw [hw2]; exact HR1.out.alloc _)
  have HNE := Lib.hid (show rb ≠ w1.heap.size from fun e => by have := HR1.out.lt; omega)
  have HGE := Lib.hid (show w.heap.size ≤ w1.heap.size from HK1.out.size)
  clear hw2
  obtain ⟨wb, hwb⟩ : ∃ wb, w1.heap.size = wb := ⟨_, rfl⟩
  rw [hwb] at HB2 HNE HGE ⊢
  clear hwb
  go_wp2_with fail
  refine (word_at ⟨#[111, 102, 102, 101, 114, 32, 51]⟩ ⟨#[111, 102, 102, 101, 114]⟩ ⟨#[51]⟩ true false wb w2 HB2.out (cut_a w2)).mono ?_
  rintro e w3 ⟨rfl, hB3, hk3⟩
  have HB3 := Lib.hid (show Blk w3 wb 72 #[.string ⟨#[51]⟩, .bool false, .bool false] from hB3)
  have HR3 := Lib.hid (HR2.out.kept hk3 HNE.out)
  have HK3 := Lib.hid (show Kept (fun _ => False) w w3 from HK2.out.then hk3 (fun i hi e => by have := HGE.out; omega))
  clear hB3 hk3
  go_wp2_with fail
  refine (control_3 wb w3 HB3.out).mono ?_
  rintro e w4 ⟨rfl, hB4, hk4⟩
  have HB4 := Lib.hid hB4
  have HR4 := Lib.hid (HR3.out.kept hk4 HNE.out)
  have HK4 := Lib.hid (show Kept (fun _ => False) w w4 from HK3.out.then hk4 (fun i hi e => by have := HGE.out; omega))
  clear hB4 hk4
  go_upto_region 3 with (refine wpList_store_mid rfl 49 (.tmp 5) _ rfl w4.heap.size 0 #[.int .i64 3, .int .i64 0, .int .i64 0, .int .i64 0, .int .i64 0, .bool false, .int .u64 0, .int .u64 0, .int .u16 0, .int .u8 0, .int .i64 0, .slice none 0 0, .int .i64 3, .int .i64 0, .int .u8 0, .slice none 0 0, .int .u32 0, .int .u32 0, .int .u32 0, .bool false, .int .u64 0, .int .u64 0, .int .u16 0] rfl rfl ((Blk.new w4 49 #[.int .i64 0, .int .i64 0, .int .i64 0, .int .i64 0, .int .i64 0, .bool false, .int .u64 0, .int .u64 0, .int .u16 0, .int .u8 0, .int .i64 0, .slice none 0 0, .int .i64 0, .int .i64 0, .int .u8 0, .slice none 0 0, .int .u32 0, .int .u32 0, .int .u32 0, .bool false, .int .u64 0, .int .u64 0, .int .u16 0]).there rfl) (by kernel_rfl) (by simp [Value.oneCell']) ?_)
  generalize hw5 : (World.setCells _ _ _ _) = w5
  have HS5 := Lib.hid (show Blk w5 w4.heap.size 49 #[.int .i64 3, .int .i64 0, .int .i64 0, .int .i64 0, .int .i64 0, .bool false, .int .u64 0, .int .u64 0, .int .u16 0, .int .u8 0, .int .i64 0, .slice none 0 0, .int .i64 3, .int .i64 0, .int .u8 0, .slice none 0 0, .int .u32 0, .int .u32 0, .int .u32 0, .bool false, .int .u64 0, .int .u64 0, .int .u16 0] by rw [← hw5]; exact (Blk.new w4 49 #[.int .i64 0, .int .i64 0, .int .i64 0, .int .i64 0, .int .i64 0, .bool false, .int .u64 0, .int .u64 0, .int .u16 0, .int .u8 0, .int .i64 0, .slice none 0 0, .int .i64 0, .int .i64 0, .int .u8 0, .slice none 0 0, .int .u32 0, .int .u32 0, .int .u32 0, .bool false, .int .u64 0, .int .u64 0, .int .u16 0]).setAll #[.int .i64 3, .int .i64 0, .int .i64 0, .int .i64 0, .int .i64 0, .bool false, .int .u64 0, .int .u64 0, .int .u16 0, .int .u8 0, .int .i64 0, .slice none 0 0, .int .i64 3, .int .i64 0, .int .u8 0, .slice none 0 0, .int .u32 0, .int .u32 0, .int .u32 0, .bool false, .int .u64 0, .int .u64 0, .int .u16 0] rfl)
  have HKA := Lib.hid (show Kept (fun i => i = w4.heap.size) (w4.alloc (.cells #[.int .i64 0, .int .i64 0, .int .i64 0, .int .i64 0, .int .i64 0, .bool false, .int .u64 0, .int .u64 0, .int .u16 0, .int .u8 0, .int .i64 0, .slice none 0 0, .int .i64 0, .int .i64 0, .int .u8 0, .slice none 0 0, .int .u32 0, .int .u32 0, .int .u32 0, .bool false, .int .u64 0, .int .u64 0, .int .u16 0] 49)) w5 by rw [← hw5]; exact Kept.setCells (S := fun i => i = w4.heap.size) rfl _ _ (Kept.refl _ _))
  have HB5 := Lib.hid (show Blk w5 wb 72 #[.string ⟨#[]⟩, .bool true, .bool false] from (HB4.out.alloc _).kept HKA.out (fun e => by have := HB4.out.lt; omega))
  have HR5 := Lib.hid (show Blk w5 rb 49 #[.int .i64 0, .int .i64 0, .int .i64 0, .int .i64 0, .int .i64 0, .bool false, .int .u64 0, .int .u64 0, .int .u16 0, .int .u8 0, .int .i64 0, .slice none 0 0, .int .i64 0, .int .i64 0, .int .u8 0, .slice none 0 0, .int .u32 0, .int .u32 0, .int .u32 0, .bool false, .int .u64 0, .int .u64 0, .int .u16 0] from (HR4.out.alloc _).kept HKA.out (fun e => by have := HR4.out.lt; omega))
  have HK5 := Lib.hid (show Kept (fun _ => False) w w5 from (HK4.out.alloc _).then HKA.out (fun i hi e => by have := HK4.out.size; omega))
  clear hw5 HKA
  obtain ⟨sb, hsb⟩ : ∃ sb, w4.heap.size = sb := ⟨_, rfl⟩
  rw [hsb] at HS5 ⊢
  clear hsb
  go_wp2_with fail
  refine (fine_any ⟨#[]⟩ false wb w5 HB5.out).mono ?_
  rintro e w6 ⟨rfl, rfl⟩
  go_wp2_with (first | refine wpList_load_mid rfl 49 (.tmp 5) rfl sb 0 rfl [.int .i64 3, .int .i64 0, .int .i64 0, .int .i64 0, .int .i64 0, .bool false, .int .u64 0, .int .u64 0, .int .u16 0, .int .u8 0, .int .i64 0, .slice none 0 0, .int .i64 3, .int .i64 0, .int .u8 0, .slice none 0 0, .int .u32 0, .int .u32 0, .int .u32 0, .bool false, .int .u64 0, .int .u64 0, .int .u16 0] _ HS5.out.range Tryd.underlying49 rfl (by kernel_rfl) ?_ | refine wpList_store_mid rfl 49 (.tmp 2) _ rfl rb 0 #[.int .i64 3, .int .i64 0, .int .i64 0, .int .i64 0, .int .i64 0, .bool false, .int .u64 0, .int .u64 0, .int .u16 0, .int .u8 0, .int .i64 0, .slice none 0 0, .int .i64 3, .int .i64 0, .int .u8 0, .slice none 0 0, .int .u32 0, .int .u32 0, .int .u32 0, .bool false, .int .u64 0, .int .u64 0, .int .u16 0] rfl rfl (HR5.out.there rfl) (by kernel_rfl) (by simp [Value.oneCell']) ?_)
  generalize hw9 : (World.setCells _ _ _ _) = w9
  have HK9 := Lib.hid (show Kept (fun i => i = rb) w6 w9 by rw [← hw9]; exact Kept.setCells (S := fun i => i = rb) rfl _ _ (Kept.refl _ _))
  have HR9 := Lib.hid (show Blk w9 rb 49 #[.int .i64 3, .int .i64 0, .int .i64 0, .int .i64 0, .int .i64 0, .bool false, .int .u64 0, .int .u64 0, .int .u16 0, .int .u8 0, .int .i64 0, .slice none 0 0, .int .i64 3, .int .i64 0, .int .u8 0, .slice none 0 0, .int .u32 0, .int .u32 0, .int .u32 0, .bool false, .int .u64 0, .int .u64 0, .int .u16 0] by rw [← hw9]; exact HR5.out.setAll #[.int .i64 3, .int .i64 0, .int .i64 0, .int .i64 0, .int .i64 0, .bool false, .int .u64 0, .int .u64 0, .int .u16 0, .int .u8 0, .int .i64 0, .slice none 0 0, .int .i64 3, .int .i64 0, .int .u8 0, .slice none 0 0, .int .u32 0, .int .u32 0, .int .u32 0, .bool false, .int .u64 0, .int .u64 0, .int .u16 0] rfl)
  clear hw9
  refine bodyPost_ret (results_blk_tmp (P := Tryd.prog) (show Tryd.f10.results = _ from rfl) _ _ rb 49 #[.int .i64 3, .int .i64 0, .int .i64 0, .int .i64 0, .int .i64 0, .bool false, .int .u64 0, .int .u64 0, .int .u16 0, .int .u8 0, .int .i64 0, .slice none 0 0, .int .i64 3, .int .i64 0, .int .u8 0, .slice none 0 0, .int .u32 0, .int .u32 0, .int .u32 0, .bool false, .int .u64 0, .int .u64 0, .int .u16 0] _ rfl HR9.out Tryd.underlying49 rfl (by kernel_rfl)) rfl ⟨rfl, ?_⟩
  exact (HK5.out.below (Nat.le_refl _) (fun i h => h.elim)).trans (HK9.out.below HK5.out.size (fun i e => by have := HRB.out; omega))
set_option maxRecDepth 20000 in
set_option maxHeartbeats 4000000 in
theorem parse_03 (w : World) : Calls Tryd.prog 10 #[.string ⟨#[111, 102, 102, 101, 114, 32, 48, 51]⟩] w fun e w' => e = .returned (.tuple #[.agg #[.int .i64 0, .int .i64 0, .int .i64 0, .int .i64 0, .int .i64 0, .bool false, .int .u64 0, .int .u64 0, .int .u16 0, .int .u8 0, .int .i64 0, .slice none 0 0, .int .i64 0, .int .i64 0, .int .u8 0, .slice none 0 0, .int .u32 0, .int .u32 0, .int .u32 0, .bool false, .int .u64 0, .int .u64 0, .int .u16 0], .int .i64 21]) ∧ Below w.heap.size w w' := by
  go_enter Tryd.func10, Tryd.ntmps10
  go_upto_region 1 with fail
  obtain ⟨w1, hw1⟩ : ∃ w1 : World, w1 = w.alloc (.cells #[.int .i64 0, .int .i64 0, .int .i64 0, .int .i64 0, .int .i64 0, .bool false, .int .u64 0, .int .u64 0, .int .u16 0, .int .u8 0, .int .i64 0, .slice none 0 0, .int .i64 0, .int .i64 0, .int .u8 0, .slice none 0 0, .int .u32 0, .int .u32 0, .int .u32 0, .bool false, .int .u64 0, .int .u64 0, .int .u16 0] 49) := ⟨_, rfl⟩
  have HR1 := Lib.hid (show Blk w1 w.heap.size 49 #[.int .i64 0, .int .i64 0, .int .i64 0, .int .i64 0, .int .i64 0, .bool false, .int .u64 0, .int .u64 0, .int .u16 0, .int .u8 0, .int .i64 0, .slice none 0 0, .int .i64 0, .int .i64 0, .int .u8 0, .slice none 0 0, .int .u32 0, .int .u32 0, .int .u32 0, .bool false, .int .u64 0, .int .u64 0, .int .u16 0] by rw [hw1]; exact Blk.new _ _ _)
  have HK1 := Lib.hid (show Kept (fun _ => False) w w1 by rw [hw1]; exact (Kept.refl _ _).alloc _)
  rw [← hw1]
  clear hw1
  obtain ⟨rb, hrb⟩ : ∃ rb, w.heap.size = rb := ⟨_, rfl⟩
  have HRB := Lib.hid hrb
  rw [hrb] at HR1 ⊢
  clear hrb
  go_wp2_with fail
  refine (split_03 w1).mono ?_
  rintro e w2 ⟨rfl, hw2⟩
  have HB2 := Lib.hid (show Blk w2 w1.heap.size 72 #[.string ⟨#[111, 102, 102, 101, 114, 32, 48, 51]⟩, .bool false, .bool false] by rw [hw2]; exact Blk.new _ _ _)
  have HK2 := Lib.hid (show Kept (fun _ => False) w w2 by rw [hw2]; exact HK1.out.alloc _)
  have HR2 := Lib.hid (show Blk w2 rb 49 #[.int .i64 0, .int .i64 0, .int .i64 0, .int .i64 0, .int .i64 0, .bool false, .int .u64 0, .int .u64 0, .int .u16 0, .int .u8 0, .int .i64 0, .slice none 0 0, .int .i64 0, .int .i64 0, .int .u8 0, .slice none 0 0, .int .u32 0, .int .u32 0, .int .u32 0, .bool false, .int .u64 0, .int .u64 0, .int .u16 0] by rw [hw2]; exact HR1.out.alloc _)
  have HNE := Lib.hid (show rb ≠ w1.heap.size from fun e => by have := HR1.out.lt; omega)
  have HGE := Lib.hid (show w.heap.size ≤ w1.heap.size from HK1.out.size)
  clear hw2
  obtain ⟨wb, hwb⟩ : ∃ wb, w1.heap.size = wb := ⟨_, rfl⟩
  rw [hwb] at HB2 HNE HGE ⊢
  clear hwb
  go_wp2_with fail
  refine (word_at ⟨#[111, 102, 102, 101, 114, 32, 48, 51]⟩ ⟨#[111, 102, 102, 101, 114]⟩ ⟨#[48, 51]⟩ true false wb w2 HB2.out (cut_b w2)).mono ?_
  rintro e w3 ⟨rfl, hB3, hk3⟩
  have HB3 := Lib.hid (show Blk w3 wb 72 #[.string ⟨#[48, 51]⟩, .bool false, .bool false] from hB3)
  have HR3 := Lib.hid (HR2.out.kept hk3 HNE.out)
  have HK3 := Lib.hid (show Kept (fun _ => False) w w3 from HK2.out.then hk3 (fun i hi e => by have := HGE.out; omega))
  clear hB3 hk3
  go_wp2_with fail
  refine (control_03 wb w3 HB3.out).mono ?_
  rintro e w4 ⟨rfl, hB4, hk4⟩
  have HB4 := Lib.hid hB4
  have HR4 := Lib.hid (HR3.out.kept hk4 HNE.out)
  have HK4 := Lib.hid (show Kept (fun _ => False) w w4 from HK3.out.then hk4 (fun i hi e => by have := HGE.out; omega))
  clear hB4 hk4
  go_upto_region 3 with (refine wpList_store_mid rfl 49 (.tmp 5) _ rfl w4.heap.size 0 #[.int .i64 3, .int .i64 0, .int .i64 0, .int .i64 0, .int .i64 0, .bool false, .int .u64 0, .int .u64 0, .int .u16 0, .int .u8 0, .int .i64 0, .slice none 0 0, .int .i64 0, .int .i64 0, .int .u8 0, .slice none 0 0, .int .u32 0, .int .u32 0, .int .u32 0, .bool false, .int .u64 0, .int .u64 0, .int .u16 0] rfl rfl ((Blk.new w4 49 #[.int .i64 0, .int .i64 0, .int .i64 0, .int .i64 0, .int .i64 0, .bool false, .int .u64 0, .int .u64 0, .int .u16 0, .int .u8 0, .int .i64 0, .slice none 0 0, .int .i64 0, .int .i64 0, .int .u8 0, .slice none 0 0, .int .u32 0, .int .u32 0, .int .u32 0, .bool false, .int .u64 0, .int .u64 0, .int .u16 0]).there rfl) (by kernel_rfl) (by simp [Value.oneCell']) ?_)
  generalize hw5 : (World.setCells _ _ _ _) = w5
  have HS5 := Lib.hid (show Blk w5 w4.heap.size 49 #[.int .i64 3, .int .i64 0, .int .i64 0, .int .i64 0, .int .i64 0, .bool false, .int .u64 0, .int .u64 0, .int .u16 0, .int .u8 0, .int .i64 0, .slice none 0 0, .int .i64 0, .int .i64 0, .int .u8 0, .slice none 0 0, .int .u32 0, .int .u32 0, .int .u32 0, .bool false, .int .u64 0, .int .u64 0, .int .u16 0] by rw [← hw5]; exact (Blk.new w4 49 #[.int .i64 0, .int .i64 0, .int .i64 0, .int .i64 0, .int .i64 0, .bool false, .int .u64 0, .int .u64 0, .int .u16 0, .int .u8 0, .int .i64 0, .slice none 0 0, .int .i64 0, .int .i64 0, .int .u8 0, .slice none 0 0, .int .u32 0, .int .u32 0, .int .u32 0, .bool false, .int .u64 0, .int .u64 0, .int .u16 0]).setAll #[.int .i64 3, .int .i64 0, .int .i64 0, .int .i64 0, .int .i64 0, .bool false, .int .u64 0, .int .u64 0, .int .u16 0, .int .u8 0, .int .i64 0, .slice none 0 0, .int .i64 0, .int .i64 0, .int .u8 0, .slice none 0 0, .int .u32 0, .int .u32 0, .int .u32 0, .bool false, .int .u64 0, .int .u64 0, .int .u16 0] rfl)
  have HKA := Lib.hid (show Kept (fun i => i = w4.heap.size) (w4.alloc (.cells #[.int .i64 0, .int .i64 0, .int .i64 0, .int .i64 0, .int .i64 0, .bool false, .int .u64 0, .int .u64 0, .int .u16 0, .int .u8 0, .int .i64 0, .slice none 0 0, .int .i64 0, .int .i64 0, .int .u8 0, .slice none 0 0, .int .u32 0, .int .u32 0, .int .u32 0, .bool false, .int .u64 0, .int .u64 0, .int .u16 0] 49)) w5 by rw [← hw5]; exact Kept.setCells (S := fun i => i = w4.heap.size) rfl _ _ (Kept.refl _ _))
  have HB5 := Lib.hid (show Blk w5 wb 72 #[.string ⟨#[]⟩, .bool true, .bool true] from (HB4.out.alloc _).kept HKA.out (fun e => by have := HB4.out.lt; omega))
  have HR5 := Lib.hid (show Blk w5 rb 49 #[.int .i64 0, .int .i64 0, .int .i64 0, .int .i64 0, .int .i64 0, .bool false, .int .u64 0, .int .u64 0, .int .u16 0, .int .u8 0, .int .i64 0, .slice none 0 0, .int .i64 0, .int .i64 0, .int .u8 0, .slice none 0 0, .int .u32 0, .int .u32 0, .int .u32 0, .bool false, .int .u64 0, .int .u64 0, .int .u16 0] from (HR4.out.alloc _).kept HKA.out (fun e => by have := HR4.out.lt; omega))
  have HK5 := Lib.hid (show Kept (fun _ => False) w w5 from (HK4.out.alloc _).then HKA.out (fun i hi e => by have := HK4.out.size; omega))
  clear hw5 HKA
  obtain ⟨sb, hsb⟩ : ∃ sb, w4.heap.size = sb := ⟨_, rfl⟩
  rw [hsb] at HS5 ⊢
  clear hsb
  go_wp2_with fail
  refine (fine_any ⟨#[]⟩ true wb w5 HB5.out).mono ?_
  rintro e w6 ⟨rfl, rfl⟩
  go_wp2_with (first | refine wpList_load_mid rfl 49 (.tmp 5) rfl sb 0 rfl [.int .i64 3, .int .i64 0, .int .i64 0, .int .i64 0, .int .i64 0, .bool false, .int .u64 0, .int .u64 0, .int .u16 0, .int .u8 0, .int .i64 0, .slice none 0 0, .int .i64 0, .int .i64 0, .int .u8 0, .slice none 0 0, .int .u32 0, .int .u32 0, .int .u32 0, .bool false, .int .u64 0, .int .u64 0, .int .u16 0] _ HS5.out.range Tryd.underlying49 rfl (by kernel_rfl) ?_ | refine wpList_store_mid rfl 49 (.tmp 2) _ rfl rb 0 #[.int .i64 0, .int .i64 0, .int .i64 0, .int .i64 0, .int .i64 0, .bool false, .int .u64 0, .int .u64 0, .int .u16 0, .int .u8 0, .int .i64 0, .slice none 0 0, .int .i64 0, .int .i64 0, .int .u8 0, .slice none 0 0, .int .u32 0, .int .u32 0, .int .u32 0, .bool false, .int .u64 0, .int .u64 0, .int .u16 0] rfl rfl (HR5.out.there rfl) (by kernel_rfl) (by simp [Value.oneCell']) ?_)
  generalize hw9 : (World.setCells _ _ _ _) = w9
  have HK9 := Lib.hid (show Kept (fun i => i = rb) w6 w9 by rw [← hw9]; exact Kept.setCells (S := fun i => i = rb) rfl _ _ (Kept.refl _ _))
  have HR9 := Lib.hid (show Blk w9 rb 49 #[.int .i64 0, .int .i64 0, .int .i64 0, .int .i64 0, .int .i64 0, .bool false, .int .u64 0, .int .u64 0, .int .u16 0, .int .u8 0, .int .i64 0, .slice none 0 0, .int .i64 0, .int .i64 0, .int .u8 0, .slice none 0 0, .int .u32 0, .int .u32 0, .int .u32 0, .bool false, .int .u64 0, .int .u64 0, .int .u16 0] by rw [← hw9]; exact HR5.out.setAll #[.int .i64 0, .int .i64 0, .int .i64 0, .int .i64 0, .int .i64 0, .bool false, .int .u64 0, .int .u64 0, .int .u16 0, .int .u8 0, .int .i64 0, .slice none 0 0, .int .i64 0, .int .i64 0, .int .u8 0, .slice none 0 0, .int .u32 0, .int .u32 0, .int .u32 0, .bool false, .int .u64 0, .int .u64 0, .int .u16 0] rfl)
  clear hw9
  refine bodyPost_ret (results_blk_tmp (P := Tryd.prog) (show Tryd.f10.results = _ from rfl) _ _ rb 49 #[.int .i64 0, .int .i64 0, .int .i64 0, .int .i64 0, .int .i64 0, .bool false, .int .u64 0, .int .u64 0, .int .u16 0, .int .u8 0, .int .i64 0, .slice none 0 0, .int .i64 0, .int .i64 0, .int .u8 0, .slice none 0 0, .int .u32 0, .int .u32 0, .int .u32 0, .bool false, .int .u64 0, .int .u64 0, .int .u16 0] _ rfl HR9.out Tryd.underlying49 rfl (by kernel_rfl)) rfl ⟨rfl, ?_⟩
  exact (HK5.out.below (Nat.le_refl _) (fun i h => h.elim)).trans (HK9.out.below HK5.out.size (fun i e => by have := HRB.out; omega))
set_option maxRecDepth 20000 in
set_option maxHeartbeats 4000000 in
theorem awake_any (w : World) : Calls Tryd.prog 5 #[] w fun e w' => e = .returned (.bool true) ∧ Below w.heap.size w w' := by
  go_enter Tryd.func5, Tryd.ntmps5
  go_wp2_with fail
  refine (parse_3 w).mono ?_
  rintro e w1 ⟨rfl, hb1⟩
  have HW1 := Lib.hid hb1
  clear hb1
  go_upto_region 2 with (show wpList _ _ _ ((⟨none, .store 49 (.tmp 1) _, _, _, _, none⟩ : Oper) :: _) _ _; refine wpList_store_mid rfl 49 (.tmp 1) _ rfl w1.heap.size 0 #[.int .i64 3, .int .i64 0, .int .i64 0, .int .i64 0, .int .i64 0, .bool false, .int .u64 0, .int .u64 0, .int .u16 0, .int .u8 0, .int .i64 0, .slice none 0 0, .int .i64 3, .int .i64 0, .int .u8 0, .slice none 0 0, .int .u32 0, .int .u32 0, .int .u32 0, .bool false, .int .u64 0, .int .u64 0, .int .u16 0] rfl rfl ((Blk.new w1 49 #[.int .i64 0, .int .i64 0, .int .i64 0, .int .i64 0, .int .i64 0, .bool false, .int .u64 0, .int .u64 0, .int .u16 0, .int .u8 0, .int .i64 0, .slice none 0 0, .int .i64 0, .int .i64 0, .int .u8 0, .slice none 0 0, .int .u32 0, .int .u32 0, .int .u32 0, .bool false, .int .u64 0, .int .u64 0, .int .u16 0]).there rfl) (by kernel_rfl) (by simp [Value.oneCell']) ?_)
  generalize hw2 : (World.setCells _ _ _ _) = w2
  have HS2 := Lib.hid (show Blk w2 w1.heap.size 49 #[.int .i64 3, .int .i64 0, .int .i64 0, .int .i64 0, .int .i64 0, .bool false, .int .u64 0, .int .u64 0, .int .u16 0, .int .u8 0, .int .i64 0, .slice none 0 0, .int .i64 3, .int .i64 0, .int .u8 0, .slice none 0 0, .int .u32 0, .int .u32 0, .int .u32 0, .bool false, .int .u64 0, .int .u64 0, .int .u16 0] by rw [← hw2]; exact (Blk.new w1 49 #[.int .i64 0, .int .i64 0, .int .i64 0, .int .i64 0, .int .i64 0, .bool false, .int .u64 0, .int .u64 0, .int .u16 0, .int .u8 0, .int .i64 0, .slice none 0 0, .int .i64 0, .int .i64 0, .int .u8 0, .slice none 0 0, .int .u32 0, .int .u32 0, .int .u32 0, .bool false, .int .u64 0, .int .u64 0, .int .u16 0]).setAll #[.int .i64 3, .int .i64 0, .int .i64 0, .int .i64 0, .int .i64 0, .bool false, .int .u64 0, .int .u64 0, .int .u16 0, .int .u8 0, .int .i64 0, .slice none 0 0, .int .i64 3, .int .i64 0, .int .u8 0, .slice none 0 0, .int .u32 0, .int .u32 0, .int .u32 0, .bool false, .int .u64 0, .int .u64 0, .int .u16 0] rfl)
  have HKA := Lib.hid (show Kept (fun i => i = w1.heap.size) (w1.alloc (.cells #[.int .i64 0, .int .i64 0, .int .i64 0, .int .i64 0, .int .i64 0, .bool false, .int .u64 0, .int .u64 0, .int .u16 0, .int .u8 0, .int .i64 0, .slice none 0 0, .int .i64 0, .int .i64 0, .int .u8 0, .slice none 0 0, .int .u32 0, .int .u32 0, .int .u32 0, .bool false, .int .u64 0, .int .u64 0, .int .u16 0] 49)) w2 by rw [← hw2]; exact Kept.setCells (S := fun i => i = w1.heap.size) rfl _ _ (Kept.refl _ _))
  have HW2 := Lib.hid (show Below w.heap.size w w2 from (HW1.out.alloc HW1.out.size _).trans (HKA.out.below (show w.heap.size ≤ (w1.alloc (.cells #[.int .i64 0, .int .i64 0, .int .i64 0, .int .i64 0, .int .i64 0, .bool false, .int .u64 0, .int .u64 0, .int .u16 0, .int .u8 0, .int .i64 0, .slice none 0 0, .int .i64 0, .int .i64 0, .int .u8 0, .slice none 0 0, .int .u32 0, .int .u32 0, .int .u32 0, .bool false, .int .u64 0, .int .u64 0, .int .u16 0] 49)).heap.size by have := HW1.out.size; rw [World.size_alloc]; omega) (fun i e => by have := HW1.out.size; omega)))
  clear hw2 HKA
  obtain ⟨sb, hsb⟩ : ∃ sb, w1.heap.size = sb := ⟨_, rfl⟩
  rw [hsb] at HS2 ⊢
  clear hsb
  go_wp2_with fail
  refine (parse_03 w2).mono ?_
  rintro e w3 ⟨rfl, hb3⟩
  have HS3 := Lib.hid (HS2.out.below hb3 HS2.out.lt)
  have HW3 := Lib.hid (kept_of HW2.out hb3)
  clear hb3
  go_upto_region 3 with (show wpList _ _ _ ((⟨none, .store 49 (.tmp 3) _, _, _, _, none⟩ : Oper) :: _) _ _; refine wpList_store_mid rfl 49 (.tmp 3) _ rfl w3.heap.size 0 #[.int .i64 0, .int .i64 0, .int .i64 0, .int .i64 0, .int .i64 0, .bool false, .int .u64 0, .int .u64 0, .int .u16 0, .int .u8 0, .int .i64 0, .slice none 0 0, .int .i64 0, .int .i64 0, .int .u8 0, .slice none 0 0, .int .u32 0, .int .u32 0, .int .u32 0, .bool false, .int .u64 0, .int .u64 0, .int .u16 0] rfl rfl ((Blk.new w3 49 #[.int .i64 0, .int .i64 0, .int .i64 0, .int .i64 0, .int .i64 0, .bool false, .int .u64 0, .int .u64 0, .int .u16 0, .int .u8 0, .int .i64 0, .slice none 0 0, .int .i64 0, .int .i64 0, .int .u8 0, .slice none 0 0, .int .u32 0, .int .u32 0, .int .u32 0, .bool false, .int .u64 0, .int .u64 0, .int .u16 0]).there rfl) (by kernel_rfl) (by simp [Value.oneCell']) ?_)
  generalize hw4 : (World.setCells _ _ _ _) = w4
  have HKA := Lib.hid (show Kept (fun i => i = w3.heap.size) (w3.alloc (.cells #[.int .i64 0, .int .i64 0, .int .i64 0, .int .i64 0, .int .i64 0, .bool false, .int .u64 0, .int .u64 0, .int .u16 0, .int .u8 0, .int .i64 0, .slice none 0 0, .int .i64 0, .int .i64 0, .int .u8 0, .slice none 0 0, .int .u32 0, .int .u32 0, .int .u32 0, .bool false, .int .u64 0, .int .u64 0, .int .u16 0] 49)) w4 by rw [← hw4]; exact Kept.setCells (S := fun i => i = w3.heap.size) rfl _ _ (Kept.refl _ _))
  have HS4 := Lib.hid (show Blk w4 sb 49 #[.int .i64 3, .int .i64 0, .int .i64 0, .int .i64 0, .int .i64 0, .bool false, .int .u64 0, .int .u64 0, .int .u16 0, .int .u8 0, .int .i64 0, .slice none 0 0, .int .i64 3, .int .i64 0, .int .u8 0, .slice none 0 0, .int .u32 0, .int .u32 0, .int .u32 0, .bool false, .int .u64 0, .int .u64 0, .int .u16 0] from (HS3.out.alloc _).kept HKA.out (fun e => by have := HS3.out.lt; omega))
  have HW4 := Lib.hid (show Below w.heap.size w w4 from (HW3.out.alloc HW3.out.size _).trans (HKA.out.below (show w.heap.size ≤ (w3.alloc (.cells #[.int .i64 0, .int .i64 0, .int .i64 0, .int .i64 0, .int .i64 0, .bool false, .int .u64 0, .int .u64 0, .int .u16 0, .int .u8 0, .int .i64 0, .slice none 0 0, .int .i64 0, .int .i64 0, .int .u8 0, .slice none 0 0, .int .u32 0, .int .u32 0, .int .u32 0, .bool false, .int .u64 0, .int .u64 0, .int .u16 0] 49)).heap.size by have := HW3.out.size; rw [World.size_alloc]; omega) (fun i e => by have := HW3.out.size; omega)))
  clear hw4 HKA
  have cs := HS4.out.cell
  go_wp2_with fail
  go_ret
  exact ⟨rfl, HW4.out⟩
end Go.Proofs.YthfdhggcnkgjfaaDoor
