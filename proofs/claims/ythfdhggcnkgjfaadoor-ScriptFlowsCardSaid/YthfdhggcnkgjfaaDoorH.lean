/- Parse at what awake meets; awake. -/
import Derived.Test.YthfdhggcnkgjfaaDoorG
namespace Go.Proofs.YthfdhggcnkgjfaaDoor
open Go.RowKit
set_option linter.unusedVariables false
theorem great_3 (wb : Nat) (w : World) (hB : Blk w wb 72 #[.string ⟨#[51]⟩, .bool false, .bool false]) :
    Calls Tryd.prog 32 #[.pointer (some ⟨wb, 0, none⟩)] w fun e w' => e = .returned (.int .i64 3) ∧ Blk w' wb 72 #[.string ⟨#[]⟩, .bool true, .bool false] ∧ Kept (fun i => i = wb) w w' := by
  have HB := Lib.hid hB
  clear hB
  go_enter Tryd.func32, Tryd.ntmps32
  go_wp2_with fail
  refine (word_at ⟨#[51]⟩ ⟨#[51]⟩ ⟨#[]⟩ false false wb w HB.out (cut_c w)).mono ?_
  rintro e w1 ⟨rfl, hB1, hk1⟩
  have HB1 := Lib.hid (show Blk w1 wb 72 #[.string ⟨#[]⟩, .bool true, .bool false] from hB1)
  have HK1 := Lib.hid hk1
  clear hB1 hk1
  go_wp2_with fail
  refine (num_ok ⟨#[51]⟩ 3 1073741824 ⟨#[]⟩ true false wb w1 HB1.out (fun u => num3_any u)).mono ?_
  rintro e w2 ⟨rfl, hB2, hk2⟩
  have HB2 := Lib.hid hB2
  have HK2 := Lib.hid (HK1.out.then hk2 (fun i _ h => h))
  clear hB2 hk2
  go_wp2_with fail
  go_ret
  exact ⟨rfl, HB2.out, HK2.out⟩
theorem great_03 (wb : Nat) (w : World) (hB : Blk w wb 72 #[.string ⟨#[48, 51]⟩, .bool false, .bool false]) :
    Calls Tryd.prog 32 #[.pointer (some ⟨wb, 0, none⟩)] w fun e w' => e = .returned (.int .i64 0) ∧ Blk w' wb 72 #[.string ⟨#[]⟩, .bool true, .bool true] ∧ Kept (fun i => i = wb) w w' := by
  have HB := Lib.hid hB
  clear hB
  go_enter Tryd.func32, Tryd.ntmps32
  go_wp2_with fail
  refine (word_at ⟨#[48, 51]⟩ ⟨#[48, 51]⟩ ⟨#[]⟩ false false wb w HB.out (cut_d w)).mono ?_
  rintro e w1 ⟨rfl, hB1, hk1⟩
  have HB1 := Lib.hid (show Blk w1 wb 72 #[.string ⟨#[]⟩, .bool true, .bool false] from hB1)
  have HK1 := Lib.hid hk1
  clear hB1 hk1
  go_wp2_with fail
  refine (num_no ⟨#[48, 51]⟩ 0 1073741824 ⟨#[]⟩ true false wb w1 HB1.out (fun u => num03_any u)).mono ?_
  rintro e w2 ⟨rfl, hB2, hk2⟩
  have HB2 := Lib.hid hB2
  have HK2 := Lib.hid (HK1.out.then hk2 (fun i _ h => h))
  clear hB2 hk2
  go_wp2_with fail
  go_ret
  exact ⟨rfl, HB2.out, HK2.out⟩
set_option maxRecDepth 20000 in
set_option maxHeartbeats 4000000 in
theorem control_3 (wb : Nat) (w : World) (hB : Blk w wb 72 #[.string ⟨#[51]⟩, .bool false, .bool false]) :
    Calls Tryd.prog 21 #[.pointer (some ⟨wb, 0, none⟩), .string ⟨#[111, 102, 102, 101, 114]⟩] w fun e w' => e = .returned (.agg #[.int .i64 3, .int .i64 0, .int .i64 0, .int .i64 0, .int .i64 0, .bool false, .int .u64 0, .int .u64 0, .int .u16 0, .int .u8 0, .int .i64 0, .slice none 0 0, .int .i64 3, .int .i64 0, .int .u8 0, .slice none 0 0, .int .u32 0, .int .u32 0, .int .u32 0, .bool false, .int .u64 0, .int .u64 0, .int .u16 0]) ∧ Blk w' wb 72 #[.string ⟨#[]⟩, .bool true, .bool false] ∧ Kept (fun i => i = wb) w w' := by
  have HB := Lib.hid hB
  clear hB
  go_enter Tryd.func21, Tryd.ntmps21
  go_upto_region 1 with fail
  obtain ⟨w1, hw1⟩ : ∃ w1 : World, w1 = w.alloc (.cells #[.int .i64 0, .int .i64 0, .int .i64 0, .int .i64 0, .int .i64 0, .bool false, .int .u64 0, .int .u64 0, .int .u16 0, .int .u8 0, .int .i64 0, .slice none 0 0, .int .i64 0, .int .i64 0, .int .u8 0, .slice none 0 0, .int .u32 0, .int .u32 0, .int .u32 0, .bool false, .int .u64 0, .int .u64 0, .int .u16 0] 49) := ⟨_, rfl⟩
  have HB1 := Lib.hid (show Blk w1 wb 72 #[.string ⟨#[51]⟩, .bool false, .bool false] by rw [hw1]; exact HB.out.alloc _)
  have HR1 := Lib.hid (show Blk w1 w.heap.size 49 #[.int .i64 0, .int .i64 0, .int .i64 0, .int .i64 0, .int .i64 0, .bool false, .int .u64 0, .int .u64 0, .int .u16 0, .int .u8 0, .int .i64 0, .slice none 0 0, .int .i64 0, .int .i64 0, .int .u8 0, .slice none 0 0, .int .u32 0, .int .u32 0, .int .u32 0, .bool false, .int .u64 0, .int .u64 0, .int .u16 0] by rw [hw1]; exact Blk.new _ _ _)
  have HK1 := Lib.hid (show Kept (fun i => i = wb) w w1 by rw [hw1]; exact (Kept.refl _ _).alloc _)
  rw [← hw1]
  clear hw1
  have HRL := Lib.hid (show w.heap.size ≠ wb from fun e => by have := HB.out.lt; omega)
  obtain ⟨rb, hrb⟩ : ∃ rb, w.heap.size = rb := ⟨_, rfl⟩
  have HRB := Lib.hid hrb
  rw [hrb] at HR1 HRL ⊢
  clear hrb
  go_wp2_with fail
  refine (great_3 wb w1 HB1.out).mono ?_
  rintro e w2 ⟨rfl, hB2, hk2⟩
  have HB2 := Lib.hid hB2
  have HK2 := Lib.hid (HK1.out.then hk2 (fun i _ h => h))
  have HR2 := Lib.hid (HR1.out.kept hk2 HRL.out)
  clear hB2 hk2
  go_wp2_with (refine wpList_store_mid rfl 49 (.tmp 4) _ rfl rb 0 #[.int .i64 3, .int .i64 0, .int .i64 0, .int .i64 0, .int .i64 0, .bool false, .int .u64 0, .int .u64 0, .int .u16 0, .int .u8 0, .int .i64 0, .slice none 0 0, .int .i64 3, .int .i64 0, .int .u8 0, .slice none 0 0, .int .u32 0, .int .u32 0, .int .u32 0, .bool false, .int .u64 0, .int .u64 0, .int .u16 0] rfl rfl (HR2.out.there rfl) (by kernel_rfl) (by simp [Value.oneCell']) ?_)
  generalize hw9 : (World.setCells _ _ _ _) = w9
  have HK9 := Lib.hid (show Kept (fun i => i = rb) w2 w9 by rw [← hw9]; exact Kept.setCells (S := fun i => i = rb) rfl _ _ (Kept.refl _ _))
  have HR9 := Lib.hid (show Blk w9 rb 49 #[.int .i64 3, .int .i64 0, .int .i64 0, .int .i64 0, .int .i64 0, .bool false, .int .u64 0, .int .u64 0, .int .u16 0, .int .u8 0, .int .i64 0, .slice none 0 0, .int .i64 3, .int .i64 0, .int .u8 0, .slice none 0 0, .int .u32 0, .int .u32 0, .int .u32 0, .bool false, .int .u64 0, .int .u64 0, .int .u16 0] by rw [← hw9]; exact HR2.out.setAll #[.int .i64 3, .int .i64 0, .int .i64 0, .int .i64 0, .int .i64 0, .bool false, .int .u64 0, .int .u64 0, .int .u16 0, .int .u8 0, .int .i64 0, .slice none 0 0, .int .i64 3, .int .i64 0, .int .u8 0, .slice none 0 0, .int .u32 0, .int .u32 0, .int .u32 0, .bool false, .int .u64 0, .int .u64 0, .int .u16 0] rfl)
  clear hw9
  refine bodyPost_ret (results_blk1 (P := Tryd.prog) (show Tryd.f21.results = _ from rfl) _ _ rb 49 #[.int .i64 3, .int .i64 0, .int .i64 0, .int .i64 0, .int .i64 0, .bool false, .int .u64 0, .int .u64 0, .int .u16 0, .int .u8 0, .int .i64 0, .slice none 0 0, .int .i64 3, .int .i64 0, .int .u8 0, .slice none 0 0, .int .u32 0, .int .u32 0, .int .u32 0, .bool false, .int .u64 0, .int .u64 0, .int .u16 0] _ rfl HR9.out Tryd.underlying49 rfl (by kernel_rfl)) rfl ⟨rfl, ?_, ?_⟩
  · exact HB2.out.kept HK9.out (fun e => HRL.out e.symm)
  · exact HK2.out.then HK9.out (fun i hi e => absurd e (by have := HRB.out; omega))
set_option maxRecDepth 20000 in
set_option maxHeartbeats 4000000 in
theorem control_03 (wb : Nat) (w : World) (hB : Blk w wb 72 #[.string ⟨#[48, 51]⟩, .bool false, .bool false]) :
    Calls Tryd.prog 21 #[.pointer (some ⟨wb, 0, none⟩), .string ⟨#[111, 102, 102, 101, 114]⟩] w fun e w' => e = .returned (.agg #[.int .i64 3, .int .i64 0, .int .i64 0, .int .i64 0, .int .i64 0, .bool false, .int .u64 0, .int .u64 0, .int .u16 0, .int .u8 0, .int .i64 0, .slice none 0 0, .int .i64 0, .int .i64 0, .int .u8 0, .slice none 0 0, .int .u32 0, .int .u32 0, .int .u32 0, .bool false, .int .u64 0, .int .u64 0, .int .u16 0]) ∧ Blk w' wb 72 #[.string ⟨#[]⟩, .bool true, .bool true] ∧ Kept (fun i => i = wb) w w' := by
  have HB := Lib.hid hB
  clear hB
  go_enter Tryd.func21, Tryd.ntmps21
  go_upto_region 1 with fail
  obtain ⟨w1, hw1⟩ : ∃ w1 : World, w1 = w.alloc (.cells #[.int .i64 0, .int .i64 0, .int .i64 0, .int .i64 0, .int .i64 0, .bool false, .int .u64 0, .int .u64 0, .int .u16 0, .int .u8 0, .int .i64 0, .slice none 0 0, .int .i64 0, .int .i64 0, .int .u8 0, .slice none 0 0, .int .u32 0, .int .u32 0, .int .u32 0, .bool false, .int .u64 0, .int .u64 0, .int .u16 0] 49) := ⟨_, rfl⟩
  have HB1 := Lib.hid (show Blk w1 wb 72 #[.string ⟨#[48, 51]⟩, .bool false, .bool false] by rw [hw1]; exact HB.out.alloc _)
  have HR1 := Lib.hid (show Blk w1 w.heap.size 49 #[.int .i64 0, .int .i64 0, .int .i64 0, .int .i64 0, .int .i64 0, .bool false, .int .u64 0, .int .u64 0, .int .u16 0, .int .u8 0, .int .i64 0, .slice none 0 0, .int .i64 0, .int .i64 0, .int .u8 0, .slice none 0 0, .int .u32 0, .int .u32 0, .int .u32 0, .bool false, .int .u64 0, .int .u64 0, .int .u16 0] by rw [hw1]; exact Blk.new _ _ _)
  have HK1 := Lib.hid (show Kept (fun i => i = wb) w w1 by rw [hw1]; exact (Kept.refl _ _).alloc _)
  rw [← hw1]
  clear hw1
  have HRL := Lib.hid (show w.heap.size ≠ wb from fun e => by have := HB.out.lt; omega)
  obtain ⟨rb, hrb⟩ : ∃ rb, w.heap.size = rb := ⟨_, rfl⟩
  have HRB := Lib.hid hrb
  rw [hrb] at HR1 HRL ⊢
  clear hrb
  go_wp2_with fail
  refine (great_03 wb w1 HB1.out).mono ?_
  rintro e w2 ⟨rfl, hB2, hk2⟩
  have HB2 := Lib.hid hB2
  have HK2 := Lib.hid (HK1.out.then hk2 (fun i _ h => h))
  have HR2 := Lib.hid (HR1.out.kept hk2 HRL.out)
  clear hB2 hk2
  go_wp2_with (refine wpList_store_mid rfl 49 (.tmp 4) _ rfl rb 0 #[.int .i64 3, .int .i64 0, .int .i64 0, .int .i64 0, .int .i64 0, .bool false, .int .u64 0, .int .u64 0, .int .u16 0, .int .u8 0, .int .i64 0, .slice none 0 0, .int .i64 0, .int .i64 0, .int .u8 0, .slice none 0 0, .int .u32 0, .int .u32 0, .int .u32 0, .bool false, .int .u64 0, .int .u64 0, .int .u16 0] rfl rfl (HR2.out.there rfl) (by kernel_rfl) (by simp [Value.oneCell']) ?_)
  generalize hw9 : (World.setCells _ _ _ _) = w9
  have HK9 := Lib.hid (show Kept (fun i => i = rb) w2 w9 by rw [← hw9]; exact Kept.setCells (S := fun i => i = rb) rfl _ _ (Kept.refl _ _))
  have HR9 := Lib.hid (show Blk w9 rb 49 #[.int .i64 3, .int .i64 0, .int .i64 0, .int .i64 0, .int .i64 0, .bool false, .int .u64 0, .int .u64 0, .int .u16 0, .int .u8 0, .int .i64 0, .slice none 0 0, .int .i64 0, .int .i64 0, .int .u8 0, .slice none 0 0, .int .u32 0, .int .u32 0, .int .u32 0, .bool false, .int .u64 0, .int .u64 0, .int .u16 0] by rw [← hw9]; exact HR2.out.setAll #[.int .i64 3, .int .i64 0, .int .i64 0, .int .i64 0, .int .i64 0, .bool false, .int .u64 0, .int .u64 0, .int .u16 0, .int .u8 0, .int .i64 0, .slice none 0 0, .int .i64 0, .int .i64 0, .int .u8 0, .slice none 0 0, .int .u32 0, .int .u32 0, .int .u32 0, .bool false, .int .u64 0, .int .u64 0, .int .u16 0] rfl)
  clear hw9
  refine bodyPost_ret (results_blk1 (P := Tryd.prog) (show Tryd.f21.results = _ from rfl) _ _ rb 49 #[.int .i64 3, .int .i64 0, .int .i64 0, .int .i64 0, .int .i64 0, .bool false, .int .u64 0, .int .u64 0, .int .u16 0, .int .u8 0, .int .i64 0, .slice none 0 0, .int .i64 0, .int .i64 0, .int .u8 0, .slice none 0 0, .int .u32 0, .int .u32 0, .int .u32 0, .bool false, .int .u64 0, .int .u64 0, .int .u16 0] _ rfl HR9.out Tryd.underlying49 rfl (by kernel_rfl)) rfl ⟨rfl, ?_, ?_⟩
  · exact HB2.out.kept HK9.out (fun e => HRL.out e.symm)
  · exact HK2.out.then HK9.out (fun i hi e => absurd e (by have := HRB.out; omega))
end Go.Proofs.YthfdhggcnkgjfaaDoor
