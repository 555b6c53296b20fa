/- The law ScriptFlows, walked. -/
import Derived.Test.YthfdhggcnkgjfaaDoorXH
namespace Go.Proofs.YthfdhggcnkgjfaaDoor
open Go.RowKit
set_option linter.unusedVariables false
set_option linter.unusedSimpArgs false
set_option maxRecDepth 20000 in
set_option maxHeartbeats 8000000 in
theorem flows_any (s : ByteArray) (hs : s.size ≤ 9223372036854775807) (w : World) : Calls Tryd.prog 3 #[.string s] w fun e w' => e = .returned (.bool true) ∧ Below w.heap.size w w' := by
  have hs0 : (0 : Int) ≤ (s.size : Int) := Int.natCast_nonneg _
  have hs1 : (s.size : Int) ≤ 9223372036854775807 := by omega
  by_cases hl : 300 < s.size
  · have hI : (300 : Int) < (s.size : Int) := by omega
    go_enter Tryd.func3, Tryd.ntmps3
    go_wp2_with fail
    refine (awake_any w).mono ?_
    rintro e w1 ⟨rfl, hb1⟩
    go_wp2_with fail
    go_ret
    exact ⟨rfl, hb1⟩
  · have hI : ¬ (300 : Int) < (s.size : Int) := by omega
    have HF1 := Lib.hid (flow_any s (by omega) w)
    have HF2 := Lib.hid (fun W => refFlow_any s (by omega) W)
    generalize flowP s.data.toList = o at HF1 HF2
    go_enter Tryd.func3, Tryd.ntmps3
    go_wp2_with fail
    refine HF1.out.mono ?_
    rintro e w1 ⟨rfl, hb1⟩
    have HB1 := Lib.hid hb1
    have hb1s := hb1.size
    clear hb1 HF1
    cases o with
    | none =>
      unfold flowV at HF2
      unfold flowV flowE
      simp only [Option.isSome_some, Option.isSome_none, if_true, Bool.false_eq_true, if_false] at HF2 ⊢
      go_upto_region 4 with (show wpList _ _ _ ((⟨none, .store 28 (.tmp 3) _, _, _, _, none⟩ : Oper) :: _) _ _; refine wpList_store_mid rfl 28 (.tmp 3) _ rfl w1.heap.size 0 #[.bool false, .int .u64 0, .int .u64 0, .bool false, .int .u64 0, .int .u64 0, .int .u16 0, .int .u16 0, .int .u8 0] rfl rfl ((Blk.new w1 28 #[.bool false, .int .u64 0, .int .u64 0, .bool false, .int .u64 0, .int .u64 0, .int .u16 0, .int .u16 0, .int .u8 0]).there rfl) (by kernel_rfl) (by simp [Value.oneCell']) ?_)
      generalize hw9 : (World.setCells _ _ _ _) = w2
      have HKA := Lib.hid (show Kept (fun i => i = w1.heap.size) (w1.alloc (.cells #[.bool false, .int .u64 0, .int .u64 0, .bool false, .int .u64 0, .int .u64 0, .int .u16 0, .int .u16 0, .int .u8 0] 28)) w2 by rw [← hw9]; exact Kept.setCells (S := fun i => i = w1.heap.size) rfl _ _ (Kept.refl _ _))
      have HX2 := Lib.hid (show Blk w2 w1.heap.size 28 #[.bool false, .int .u64 0, .int .u64 0, .bool false, .int .u64 0, .int .u64 0, .int .u16 0, .int .u16 0, .int .u8 0] by rw [← hw9]; exact (Blk.new w1 28 #[.bool false, .int .u64 0, .int .u64 0, .bool false, .int .u64 0, .int .u64 0, .int .u16 0, .int .u16 0, .int .u8 0]).setAll #[.bool false, .int .u64 0, .int .u64 0, .bool false, .int .u64 0, .int .u64 0, .int .u16 0, .int .u16 0, .int .u8 0] rfl)
      have HKB := Lib.hid (show Kept (fun _ => False) w1 w2 from ((Kept.refl _ _).alloc _).then HKA.out (fun i hi e => by omega))
      clear hw9 HKA
      have HB2 := Lib.hid (HB1.out.trans (HKB.out.below HB1.out.size (fun _ h => h.elim)))
      obtain ⟨xa, hxa⟩ : ∃ xa, w1.heap.size = xa := ⟨_, rfl⟩
      rw [hxa] at HX2 ⊢
      clear HKB HB1 hxa
      go_wp2_with fail
      refine (HF2.out w2).mono ?_
      rintro e w4 ⟨rfl, hb4⟩
      have HX4 := Lib.hid (HX2.out.below hb4 HX2.out.lt)
      have HB4 := Lib.hid (HB2.out.trans (hb4.mono HB2.out.size))
      clear hb4 HB2 HX2
      go_upto_region 5 with (show wpList _ _ _ ((⟨none, .store 28 (.tmp 5) _, _, _, _, none⟩ : Oper) :: _) _ _; refine wpList_store_mid rfl 28 (.tmp 5) _ rfl w4.heap.size 0 #[.bool false, .int .u64 0, .int .u64 0, .bool false, .int .u64 0, .int .u64 0, .int .u16 0, .int .u16 0, .int .u8 0] rfl rfl ((Blk.new w4 28 #[.bool false, .int .u64 0, .int .u64 0, .bool false, .int .u64 0, .int .u64 0, .int .u16 0, .int .u16 0, .int .u8 0]).there rfl) (by kernel_rfl) (by simp [Value.oneCell']) ?_)
      generalize hw9 : (World.setCells _ _ _ _) = w5
      have HKA := Lib.hid (show Kept (fun i => i = w4.heap.size) (w4.alloc (.cells #[.bool false, .int .u64 0, .int .u64 0, .bool false, .int .u64 0, .int .u64 0, .int .u16 0, .int .u16 0, .int .u8 0] 28)) w5 by rw [← hw9]; exact Kept.setCells (S := fun i => i = w4.heap.size) rfl _ _ (Kept.refl _ _))
      have HX5 := Lib.hid (show Blk w5 w4.heap.size 28 #[.bool false, .int .u64 0, .int .u64 0, .bool false, .int .u64 0, .int .u64 0, .int .u16 0, .int .u16 0, .int .u8 0] by rw [← hw9]; exact (Blk.new w4 28 #[.bool false, .int .u64 0, .int .u64 0, .bool false, .int .u64 0, .int .u64 0, .int .u16 0, .int .u16 0, .int .u8 0]).setAll #[.bool false, .int .u64 0, .int .u64 0, .bool false, .int .u64 0, .int .u64 0, .int .u16 0, .int .u16 0, .int .u8 0] rfl)
      have HKB := Lib.hid (show Kept (fun _ => False) w4 w5 from ((Kept.refl _ _).alloc _).then HKA.out (fun i hi e => by omega))
      clear hw9 HKA
      have HB5 := Lib.hid (HB4.out.trans (HKB.out.below HB4.out.size (fun _ h => h.elim)))
      have HY5 := Lib.hid (HX4.out.kept HKB.out (fun h => h))
      obtain ⟨xb, hxb⟩ : ∃ xb, w4.heap.size = xb := ⟨_, rfl⟩
      rw [hxb] at HX5 ⊢
      clear HKB HB4 HX4 hxb
      have cx := HX5.out.cell
      have cy := HY5.out.cell
      have lx := HX5.out.lt
      have ly := HY5.out.lt
      go_wp2_with fail
      refine (awake_any w5).mono ?_
      rintro e w6 ⟨rfl, hb6⟩
      go_wp2_with fail
      go_ret
      exact ⟨rfl, HB5.out.trans (hb6.mono HB5.out.size)⟩
    | some f =>
      obtain ⟨⟨a6, ah, al⟩, ⟨b6, bh, bl⟩, sp, dp, pr⟩ := f
      unfold flowV at HF2
      unfold flowV flowE
      simp only [Option.isSome_some, Option.isSome_none, if_true, Bool.false_eq_true, if_false] at HF2 ⊢
      go_upto_region 4 with (show wpList _ _ _ ((⟨none, .store 28 (.tmp 3) _, _, _, _, none⟩ : Oper) :: _) _ _; refine wpList_store_mid rfl 28 (.tmp 3) _ rfl w1.heap.size 0 #[.bool a6, .int .u64 (ah : Int), .int .u64 (al : Int), .bool b6, .int .u64 (bh : Int), .int .u64 (bl : Int), .int .u16 (sp : Int), .int .u16 (dp : Int), .int .u8 (pr : Int)] rfl rfl ((Blk.new w1 28 #[.bool false, .int .u64 0, .int .u64 0, .bool false, .int .u64 0, .int .u64 0, .int .u16 0, .int .u16 0, .int .u8 0]).there rfl) (by kernel_rfl) (by simp [Value.oneCell']) ?_)
      generalize hw9 : (World.setCells _ _ _ _) = w2
      have HKA := Lib.hid (show Kept (fun i => i = w1.heap.size) (w1.alloc (.cells #[.bool false, .int .u64 0, .int .u64 0, .bool false, .int .u64 0, .int .u64 0, .int .u16 0, .int .u16 0, .int .u8 0] 28)) w2 by rw [← hw9]; exact Kept.setCells (S := fun i => i = w1.heap.size) rfl _ _ (Kept.refl _ _))
      have HX2 := Lib.hid (show Blk w2 w1.heap.size 28 #[.bool a6, .int .u64 (ah : Int), .int .u64 (al : Int), .bool b6, .int .u64 (bh : Int), .int .u64 (bl : Int), .int .u16 (sp : Int), .int .u16 (dp : Int), .int .u8 (pr : Int)] by rw [← hw9]; exact (Blk.new w1 28 #[.bool false, .int .u64 0, .int .u64 0, .bool false, .int .u64 0, .int .u64 0, .int .u16 0, .int .u16 0, .int .u8 0]).setAll #[.bool a6, .int .u64 (ah : Int), .int .u64 (al : Int), .bool b6, .int .u64 (bh : Int), .int .u64 (bl : Int), .int .u16 (sp : Int), .int .u16 (dp : Int), .int .u8 (pr : Int)] rfl)
      have HKB := Lib.hid (show Kept (fun _ => False) w1 w2 from ((Kept.refl _ _).alloc _).then HKA.out (fun i hi e => by omega))
      clear hw9 HKA
      have HB2 := Lib.hid (HB1.out.trans (HKB.out.below HB1.out.size (fun _ h => h.elim)))
      obtain ⟨xa, hxa⟩ : ∃ xa, w1.heap.size = xa := ⟨_, rfl⟩
      rw [hxa] at HX2 ⊢
      clear HKB HB1 hxa
      go_wp2_with fail
      refine (HF2.out w2).mono ?_
      rintro e w4 ⟨rfl, hb4⟩
      have HX4 := Lib.hid (HX2.out.below hb4 HX2.out.lt)
      have HB4 := Lib.hid (HB2.out.trans (hb4.mono HB2.out.size))
      clear hb4 HB2 HX2
      go_upto_region 5 with (show wpList _ _ _ ((⟨none, .store 28 (.tmp 5) _, _, _, _, none⟩ : Oper) :: _) _ _; refine wpList_store_mid rfl 28 (.tmp 5) _ rfl w4.heap.size 0 #[.bool a6, .int .u64 (ah : Int), .int .u64 (al : Int), .bool b6, .int .u64 (bh : Int), .int .u64 (bl : Int), .int .u16 (sp : Int), .int .u16 (dp : Int), .int .u8 (pr : Int)] rfl rfl ((Blk.new w4 28 #[.bool false, .int .u64 0, .int .u64 0, .bool false, .int .u64 0, .int .u64 0, .int .u16 0, .int .u16 0, .int .u8 0]).there rfl) (by kernel_rfl) (by simp [Value.oneCell']) ?_)
      generalize hw9 : (World.setCells _ _ _ _) = w5
      have HKA := Lib.hid (show Kept (fun i => i = w4.heap.size) (w4.alloc (.cells #[.bool false, .int .u64 0, .int .u64 0, .bool false, .int .u64 0, .int .u64 0, .int .u16 0, .int .u16 0, .int .u8 0] 28)) w5 by rw [← hw9]; exact Kept.setCells (S := fun i => i = w4.heap.size) rfl _ _ (Kept.refl _ _))
      have HX5 := Lib.hid (show Blk w5 w4.heap.size 28 #[.bool a6, .int .u64 (ah : Int), .int .u64 (al : Int), .bool b6, .int .u64 (bh : Int), .int .u64 (bl : Int), .int .u16 (sp : Int), .int .u16 (dp : Int), .int .u8 (pr : Int)] by rw [← hw9]; exact (Blk.new w4 28 #[.bool false, .int .u64 0, .int .u64 0, .bool false, .int .u64 0, .int .u64 0, .int .u16 0, .int .u16 0, .int .u8 0]).setAll #[.bool a6, .int .u64 (ah : Int), .int .u64 (al : Int), .bool b6, .int .u64 (bh : Int), .int .u64 (bl : Int), .int .u16 (sp : Int), .int .u16 (dp : Int), .int .u8 (pr : Int)] rfl)
      have HKB := Lib.hid (show Kept (fun _ => False) w4 w5 from ((Kept.refl _ _).alloc _).then HKA.out (fun i hi e => by omega))
      clear hw9 HKA
      have HB5 := Lib.hid (HB4.out.trans (HKB.out.below HB4.out.size (fun _ h => h.elim)))
      have HY5 := Lib.hid (HX4.out.kept HKB.out (fun h => h))
      obtain ⟨xb, hxb⟩ : ∃ xb, w4.heap.size = xb := ⟨_, rfl⟩
      rw [hxb] at HX5 ⊢
      clear HKB HB4 HX4 hxb
      have cx := HX5.out.cell
      have cy := HY5.out.cell
      have lx := HX5.out.lt
      have ly := HY5.out.lt
      go_wp2_with fail
      refine (awake_any w5).mono ?_
      rintro e w6 ⟨rfl, hb6⟩
      go_wp2_with fail
      go_ret
      exact ⟨rfl, HB5.out.trans (hb6.mono HB5.out.size)⟩
end Go.Proofs.YthfdhggcnkgjfaaDoor
