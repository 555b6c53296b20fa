/- desk.Run, works at 'offer 0'. -/
import Derived.Test.YtdnbhmfofphblaaGreatDoorVN
namespace Go.Proofs.YtdnbhmfofphblaaGreatDoor
open Go.RowKit
set_option maxRecDepth 100000
set_option linter.unusedVariables false
set_option linter.unusedSimpArgs false
set_option maxRecDepth 100000 in
set_option maxHeartbeats 2000000 in
theorem deskRun (w : World) : Calls Tryz.prog 12 #[.string ⟨#[111, 102, 102, 101, 114, 32, 48]⟩] w fun e w' => e = .returned (.string ⟨#[111, 102, 102, 101, 114, 32, 48, 10, 9, 101, 114, 114, 111, 114, 32, 54, 10]⟩) ∧ Kept (fun _ => False) w w' := by
  go_enter Tryz.func12, Tryz.ntmps12
  go_wp2_with fail
  refine (deskParse w).mono ?_
  rintro e w2 ⟨b, rfl, hb, hk⟩
  have HLB2 := Lib.hid hb
  have HK2 := Lib.hid hk
  clear hb hk
  go_upto_region 2 with (show wpList _ _ _ ((⟨none, .store 122 (.tmp 3) _, _, _, _, none⟩ : Oper) :: _) _ _; refine wpList_store_mid rfl 122 (.tmp 3) _ rfl w2.heap.size 0 #[.int .u8 (kOne 0), .int .u8 (kOne 1), .int .u8 (kOne 2), .int .u8 (kOne 3), .int .u8 (kOne 4), .int .u8 (kOne 5), .int .u8 (kOne 6), .int .u8 (kOne 7), .int .u8 (kOne 8), .int .u8 (kOne 9), .int .u8 (kOne 10), .int .u8 (kOne 11), .int .u8 (kOne 12), .int .u8 (kOne 13), .int .u8 (kOne 14), .int .u8 (kOne 15), .int .i64 1, .int .i64 1, .slice none 0 0, .int .i64 1500, .int .i64 16, .int .i64 65536, .int .i64 64, .slice (some ⟨b, 0, none⟩) 1 1] rfl rfl ((Blk.new w2 122 #[.int .u8 0, .int .u8 0, .int .u8 0, .int .u8 0, .int .u8 0, .int .u8 0, .int .u8 0, .int .u8 0, .int .u8 0, .int .u8 0, .int .u8 0, .int .u8 0, .int .u8 0, .int .u8 0, .int .u8 0, .int .u8 0, .int .i64 0, .int .i64 0, .slice none 0 0, .int .i64 0, .int .i64 0, .int .i64 0, .int .i64 0, .slice none 0 0]).there rfl) (by kernel_rfl) (by simp [Value.oneCell']) ?_)
  generalize hwq : (World.setCells _ _ _ _) = w3
  have HX3 := Lib.hid (show Kept (fun _ => False) w2 w3 by rw [← hwq]; exact ((Kept.refl _ _).alloc _).then (Kept.setCells (S := fun i => i = w2.heap.size) rfl _ _ (Kept.refl _ _)) (fun i hi e => by omega))
  have T1 : Blk (w2.alloc (.cells #[.int .u8 0, .int .u8 0, .int .u8 0, .int .u8 0, .int .u8 0, .int .u8 0, .int .u8 0, .int .u8 0, .int .u8 0, .int .u8 0, .int .u8 0, .int .u8 0, .int .u8 0, .int .u8 0, .int .u8 0, .int .u8 0, .int .i64 0, .int .i64 0, .slice none 0 0, .int .i64 0, .int .i64 0, .int .i64 0, .int .i64 0, .slice none 0 0] 122)) w2.heap.size 122 #[.int .u8 0, .int .u8 0, .int .u8 0, .int .u8 0, .int .u8 0, .int .u8 0, .int .u8 0, .int .u8 0, .int .u8 0, .int .u8 0, .int .u8 0, .int .u8 0, .int .u8 0, .int .u8 0, .int .u8 0, .int .u8 0, .int .i64 0, .int .i64 0, .slice none 0 0, .int .i64 0, .int .i64 0, .int .i64 0, .int .i64 0, .slice none 0 0] := Blk.new w2 122 #[.int .u8 0, .int .u8 0, .int .u8 0, .int .u8 0, .int .u8 0, .int .u8 0, .int .u8 0, .int .u8 0, .int .u8 0, .int .u8 0, .int .u8 0, .int .u8 0, .int .u8 0, .int .u8 0, .int .u8 0, .int .u8 0, .int .i64 0, .int .i64 0, .slice none 0 0, .int .i64 0, .int .i64 0, .int .i64 0, .int .i64 0, .slice none 0 0]
  have T2 : Blk (World.setCells (w2.alloc (.cells #[.int .u8 0, .int .u8 0, .int .u8 0, .int .u8 0, .int .u8 0, .int .u8 0, .int .u8 0, .int .u8 0, .int .u8 0, .int .u8 0, .int .u8 0, .int .u8 0, .int .u8 0, .int .u8 0, .int .u8 0, .int .u8 0, .int .i64 0, .int .i64 0, .slice none 0 0, .int .i64 0, .int .i64 0, .int .i64 0, .int .i64 0, .slice none 0 0] 122)) w2.heap.size 0 [.int .u8 (kOne 0), .int .u8 (kOne 1), .int .u8 (kOne 2), .int .u8 (kOne 3), .int .u8 (kOne 4), .int .u8 (kOne 5), .int .u8 (kOne 6), .int .u8 (kOne 7), .int .u8 (kOne 8), .int .u8 (kOne 9), .int .u8 (kOne 10), .int .u8 (kOne 11), .int .u8 (kOne 12), .int .u8 (kOne 13), .int .u8 (kOne 14), .int .u8 (kOne 15), .int .i64 1, .int .i64 1, .slice none 0 0, .int .i64 1500, .int .i64 16, .int .i64 65536, .int .i64 64, .slice (some ⟨b, 0, none⟩) 1 1]) w2.heap.size 122 #[.int .u8 (kOne 0), .int .u8 (kOne 1), .int .u8 (kOne 2), .int .u8 (kOne 3), .int .u8 (kOne 4), .int .u8 (kOne 5), .int .u8 (kOne 6), .int .u8 (kOne 7), .int .u8 (kOne 8), .int .u8 (kOne 9), .int .u8 (kOne 10), .int .u8 (kOne 11), .int .u8 (kOne 12), .int .u8 (kOne 13), .int .u8 (kOne 14), .int .u8 (kOne 15), .int .i64 1, .int .i64 1, .slice none 0 0, .int .i64 1500, .int .i64 16, .int .i64 65536, .int .i64 64, .slice (some ⟨b, 0, none⟩) 1 1] := T1.setMid 0 _ _ (by simp) rfl
  have HSB3 := Lib.hid (show Blk w3 w2.heap.size 122 #[.int .u8 (kOne 0), .int .u8 (kOne 1), .int .u8 (kOne 2), .int .u8 (kOne 3), .int .u8 (kOne 4), .int .u8 (kOne 5), .int .u8 (kOne 6), .int .u8 (kOne 7), .int .u8 (kOne 8), .int .u8 (kOne 9), .int .u8 (kOne 10), .int .u8 (kOne 11), .int .u8 (kOne 12), .int .u8 (kOne 13), .int .u8 (kOne 14), .int .u8 (kOne 15), .int .i64 1, .int .i64 1, .slice none 0 0, .int .i64 1500, .int .i64 16, .int .i64 65536, .int .i64 64, .slice (some ⟨b, 0, none⟩) 1 1] by rw [← hwq]; exact T2)
  have HK3 := Lib.hid (HK2.out.trans HX3.out)
  have HLB3 := Lib.hid (HLB2.out.kept HX3.out (fun h => h))
  obtain ⟨sb, hsb⟩ : ∃ sb, w2.heap.size = sb := ⟨_, rfl⟩
  rw [hsb] at HSB3 ⊢
  clear hwq hsb T1 T2
  go_wp2_with (show wpList _ _ _ ((⟨_, .load 39 (.tmp 22), _, _, _, none⟩ : Oper) :: _) _ _; refine wpList_load_mid rfl 39 (.tmp 22) rfl sb 0 rfl [.int .u8 (kOne 0), .int .u8 (kOne 1), .int .u8 (kOne 2), .int .u8 (kOne 3), .int .u8 (kOne 4), .int .u8 (kOne 5), .int .u8 (kOne 6), .int .u8 (kOne 7), .int .u8 (kOne 8), .int .u8 (kOne 9), .int .u8 (kOne 10), .int .u8 (kOne 11), .int .u8 (kOne 12), .int .u8 (kOne 13), .int .u8 (kOne 14), .int .u8 (kOne 15), .int .i64 1, .int .i64 1, .slice none 0 0, .int .i64 1500, .int .i64 16, .int .i64 65536, .int .i64 64] _ (HSB3.out.rangePre [.int .u8 (kOne 0), .int .u8 (kOne 1), .int .u8 (kOne 2), .int .u8 (kOne 3), .int .u8 (kOne 4), .int .u8 (kOne 5), .int .u8 (kOne 6), .int .u8 (kOne 7), .int .u8 (kOne 8), .int .u8 (kOne 9), .int .u8 (kOne 10), .int .u8 (kOne 11), .int .u8 (kOne 12), .int .u8 (kOne 13), .int .u8 (kOne 14), .int .u8 (kOne 15), .int .i64 1, .int .i64 1, .slice none 0 0, .int .i64 1500, .int .i64 16, .int .i64 65536, .int .i64 64] [.slice (some ⟨b, 0, none⟩) 1 1] rfl) Tryz.underlying39 rfl (by kernel_rfl) ?_)
  refine (fltNew kOne 16 65536 64 (by omega) (by omega) (by omega) (by omega) (by omega) (by omega) w3).mono ?_
  rintro e w4 ⟨xb, cl, jb, nb, db, mb, st, su, rm, RA, rc, ra, TA, tc, xs, cb, mg, rfl, -, -, -, -, -, hx, hc, hr, -, -, -, -, hk⟩
  have HX4 := Lib.hid hx
  have HC4 := Lib.hid hc
  have HR4 := Lib.hid hr
  have HK4 := Lib.hid (HK3.out.trans hk)
  have HSB4 := Lib.hid (HSB3.out.kept hk (fun h => h))
  have HLB4 := Lib.hid (HLB3.out.kept hk (fun h => h))
  clear hx hc hr hk
  go_upto_region 8 with fail
  obtain ⟨w5, hw5⟩ : ∃ w5 : World, w5 = w4.alloc (.cells #[.pointer none, .slice none 0 0] 129) := ⟨_, rfl⟩
  have HBB5 := Lib.hid (show Blk w5 w4.heap.size 129 #[.pointer none, .slice none 0 0] by rw [hw5]; exact Blk.new _ _ _)
  have hk : Kept (fun _ => False) w4 w5 := by rw [hw5]; exact (Kept.refl _ _).alloc _
  have HX5 := Lib.hid (HX4.out.kept hk (fun h => h))
  have HC5 := Lib.hid (HC4.out.kept hk (fun h => h) (fun h => h) (fun h => h))
  have HR5 := Lib.hid (Row.kept HR4.out hk (fun _ _ h => h))
  have HK5 := Lib.hid (HK4.out.trans hk)
  have HSB5 := Lib.hid (HSB4.out.kept hk (fun h => h))
  have HLB5 := Lib.hid (HLB4.out.kept hk (fun h => h))
  have HBW := Lib.hid (show w.heap.size ≤ w4.heap.size from HK4.out.size)
  rw [← hw5]
  clear hw5 hk
  obtain ⟨bb, hbb⟩ : ∃ bb, w4.heap.size = bb := ⟨_, rfl⟩
  rw [hbb] at HBB5 HBW ⊢
  clear hbb
  have cL := HLB5.out.cell
  have lL := HLB5.out.lt
  have fL := HLB5.out.frozen
  have cS := HSB5.out.cell
  have lS := HSB5.out.lt
  have fS := HSB5.out.frozen
  go_wp2_with fail
  refine wp_loop_rounds 2 ?_
  rw [rounds_succ]
  go_wp2_with fail
  refine (deskDo kOne xb cl jb nb db mb st su rm w3.heap.size RA TA rc ra tc w5 HX5.out HC5.out HR5.out).mono ?_
  rintro e w6 ⟨rfl, hk⟩
  have HBB6 := Lib.hid (HBB5.out.kept hk (fun h => h))
  have HK6 := Lib.hid (HK5.out.trans hk)
  clear hk cL lL fL cS lS fS
  go_wp2_with fail
  have hs : ((({ data := #[111, 102, 102, 101, 114, 32, 48] } : ByteArray) ++ ({ data := #[10, 9] } : ByteArray) ++ ({ data := #[101, 114, 114, 111, 114, 32, 54] } : ByteArray) ++ ({ data := #[10] } : ByteArray)) : ByteArray) = ⟨#[111, 102, 102, 101, 114, 32, 48, 10, 9, 101, 114, 114, 111, 114, 32, 54, 10]⟩ := by kernel_rfl
  rw [hs]
  clear hs
  refine (writeT bb ⟨#[111, 102, 102, 101, 114, 32, 48, 10, 9, 101, 114, 114, 111, 114, 32, 54, 10]⟩ (by decide) w6 HBB6.out).mono ?_
  rintro e w7 ⟨rfl, hbu, hk⟩
  have HBU := Lib.hid (show Lib.IsBuilder 129 5 bb bb (Lib.byteCells [111, 102, 102, 101, 114, 32, 48, 10, 9, 101, 114, 114, 111, 114, 32, 54, 10]) w7 from .inr hbu)
  have HK7 := Lib.hid (HK6.out.then hk (fun i hi h => by have := HBW.out; omega))
  clear hbu hk
  go_wp2_with fail
  rw [rounds_succ]
  go_wp2_with fail
  refine (Tryz.Builder_String bb bb [111, 102, 102, 101, 114, 32, 48, 10, 9, 101, 114, 114, 111, 114, 32, 54, 10] w7 HBU.out (by decide)).mono ?_
  rintro e w8 ⟨rfl, hbw⟩
  have HK8 := Lib.hid (HK7.out.then (Kept.of_below (S := fun i => bb ≤ i) hbw (fun i _ h => h)) (fun i hi h => by have := HBW.out; omega))
  clear hbw
  go_wp2_with fail
  go_ret
  exact ⟨rfl, HK8.out⟩
theorem worksT (w : World) : Calls Tryz.prog 4 #[] w fun e w' => e = .returned (.bool true) ∧ Kept (fun _ => False) w w' := by
  go_enter Tryz.func4, Tryz.ntmps4
  go_wp2_with fail
  refine (deskRun w).mono ?_
  rintro e w2 ⟨rfl, hk⟩
  go_wp2_with fail
  go_ret
  exact ⟨by first | rfl | simp, hk⟩
end Go.Proofs.YtdnbhmfofphblaaGreatDoor
