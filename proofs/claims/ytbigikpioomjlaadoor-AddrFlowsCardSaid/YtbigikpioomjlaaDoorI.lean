/- AddrFlows where one of the addresses may not be. -/
import Derived.Test.YtbigikpioomjlaaDoorH
namespace Go.Proofs.YtbigikpioomjlaaDoor
open Go.RowKit
set_option linter.unusedVariables false
set_option maxHeartbeats 8000000 in
theorem flows_bad0 (f g : Fl) (w : World) (r0 : f.src.okB = false) : Calls Tryd.prog 3 #[.agg #[.bool f.src.six, .int .u64 f.src.high, .int .u64 f.src.low, .bool f.dst.six, .int .u64 f.dst.high, .int .u64 f.dst.low, .int .u16 f.sp, .int .u16 f.dp, .int .u8 f.pr], .agg #[.bool g.src.six, .int .u64 g.src.high, .int .u64 g.src.low, .bool g.dst.six, .int .u64 g.dst.high, .int .u64 g.dst.low, .int .u16 g.sp, .int .u16 g.dp, .int .u8 g.pr]] w fun e w' => e = .returned (.bool true) ∧ Below w.heap.size w w' := by
  have R0 := Lib.hid (fun u => refRightA_any f.src u)
  rw [r0] at R0
  clear r0
  go_enter Tryd.func3, Tryd.ntmps3
  go_upto_region 1 with fail
  generalize hw2 : (World.alloc _ _) = w2
  have HN := Lib.hid (show Blk w2 w.heap.size 27 #[.bool f.src.six, .int .u64 f.src.high, .int .u64 f.src.low, .bool f.dst.six, .int .u64 f.dst.high, .int .u64 f.dst.low, .int .u16 f.sp, .int .u16 f.dp, .int .u8 f.pr] ∧ Blk w2 (w.heap.size + 1) 27 #[.bool g.src.six, .int .u64 g.src.high, .int .u64 g.src.low, .bool g.dst.six, .int .u64 g.dst.high, .int .u64 g.dst.low, .int .u16 g.sp, .int .u16 g.dp, .int .u8 g.pr] ∧ Below w.heap.size w w2 by
    rw [← hw2]
    exact ⟨(Blk.new _ _ _).alloc _, Blk.new_ (by simp) _ _, ((Below.refl _ _).alloc (Nat.le_refl _) _).alloc (by simp) _⟩)
  have hl1 := HN.out.1.lt
  have hl2 := HN.out.2.1.lt
  clear hw2
  have HA := Lib.hid (show ∀ W : World, Below w2.heap.size w2 W → W.cell? ⟨w.heap.size, 0, none⟩ = some (.bool f.src.six) ∧ W.cell? ⟨w.heap.size, 1, none⟩ = some (.int .u64 f.src.high) ∧ W.cell? ⟨w.heap.size, 2, none⟩ = some (.int .u64 f.src.low) ∧ W.cell? ⟨w.heap.size, 3, none⟩ = some (.bool f.dst.six) ∧ W.cell? ⟨w.heap.size, 4, none⟩ = some (.int .u64 f.dst.high) ∧ W.cell? ⟨w.heap.size, 5, none⟩ = some (.int .u64 f.dst.low) ∧ W.cell? ⟨w.heap.size, 6, none⟩ = some (.int .u16 f.sp) ∧ W.cell? ⟨w.heap.size, 7, none⟩ = some (.int .u16 f.dp) ∧ W.cell? ⟨w.heap.size, 8, none⟩ = some (.int .u8 f.pr) ∧ W.cell? ⟨w.heap.size + 1, 0, none⟩ = some (.bool g.src.six) ∧ W.cell? ⟨w.heap.size + 1, 1, none⟩ = some (.int .u64 g.src.high) ∧ W.cell? ⟨w.heap.size + 1, 2, none⟩ = some (.int .u64 g.src.low) ∧ W.cell? ⟨w.heap.size + 1, 3, none⟩ = some (.bool g.dst.six) ∧ W.cell? ⟨w.heap.size + 1, 4, none⟩ = some (.int .u64 g.dst.high) ∧ W.cell? ⟨w.heap.size + 1, 5, none⟩ = some (.int .u64 g.dst.low) ∧ W.cell? ⟨w.heap.size + 1, 6, none⟩ = some (.int .u16 g.sp) ∧ W.cell? ⟨w.heap.size + 1, 7, none⟩ = some (.int .u16 g.dp) ∧ W.cell? ⟨w.heap.size + 1, 8, none⟩ = some (.int .u8 g.pr) from fun W h => by
    have p := HN.out.1.below h hl1
    have q := HN.out.2.1.below h hl2
    exact ⟨(p.cell 0).trans rfl, (p.cell 1).trans rfl, (p.cell 2).trans rfl, (p.cell 3).trans rfl, (p.cell 4).trans rfl, (p.cell 5).trans rfl, (p.cell 6).trans rfl, (p.cell 7).trans rfl, (p.cell 8).trans rfl, (q.cell 0).trans rfl, (q.cell 1).trans rfl, (q.cell 2).trans rfl, (q.cell 3).trans rfl, (q.cell 4).trans rfl, (q.cell 5).trans rfl, (q.cell 6).trans rfl, (q.cell 7).trans rfl, (q.cell 8).trans rfl⟩)
  obtain ⟨x0, x1, x2, x3, x4, x5, x6, x7, x8, y0, y1, y2, y3, y4, y5, y6, y7, y8⟩ := HA.out _ (Below.refl _ _)
  go_wp2_with fail
  refine (R0.out _).mono ?_
  rintro e w3 ⟨rfl, hb⟩
  have HBw3 := Lib.hid (hb)
  clear hb x0 x1 x2 x3 x4 x5 x6 x7 x8 y0 y1 y2 y3 y4 y5 y6 y7 y8
  obtain ⟨x0, x1, x2, x3, x4, x5, x6, x7, x8, y0, y1, y2, y3, y4, y5, y6, y7, y8⟩ := HA.out _ HBw3.out
  go_wp2_with fail
  refine (awake_any _).mono ?_
  rintro e w9 ⟨rfl, hb⟩
  have HZ := Lib.hid (HN.out.2.2.trans ((HBw3.out.trans (hb.mono HBw3.out.size)).mono (by have := HN.out.2.2.size; omega)))
  clear hb
  go_wp2_with fail
  go_ret
  exact ⟨rfl, HZ.out⟩
set_option maxHeartbeats 8000000 in
theorem flows_bad1 (f g : Fl) (w : World) (r0 : f.src.okB = true) (r1 : f.dst.okB = false) : Calls Tryd.prog 3 #[.agg #[.bool f.src.six, .int .u64 f.src.high, .int .u64 f.src.low, .bool f.dst.six, .int .u64 f.dst.high, .int .u64 f.dst.low, .int .u16 f.sp, .int .u16 f.dp, .int .u8 f.pr], .agg #[.bool g.src.six, .int .u64 g.src.high, .int .u64 g.src.low, .bool g.dst.six, .int .u64 g.dst.high, .int .u64 g.dst.low, .int .u16 g.sp, .int .u16 g.dp, .int .u8 g.pr]] w fun e w' => e = .returned (.bool true) ∧ Below w.heap.size w w' := by
  have R0 := Lib.hid (fun u => refRightA_any f.src u)
  rw [r0] at R0
  have R1 := Lib.hid (fun u => refRightA_any f.dst u)
  rw [r1] at R1
  clear r0 r1
  go_enter Tryd.func3, Tryd.ntmps3
  go_upto_region 1 with fail
  generalize hw2 : (World.alloc _ _) = w2
  have HN := Lib.hid (show Blk w2 w.heap.size 27 #[.bool f.src.six, .int .u64 f.src.high, .int .u64 f.src.low, .bool f.dst.six, .int .u64 f.dst.high, .int .u64 f.dst.low, .int .u16 f.sp, .int .u16 f.dp, .int .u8 f.pr] ∧ Blk w2 (w.heap.size + 1) 27 #[.bool g.src.six, .int .u64 g.src.high, .int .u64 g.src.low, .bool g.dst.six, .int .u64 g.dst.high, .int .u64 g.dst.low, .int .u16 g.sp, .int .u16 g.dp, .int .u8 g.pr] ∧ Below w.heap.size w w2 by
    rw [← hw2]
    exact ⟨(Blk.new _ _ _).alloc _, Blk.new_ (by simp) _ _, ((Below.refl _ _).alloc (Nat.le_refl _) _).alloc (by simp) _⟩)
  have hl1 := HN.out.1.lt
  have hl2 := HN.out.2.1.lt
  clear hw2
  have HA := Lib.hid (show ∀ W : World, Below w2.heap.size w2 W → W.cell? ⟨w.heap.size, 0, none⟩ = some (.bool f.src.six) ∧ W.cell? ⟨w.heap.size, 1, none⟩ = some (.int .u64 f.src.high) ∧ W.cell? ⟨w.heap.size, 2, none⟩ = some (.int .u64 f.src.low) ∧ W.cell? ⟨w.heap.size, 3, none⟩ = some (.bool f.dst.six) ∧ W.cell? ⟨w.heap.size, 4, none⟩ = some (.int .u64 f.dst.high) ∧ W.cell? ⟨w.heap.size, 5, none⟩ = some (.int .u64 f.dst.low) ∧ W.cell? ⟨w.heap.size, 6, none⟩ = some (.int .u16 f.sp) ∧ W.cell? ⟨w.heap.size, 7, none⟩ = some (.int .u16 f.dp) ∧ W.cell? ⟨w.heap.size, 8, none⟩ = some (.int .u8 f.pr) ∧ W.cell? ⟨w.heap.size + 1, 0, none⟩ = some (.bool g.src.six) ∧ W.cell? ⟨w.heap.size + 1, 1, none⟩ = some (.int .u64 g.src.high) ∧ W.cell? ⟨w.heap.size + 1, 2, none⟩ = some (.int .u64 g.src.low) ∧ W.cell? ⟨w.heap.size + 1, 3, none⟩ = some (.bool g.dst.six) ∧ W.cell? ⟨w.heap.size + 1, 4, none⟩ = some (.int .u64 g.dst.high) ∧ W.cell? ⟨w.heap.size + 1, 5, none⟩ = some (.int .u64 g.dst.low) ∧ W.cell? ⟨w.heap.size + 1, 6, none⟩ = some (.int .u16 g.sp) ∧ W.cell? ⟨w.heap.size + 1, 7, none⟩ = some (.int .u16 g.dp) ∧ W.cell? ⟨w.heap.size + 1, 8, none⟩ = some (.int .u8 g.pr) from fun W h => by
    have p := HN.out.1.below h hl1
    have q := HN.out.2.1.below h hl2
    exact ⟨(p.cell 0).trans rfl, (p.cell 1).trans rfl, (p.cell 2).trans rfl, (p.cell 3).trans rfl, (p.cell 4).trans rfl, (p.cell 5).trans rfl, (p.cell 6).trans rfl, (p.cell 7).trans rfl, (p.cell 8).trans rfl, (q.cell 0).trans rfl, (q.cell 1).trans rfl, (q.cell 2).trans rfl, (q.cell 3).trans rfl, (q.cell 4).trans rfl, (q.cell 5).trans rfl, (q.cell 6).trans rfl, (q.cell 7).trans rfl, (q.cell 8).trans rfl⟩)
  obtain ⟨x0, x1, x2, x3, x4, x5, x6, x7, x8, y0, y1, y2, y3, y4, y5, y6, y7, y8⟩ := HA.out _ (Below.refl _ _)
  go_wp2_with fail
  refine (R0.out _).mono ?_
  rintro e w3 ⟨rfl, hb⟩
  have HBw3 := Lib.hid (hb)
  clear hb x0 x1 x2 x3 x4 x5 x6 x7 x8 y0 y1 y2 y3 y4 y5 y6 y7 y8
  obtain ⟨x0, x1, x2, x3, x4, x5, x6, x7, x8, y0, y1, y2, y3, y4, y5, y6, y7, y8⟩ := HA.out _ HBw3.out
  go_wp2_with fail
  refine (R1.out _).mono ?_
  rintro e w4 ⟨rfl, hb⟩
  have HBw4 := Lib.hid (HBw3.out.trans (hb.mono HBw3.out.size))
  clear hb x0 x1 x2 x3 x4 x5 x6 x7 x8 y0 y1 y2 y3 y4 y5 y6 y7 y8
  obtain ⟨x0, x1, x2, x3, x4, x5, x6, x7, x8, y0, y1, y2, y3, y4, y5, y6, y7, y8⟩ := HA.out _ HBw4.out
  go_wp2_with fail
  refine (awake_any _).mono ?_
  rintro e w9 ⟨rfl, hb⟩
  have HZ := Lib.hid (HN.out.2.2.trans ((HBw4.out.trans (hb.mono HBw4.out.size)).mono (by have := HN.out.2.2.size; omega)))
  clear hb
  go_wp2_with fail
  go_ret
  exact ⟨rfl, HZ.out⟩
set_option maxHeartbeats 8000000 in
theorem flows_bad2 (f g : Fl) (w : World) (r0 : f.src.okB = true) (r1 : f.dst.okB = true) (r2 : g.src.okB = false) : Calls Tryd.prog 3 #[.agg #[.bool f.src.six, .int .u64 f.src.high, .int .u64 f.src.low, .bool f.dst.six, .int .u64 f.dst.high, .int .u64 f.dst.low, .int .u16 f.sp, .int .u16 f.dp, .int .u8 f.pr], .agg #[.bool g.src.six, .int .u64 g.src.high, .int .u64 g.src.low, .bool g.dst.six, .int .u64 g.dst.high, .int .u64 g.dst.low, .int .u16 g.sp, .int .u16 g.dp, .int .u8 g.pr]] w fun e w' => e = .returned (.bool true) ∧ Below w.heap.size w w' := by
  have R0 := Lib.hid (fun u => refRightA_any f.src u)
  rw [r0] at R0
  have R1 := Lib.hid (fun u => refRightA_any f.dst u)
  rw [r1] at R1
  have R2 := Lib.hid (fun u => refRightA_any g.src u)
  rw [r2] at R2
  clear r0 r1 r2
  go_enter Tryd.func3, Tryd.ntmps3
  go_upto_region 1 with fail
  generalize hw2 : (World.alloc _ _) = w2
  have HN := Lib.hid (show Blk w2 w.heap.size 27 #[.bool f.src.six, .int .u64 f.src.high, .int .u64 f.src.low, .bool f.dst.six, .int .u64 f.dst.high, .int .u64 f.dst.low, .int .u16 f.sp, .int .u16 f.dp, .int .u8 f.pr] ∧ Blk w2 (w.heap.size + 1) 27 #[.bool g.src.six, .int .u64 g.src.high, .int .u64 g.src.low, .bool g.dst.six, .int .u64 g.dst.high, .int .u64 g.dst.low, .int .u16 g.sp, .int .u16 g.dp, .int .u8 g.pr] ∧ Below w.heap.size w w2 by
    rw [← hw2]
    exact ⟨(Blk.new _ _ _).alloc _, Blk.new_ (by simp) _ _, ((Below.refl _ _).alloc (Nat.le_refl _) _).alloc (by simp) _⟩)
  have hl1 := HN.out.1.lt
  have hl2 := HN.out.2.1.lt
  clear hw2
  have HA := Lib.hid (show ∀ W : World, Below w2.heap.size w2 W → W.cell? ⟨w.heap.size, 0, none⟩ = some (.bool f.src.six) ∧ W.cell? ⟨w.heap.size, 1, none⟩ = some (.int .u64 f.src.high) ∧ W.cell? ⟨w.heap.size, 2, none⟩ = some (.int .u64 f.src.low) ∧ W.cell? ⟨w.heap.size, 3, none⟩ = some (.bool f.dst.six) ∧ W.cell? ⟨w.heap.size, 4, none⟩ = some (.int .u64 f.dst.high) ∧ W.cell? ⟨w.heap.size, 5, none⟩ = some (.int .u64 f.dst.low) ∧ W.cell? ⟨w.heap.size, 6, none⟩ = some (.int .u16 f.sp) ∧ W.cell? ⟨w.heap.size, 7, none⟩ = some (.int .u16 f.dp) ∧ W.cell? ⟨w.heap.size, 8, none⟩ = some (.int .u8 f.pr) ∧ W.cell? ⟨w.heap.size + 1, 0, none⟩ = some (.bool g.src.six) ∧ W.cell? ⟨w.heap.size + 1, 1, none⟩ = some (.int .u64 g.src.high) ∧ W.cell? ⟨w.heap.size + 1, 2, none⟩ = some (.int .u64 g.src.low) ∧ W.cell? ⟨w.heap.size + 1, 3, none⟩ = some (.bool g.dst.six) ∧ W.cell? ⟨w.heap.size + 1, 4, none⟩ = some (.int .u64 g.dst.high) ∧ W.cell? ⟨w.heap.size + 1, 5, none⟩ = some (.int .u64 g.dst.low) ∧ W.cell? ⟨w.heap.size + 1, 6, none⟩ = some (.int .u16 g.sp) ∧ W.cell? ⟨w.heap.size + 1, 7, none⟩ = some (.int .u16 g.dp) ∧ W.cell? ⟨w.heap.size + 1, 8, none⟩ = some (.int .u8 g.pr) from fun W h => by
    have p := HN.out.1.below h hl1
    have q := HN.out.2.1.below h hl2
    exact ⟨(p.cell 0).trans rfl, (p.cell 1).trans rfl, (p.cell 2).trans rfl, (p.cell 3).trans rfl, (p.cell 4).trans rfl, (p.cell 5).trans rfl, (p.cell 6).trans rfl, (p.cell 7).trans rfl, (p.cell 8).trans rfl, (q.cell 0).trans rfl, (q.cell 1).trans rfl, (q.cell 2).trans rfl, (q.cell 3).trans rfl, (q.cell 4).trans rfl, (q.cell 5).trans rfl, (q.cell 6).trans rfl, (q.cell 7).trans rfl, (q.cell 8).trans rfl⟩)
  obtain ⟨x0, x1, x2, x3, x4, x5, x6, x7, x8, y0, y1, y2, y3, y4, y5, y6, y7, y8⟩ := HA.out _ (Below.refl _ _)
  go_wp2_with fail
  refine (R0.out _).mono ?_
  rintro e w3 ⟨rfl, hb⟩
  have HBw3 := Lib.hid (hb)
  clear hb x0 x1 x2 x3 x4 x5 x6 x7 x8 y0 y1 y2 y3 y4 y5 y6 y7 y8
  obtain ⟨x0, x1, x2, x3, x4, x5, x6, x7, x8, y0, y1, y2, y3, y4, y5, y6, y7, y8⟩ := HA.out _ HBw3.out
  go_wp2_with fail
  refine (R1.out _).mono ?_
  rintro e w4 ⟨rfl, hb⟩
  have HBw4 := Lib.hid (HBw3.out.trans (hb.mono HBw3.out.size))
  clear hb x0 x1 x2 x3 x4 x5 x6 x7 x8 y0 y1 y2 y3 y4 y5 y6 y7 y8
  obtain ⟨x0, x1, x2, x3, x4, x5, x6, x7, x8, y0, y1, y2, y3, y4, y5, y6, y7, y8⟩ := HA.out _ HBw4.out
  go_wp2_with fail
  refine (R2.out _).mono ?_
  rintro e w5 ⟨rfl, hb⟩
  have HBw5 := Lib.hid (HBw4.out.trans (hb.mono HBw4.out.size))
  clear hb x0 x1 x2 x3 x4 x5 x6 x7 x8 y0 y1 y2 y3 y4 y5 y6 y7 y8
  obtain ⟨x0, x1, x2, x3, x4, x5, x6, x7, x8, y0, y1, y2, y3, y4, y5, y6, y7, y8⟩ := HA.out _ HBw5.out
  go_wp2_with fail
  refine (awake_any _).mono ?_
  rintro e w9 ⟨rfl, hb⟩
  have HZ := Lib.hid (HN.out.2.2.trans ((HBw5.out.trans (hb.mono HBw5.out.size)).mono (by have := HN.out.2.2.size; omega)))
  clear hb
  go_wp2_with fail
  go_ret
  exact ⟨rfl, HZ.out⟩
set_option maxHeartbeats 8000000 in
theorem flows_bad3 (f g : Fl) (w : World) (r0 : f.src.okB = true) (r1 : f.dst.okB = true) (r2 : g.src.okB = true) (r3 : g.dst.okB = false) : Calls Tryd.prog 3 #[.agg #[.bool f.src.six, .int .u64 f.src.high, .int .u64 f.src.low, .bool f.dst.six, .int .u64 f.dst.high, .int .u64 f.dst.low, .int .u16 f.sp, .int .u16 f.dp, .int .u8 f.pr], .agg #[.bool g.src.six, .int .u64 g.src.high, .int .u64 g.src.low, .bool g.dst.six, .int .u64 g.dst.high, .int .u64 g.dst.low, .int .u16 g.sp, .int .u16 g.dp, .int .u8 g.pr]] w fun e w' => e = .returned (.bool true) ∧ Below w.heap.size w w' := by
  have R0 := Lib.hid (fun u => refRightA_any f.src u)
  rw [r0] at R0
  have R1 := Lib.hid (fun u => refRightA_any f.dst u)
  rw [r1] at R1
  have R2 := Lib.hid (fun u => refRightA_any g.src u)
  rw [r2] at R2
  have R3 := Lib.hid (fun u => refRightA_any g.dst u)
  rw [r3] at R3
  clear r0 r1 r2 r3
  go_enter Tryd.func3, Tryd.ntmps3
  go_upto_region 1 with fail
  generalize hw2 : (World.alloc _ _) = w2
  have HN := Lib.hid (show Blk w2 w.heap.size 27 #[.bool f.src.six, .int .u64 f.src.high, .int .u64 f.src.low, .bool f.dst.six, .int .u64 f.dst.high, .int .u64 f.dst.low, .int .u16 f.sp, .int .u16 f.dp, .int .u8 f.pr] ∧ Blk w2 (w.heap.size + 1) 27 #[.bool g.src.six, .int .u64 g.src.high, .int .u64 g.src.low, .bool g.dst.six, .int .u64 g.dst.high, .int .u64 g.dst.low, .int .u16 g.sp, .int .u16 g.dp, .int .u8 g.pr] ∧ Below w.heap.size w w2 by
    rw [← hw2]
    exact ⟨(Blk.new _ _ _).alloc _, Blk.new_ (by simp) _ _, ((Below.refl _ _).alloc (Nat.le_refl _) _).alloc (by simp) _⟩)
  have hl1 := HN.out.1.lt
  have hl2 := HN.out.2.1.lt
  clear hw2
  have HA := Lib.hid (show ∀ W : World, Below w2.heap.size w2 W → W.cell? ⟨w.heap.size, 0, none⟩ = some (.bool f.src.six) ∧ W.cell? ⟨w.heap.size, 1, none⟩ = some (.int .u64 f.src.high) ∧ W.cell? ⟨w.heap.size, 2, none⟩ = some (.int .u64 f.src.low) ∧ W.cell? ⟨w.heap.size, 3, none⟩ = some (.bool f.dst.six) ∧ W.cell? ⟨w.heap.size, 4, none⟩ = some (.int .u64 f.dst.high) ∧ W.cell? ⟨w.heap.size, 5, none⟩ = some (.int .u64 f.dst.low) ∧ W.cell? ⟨w.heap.size, 6, none⟩ = some (.int .u16 f.sp) ∧ W.cell? ⟨w.heap.size, 7, none⟩ = some (.int .u16 f.dp) ∧ W.cell? ⟨w.heap.size, 8, none⟩ = some (.int .u8 f.pr) ∧ W.cell? ⟨w.heap.size + 1, 0, none⟩ = some (.bool g.src.six) ∧ W.cell? ⟨w.heap.size + 1, 1, none⟩ = some (.int .u64 g.src.high) ∧ W.cell? ⟨w.heap.size + 1, 2, none⟩ = some (.int .u64 g.src.low) ∧ W.cell? ⟨w.heap.size + 1, 3, none⟩ = some (.bool g.dst.six) ∧ W.cell? ⟨w.heap.size + 1, 4, none⟩ = some (.int .u64 g.dst.high) ∧ W.cell? ⟨w.heap.size + 1, 5, none⟩ = some (.int .u64 g.dst.low) ∧ W.cell? ⟨w.heap.size + 1, 6, none⟩ = some (.int .u16 g.sp) ∧ W.cell? ⟨w.heap.size + 1, 7, none⟩ = some (.int .u16 g.dp) ∧ W.cell? ⟨w.heap.size + 1, 8, none⟩ = some (.int .u8 g.pr) from fun W h => by
    have p := HN.out.1.below h hl1
    have q := HN.out.2.1.below h hl2
    exact ⟨(p.cell 0).trans rfl, (p.cell 1).trans rfl, (p.cell 2).trans rfl, (p.cell 3).trans rfl, (p.cell 4).trans rfl, (p.cell 5).trans rfl, (p.cell 6).trans rfl, (p.cell 7).trans rfl, (p.cell 8).trans rfl, (q.cell 0).trans rfl, (q.cell 1).trans rfl, (q.cell 2).trans rfl, (q.cell 3).trans rfl, (q.cell 4).trans rfl, (q.cell 5).trans rfl, (q.cell 6).trans rfl, (q.cell 7).trans rfl, (q.cell 8).trans rfl⟩)
  obtain ⟨x0, x1, x2, x3, x4, x5, x6, x7, x8, y0, y1, y2, y3, y4, y5, y6, y7, y8⟩ := HA.out _ (Below.refl _ _)
  go_wp2_with fail
  refine (R0.out _).mono ?_
  rintro e w3 ⟨rfl, hb⟩
  have HBw3 := Lib.hid (hb)
  clear hb x0 x1 x2 x3 x4 x5 x6 x7 x8 y0 y1 y2 y3 y4 y5 y6 y7 y8
  obtain ⟨x0, x1, x2, x3, x4, x5, x6, x7, x8, y0, y1, y2, y3, y4, y5, y6, y7, y8⟩ := HA.out _ HBw3.out
  go_wp2_with fail
  refine (R1.out _).mono ?_
  rintro e w4 ⟨rfl, hb⟩
  have HBw4 := Lib.hid (HBw3.out.trans (hb.mono HBw3.out.size))
  clear hb x0 x1 x2 x3 x4 x5 x6 x7 x8 y0 y1 y2 y3 y4 y5 y6 y7 y8
  obtain ⟨x0, x1, x2, x3, x4, x5, x6, x7, x8, y0, y1, y2, y3, y4, y5, y6, y7, y8⟩ := HA.out _ HBw4.out
  go_wp2_with fail
  refine (R2.out _).mono ?_
  rintro e w5 ⟨rfl, hb⟩
  have HBw5 := Lib.hid (HBw4.out.trans (hb.mono HBw4.out.size))
  clear hb x0 x1 x2 x3 x4 x5 x6 x7 x8 y0 y1 y2 y3 y4 y5 y6 y7 y8
  obtain ⟨x0, x1, x2, x3, x4, x5, x6, x7, x8, y0, y1, y2, y3, y4, y5, y6, y7, y8⟩ := HA.out _ HBw5.out
  go_wp2_with fail
  refine (R3.out _).mono ?_
  rintro e w6 ⟨rfl, hb⟩
  have HBw6 := Lib.hid (HBw5.out.trans (hb.mono HBw5.out.size))
  clear hb x0 x1 x2 x3 x4 x5 x6 x7 x8 y0 y1 y2 y3 y4 y5 y6 y7 y8
  obtain ⟨x0, x1, x2, x3, x4, x5, x6, x7, x8, y0, y1, y2, y3, y4, y5, y6, y7, y8⟩ := HA.out _ HBw6.out
  go_wp2_with fail
  refine (awake_any _).mono ?_
  rintro e w9 ⟨rfl, hb⟩
  have HZ := Lib.hid (HN.out.2.2.trans ((HBw6.out.trans (hb.mono HBw6.out.size)).mono (by have := HN.out.2.2.size; omega)))
  clear hb
  go_wp2_with fail
  go_ret
  exact ⟨rfl, HZ.out⟩
end Go.Proofs.YtbigikpioomjlaaDoor
