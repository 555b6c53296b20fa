/- The document's line of a step. -/
import Derived.Test.YthfdhggcnkgjfaaGreatDoorTC
import Derived.Test.YthfdhggcnkgjfaaGreatDoorUF
namespace Go.Proofs.YthfdhggcnkgjfaaGreatDoor
open Go.RowKit
set_option linter.unusedVariables false
set_option linter.unusedSimpArgs false
theorem opG_ne (ta : Adr → List UInt8) (pt : Nat → List UInt8) (o : Osp) : opG ta pt o ≠ [] := by
  unfold opG
  repeat' split
  all_goals simp
theorem join_flat6 (ps : List (List UInt8)) (h : ps ≠ []) : joinC 32 (issueT :: ps) = [105, 115, 115, 117, 101, 32] ++ joinC 32 ps := by rw [joinC_cons 32 issueT h]; rfl
structure SpN (s : Sp) : Prop where
  kind : 0 ≤ s.kind ∧ s.kind ≤ 15
  op : OspN s.op
  who : 0 ≤ s.who
  time : 0 ≤ s.time
set_option maxRecDepth 20000 in
set_option maxHeartbeats 40000000 in
theorem refWrite_any (s : Sp) (MA LA : Option Addr) (mc lc : Nat) (w : World) (hI : SpI s) (hN : SpN s) (hl : s.op.ms.length ≤ 70) (hld : s.load.length ≤ 4000) (hwl : (joinC 32 (opG adrT proR s.op)).length ≤ 100000) (hM : ES w w.heap.size MA 2 (mcs s.op.ms)) (hL : BS w w.heap.size LA s.load) :
    Calls Tryz.prog 11 #[.agg (SpC (.slice MA s.op.ms.length mc) (.slice LA s.load.length lc) s)] w (WordR w (writeR s)) := by
  have HM := Lib.hid hM
  have HLD := Lib.hid hL
  have HI := Lib.hid hI
  have HNN := Lib.hid hN.op
  have HL := Lib.hid hl
  have HWL := Lib.hid hwl
  have hk0' := hN.kind.1
  have hk15 := hN.kind.2
  have la := adrT_len s.src
  obtain ⟨swho, hw⟩ : ∃ n : Nat, s.who = (n : Int) := ⟨s.who.toNat, by have := hN.who; omega⟩
  obtain ⟨stime, ht⟩ : ∃ n : Nat, s.time = (n : Int) := ⟨s.time.toNat, by have := hN.time; omega⟩
  have HWE := Lib.hid hw
  have HTE := Lib.hid ht
  have iw : swho < 9223372036854775808 := by have := hI.who.2; omega
  have it : stime < 9223372036854775808 := by have := hI.time.2; omega
  have if_ : s.flags < 9223372036854775808 := by have := hI.flags; omega
  have in_ : s.n < 9223372036854775808 := by have := hI.n; omega
  have ix : s.x < 9223372036854775808 := by have := hI.x; omega
  have iy : s.y < 9223372036854775808 := by have := hI.y; omega
  have ip : s.port < 9223372036854775808 := by have := hI.port; omega
  have f0 : (0 : Int) ≤ (s.flags : Int) := Int.natCast_nonneg _
  have f1 : (s.flags : Int) ≤ 255 := by have := hI.flags; omega
  have g0 : (0 : Int) ≤ (s.n : Int) := Int.natCast_nonneg _
  have g1 : (s.n : Int) ≤ 4294967295 := by have := hI.n; omega
  have g2 : (0 : Int) ≤ (s.x : Int) := Int.natCast_nonneg _
  have g3 : (s.x : Int) ≤ 4294967295 := by have := hI.x; omega
  have g4 : (0 : Int) ≤ (s.y : Int) := Int.natCast_nonneg _
  have g5 : (s.y : Int) ≤ 4294967295 := by have := hI.y; omega
  have p0 : (0 : Int) ≤ (s.port : Int) := Int.natCast_nonneg _
  have p1 : (s.port : Int) ≤ 65535 := by have := hI.port; omega
  obtain ⟨yld, hyld⟩ : ∃ y : ByteArray, y = ⟨s.load.toArray⟩ := ⟨_, rfl⟩
  have HYE := Lib.hid hyld
  have HYLD := Lib.hid (show yld.data.toList = s.load by rw [hyld])
  unfold SpC
  rw [hw, ht]
  clear hM hI hN hl hL hwl hyld hw ht
  go_enter Tryz.func11, Tryz.ntmps11
  go_upto_region 1 with fail
  obtain ⟨w0, hw0⟩ : ∃ w0 : World, w0 = w.alloc (.cells #[.int .i64 s.kind, .int .i64 s.op.kind, .int .i64 s.op.vip, .int .i64 s.op.backend, .int .i64 s.op.version, .bool s.op.a.six, .int .u64 (s.op.a.hi : Int), .int .u64 (s.op.a.lo : Int), .int .u16 (s.op.port : Int), .int .u8 (s.op.proto : Int), .int .i64 s.op.way, .slice MA s.op.ms.length mc, .int .i64 (swho : Int), .int .i64 (stime : Int), .int .u8 (s.flags : Int), .slice LA s.load.length lc, .int .u32 (s.n : Int), .int .u32 (s.x : Int), .int .u32 (s.y : Int), .bool s.src.six, .int .u64 (s.src.hi : Int), .int .u64 (s.src.lo : Int), .int .u16 (s.port : Int)] 41) := ⟨_, rfl⟩
  have HK0 := Lib.hid (show Kept (fun _ => False) w w0 by rw [hw0]; exact (Kept.refl _ _).alloc _)
  have HN0 := Lib.hid (show Blk w0 w.heap.size 41 #[.int .i64 s.kind, .int .i64 s.op.kind, .int .i64 s.op.vip, .int .i64 s.op.backend, .int .i64 s.op.version, .bool s.op.a.six, .int .u64 (s.op.a.hi : Int), .int .u64 (s.op.a.lo : Int), .int .u16 (s.op.port : Int), .int .u8 (s.op.proto : Int), .int .i64 s.op.way, .slice MA s.op.ms.length mc, .int .i64 (swho : Int), .int .i64 (stime : Int), .int .u8 (s.flags : Int), .slice LA s.load.length lc, .int .u32 (s.n : Int), .int .u32 (s.x : Int), .int .u32 (s.y : Int), .bool s.src.six, .int .u64 (s.src.hi : Int), .int .u64 (s.src.lo : Int), .int .u16 (s.port : Int)] by rw [hw0]; exact Blk.new _ _ _)
  rw [← hw0]
  clear hw0
  have hrg : w0.rangeAt w.heap.size 1 [.int .i64 s.op.kind, .int .i64 s.op.vip, .int .i64 s.op.backend, .int .i64 s.op.version, .bool s.op.a.six, .int .u64 (s.op.a.hi : Int), .int .u64 (s.op.a.lo : Int), .int .u16 (s.op.port : Int), .int .u8 (s.op.proto : Int), .int .i64 s.op.way, .slice MA s.op.ms.length mc] := HN0.out.range1 (by rfl)
  go_upto_region 2 with (first | (show wpList _ _ _ ((⟨_, .load 39 (.tmp 5), _, _, _, none⟩ : Oper) :: _) _ _; refine wpList_load_mid rfl 39 (.tmp 5) rfl w.heap.size 1 rfl [.int .i64 s.op.kind, .int .i64 s.op.vip, .int .i64 s.op.backend, .int .i64 s.op.version, .bool s.op.a.six, .int .u64 (s.op.a.hi : Int), .int .u64 (s.op.a.lo : Int), .int .u16 (s.op.port : Int), .int .u8 (s.op.proto : Int), .int .i64 s.op.way, .slice MA s.op.ms.length mc] _ hrg Tryz.underlying39 rfl (by kernel_rfl) ?_) | (show wpList _ _ _ ((⟨none, .store 39 (.tmp 3) _, _, _, _, none⟩ : Oper) :: _) _ _; refine wpList_store_mid rfl 39 (.tmp 3) _ rfl w0.heap.size 0 #[.int .i64 s.op.kind, .int .i64 s.op.vip, .int .i64 s.op.backend, .int .i64 s.op.version, .bool s.op.a.six, .int .u64 (s.op.a.hi : Int), .int .u64 (s.op.a.lo : Int), .int .u16 (s.op.port : Int), .int .u8 (s.op.proto : Int), .int .i64 s.op.way, .slice MA s.op.ms.length mc] rfl rfl ((Blk.new w0 39 #[.int .i64 0, .int .i64 0, .int .i64 0, .int .i64 0, .bool false, .int .u64 0, .int .u64 0, .int .u16 0, .int .u8 0, .int .i64 0, .slice none 0 0]).there rfl) (by kernel_rfl) (by simp [Value.oneCell']) ?_))
  generalize hw4 : (World.setCells _ _ _ _) = wa
  have HKA := Lib.hid (show Kept (fun _ => False) w0 wa by rw [← hw4]; exact ((Kept.refl _ _).alloc _).then (Kept.setCells (S := fun i => i = w0.heap.size) rfl _ _ (Kept.refl _ _)) (fun i hi e => by omega))
  have HOA := Lib.hid (show Blk wa w0.heap.size 39 #[.int .i64 s.op.kind, .int .i64 s.op.vip, .int .i64 s.op.backend, .int .i64 s.op.version, .bool s.op.a.six, .int .u64 (s.op.a.hi : Int), .int .u64 (s.op.a.lo : Int), .int .u16 (s.op.port : Int), .int .u8 (s.op.proto : Int), .int .i64 s.op.way, .slice MA s.op.ms.length mc] by rw [← hw4]; exact (Blk.new w0 39 #[.int .i64 0, .int .i64 0, .int .i64 0, .int .i64 0, .bool false, .int .u64 0, .int .u64 0, .int .u16 0, .int .u8 0, .int .i64 0, .slice none 0 0]).setAll #[.int .i64 s.op.kind, .int .i64 s.op.vip, .int .i64 s.op.backend, .int .i64 s.op.version, .bool s.op.a.six, .int .u64 (s.op.a.hi : Int), .int .u64 (s.op.a.lo : Int), .int .u16 (s.op.port : Int), .int .u8 (s.op.proto : Int), .int .i64 s.op.way, .slice MA s.op.ms.length mc] rfl)
  have HKB := Lib.hid (HK0.out.trans HKA.out)
  have HNA := Lib.hid (HN0.out.kept HKA.out (fun h => h))
  clear hw4 hrg HN0 HK0
  obtain ⟨ob, hob⟩ : ∃ ob, w0.heap.size = ob := ⟨_, rfl⟩
  rw [hob] at HOA ⊢
  clear hob
  go_upto_region 3 with fail
  obtain ⟨w1, hw1⟩ : ∃ w1 : World, w1 = wa.alloc (.cells #[.string ⟨#[]⟩, .string ⟨#[99, 111, 109, 109, 105, 116]⟩, .string ⟨#[99, 114, 97, 115, 104]⟩, .string ⟨#[111, 102, 102, 101, 114]⟩, .string ⟨#[100, 101, 108, 105, 118, 101, 114]⟩, .string ⟨#[100, 114, 111, 112]⟩, .string ⟨#[116, 119, 105, 99, 101]⟩, .string ⟨#[114, 101, 115, 116, 97, 114, 116]⟩, .string ⟨#[114, 101, 112, 111, 114, 116]⟩, .string ⟨#[115, 101, 110, 100]⟩, .string ⟨#[114, 101, 112, 108, 121]⟩, .string ⟨#[116, 105, 99, 107]⟩, .string ⟨#[113, 117, 105, 99]⟩, .string ⟨#[103, 105, 118, 101]⟩, .string ⟨#[109, 111, 118, 101]⟩, .string ⟨#[115, 101, 116, 116, 108, 101]⟩] 9) := ⟨_, rfl⟩
  have HK1 := Lib.hid (show Kept (fun _ => False) w w1 by rw [hw1]; exact HKB.out.alloc _)
  have HN1 := Lib.hid (show Blk w1 w.heap.size 41 #[.int .i64 s.kind, .int .i64 s.op.kind, .int .i64 s.op.vip, .int .i64 s.op.backend, .int .i64 s.op.version, .bool s.op.a.six, .int .u64 (s.op.a.hi : Int), .int .u64 (s.op.a.lo : Int), .int .u16 (s.op.port : Int), .int .u8 (s.op.proto : Int), .int .i64 s.op.way, .slice MA s.op.ms.length mc, .int .i64 (swho : Int), .int .i64 (stime : Int), .int .u8 (s.flags : Int), .slice LA s.load.length lc, .int .u32 (s.n : Int), .int .u32 (s.x : Int), .int .u32 (s.y : Int), .bool s.src.six, .int .u64 (s.src.hi : Int), .int .u64 (s.src.lo : Int), .int .u16 (s.port : Int)] by rw [hw1]; exact HNA.out.alloc _)
  have HO1 := Lib.hid (show Blk w1 ob 39 #[.int .i64 s.op.kind, .int .i64 s.op.vip, .int .i64 s.op.backend, .int .i64 s.op.version, .bool s.op.a.six, .int .u64 (s.op.a.hi : Int), .int .u64 (s.op.a.lo : Int), .int .u16 (s.op.port : Int), .int .u8 (s.op.proto : Int), .int .i64 s.op.way, .slice MA s.op.ms.length mc] by rw [hw1]; exact HOA.out.alloc _)
  have HS1 := Lib.hid (show Blk w1 wa.heap.size 9 #[.string ⟨#[]⟩, .string ⟨#[99, 111, 109, 109, 105, 116]⟩, .string ⟨#[99, 114, 97, 115, 104]⟩, .string ⟨#[111, 102, 102, 101, 114]⟩, .string ⟨#[100, 101, 108, 105, 118, 101, 114]⟩, .string ⟨#[100, 114, 111, 112]⟩, .string ⟨#[116, 119, 105, 99, 101]⟩, .string ⟨#[114, 101, 115, 116, 97, 114, 116]⟩, .string ⟨#[114, 101, 112, 111, 114, 116]⟩, .string ⟨#[115, 101, 110, 100]⟩, .string ⟨#[114, 101, 112, 108, 121]⟩, .string ⟨#[116, 105, 99, 107]⟩, .string ⟨#[113, 117, 105, 99]⟩, .string ⟨#[103, 105, 118, 101]⟩, .string ⟨#[109, 111, 118, 101]⟩, .string ⟨#[115, 101, 116, 116, 108, 101]⟩] by rw [hw1]; exact Blk.new _ _ _)
  rw [← hw1]
  clear hw1
  obtain ⟨nb, hnb⟩ : ∃ nb, wa.heap.size = nb := ⟨_, rfl⟩
  rw [hnb] at HS1 ⊢
  clear hnb HOA HNA HKA HKB
  have cB := HN1.out.cell
  have lN1 := HN1.out.lt
  have lS1 := HS1.out.lt
  by_cases hk0 : s.kind = 0
  · skip
    have q0 : (s.kind == 0) = true := by rw [hk0]; rfl
    have HWR := Lib.hid (show writeR s = joinC 32 (issueT :: opG adrT proR s.op) by unfold writeR; rw [if_pos hk0])
    have hogne := opG_ne adrT proR s.op
    clear hk0
    have HML := Lib.hid (refWriteOp_any s.op MA mc w1 HI.out.op HNN.out HL.out (HM.out.on HK1.out (fun _ _ h => h)))
    unfold OC at HML
    go_wp2_with (show wpList _ _ _ ((⟨_, .load 39 (.tmp 3), _, _, _, none⟩ : Oper) :: _) _ _; refine wpList_load_mid rfl 39 (.tmp 3) rfl ob 0 rfl [.int .i64 s.op.kind, .int .i64 s.op.vip, .int .i64 s.op.backend, .int .i64 s.op.version, .bool s.op.a.six, .int .u64 (s.op.a.hi : Int), .int .u64 (s.op.a.lo : Int), .int .u16 (s.op.port : Int), .int .u8 (s.op.proto : Int), .int .i64 s.op.way, .slice MA s.op.ms.length mc] _ HO1.out.range Tryz.underlying39 rfl (by kernel_rfl) ?_)
    refine HML.out.mono ?_
    rintro e w2 ⟨z, rfl, hz, hk⟩
    have HZ := Lib.hid hz
    have HKE := Lib.hid (HK1.out.trans hk)
    have hzz : ¬ (9223372036854775807 < 6 + z.size) := by rw [Lib.size_eq, hz]; have := HWL.out; omega
    clear hz hk HML
    go_wp2_with fail
    go_ret
    exact ⟨_, rfl, by rw [cat_data, HZ.out, HWR.out]; exact (join_flat6 _ hogne).symm, HKE.out⟩
  by_cases hk1 : s.kind = 1
  · skip
    have q0 : (s.kind == 0) = false := by rw [hk1]; rfl
    have q1 : (s.kind == 1) = true := by rw [hk1]; rfl
    have HWR := Lib.hid (show writeR s = joinC 32 [[99, 111, 109, 109, 105, 116]] by unfold writeR stepG; rw [if_neg (by omega), show cmdK s.kind = some (1, [99, 111, 109, 109, 105, 116], []) by rw [hk1]; rfl]; rfl)
    clear hk0 hk1
    go_wp2_with fail
    go_ret
    exact ⟨_, rfl, by rw [HWR.out]; rfl, HK1.out⟩
  by_cases hk2 : s.kind = 2
  · skip
    have q0 : (s.kind == 0) = false := by rw [hk2]; rfl
    have q1 : (s.kind == 1) = false := by rw [hk2]; rfl
    have q2 : (s.kind == 2) = true := by rw [hk2]; rfl
    have HWR := Lib.hid (show writeR s = joinC 32 [[99, 114, 97, 115, 104], numT (swho : Int), numT (s.flags : Int)] by unfold writeR stepG; rw [if_neg (by omega), show cmdK s.kind = some (2, [99, 114, 97, 115, 104], [87, 70]) by rw [hk2]; rfl, ← HWE.out]; rfl)
    clear hk0 hk1 hk2
    have HNS := Lib.hid (nums_cells [swho, s.flags] _ (w1.alloc (.cells #[.int .i64 (swho : Int), .int .i64 (s.flags : Int)] 3)) (by simp) (Blk.new w1 3 #[.int .i64 (swho : Int), .int .i64 (s.flags : Int)]) (by simp; omega))
    have ln0 : (numsT [swho, s.flags]).length ≤ 42 := numsT_len _ (by simp; omega)
    go_wp2_with fail
    refine HNS.out.mono ?_
    rintro e w2 ⟨z, rfl, hz, hk⟩
    have HZ := Lib.hid hz
    have hzz : ¬ (9223372036854775807 < 5 + z.size) := by rw [Lib.size_eq, hz]; omega
    have HKE := Lib.hid ((HK1.out.alloc _).trans hk)
    clear hz hk HNS
    go_wp2_with fail
    go_ret
    exact ⟨_, rfl, by rw [cat_data, HZ.out, HWR.out]; first | rfl | simp [numsT, joinC, backendT, vipT, retireT, releaseT, evictT, admitT, udpT, tcpT, membersT], HKE.out⟩
  by_cases hk8 : s.kind = 8
  · skip
    have q0 : (s.kind == 0) = false := by rw [hk8]; rfl
    have q1 : (s.kind == 1) = false := by rw [hk8]; rfl
    have q2 : (s.kind == 2) = false := by rw [hk8]; rfl
    have q8 : (s.kind == 8) = true := by rw [hk8]; rfl
    have HWR := Lib.hid (show writeR s = joinC 32 [[114, 101, 112, 111, 114, 116], numT (swho : Int), numT (s.n : Int), numT (s.flags : Int)] by unfold writeR stepG; rw [if_neg (by omega), show cmdK s.kind = some (8, [114, 101, 112, 111, 114, 116], [87, 78, 49]) by rw [hk8]; rfl, ← HWE.out]; rfl)
    clear hk0 hk1 hk2 hk8
    have HNS := Lib.hid (nums_cells [swho, s.n, s.flags] _ (w1.alloc (.cells #[.int .i64 (swho : Int), .int .i64 (s.n : Int), .int .i64 (s.flags : Int)] 3)) (by simp) (Blk.new w1 3 #[.int .i64 (swho : Int), .int .i64 (s.n : Int), .int .i64 (s.flags : Int)]) (by simp; omega))
    have ln0 : (numsT [swho, s.n, s.flags]).length ≤ 63 := numsT_len _ (by simp; omega)
    go_wp2_with fail
    refine HNS.out.mono ?_
    rintro e w2 ⟨z, rfl, hz, hk⟩
    have HZ := Lib.hid hz
    have hzz : ¬ (9223372036854775807 < 6 + z.size) := by rw [Lib.size_eq, hz]; omega
    have HKE := Lib.hid ((HK1.out.alloc _).trans hk)
    clear hz hk HNS
    go_wp2_with fail
    go_ret
    exact ⟨_, rfl, by rw [cat_data, HZ.out, HWR.out]; first | rfl | simp [numsT, joinC, backendT, vipT, retireT, releaseT, evictT, admitT, udpT, tcpT, membersT], HKE.out⟩
  by_cases hk9 : s.kind = 9
  · skip
    have q0 : (s.kind == 0) = false := by rw [hk9]; rfl
    have q1 : (s.kind == 1) = false := by rw [hk9]; rfl
    have q2 : (s.kind == 2) = false := by rw [hk9]; rfl
    have q8 : (s.kind == 8) = false := by rw [hk9]; rfl
    have q9 : (s.kind == 9) = true := by rw [hk9]; rfl
    have HWR := Lib.hid (show writeR s = joinC 32 [[115, 101, 110, 100], numT (swho : Int), numT (stime : Int), numT (s.flags : Int), numT (s.x : Int), numT (s.y : Int), s.load] by unfold writeR stepG; rw [if_neg (by omega), show cmdK s.kind = some (9, [115, 101, 110, 100], [87, 65, 70, 88, 89, 84]) by rw [hk9]; rfl, ← HWE.out, ← HTE.out]; rfl)
    clear hk0 hk1 hk2 hk8 hk9
    have ln0 : (numsT [swho, stime, s.flags, s.x, s.y]).length ≤ 105 := numsT_len _ (by simp; omega)
    go_upto_region 13 with fail
    refine wp_region_kept 21 [(13, fun v u => ∃ g : Nat, v = .slice (some ⟨g, 0, none⟩) 5 5 ∧ Blk u g 3 #[.int .i64 (swho : Int), .int .i64 (stime : Int), .int .i64 (s.flags : Int), .int .i64 (s.x : Int), .int .i64 (s.y : Int)]), (14, fun v u => ∃ y : ByteArray, v = .string y ∧ y.data.toList = numsT [swho, stime, s.flags, s.x, s.y]), (15, fun v u => ∃ y : ByteArray, v = .string y ∧ y.data.toList = [115, 101, 110, 100] ++ numsT [swho, stime, s.flags, s.x, s.y]), (16, fun v u => ∃ y : ByteArray, v = .string y ∧ y.data.toList = ([115, 101, 110, 100] ++ numsT [swho, stime, s.flags, s.x, s.y]) ++ [32]), (19, fun v u => v = .string yld), (20, fun v u => ∃ y : ByteArray, v = .string y ∧ y.data.toList = (([115, 101, 110, 100] ++ numsT [swho, stime, s.flags, s.x, s.y]) ++ [32]) ++ s.load)] ?st ?ne rfl (by kernel_rfl) (by kernel_rfl) ?_
    case st =>
      intro p hp
      simp only [List.mem_cons, List.not_mem_nil, or_false] at hp
      rcases hp with rfl | rfl | rfl | rfl | rfl | rfl
      · intro v u u' h hk; obtain ⟨g, h1, h2⟩ := h; exact ⟨g, h1, h2.kept hk (fun h => h)⟩
      · intro v u u' h hk; exact h
      · intro v u u' h hk; exact h
      · intro v u u' h hk; exact h
      · intro v u u' h hk; exact h
      · intro v u u' h hk; exact h
    case ne =>
      intro p hp
      simp only [List.mem_cons, List.not_mem_nil, or_false] at hp
      rcases hp with rfl | rfl | rfl | rfl | rfl | rfl
      · exact ⟨_, _, (Kept.refl _ _).alloc (.cells #[.int .i64 (swho : Int), .int .i64 (stime : Int), .int .i64 (s.flags : Int), .int .i64 (s.x : Int), .int .i64 (s.y : Int)] 3), _, rfl, Blk.new _ _ _⟩
      · exact ⟨_, _, Kept.refl _ _, ⟨(numsT [swho, stime, s.flags, s.x, s.y]).toArray⟩, rfl, rfl⟩
      · exact ⟨_, _, Kept.refl _ _, ⟨([115, 101, 110, 100] ++ numsT [swho, stime, s.flags, s.x, s.y]).toArray⟩, rfl, rfl⟩
      · exact ⟨_, _, Kept.refl _ _, ⟨(([115, 101, 110, 100] ++ numsT [swho, stime, s.flags, s.x, s.y]) ++ [32]).toArray⟩, rfl, rfl⟩
      · exact ⟨_, _, Kept.refl _ _, rfl⟩
      · exact ⟨_, _, Kept.refl _ _, ⟨((([115, 101, 110, 100] ++ numsT [swho, stime, s.flags, s.x, s.y]) ++ [32]) ++ s.load).toArray⟩, rfl, rfl⟩
    simp only [List.take_succ_cons, List.take_zero, List.drop_succ_cons, List.drop_zero]
    intro G pick hR hp1 hp2
    have sF : ∀ u i, (pick u).cell? ⟨w.heap.size, i, none⟩ = (#[.int .i64 s.kind, .int .i64 s.op.kind, .int .i64 s.op.vip, .int .i64 s.op.backend, .int .i64 s.op.version, .bool s.op.a.six, .int .u64 (s.op.a.hi : Int), .int .u64 (s.op.a.lo : Int), .int .u16 (s.op.port : Int), .int .u8 (s.op.proto : Int), .int .i64 s.op.way, .slice MA s.op.ms.length mc, .int .i64 (swho : Int), .int .i64 (stime : Int), .int .u8 (s.flags : Int), .slice LA s.load.length lc, .int .u32 (s.n : Int), .int .u32 (s.x : Int), .int .u32 (s.y : Int), .bool s.src.six, .int .u64 (s.src.hi : Int), .int .u64 (s.src.lo : Int), .int .u16 (s.port : Int)] : Array Value)[i]? := fun u i => ((hp1 u).cell lN1 (fun h => h) _).trans (HN1.out.cell i)
    have sN : ∀ u i, (pick u).cell? ⟨nb, i, none⟩ = (#[.string ⟨#[]⟩, .string ⟨#[99, 111, 109, 109, 105, 116]⟩, .string ⟨#[99, 114, 97, 115, 104]⟩, .string ⟨#[111, 102, 102, 101, 114]⟩, .string ⟨#[100, 101, 108, 105, 118, 101, 114]⟩, .string ⟨#[100, 114, 111, 112]⟩, .string ⟨#[116, 119, 105, 99, 101]⟩, .string ⟨#[114, 101, 115, 116, 97, 114, 116]⟩, .string ⟨#[114, 101, 112, 111, 114, 116]⟩, .string ⟨#[115, 101, 110, 100]⟩, .string ⟨#[114, 101, 112, 108, 121]⟩, .string ⟨#[116, 105, 99, 107]⟩, .string ⟨#[113, 117, 105, 99]⟩, .string ⟨#[103, 105, 118, 101]⟩, .string ⟨#[109, 111, 118, 101]⟩, .string ⟨#[115, 101, 116, 116, 108, 101]⟩] : Array Value)[i]? := fun u i => ((hp1 u).cell lS1 (fun h => h) _).trans (HS1.out.cell i)
    repeat (first | (refine wpR_det hp2 rfl ((hR.rel _).trans rfl) rfl ?_; intro K hK; go_big_quiet_op; go_big_quiet_on) | (refine wpR_ptr hp2 rfl ((hR.rel _).trans rfl) rfl rfl ?_; intro K hK; go_big_quiet_op; go_big_quiet_on) | (refine wpR_skip pick rfl ?_; intro K hK; go_big_quiet_op; go_big_quiet_on))
    refine wpR_rel pick rfl ((hR.rel _).trans rfl) ((hR.turns _).trans rfl) ?_ ?_
    · intro u hu
      have hk := hR.since hu.1
      have hks := hk.size
      unfold relAt
      go_simp
      exact ⟨hR.into0 ((Kept.refl _ _).alloc _), hR.put 0 rfl rfl ⟨_, rfl, Blk.new _ _ _⟩⟩
    intro v hv
    obtain ⟨u, _, hu⟩ := hv
    obtain ⟨g13, rfl, hb13⟩ := hR.get 0 rfl hu
    clear hu
    clear hb13
    intro K hK
    go_big_quiet_op
    go_big_quiet_on
    repeat (first | (refine wpR_det hp2 rfl ((hR.rel _).trans rfl) rfl ?_; intro K hK; go_big_quiet_op; go_big_quiet_on) | (refine wpR_ptr hp2 rfl ((hR.rel _).trans rfl) rfl rfl ?_; intro K hK; go_big_quiet_op; go_big_quiet_on) | (refine wpR_skip pick rfl ?_; intro K hK; go_big_quiet_op; go_big_quiet_on))
    refine wpR_rel pick rfl ((hR.rel _).trans rfl) ((hR.turns _).trans rfl) ?_ ?_
    · intro u hu
      have hk := hR.since hu.1
      have hks := hk.size
      obtain ⟨g', hg', hB'⟩ := (hR.get 0 rfl (hu.2 _ _ (Got.upd_self _ _ _) (by kernel_rfl)))
      injection hg' with e1 _ _
      injection e1 with e1
      injection e1 with e1
      subst e1
      have hcall := nums_cells [swho, stime, s.flags, s.x, s.y] _ u (by simp) hB' (by simp; omega)
      unfold relAt
      go_simp
      refine (hcall).mono ?_
      rintro e w' ⟨y, rfl, hy, hk'⟩
      exact ⟨_, rfl, hR.into0 hk', hR.put 1 rfl rfl ⟨y, rfl, hy⟩⟩
    intro v hv
    obtain ⟨u, _, hu⟩ := hv
    obtain ⟨y1, rfl, hy1⟩ := hR.get 1 rfl hu
    clear hu
    have HY1 := Lib.hid hy1
    clear hy1
    intro K hK
    go_big_quiet_op
    go_big_quiet_on
    repeat (first | (refine wpR_det hp2 rfl ((hR.rel _).trans rfl) rfl ?_; intro K hK; go_big_quiet_op; go_big_quiet_on) | (refine wpR_ptr hp2 rfl ((hR.rel _).trans rfl) rfl rfl ?_; intro K hK; go_big_quiet_op; go_big_quiet_on) | (refine wpR_skip pick rfl ?_; intro K hK; go_big_quiet_op; go_big_quiet_on))
    refine wpR_rel pick rfl ((hR.rel _).trans rfl) ((hR.turns _).trans rfl) ?_ ?_
    · intro u hu
      have hk := hR.since hu.1
      have hks := hk.size
      have hz : ¬ (9223372036854775807 < 4 + y1.size) := by
        rw [Lib.size_eq y1, HY1.out]
        try simp only [List.length_append, List.length_cons, List.length_nil]
        omega
      unfold relAt
      go_simp
      exact ⟨hR.same, hR.put 2 rfl rfl ⟨_, rfl, by rw [cat_data, HY1.out]; try rfl⟩⟩
    intro v hv
    obtain ⟨u, _, hu⟩ := hv
    obtain ⟨y2, rfl, hy2⟩ := hR.get 2 rfl hu
    clear hu
    have HY2 := Lib.hid hy2
    clear hy2
    intro K hK
    go_big_quiet_op
    go_big_quiet_on
    repeat (first | (refine wpR_det hp2 rfl ((hR.rel _).trans rfl) rfl ?_; intro K hK; go_big_quiet_op; go_big_quiet_on) | (refine wpR_ptr hp2 rfl ((hR.rel _).trans rfl) rfl rfl ?_; intro K hK; go_big_quiet_op; go_big_quiet_on) | (refine wpR_skip pick rfl ?_; intro K hK; go_big_quiet_op; go_big_quiet_on))
    refine wpR_rel pick rfl ((hR.rel _).trans rfl) ((hR.turns _).trans rfl) ?_ ?_
    · intro u hu
      have hk := hR.since hu.1
      have hks := hk.size
      have hz : ¬ (9223372036854775807 < y2.size + 1) := by
        rw [Lib.size_eq y2, HY2.out]
        try simp only [List.length_append, List.length_cons, List.length_nil]
        omega
      unfold relAt
      go_simp
      exact ⟨hR.same, hR.put 3 rfl rfl ⟨_, rfl, by rw [cat_data, HY2.out]; try rfl⟩⟩
    intro v hv
    obtain ⟨u, _, hu⟩ := hv
    obtain ⟨y3, rfl, hy3⟩ := hR.get 3 rfl hu
    clear hu
    have HY3 := Lib.hid hy3
    clear hy3
    intro K hK
    go_big_quiet_op
    go_big_quiet_on
    repeat (first | (refine wpR_det hp2 rfl ((hR.rel _).trans rfl) rfl ?_; intro K hK; go_big_quiet_op; go_big_quiet_on) | (refine wpR_ptr hp2 rfl ((hR.rel _).trans rfl) rfl rfl ?_; intro K hK; go_big_quiet_op; go_big_quiet_on) | (refine wpR_skip pick rfl ?_; intro K hK; go_big_quiet_op; go_big_quiet_on))
    refine wpR_rel pick rfl ((hR.rel _).trans rfl) ((hR.turns _).trans rfl) ?_ ?_
    · intro u hu
      have hk := hR.since hu.1
      have hks := hk.size
      have hcv := (HLD.out.on (HK1.out.trans hk) (fun _ _ h => h)).conv (P := Tryz.prog) (c := lc) Tryz.underlying30 Tryz.underlying5 Tryz.underlying9
      rw [← HYE.out] at hcv
      unfold relAt
      go_simp
      exact ⟨hR.same, hR.put 4 rfl rfl rfl⟩
    intro v hv
    obtain ⟨u, _, hu⟩ := hv
    obtain rfl := hR.get 4 rfl hu
    clear hu
    intro K hK
    go_big_quiet_op
    go_big_quiet_on
    repeat (first | (refine wpR_det hp2 rfl ((hR.rel _).trans rfl) rfl ?_; intro K hK; go_big_quiet_op; go_big_quiet_on) | (refine wpR_ptr hp2 rfl ((hR.rel _).trans rfl) rfl rfl ?_; intro K hK; go_big_quiet_op; go_big_quiet_on) | (refine wpR_skip pick rfl ?_; intro K hK; go_big_quiet_op; go_big_quiet_on))
    refine wpR_rel pick rfl ((hR.rel _).trans rfl) ((hR.turns _).trans rfl) ?_ ?_
    · intro u hu
      have hk := hR.since hu.1
      have hks := hk.size
      have hz : ¬ (9223372036854775807 < y3.size + yld.size) := by
        rw [Lib.size_eq y3, HY3.out, Lib.size_eq yld, HYLD.out]
        try simp only [List.length_append, List.length_cons, List.length_nil]
        omega
      unfold relAt
      go_simp
      exact ⟨hR.same, hR.put 5 rfl rfl ⟨_, rfl, by rw [cat_data, HY3.out, HYLD.out]; try rfl⟩⟩
    intro v hv
    obtain ⟨u, _, hu⟩ := hv
    obtain ⟨y5, rfl, hy5⟩ := hR.get 5 rfl hu
    clear hu
    have HY5 := Lib.hid hy5
    clear hy5
    intro K hK
    go_big_quiet_op
    go_big_quiet_on
    repeat (first | (refine wpR_det hp2 rfl ((hR.rel _).trans rfl) rfl ?_; intro K hK; go_big_quiet_op; go_big_quiet_on) | (refine wpR_ptr hp2 rfl ((hR.rel _).trans rfl) rfl rfl ?_; intro K hK; go_big_quiet_op; go_big_quiet_on) | (refine wpR_skip pick rfl ?_; intro K hK; go_big_quiet_op; go_big_quiet_on))
    refine wpR_nil ?_
    intro wE hk2 hF hM
    have HKE := Lib.hid (HK1.out.trans hk2)
    clear hF hM hk2 hp1 hp2 hR sF sN
    go_wp2_with fail
    go_ret
    exact ⟨y5, rfl, by rw [HY5.out, HWR.out]; first | rfl | simp [numsT, joinC, backendT, vipT, retireT, releaseT, evictT, admitT, udpT, tcpT, membersT], HKE.out⟩
  by_cases hk10 : s.kind = 10
  · skip
    have q0 : (s.kind == 0) = false := by rw [hk10]; rfl
    have q1 : (s.kind == 1) = false := by rw [hk10]; rfl
    have q2 : (s.kind == 2) = false := by rw [hk10]; rfl
    have q8 : (s.kind == 8) = false := by rw [hk10]; rfl
    have q9 : (s.kind == 9) = false := by rw [hk10]; rfl
    have q10 : (s.kind == 10) = true := by rw [hk10]; rfl
    have HWR := Lib.hid (show writeR s = joinC 32 [[114, 101, 112, 108, 121], numT (swho : Int), numT (stime : Int), numT (s.flags : Int), s.load] by unfold writeR stepG; rw [if_neg (by omega), show cmdK s.kind = some (10, [114, 101, 112, 108, 121], [87, 65, 70, 84]) by rw [hk10]; rfl, ← HWE.out, ← HTE.out]; rfl)
    clear hk0 hk1 hk2 hk8 hk9 hk10
    have ln0 : (numsT [swho, stime, s.flags]).length ≤ 63 := numsT_len _ (by simp; omega)
    go_upto_region 15 with fail
    refine wp_region_kept 15 [(7, fun v u => ∃ g : Nat, v = .slice (some ⟨g, 0, none⟩) 3 3 ∧ Blk u g 3 #[.int .i64 (swho : Int), .int .i64 (stime : Int), .int .i64 (s.flags : Int)]), (8, fun v u => ∃ y : ByteArray, v = .string y ∧ y.data.toList = numsT [swho, stime, s.flags]), (9, fun v u => ∃ y : ByteArray, v = .string y ∧ y.data.toList = [114, 101, 112, 108, 121] ++ numsT [swho, stime, s.flags]), (10, fun v u => ∃ y : ByteArray, v = .string y ∧ y.data.toList = ([114, 101, 112, 108, 121] ++ numsT [swho, stime, s.flags]) ++ [32]), (13, fun v u => v = .string yld), (14, fun v u => ∃ y : ByteArray, v = .string y ∧ y.data.toList = (([114, 101, 112, 108, 121] ++ numsT [swho, stime, s.flags]) ++ [32]) ++ s.load)] ?st ?ne rfl (by kernel_rfl) (by kernel_rfl) ?_
    case st =>
      intro p hp
      simp only [List.mem_cons, List.not_mem_nil, or_false] at hp
      rcases hp with rfl | rfl | rfl | rfl | rfl | rfl
      · intro v u u' h hk; obtain ⟨g, h1, h2⟩ := h; exact ⟨g, h1, h2.kept hk (fun h => h)⟩
      · intro v u u' h hk; exact h
      · intro v u u' h hk; exact h
      · intro v u u' h hk; exact h
      · intro v u u' h hk; exact h
      · intro v u u' h hk; exact h
    case ne =>
      intro p hp
      simp only [List.mem_cons, List.not_mem_nil, or_false] at hp
      rcases hp with rfl | rfl | rfl | rfl | rfl | rfl
      · exact ⟨_, _, (Kept.refl _ _).alloc (.cells #[.int .i64 (swho : Int), .int .i64 (stime : Int), .int .i64 (s.flags : Int)] 3), _, rfl, Blk.new _ _ _⟩
      · exact ⟨_, _, Kept.refl _ _, ⟨(numsT [swho, stime, s.flags]).toArray⟩, rfl, rfl⟩
      · exact ⟨_, _, Kept.refl _ _, ⟨([114, 101, 112, 108, 121] ++ numsT [swho, stime, s.flags]).toArray⟩, rfl, rfl⟩
      · exact ⟨_, _, Kept.refl _ _, ⟨(([114, 101, 112, 108, 121] ++ numsT [swho, stime, s.flags]) ++ [32]).toArray⟩, rfl, rfl⟩
      · exact ⟨_, _, Kept.refl _ _, rfl⟩
      · exact ⟨_, _, Kept.refl _ _, ⟨((([114, 101, 112, 108, 121] ++ numsT [swho, stime, s.flags]) ++ [32]) ++ s.load).toArray⟩, rfl, rfl⟩
    simp only [List.take_succ_cons, List.take_zero, List.drop_succ_cons, List.drop_zero]
    intro G pick hR hp1 hp2
    have sF : ∀ u i, (pick u).cell? ⟨w.heap.size, i, none⟩ = (#[.int .i64 s.kind, .int .i64 s.op.kind, .int .i64 s.op.vip, .int .i64 s.op.backend, .int .i64 s.op.version, .bool s.op.a.six, .int .u64 (s.op.a.hi : Int), .int .u64 (s.op.a.lo : Int), .int .u16 (s.op.port : Int), .int .u8 (s.op.proto : Int), .int .i64 s.op.way, .slice MA s.op.ms.length mc, .int .i64 (swho : Int), .int .i64 (stime : Int), .int .u8 (s.flags : Int), .slice LA s.load.length lc, .int .u32 (s.n : Int), .int .u32 (s.x : Int), .int .u32 (s.y : Int), .bool s.src.six, .int .u64 (s.src.hi : Int), .int .u64 (s.src.lo : Int), .int .u16 (s.port : Int)] : Array Value)[i]? := fun u i => ((hp1 u).cell lN1 (fun h => h) _).trans (HN1.out.cell i)
    have sN : ∀ u i, (pick u).cell? ⟨nb, i, none⟩ = (#[.string ⟨#[]⟩, .string ⟨#[99, 111, 109, 109, 105, 116]⟩, .string ⟨#[99, 114, 97, 115, 104]⟩, .string ⟨#[111, 102, 102, 101, 114]⟩, .string ⟨#[100, 101, 108, 105, 118, 101, 114]⟩, .string ⟨#[100, 114, 111, 112]⟩, .string ⟨#[116, 119, 105, 99, 101]⟩, .string ⟨#[114, 101, 115, 116, 97, 114, 116]⟩, .string ⟨#[114, 101, 112, 111, 114, 116]⟩, .string ⟨#[115, 101, 110, 100]⟩, .string ⟨#[114, 101, 112, 108, 121]⟩, .string ⟨#[116, 105, 99, 107]⟩, .string ⟨#[113, 117, 105, 99]⟩, .string ⟨#[103, 105, 118, 101]⟩, .string ⟨#[109, 111, 118, 101]⟩, .string ⟨#[115, 101, 116, 116, 108, 101]⟩] : Array Value)[i]? := fun u i => ((hp1 u).cell lS1 (fun h => h) _).trans (HS1.out.cell i)
    repeat (first | (refine wpR_det hp2 rfl ((hR.rel _).trans rfl) rfl ?_; intro K hK; go_big_quiet_op; go_big_quiet_on) | (refine wpR_ptr hp2 rfl ((hR.rel _).trans rfl) rfl rfl ?_; intro K hK; go_big_quiet_op; go_big_quiet_on) | (refine wpR_skip pick rfl ?_; intro K hK; go_big_quiet_op; go_big_quiet_on))
    refine wpR_rel pick rfl ((hR.rel _).trans rfl) ((hR.turns _).trans rfl) ?_ ?_
    · intro u hu
      have hk := hR.since hu.1
      have hks := hk.size
      unfold relAt
      go_simp
      exact ⟨hR.into0 ((Kept.refl _ _).alloc _), hR.put 0 rfl rfl ⟨_, rfl, Blk.new _ _ _⟩⟩
    intro v hv
    obtain ⟨u, _, hu⟩ := hv
    obtain ⟨g7, rfl, hb7⟩ := hR.get 0 rfl hu
    clear hu
    clear hb7
    intro K hK
    go_big_quiet_op
    go_big_quiet_on
    repeat (first | (refine wpR_det hp2 rfl ((hR.rel _).trans rfl) rfl ?_; intro K hK; go_big_quiet_op; go_big_quiet_on) | (refine wpR_ptr hp2 rfl ((hR.rel _).trans rfl) rfl rfl ?_; intro K hK; go_big_quiet_op; go_big_quiet_on) | (refine wpR_skip pick rfl ?_; intro K hK; go_big_quiet_op; go_big_quiet_on))
    refine wpR_rel pick rfl ((hR.rel _).trans rfl) ((hR.turns _).trans rfl) ?_ ?_
    · intro u hu
      have hk := hR.since hu.1
      have hks := hk.size
      obtain ⟨g', hg', hB'⟩ := (hR.get 0 rfl (hu.2 _ _ (Got.upd_self _ _ _) (by kernel_rfl)))
      injection hg' with e1 _ _
      injection e1 with e1
      injection e1 with e1
      subst e1
      have hcall := nums_cells [swho, stime, s.flags] _ u (by simp) hB' (by simp; omega)
      unfold relAt
      go_simp
      refine (hcall).mono ?_
      rintro e w' ⟨y, rfl, hy, hk'⟩
      exact ⟨_, rfl, hR.into0 hk', hR.put 1 rfl rfl ⟨y, rfl, hy⟩⟩
    intro v hv
    obtain ⟨u, _, hu⟩ := hv
    obtain ⟨y1, rfl, hy1⟩ := hR.get 1 rfl hu
    clear hu
    have HY1 := Lib.hid hy1
    clear hy1
    intro K hK
    go_big_quiet_op
    go_big_quiet_on
    repeat (first | (refine wpR_det hp2 rfl ((hR.rel _).trans rfl) rfl ?_; intro K hK; go_big_quiet_op; go_big_quiet_on) | (refine wpR_ptr hp2 rfl ((hR.rel _).trans rfl) rfl rfl ?_; intro K hK; go_big_quiet_op; go_big_quiet_on) | (refine wpR_skip pick rfl ?_; intro K hK; go_big_quiet_op; go_big_quiet_on))
    refine wpR_rel pick rfl ((hR.rel _).trans rfl) ((hR.turns _).trans rfl) ?_ ?_
    · intro u hu
      have hk := hR.since hu.1
      have hks := hk.size
      have hz : ¬ (9223372036854775807 < 5 + y1.size) := by
        rw [Lib.size_eq y1, HY1.out]
        try simp only [List.length_append, List.length_cons, List.length_nil]
        omega
      unfold relAt
      go_simp
      exact ⟨hR.same, hR.put 2 rfl rfl ⟨_, rfl, by rw [cat_data, HY1.out]; try rfl⟩⟩
    intro v hv
    obtain ⟨u, _, hu⟩ := hv
    obtain ⟨y2, rfl, hy2⟩ := hR.get 2 rfl hu
    clear hu
    have HY2 := Lib.hid hy2
    clear hy2
    intro K hK
    go_big_quiet_op
    go_big_quiet_on
    repeat (first | (refine wpR_det hp2 rfl ((hR.rel _).trans rfl) rfl ?_; intro K hK; go_big_quiet_op; go_big_quiet_on) | (refine wpR_ptr hp2 rfl ((hR.rel _).trans rfl) rfl rfl ?_; intro K hK; go_big_quiet_op; go_big_quiet_on) | (refine wpR_skip pick rfl ?_; intro K hK; go_big_quiet_op; go_big_quiet_on))
    refine wpR_rel pick rfl ((hR.rel _).trans rfl) ((hR.turns _).trans rfl) ?_ ?_
    · intro u hu
      have hk := hR.since hu.1
      have hks := hk.size
      have hz : ¬ (9223372036854775807 < y2.size + 1) := by
        rw [Lib.size_eq y2, HY2.out]
        try simp only [List.length_append, List.length_cons, List.length_nil]
        omega
      unfold relAt
      go_simp
      exact ⟨hR.same, hR.put 3 rfl rfl ⟨_, rfl, by rw [cat_data, HY2.out]; try rfl⟩⟩
    intro v hv
    obtain ⟨u, _, hu⟩ := hv
    obtain ⟨y3, rfl, hy3⟩ := hR.get 3 rfl hu
    clear hu
    have HY3 := Lib.hid hy3
    clear hy3
    intro K hK
    go_big_quiet_op
    go_big_quiet_on
    repeat (first | (refine wpR_det hp2 rfl ((hR.rel _).trans rfl) rfl ?_; intro K hK; go_big_quiet_op; go_big_quiet_on) | (refine wpR_ptr hp2 rfl ((hR.rel _).trans rfl) rfl rfl ?_; intro K hK; go_big_quiet_op; go_big_quiet_on) | (refine wpR_skip pick rfl ?_; intro K hK; go_big_quiet_op; go_big_quiet_on))
    refine wpR_rel pick rfl ((hR.rel _).trans rfl) ((hR.turns _).trans rfl) ?_ ?_
    · intro u hu
      have hk := hR.since hu.1
      have hks := hk.size
      have hcv := (HLD.out.on (HK1.out.trans hk) (fun _ _ h => h)).conv (P := Tryz.prog) (c := lc) Tryz.underlying30 Tryz.underlying5 Tryz.underlying9
      rw [← HYE.out] at hcv
      unfold relAt
      go_simp
      exact ⟨hR.same, hR.put 4 rfl rfl rfl⟩
    intro v hv
    obtain ⟨u, _, hu⟩ := hv
    obtain rfl := hR.get 4 rfl hu
    clear hu
    intro K hK
    go_big_quiet_op
    go_big_quiet_on
    repeat (first | (refine wpR_det hp2 rfl ((hR.rel _).trans rfl) rfl ?_; intro K hK; go_big_quiet_op; go_big_quiet_on) | (refine wpR_ptr hp2 rfl ((hR.rel _).trans rfl) rfl rfl ?_; intro K hK; go_big_quiet_op; go_big_quiet_on) | (refine wpR_skip pick rfl ?_; intro K hK; go_big_quiet_op; go_big_quiet_on))
    refine wpR_rel pick rfl ((hR.rel _).trans rfl) ((hR.turns _).trans rfl) ?_ ?_
    · intro u hu
      have hk := hR.since hu.1
      have hks := hk.size
      have hz : ¬ (9223372036854775807 < y3.size + yld.size) := by
        rw [Lib.size_eq y3, HY3.out, Lib.size_eq yld, HYLD.out]
        try simp only [List.length_append, List.length_cons, List.length_nil]
        omega
      unfold relAt
      go_simp
      exact ⟨hR.same, hR.put 5 rfl rfl ⟨_, rfl, by rw [cat_data, HY3.out, HYLD.out]; try rfl⟩⟩
    intro v hv
    obtain ⟨u, _, hu⟩ := hv
    obtain ⟨y5, rfl, hy5⟩ := hR.get 5 rfl hu
    clear hu
    have HY5 := Lib.hid hy5
    clear hy5
    intro K hK
    go_big_quiet_op
    go_big_quiet_on
    repeat (first | (refine wpR_det hp2 rfl ((hR.rel _).trans rfl) rfl ?_; intro K hK; go_big_quiet_op; go_big_quiet_on) | (refine wpR_ptr hp2 rfl ((hR.rel _).trans rfl) rfl rfl ?_; intro K hK; go_big_quiet_op; go_big_quiet_on) | (refine wpR_skip pick rfl ?_; intro K hK; go_big_quiet_op; go_big_quiet_on))
    refine wpR_nil ?_
    intro wE hk2 hF hM
    have HKE := Lib.hid (HK1.out.trans hk2)
    clear hF hM hk2 hp1 hp2 hR sF sN
    go_wp2_with fail
    go_ret
    exact ⟨y5, rfl, by rw [HY5.out, HWR.out]; first | rfl | simp [numsT, joinC, backendT, vipT, retireT, releaseT, evictT, admitT, udpT, tcpT, membersT], HKE.out⟩
  by_cases hk11 : s.kind = 11
  · skip
    have q0 : (s.kind == 0) = false := by rw [hk11]; rfl
    have q1 : (s.kind == 1) = false := by rw [hk11]; rfl
    have q2 : (s.kind == 2) = false := by rw [hk11]; rfl
    have q8 : (s.kind == 8) = false := by rw [hk11]; rfl
    have q9 : (s.kind == 9) = false := by rw [hk11]; rfl
    have q10 : (s.kind == 10) = false := by rw [hk11]; rfl
    have q11 : (s.kind == 11) = true := by rw [hk11]; rfl
    have HWR := Lib.hid (show writeR s = joinC 32 [[116, 105, 99, 107], numT (s.n : Int)] by unfold writeR stepG; rw [if_neg (by omega), show cmdK s.kind = some (11, [116, 105, 99, 107], [78]) by rw [hk11]; rfl]; rfl)
    clear hk0 hk1 hk2 hk8 hk9 hk10
    have ln0 : (numsT [s.n]).length ≤ 21 := numsT_len _ (by simp; omega)
    go_upto_region 18 with fail
    refine wp_region_kept 11 [(8, fun v u => ∃ g : Nat, v = .slice (some ⟨g, 0, none⟩) 1 1 ∧ Blk u g 3 #[.int .i64 (s.n : Int)]), (9, fun v u => ∃ y : ByteArray, v = .string y ∧ y.data.toList = numsT [s.n]), (10, fun v u => ∃ y : ByteArray, v = .string y ∧ y.data.toList = [116, 105, 99, 107] ++ numsT [s.n])] ?st ?ne rfl (by kernel_rfl) (by kernel_rfl) ?_
    case st =>
      intro p hp
      simp only [List.mem_cons, List.not_mem_nil, or_false] at hp
      rcases hp with rfl | rfl | rfl
      · intro v u u' h hk; obtain ⟨g, h1, h2⟩ := h; exact ⟨g, h1, h2.kept hk (fun h => h)⟩
      · intro v u u' h hk; exact h
      · intro v u u' h hk; exact h
    case ne =>
      intro p hp
      simp only [List.mem_cons, List.not_mem_nil, or_false] at hp
      rcases hp with rfl | rfl | rfl
      · exact ⟨_, _, (Kept.refl _ _).alloc (.cells #[.int .i64 (s.n : Int)] 3), _, rfl, Blk.new _ _ _⟩
      · exact ⟨_, _, Kept.refl _ _, ⟨(numsT [s.n]).toArray⟩, rfl, rfl⟩
      · exact ⟨_, _, Kept.refl _ _, ⟨([116, 105, 99, 107] ++ numsT [s.n]).toArray⟩, rfl, rfl⟩
    simp only [List.take_succ_cons, List.take_zero, List.drop_succ_cons, List.drop_zero]
    intro G pick hR hp1 hp2
    have sF : ∀ u i, (pick u).cell? ⟨w.heap.size, i, none⟩ = (#[.int .i64 s.kind, .int .i64 s.op.kind, .int .i64 s.op.vip, .int .i64 s.op.backend, .int .i64 s.op.version, .bool s.op.a.six, .int .u64 (s.op.a.hi : Int), .int .u64 (s.op.a.lo : Int), .int .u16 (s.op.port : Int), .int .u8 (s.op.proto : Int), .int .i64 s.op.way, .slice MA s.op.ms.length mc, .int .i64 (swho : Int), .int .i64 (stime : Int), .int .u8 (s.flags : Int), .slice LA s.load.length lc, .int .u32 (s.n : Int), .int .u32 (s.x : Int), .int .u32 (s.y : Int), .bool s.src.six, .int .u64 (s.src.hi : Int), .int .u64 (s.src.lo : Int), .int .u16 (s.port : Int)] : Array Value)[i]? := fun u i => ((hp1 u).cell lN1 (fun h => h) _).trans (HN1.out.cell i)
    have sN : ∀ u i, (pick u).cell? ⟨nb, i, none⟩ = (#[.string ⟨#[]⟩, .string ⟨#[99, 111, 109, 109, 105, 116]⟩, .string ⟨#[99, 114, 97, 115, 104]⟩, .string ⟨#[111, 102, 102, 101, 114]⟩, .string ⟨#[100, 101, 108, 105, 118, 101, 114]⟩, .string ⟨#[100, 114, 111, 112]⟩, .string ⟨#[116, 119, 105, 99, 101]⟩, .string ⟨#[114, 101, 115, 116, 97, 114, 116]⟩, .string ⟨#[114, 101, 112, 111, 114, 116]⟩, .string ⟨#[115, 101, 110, 100]⟩, .string ⟨#[114, 101, 112, 108, 121]⟩, .string ⟨#[116, 105, 99, 107]⟩, .string ⟨#[113, 117, 105, 99]⟩, .string ⟨#[103, 105, 118, 101]⟩, .string ⟨#[109, 111, 118, 101]⟩, .string ⟨#[115, 101, 116, 116, 108, 101]⟩] : Array Value)[i]? := fun u i => ((hp1 u).cell lS1 (fun h => h) _).trans (HS1.out.cell i)
    repeat (first | (refine wpR_det hp2 rfl ((hR.rel _).trans rfl) rfl ?_; intro K hK; go_big_quiet_op; go_big_quiet_on) | (refine wpR_ptr hp2 rfl ((hR.rel _).trans rfl) rfl rfl ?_; intro K hK; go_big_quiet_op; go_big_quiet_on) | (refine wpR_skip pick rfl ?_; intro K hK; go_big_quiet_op; go_big_quiet_on))
    refine wpR_rel pick rfl ((hR.rel _).trans rfl) ((hR.turns _).trans rfl) ?_ ?_
    · intro u hu
      have hk := hR.since hu.1
      have hks := hk.size
      unfold relAt
      go_simp
      exact ⟨hR.into0 ((Kept.refl _ _).alloc _), hR.put 0 rfl rfl ⟨_, rfl, Blk.new _ _ _⟩⟩
    intro v hv
    obtain ⟨u, _, hu⟩ := hv
    obtain ⟨g8, rfl, hb8⟩ := hR.get 0 rfl hu
    clear hu
    clear hb8
    intro K hK
    go_big_quiet_op
    go_big_quiet_on
    repeat (first | (refine wpR_det hp2 rfl ((hR.rel _).trans rfl) rfl ?_; intro K hK; go_big_quiet_op; go_big_quiet_on) | (refine wpR_ptr hp2 rfl ((hR.rel _).trans rfl) rfl rfl ?_; intro K hK; go_big_quiet_op; go_big_quiet_on) | (refine wpR_skip pick rfl ?_; intro K hK; go_big_quiet_op; go_big_quiet_on))
    refine wpR_rel pick rfl ((hR.rel _).trans rfl) ((hR.turns _).trans rfl) ?_ ?_
    · intro u hu
      have hk := hR.since hu.1
      have hks := hk.size
      obtain ⟨g', hg', hB'⟩ := (hR.get 0 rfl (hu.2 _ _ (Got.upd_self _ _ _) (by kernel_rfl)))
      injection hg' with e1 _ _
      injection e1 with e1
      injection e1 with e1
      subst e1
      have hcall := nums_cells [s.n] _ u (by simp) hB' (by simp; omega)
      unfold relAt
      go_simp
      refine (hcall).mono ?_
      rintro e w' ⟨y, rfl, hy, hk'⟩
      exact ⟨_, rfl, hR.into0 hk', hR.put 1 rfl rfl ⟨y, rfl, hy⟩⟩
    intro v hv
    obtain ⟨u, _, hu⟩ := hv
    obtain ⟨y1, rfl, hy1⟩ := hR.get 1 rfl hu
    clear hu
    have HY1 := Lib.hid hy1
    clear hy1
    intro K hK
    go_big_quiet_op
    go_big_quiet_on
    repeat (first | (refine wpR_det hp2 rfl ((hR.rel _).trans rfl) rfl ?_; intro K hK; go_big_quiet_op; go_big_quiet_on) | (refine wpR_ptr hp2 rfl ((hR.rel _).trans rfl) rfl rfl ?_; intro K hK; go_big_quiet_op; go_big_quiet_on) | (refine wpR_skip pick rfl ?_; intro K hK; go_big_quiet_op; go_big_quiet_on))
    refine wpR_rel pick rfl ((hR.rel _).trans rfl) ((hR.turns _).trans rfl) ?_ ?_
    · intro u hu
      have hk := hR.since hu.1
      have hks := hk.size
      have hz : ¬ (9223372036854775807 < 4 + y1.size) := by
        rw [Lib.size_eq y1, HY1.out]
        try simp only [List.length_append, List.length_cons, List.length_nil]
        omega
      unfold relAt
      go_simp
      exact ⟨hR.same, hR.put 2 rfl rfl ⟨_, rfl, by rw [cat_data, HY1.out]; try rfl⟩⟩
    intro v hv
    obtain ⟨u, _, hu⟩ := hv
    obtain ⟨y2, rfl, hy2⟩ := hR.get 2 rfl hu
    clear hu
    have HY2 := Lib.hid hy2
    clear hy2
    intro K hK
    go_big_quiet_op
    go_big_quiet_on
    repeat (first | (refine wpR_det hp2 rfl ((hR.rel _).trans rfl) rfl ?_; intro K hK; go_big_quiet_op; go_big_quiet_on) | (refine wpR_ptr hp2 rfl ((hR.rel _).trans rfl) rfl rfl ?_; intro K hK; go_big_quiet_op; go_big_quiet_on) | (refine wpR_skip pick rfl ?_; intro K hK; go_big_quiet_op; go_big_quiet_on))
    refine wpR_nil ?_
    intro wE hk2 hF hM
    have HKE := Lib.hid (HK1.out.trans hk2)
    clear hF hM hk2 hp1 hp2 hR sF sN
    go_wp2_with fail
    go_ret
    exact ⟨y2, rfl, by rw [HY2.out, HWR.out]; first | rfl | simp [numsT, joinC, backendT, vipT, retireT, releaseT, evictT, admitT, udpT, tcpT, membersT], HKE.out⟩
  by_cases hk15 : s.kind = 15
  · skip
    have q0 : (s.kind == 0) = false := by rw [hk15]; rfl
    have q1 : (s.kind == 1) = false := by rw [hk15]; rfl
    have q2 : (s.kind == 2) = false := by rw [hk15]; rfl
    have q8 : (s.kind == 8) = false := by rw [hk15]; rfl
    have q9 : (s.kind == 9) = false := by rw [hk15]; rfl
    have q10 : (s.kind == 10) = false := by rw [hk15]; rfl
    have q11 : (s.kind == 11) = false := by rw [hk15]; rfl
    have q15 : (s.kind == 15) = true := by rw [hk15]; rfl
    have HWR := Lib.hid (show writeR s = joinC 32 [[115, 101, 116, 116, 108, 101], numT (s.n : Int)] by unfold writeR stepG; rw [if_neg (by omega), show cmdK s.kind = some (15, [115, 101, 116, 116, 108, 101], [57]) by rw [hk15]; rfl]; rfl)
    clear hk0 hk1 hk2 hk8 hk9 hk10 hk11
    have ln0 : (numsT [s.n]).length ≤ 21 := numsT_len _ (by simp; omega)
    go_upto_region 18 with fail
    refine wp_region_kept 11 [(8, fun v u => ∃ g : Nat, v = .slice (some ⟨g, 0, none⟩) 1 1 ∧ Blk u g 3 #[.int .i64 (s.n : Int)]), (9, fun v u => ∃ y : ByteArray, v = .string y ∧ y.data.toList = numsT [s.n]), (10, fun v u => ∃ y : ByteArray, v = .string y ∧ y.data.toList = [115, 101, 116, 116, 108, 101] ++ numsT [s.n])] ?st ?ne rfl (by kernel_rfl) (by kernel_rfl) ?_
    case st =>
      intro p hp
      simp only [List.mem_cons, List.not_mem_nil, or_false] at hp
      rcases hp with rfl | rfl | rfl
      · intro v u u' h hk; obtain ⟨g, h1, h2⟩ := h; exact ⟨g, h1, h2.kept hk (fun h => h)⟩
      · intro v u u' h hk; exact h
      · intro v u u' h hk; exact h
    case ne =>
      intro p hp
      simp only [List.mem_cons, List.not_mem_nil, or_false] at hp
      rcases hp with rfl | rfl | rfl
      · exact ⟨_, _, (Kept.refl _ _).alloc (.cells #[.int .i64 (s.n : Int)] 3), _, rfl, Blk.new _ _ _⟩
      · exact ⟨_, _, Kept.refl _ _, ⟨(numsT [s.n]).toArray⟩, rfl, rfl⟩
      · exact ⟨_, _, Kept.refl _ _, ⟨([115, 101, 116, 116, 108, 101] ++ numsT [s.n]).toArray⟩, rfl, rfl⟩
    simp only [List.take_succ_cons, List.take_zero, List.drop_succ_cons, List.drop_zero]
    intro G pick hR hp1 hp2
    have sF : ∀ u i, (pick u).cell? ⟨w.heap.size, i, none⟩ = (#[.int .i64 s.kind, .int .i64 s.op.kind, .int .i64 s.op.vip, .int .i64 s.op.backend, .int .i64 s.op.version, .bool s.op.a.six, .int .u64 (s.op.a.hi : Int), .int .u64 (s.op.a.lo : Int), .int .u16 (s.op.port : Int), .int .u8 (s.op.proto : Int), .int .i64 s.op.way, .slice MA s.op.ms.length mc, .int .i64 (swho : Int), .int .i64 (stime : Int), .int .u8 (s.flags : Int), .slice LA s.load.length lc, .int .u32 (s.n : Int), .int .u32 (s.x : Int), .int .u32 (s.y : Int), .bool s.src.six, .int .u64 (s.src.hi : Int), .int .u64 (s.src.lo : Int), .int .u16 (s.port : Int)] : Array Value)[i]? := fun u i => ((hp1 u).cell lN1 (fun h => h) _).trans (HN1.out.cell i)
    have sN : ∀ u i, (pick u).cell? ⟨nb, i, none⟩ = (#[.string ⟨#[]⟩, .string ⟨#[99, 111, 109, 109, 105, 116]⟩, .string ⟨#[99, 114, 97, 115, 104]⟩, .string ⟨#[111, 102, 102, 101, 114]⟩, .string ⟨#[100, 101, 108, 105, 118, 101, 114]⟩, .string ⟨#[100, 114, 111, 112]⟩, .string ⟨#[116, 119, 105, 99, 101]⟩, .string ⟨#[114, 101, 115, 116, 97, 114, 116]⟩, .string ⟨#[114, 101, 112, 111, 114, 116]⟩, .string ⟨#[115, 101, 110, 100]⟩, .string ⟨#[114, 101, 112, 108, 121]⟩, .string ⟨#[116, 105, 99, 107]⟩, .string ⟨#[113, 117, 105, 99]⟩, .string ⟨#[103, 105, 118, 101]⟩, .string ⟨#[109, 111, 118, 101]⟩, .string ⟨#[115, 101, 116, 116, 108, 101]⟩] : Array Value)[i]? := fun u i => ((hp1 u).cell lS1 (fun h => h) _).trans (HS1.out.cell i)
    repeat (first | (refine wpR_det hp2 rfl ((hR.rel _).trans rfl) rfl ?_; intro K hK; go_big_quiet_op; go_big_quiet_on) | (refine wpR_ptr hp2 rfl ((hR.rel _).trans rfl) rfl rfl ?_; intro K hK; go_big_quiet_op; go_big_quiet_on) | (refine wpR_skip pick rfl ?_; intro K hK; go_big_quiet_op; go_big_quiet_on))
    refine wpR_rel pick rfl ((hR.rel _).trans rfl) ((hR.turns _).trans rfl) ?_ ?_
    · intro u hu
      have hk := hR.since hu.1
      have hks := hk.size
      unfold relAt
      go_simp
      exact ⟨hR.into0 ((Kept.refl _ _).alloc _), hR.put 0 rfl rfl ⟨_, rfl, Blk.new _ _ _⟩⟩
    intro v hv
    obtain ⟨u, _, hu⟩ := hv
    obtain ⟨g8, rfl, hb8⟩ := hR.get 0 rfl hu
    clear hu
    clear hb8
    intro K hK
    go_big_quiet_op
    go_big_quiet_on
    repeat (first | (refine wpR_det hp2 rfl ((hR.rel _).trans rfl) rfl ?_; intro K hK; go_big_quiet_op; go_big_quiet_on) | (refine wpR_ptr hp2 rfl ((hR.rel _).trans rfl) rfl rfl ?_; intro K hK; go_big_quiet_op; go_big_quiet_on) | (refine wpR_skip pick rfl ?_; intro K hK; go_big_quiet_op; go_big_quiet_on))
    refine wpR_rel pick rfl ((hR.rel _).trans rfl) ((hR.turns _).trans rfl) ?_ ?_
    · intro u hu
      have hk := hR.since hu.1
      have hks := hk.size
      obtain ⟨g', hg', hB'⟩ := (hR.get 0 rfl (hu.2 _ _ (Got.upd_self _ _ _) (by kernel_rfl)))
      injection hg' with e1 _ _
      injection e1 with e1
      injection e1 with e1
      subst e1
      have hcall := nums_cells [s.n] _ u (by simp) hB' (by simp; omega)
      unfold relAt
      go_simp
      refine (hcall).mono ?_
      rintro e w' ⟨y, rfl, hy, hk'⟩
      exact ⟨_, rfl, hR.into0 hk', hR.put 1 rfl rfl ⟨y, rfl, hy⟩⟩
    intro v hv
    obtain ⟨u, _, hu⟩ := hv
    obtain ⟨y1, rfl, hy1⟩ := hR.get 1 rfl hu
    clear hu
    have HY1 := Lib.hid hy1
    clear hy1
    intro K hK
    go_big_quiet_op
    go_big_quiet_on
    repeat (first | (refine wpR_det hp2 rfl ((hR.rel _).trans rfl) rfl ?_; intro K hK; go_big_quiet_op; go_big_quiet_on) | (refine wpR_ptr hp2 rfl ((hR.rel _).trans rfl) rfl rfl ?_; intro K hK; go_big_quiet_op; go_big_quiet_on) | (refine wpR_skip pick rfl ?_; intro K hK; go_big_quiet_op; go_big_quiet_on))
    refine wpR_rel pick rfl ((hR.rel _).trans rfl) ((hR.turns _).trans rfl) ?_ ?_
    · intro u hu
      have hk := hR.since hu.1
      have hks := hk.size
      have hz : ¬ (9223372036854775807 < 6 + y1.size) := by
        rw [Lib.size_eq y1, HY1.out]
        try simp only [List.length_append, List.length_cons, List.length_nil]
        omega
      unfold relAt
      go_simp
      exact ⟨hR.same, hR.put 2 rfl rfl ⟨_, rfl, by rw [cat_data, HY1.out]; try rfl⟩⟩
    intro v hv
    obtain ⟨u, _, hu⟩ := hv
    obtain ⟨y2, rfl, hy2⟩ := hR.get 2 rfl hu
    clear hu
    have HY2 := Lib.hid hy2
    clear hy2
    intro K hK
    go_big_quiet_op
    go_big_quiet_on
    repeat (first | (refine wpR_det hp2 rfl ((hR.rel _).trans rfl) rfl ?_; intro K hK; go_big_quiet_op; go_big_quiet_on) | (refine wpR_ptr hp2 rfl ((hR.rel _).trans rfl) rfl rfl ?_; intro K hK; go_big_quiet_op; go_big_quiet_on) | (refine wpR_skip pick rfl ?_; intro K hK; go_big_quiet_op; go_big_quiet_on))
    refine wpR_nil ?_
    intro wE hk2 hF hM
    have HKE := Lib.hid (HK1.out.trans hk2)
    clear hF hM hk2 hp1 hp2 hR sF sN
    go_wp2_with fail
    go_ret
    exact ⟨y2, rfl, by rw [HY2.out, HWR.out]; first | rfl | simp [numsT, joinC, backendT, vipT, retireT, releaseT, evictT, admitT, udpT, tcpT, membersT], HKE.out⟩
  by_cases hk12 : s.kind = 12
  · skip
    have q0 : (s.kind == 0) = false := by rw [hk12]; rfl
    have q1 : (s.kind == 1) = false := by rw [hk12]; rfl
    have q2 : (s.kind == 2) = false := by rw [hk12]; rfl
    have q8 : (s.kind == 8) = false := by rw [hk12]; rfl
    have q9 : (s.kind == 9) = false := by rw [hk12]; rfl
    have q10 : (s.kind == 10) = false := by rw [hk12]; rfl
    have q11 : (s.kind == 11) = false := by rw [hk12]; rfl
    have q15 : (s.kind == 15) = false := by rw [hk12]; rfl
    have q12 : (s.kind == 12) = true := by rw [hk12]; rfl
    have HWR := Lib.hid (show writeR s = joinC 32 [[113, 117, 105, 99], numT (swho : Int), numT (stime : Int), s.load] by unfold writeR stepG; rw [if_neg (by omega), show cmdK s.kind = some (12, [113, 117, 105, 99], [87, 65, 84]) by rw [hk12]; rfl, ← HWE.out, ← HTE.out]; rfl)
    clear hk0 hk1 hk2 hk8 hk9 hk10 hk11 hk15 hk12
    have ln0 : (numsT [swho, stime]).length ≤ 42 := numsT_len _ (by simp; omega)
    go_upto_region 20 with fail
    refine wp_region_kept 12 [(4, fun v u => ∃ g : Nat, v = .slice (some ⟨g, 0, none⟩) 2 2 ∧ Blk u g 3 #[.int .i64 (swho : Int), .int .i64 (stime : Int)]), (5, fun v u => ∃ y : ByteArray, v = .string y ∧ y.data.toList = numsT [swho, stime]), (6, fun v u => ∃ y : ByteArray, v = .string y ∧ y.data.toList = [113, 117, 105, 99] ++ numsT [swho, stime]), (7, fun v u => ∃ y : ByteArray, v = .string y ∧ y.data.toList = ([113, 117, 105, 99] ++ numsT [swho, stime]) ++ [32]), (10, fun v u => v = .string yld), (11, fun v u => ∃ y : ByteArray, v = .string y ∧ y.data.toList = (([113, 117, 105, 99] ++ numsT [swho, stime]) ++ [32]) ++ s.load)] ?st ?ne rfl (by kernel_rfl) (by kernel_rfl) ?_
    case st =>
      intro p hp
      simp only [List.mem_cons, List.not_mem_nil, or_false] at hp
      rcases hp with rfl | rfl | rfl | rfl | rfl | rfl
      · intro v u u' h hk; obtain ⟨g, h1, h2⟩ := h; exact ⟨g, h1, h2.kept hk (fun h => h)⟩
      · intro v u u' h hk; exact h
      · intro v u u' h hk; exact h
      · intro v u u' h hk; exact h
      · intro v u u' h hk; exact h
      · intro v u u' h hk; exact h
    case ne =>
      intro p hp
      simp only [List.mem_cons, List.not_mem_nil, or_false] at hp
      rcases hp with rfl | rfl | rfl | rfl | rfl | rfl
      · exact ⟨_, _, (Kept.refl _ _).alloc (.cells #[.int .i64 (swho : Int), .int .i64 (stime : Int)] 3), _, rfl, Blk.new _ _ _⟩
      · exact ⟨_, _, Kept.refl _ _, ⟨(numsT [swho, stime]).toArray⟩, rfl, rfl⟩
      · exact ⟨_, _, Kept.refl _ _, ⟨([113, 117, 105, 99] ++ numsT [swho, stime]).toArray⟩, rfl, rfl⟩
      · exact ⟨_, _, Kept.refl _ _, ⟨(([113, 117, 105, 99] ++ numsT [swho, stime]) ++ [32]).toArray⟩, rfl, rfl⟩
      · exact ⟨_, _, Kept.refl _ _, rfl⟩
      · exact ⟨_, _, Kept.refl _ _, ⟨((([113, 117, 105, 99] ++ numsT [swho, stime]) ++ [32]) ++ s.load).toArray⟩, rfl, rfl⟩
    simp only [List.take_succ_cons, List.take_zero, List.drop_succ_cons, List.drop_zero]
    intro G pick hR hp1 hp2
    have sF : ∀ u i, (pick u).cell? ⟨w.heap.size, i, none⟩ = (#[.int .i64 s.kind, .int .i64 s.op.kind, .int .i64 s.op.vip, .int .i64 s.op.backend, .int .i64 s.op.version, .bool s.op.a.six, .int .u64 (s.op.a.hi : Int), .int .u64 (s.op.a.lo : Int), .int .u16 (s.op.port : Int), .int .u8 (s.op.proto : Int), .int .i64 s.op.way, .slice MA s.op.ms.length mc, .int .i64 (swho : Int), .int .i64 (stime : Int), .int .u8 (s.flags : Int), .slice LA s.load.length lc, .int .u32 (s.n : Int), .int .u32 (s.x : Int), .int .u32 (s.y : Int), .bool s.src.six, .int .u64 (s.src.hi : Int), .int .u64 (s.src.lo : Int), .int .u16 (s.port : Int)] : Array Value)[i]? := fun u i => ((hp1 u).cell lN1 (fun h => h) _).trans (HN1.out.cell i)
    have sN : ∀ u i, (pick u).cell? ⟨nb, i, none⟩ = (#[.string ⟨#[]⟩, .string ⟨#[99, 111, 109, 109, 105, 116]⟩, .string ⟨#[99, 114, 97, 115, 104]⟩, .string ⟨#[111, 102, 102, 101, 114]⟩, .string ⟨#[100, 101, 108, 105, 118, 101, 114]⟩, .string ⟨#[100, 114, 111, 112]⟩, .string ⟨#[116, 119, 105, 99, 101]⟩, .string ⟨#[114, 101, 115, 116, 97, 114, 116]⟩, .string ⟨#[114, 101, 112, 111, 114, 116]⟩, .string ⟨#[115, 101, 110, 100]⟩, .string ⟨#[114, 101, 112, 108, 121]⟩, .string ⟨#[116, 105, 99, 107]⟩, .string ⟨#[113, 117, 105, 99]⟩, .string ⟨#[103, 105, 118, 101]⟩, .string ⟨#[109, 111, 118, 101]⟩, .string ⟨#[115, 101, 116, 116, 108, 101]⟩] : Array Value)[i]? := fun u i => ((hp1 u).cell lS1 (fun h => h) _).trans (HS1.out.cell i)
    repeat (first | (refine wpR_det hp2 rfl ((hR.rel _).trans rfl) rfl ?_; intro K hK; go_big_quiet_op; go_big_quiet_on) | (refine wpR_ptr hp2 rfl ((hR.rel _).trans rfl) rfl rfl ?_; intro K hK; go_big_quiet_op; go_big_quiet_on) | (refine wpR_skip pick rfl ?_; intro K hK; go_big_quiet_op; go_big_quiet_on))
    refine wpR_rel pick rfl ((hR.rel _).trans rfl) ((hR.turns _).trans rfl) ?_ ?_
    · intro u hu
      have hk := hR.since hu.1
      have hks := hk.size
      unfold relAt
      go_simp
      exact ⟨hR.into0 ((Kept.refl _ _).alloc _), hR.put 0 rfl rfl ⟨_, rfl, Blk.new _ _ _⟩⟩
    intro v hv
    obtain ⟨u, _, hu⟩ := hv
    obtain ⟨g4, rfl, hb4⟩ := hR.get 0 rfl hu
    clear hu
    clear hb4
    intro K hK
    go_big_quiet_op
    go_big_quiet_on
    repeat (first | (refine wpR_det hp2 rfl ((hR.rel _).trans rfl) rfl ?_; intro K hK; go_big_quiet_op; go_big_quiet_on) | (refine wpR_ptr hp2 rfl ((hR.rel _).trans rfl) rfl rfl ?_; intro K hK; go_big_quiet_op; go_big_quiet_on) | (refine wpR_skip pick rfl ?_; intro K hK; go_big_quiet_op; go_big_quiet_on))
    refine wpR_rel pick rfl ((hR.rel _).trans rfl) ((hR.turns _).trans rfl) ?_ ?_
    · intro u hu
      have hk := hR.since hu.1
      have hks := hk.size
      obtain ⟨g', hg', hB'⟩ := (hR.get 0 rfl (hu.2 _ _ (Got.upd_self _ _ _) (by kernel_rfl)))
      injection hg' with e1 _ _
      injection e1 with e1
      injection e1 with e1
      subst e1
      have hcall := nums_cells [swho, stime] _ u (by simp) hB' (by simp; omega)
      unfold relAt
      go_simp
      refine (hcall).mono ?_
      rintro e w' ⟨y, rfl, hy, hk'⟩
      exact ⟨_, rfl, hR.into0 hk', hR.put 1 rfl rfl ⟨y, rfl, hy⟩⟩
    intro v hv
    obtain ⟨u, _, hu⟩ := hv
    obtain ⟨y1, rfl, hy1⟩ := hR.get 1 rfl hu
    clear hu
    have HY1 := Lib.hid hy1
    clear hy1
    intro K hK
    go_big_quiet_op
    go_big_quiet_on
    repeat (first | (refine wpR_det hp2 rfl ((hR.rel _).trans rfl) rfl ?_; intro K hK; go_big_quiet_op; go_big_quiet_on) | (refine wpR_ptr hp2 rfl ((hR.rel _).trans rfl) rfl rfl ?_; intro K hK; go_big_quiet_op; go_big_quiet_on) | (refine wpR_skip pick rfl ?_; intro K hK; go_big_quiet_op; go_big_quiet_on))
    refine wpR_rel pick rfl ((hR.rel _).trans rfl) ((hR.turns _).trans rfl) ?_ ?_
    · intro u hu
      have hk := hR.since hu.1
      have hks := hk.size
      have hz : ¬ (9223372036854775807 < 4 + y1.size) := by
        rw [Lib.size_eq y1, HY1.out]
        try simp only [List.length_append, List.length_cons, List.length_nil]
        omega
      unfold relAt
      go_simp
      exact ⟨hR.same, hR.put 2 rfl rfl ⟨_, rfl, by rw [cat_data, HY1.out]; try rfl⟩⟩
    intro v hv
    obtain ⟨u, _, hu⟩ := hv
    obtain ⟨y2, rfl, hy2⟩ := hR.get 2 rfl hu
    clear hu
    have HY2 := Lib.hid hy2
    clear hy2
    intro K hK
    go_big_quiet_op
    go_big_quiet_on
    repeat (first | (refine wpR_det hp2 rfl ((hR.rel _).trans rfl) rfl ?_; intro K hK; go_big_quiet_op; go_big_quiet_on) | (refine wpR_ptr hp2 rfl ((hR.rel _).trans rfl) rfl rfl ?_; intro K hK; go_big_quiet_op; go_big_quiet_on) | (refine wpR_skip pick rfl ?_; intro K hK; go_big_quiet_op; go_big_quiet_on))
    refine wpR_rel pick rfl ((hR.rel _).trans rfl) ((hR.turns _).trans rfl) ?_ ?_
    · intro u hu
      have hk := hR.since hu.1
      have hks := hk.size
      have hz : ¬ (9223372036854775807 < y2.size + 1) := by
        rw [Lib.size_eq y2, HY2.out]
        try simp only [List.length_append, List.length_cons, List.length_nil]
        omega
      unfold relAt
      go_simp
      exact ⟨hR.same, hR.put 3 rfl rfl ⟨_, rfl, by rw [cat_data, HY2.out]; try rfl⟩⟩
    intro v hv
    obtain ⟨u, _, hu⟩ := hv
    obtain ⟨y3, rfl, hy3⟩ := hR.get 3 rfl hu
    clear hu
    have HY3 := Lib.hid hy3
    clear hy3
    intro K hK
    go_big_quiet_op
    go_big_quiet_on
    repeat (first | (refine wpR_det hp2 rfl ((hR.rel _).trans rfl) rfl ?_; intro K hK; go_big_quiet_op; go_big_quiet_on) | (refine wpR_ptr hp2 rfl ((hR.rel _).trans rfl) rfl rfl ?_; intro K hK; go_big_quiet_op; go_big_quiet_on) | (refine wpR_skip pick rfl ?_; intro K hK; go_big_quiet_op; go_big_quiet_on))
    refine wpR_rel pick rfl ((hR.rel _).trans rfl) ((hR.turns _).trans rfl) ?_ ?_
    · intro u hu
      have hk := hR.since hu.1
      have hks := hk.size
      have hcv := (HLD.out.on (HK1.out.trans hk) (fun _ _ h => h)).conv (P := Tryz.prog) (c := lc) Tryz.underlying30 Tryz.underlying5 Tryz.underlying9
      rw [← HYE.out] at hcv
      unfold relAt
      go_simp
      exact ⟨hR.same, hR.put 4 rfl rfl rfl⟩
    intro v hv
    obtain ⟨u, _, hu⟩ := hv
    obtain rfl := hR.get 4 rfl hu
    clear hu
    intro K hK
    go_big_quiet_op
    go_big_quiet_on
    repeat (first | (refine wpR_det hp2 rfl ((hR.rel _).trans rfl) rfl ?_; intro K hK; go_big_quiet_op; go_big_quiet_on) | (refine wpR_ptr hp2 rfl ((hR.rel _).trans rfl) rfl rfl ?_; intro K hK; go_big_quiet_op; go_big_quiet_on) | (refine wpR_skip pick rfl ?_; intro K hK; go_big_quiet_op; go_big_quiet_on))
    refine wpR_rel pick rfl ((hR.rel _).trans rfl) ((hR.turns _).trans rfl) ?_ ?_
    · intro u hu
      have hk := hR.since hu.1
      have hks := hk.size
      have hz : ¬ (9223372036854775807 < y3.size + yld.size) := by
        rw [Lib.size_eq y3, HY3.out, Lib.size_eq yld, HYLD.out]
        try simp only [List.length_append, List.length_cons, List.length_nil]
        omega
      unfold relAt
      go_simp
      exact ⟨hR.same, hR.put 5 rfl rfl ⟨_, rfl, by rw [cat_data, HY3.out, HYLD.out]; try rfl⟩⟩
    intro v hv
    obtain ⟨u, _, hu⟩ := hv
    obtain ⟨y5, rfl, hy5⟩ := hR.get 5 rfl hu
    clear hu
    have HY5 := Lib.hid hy5
    clear hy5
    intro K hK
    go_big_quiet_op
    go_big_quiet_on
    repeat (first | (refine wpR_det hp2 rfl ((hR.rel _).trans rfl) rfl ?_; intro K hK; go_big_quiet_op; go_big_quiet_on) | (refine wpR_ptr hp2 rfl ((hR.rel _).trans rfl) rfl rfl ?_; intro K hK; go_big_quiet_op; go_big_quiet_on) | (refine wpR_skip pick rfl ?_; intro K hK; go_big_quiet_op; go_big_quiet_on))
    refine wpR_nil ?_
    intro wE hk2 hF hM
    have HKE := Lib.hid (HK1.out.trans hk2)
    clear hF hM hk2 hp1 hp2 hR sF sN
    go_wp2_with fail
    go_ret
    exact ⟨y5, rfl, by rw [HY5.out, HWR.out]; first | rfl | simp [numsT, joinC, backendT, vipT, retireT, releaseT, evictT, admitT, udpT, tcpT, membersT], HKE.out⟩
  by_cases hk13 : s.kind = 13
  · skip
    have q0 : (s.kind == 0) = false := by rw [hk13]; rfl
    have q1 : (s.kind == 1) = false := by rw [hk13]; rfl
    have q2 : (s.kind == 2) = false := by rw [hk13]; rfl
    have q8 : (s.kind == 8) = false := by rw [hk13]; rfl
    have q9 : (s.kind == 9) = false := by rw [hk13]; rfl
    have q10 : (s.kind == 10) = false := by rw [hk13]; rfl
    have q11 : (s.kind == 11) = false := by rw [hk13]; rfl
    have q15 : (s.kind == 15) = false := by rw [hk13]; rfl
    have q12 : (s.kind == 12) = false := by rw [hk13]; rfl
    have q13 : (s.kind == 13) = true := by rw [hk13]; rfl
    have HWR := Lib.hid (show writeR s = joinC 32 [[103, 105, 118, 101], numT (swho : Int), numT (stime : Int)] by unfold writeR stepG; rw [if_neg (by omega), show cmdK s.kind = some (13, [103, 105, 118, 101], [87, 65]) by rw [hk13]; rfl, ← HWE.out, ← HTE.out]; rfl)
    clear hk0 hk1 hk2 hk8 hk9 hk10 hk11 hk15 hk12 hk13
    have HNS := Lib.hid (nums_cells [swho, stime] _ (w1.alloc (.cells #[.int .i64 (swho : Int), .int .i64 (stime : Int)] 3)) (by simp) (Blk.new w1 3 #[.int .i64 (swho : Int), .int .i64 (stime : Int)]) (by simp; omega))
    have ln0 : (numsT [swho, stime]).length ≤ 42 := numsT_len _ (by simp; omega)
    go_wp2_with fail
    refine HNS.out.mono ?_
    rintro e w2 ⟨z, rfl, hz, hk⟩
    have HZ := Lib.hid hz
    have hzz : ¬ (9223372036854775807 < 4 + z.size) := by rw [Lib.size_eq, hz]; omega
    have HKE := Lib.hid ((HK1.out.alloc _).trans hk)
    clear hz hk HNS
    go_wp2_with fail
    go_ret
    exact ⟨_, rfl, by rw [cat_data, HZ.out, HWR.out]; first | rfl | simp [numsT, joinC, backendT, vipT, retireT, releaseT, evictT, admitT, udpT, tcpT, membersT], HKE.out⟩
  by_cases hk14 : s.kind = 14
  · skip
    have q0 : (s.kind == 0) = false := by rw [hk14]; rfl
    have q1 : (s.kind == 1) = false := by rw [hk14]; rfl
    have q2 : (s.kind == 2) = false := by rw [hk14]; rfl
    have q8 : (s.kind == 8) = false := by rw [hk14]; rfl
    have q9 : (s.kind == 9) = false := by rw [hk14]; rfl
    have q10 : (s.kind == 10) = false := by rw [hk14]; rfl
    have q11 : (s.kind == 11) = false := by rw [hk14]; rfl
    have q15 : (s.kind == 15) = false := by rw [hk14]; rfl
    have q12 : (s.kind == 12) = false := by rw [hk14]; rfl
    have q13 : (s.kind == 13) = false := by rw [hk14]; rfl
    have q14 : (s.kind == 14) = true := by rw [hk14]; rfl
    have HWR := Lib.hid (show writeR s = joinC 32 [[109, 111, 118, 101], numT (swho : Int), adrT s.src, numT (s.port : Int)] by unfold writeR stepG; rw [if_neg (by omega), show cmdK s.kind = some (14, [109, 111, 118, 101], [87, 97, 80]) by rw [hk14]; rfl, ← HWE.out]; rfl)
    clear hk0 hk1 hk2 hk8 hk9 hk10 hk11 hk15 hk12 hk13 hk14
    have ln0 : (numsT [swho]).length ≤ 21 := numsT_len _ (by simp; omega)
    have ln1 : (numsT [s.port]).length ≤ 21 := numsT_len _ (by simp; omega)
    go_upto_region 24 with fail
    refine wp_region_kept 16 [(2, fun v u => ∃ g : Nat, v = .slice (some ⟨g, 0, none⟩) 1 1 ∧ Blk u g 3 #[.int .i64 (swho : Int)]), (3, fun v u => ∃ y : ByteArray, v = .string y ∧ y.data.toList = numsT [swho]), (4, fun v u => ∃ y : ByteArray, v = .string y ∧ y.data.toList = [109, 111, 118, 101] ++ numsT [swho]), (5, fun v u => ∃ y : ByteArray, v = .string y ∧ y.data.toList = ([109, 111, 118, 101] ++ numsT [swho]) ++ [32]), (8, fun v u => ∃ y : ByteArray, v = .string y ∧ y.data.toList = adrT s.src), (9, fun v u => ∃ y : ByteArray, v = .string y ∧ y.data.toList = (([109, 111, 118, 101] ++ numsT [swho]) ++ [32]) ++ adrT s.src), (13, fun v u => ∃ g : Nat, v = .slice (some ⟨g, 0, none⟩) 1 1 ∧ Blk u g 3 #[.int .i64 (s.port : Int)]), (14, fun v u => ∃ y : ByteArray, v = .string y ∧ y.data.toList = numsT [s.port]), (15, fun v u => ∃ y : ByteArray, v = .string y ∧ y.data.toList = ((([109, 111, 118, 101] ++ numsT [swho]) ++ [32]) ++ adrT s.src) ++ numsT [s.port])] ?st ?ne rfl (by kernel_rfl) (by kernel_rfl) ?_
    case st =>
      intro p hp
      simp only [List.mem_cons, List.not_mem_nil, or_false] at hp
      rcases hp with rfl | rfl | rfl | rfl | rfl | rfl | rfl | rfl | rfl
      · intro v u u' h hk; obtain ⟨g, h1, h2⟩ := h; exact ⟨g, h1, h2.kept hk (fun h => h)⟩
      · intro v u u' h hk; exact h
      · intro v u u' h hk; exact h
      · intro v u u' h hk; exact h
      · intro v u u' h hk; exact h
      · intro v u u' h hk; exact h
      · intro v u u' h hk; obtain ⟨g, h1, h2⟩ := h; exact ⟨g, h1, h2.kept hk (fun h => h)⟩
      · intro v u u' h hk; exact h
      · intro v u u' h hk; exact h
    case ne =>
      intro p hp
      simp only [List.mem_cons, List.not_mem_nil, or_false] at hp
      rcases hp with rfl | rfl | rfl | rfl | rfl | rfl | rfl | rfl | rfl
      · exact ⟨_, _, (Kept.refl _ _).alloc (.cells #[.int .i64 (swho : Int)] 3), _, rfl, Blk.new _ _ _⟩
      · exact ⟨_, _, Kept.refl _ _, ⟨(numsT [swho]).toArray⟩, rfl, rfl⟩
      · exact ⟨_, _, Kept.refl _ _, ⟨([109, 111, 118, 101] ++ numsT [swho]).toArray⟩, rfl, rfl⟩
      · exact ⟨_, _, Kept.refl _ _, ⟨(([109, 111, 118, 101] ++ numsT [swho]) ++ [32]).toArray⟩, rfl, rfl⟩
      · exact ⟨_, _, Kept.refl _ _, ⟨(adrT s.src).toArray⟩, rfl, rfl⟩
      · exact ⟨_, _, Kept.refl _ _, ⟨((([109, 111, 118, 101] ++ numsT [swho]) ++ [32]) ++ adrT s.src).toArray⟩, rfl, rfl⟩
      · exact ⟨_, _, (Kept.refl _ _).alloc (.cells #[.int .i64 (s.port : Int)] 3), _, rfl, Blk.new _ _ _⟩
      · exact ⟨_, _, Kept.refl _ _, ⟨(numsT [s.port]).toArray⟩, rfl, rfl⟩
      · exact ⟨_, _, Kept.refl _ _, ⟨(((([109, 111, 118, 101] ++ numsT [swho]) ++ [32]) ++ adrT s.src) ++ numsT [s.port]).toArray⟩, rfl, rfl⟩
    simp only [List.take_succ_cons, List.take_zero, List.drop_succ_cons, List.drop_zero]
    intro G pick hR hp1 hp2
    have sF : ∀ u i, (pick u).cell? ⟨w.heap.size, i, none⟩ = (#[.int .i64 s.kind, .int .i64 s.op.kind, .int .i64 s.op.vip, .int .i64 s.op.backend, .int .i64 s.op.version, .bool s.op.a.six, .int .u64 (s.op.a.hi : Int), .int .u64 (s.op.a.lo : Int), .int .u16 (s.op.port : Int), .int .u8 (s.op.proto : Int), .int .i64 s.op.way, .slice MA s.op.ms.length mc, .int .i64 (swho : Int), .int .i64 (stime : Int), .int .u8 (s.flags : Int), .slice LA s.load.length lc, .int .u32 (s.n : Int), .int .u32 (s.x : Int), .int .u32 (s.y : Int), .bool s.src.six, .int .u64 (s.src.hi : Int), .int .u64 (s.src.lo : Int), .int .u16 (s.port : Int)] : Array Value)[i]? := fun u i => ((hp1 u).cell lN1 (fun h => h) _).trans (HN1.out.cell i)
    have sN : ∀ u i, (pick u).cell? ⟨nb, i, none⟩ = (#[.string ⟨#[]⟩, .string ⟨#[99, 111, 109, 109, 105, 116]⟩, .string ⟨#[99, 114, 97, 115, 104]⟩, .string ⟨#[111, 102, 102, 101, 114]⟩, .string ⟨#[100, 101, 108, 105, 118, 101, 114]⟩, .string ⟨#[100, 114, 111, 112]⟩, .string ⟨#[116, 119, 105, 99, 101]⟩, .string ⟨#[114, 101, 115, 116, 97, 114, 116]⟩, .string ⟨#[114, 101, 112, 111, 114, 116]⟩, .string ⟨#[115, 101, 110, 100]⟩, .string ⟨#[114, 101, 112, 108, 121]⟩, .string ⟨#[116, 105, 99, 107]⟩, .string ⟨#[113, 117, 105, 99]⟩, .string ⟨#[103, 105, 118, 101]⟩, .string ⟨#[109, 111, 118, 101]⟩, .string ⟨#[115, 101, 116, 116, 108, 101]⟩] : Array Value)[i]? := fun u i => ((hp1 u).cell lS1 (fun h => h) _).trans (HS1.out.cell i)
    repeat (first | (refine wpR_det hp2 rfl ((hR.rel _).trans rfl) rfl ?_; intro K hK; go_big_quiet_op; go_big_quiet_on) | (refine wpR_ptr hp2 rfl ((hR.rel _).trans rfl) rfl rfl ?_; intro K hK; go_big_quiet_op; go_big_quiet_on) | (refine wpR_skip pick rfl ?_; intro K hK; go_big_quiet_op; go_big_quiet_on))
    refine wpR_rel pick rfl ((hR.rel _).trans rfl) ((hR.turns _).trans rfl) ?_ ?_
    · intro u hu
      have hk := hR.since hu.1
      have hks := hk.size
      unfold relAt
      go_simp
      exact ⟨hR.into0 ((Kept.refl _ _).alloc _), hR.put 0 rfl rfl ⟨_, rfl, Blk.new _ _ _⟩⟩
    intro v hv
    obtain ⟨u, _, hu⟩ := hv
    obtain ⟨g2, rfl, hb2⟩ := hR.get 0 rfl hu
    clear hu
    clear hb2
    intro K hK
    go_big_quiet_op
    go_big_quiet_on
    repeat (first | (refine wpR_det hp2 rfl ((hR.rel _).trans rfl) rfl ?_; intro K hK; go_big_quiet_op; go_big_quiet_on) | (refine wpR_ptr hp2 rfl ((hR.rel _).trans rfl) rfl rfl ?_; intro K hK; go_big_quiet_op; go_big_quiet_on) | (refine wpR_skip pick rfl ?_; intro K hK; go_big_quiet_op; go_big_quiet_on))
    refine wpR_rel pick rfl ((hR.rel _).trans rfl) ((hR.turns _).trans rfl) ?_ ?_
    · intro u hu
      have hk := hR.since hu.1
      have hks := hk.size
      obtain ⟨g', hg', hB'⟩ := (hR.get 0 rfl (hu.2 _ _ (Got.upd_self _ _ _) (by kernel_rfl)))
      injection hg' with e1 _ _
      injection e1 with e1
      injection e1 with e1
      subst e1
      have hcall := nums_cells [swho] _ u (by simp) hB' (by simp; omega)
      unfold relAt
      go_simp
      refine (hcall).mono ?_
      rintro e w' ⟨y, rfl, hy, hk'⟩
      exact ⟨_, rfl, hR.into0 hk', hR.put 1 rfl rfl ⟨y, rfl, hy⟩⟩
    intro v hv
    obtain ⟨u, _, hu⟩ := hv
    obtain ⟨y1, rfl, hy1⟩ := hR.get 1 rfl hu
    clear hu
    have HY1 := Lib.hid hy1
    clear hy1
    intro K hK
    go_big_quiet_op
    go_big_quiet_on
    repeat (first | (refine wpR_det hp2 rfl ((hR.rel _).trans rfl) rfl ?_; intro K hK; go_big_quiet_op; go_big_quiet_on) | (refine wpR_ptr hp2 rfl ((hR.rel _).trans rfl) rfl rfl ?_; intro K hK; go_big_quiet_op; go_big_quiet_on) | (refine wpR_skip pick rfl ?_; intro K hK; go_big_quiet_op; go_big_quiet_on))
    refine wpR_rel pick rfl ((hR.rel _).trans rfl) ((hR.turns _).trans rfl) ?_ ?_
    · intro u hu
      have hk := hR.since hu.1
      have hks := hk.size
      have hz : ¬ (9223372036854775807 < 4 + y1.size) := by
        rw [Lib.size_eq y1, HY1.out]
        try simp only [List.length_append, List.length_cons, List.length_nil]
        omega
      unfold relAt
      go_simp
      exact ⟨hR.same, hR.put 2 rfl rfl ⟨_, rfl, by rw [cat_data, HY1.out]; try rfl⟩⟩
    intro v hv
    obtain ⟨u, _, hu⟩ := hv
    obtain ⟨y2, rfl, hy2⟩ := hR.get 2 rfl hu
    clear hu
    have HY2 := Lib.hid hy2
    clear hy2
    intro K hK
    go_big_quiet_op
    go_big_quiet_on
    repeat (first | (refine wpR_det hp2 rfl ((hR.rel _).trans rfl) rfl ?_; intro K hK; go_big_quiet_op; go_big_quiet_on) | (refine wpR_ptr hp2 rfl ((hR.rel _).trans rfl) rfl rfl ?_; intro K hK; go_big_quiet_op; go_big_quiet_on) | (refine wpR_skip pick rfl ?_; intro K hK; go_big_quiet_op; go_big_quiet_on))
    refine wpR_rel pick rfl ((hR.rel _).trans rfl) ((hR.turns _).trans rfl) ?_ ?_
    · intro u hu
      have hk := hR.since hu.1
      have hks := hk.size
      have hz : ¬ (9223372036854775807 < y2.size + 1) := by
        rw [Lib.size_eq y2, HY2.out]
        try simp only [List.length_append, List.length_cons, List.length_nil]
        omega
      unfold relAt
      go_simp
      exact ⟨hR.same, hR.put 3 rfl rfl ⟨_, rfl, by rw [cat_data, HY2.out]; try rfl⟩⟩
    intro v hv
    obtain ⟨u, _, hu⟩ := hv
    obtain ⟨y3, rfl, hy3⟩ := hR.get 3 rfl hu
    clear hu
    have HY3 := Lib.hid hy3
    clear hy3
    intro K hK
    go_big_quiet_op
    go_big_quiet_on
    repeat (first | (refine wpR_det hp2 rfl ((hR.rel _).trans rfl) rfl ?_; intro K hK; go_big_quiet_op; go_big_quiet_on) | (refine wpR_ptr hp2 rfl ((hR.rel _).trans rfl) rfl rfl ?_; intro K hK; go_big_quiet_op; go_big_quiet_on) | (refine wpR_skip pick rfl ?_; intro K hK; go_big_quiet_op; go_big_quiet_on))
    refine wpR_rel pick rfl ((hR.rel _).trans rfl) ((hR.turns _).trans rfl) ?_ ?_
    · intro u hu
      have hk := hR.since hu.1
      have hks := hk.size
      unfold relAt
      go_simp
      refine (refText_any s.src HI.out.hi HI.out.lo u).mono ?_
      rintro e w' ⟨y, rfl, hy, hk'⟩
      exact ⟨_, rfl, hR.into0 hk', hR.put 4 rfl rfl ⟨y, rfl, hy⟩⟩
    intro v hv
    obtain ⟨u, _, hu⟩ := hv
    obtain ⟨y4, rfl, hy4⟩ := hR.get 4 rfl hu
    clear hu
    have HY4 := Lib.hid hy4
    clear hy4
    intro K hK
    go_big_quiet_op
    go_big_quiet_on
    repeat (first | (refine wpR_det hp2 rfl ((hR.rel _).trans rfl) rfl ?_; intro K hK; go_big_quiet_op; go_big_quiet_on) | (refine wpR_ptr hp2 rfl ((hR.rel _).trans rfl) rfl rfl ?_; intro K hK; go_big_quiet_op; go_big_quiet_on) | (refine wpR_skip pick rfl ?_; intro K hK; go_big_quiet_op; go_big_quiet_on))
    refine wpR_rel pick rfl ((hR.rel _).trans rfl) ((hR.turns _).trans rfl) ?_ ?_
    · intro u hu
      have hk := hR.since hu.1
      have hks := hk.size
      have hz : ¬ (9223372036854775807 < y3.size + y4.size) := by
        rw [Lib.size_eq y3, HY3.out, Lib.size_eq y4, HY4.out]
        try simp only [List.length_append, List.length_cons, List.length_nil]
        omega
      unfold relAt
      go_simp
      exact ⟨hR.same, hR.put 5 rfl rfl ⟨_, rfl, by rw [cat_data, HY3.out, HY4.out]; try rfl⟩⟩
    intro v hv
    obtain ⟨u, _, hu⟩ := hv
    obtain ⟨y5, rfl, hy5⟩ := hR.get 5 rfl hu
    clear hu
    have HY5 := Lib.hid hy5
    clear hy5
    intro K hK
    go_big_quiet_op
    go_big_quiet_on
    repeat (first | (refine wpR_det hp2 rfl ((hR.rel _).trans rfl) rfl ?_; intro K hK; go_big_quiet_op; go_big_quiet_on) | (refine wpR_ptr hp2 rfl ((hR.rel _).trans rfl) rfl rfl ?_; intro K hK; go_big_quiet_op; go_big_quiet_on) | (refine wpR_skip pick rfl ?_; intro K hK; go_big_quiet_op; go_big_quiet_on))
    refine wpR_rel pick rfl ((hR.rel _).trans rfl) ((hR.turns _).trans rfl) ?_ ?_
    · intro u hu
      have hk := hR.since hu.1
      have hks := hk.size
      unfold relAt
      go_simp
      exact ⟨hR.into0 ((Kept.refl _ _).alloc _), hR.put 6 rfl rfl ⟨_, rfl, Blk.new _ _ _⟩⟩
    intro v hv
    obtain ⟨u, _, hu⟩ := hv
    obtain ⟨g13, rfl, hb13⟩ := hR.get 6 rfl hu
    clear hu
    clear hb13
    intro K hK
    go_big_quiet_op
    go_big_quiet_on
    repeat (first | (refine wpR_det hp2 rfl ((hR.rel _).trans rfl) rfl ?_; intro K hK; go_big_quiet_op; go_big_quiet_on) | (refine wpR_ptr hp2 rfl ((hR.rel _).trans rfl) rfl rfl ?_; intro K hK; go_big_quiet_op; go_big_quiet_on) | (refine wpR_skip pick rfl ?_; intro K hK; go_big_quiet_op; go_big_quiet_on))
    refine wpR_rel pick rfl ((hR.rel _).trans rfl) ((hR.turns _).trans rfl) ?_ ?_
    · intro u hu
      have hk := hR.since hu.1
      have hks := hk.size
      obtain ⟨g', hg', hB'⟩ := (hR.get 6 rfl (hu.2 _ _ (Got.upd_self _ _ _) (by kernel_rfl)))
      injection hg' with e1 _ _
      injection e1 with e1
      injection e1 with e1
      subst e1
      have hcall := nums_cells [s.port] _ u (by simp) hB' (by simp; omega)
      unfold relAt
      go_simp
      refine (hcall).mono ?_
      rintro e w' ⟨y, rfl, hy, hk'⟩
      exact ⟨_, rfl, hR.into0 hk', hR.put 7 rfl rfl ⟨y, rfl, hy⟩⟩
    intro v hv
    obtain ⟨u, _, hu⟩ := hv
    obtain ⟨y6, rfl, hy6⟩ := hR.get 7 rfl hu
    clear hu
    have HY6 := Lib.hid hy6
    clear hy6
    intro K hK
    go_big_quiet_op
    go_big_quiet_on
    repeat (first | (refine wpR_det hp2 rfl ((hR.rel _).trans rfl) rfl ?_; intro K hK; go_big_quiet_op; go_big_quiet_on) | (refine wpR_ptr hp2 rfl ((hR.rel _).trans rfl) rfl rfl ?_; intro K hK; go_big_quiet_op; go_big_quiet_on) | (refine wpR_skip pick rfl ?_; intro K hK; go_big_quiet_op; go_big_quiet_on))
    refine wpR_rel pick rfl ((hR.rel _).trans rfl) ((hR.turns _).trans rfl) ?_ ?_
    · intro u hu
      have hk := hR.since hu.1
      have hks := hk.size
      have hz : ¬ (9223372036854775807 < y5.size + y6.size) := by
        rw [Lib.size_eq y5, HY5.out, Lib.size_eq y6, HY6.out]
        try simp only [List.length_append, List.length_cons, List.length_nil]
        omega
      unfold relAt
      go_simp
      exact ⟨hR.same, hR.put 8 rfl rfl ⟨_, rfl, by rw [cat_data, HY5.out, HY6.out]; try rfl⟩⟩
    intro v hv
    obtain ⟨u, _, hu⟩ := hv
    obtain ⟨y7, rfl, hy7⟩ := hR.get 8 rfl hu
    clear hu
    have HY7 := Lib.hid hy7
    clear hy7
    intro K hK
    go_big_quiet_op
    go_big_quiet_on
    repeat (first | (refine wpR_det hp2 rfl ((hR.rel _).trans rfl) rfl ?_; intro K hK; go_big_quiet_op; go_big_quiet_on) | (refine wpR_ptr hp2 rfl ((hR.rel _).trans rfl) rfl rfl ?_; intro K hK; go_big_quiet_op; go_big_quiet_on) | (refine wpR_skip pick rfl ?_; intro K hK; go_big_quiet_op; go_big_quiet_on))
    refine wpR_nil ?_
    intro wE hk2 hF hM
    have HKE := Lib.hid (HK1.out.trans hk2)
    clear hF hM hk2 hp1 hp2 hR sF sN
    go_wp2_with fail
    go_ret
    exact ⟨y7, rfl, by rw [HY7.out, HWR.out]; first | rfl | simp [numsT, joinC, backendT, vipT, retireT, releaseT, evictT, admitT, udpT, tcpT, membersT], HKE.out⟩
  by_cases hk3 : s.kind = 3
  · skip
    have q0 : (s.kind == 0) = false := by rw [hk3]; rfl
    have q1 : (s.kind == 1) = false := by rw [hk3]; rfl
    have q2 : (s.kind == 2) = false := by rw [hk3]; rfl
    have q8 : (s.kind == 8) = false := by rw [hk3]; rfl
    have q9 : (s.kind == 9) = false := by rw [hk3]; rfl
    have q10 : (s.kind == 10) = false := by rw [hk3]; rfl
    have q11 : (s.kind == 11) = false := by rw [hk3]; rfl
    have q15 : (s.kind == 15) = false := by rw [hk3]; rfl
    have q12 : (s.kind == 12) = false := by rw [hk3]; rfl
    have q13 : (s.kind == 13) = false := by rw [hk3]; rfl
    have q14 : (s.kind == 14) = false := by rw [hk3]; rfl
    have HWR := Lib.hid (show writeR s = joinC 32 [[111, 102, 102, 101, 114], numT (swho : Int)] by unfold writeR stepG; rw [if_neg (by omega), show cmdK s.kind = some (3, [111, 102, 102, 101, 114], [87]) by rw [hk3]; rfl, ← HWE.out]; rfl)
    clear hk0 hk1 hk2 hk8 hk9 hk10 hk11 hk15 hk12 hk13 hk14
    have ln0 : (numsT [swho]).length ≤ 21 := numsT_len _ (by simp; omega)
    go_upto_region 25 with fail
    refine wp_region_kept 10 [(7, fun v u => ∃ g : Nat, v = .slice (some ⟨g, 0, none⟩) 1 1 ∧ Blk u g 3 #[.int .i64 (swho : Int)]), (8, fun v u => ∃ y : ByteArray, v = .string y ∧ y.data.toList = numsT [swho]), (9, fun v u => ∃ y : ByteArray, v = .string y ∧ y.data.toList = [111, 102, 102, 101, 114] ++ numsT [swho])] ?st ?ne rfl (by kernel_rfl) (by kernel_rfl) ?_
    case st =>
      intro p hp
      simp only [List.mem_cons, List.not_mem_nil, or_false] at hp
      rcases hp with rfl | rfl | rfl
      · intro v u u' h hk; obtain ⟨g, h1, h2⟩ := h; exact ⟨g, h1, h2.kept hk (fun h => h)⟩
      · intro v u u' h hk; exact h
      · intro v u u' h hk; exact h
    case ne =>
      intro p hp
      simp only [List.mem_cons, List.not_mem_nil, or_false] at hp
      rcases hp with rfl | rfl | rfl
      · exact ⟨_, _, (Kept.refl _ _).alloc (.cells #[.int .i64 (swho : Int)] 3), _, rfl, Blk.new _ _ _⟩
      · exact ⟨_, _, Kept.refl _ _, ⟨(numsT [swho]).toArray⟩, rfl, rfl⟩
      · exact ⟨_, _, Kept.refl _ _, ⟨([111, 102, 102, 101, 114] ++ numsT [swho]).toArray⟩, rfl, rfl⟩
    simp only [List.take_succ_cons, List.take_zero, List.drop_succ_cons, List.drop_zero]
    intro G pick hR hp1 hp2
    have sF : ∀ u i, (pick u).cell? ⟨w.heap.size, i, none⟩ = (#[.int .i64 s.kind, .int .i64 s.op.kind, .int .i64 s.op.vip, .int .i64 s.op.backend, .int .i64 s.op.version, .bool s.op.a.six, .int .u64 (s.op.a.hi : Int), .int .u64 (s.op.a.lo : Int), .int .u16 (s.op.port : Int), .int .u8 (s.op.proto : Int), .int .i64 s.op.way, .slice MA s.op.ms.length mc, .int .i64 (swho : Int), .int .i64 (stime : Int), .int .u8 (s.flags : Int), .slice LA s.load.length lc, .int .u32 (s.n : Int), .int .u32 (s.x : Int), .int .u32 (s.y : Int), .bool s.src.six, .int .u64 (s.src.hi : Int), .int .u64 (s.src.lo : Int), .int .u16 (s.port : Int)] : Array Value)[i]? := fun u i => ((hp1 u).cell lN1 (fun h => h) _).trans (HN1.out.cell i)
    have sN : ∀ u i, (pick u).cell? ⟨nb, i, none⟩ = (#[.string ⟨#[]⟩, .string ⟨#[99, 111, 109, 109, 105, 116]⟩, .string ⟨#[99, 114, 97, 115, 104]⟩, .string ⟨#[111, 102, 102, 101, 114]⟩, .string ⟨#[100, 101, 108, 105, 118, 101, 114]⟩, .string ⟨#[100, 114, 111, 112]⟩, .string ⟨#[116, 119, 105, 99, 101]⟩, .string ⟨#[114, 101, 115, 116, 97, 114, 116]⟩, .string ⟨#[114, 101, 112, 111, 114, 116]⟩, .string ⟨#[115, 101, 110, 100]⟩, .string ⟨#[114, 101, 112, 108, 121]⟩, .string ⟨#[116, 105, 99, 107]⟩, .string ⟨#[113, 117, 105, 99]⟩, .string ⟨#[103, 105, 118, 101]⟩, .string ⟨#[109, 111, 118, 101]⟩, .string ⟨#[115, 101, 116, 116, 108, 101]⟩] : Array Value)[i]? := fun u i => ((hp1 u).cell lS1 (fun h => h) _).trans (HS1.out.cell i)
    repeat (first | (refine wpR_det hp2 rfl ((hR.rel _).trans rfl) rfl ?_; intro K hK; go_big_quiet_op; go_big_quiet_on) | (refine wpR_ptr hp2 rfl ((hR.rel _).trans rfl) rfl rfl ?_; intro K hK; go_big_quiet_op; go_big_quiet_on) | (refine wpR_skip pick rfl ?_; intro K hK; go_big_quiet_op; go_big_quiet_on))
    refine wpR_rel pick rfl ((hR.rel _).trans rfl) ((hR.turns _).trans rfl) ?_ ?_
    · intro u hu
      have hk := hR.since hu.1
      have hks := hk.size
      unfold relAt
      go_simp
      exact ⟨hR.into0 ((Kept.refl _ _).alloc _), hR.put 0 rfl rfl ⟨_, rfl, Blk.new _ _ _⟩⟩
    intro v hv
    obtain ⟨u, _, hu⟩ := hv
    obtain ⟨g7, rfl, hb7⟩ := hR.get 0 rfl hu
    clear hu
    clear hb7
    intro K hK
    go_big_quiet_op
    go_big_quiet_on
    repeat (first | (refine wpR_det hp2 rfl ((hR.rel _).trans rfl) rfl ?_; intro K hK; go_big_quiet_op; go_big_quiet_on) | (refine wpR_ptr hp2 rfl ((hR.rel _).trans rfl) rfl rfl ?_; intro K hK; go_big_quiet_op; go_big_quiet_on) | (refine wpR_skip pick rfl ?_; intro K hK; go_big_quiet_op; go_big_quiet_on))
    refine wpR_rel pick rfl ((hR.rel _).trans rfl) ((hR.turns _).trans rfl) ?_ ?_
    · intro u hu
      have hk := hR.since hu.1
      have hks := hk.size
      obtain ⟨g', hg', hB'⟩ := (hR.get 0 rfl (hu.2 _ _ (Got.upd_self _ _ _) (by kernel_rfl)))
      injection hg' with e1 _ _
      injection e1 with e1
      injection e1 with e1
      subst e1
      have hcall := nums_cells [swho] _ u (by simp) hB' (by simp; omega)
      unfold relAt
      go_simp
      refine (hcall).mono ?_
      rintro e w' ⟨y, rfl, hy, hk'⟩
      exact ⟨_, rfl, hR.into0 hk', hR.put 1 rfl rfl ⟨y, rfl, hy⟩⟩
    intro v hv
    obtain ⟨u, _, hu⟩ := hv
    obtain ⟨y1, rfl, hy1⟩ := hR.get 1 rfl hu
    clear hu
    have HY1 := Lib.hid hy1
    clear hy1
    intro K hK
    go_big_quiet_op
    go_big_quiet_on
    repeat (first | (refine wpR_det hp2 rfl ((hR.rel _).trans rfl) rfl ?_; intro K hK; go_big_quiet_op; go_big_quiet_on) | (refine wpR_ptr hp2 rfl ((hR.rel _).trans rfl) rfl rfl ?_; intro K hK; go_big_quiet_op; go_big_quiet_on) | (refine wpR_skip pick rfl ?_; intro K hK; go_big_quiet_op; go_big_quiet_on))
    refine wpR_rel pick rfl ((hR.rel _).trans rfl) ((hR.turns _).trans rfl) ?_ ?_
    · intro u hu
      have hk := hR.since hu.1
      have hks := hk.size
      have hz : ¬ (9223372036854775807 < 5 + y1.size) := by
        rw [Lib.size_eq y1, HY1.out]
        try simp only [List.length_append, List.length_cons, List.length_nil]
        omega
      unfold relAt
      go_simp
      exact ⟨hR.same, hR.put 2 rfl rfl ⟨_, rfl, by rw [cat_data, HY1.out]; try rfl⟩⟩
    intro v hv
    obtain ⟨u, _, hu⟩ := hv
    obtain ⟨y2, rfl, hy2⟩ := hR.get 2 rfl hu
    clear hu
    have HY2 := Lib.hid hy2
    clear hy2
    intro K hK
    go_big_quiet_op
    go_big_quiet_on
    repeat (first | (refine wpR_det hp2 rfl ((hR.rel _).trans rfl) rfl ?_; intro K hK; go_big_quiet_op; go_big_quiet_on) | (refine wpR_ptr hp2 rfl ((hR.rel _).trans rfl) rfl rfl ?_; intro K hK; go_big_quiet_op; go_big_quiet_on) | (refine wpR_skip pick rfl ?_; intro K hK; go_big_quiet_op; go_big_quiet_on))
    refine wpR_nil ?_
    intro wE hk2 hF hM
    have HKE := Lib.hid (HK1.out.trans hk2)
    clear hF hM hk2 hp1 hp2 hR sF sN
    go_wp2_with fail
    go_ret
    exact ⟨y2, rfl, by rw [HY2.out, HWR.out]; first | rfl | simp [numsT, joinC, backendT, vipT, retireT, releaseT, evictT, admitT, udpT, tcpT, membersT], HKE.out⟩
  by_cases hk4 : s.kind = 4
  · skip
    have q0 : (s.kind == 0) = false := by rw [hk4]; rfl
    have q1 : (s.kind == 1) = false := by rw [hk4]; rfl
    have q2 : (s.kind == 2) = false := by rw [hk4]; rfl
    have q8 : (s.kind == 8) = false := by rw [hk4]; rfl
    have q9 : (s.kind == 9) = false := by rw [hk4]; rfl
    have q10 : (s.kind == 10) = false := by rw [hk4]; rfl
    have q11 : (s.kind == 11) = false := by rw [hk4]; rfl
    have q15 : (s.kind == 15) = false := by rw [hk4]; rfl
    have q12 : (s.kind == 12) = false := by rw [hk4]; rfl
    have q13 : (s.kind == 13) = false := by rw [hk4]; rfl
    have q14 : (s.kind == 14) = false := by rw [hk4]; rfl
    have HWR := Lib.hid (show writeR s = joinC 32 [[100, 101, 108, 105, 118, 101, 114], numT (swho : Int)] by unfold writeR stepG; rw [if_neg (by omega), show cmdK s.kind = some (4, [100, 101, 108, 105, 118, 101, 114], [87]) by rw [hk4]; rfl, ← HWE.out]; rfl)
    clear hk0 hk1 hk2 hk8 hk9 hk10 hk11 hk15 hk12 hk13 hk14 hk3
    have ln0 : (numsT [swho]).length ≤ 21 := numsT_len _ (by simp; omega)
    go_upto_region 25 with fail
    refine wp_region_kept 10 [(7, fun v u => ∃ g : Nat, v = .slice (some ⟨g, 0, none⟩) 1 1 ∧ Blk u g 3 #[.int .i64 (swho : Int)]), (8, fun v u => ∃ y : ByteArray, v = .string y ∧ y.data.toList = numsT [swho]), (9, fun v u => ∃ y : ByteArray, v = .string y ∧ y.data.toList = [100, 101, 108, 105, 118, 101, 114] ++ numsT [swho])] ?st ?ne rfl (by kernel_rfl) (by kernel_rfl) ?_
    case st =>
      intro p hp
      simp only [List.mem_cons, List.not_mem_nil, or_false] at hp
      rcases hp with rfl | rfl | rfl
      · intro v u u' h hk; obtain ⟨g, h1, h2⟩ := h; exact ⟨g, h1, h2.kept hk (fun h => h)⟩
      · intro v u u' h hk; exact h
      · intro v u u' h hk; exact h
    case ne =>
      intro p hp
      simp only [List.mem_cons, List.not_mem_nil, or_false] at hp
      rcases hp with rfl | rfl | rfl
      · exact ⟨_, _, (Kept.refl _ _).alloc (.cells #[.int .i64 (swho : Int)] 3), _, rfl, Blk.new _ _ _⟩
      · exact ⟨_, _, Kept.refl _ _, ⟨(numsT [swho]).toArray⟩, rfl, rfl⟩
      · exact ⟨_, _, Kept.refl _ _, ⟨([100, 101, 108, 105, 118, 101, 114] ++ numsT [swho]).toArray⟩, rfl, rfl⟩
    simp only [List.take_succ_cons, List.take_zero, List.drop_succ_cons, List.drop_zero]
    intro G pick hR hp1 hp2
    have sF : ∀ u i, (pick u).cell? ⟨w.heap.size, i, none⟩ = (#[.int .i64 s.kind, .int .i64 s.op.kind, .int .i64 s.op.vip, .int .i64 s.op.backend, .int .i64 s.op.version, .bool s.op.a.six, .int .u64 (s.op.a.hi : Int), .int .u64 (s.op.a.lo : Int), .int .u16 (s.op.port : Int), .int .u8 (s.op.proto : Int), .int .i64 s.op.way, .slice MA s.op.ms.length mc, .int .i64 (swho : Int), .int .i64 (stime : Int), .int .u8 (s.flags : Int), .slice LA s.load.length lc, .int .u32 (s.n : Int), .int .u32 (s.x : Int), .int .u32 (s.y : Int), .bool s.src.six, .int .u64 (s.src.hi : Int), .int .u64 (s.src.lo : Int), .int .u16 (s.port : Int)] : Array Value)[i]? := fun u i => ((hp1 u).cell lN1 (fun h => h) _).trans (HN1.out.cell i)
    have sN : ∀ u i, (pick u).cell? ⟨nb, i, none⟩ = (#[.string ⟨#[]⟩, .string ⟨#[99, 111, 109, 109, 105, 116]⟩, .string ⟨#[99, 114, 97, 115, 104]⟩, .string ⟨#[111, 102, 102, 101, 114]⟩, .string ⟨#[100, 101, 108, 105, 118, 101, 114]⟩, .string ⟨#[100, 114, 111, 112]⟩, .string ⟨#[116, 119, 105, 99, 101]⟩, .string ⟨#[114, 101, 115, 116, 97, 114, 116]⟩, .string ⟨#[114, 101, 112, 111, 114, 116]⟩, .string ⟨#[115, 101, 110, 100]⟩, .string ⟨#[114, 101, 112, 108, 121]⟩, .string ⟨#[116, 105, 99, 107]⟩, .string ⟨#[113, 117, 105, 99]⟩, .string ⟨#[103, 105, 118, 101]⟩, .string ⟨#[109, 111, 118, 101]⟩, .string ⟨#[115, 101, 116, 116, 108, 101]⟩] : Array Value)[i]? := fun u i => ((hp1 u).cell lS1 (fun h => h) _).trans (HS1.out.cell i)
    repeat (first | (refine wpR_det hp2 rfl ((hR.rel _).trans rfl) rfl ?_; intro K hK; go_big_quiet_op; go_big_quiet_on) | (refine wpR_ptr hp2 rfl ((hR.rel _).trans rfl) rfl rfl ?_; intro K hK; go_big_quiet_op; go_big_quiet_on) | (refine wpR_skip pick rfl ?_; intro K hK; go_big_quiet_op; go_big_quiet_on))
    refine wpR_rel pick rfl ((hR.rel _).trans rfl) ((hR.turns _).trans rfl) ?_ ?_
    · intro u hu
      have hk := hR.since hu.1
      have hks := hk.size
      unfold relAt
      go_simp
      exact ⟨hR.into0 ((Kept.refl _ _).alloc _), hR.put 0 rfl rfl ⟨_, rfl, Blk.new _ _ _⟩⟩
    intro v hv
    obtain ⟨u, _, hu⟩ := hv
    obtain ⟨g7, rfl, hb7⟩ := hR.get 0 rfl hu
    clear hu
    clear hb7
    intro K hK
    go_big_quiet_op
    go_big_quiet_on
    repeat (first | (refine wpR_det hp2 rfl ((hR.rel _).trans rfl) rfl ?_; intro K hK; go_big_quiet_op; go_big_quiet_on) | (refine wpR_ptr hp2 rfl ((hR.rel _).trans rfl) rfl rfl ?_; intro K hK; go_big_quiet_op; go_big_quiet_on) | (refine wpR_skip pick rfl ?_; intro K hK; go_big_quiet_op; go_big_quiet_on))
    refine wpR_rel pick rfl ((hR.rel _).trans rfl) ((hR.turns _).trans rfl) ?_ ?_
    · intro u hu
      have hk := hR.since hu.1
      have hks := hk.size
      obtain ⟨g', hg', hB'⟩ := (hR.get 0 rfl (hu.2 _ _ (Got.upd_self _ _ _) (by kernel_rfl)))
      injection hg' with e1 _ _
      injection e1 with e1
      injection e1 with e1
      subst e1
      have hcall := nums_cells [swho] _ u (by simp) hB' (by simp; omega)
      unfold relAt
      go_simp
      refine (hcall).mono ?_
      rintro e w' ⟨y, rfl, hy, hk'⟩
      exact ⟨_, rfl, hR.into0 hk', hR.put 1 rfl rfl ⟨y, rfl, hy⟩⟩
    intro v hv
    obtain ⟨u, _, hu⟩ := hv
    obtain ⟨y1, rfl, hy1⟩ := hR.get 1 rfl hu
    clear hu
    have HY1 := Lib.hid hy1
    clear hy1
    intro K hK
    go_big_quiet_op
    go_big_quiet_on
    repeat (first | (refine wpR_det hp2 rfl ((hR.rel _).trans rfl) rfl ?_; intro K hK; go_big_quiet_op; go_big_quiet_on) | (refine wpR_ptr hp2 rfl ((hR.rel _).trans rfl) rfl rfl ?_; intro K hK; go_big_quiet_op; go_big_quiet_on) | (refine wpR_skip pick rfl ?_; intro K hK; go_big_quiet_op; go_big_quiet_on))
    refine wpR_rel pick rfl ((hR.rel _).trans rfl) ((hR.turns _).trans rfl) ?_ ?_
    · intro u hu
      have hk := hR.since hu.1
      have hks := hk.size
      have hz : ¬ (9223372036854775807 < 7 + y1.size) := by
        rw [Lib.size_eq y1, HY1.out]
        try simp only [List.length_append, List.length_cons, List.length_nil]
        omega
      unfold relAt
      go_simp
      exact ⟨hR.same, hR.put 2 rfl rfl ⟨_, rfl, by rw [cat_data, HY1.out]; try rfl⟩⟩
    intro v hv
    obtain ⟨u, _, hu⟩ := hv
    obtain ⟨y2, rfl, hy2⟩ := hR.get 2 rfl hu
    clear hu
    have HY2 := Lib.hid hy2
    clear hy2
    intro K hK
    go_big_quiet_op
    go_big_quiet_on
    repeat (first | (refine wpR_det hp2 rfl ((hR.rel _).trans rfl) rfl ?_; intro K hK; go_big_quiet_op; go_big_quiet_on) | (refine wpR_ptr hp2 rfl ((hR.rel _).trans rfl) rfl rfl ?_; intro K hK; go_big_quiet_op; go_big_quiet_on) | (refine wpR_skip pick rfl ?_; intro K hK; go_big_quiet_op; go_big_quiet_on))
    refine wpR_nil ?_
    intro wE hk2 hF hM
    have HKE := Lib.hid (HK1.out.trans hk2)
    clear hF hM hk2 hp1 hp2 hR sF sN
    go_wp2_with fail
    go_ret
    exact ⟨y2, rfl, by rw [HY2.out, HWR.out]; first | rfl | simp [numsT, joinC, backendT, vipT, retireT, releaseT, evictT, admitT, udpT, tcpT, membersT], HKE.out⟩
  by_cases hk5 : s.kind = 5
  · skip
    have q0 : (s.kind == 0) = false := by rw [hk5]; rfl
    have q1 : (s.kind == 1) = false := by rw [hk5]; rfl
    have q2 : (s.kind == 2) = false := by rw [hk5]; rfl
    have q8 : (s.kind == 8) = false := by rw [hk5]; rfl
    have q9 : (s.kind == 9) = false := by rw [hk5]; rfl
    have q10 : (s.kind == 10) = false := by rw [hk5]; rfl
    have q11 : (s.kind == 11) = false := by rw [hk5]; rfl
    have q15 : (s.kind == 15) = false := by rw [hk5]; rfl
    have q12 : (s.kind == 12) = false := by rw [hk5]; rfl
    have q13 : (s.kind == 13) = false := by rw [hk5]; rfl
    have q14 : (s.kind == 14) = false := by rw [hk5]; rfl
    have HWR := Lib.hid (show writeR s = joinC 32 [[100, 114, 111, 112], numT (swho : Int)] by unfold writeR stepG; rw [if_neg (by omega), show cmdK s.kind = some (5, [100, 114, 111, 112], [87]) by rw [hk5]; rfl, ← HWE.out]; rfl)
    clear hk0 hk1 hk2 hk8 hk9 hk10 hk11 hk15 hk12 hk13 hk14 hk3 hk4
    have ln0 : (numsT [swho]).length ≤ 21 := numsT_len _ (by simp; omega)
    go_upto_region 25 with fail
    refine wp_region_kept 10 [(7, fun v u => ∃ g : Nat, v = .slice (some ⟨g, 0, none⟩) 1 1 ∧ Blk u g 3 #[.int .i64 (swho : Int)]), (8, fun v u => ∃ y : ByteArray, v = .string y ∧ y.data.toList = numsT [swho]), (9, fun v u => ∃ y : ByteArray, v = .string y ∧ y.data.toList = [100, 114, 111, 112] ++ numsT [swho])] ?st ?ne rfl (by kernel_rfl) (by kernel_rfl) ?_
    case st =>
      intro p hp
      simp only [List.mem_cons, List.not_mem_nil, or_false] at hp
      rcases hp with rfl | rfl | rfl
      · intro v u u' h hk; obtain ⟨g, h1, h2⟩ := h; exact ⟨g, h1, h2.kept hk (fun h => h)⟩
      · intro v u u' h hk; exact h
      · intro v u u' h hk; exact h
    case ne =>
      intro p hp
      simp only [List.mem_cons, List.not_mem_nil, or_false] at hp
      rcases hp with rfl | rfl | rfl
      · exact ⟨_, _, (Kept.refl _ _).alloc (.cells #[.int .i64 (swho : Int)] 3), _, rfl, Blk.new _ _ _⟩
      · exact ⟨_, _, Kept.refl _ _, ⟨(numsT [swho]).toArray⟩, rfl, rfl⟩
      · exact ⟨_, _, Kept.refl _ _, ⟨([100, 114, 111, 112] ++ numsT [swho]).toArray⟩, rfl, rfl⟩
    simp only [List.take_succ_cons, List.take_zero, List.drop_succ_cons, List.drop_zero]
    intro G pick hR hp1 hp2
    have sF : ∀ u i, (pick u).cell? ⟨w.heap.size, i, none⟩ = (#[.int .i64 s.kind, .int .i64 s.op.kind, .int .i64 s.op.vip, .int .i64 s.op.backend, .int .i64 s.op.version, .bool s.op.a.six, .int .u64 (s.op.a.hi : Int), .int .u64 (s.op.a.lo : Int), .int .u16 (s.op.port : Int), .int .u8 (s.op.proto : Int), .int .i64 s.op.way, .slice MA s.op.ms.length mc, .int .i64 (swho : Int), .int .i64 (stime : Int), .int .u8 (s.flags : Int), .slice LA s.load.length lc, .int .u32 (s.n : Int), .int .u32 (s.x : Int), .int .u32 (s.y : Int), .bool s.src.six, .int .u64 (s.src.hi : Int), .int .u64 (s.src.lo : Int), .int .u16 (s.port : Int)] : Array Value)[i]? := fun u i => ((hp1 u).cell lN1 (fun h => h) _).trans (HN1.out.cell i)
    have sN : ∀ u i, (pick u).cell? ⟨nb, i, none⟩ = (#[.string ⟨#[]⟩, .string ⟨#[99, 111, 109, 109, 105, 116]⟩, .string ⟨#[99, 114, 97, 115, 104]⟩, .string ⟨#[111, 102, 102, 101, 114]⟩, .string ⟨#[100, 101, 108, 105, 118, 101, 114]⟩, .string ⟨#[100, 114, 111, 112]⟩, .string ⟨#[116, 119, 105, 99, 101]⟩, .string ⟨#[114, 101, 115, 116, 97, 114, 116]⟩, .string ⟨#[114, 101, 112, 111, 114, 116]⟩, .string ⟨#[115, 101, 110, 100]⟩, .string ⟨#[114, 101, 112, 108, 121]⟩, .string ⟨#[116, 105, 99, 107]⟩, .string ⟨#[113, 117, 105, 99]⟩, .string ⟨#[103, 105, 118, 101]⟩, .string ⟨#[109, 111, 118, 101]⟩, .string ⟨#[115, 101, 116, 116, 108, 101]⟩] : Array Value)[i]? := fun u i => ((hp1 u).cell lS1 (fun h => h) _).trans (HS1.out.cell i)
    repeat (first | (refine wpR_det hp2 rfl ((hR.rel _).trans rfl) rfl ?_; intro K hK; go_big_quiet_op; go_big_quiet_on) | (refine wpR_ptr hp2 rfl ((hR.rel _).trans rfl) rfl rfl ?_; intro K hK; go_big_quiet_op; go_big_quiet_on) | (refine wpR_skip pick rfl ?_; intro K hK; go_big_quiet_op; go_big_quiet_on))
    refine wpR_rel pick rfl ((hR.rel _).trans rfl) ((hR.turns _).trans rfl) ?_ ?_
    · intro u hu
      have hk := hR.since hu.1
      have hks := hk.size
      unfold relAt
      go_simp
      exact ⟨hR.into0 ((Kept.refl _ _).alloc _), hR.put 0 rfl rfl ⟨_, rfl, Blk.new _ _ _⟩⟩
    intro v hv
    obtain ⟨u, _, hu⟩ := hv
    obtain ⟨g7, rfl, hb7⟩ := hR.get 0 rfl hu
    clear hu
    clear hb7
    intro K hK
    go_big_quiet_op
    go_big_quiet_on
    repeat (first | (refine wpR_det hp2 rfl ((hR.rel _).trans rfl) rfl ?_; intro K hK; go_big_quiet_op; go_big_quiet_on) | (refine wpR_ptr hp2 rfl ((hR.rel _).trans rfl) rfl rfl ?_; intro K hK; go_big_quiet_op; go_big_quiet_on) | (refine wpR_skip pick rfl ?_; intro K hK; go_big_quiet_op; go_big_quiet_on))
    refine wpR_rel pick rfl ((hR.rel _).trans rfl) ((hR.turns _).trans rfl) ?_ ?_
    · intro u hu
      have hk := hR.since hu.1
      have hks := hk.size
      obtain ⟨g', hg', hB'⟩ := (hR.get 0 rfl (hu.2 _ _ (Got.upd_self _ _ _) (by kernel_rfl)))
      injection hg' with e1 _ _
      injection e1 with e1
      injection e1 with e1
      subst e1
      have hcall := nums_cells [swho] _ u (by simp) hB' (by simp; omega)
      unfold relAt
      go_simp
      refine (hcall).mono ?_
      rintro e w' ⟨y, rfl, hy, hk'⟩
      exact ⟨_, rfl, hR.into0 hk', hR.put 1 rfl rfl ⟨y, rfl, hy⟩⟩
    intro v hv
    obtain ⟨u, _, hu⟩ := hv
    obtain ⟨y1, rfl, hy1⟩ := hR.get 1 rfl hu
    clear hu
    have HY1 := Lib.hid hy1
    clear hy1
    intro K hK
    go_big_quiet_op
    go_big_quiet_on
    repeat (first | (refine wpR_det hp2 rfl ((hR.rel _).trans rfl) rfl ?_; intro K hK; go_big_quiet_op; go_big_quiet_on) | (refine wpR_ptr hp2 rfl ((hR.rel _).trans rfl) rfl rfl ?_; intro K hK; go_big_quiet_op; go_big_quiet_on) | (refine wpR_skip pick rfl ?_; intro K hK; go_big_quiet_op; go_big_quiet_on))
    refine wpR_rel pick rfl ((hR.rel _).trans rfl) ((hR.turns _).trans rfl) ?_ ?_
    · intro u hu
      have hk := hR.since hu.1
      have hks := hk.size
      have hz : ¬ (9223372036854775807 < 4 + y1.size) := by
        rw [Lib.size_eq y1, HY1.out]
        try simp only [List.length_append, List.length_cons, List.length_nil]
        omega
      unfold relAt
      go_simp
      exact ⟨hR.same, hR.put 2 rfl rfl ⟨_, rfl, by rw [cat_data, HY1.out]; try rfl⟩⟩
    intro v hv
    obtain ⟨u, _, hu⟩ := hv
    obtain ⟨y2, rfl, hy2⟩ := hR.get 2 rfl hu
    clear hu
    have HY2 := Lib.hid hy2
    clear hy2
    intro K hK
    go_big_quiet_op
    go_big_quiet_on
    repeat (first | (refine wpR_det hp2 rfl ((hR.rel _).trans rfl) rfl ?_; intro K hK; go_big_quiet_op; go_big_quiet_on) | (refine wpR_ptr hp2 rfl ((hR.rel _).trans rfl) rfl rfl ?_; intro K hK; go_big_quiet_op; go_big_quiet_on) | (refine wpR_skip pick rfl ?_; intro K hK; go_big_quiet_op; go_big_quiet_on))
    refine wpR_nil ?_
    intro wE hk2 hF hM
    have HKE := Lib.hid (HK1.out.trans hk2)
    clear hF hM hk2 hp1 hp2 hR sF sN
    go_wp2_with fail
    go_ret
    exact ⟨y2, rfl, by rw [HY2.out, HWR.out]; first | rfl | simp [numsT, joinC, backendT, vipT, retireT, releaseT, evictT, admitT, udpT, tcpT, membersT], HKE.out⟩
  by_cases hk6 : s.kind = 6
  · skip
    have q0 : (s.kind == 0) = false := by rw [hk6]; rfl
    have q1 : (s.kind == 1) = false := by rw [hk6]; rfl
    have q2 : (s.kind == 2) = false := by rw [hk6]; rfl
    have q8 : (s.kind == 8) = false := by rw [hk6]; rfl
    have q9 : (s.kind == 9) = false := by rw [hk6]; rfl
    have q10 : (s.kind == 10) = false := by rw [hk6]; rfl
    have q11 : (s.kind == 11) = false := by rw [hk6]; rfl
    have q15 : (s.kind == 15) = false := by rw [hk6]; rfl
    have q12 : (s.kind == 12) = false := by rw [hk6]; rfl
    have q13 : (s.kind == 13) = false := by rw [hk6]; rfl
    have q14 : (s.kind == 14) = false := by rw [hk6]; rfl
    have HWR := Lib.hid (show writeR s = joinC 32 [[116, 119, 105, 99, 101], numT (swho : Int)] by unfold writeR stepG; rw [if_neg (by omega), show cmdK s.kind = some (6, [116, 119, 105, 99, 101], [87]) by rw [hk6]; rfl, ← HWE.out]; rfl)
    clear hk0 hk1 hk2 hk8 hk9 hk10 hk11 hk15 hk12 hk13 hk14 hk3 hk4 hk5
    have ln0 : (numsT [swho]).length ≤ 21 := numsT_len _ (by simp; omega)
    go_upto_region 25 with fail
    refine wp_region_kept 10 [(7, fun v u => ∃ g : Nat, v = .slice (some ⟨g, 0, none⟩) 1 1 ∧ Blk u g 3 #[.int .i64 (swho : Int)]), (8, fun v u => ∃ y : ByteArray, v = .string y ∧ y.data.toList = numsT [swho]), (9, fun v u => ∃ y : ByteArray, v = .string y ∧ y.data.toList = [116, 119, 105, 99, 101] ++ numsT [swho])] ?st ?ne rfl (by kernel_rfl) (by kernel_rfl) ?_
    case st =>
      intro p hp
      simp only [List.mem_cons, List.not_mem_nil, or_false] at hp
      rcases hp with rfl | rfl | rfl
      · intro v u u' h hk; obtain ⟨g, h1, h2⟩ := h; exact ⟨g, h1, h2.kept hk (fun h => h)⟩
      · intro v u u' h hk; exact h
      · intro v u u' h hk; exact h
    case ne =>
      intro p hp
      simp only [List.mem_cons, List.not_mem_nil, or_false] at hp
      rcases hp with rfl | rfl | rfl
      · exact ⟨_, _, (Kept.refl _ _).alloc (.cells #[.int .i64 (swho : Int)] 3), _, rfl, Blk.new _ _ _⟩
      · exact ⟨_, _, Kept.refl _ _, ⟨(numsT [swho]).toArray⟩, rfl, rfl⟩
      · exact ⟨_, _, Kept.refl _ _, ⟨([116, 119, 105, 99, 101] ++ numsT [swho]).toArray⟩, rfl, rfl⟩
    simp only [List.take_succ_cons, List.take_zero, List.drop_succ_cons, List.drop_zero]
    intro G pick hR hp1 hp2
    have sF : ∀ u i, (pick u).cell? ⟨w.heap.size, i, none⟩ = (#[.int .i64 s.kind, .int .i64 s.op.kind, .int .i64 s.op.vip, .int .i64 s.op.backend, .int .i64 s.op.version, .bool s.op.a.six, .int .u64 (s.op.a.hi : Int), .int .u64 (s.op.a.lo : Int), .int .u16 (s.op.port : Int), .int .u8 (s.op.proto : Int), .int .i64 s.op.way, .slice MA s.op.ms.length mc, .int .i64 (swho : Int), .int .i64 (stime : Int), .int .u8 (s.flags : Int), .slice LA s.load.length lc, .int .u32 (s.n : Int), .int .u32 (s.x : Int), .int .u32 (s.y : Int), .bool s.src.six, .int .u64 (s.src.hi : Int), .int .u64 (s.src.lo : Int), .int .u16 (s.port : Int)] : Array Value)[i]? := fun u i => ((hp1 u).cell lN1 (fun h => h) _).trans (HN1.out.cell i)
    have sN : ∀ u i, (pick u).cell? ⟨nb, i, none⟩ = (#[.string ⟨#[]⟩, .string ⟨#[99, 111, 109, 109, 105, 116]⟩, .string ⟨#[99, 114, 97, 115, 104]⟩, .string ⟨#[111, 102, 102, 101, 114]⟩, .string ⟨#[100, 101, 108, 105, 118, 101, 114]⟩, .string ⟨#[100, 114, 111, 112]⟩, .string ⟨#[116, 119, 105, 99, 101]⟩, .string ⟨#[114, 101, 115, 116, 97, 114, 116]⟩, .string ⟨#[114, 101, 112, 111, 114, 116]⟩, .string ⟨#[115, 101, 110, 100]⟩, .string ⟨#[114, 101, 112, 108, 121]⟩, .string ⟨#[116, 105, 99, 107]⟩, .string ⟨#[113, 117, 105, 99]⟩, .string ⟨#[103, 105, 118, 101]⟩, .string ⟨#[109, 111, 118, 101]⟩, .string ⟨#[115, 101, 116, 116, 108, 101]⟩] : Array Value)[i]? := fun u i => ((hp1 u).cell lS1 (fun h => h) _).trans (HS1.out.cell i)
    repeat (first | (refine wpR_det hp2 rfl ((hR.rel _).trans rfl) rfl ?_; intro K hK; go_big_quiet_op; go_big_quiet_on) | (refine wpR_ptr hp2 rfl ((hR.rel _).trans rfl) rfl rfl ?_; intro K hK; go_big_quiet_op; go_big_quiet_on) | (refine wpR_skip pick rfl ?_; intro K hK; go_big_quiet_op; go_big_quiet_on))
    refine wpR_rel pick rfl ((hR.rel _).trans rfl) ((hR.turns _).trans rfl) ?_ ?_
    · intro u hu
      have hk := hR.since hu.1
      have hks := hk.size
      unfold relAt
      go_simp
      exact ⟨hR.into0 ((Kept.refl _ _).alloc _), hR.put 0 rfl rfl ⟨_, rfl, Blk.new _ _ _⟩⟩
    intro v hv
    obtain ⟨u, _, hu⟩ := hv
    obtain ⟨g7, rfl, hb7⟩ := hR.get 0 rfl hu
    clear hu
    clear hb7
    intro K hK
    go_big_quiet_op
    go_big_quiet_on
    repeat (first | (refine wpR_det hp2 rfl ((hR.rel _).trans rfl) rfl ?_; intro K hK; go_big_quiet_op; go_big_quiet_on) | (refine wpR_ptr hp2 rfl ((hR.rel _).trans rfl) rfl rfl ?_; intro K hK; go_big_quiet_op; go_big_quiet_on) | (refine wpR_skip pick rfl ?_; intro K hK; go_big_quiet_op; go_big_quiet_on))
    refine wpR_rel pick rfl ((hR.rel _).trans rfl) ((hR.turns _).trans rfl) ?_ ?_
    · intro u hu
      have hk := hR.since hu.1
      have hks := hk.size
      obtain ⟨g', hg', hB'⟩ := (hR.get 0 rfl (hu.2 _ _ (Got.upd_self _ _ _) (by kernel_rfl)))
      injection hg' with e1 _ _
      injection e1 with e1
      injection e1 with e1
      subst e1
      have hcall := nums_cells [swho] _ u (by simp) hB' (by simp; omega)
      unfold relAt
      go_simp
      refine (hcall).mono ?_
      rintro e w' ⟨y, rfl, hy, hk'⟩
      exact ⟨_, rfl, hR.into0 hk', hR.put 1 rfl rfl ⟨y, rfl, hy⟩⟩
    intro v hv
    obtain ⟨u, _, hu⟩ := hv
    obtain ⟨y1, rfl, hy1⟩ := hR.get 1 rfl hu
    clear hu
    have HY1 := Lib.hid hy1
    clear hy1
    intro K hK
    go_big_quiet_op
    go_big_quiet_on
    repeat (first | (refine wpR_det hp2 rfl ((hR.rel _).trans rfl) rfl ?_; intro K hK; go_big_quiet_op; go_big_quiet_on) | (refine wpR_ptr hp2 rfl ((hR.rel _).trans rfl) rfl rfl ?_; intro K hK; go_big_quiet_op; go_big_quiet_on) | (refine wpR_skip pick rfl ?_; intro K hK; go_big_quiet_op; go_big_quiet_on))
    refine wpR_rel pick rfl ((hR.rel _).trans rfl) ((hR.turns _).trans rfl) ?_ ?_
    · intro u hu
      have hk := hR.since hu.1
      have hks := hk.size
      have hz : ¬ (9223372036854775807 < 5 + y1.size) := by
        rw [Lib.size_eq y1, HY1.out]
        try simp only [List.length_append, List.length_cons, List.length_nil]
        omega
      unfold relAt
      go_simp
      exact ⟨hR.same, hR.put 2 rfl rfl ⟨_, rfl, by rw [cat_data, HY1.out]; try rfl⟩⟩
    intro v hv
    obtain ⟨u, _, hu⟩ := hv
    obtain ⟨y2, rfl, hy2⟩ := hR.get 2 rfl hu
    clear hu
    have HY2 := Lib.hid hy2
    clear hy2
    intro K hK
    go_big_quiet_op
    go_big_quiet_on
    repeat (first | (refine wpR_det hp2 rfl ((hR.rel _).trans rfl) rfl ?_; intro K hK; go_big_quiet_op; go_big_quiet_on) | (refine wpR_ptr hp2 rfl ((hR.rel _).trans rfl) rfl rfl ?_; intro K hK; go_big_quiet_op; go_big_quiet_on) | (refine wpR_skip pick rfl ?_; intro K hK; go_big_quiet_op; go_big_quiet_on))
    refine wpR_nil ?_
    intro wE hk2 hF hM
    have HKE := Lib.hid (HK1.out.trans hk2)
    clear hF hM hk2 hp1 hp2 hR sF sN
    go_wp2_with fail
    go_ret
    exact ⟨y2, rfl, by rw [HY2.out, HWR.out]; first | rfl | simp [numsT, joinC, backendT, vipT, retireT, releaseT, evictT, admitT, udpT, tcpT, membersT], HKE.out⟩
  by_cases hk7 : s.kind = 7
  · skip
    have q0 : (s.kind == 0) = false := by rw [hk7]; rfl
    have q1 : (s.kind == 1) = false := by rw [hk7]; rfl
    have q2 : (s.kind == 2) = false := by rw [hk7]; rfl
    have q8 : (s.kind == 8) = false := by rw [hk7]; rfl
    have q9 : (s.kind == 9) = false := by rw [hk7]; rfl
    have q10 : (s.kind == 10) = false := by rw [hk7]; rfl
    have q11 : (s.kind == 11) = false := by rw [hk7]; rfl
    have q15 : (s.kind == 15) = false := by rw [hk7]; rfl
    have q12 : (s.kind == 12) = false := by rw [hk7]; rfl
    have q13 : (s.kind == 13) = false := by rw [hk7]; rfl
    have q14 : (s.kind == 14) = false := by rw [hk7]; rfl
    have HWR := Lib.hid (show writeR s = joinC 32 [[114, 101, 115, 116, 97, 114, 116], numT (swho : Int)] by unfold writeR stepG; rw [if_neg (by omega), show cmdK s.kind = some (7, [114, 101, 115, 116, 97, 114, 116], [87]) by rw [hk7]; rfl, ← HWE.out]; rfl)
    clear hk0 hk1 hk2 hk8 hk9 hk10 hk11 hk15 hk12 hk13 hk14 hk3 hk4 hk5 hk6
    have ln0 : (numsT [swho]).length ≤ 21 := numsT_len _ (by simp; omega)
    go_upto_region 25 with fail
    refine wp_region_kept 10 [(7, fun v u => ∃ g : Nat, v = .slice (some ⟨g, 0, none⟩) 1 1 ∧ Blk u g 3 #[.int .i64 (swho : Int)]), (8, fun v u => ∃ y : ByteArray, v = .string y ∧ y.data.toList = numsT [swho]), (9, fun v u => ∃ y : ByteArray, v = .string y ∧ y.data.toList = [114, 101, 115, 116, 97, 114, 116] ++ numsT [swho])] ?st ?ne rfl (by kernel_rfl) (by kernel_rfl) ?_
    case st =>
      intro p hp
      simp only [List.mem_cons, List.not_mem_nil, or_false] at hp
      rcases hp with rfl | rfl | rfl
      · intro v u u' h hk; obtain ⟨g, h1, h2⟩ := h; exact ⟨g, h1, h2.kept hk (fun h => h)⟩
      · intro v u u' h hk; exact h
      · intro v u u' h hk; exact h
    case ne =>
      intro p hp
      simp only [List.mem_cons, List.not_mem_nil, or_false] at hp
      rcases hp with rfl | rfl | rfl
      · exact ⟨_, _, (Kept.refl _ _).alloc (.cells #[.int .i64 (swho : Int)] 3), _, rfl, Blk.new _ _ _⟩
      · exact ⟨_, _, Kept.refl _ _, ⟨(numsT [swho]).toArray⟩, rfl, rfl⟩
      · exact ⟨_, _, Kept.refl _ _, ⟨([114, 101, 115, 116, 97, 114, 116] ++ numsT [swho]).toArray⟩, rfl, rfl⟩
    simp only [List.take_succ_cons, List.take_zero, List.drop_succ_cons, List.drop_zero]
    intro G pick hR hp1 hp2
    have sF : ∀ u i, (pick u).cell? ⟨w.heap.size, i, none⟩ = (#[.int .i64 s.kind, .int .i64 s.op.kind, .int .i64 s.op.vip, .int .i64 s.op.backend, .int .i64 s.op.version, .bool s.op.a.six, .int .u64 (s.op.a.hi : Int), .int .u64 (s.op.a.lo : Int), .int .u16 (s.op.port : Int), .int .u8 (s.op.proto : Int), .int .i64 s.op.way, .slice MA s.op.ms.length mc, .int .i64 (swho : Int), .int .i64 (stime : Int), .int .u8 (s.flags : Int), .slice LA s.load.length lc, .int .u32 (s.n : Int), .int .u32 (s.x : Int), .int .u32 (s.y : Int), .bool s.src.six, .int .u64 (s.src.hi : Int), .int .u64 (s.src.lo : Int), .int .u16 (s.port : Int)] : Array Value)[i]? := fun u i => ((hp1 u).cell lN1 (fun h => h) _).trans (HN1.out.cell i)
    have sN : ∀ u i, (pick u).cell? ⟨nb, i, none⟩ = (#[.string ⟨#[]⟩, .string ⟨#[99, 111, 109, 109, 105, 116]⟩, .string ⟨#[99, 114, 97, 115, 104]⟩, .string ⟨#[111, 102, 102, 101, 114]⟩, .string ⟨#[100, 101, 108, 105, 118, 101, 114]⟩, .string ⟨#[100, 114, 111, 112]⟩, .string ⟨#[116, 119, 105, 99, 101]⟩, .string ⟨#[114, 101, 115, 116, 97, 114, 116]⟩, .string ⟨#[114, 101, 112, 111, 114, 116]⟩, .string ⟨#[115, 101, 110, 100]⟩, .string ⟨#[114, 101, 112, 108, 121]⟩, .string ⟨#[116, 105, 99, 107]⟩, .string ⟨#[113, 117, 105, 99]⟩, .string ⟨#[103, 105, 118, 101]⟩, .string ⟨#[109, 111, 118, 101]⟩, .string ⟨#[115, 101, 116, 116, 108, 101]⟩] : Array Value)[i]? := fun u i => ((hp1 u).cell lS1 (fun h => h) _).trans (HS1.out.cell i)
    repeat (first | (refine wpR_det hp2 rfl ((hR.rel _).trans rfl) rfl ?_; intro K hK; go_big_quiet_op; go_big_quiet_on) | (refine wpR_ptr hp2 rfl ((hR.rel _).trans rfl) rfl rfl ?_; intro K hK; go_big_quiet_op; go_big_quiet_on) | (refine wpR_skip pick rfl ?_; intro K hK; go_big_quiet_op; go_big_quiet_on))
    refine wpR_rel pick rfl ((hR.rel _).trans rfl) ((hR.turns _).trans rfl) ?_ ?_
    · intro u hu
      have hk := hR.since hu.1
      have hks := hk.size
      unfold relAt
      go_simp
      exact ⟨hR.into0 ((Kept.refl _ _).alloc _), hR.put 0 rfl rfl ⟨_, rfl, Blk.new _ _ _⟩⟩
    intro v hv
    obtain ⟨u, _, hu⟩ := hv
    obtain ⟨g7, rfl, hb7⟩ := hR.get 0 rfl hu
    clear hu
    clear hb7
    intro K hK
    go_big_quiet_op
    go_big_quiet_on
    repeat (first | (refine wpR_det hp2 rfl ((hR.rel _).trans rfl) rfl ?_; intro K hK; go_big_quiet_op; go_big_quiet_on) | (refine wpR_ptr hp2 rfl ((hR.rel _).trans rfl) rfl rfl ?_; intro K hK; go_big_quiet_op; go_big_quiet_on) | (refine wpR_skip pick rfl ?_; intro K hK; go_big_quiet_op; go_big_quiet_on))
    refine wpR_rel pick rfl ((hR.rel _).trans rfl) ((hR.turns _).trans rfl) ?_ ?_
    · intro u hu
      have hk := hR.since hu.1
      have hks := hk.size
      obtain ⟨g', hg', hB'⟩ := (hR.get 0 rfl (hu.2 _ _ (Got.upd_self _ _ _) (by kernel_rfl)))
      injection hg' with e1 _ _
      injection e1 with e1
      injection e1 with e1
      subst e1
      have hcall := nums_cells [swho] _ u (by simp) hB' (by simp; omega)
      unfold relAt
      go_simp
      refine (hcall).mono ?_
      rintro e w' ⟨y, rfl, hy, hk'⟩
      exact ⟨_, rfl, hR.into0 hk', hR.put 1 rfl rfl ⟨y, rfl, hy⟩⟩
    intro v hv
    obtain ⟨u, _, hu⟩ := hv
    obtain ⟨y1, rfl, hy1⟩ := hR.get 1 rfl hu
    clear hu
    have HY1 := Lib.hid hy1
    clear hy1
    intro K hK
    go_big_quiet_op
    go_big_quiet_on
    repeat (first | (refine wpR_det hp2 rfl ((hR.rel _).trans rfl) rfl ?_; intro K hK; go_big_quiet_op; go_big_quiet_on) | (refine wpR_ptr hp2 rfl ((hR.rel _).trans rfl) rfl rfl ?_; intro K hK; go_big_quiet_op; go_big_quiet_on) | (refine wpR_skip pick rfl ?_; intro K hK; go_big_quiet_op; go_big_quiet_on))
    refine wpR_rel pick rfl ((hR.rel _).trans rfl) ((hR.turns _).trans rfl) ?_ ?_
    · intro u hu
      have hk := hR.since hu.1
      have hks := hk.size
      have hz : ¬ (9223372036854775807 < 7 + y1.size) := by
        rw [Lib.size_eq y1, HY1.out]
        try simp only [List.length_append, List.length_cons, List.length_nil]
        omega
      unfold relAt
      go_simp
      exact ⟨hR.same, hR.put 2 rfl rfl ⟨_, rfl, by rw [cat_data, HY1.out]; try rfl⟩⟩
    intro v hv
    obtain ⟨u, _, hu⟩ := hv
    obtain ⟨y2, rfl, hy2⟩ := hR.get 2 rfl hu
    clear hu
    have HY2 := Lib.hid hy2
    clear hy2
    intro K hK
    go_big_quiet_op
    go_big_quiet_on
    repeat (first | (refine wpR_det hp2 rfl ((hR.rel _).trans rfl) rfl ?_; intro K hK; go_big_quiet_op; go_big_quiet_on) | (refine wpR_ptr hp2 rfl ((hR.rel _).trans rfl) rfl rfl ?_; intro K hK; go_big_quiet_op; go_big_quiet_on) | (refine wpR_skip pick rfl ?_; intro K hK; go_big_quiet_op; go_big_quiet_on))
    refine wpR_nil ?_
    intro wE hk2 hF hM
    have HKE := Lib.hid (HK1.out.trans hk2)
    clear hF hM hk2 hp1 hp2 hR sF sN
    go_wp2_with fail
    go_ret
    exact ⟨y2, rfl, by rw [HY2.out, HWR.out]; first | rfl | simp [numsT, joinC, backendT, vipT, retireT, releaseT, evictT, admitT, udpT, tcpT, membersT], HKE.out⟩
  omega
end Go.Proofs.YthfdhggcnkgjfaaGreatDoor
