/- The law ScriptWrites. -/
import Derived.Test.YthfdhggcnkgjfaaGreatDoorUJ
import Derived.Test.YthfdhggcnkgjfaaGreatDoorPlainL
import Derived.Test.YthfdhggcnkgjfaaGreatDoorF
namespace Go.Proofs.YthfdhggcnkgjfaaGreatDoor
open Go.RowKit
set_option linter.unusedVariables false
set_option linter.unusedSimpArgs false
set_option maxRecDepth 20000 in
set_option maxHeartbeats 40000000 in
theorem writes_any (s : Sp) (MA LA : Option Addr) (mc lc : Nat) (w : World) (hT : Tabs w) (hI : SpI s) (hmc : s.op.ms.length ≤ mc ∧ mc ≤ maxLen) (hlc : s.load.length ≤ lc ∧ lc ≤ maxLen) (hM : ES w w.heap.size MA 2 (mcs s.op.ms)) (hL : BS w w.heap.size LA s.load) :
    Calls Tryz.prog 4 #[.agg (SpC (.slice MA s.op.ms.length mc) (.slice LA s.load.length lc) s)] w fun e w' => e = .returned (.bool true) ∧ Below w.heap.size w w' := by
  have HM := Lib.hid hM
  have HLA := Lib.hid hL
  have HI := Lib.hid hI
  have HT := Lib.hid hT
  have HMC := Lib.hid hmc
  have HLC := Lib.hid hlc
  have hq1 := hmc.1
  have hq2 := hmc.2
  have hq3 := hlc.1
  have hq4 := hlc.2
  unfold maxLen at hq2 hq4
  clear hM hL hI hmc hlc hT
  unfold SpC
  go_enter Tryz.func4, Tryz.ntmps4
  go_upto_region 1 with fail
  obtain ⟨w1, hw1⟩ : ∃ w1 : World, w1 = w.alloc (.cells #[.int .i64 s.kind, .int .i64 s.op.kind, .int .i64 s.op.vip, .int .i64 s.op.backend, .int .i64 s.op.version, .bool s.op.a.six, .int .u64 (s.op.a.hi : Int), .int .u64 (s.op.a.lo : Int), .int .u16 (s.op.port : Int), .int .u8 (s.op.proto : Int), .int .i64 s.op.way, .slice MA s.op.ms.length mc, .int .i64 s.who, .int .i64 s.time, .int .u8 (s.flags : Int), .slice LA s.load.length lc, .int .u32 (s.n : Int), .int .u32 (s.x : Int), .int .u32 (s.y : Int), .bool s.src.six, .int .u64 (s.src.hi : Int), .int .u64 (s.src.lo : Int), .int .u16 (s.port : Int)] 41) := ⟨_, rfl⟩
  have HK1 := Lib.hid (show Kept (fun _ => False) w w1 by rw [hw1]; exact (Kept.refl _ _).alloc _)
  have HN1 := Lib.hid (show Blk w1 w.heap.size 41 #[.int .i64 s.kind, .int .i64 s.op.kind, .int .i64 s.op.vip, .int .i64 s.op.backend, .int .i64 s.op.version, .bool s.op.a.six, .int .u64 (s.op.a.hi : Int), .int .u64 (s.op.a.lo : Int), .int .u16 (s.op.port : Int), .int .u8 (s.op.proto : Int), .int .i64 s.op.way, .slice MA s.op.ms.length mc, .int .i64 s.who, .int .i64 s.time, .int .u8 (s.flags : Int), .slice LA s.load.length lc, .int .u32 (s.n : Int), .int .u32 (s.x : Int), .int .u32 (s.y : Int), .bool s.src.six, .int .u64 (s.src.hi : Int), .int .u64 (s.src.lo : Int), .int .u16 (s.port : Int)] by rw [hw1]; exact Blk.new _ _ _)
  rw [← hw1]
  clear hw1
  have cB := HN1.out.cell
  by_cases hl1 : 300 < s.load.length
  · have kI : (300 : Int) < (s.load.length : Int) := by omega
    go_wp2_with fail
    refine (awake_any w1).mono ?_
    rintro e w9 ⟨rfl, hk⟩
    go_wp2_with fail
    go_ret
    exact ⟨rfl, kbel (HK1.out.trans hk)⟩
  have kI : ¬ (300 : Int) < (s.load.length : Int) := by omega
  by_cases hl2 : 70 < s.op.ms.length
  · have kJ : (70 : Int) < (s.op.ms.length : Int) := by omega
    go_wp2_with fail
    refine (awake_any w1).mono ?_
    rintro e w9 ⟨rfl, hk⟩
    go_wp2_with fail
    go_ret
    exact ⟨rfl, kbel (HK1.out.trans hk)⟩
  have kJ : ¬ (70 : Int) < (s.op.ms.length : Int) := by omega
  have HL := Lib.hid (show s.op.ms.length ≤ 70 by omega)
  have HL3 := Lib.hid (show s.load.length ≤ 300 by omega)
  have HLD := Lib.hid (show s.load.length ≤ 4000 by omega)
  have HWO := Lib.hid (joinC_opG adrT_len40 proR_len40 HI.out.op HL.out).1
  have HWP := Lib.hid (writeP_len HI.out HL3.out HL.out)
  have HWL := Lib.hid (writeR_len HI.out HL3.out HL.out)
  go_upto_region 3 with fail
  clear hq1 hq2 hq3 hq4 kI kJ hl1 hl2 cB
  have HTO := Lib.hid (toS s MA LA mc lc w1 HL.out HMC.out.1 HMC.out.2 (HM.out.on HK1.out (fun _ _ h => h)))
  unfold SpC at HTO
  go_wp2_with (show wpList _ _ _ ((⟨_, .load 41 (.tmp 1), _, _, _, none⟩ : Oper) :: _) _ _; refine wpList_load_mid rfl 41 (.tmp 1) rfl w.heap.size 0 rfl [.int .i64 s.kind, .int .i64 s.op.kind, .int .i64 s.op.vip, .int .i64 s.op.backend, .int .i64 s.op.version, .bool s.op.a.six, .int .u64 (s.op.a.hi : Int), .int .u64 (s.op.a.lo : Int), .int .u16 (s.op.port : Int), .int .u8 (s.op.proto : Int), .int .i64 s.op.way, .slice MA s.op.ms.length mc, .int .i64 s.who, .int .i64 s.time, .int .u8 (s.flags : Int), .slice LA s.load.length lc, .int .u32 (s.n : Int), .int .u32 (s.x : Int), .int .u32 (s.y : Int), .bool s.src.six, .int .u64 (s.src.hi : Int), .int .u64 (s.src.lo : Int), .int .u16 (s.port : Int)] _ HN1.out.range Tryz.underlying41 rfl (by kernel_rfl) ?_)
  refine HTO.out.mono ?_
  rintro e w2 ⟨A4, c4, rfl, h4, h5, h6, hk⟩
  have HK2 := Lib.hid (HK1.out.trans hk)
  have HN2 := Lib.hid (HN1.out.kept hk (fun h => h))
  have HWT := Lib.hid (Write_any s A4 LA c4 lc w2 (HT.out.on HK2.out) HI.out HL.out HLD.out HWP.out h6 (HLA.out.on HK2.out (fun _ _ h => h)))
  unfold SpC at HWT
  clear h4 h5 h6 hk HTO HN1 HK1
  go_wp2_with fail
  refine HWT.out.mono ?_
  rintro e w3 ⟨y, rfl, hy, hk⟩
  have HK3 := Lib.hid (HK2.out.trans hk)
  have HN3 := Lib.hid (HN2.out.kept hk (fun h => h))
  have HY0 := Lib.hid hy
  clear hk HWT HK2 HN2
  by_cases hn : writeW s = []
  · have hq : y.toList.isEmpty = true := by rw [Lib.toList_data, hy, hn]; rfl
    have HFF := Lib.hid (writeW_nil hn)
    clear hy hn
    have HF := Lib.hid (fits_any s MA LA mc lc w3 HI.out HL.out HLD.out HWO.out HWL.out HMC.out (HM.out.on HK3.out (fun _ _ h => h)) (HLA.out.on HK3.out (fun _ _ h => h)))
    unfold SpC at HF
    rw [HFF.out] at HF
    go_wp2_with (show wpList _ _ _ ((⟨_, .load 41 (.tmp 1), _, _, _, none⟩ : Oper) :: _) _ _; refine wpList_load_mid rfl 41 (.tmp 1) rfl w.heap.size 0 rfl [.int .i64 s.kind, .int .i64 s.op.kind, .int .i64 s.op.vip, .int .i64 s.op.backend, .int .i64 s.op.version, .bool s.op.a.six, .int .u64 (s.op.a.hi : Int), .int .u64 (s.op.a.lo : Int), .int .u16 (s.op.port : Int), .int .u8 (s.op.proto : Int), .int .i64 s.op.way, .slice MA s.op.ms.length mc, .int .i64 s.who, .int .i64 s.time, .int .u8 (s.flags : Int), .slice LA s.load.length lc, .int .u32 (s.n : Int), .int .u32 (s.x : Int), .int .u32 (s.y : Int), .bool s.src.six, .int .u64 (s.src.hi : Int), .int .u64 (s.src.lo : Int), .int .u16 (s.port : Int)] _ HN3.out.range Tryz.underlying41 rfl (by kernel_rfl) ?_)
    refine HF.out.mono ?_
    rintro e w4 ⟨rfl, hk⟩
    have HK4 := Lib.hid (HK3.out.trans hk)
    clear hk HF hq
    go_wp2_with fail
    refine (awake_any w4).mono ?_
    rintro e w9 ⟨rfl, hk⟩
    go_wp2_with fail
    go_ret
    exact ⟨rfl, kbel (HK4.out.trans hk)⟩
  · have hq : y.toList.isEmpty = false := by
      rw [Lib.toList_data, hy]
      cases hh : writeW s with
      | nil => exact absurd hh hn
      | cons _ _ => rfl
    obtain ⟨hln, hwe⟩ := writeW_some hn
    have HLN := Lib.hid hln
    have HY := Lib.hid (hy.trans hwe)
    have HFT := Lib.hid (writeW_fits hln).1
    have HWR := Lib.hid (writeW_fits hln).2
    have hb := (line_back hln).2
    have HN := Lib.hid (show SpN s from ⟨hb.kind, (by
      by_cases hk : s.kind = 0
      · have q := hb.op hk
        exact ⟨q.vip, q.backend, q.version, q.way, q.ms⟩
      · rw [hb.op0 hk]
        exact ⟨Int.le_refl 0, Int.le_refl 0, Int.le_refl 0, ⟨Int.le_refl 0, show (0 : Int) ≤ 4 by decide⟩, fun m h => by cases h⟩), hb.who, hb.time⟩)
    have HPS := Lib.hid (parse_gen y (by rw [Lib.size_eq, HY.out]; exact HWP.out) w3)
    rw [HY.out, HLN.out] at HPS
    have e1 : (some s).getD Sp.zero = s := rfl
    have e2 : (if (some s).isSome = true then (0 : Int) else 21) = 0 := rfl
    rw [e1, e2] at HPS
    clear hy hn hln hwe hb e1 e2
    go_wp2_with fail
    refine HPS.out.mono ?_
    rintro e w4 ⟨MX, cX, LX, lX, rfl, hst, hk⟩
    have HSX4 := Lib.hid hst
    have HK4 := Lib.hid (HK3.out.trans hk)
    have HN4 := Lib.hid (HN3.out.kept hk (fun h => h))
    clear hst hk HPS HN3 HK3 hq
    unfold SpC
    go_upto_region 7 with (show wpList _ _ _ ((⟨none, .store 33 (.tmp 4) _, _, _, _, none⟩ : Oper) :: _) _ _; refine wpList_store_mid rfl 33 (.tmp 4) _ rfl w4.heap.size 0 #[.int .i64 s.kind, .int .i64 s.op.kind, .int .i64 s.op.vip, .int .i64 s.op.backend, .int .i64 s.op.version, .bool s.op.a.six, .int .u64 (s.op.a.hi : Int), .int .u64 (s.op.a.lo : Int), .int .u16 (s.op.port : Int), .int .u8 (s.op.proto : Int), .int .i64 s.op.way, .slice MX s.op.ms.length cX, .int .i64 s.who, .int .i64 s.time, .int .u8 (s.flags : Int), .slice LX s.load.length lX, .int .u32 (s.n : Int), .int .u32 (s.x : Int), .int .u32 (s.y : Int), .bool s.src.six, .int .u64 (s.src.hi : Int), .int .u64 (s.src.lo : Int), .int .u16 (s.port : Int)] rfl rfl ((Blk.new w4 33 #[.int .i64 0, .int .i64 0, .int .i64 0, .int .i64 0, .int .i64 0, .bool false, .int .u64 0, .int .u64 0, .int .u16 0, .int .u8 0, .int .i64 0, .slice none 0 0, .int .i64 0, .int .i64 0, .int .u8 0, .slice none 0 0, .int .u32 0, .int .u32 0, .int .u32 0, .bool false, .int .u64 0, .int .u64 0, .int .u16 0]).there rfl) (by kernel_rfl) (by simp [Value.oneCell']) ?_)
    generalize hw5 : (World.setCells _ _ _ _) = w5
    have HKA := Lib.hid (show Kept (fun _ => False) w4 w5 by rw [← hw5]; exact ((Kept.refl _ _).alloc _).then (Kept.setCells (S := fun i => i = w4.heap.size) rfl _ _ (Kept.refl _ _)) (fun i hi e => by omega))
    have HX5 := Lib.hid (show Blk w5 w4.heap.size 33 #[.int .i64 s.kind, .int .i64 s.op.kind, .int .i64 s.op.vip, .int .i64 s.op.backend, .int .i64 s.op.version, .bool s.op.a.six, .int .u64 (s.op.a.hi : Int), .int .u64 (s.op.a.lo : Int), .int .u16 (s.op.port : Int), .int .u8 (s.op.proto : Int), .int .i64 s.op.way, .slice MX s.op.ms.length cX, .int .i64 s.who, .int .i64 s.time, .int .u8 (s.flags : Int), .slice LX s.load.length lX, .int .u32 (s.n : Int), .int .u32 (s.x : Int), .int .u32 (s.y : Int), .bool s.src.six, .int .u64 (s.src.hi : Int), .int .u64 (s.src.lo : Int), .int .u16 (s.port : Int)] by rw [← hw5]; exact (Blk.new w4 33 #[.int .i64 0, .int .i64 0, .int .i64 0, .int .i64 0, .int .i64 0, .bool false, .int .u64 0, .int .u64 0, .int .u16 0, .int .u8 0, .int .i64 0, .slice none 0 0, .int .i64 0, .int .i64 0, .int .u8 0, .slice none 0 0, .int .u32 0, .int .u32 0, .int .u32 0, .bool false, .int .u64 0, .int .u64 0, .int .u16 0]).setAll #[.int .i64 s.kind, .int .i64 s.op.kind, .int .i64 s.op.vip, .int .i64 s.op.backend, .int .i64 s.op.version, .bool s.op.a.six, .int .u64 (s.op.a.hi : Int), .int .u64 (s.op.a.lo : Int), .int .u16 (s.op.port : Int), .int .u8 (s.op.proto : Int), .int .i64 s.op.way, .slice MX s.op.ms.length cX, .int .i64 s.who, .int .i64 s.time, .int .u8 (s.flags : Int), .slice LX s.load.length lX, .int .u32 (s.n : Int), .int .u32 (s.x : Int), .int .u32 (s.y : Int), .bool s.src.six, .int .u64 (s.src.hi : Int), .int .u64 (s.src.lo : Int), .int .u16 (s.port : Int)] rfl)
    have HN5 := Lib.hid (HN4.out.kept HKA.out (fun h => h))
    have HK5 := Lib.hid (HK4.out.trans HKA.out)
    have HSX := Lib.hid (HSX4.out.on HKA.out)
    obtain ⟨xb, hxb⟩ : ∃ xb, w4.heap.size = xb := ⟨_, rfl⟩
    rw [hxb] at HX5 ⊢
    clear hw5 hxb HKA HSX4 HN4 HK4
    refine wp_region_kept 21 [(0, fun v u => v = .agg #[.int .i64 s.kind, .int .i64 s.op.kind, .int .i64 s.op.vip, .int .i64 s.op.backend, .int .i64 s.op.version, .bool s.op.a.six, .int .u64 (s.op.a.hi : Int), .int .u64 (s.op.a.lo : Int), .int .u16 (s.op.port : Int), .int .u8 (s.op.proto : Int), .int .i64 s.op.way, .slice MA s.op.ms.length mc, .int .i64 s.who, .int .i64 s.time, .int .u8 (s.flags : Int), .slice LA s.load.length lc, .int .u32 (s.n : Int), .int .u32 (s.x : Int), .int .u32 (s.y : Int), .bool s.src.six, .int .u64 (s.src.hi : Int), .int .u64 (s.src.lo : Int), .int .u16 (s.port : Int)]), (1, fun v u => v = .bool true), (4, fun v u => v = .agg #[.int .i64 s.kind, .int .i64 s.op.kind, .int .i64 s.op.vip, .int .i64 s.op.backend, .int .i64 s.op.version, .bool s.op.a.six, .int .u64 (s.op.a.hi : Int), .int .u64 (s.op.a.lo : Int), .int .u16 (s.op.port : Int), .int .u8 (s.op.proto : Int), .int .i64 s.op.way, .slice MA s.op.ms.length mc, .int .i64 s.who, .int .i64 s.time, .int .u8 (s.flags : Int), .slice LA s.load.length lc, .int .u32 (s.n : Int), .int .u32 (s.x : Int), .int .u32 (s.y : Int), .bool s.src.six, .int .u64 (s.src.hi : Int), .int .u64 (s.src.lo : Int), .int .u16 (s.port : Int)]), (5, fun v u => v = .string y), (13, fun v u => v = .agg #[.int .i64 s.kind, .int .i64 s.op.kind, .int .i64 s.op.vip, .int .i64 s.op.backend, .int .i64 s.op.version, .bool s.op.a.six, .int .u64 (s.op.a.hi : Int), .int .u64 (s.op.a.lo : Int), .int .u16 (s.op.port : Int), .int .u8 (s.op.proto : Int), .int .i64 s.op.way, .slice MX s.op.ms.length cX, .int .i64 s.who, .int .i64 s.time, .int .u8 (s.flags : Int), .slice LX s.load.length lX, .int .u32 (s.n : Int), .int .u32 (s.x : Int), .int .u32 (s.y : Int), .bool s.src.six, .int .u64 (s.src.hi : Int), .int .u64 (s.src.lo : Int), .int .u16 (s.port : Int)]), (14, fun v u => v = .agg #[.int .i64 s.kind, .int .i64 s.op.kind, .int .i64 s.op.vip, .int .i64 s.op.backend, .int .i64 s.op.version, .bool s.op.a.six, .int .u64 (s.op.a.hi : Int), .int .u64 (s.op.a.lo : Int), .int .u16 (s.op.port : Int), .int .u8 (s.op.proto : Int), .int .i64 s.op.way, .slice MA s.op.ms.length mc, .int .i64 s.who, .int .i64 s.time, .int .u8 (s.flags : Int), .slice LA s.load.length lc, .int .u32 (s.n : Int), .int .u32 (s.x : Int), .int .u32 (s.y : Int), .bool s.src.six, .int .u64 (s.src.hi : Int), .int .u64 (s.src.lo : Int), .int .u16 (s.port : Int)]), (15, fun v u => ∃ A c, v = .agg #[.int .i64 s.kind, .int .i64 s.op.kind, .int .i64 s.op.vip, .int .i64 s.op.backend, .int .i64 s.op.version, .bool s.op.a.six, .int .u64 (s.op.a.hi : Int), .int .u64 (s.op.a.lo : Int), .int .u16 (s.op.port : Int), .int .u8 (s.op.proto : Int), .int .i64 s.op.way, .slice A s.op.ms.length c, .int .i64 s.who, .int .i64 s.time, .int .u8 (s.flags : Int), .slice LA s.load.length lc, .int .u32 (s.n : Int), .int .u32 (s.x : Int), .int .u32 (s.y : Int), .bool s.src.six, .int .u64 (s.src.hi : Int), .int .u64 (s.src.lo : Int), .int .u16 (s.port : Int)] ∧ s.op.ms.length ≤ c ∧ c ≤ maxLen ∧ ES u u.heap.size A 2 (mcs s.op.ms)), (16, fun v u => v = .bool true), (19, fun v u => v = .bool true)] ?st ?ne rfl (by kernel_rfl) (by kernel_rfl) ?_
    case st =>
      intro p hp
      simp only [List.mem_cons, List.not_mem_nil, or_false] at hp
      rcases hp with rfl | rfl | rfl | rfl | rfl | rfl | rfl | rfl | rfl
      · intro v u u' h hk; exact h
      · intro v u u' h hk; exact h
      · intro v u u' h hk; exact h
      · intro v u u' h hk; exact h
      · intro v u u' h hk; exact h
      · intro v u u' h hk; exact h
      · rintro v u u' ⟨A, c, rfl, h1, h2, h3⟩ hk; exact ⟨A, c, rfl, h1, h2, h3.on hk (fun _ _ h => h)⟩
      · intro v u u' h hk; exact h
      · intro v u u' h hk; exact h
    case ne =>
      intro p hp
      simp only [List.mem_cons, List.not_mem_nil, or_false] at hp
      rcases hp with rfl | rfl | rfl | rfl | rfl | rfl | rfl | rfl | rfl
      · exact ⟨_, _, Kept.refl _ _, rfl⟩
      · exact ⟨_, _, Kept.refl _ _, rfl⟩
      · exact ⟨_, _, Kept.refl _ _, rfl⟩
      · exact ⟨_, _, Kept.refl _ _, rfl⟩
      · exact ⟨_, _, Kept.refl _ _, rfl⟩
      · exact ⟨_, _, Kept.refl _ _, rfl⟩
      · exact ⟨_, w5, Kept.refl _ _, MA, mc, rfl, HMC.out.1, HMC.out.2, HM.out.on HK5.out (fun _ _ h => h)⟩
      · exact ⟨_, _, Kept.refl _ _, rfl⟩
      · exact ⟨_, _, Kept.refl _ _, rfl⟩
    simp only [List.take_succ_cons, List.take_zero, List.drop_succ_cons, List.drop_zero]
    intro G pick hR hp1 hp2
    repeat (first | (refine wpR_det hp2 rfl ((hR.rel _).trans rfl) rfl ?_; intro K hK; go_big_quiet_op; go_big_quiet_on) | (refine wpR_ptr hp2 rfl ((hR.rel _).trans rfl) rfl rfl ?_; intro K hK; go_big_quiet_op; go_big_quiet_on) | (refine wpR_skip pick rfl ?_; intro K hK; go_big_quiet_op; go_big_quiet_on))
    refine wpR_rel pick rfl ((hR.rel _).trans rfl) ((hR.turns _).trans rfl) ?_ ?_
    · intro u hu
      have hk := hR.since hu.1
      have hks := hk.size
      refine relAt_load_mid 41 (.tmp 1) rfl w.heap.size 0 rfl [.int .i64 s.kind, .int .i64 s.op.kind, .int .i64 s.op.vip, .int .i64 s.op.backend, .int .i64 s.op.version, .bool s.op.a.six, .int .u64 (s.op.a.hi : Int), .int .u64 (s.op.a.lo : Int), .int .u16 (s.op.port : Int), .int .u8 (s.op.proto : Int), .int .i64 s.op.way, .slice MA s.op.ms.length mc, .int .i64 s.who, .int .i64 s.time, .int .u8 (s.flags : Int), .slice LA s.load.length lc, .int .u32 (s.n : Int), .int .u32 (s.x : Int), .int .u32 (s.y : Int), .bool s.src.six, .int .u64 (s.src.hi : Int), .int .u64 (s.src.lo : Int), .int .u16 (s.port : Int)] _ ((HN5.out.kept hk (fun h => h)).range) Tryz.underlying41 rfl (by kernel_rfl) ?_
      exact ⟨hR.into0 (Kept.refl _ _), hR.put 0 rfl rfl rfl⟩
    intro v hv
    obtain ⟨u, _, hu⟩ := hv
    obtain rfl := hR.get 0 rfl hu
    clear hu
    intro K hK
    go_big_quiet_op
    go_big_quiet_on
    repeat (first | (refine wpR_det hp2 rfl ((hR.rel _).trans rfl) rfl ?_; intro K hK; go_big_quiet_op; go_big_quiet_on) | (refine wpR_ptr hp2 rfl ((hR.rel _).trans rfl) rfl rfl ?_; intro K hK; go_big_quiet_op; go_big_quiet_on) | (refine wpR_skip pick rfl ?_; intro K hK; go_big_quiet_op; go_big_quiet_on))
    refine wpR_rel pick rfl ((hR.rel _).trans rfl) ((hR.turns _).trans rfl) ?_ ?_
    · intro u hu
      have hk := hR.since hu.1
      have hks := hk.size
      have hz := fits_any s MA LA mc lc u HI.out HL.out HLD.out HWO.out HWL.out HMC.out (HM.out.on (HK5.out.trans hk) (fun _ _ h => h)) (HLA.out.on (HK5.out.trans hk) (fun _ _ h => h))
      unfold SpC at hz
      rw [HFT.out] at hz
      unfold relAt
      go_simp
      refine hz.mono ?_
      rintro e w' ⟨rfl, hk'⟩
      exact ⟨_, rfl, hR.into0 hk', hR.put 1 rfl rfl rfl⟩
    intro v hv
    obtain ⟨u, _, hu⟩ := hv
    obtain rfl := hR.get 1 rfl hu
    clear hu
    intro K hK
    go_big_quiet_op
    go_big_quiet_on
    repeat (first | (refine wpR_det hp2 rfl ((hR.rel _).trans rfl) rfl ?_; intro K hK; go_big_quiet_op; go_big_quiet_on) | (refine wpR_ptr hp2 rfl ((hR.rel _).trans rfl) rfl rfl ?_; intro K hK; go_big_quiet_op; go_big_quiet_on) | (refine wpR_skip pick rfl ?_; intro K hK; go_big_quiet_op; go_big_quiet_on))
    refine wpR_rel pick rfl ((hR.rel _).trans rfl) ((hR.turns _).trans rfl) ?_ ?_
    · intro u hu
      have hk := hR.since hu.1
      have hks := hk.size
      refine relAt_load_mid 41 (.tmp 1) rfl w.heap.size 0 rfl [.int .i64 s.kind, .int .i64 s.op.kind, .int .i64 s.op.vip, .int .i64 s.op.backend, .int .i64 s.op.version, .bool s.op.a.six, .int .u64 (s.op.a.hi : Int), .int .u64 (s.op.a.lo : Int), .int .u16 (s.op.port : Int), .int .u8 (s.op.proto : Int), .int .i64 s.op.way, .slice MA s.op.ms.length mc, .int .i64 s.who, .int .i64 s.time, .int .u8 (s.flags : Int), .slice LA s.load.length lc, .int .u32 (s.n : Int), .int .u32 (s.x : Int), .int .u32 (s.y : Int), .bool s.src.six, .int .u64 (s.src.hi : Int), .int .u64 (s.src.lo : Int), .int .u16 (s.port : Int)] _ ((HN5.out.kept hk (fun h => h)).range) Tryz.underlying41 rfl (by kernel_rfl) ?_
      exact ⟨hR.into0 (Kept.refl _ _), hR.put 2 rfl rfl rfl⟩
    intro v hv
    obtain ⟨u, _, hu⟩ := hv
    obtain rfl := hR.get 2 rfl hu
    clear hu
    intro K hK
    go_big_quiet_op
    go_big_quiet_on
    repeat (first | (refine wpR_det hp2 rfl ((hR.rel _).trans rfl) rfl ?_; intro K hK; go_big_quiet_op; go_big_quiet_on) | (refine wpR_ptr hp2 rfl ((hR.rel _).trans rfl) rfl rfl ?_; intro K hK; go_big_quiet_op; go_big_quiet_on) | (refine wpR_skip pick rfl ?_; intro K hK; go_big_quiet_op; go_big_quiet_on))
    refine wpR_rel pick rfl ((hR.rel _).trans rfl) ((hR.turns _).trans rfl) ?_ ?_
    · intro u hu
      have hk := hR.since hu.1
      have hks := hk.size
      have hz := refWrite_any s MA LA mc lc u HI.out HN.out HL.out HLD.out HWO.out (HM.out.on (HK5.out.trans hk) (fun _ _ h => h)) (HLA.out.on (HK5.out.trans hk) (fun _ _ h => h))
      unfold SpC at hz
      unfold relAt
      go_simp
      refine hz.mono ?_
      rintro e w' ⟨z, rfl, hz', hk'⟩
      obtain rfl : z = y := by apply ByteArray.ext; apply Array.ext'; rw [hz', HY.out, HWR.out]
      exact ⟨_, rfl, hR.into0 hk', hR.put 3 rfl rfl rfl⟩
    intro v hv
    obtain ⟨u, _, hu⟩ := hv
    obtain rfl := hR.get 3 rfl hu
    clear hu
    intro K hK
    go_big_quiet_op
    go_big_quiet_on
    repeat (first | (refine wpR_det hp2 rfl ((hR.rel _).trans rfl) rfl ?_; intro K hK; go_big_quiet_op; go_big_quiet_on) | (refine wpR_ptr hp2 rfl ((hR.rel _).trans rfl) rfl rfl ?_; intro K hK; go_big_quiet_op; go_big_quiet_on) | (refine wpR_skip pick rfl ?_; intro K hK; go_big_quiet_op; go_big_quiet_on))
    refine wpR_rel pick rfl ((hR.rel _).trans rfl) ((hR.turns _).trans rfl) ?_ ?_
    · intro u hu
      have hk := hR.since hu.1
      have hks := hk.size
      refine relAt_load_mid 33 (.tmp 4) rfl xb 0 rfl [.int .i64 s.kind, .int .i64 s.op.kind, .int .i64 s.op.vip, .int .i64 s.op.backend, .int .i64 s.op.version, .bool s.op.a.six, .int .u64 (s.op.a.hi : Int), .int .u64 (s.op.a.lo : Int), .int .u16 (s.op.port : Int), .int .u8 (s.op.proto : Int), .int .i64 s.op.way, .slice MX s.op.ms.length cX, .int .i64 s.who, .int .i64 s.time, .int .u8 (s.flags : Int), .slice LX s.load.length lX, .int .u32 (s.n : Int), .int .u32 (s.x : Int), .int .u32 (s.y : Int), .bool s.src.six, .int .u64 (s.src.hi : Int), .int .u64 (s.src.lo : Int), .int .u16 (s.port : Int)] _ ((HX5.out.kept hk (fun h => h)).range) Tryz.underlying33 rfl (by kernel_rfl) ?_
      exact ⟨hR.into0 (Kept.refl _ _), hR.put 4 rfl rfl rfl⟩
    intro v hv
    obtain ⟨u, _, hu⟩ := hv
    obtain rfl := hR.get 4 rfl hu
    clear hu
    intro K hK
    go_big_quiet_op
    go_big_quiet_on
    repeat (first | (refine wpR_det hp2 rfl ((hR.rel _).trans rfl) rfl ?_; intro K hK; go_big_quiet_op; go_big_quiet_on) | (refine wpR_ptr hp2 rfl ((hR.rel _).trans rfl) rfl rfl ?_; intro K hK; go_big_quiet_op; go_big_quiet_on) | (refine wpR_skip pick rfl ?_; intro K hK; go_big_quiet_op; go_big_quiet_on))
    refine wpR_rel pick rfl ((hR.rel _).trans rfl) ((hR.turns _).trans rfl) ?_ ?_
    · intro u hu
      have hk := hR.since hu.1
      have hks := hk.size
      refine relAt_load_mid 41 (.tmp 1) rfl w.heap.size 0 rfl [.int .i64 s.kind, .int .i64 s.op.kind, .int .i64 s.op.vip, .int .i64 s.op.backend, .int .i64 s.op.version, .bool s.op.a.six, .int .u64 (s.op.a.hi : Int), .int .u64 (s.op.a.lo : Int), .int .u16 (s.op.port : Int), .int .u8 (s.op.proto : Int), .int .i64 s.op.way, .slice MA s.op.ms.length mc, .int .i64 s.who, .int .i64 s.time, .int .u8 (s.flags : Int), .slice LA s.load.length lc, .int .u32 (s.n : Int), .int .u32 (s.x : Int), .int .u32 (s.y : Int), .bool s.src.six, .int .u64 (s.src.hi : Int), .int .u64 (s.src.lo : Int), .int .u16 (s.port : Int)] _ ((HN5.out.kept hk (fun h => h)).range) Tryz.underlying41 rfl (by kernel_rfl) ?_
      exact ⟨hR.into0 (Kept.refl _ _), hR.put 5 rfl rfl rfl⟩
    intro v hv
    obtain ⟨u, _, hu⟩ := hv
    obtain rfl := hR.get 5 rfl hu
    clear hu
    intro K hK
    go_big_quiet_op
    go_big_quiet_on
    repeat (first | (refine wpR_det hp2 rfl ((hR.rel _).trans rfl) rfl ?_; intro K hK; go_big_quiet_op; go_big_quiet_on) | (refine wpR_ptr hp2 rfl ((hR.rel _).trans rfl) rfl rfl ?_; intro K hK; go_big_quiet_op; go_big_quiet_on) | (refine wpR_skip pick rfl ?_; intro K hK; go_big_quiet_op; go_big_quiet_on))
    refine wpR_rel pick rfl ((hR.rel _).trans rfl) ((hR.turns _).trans rfl) ?_ ?_
    · intro u hu
      have hk := hR.since hu.1
      have hks := hk.size
      have hz := toS s MA LA mc lc u HL.out HMC.out.1 HMC.out.2 (HM.out.on (HK5.out.trans hk) (fun _ _ h => h))
      unfold SpC at hz
      unfold relAt
      go_simp
      refine hz.mono ?_
      rintro e w' ⟨A', c', rfl, h1, h2, h3, hk'⟩
      exact ⟨_, rfl, hR.into0 hk', hR.put 6 rfl rfl ⟨A', c', rfl, h1, h2, h3⟩⟩
    intro v hv
    obtain ⟨u, _, hu⟩ := hv
    obtain ⟨A2, c2, rfl, hl2, hc2, -⟩ := hR.get 6 rfl hu
    clear hu
    intro K hK
    go_big_quiet_op
    go_big_quiet_on
    repeat (first | (refine wpR_det hp2 rfl ((hR.rel _).trans rfl) rfl ?_; intro K hK; go_big_quiet_op; go_big_quiet_on) | (refine wpR_ptr hp2 rfl ((hR.rel _).trans rfl) rfl rfl ?_; intro K hK; go_big_quiet_op; go_big_quiet_on) | (refine wpR_skip pick rfl ?_; intro K hK; go_big_quiet_op; go_big_quiet_on))
    refine wpR_rel pick rfl ((hR.rel _).trans rfl) ((hR.turns _).trans rfl) ?_ ?_
    · intro u hu
      have hk := hR.since hu.1
      have hks := hk.size
      obtain ⟨A', c', e, -, -, hm1⟩ := (hR.get 6 rfl (hu.2 _ _ (Got.upd_self _ _ _) (by kernel_rfl)))
      obtain ⟨rfl, rfl⟩ : A2 = A' ∧ c2 = c' := by simpa using e
      have hz := sameS s s MX LX A2 LA cX lX c2 lc u (Nat.le_trans (HSX.out.on hk).m1 (HSX.out.on hk).m2) (HSX.out.on hk).ms hm1 (Nat.le_trans (HSX.out.on hk).l1 (HSX.out.on hk).l2) (HSX.out.on hk).ld (HLA.out.on (HK5.out.trans hk) (fun _ _ h => h))
      unfold SpC at hz
      rw [(sameB_iff s s).2 rfl] at hz
      unfold relAt
      go_simp
      refine hz.mono ?_
      rintro e w' ⟨rfl, hk'⟩
      exact ⟨_, rfl, hR.into0 hk', hR.put 7 rfl rfl rfl⟩
    intro v hv
    obtain ⟨u, _, hu⟩ := hv
    obtain rfl := hR.get 7 rfl hu
    clear hu
    intro K hK
    go_big_quiet_op
    go_big_quiet_on
    repeat (first | (refine wpR_det hp2 rfl ((hR.rel _).trans rfl) rfl ?_; intro K hK; go_big_quiet_op; go_big_quiet_on) | (refine wpR_ptr hp2 rfl ((hR.rel _).trans rfl) rfl rfl ?_; intro K hK; go_big_quiet_op; go_big_quiet_on) | (refine wpR_skip pick rfl ?_; intro K hK; go_big_quiet_op; go_big_quiet_on))
    refine wpR_rel pick rfl ((hR.rel _).trans rfl) ((hR.turns _).trans rfl) ?_ ?_
    · intro u hu
      have hk := hR.since hu.1
      have hks := hk.size
      unfold relAt
      go_simp
      refine (awake_any u).mono ?_
      rintro e w' ⟨rfl, hk'⟩
      exact ⟨_, rfl, hR.into0 hk', hR.put 8 rfl rfl rfl⟩
    intro v hv
    obtain ⟨u, _, hu⟩ := hv
    obtain rfl := hR.get 8 rfl hu
    clear hu
    intro K hK
    go_big_quiet_op
    go_big_quiet_on
    repeat (first | (refine wpR_det hp2 rfl ((hR.rel _).trans rfl) rfl ?_; intro K hK; go_big_quiet_op; go_big_quiet_on) | (refine wpR_ptr hp2 rfl ((hR.rel _).trans rfl) rfl rfl ?_; intro K hK; go_big_quiet_op; go_big_quiet_on) | (refine wpR_skip pick rfl ?_; intro K hK; go_big_quiet_op; go_big_quiet_on))
    refine wpR_nil ?_
    intro wE hk2 hF hM
    have HKE := Lib.hid (HK5.out.trans hk2)
    clear hF hM hk2 hp1 hp2 hR
    go_wp2_with fail
    go_ret
    exact ⟨rfl, kbel HKE.out⟩
/-- At steps that came in. -/
theorem writes_l (a : St) (w : World) (hT : Tabs w) (ha : a.wf w) : Calls Tryz.prog 4 #[.agg a.cs.toArray] w fun e w' => e = .returned (.bool true) ∧ Below w.heap.size w w' := by
  obtain ⟨fa, ⟨f0, f1, f2, f3, ⟨f4, f5, f6⟩, f7, f8, f9, ⟨MA, mc, ml⟩⟩, fb, fc, fd, ⟨LA, lc, ld⟩, g0, g1, g2, ⟨g3, g4, g5⟩, g6⟩ := a
  obtain ⟨k0, ⟨k1, k2, k3, k4, ⟨k5, k6⟩, k7, k8, k9, hm⟩, kb, kc, kd, hl, h0, h1, h2, ⟨h4, h5⟩, h6⟩ := ha
  simp only at k0 k1 k2 k3 k4 k5 k6 k7 k8 k9 kb kc kd h0 h1 h2 h4 h5 h6 hm hl
  obtain ⟨f5, rfl⟩ := Int.eq_ofNat_of_zero_le k5.1
  obtain ⟨f6, rfl⟩ := Int.eq_ofNat_of_zero_le k6.1
  obtain ⟨f7, rfl⟩ := Int.eq_ofNat_of_zero_le k7.1
  obtain ⟨f8, rfl⟩ := Int.eq_ofNat_of_zero_le k8.1
  obtain ⟨fd, rfl⟩ := Int.eq_ofNat_of_zero_le kd.1
  obtain ⟨g0, rfl⟩ := Int.eq_ofNat_of_zero_le h0.1
  obtain ⟨g1, rfl⟩ := Int.eq_ofNat_of_zero_le h1.1
  obtain ⟨g2, rfl⟩ := Int.eq_ofNat_of_zero_le h2.1
  obtain ⟨g4, rfl⟩ := Int.eq_ofNat_of_zero_le h4.1
  obtain ⟨g5, rfl⟩ := Int.eq_ofNat_of_zero_le h5.1
  obtain ⟨g6, rfl⟩ := Int.eq_ofNat_of_zero_le h6.1
  obtain ⟨ms, hms⟩ : ∃ ms : List (Int × Int), ms.map toMb = ml := ⟨ml.map (fun m => (m.back, m.weight)), by rw [List.map_map]; exact (List.map_congr_left (fun m _ => rfl)).trans (List.map_id _)⟩
  subst hms
  obtain ⟨m1, m2, m3, m4⟩ := hm
  simp only [List.length_map] at m1 m2 m3 m4
  rw [toMb_cs] at m3
  have h := writes_any ⟨fa, ⟨f0, f1, f2, f3, ⟨f4, f5, f6⟩, f7, f8, f9, ms⟩, fb, fc, fd, ld, g0, g1, g2, ⟨g3, g4, g5⟩, g6⟩ MA LA mc lc w hT
    ⟨k0, ⟨k1, k2, k3, k4, by show f5 < _; omega, by show f6 < _; omega, by show f7 ≤ _; omega, by show f8 ≤ _; omega, k9, fun m hm => m4 (toMb m) (List.mem_map_of_mem hm)⟩, kb, kc, by show fd ≤ _; omega, by show g0 ≤ _; omega, by show g1 ≤ _; omega, by show g2 ≤ _; omega, by show g4 < _; omega, by show g5 < _; omega, by show g6 ≤ _; omega⟩
    ⟨m1, m2⟩ ⟨hl.1, hl.2.1⟩ m3 hl.2.2
  have e : (St.cs ⟨fa, ⟨f0, f1, f2, f3, ⟨f4, f5, f6⟩, f7, f8, f9, ⟨MA, mc, ms.map toMb⟩⟩, fb, fc, fd, ⟨LA, lc, ld⟩, g0, g1, g2, ⟨g3, g4, g5⟩, g6⟩).toArray = SpC (.slice MA ms.length mc) (.slice LA ld.length lc) ⟨fa, ⟨f0, f1, f2, f3, ⟨f4, f5, f6⟩, f7, f8, f9, ms⟩, fb, fc, fd, ld, g0, g1, g2, ⟨g3, g4, g5⟩, g6⟩ := by
    unfold SpC St.cs Ops.cs Ad.cs MV.cs BV.val
    simp only [List.length_map]
    rfl
  rw [e]
  exact h
end Go.Proofs.YthfdhggcnkgjfaaGreatDoor
