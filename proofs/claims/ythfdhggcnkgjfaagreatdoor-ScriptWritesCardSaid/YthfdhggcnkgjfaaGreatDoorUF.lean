/- A step's line, as it is written. -/
import Derived.Test.YthfdhggcnkgjfaaGreatDoorUE
import Derived.Test.YthfdhggcnkgjfaaGreatDoorYE
namespace Go.Proofs.YthfdhggcnkgjfaaGreatDoor
open Go.RowKit
set_option linter.unusedVariables false
set_option linter.unusedSimpArgs false
theorem Blk.range1 {w : World} {g t : Nat} {cs : Array Value} {o : Nat} {l : List Value} (h : Blk w g t cs) (hl : (cs.toList.drop o).take l.length = l) : w.rangeAt g o l := by
  have := World.rangeAt_of_block h o l.length
  rw [show (cs.extract o (o + l.length)).toList = l from (show _ = (cs.toList.drop o).take l.length by simp [List.extract_eq_take_drop]).trans hl] at this
  exact this
theorem cmdK_none {k : Int} (h : k < 1 ∨ 15 < k) : cmdK k = none := by
  unfold cmdK cmds
  rw [List.find?_eq_none]
  intro c hc
  simp only [List.mem_cons, List.not_mem_nil, or_false] at hc
  rcases hc with rfl | rfl | rfl | rfl | rfl | rfl | rfl | rfl | rfl | rfl | rfl | rfl | rfl | rfl | rfl
  all_goals (simp; omega)
set_option maxRecDepth 20000 in
set_option maxHeartbeats 40000000 in
theorem write_any (s : Sp) (MA LA : Option Addr) (mc lc : Nat) (w : World) (hT : Tabs w) (hI : SpI s) (hl : s.op.ms.length ≤ 70) (hld : s.load.length ≤ 4000) (hM : ES w w.heap.size MA 2 (mcs s.op.ms)) (hL : BS w w.heap.size LA s.load) :
    Calls Tryz.prog 23 #[.agg (SpC (.slice MA s.op.ms.length mc) (.slice LA s.load.length lc) s)] w (WordR w (writeP s)) := by
  have HT := Lib.hid hT
  have HM := Lib.hid hM
  have HLD := Lib.hid hL
  have HI := Lib.hid hI
  have HL := Lib.hid hl
  have lw := Nat.le_trans (numT_len hI.who) (show 20 ≤ 4000 by decide)
  have lt := Nat.le_trans (numT_len hI.time) (show 20 ≤ 4000 by decide)
  have lf := Nat.le_trans (numT_lenN (Nat.le_trans hI.flags (show 255 ≤ 4294967295 by decide))) (show 20 ≤ 4000 by decide)
  have ln := Nat.le_trans (numT_lenN hI.n) (show 20 ≤ 4000 by decide)
  have lx := Nat.le_trans (numT_lenN hI.x) (show 20 ≤ 4000 by decide)
  have ly := Nat.le_trans (numT_lenN hI.y) (show 20 ≤ 4000 by decide)
  have lp := Nat.le_trans (numT_lenN (Nat.le_trans hI.port (show 65535 ≤ 4294967295 by decide))) (show 20 ≤ 4000 by decide)
  have la := textA_len s.src
  have f0 : (0 : Int) ≤ (s.flags : Int) := Int.natCast_nonneg _
  have f1 : (s.flags : Int) ≤ 255 := by have := hI.flags; omega
  have p0 : (0 : Int) ≤ (s.port : Int) := Int.natCast_nonneg _
  have p1 : (s.port : Int) ≤ 65535 := by have := hI.port; omega
  obtain ⟨yld, hyld⟩ : ∃ y : ByteArray, y = ⟨s.load.toArray⟩ := ⟨_, rfl⟩
  have HYE := Lib.hid hyld
  have HYLD := Lib.hid (show yld.data.toList = s.load by rw [hyld])
  clear hT hM hI hl hL hyld
  unfold SpC
  go_enter Tryz.func23, Tryz.ntmps23
  go_upto_region 1 with fail
  obtain ⟨w0, hw0⟩ : ∃ w0 : World, w0 = w.alloc (.cells #[.int .i64 s.kind, .int .i64 s.op.kind, .int .i64 s.op.vip, .int .i64 s.op.backend, .int .i64 s.op.version, .bool s.op.a.six, .int .u64 (s.op.a.hi : Int), .int .u64 (s.op.a.lo : Int), .int .u16 (s.op.port : Int), .int .u8 (s.op.proto : Int), .int .i64 s.op.way, .slice MA s.op.ms.length mc, .int .i64 s.who, .int .i64 s.time, .int .u8 (s.flags : Int), .slice LA s.load.length lc, .int .u32 (s.n : Int), .int .u32 (s.x : Int), .int .u32 (s.y : Int), .bool s.src.six, .int .u64 (s.src.hi : Int), .int .u64 (s.src.lo : Int), .int .u16 (s.port : Int)] 33) := ⟨_, rfl⟩
  have HK0 := Lib.hid (show Kept (fun _ => False) w w0 by rw [hw0]; exact (Kept.refl _ _).alloc _)
  have HN0 := Lib.hid (show Blk w0 w.heap.size 33 #[.int .i64 s.kind, .int .i64 s.op.kind, .int .i64 s.op.vip, .int .i64 s.op.backend, .int .i64 s.op.version, .bool s.op.a.six, .int .u64 (s.op.a.hi : Int), .int .u64 (s.op.a.lo : Int), .int .u16 (s.op.port : Int), .int .u8 (s.op.proto : Int), .int .i64 s.op.way, .slice MA s.op.ms.length mc, .int .i64 s.who, .int .i64 s.time, .int .u8 (s.flags : Int), .slice LA s.load.length lc, .int .u32 (s.n : Int), .int .u32 (s.x : Int), .int .u32 (s.y : Int), .bool s.src.six, .int .u64 (s.src.hi : Int), .int .u64 (s.src.lo : Int), .int .u16 (s.port : Int)] by rw [hw0]; exact Blk.new _ _ _)
  rw [← hw0]
  clear hw0
  refine wp_region_kept 10 [(2, fun v u => ∃ y : ByteArray, v = .string y ∧ y.data.toList = numT s.who), (5, fun v u => ∃ y : ByteArray, v = .string y ∧ y.data.toList = numT s.time), (9, fun v u => ∃ y : ByteArray, v = .string y ∧ y.data.toList = numT (s.flags : Int))] ?st ?ne rfl (by kernel_rfl) (by kernel_rfl) ?_
  case st =>
    intro p hp
    simp only [List.mem_cons, List.not_mem_nil, or_false] at hp
    rcases hp with rfl | rfl | rfl
    · intro v u u' h hk; exact h
    · intro v u u' h hk; exact h
    · intro v u u' h hk; exact h
  case ne =>
    intro p hp
    simp only [List.mem_cons, List.not_mem_nil, or_false] at hp
    rcases hp with rfl | rfl | rfl
    · exact ⟨_, _, Kept.refl _ _, ⟨(numT s.who).toArray⟩, rfl, rfl⟩
    · exact ⟨_, _, Kept.refl _ _, ⟨(numT s.time).toArray⟩, rfl, rfl⟩
    · exact ⟨_, _, Kept.refl _ _, ⟨(numT (s.flags : Int)).toArray⟩, rfl, rfl⟩
  simp only [List.take_succ_cons, List.take_zero, List.drop_succ_cons, List.drop_zero]
  intro G pick hR hp1 hp2
  have sF : ∀ u i, (pick u).cell? ⟨w.heap.size, i, none⟩ = (#[.int .i64 s.kind, .int .i64 s.op.kind, .int .i64 s.op.vip, .int .i64 s.op.backend, .int .i64 s.op.version, .bool s.op.a.six, .int .u64 (s.op.a.hi : Int), .int .u64 (s.op.a.lo : Int), .int .u16 (s.op.port : Int), .int .u8 (s.op.proto : Int), .int .i64 s.op.way, .slice MA s.op.ms.length mc, .int .i64 s.who, .int .i64 s.time, .int .u8 (s.flags : Int), .slice LA s.load.length lc, .int .u32 (s.n : Int), .int .u32 (s.x : Int), .int .u32 (s.y : Int), .bool s.src.six, .int .u64 (s.src.hi : Int), .int .u64 (s.src.lo : Int), .int .u16 (s.port : Int)] : Array Value)[i]? := fun u i => ((hp1 u).cell HN0.out.lt (fun h => h) _).trans (HN0.out.cell i)
  repeat (first | (refine wpR_det hp2 rfl ((hR.rel _).trans rfl) rfl ?_; intro K hK; go_big_quiet_op; go_big_quiet_on) | (refine wpR_ptr hp2 rfl ((hR.rel _).trans rfl) rfl rfl ?_; intro K hK; go_big_quiet_op; go_big_quiet_on) | (refine wpR_skip pick rfl ?_; intro K hK; go_big_quiet_op; go_big_quiet_on))
  refine wpR_rel pick rfl ((hR.rel _).trans rfl) ((hR.turns _).trans rfl) ?_ ?_
  · intro u hu
    have hk := hR.since hu.1
    have hks := hk.size
    unfold relAt
    go_simp
    refine (num_any s.who HI.out.who.1 HI.out.who.2 u (HT.out.on (HK0.out.trans hk))).mono ?_
    rintro e w' ⟨y, rfl, hy, hk'⟩
    exact ⟨_, rfl, hR.into0 hk', hR.put 0 rfl rfl ⟨y, rfl, hy⟩⟩
  intro v hv
  obtain ⟨u, _, hu⟩ := hv
  obtain ⟨yw, rfl, hyw⟩ := hR.get 0 rfl hu
  clear hu
  have HYW := Lib.hid hyw
  clear hyw
  intro K hK
  go_big_quiet_op
  go_big_quiet_on
  repeat (first | (refine wpR_det hp2 rfl ((hR.rel _).trans rfl) rfl ?_; intro K hK; go_big_quiet_op; go_big_quiet_on) | (refine wpR_ptr hp2 rfl ((hR.rel _).trans rfl) rfl rfl ?_; intro K hK; go_big_quiet_op; go_big_quiet_on) | (refine wpR_skip pick rfl ?_; intro K hK; go_big_quiet_op; go_big_quiet_on))
  refine wpR_rel pick rfl ((hR.rel _).trans rfl) ((hR.turns _).trans rfl) ?_ ?_
  · intro u hu
    have hk := hR.since hu.1
    have hks := hk.size
    unfold relAt
    go_simp
    refine (num_any s.time HI.out.time.1 HI.out.time.2 u (HT.out.on (HK0.out.trans hk))).mono ?_
    rintro e w' ⟨y, rfl, hy, hk'⟩
    exact ⟨_, rfl, hR.into0 hk', hR.put 1 rfl rfl ⟨y, rfl, hy⟩⟩
  intro v hv
  obtain ⟨u, _, hu⟩ := hv
  obtain ⟨ya, rfl, hya⟩ := hR.get 1 rfl hu
  clear hu
  have HYA := Lib.hid hya
  clear hya
  intro K hK
  go_big_quiet_op
  go_big_quiet_on
  repeat (first | (refine wpR_det hp2 rfl ((hR.rel _).trans rfl) rfl ?_; intro K hK; go_big_quiet_op; go_big_quiet_on) | (refine wpR_ptr hp2 rfl ((hR.rel _).trans rfl) rfl rfl ?_; intro K hK; go_big_quiet_op; go_big_quiet_on) | (refine wpR_skip pick rfl ?_; intro K hK; go_big_quiet_op; go_big_quiet_on))
  refine wpR_rel pick rfl ((hR.rel _).trans rfl) ((hR.turns _).trans rfl) ?_ ?_
  · intro u hu
    have hk := hR.since hu.1
    have hks := hk.size
    unfold relAt
    go_simp
    refine (num_any (s.flags : Int) (by omega) (by omega) u (HT.out.on (HK0.out.trans hk))).mono ?_
    rintro e w' ⟨y, rfl, hy, hk'⟩
    exact ⟨_, rfl, hR.into0 hk', hR.put 2 rfl rfl ⟨y, rfl, hy⟩⟩
  intro v hv
  obtain ⟨u, _, hu⟩ := hv
  obtain ⟨yf, rfl, hyf⟩ := hR.get 2 rfl hu
  clear hu
  have HYF := Lib.hid hyf
  clear hyf
  intro K hK
  go_big_quiet_op
  go_big_quiet_on
  repeat (first | (refine wpR_det hp2 rfl ((hR.rel _).trans rfl) rfl ?_; intro K hK; go_big_quiet_op; go_big_quiet_on) | (refine wpR_ptr hp2 rfl ((hR.rel _).trans rfl) rfl rfl ?_; intro K hK; go_big_quiet_op; go_big_quiet_on) | (refine wpR_skip pick rfl ?_; intro K hK; go_big_quiet_op; go_big_quiet_on))
  refine wpR_nil ?_
  intro w1 hk2 hF hM
  have HK1 := Lib.hid (HK0.out.trans hk2)
  have HN1 := Lib.hid (HN0.out.kept hk2 (fun h => h))
  have wz := HK1.out.size
  clear hF hM hk2 hp1 hp2 hR sF HK0 HN0
  go_upto_region 2 with fail
  have cB := HN1.out.cell
  by_cases hk0 : s.kind = 0
  · skip
    have q0 : (s.kind == 0) = true := by rw [hk0]; rfl
    have HWR := Lib.hid (show writeP s = writeO s.op by unfold writeP writeO; rw [if_pos hk0])
    clear hk0
    have HML := Lib.hid (writeOp_any s.op MA mc w1 (HT.out.on HK1.out) HI.out.op HL.out (HM.out.on HK1.out (fun _ _ h => h)))
    unfold OC at HML
    have hrg : w1.rangeAt w.heap.size 1 [.int .i64 s.op.kind, .int .i64 s.op.vip, .int .i64 s.op.backend, .int .i64 s.op.version, .bool s.op.a.six, .int .u64 (s.op.a.hi : Int), .int .u64 (s.op.a.lo : Int), .int .u16 (s.op.port : Int), .int .u8 (s.op.proto : Int), .int .i64 s.op.way, .slice MA s.op.ms.length mc] := HN1.out.range1 (by rfl)
    go_wp2_with (show wpList _ _ _ ((⟨_, .load 29 (.tmp 20), _, _, _, none⟩ : Oper) :: _) _ _; refine wpList_load_mid rfl 29 (.tmp 20) rfl w.heap.size 1 rfl [.int .i64 s.op.kind, .int .i64 s.op.vip, .int .i64 s.op.backend, .int .i64 s.op.version, .bool s.op.a.six, .int .u64 (s.op.a.hi : Int), .int .u64 (s.op.a.lo : Int), .int .u16 (s.op.port : Int), .int .u8 (s.op.proto : Int), .int .i64 s.op.way, .slice MA s.op.ms.length mc] _ hrg Tryz.underlying29 rfl (by kernel_rfl) ?_)
    refine HML.out.mono ?_
    rintro e wE ⟨yL, rfl, hyL, hk⟩
    have HYL := Lib.hid hyL
    have HKE := Lib.hid (HK1.out.trans hk)
    clear hyL hk
    go_wp2_with fail
    go_ret
    exact ⟨yL, rfl, by rw [HYL.out, HWR.out]; try rfl, HKE.out⟩
  by_cases hk1 : s.kind = 1
  · skip
    have q0 : (s.kind == 0) = false := by rw [hk1]; rfl
    have q1 : (s.kind == 1) = true := by rw [hk1]; rfl
    have HWR := Lib.hid (show writeP s = joinC 32 [[99, 111, 109, 109, 105, 116]] by unfold writeP stepG; rw [if_neg (by omega), show cmdK s.kind = some (1, [99, 111, 109, 109, 105, 116], []) by rw [hk1]; rfl]; rfl)
    clear hk0 hk1
    go_wp2_with fail
    go_ret
    exact ⟨_, rfl, by rw [HWR.out]; rfl, HK1.out⟩
  by_cases hk2 : s.kind = 2
  · skip
    have q0 : (s.kind == 0) = false := by rw [hk2]; rfl
    have q1 : (s.kind == 1) = false := by rw [hk2]; rfl
    have q2 : (s.kind == 2) = true := by rw [hk2]; rfl
    have HWR := Lib.hid (show writeP s = joinC 32 [[99, 114, 97, 115, 104], numT s.who, numT (s.flags : Int)] by unfold writeP stepG; rw [if_neg (by omega), show cmdK s.kind = some (2, [99, 114, 97, 115, 104], [87, 70]) by rw [hk2]; rfl]; rfl)
    clear hk0 hk1 hk2
    have HLEN := Lib.hid (show (joinC 32 [[99, 114, 97, 115, 104], numT s.who, numT (s.flags : Int)]).length ≤ 140737488355328 from Nat.le_trans (joinC_len_le 32 4000 _ (by
          intro p hp
          simp only [List.mem_cons, List.not_mem_nil, or_false] at hp
          rcases hp with rfl | rfl | rfl
          all_goals first | decide | (show List.length _ ≤ 4000; simp; done) | omega)) (by simp))
    have HXS := Lib.hid (show ([(⟨#[99, 114, 97, 115, 104]⟩ : ByteArray), yw, yf] : List ByteArray).map (·.data.toList) = [[99, 114, 97, 115, 104], numT s.who, numT (s.flags : Int)] by simp only [List.map_cons, List.map_nil]; rw [HYW.out, HYF.out]; try rfl)
    have HRW := Lib.hid (show Row (w1.alloc (.cells #[.string (⟨#[99, 114, 97, 115, 104]⟩ : ByteArray), .string yw, .string yf] 9)) w1.heap.size 9 (.slice (some ⟨w1.heap.size, 0, none⟩) 3 3) (([(⟨#[99, 114, 97, 115, 104]⟩ : ByteArray), yw, yf] : List ByteArray).map Value.string) from Row.of_blk (Blk.new _ _ _) (Nat.le_refl _) (show 3 ≤ maxLen by decide) rfl)
    have HLN := Lib.hid (line_any [(⟨#[99, 114, 97, 115, 104]⟩ : ByteArray), yw, yf] HRW.out (by simp) (by simp) (by rw [HXS.out]; exact HLEN.out))
    rw [HXS.out] at HLN
    clear HXS HRW HLEN
    go_wp2_with fail
    refine HLN.out.mono ?_
    rintro e wE ⟨yL, rfl, hyL, hk⟩
    have HYL := Lib.hid hyL
    have HKE := Lib.hid ((HK1.out.alloc _).trans hk)
    clear hyL hk
    go_wp2_with fail
    go_ret
    exact ⟨yL, rfl, by rw [HYL.out, HWR.out]; try rfl, HKE.out⟩
  by_cases hk3 : s.kind = 3
  · skip
    have q0 : (s.kind == 0) = false := by rw [hk3]; rfl
    have q1 : (s.kind == 1) = false := by rw [hk3]; rfl
    have q2 : (s.kind == 2) = false := by rw [hk3]; rfl
    have q3 : (s.kind == 3) = true := by rw [hk3]; rfl
    have HWR := Lib.hid (show writeP s = joinC 32 [[111, 102, 102, 101, 114], numT s.who] by unfold writeP stepG; rw [if_neg (by omega), show cmdK s.kind = some (3, [111, 102, 102, 101, 114], [87]) by rw [hk3]; rfl]; rfl)
    clear hk0 hk1 hk2 hk3
    have HLEN := Lib.hid (show (joinC 32 [[111, 102, 102, 101, 114], numT s.who]).length ≤ 140737488355328 from Nat.le_trans (joinC_len_le 32 4000 _ (by
          intro p hp
          simp only [List.mem_cons, List.not_mem_nil, or_false] at hp
          rcases hp with rfl | rfl
          all_goals first | decide | (show List.length _ ≤ 4000; simp; done) | omega)) (by simp))
    have HXS := Lib.hid (show ([(⟨#[111, 102, 102, 101, 114]⟩ : ByteArray), yw] : List ByteArray).map (·.data.toList) = [[111, 102, 102, 101, 114], numT s.who] by simp only [List.map_cons, List.map_nil]; rw [HYW.out]; try rfl)
    have HRW := Lib.hid (show Row (w1.alloc (.cells #[.string (⟨#[111, 102, 102, 101, 114]⟩ : ByteArray), .string yw] 9)) w1.heap.size 9 (.slice (some ⟨w1.heap.size, 0, none⟩) 2 2) (([(⟨#[111, 102, 102, 101, 114]⟩ : ByteArray), yw] : List ByteArray).map Value.string) from Row.of_blk (Blk.new _ _ _) (Nat.le_refl _) (show 2 ≤ maxLen by decide) rfl)
    have HLN := Lib.hid (line_any [(⟨#[111, 102, 102, 101, 114]⟩ : ByteArray), yw] HRW.out (by simp) (by simp) (by rw [HXS.out]; exact HLEN.out))
    rw [HXS.out] at HLN
    clear HXS HRW HLEN
    go_wp2_with fail
    refine HLN.out.mono ?_
    rintro e wE ⟨yL, rfl, hyL, hk⟩
    have HYL := Lib.hid hyL
    have HKE := Lib.hid ((HK1.out.alloc _).trans hk)
    clear hyL hk
    go_wp2_with fail
    go_ret
    exact ⟨yL, rfl, by rw [HYL.out, HWR.out]; try rfl, HKE.out⟩
  by_cases hk4 : s.kind = 4
  · skip
    have q0 : (s.kind == 0) = false := by rw [hk4]; rfl
    have q1 : (s.kind == 1) = false := by rw [hk4]; rfl
    have q2 : (s.kind == 2) = false := by rw [hk4]; rfl
    have q3 : (s.kind == 3) = false := by rw [hk4]; rfl
    have q4 : (s.kind == 4) = true := by rw [hk4]; rfl
    have HWR := Lib.hid (show writeP s = joinC 32 [[100, 101, 108, 105, 118, 101, 114], numT s.who] by unfold writeP stepG; rw [if_neg (by omega), show cmdK s.kind = some (4, [100, 101, 108, 105, 118, 101, 114], [87]) by rw [hk4]; rfl]; rfl)
    clear hk0 hk1 hk2 hk3 hk4
    have HLEN := Lib.hid (show (joinC 32 [[100, 101, 108, 105, 118, 101, 114], numT s.who]).length ≤ 140737488355328 from Nat.le_trans (joinC_len_le 32 4000 _ (by
          intro p hp
          simp only [List.mem_cons, List.not_mem_nil, or_false] at hp
          rcases hp with rfl | rfl
          all_goals first | decide | (show List.length _ ≤ 4000; simp; done) | omega)) (by simp))
    have HXS := Lib.hid (show ([(⟨#[100, 101, 108, 105, 118, 101, 114]⟩ : ByteArray), yw] : List ByteArray).map (·.data.toList) = [[100, 101, 108, 105, 118, 101, 114], numT s.who] by simp only [List.map_cons, List.map_nil]; rw [HYW.out]; try rfl)
    have HRW := Lib.hid (show Row (w1.alloc (.cells #[.string (⟨#[100, 101, 108, 105, 118, 101, 114]⟩ : ByteArray), .string yw] 9)) w1.heap.size 9 (.slice (some ⟨w1.heap.size, 0, none⟩) 2 2) (([(⟨#[100, 101, 108, 105, 118, 101, 114]⟩ : ByteArray), yw] : List ByteArray).map Value.string) from Row.of_blk (Blk.new _ _ _) (Nat.le_refl _) (show 2 ≤ maxLen by decide) rfl)
    have HLN := Lib.hid (line_any [(⟨#[100, 101, 108, 105, 118, 101, 114]⟩ : ByteArray), yw] HRW.out (by simp) (by simp) (by rw [HXS.out]; exact HLEN.out))
    rw [HXS.out] at HLN
    clear HXS HRW HLEN
    go_wp2_with fail
    refine HLN.out.mono ?_
    rintro e wE ⟨yL, rfl, hyL, hk⟩
    have HYL := Lib.hid hyL
    have HKE := Lib.hid ((HK1.out.alloc _).trans hk)
    clear hyL hk
    go_wp2_with fail
    go_ret
    exact ⟨yL, rfl, by rw [HYL.out, HWR.out]; try rfl, HKE.out⟩
  by_cases hk5 : s.kind = 5
  · skip
    have q0 : (s.kind == 0) = false := by rw [hk5]; rfl
    have q1 : (s.kind == 1) = false := by rw [hk5]; rfl
    have q2 : (s.kind == 2) = false := by rw [hk5]; rfl
    have q3 : (s.kind == 3) = false := by rw [hk5]; rfl
    have q4 : (s.kind == 4) = false := by rw [hk5]; rfl
    have q5 : (s.kind == 5) = true := by rw [hk5]; rfl
    have HWR := Lib.hid (show writeP s = joinC 32 [[100, 114, 111, 112], numT s.who] by unfold writeP stepG; rw [if_neg (by omega), show cmdK s.kind = some (5, [100, 114, 111, 112], [87]) by rw [hk5]; rfl]; rfl)
    clear hk0 hk1 hk2 hk3 hk4 hk5
    have HLEN := Lib.hid (show (joinC 32 [[100, 114, 111, 112], numT s.who]).length ≤ 140737488355328 from Nat.le_trans (joinC_len_le 32 4000 _ (by
          intro p hp
          simp only [List.mem_cons, List.not_mem_nil, or_false] at hp
          rcases hp with rfl | rfl
          all_goals first | decide | (show List.length _ ≤ 4000; simp; done) | omega)) (by simp))
    have HXS := Lib.hid (show ([(⟨#[100, 114, 111, 112]⟩ : ByteArray), yw] : List ByteArray).map (·.data.toList) = [[100, 114, 111, 112], numT s.who] by simp only [List.map_cons, List.map_nil]; rw [HYW.out]; try rfl)
    have HRW := Lib.hid (show Row (w1.alloc (.cells #[.string (⟨#[100, 114, 111, 112]⟩ : ByteArray), .string yw] 9)) w1.heap.size 9 (.slice (some ⟨w1.heap.size, 0, none⟩) 2 2) (([(⟨#[100, 114, 111, 112]⟩ : ByteArray), yw] : List ByteArray).map Value.string) from Row.of_blk (Blk.new _ _ _) (Nat.le_refl _) (show 2 ≤ maxLen by decide) rfl)
    have HLN := Lib.hid (line_any [(⟨#[100, 114, 111, 112]⟩ : ByteArray), yw] HRW.out (by simp) (by simp) (by rw [HXS.out]; exact HLEN.out))
    rw [HXS.out] at HLN
    clear HXS HRW HLEN
    go_wp2_with fail
    refine HLN.out.mono ?_
    rintro e wE ⟨yL, rfl, hyL, hk⟩
    have HYL := Lib.hid hyL
    have HKE := Lib.hid ((HK1.out.alloc _).trans hk)
    clear hyL hk
    go_wp2_with fail
    go_ret
    exact ⟨yL, rfl, by rw [HYL.out, HWR.out]; try rfl, HKE.out⟩
  by_cases hk6 : s.kind = 6
  · skip
    have q0 : (s.kind == 0) = false := by rw [hk6]; rfl
    have q1 : (s.kind == 1) = false := by rw [hk6]; rfl
    have q2 : (s.kind == 2) = false := by rw [hk6]; rfl
    have q3 : (s.kind == 3) = false := by rw [hk6]; rfl
    have q4 : (s.kind == 4) = false := by rw [hk6]; rfl
    have q5 : (s.kind == 5) = false := by rw [hk6]; rfl
    have q6 : (s.kind == 6) = true := by rw [hk6]; rfl
    have HWR := Lib.hid (show writeP s = joinC 32 [[116, 119, 105, 99, 101], numT s.who] by unfold writeP stepG; rw [if_neg (by omega), show cmdK s.kind = some (6, [116, 119, 105, 99, 101], [87]) by rw [hk6]; rfl]; rfl)
    clear hk0 hk1 hk2 hk3 hk4 hk5 hk6
    have HLEN := Lib.hid (show (joinC 32 [[116, 119, 105, 99, 101], numT s.who]).length ≤ 140737488355328 from Nat.le_trans (joinC_len_le 32 4000 _ (by
          intro p hp
          simp only [List.mem_cons, List.not_mem_nil, or_false] at hp
          rcases hp with rfl | rfl
          all_goals first | decide | (show List.length _ ≤ 4000; simp; done) | omega)) (by simp))
    have HXS := Lib.hid (show ([(⟨#[116, 119, 105, 99, 101]⟩ : ByteArray), yw] : List ByteArray).map (·.data.toList) = [[116, 119, 105, 99, 101], numT s.who] by simp only [List.map_cons, List.map_nil]; rw [HYW.out]; try rfl)
    have HRW := Lib.hid (show Row (w1.alloc (.cells #[.string (⟨#[116, 119, 105, 99, 101]⟩ : ByteArray), .string yw] 9)) w1.heap.size 9 (.slice (some ⟨w1.heap.size, 0, none⟩) 2 2) (([(⟨#[116, 119, 105, 99, 101]⟩ : ByteArray), yw] : List ByteArray).map Value.string) from Row.of_blk (Blk.new _ _ _) (Nat.le_refl _) (show 2 ≤ maxLen by decide) rfl)
    have HLN := Lib.hid (line_any [(⟨#[116, 119, 105, 99, 101]⟩ : ByteArray), yw] HRW.out (by simp) (by simp) (by rw [HXS.out]; exact HLEN.out))
    rw [HXS.out] at HLN
    clear HXS HRW HLEN
    go_wp2_with fail
    refine HLN.out.mono ?_
    rintro e wE ⟨yL, rfl, hyL, hk⟩
    have HYL := Lib.hid hyL
    have HKE := Lib.hid ((HK1.out.alloc _).trans hk)
    clear hyL hk
    go_wp2_with fail
    go_ret
    exact ⟨yL, rfl, by rw [HYL.out, HWR.out]; try rfl, HKE.out⟩
  by_cases hk7 : s.kind = 7
  · skip
    have q0 : (s.kind == 0) = false := by rw [hk7]; rfl
    have q1 : (s.kind == 1) = false := by rw [hk7]; rfl
    have q2 : (s.kind == 2) = false := by rw [hk7]; rfl
    have q3 : (s.kind == 3) = false := by rw [hk7]; rfl
    have q4 : (s.kind == 4) = false := by rw [hk7]; rfl
    have q5 : (s.kind == 5) = false := by rw [hk7]; rfl
    have q6 : (s.kind == 6) = false := by rw [hk7]; rfl
    have q7 : (s.kind == 7) = true := by rw [hk7]; rfl
    have HWR := Lib.hid (show writeP s = joinC 32 [[114, 101, 115, 116, 97, 114, 116], numT s.who] by unfold writeP stepG; rw [if_neg (by omega), show cmdK s.kind = some (7, [114, 101, 115, 116, 97, 114, 116], [87]) by rw [hk7]; rfl]; rfl)
    clear hk0 hk1 hk2 hk3 hk4 hk5 hk6 hk7
    have HLEN := Lib.hid (show (joinC 32 [[114, 101, 115, 116, 97, 114, 116], numT s.who]).length ≤ 140737488355328 from Nat.le_trans (joinC_len_le 32 4000 _ (by
          intro p hp
          simp only [List.mem_cons, List.not_mem_nil, or_false] at hp
          rcases hp with rfl | rfl
          all_goals first | decide | (show List.length _ ≤ 4000; simp; done) | omega)) (by simp))
    have HXS := Lib.hid (show ([(⟨#[114, 101, 115, 116, 97, 114, 116]⟩ : ByteArray), yw] : List ByteArray).map (·.data.toList) = [[114, 101, 115, 116, 97, 114, 116], numT s.who] by simp only [List.map_cons, List.map_nil]; rw [HYW.out]; try rfl)
    have HRW := Lib.hid (show Row (w1.alloc (.cells #[.string (⟨#[114, 101, 115, 116, 97, 114, 116]⟩ : ByteArray), .string yw] 9)) w1.heap.size 9 (.slice (some ⟨w1.heap.size, 0, none⟩) 2 2) (([(⟨#[114, 101, 115, 116, 97, 114, 116]⟩ : ByteArray), yw] : List ByteArray).map Value.string) from Row.of_blk (Blk.new _ _ _) (Nat.le_refl _) (show 2 ≤ maxLen by decide) rfl)
    have HLN := Lib.hid (line_any [(⟨#[114, 101, 115, 116, 97, 114, 116]⟩ : ByteArray), yw] HRW.out (by simp) (by simp) (by rw [HXS.out]; exact HLEN.out))
    rw [HXS.out] at HLN
    clear HXS HRW HLEN
    go_wp2_with fail
    refine HLN.out.mono ?_
    rintro e wE ⟨yL, rfl, hyL, hk⟩
    have HYL := Lib.hid hyL
    have HKE := Lib.hid ((HK1.out.alloc _).trans hk)
    clear hyL hk
    go_wp2_with fail
    go_ret
    exact ⟨yL, rfl, by rw [HYL.out, HWR.out]; try rfl, HKE.out⟩
  by_cases hk8 : s.kind = 8
  · skip
    have q0 : (s.kind == 0) = false := by rw [hk8]; rfl
    have q1 : (s.kind == 1) = false := by rw [hk8]; rfl
    have q2 : (s.kind == 2) = false := by rw [hk8]; rfl
    have q3 : (s.kind == 3) = false := by rw [hk8]; rfl
    have q4 : (s.kind == 4) = false := by rw [hk8]; rfl
    have q5 : (s.kind == 5) = false := by rw [hk8]; rfl
    have q6 : (s.kind == 6) = false := by rw [hk8]; rfl
    have q7 : (s.kind == 7) = false := by rw [hk8]; rfl
    have q8 : (s.kind == 8) = true := by rw [hk8]; rfl
    have HWR := Lib.hid (show writeP s = joinC 32 [[114, 101, 112, 111, 114, 116], numT s.who, numT (s.n : Int), numT (s.flags : Int)] by unfold writeP stepG; rw [if_neg (by omega), show cmdK s.kind = some (8, [114, 101, 112, 111, 114, 116], [87, 78, 49]) by rw [hk8]; rfl]; rfl)
    clear hk0 hk1 hk2 hk3 hk4 hk5 hk6 hk7 hk8
    have HLEN := Lib.hid (show (joinC 32 [[114, 101, 112, 111, 114, 116], numT s.who, numT (s.n : Int), numT (s.flags : Int)]).length ≤ 140737488355328 from Nat.le_trans (joinC_len_le 32 4000 _ (by
          intro p hp
          simp only [List.mem_cons, List.not_mem_nil, or_false] at hp
          rcases hp with rfl | rfl | rfl | rfl
          all_goals first | decide | (show List.length _ ≤ 4000; simp; done) | omega)) (by simp))
    go_wp2_with fail
    refine (long_any s.n HI.out.n w1 (HT.out.on (HK1.out))).mono ?_
    rintro e w2 ⟨y1, rfl, hy1, hk⟩
    have HY1 := Lib.hid hy1
    have HK2 := Lib.hid (HK1.out.trans hk)
    have HN2 := Lib.hid (HN1.out.kept hk (fun h => h))
    clear hy1 hk cB HN1
    have cB := HN2.out.cell
    have HXS := Lib.hid (show ([(⟨#[114, 101, 112, 111, 114, 116]⟩ : ByteArray), yw, y1, yf] : List ByteArray).map (·.data.toList) = [[114, 101, 112, 111, 114, 116], numT s.who, numT (s.n : Int), numT (s.flags : Int)] by simp only [List.map_cons, List.map_nil]; rw [HYW.out, HY1.out, HYF.out]; try rfl)
    have HRW := Lib.hid (show Row (w2.alloc (.cells #[.string (⟨#[114, 101, 112, 111, 114, 116]⟩ : ByteArray), .string yw, .string y1, .string yf] 9)) w2.heap.size 9 (.slice (some ⟨w2.heap.size, 0, none⟩) 4 4) (([(⟨#[114, 101, 112, 111, 114, 116]⟩ : ByteArray), yw, y1, yf] : List ByteArray).map Value.string) from Row.of_blk (Blk.new _ _ _) (Nat.le_refl _) (show 4 ≤ maxLen by decide) rfl)
    have HLN := Lib.hid (line_any [(⟨#[114, 101, 112, 111, 114, 116]⟩ : ByteArray), yw, y1, yf] HRW.out (by simp) (by simp) (by rw [HXS.out]; exact HLEN.out))
    rw [HXS.out] at HLN
    clear HXS HRW HLEN
    go_wp2_with fail
    refine HLN.out.mono ?_
    rintro e wE ⟨yL, rfl, hyL, hk⟩
    have HYL := Lib.hid hyL
    have HKE := Lib.hid ((HK2.out.alloc _).trans hk)
    clear hyL hk
    go_wp2_with fail
    go_ret
    exact ⟨yL, rfl, by rw [HYL.out, HWR.out]; try rfl, HKE.out⟩
  by_cases hk11 : s.kind = 11
  · skip
    have q0 : (s.kind == 0) = false := by rw [hk11]; rfl
    have q1 : (s.kind == 1) = false := by rw [hk11]; rfl
    have q2 : (s.kind == 2) = false := by rw [hk11]; rfl
    have q3 : (s.kind == 3) = false := by rw [hk11]; rfl
    have q4 : (s.kind == 4) = false := by rw [hk11]; rfl
    have q5 : (s.kind == 5) = false := by rw [hk11]; rfl
    have q6 : (s.kind == 6) = false := by rw [hk11]; rfl
    have q7 : (s.kind == 7) = false := by rw [hk11]; rfl
    have q8 : (s.kind == 8) = false := by rw [hk11]; rfl
    have q11 : (s.kind == 11) = true := by rw [hk11]; rfl
    have HWR := Lib.hid (show writeP s = joinC 32 [[116, 105, 99, 107], numT (s.n : Int)] by unfold writeP stepG; rw [if_neg (by omega), show cmdK s.kind = some (11, [116, 105, 99, 107], [78]) by rw [hk11]; rfl]; rfl)
    clear hk0 hk1 hk2 hk3 hk4 hk5 hk6 hk7 hk8 hk11
    have HLEN := Lib.hid (show (joinC 32 [[116, 105, 99, 107], numT (s.n : Int)]).length ≤ 140737488355328 from Nat.le_trans (joinC_len_le 32 4000 _ (by
          intro p hp
          simp only [List.mem_cons, List.not_mem_nil, or_false] at hp
          rcases hp with rfl | rfl
          all_goals first | decide | (show List.length _ ≤ 4000; simp; done) | omega)) (by simp))
    go_wp2_with fail
    refine (long_any s.n HI.out.n w1 (HT.out.on (HK1.out))).mono ?_
    rintro e w2 ⟨y1, rfl, hy1, hk⟩
    have HY1 := Lib.hid hy1
    have HK2 := Lib.hid (HK1.out.trans hk)
    have HN2 := Lib.hid (HN1.out.kept hk (fun h => h))
    clear hy1 hk cB HN1
    have cB := HN2.out.cell
    have HXS := Lib.hid (show ([(⟨#[116, 105, 99, 107]⟩ : ByteArray), y1] : List ByteArray).map (·.data.toList) = [[116, 105, 99, 107], numT (s.n : Int)] by simp only [List.map_cons, List.map_nil]; rw [HY1.out]; try rfl)
    have HRW := Lib.hid (show Row (w2.alloc (.cells #[.string (⟨#[116, 105, 99, 107]⟩ : ByteArray), .string y1] 9)) w2.heap.size 9 (.slice (some ⟨w2.heap.size, 0, none⟩) 2 2) (([(⟨#[116, 105, 99, 107]⟩ : ByteArray), y1] : List ByteArray).map Value.string) from Row.of_blk (Blk.new _ _ _) (Nat.le_refl _) (show 2 ≤ maxLen by decide) rfl)
    have HLN := Lib.hid (line_any [(⟨#[116, 105, 99, 107]⟩ : ByteArray), y1] HRW.out (by simp) (by simp) (by rw [HXS.out]; exact HLEN.out))
    rw [HXS.out] at HLN
    clear HXS HRW HLEN
    go_wp2_with fail
    refine HLN.out.mono ?_
    rintro e wE ⟨yL, rfl, hyL, hk⟩
    have HYL := Lib.hid hyL
    have HKE := Lib.hid ((HK2.out.alloc _).trans hk)
    clear hyL hk
    go_wp2_with fail
    go_ret
    exact ⟨yL, rfl, by rw [HYL.out, HWR.out]; try rfl, HKE.out⟩
  by_cases hk15 : s.kind = 15
  · skip
    have q0 : (s.kind == 0) = false := by rw [hk15]; rfl
    have q1 : (s.kind == 1) = false := by rw [hk15]; rfl
    have q2 : (s.kind == 2) = false := by rw [hk15]; rfl
    have q3 : (s.kind == 3) = false := by rw [hk15]; rfl
    have q4 : (s.kind == 4) = false := by rw [hk15]; rfl
    have q5 : (s.kind == 5) = false := by rw [hk15]; rfl
    have q6 : (s.kind == 6) = false := by rw [hk15]; rfl
    have q7 : (s.kind == 7) = false := by rw [hk15]; rfl
    have q8 : (s.kind == 8) = false := by rw [hk15]; rfl
    have q11 : (s.kind == 11) = false := by rw [hk15]; rfl
    have q15 : (s.kind == 15) = true := by rw [hk15]; rfl
    have HWR := Lib.hid (show writeP s = joinC 32 [[115, 101, 116, 116, 108, 101], numT (s.n : Int)] by unfold writeP stepG; rw [if_neg (by omega), show cmdK s.kind = some (15, [115, 101, 116, 116, 108, 101], [57]) by rw [hk15]; rfl]; rfl)
    clear hk0 hk1 hk2 hk3 hk4 hk5 hk6 hk7 hk8 hk11 hk15
    have HLEN := Lib.hid (show (joinC 32 [[115, 101, 116, 116, 108, 101], numT (s.n : Int)]).length ≤ 140737488355328 from Nat.le_trans (joinC_len_le 32 4000 _ (by
          intro p hp
          simp only [List.mem_cons, List.not_mem_nil, or_false] at hp
          rcases hp with rfl | rfl
          all_goals first | decide | (show List.length _ ≤ 4000; simp; done) | omega)) (by simp))
    go_wp2_with fail
    refine (long_any s.n HI.out.n w1 (HT.out.on (HK1.out))).mono ?_
    rintro e w2 ⟨y1, rfl, hy1, hk⟩
    have HY1 := Lib.hid hy1
    have HK2 := Lib.hid (HK1.out.trans hk)
    have HN2 := Lib.hid (HN1.out.kept hk (fun h => h))
    clear hy1 hk cB HN1
    have cB := HN2.out.cell
    have HXS := Lib.hid (show ([(⟨#[115, 101, 116, 116, 108, 101]⟩ : ByteArray), y1] : List ByteArray).map (·.data.toList) = [[115, 101, 116, 116, 108, 101], numT (s.n : Int)] by simp only [List.map_cons, List.map_nil]; rw [HY1.out]; try rfl)
    have HRW := Lib.hid (show Row (w2.alloc (.cells #[.string (⟨#[115, 101, 116, 116, 108, 101]⟩ : ByteArray), .string y1] 9)) w2.heap.size 9 (.slice (some ⟨w2.heap.size, 0, none⟩) 2 2) (([(⟨#[115, 101, 116, 116, 108, 101]⟩ : ByteArray), y1] : List ByteArray).map Value.string) from Row.of_blk (Blk.new _ _ _) (Nat.le_refl _) (show 2 ≤ maxLen by decide) rfl)
    have HLN := Lib.hid (line_any [(⟨#[115, 101, 116, 116, 108, 101]⟩ : ByteArray), y1] HRW.out (by simp) (by simp) (by rw [HXS.out]; exact HLEN.out))
    rw [HXS.out] at HLN
    clear HXS HRW HLEN
    go_wp2_with fail
    refine HLN.out.mono ?_
    rintro e wE ⟨yL, rfl, hyL, hk⟩
    have HYL := Lib.hid hyL
    have HKE := Lib.hid ((HK2.out.alloc _).trans hk)
    clear hyL hk
    go_wp2_with fail
    go_ret
    exact ⟨yL, rfl, by rw [HYL.out, HWR.out]; try rfl, HKE.out⟩
  by_cases hk9 : s.kind = 9
  · skip
    have q0 : (s.kind == 0) = false := by rw [hk9]; rfl
    have q1 : (s.kind == 1) = false := by rw [hk9]; rfl
    have q2 : (s.kind == 2) = false := by rw [hk9]; rfl
    have q3 : (s.kind == 3) = false := by rw [hk9]; rfl
    have q4 : (s.kind == 4) = false := by rw [hk9]; rfl
    have q5 : (s.kind == 5) = false := by rw [hk9]; rfl
    have q6 : (s.kind == 6) = false := by rw [hk9]; rfl
    have q7 : (s.kind == 7) = false := by rw [hk9]; rfl
    have q8 : (s.kind == 8) = false := by rw [hk9]; rfl
    have q11 : (s.kind == 11) = false := by rw [hk9]; rfl
    have q15 : (s.kind == 15) = false := by rw [hk9]; rfl
    have q9 : (s.kind == 9) = true := by rw [hk9]; rfl
    have HWR := Lib.hid (show writeP s = joinC 32 [[115, 101, 110, 100], numT s.who, numT s.time, numT (s.flags : Int), numT (s.x : Int), numT (s.y : Int), s.load] by unfold writeP stepG; rw [if_neg (by omega), show cmdK s.kind = some (9, [115, 101, 110, 100], [87, 65, 70, 88, 89, 84]) by rw [hk9]; rfl]; rfl)
    clear hk0 hk1 hk2 hk3 hk4 hk5 hk6 hk7 hk8 hk11 hk15 hk9
    go_upto_region 26 with fail
    have HLEN := Lib.hid (show (joinC 32 [[115, 101, 110, 100], numT s.who, numT s.time, numT (s.flags : Int), numT (s.x : Int), numT (s.y : Int), s.load]).length ≤ 140737488355328 from Nat.le_trans (joinC_len_le 32 4000 _ (by
          intro p hp
          simp only [List.mem_cons, List.not_mem_nil, or_false] at hp
          rcases hp with rfl | rfl | rfl | rfl | rfl | rfl | rfl
          all_goals first | decide | (show List.length _ ≤ 4000; simp; done) | omega)) (by simp))
    refine wp_region_kept 14 [(5, fun v u => ∃ y : ByteArray, v = .string y ∧ y.data.toList = numT (s.x : Int)), (8, fun v u => ∃ y : ByteArray, v = .string y ∧ y.data.toList = numT (s.y : Int)), (11, fun v u => v = .string yld), (12, fun v u => ∃ xs : List ByteArray, xs.map (·.data.toList) = [[115, 101, 110, 100], numT s.who, numT s.time, numT (s.flags : Int), numT (s.x : Int), numT (s.y : Int), s.load] ∧ Row u w.heap.size 9 v (xs.map Value.string)), (13, fun v u => ∃ y : ByteArray, v = .string y ∧ y.data.toList = joinC 32 [[115, 101, 110, 100], numT s.who, numT s.time, numT (s.flags : Int), numT (s.x : Int), numT (s.y : Int), s.load])] ?st ?ne rfl (by kernel_rfl) (by kernel_rfl) ?_
    case st =>
      intro p hp
      simp only [List.mem_cons, List.not_mem_nil, or_false] at hp
      rcases hp with rfl | rfl | rfl | rfl | rfl
      · intro v u u' h hk; exact h
      · intro v u u' h hk; exact h
      · intro v u u' h hk; exact h
      · intro v u u' h hk; obtain ⟨xs, h1, h2⟩ := h; exact ⟨xs, h1, Row.kept h2 hk (fun _ _ h => h)⟩
      · intro v u u' h hk; exact h
    case ne =>
      intro p hp
      simp only [List.mem_cons, List.not_mem_nil, or_false] at hp
      rcases hp with rfl | rfl | rfl | rfl | rfl
      · exact ⟨_, _, Kept.refl _ _, ⟨(numT (s.x : Int)).toArray⟩, rfl, rfl⟩
      · exact ⟨_, _, Kept.refl _ _, ⟨(numT (s.y : Int)).toArray⟩, rfl, rfl⟩
      · exact ⟨_, _, Kept.refl _ _, rfl⟩
      · exact ⟨_, _, (Kept.refl _ _).alloc (.cells (([[115, 101, 110, 100], numT s.who, numT s.time, numT (s.flags : Int), numT (s.x : Int), numT (s.y : Int), s.load]).map fun l => Value.string ⟨l.toArray⟩).toArray 9), ([[115, 101, 110, 100], numT s.who, numT s.time, numT (s.flags : Int), numT (s.x : Int), numT (s.y : Int), s.load]).map fun l => ⟨l.toArray⟩, by simp, Row.of_blk (Blk.new _ _ _) (by omega) (by unfold maxLen; simp; try omega) (by simp)⟩
      · exact ⟨_, _, Kept.refl _ _, ⟨(joinC 32 [[115, 101, 110, 100], numT s.who, numT s.time, numT (s.flags : Int), numT (s.x : Int), numT (s.y : Int), s.load]).toArray⟩, rfl, rfl⟩
    simp only [List.take_succ_cons, List.take_zero, List.drop_succ_cons, List.drop_zero]
    intro G pick hR hp1 hp2
    have sF : ∀ u i, (pick u).cell? ⟨w.heap.size, i, none⟩ = (#[.int .i64 s.kind, .int .i64 s.op.kind, .int .i64 s.op.vip, .int .i64 s.op.backend, .int .i64 s.op.version, .bool s.op.a.six, .int .u64 (s.op.a.hi : Int), .int .u64 (s.op.a.lo : Int), .int .u16 (s.op.port : Int), .int .u8 (s.op.proto : Int), .int .i64 s.op.way, .slice MA s.op.ms.length mc, .int .i64 s.who, .int .i64 s.time, .int .u8 (s.flags : Int), .slice LA s.load.length lc, .int .u32 (s.n : Int), .int .u32 (s.x : Int), .int .u32 (s.y : Int), .bool s.src.six, .int .u64 (s.src.hi : Int), .int .u64 (s.src.lo : Int), .int .u16 (s.port : Int)] : Array Value)[i]? := fun u i => ((hp1 u).cell HN1.out.lt (fun h => h) _).trans (HN1.out.cell i)
    repeat (first | (refine wpR_det hp2 rfl ((hR.rel _).trans rfl) rfl ?_; intro K hK; go_big_quiet_op; go_big_quiet_on) | (refine wpR_ptr hp2 rfl ((hR.rel _).trans rfl) rfl rfl ?_; intro K hK; go_big_quiet_op; go_big_quiet_on) | (refine wpR_skip pick rfl ?_; intro K hK; go_big_quiet_op; go_big_quiet_on))
    refine wpR_rel pick rfl ((hR.rel _).trans rfl) ((hR.turns _).trans rfl) ?_ ?_
    · intro u hu
      have hk := hR.since hu.1
      have hks := hk.size
      unfold relAt
      go_simp
      refine (long_any s.x HI.out.x u (HT.out.on (HK1.out.trans hk))).mono ?_
      rintro e w' ⟨y, rfl, hy, hk'⟩
      exact ⟨_, rfl, hR.into0 hk', hR.put 0 rfl rfl ⟨y, rfl, hy⟩⟩
    intro v hv
    obtain ⟨u, _, hu⟩ := hv
    obtain ⟨y1, rfl, hy1⟩ := hR.get 0 rfl hu
    clear hu
    have HY1 := Lib.hid hy1
    clear hy1
    intro K hK
    go_big_quiet_op
    go_big_quiet_on
    repeat (first | (refine wpR_det hp2 rfl ((hR.rel _).trans rfl) rfl ?_; intro K hK; go_big_quiet_op; go_big_quiet_on) | (refine wpR_ptr hp2 rfl ((hR.rel _).trans rfl) rfl rfl ?_; intro K hK; go_big_quiet_op; go_big_quiet_on) | (refine wpR_skip pick rfl ?_; intro K hK; go_big_quiet_op; go_big_quiet_on))
    refine wpR_rel pick rfl ((hR.rel _).trans rfl) ((hR.turns _).trans rfl) ?_ ?_
    · intro u hu
      have hk := hR.since hu.1
      have hks := hk.size
      unfold relAt
      go_simp
      refine (long_any s.y HI.out.y u (HT.out.on (HK1.out.trans hk))).mono ?_
      rintro e w' ⟨y, rfl, hy, hk'⟩
      exact ⟨_, rfl, hR.into0 hk', hR.put 1 rfl rfl ⟨y, rfl, hy⟩⟩
    intro v hv
    obtain ⟨u, _, hu⟩ := hv
    obtain ⟨y2, rfl, hy2⟩ := hR.get 1 rfl hu
    clear hu
    have HY2 := Lib.hid hy2
    clear hy2
    intro K hK
    go_big_quiet_op
    go_big_quiet_on
    repeat (first | (refine wpR_det hp2 rfl ((hR.rel _).trans rfl) rfl ?_; intro K hK; go_big_quiet_op; go_big_quiet_on) | (refine wpR_ptr hp2 rfl ((hR.rel _).trans rfl) rfl rfl ?_; intro K hK; go_big_quiet_op; go_big_quiet_on) | (refine wpR_skip pick rfl ?_; intro K hK; go_big_quiet_op; go_big_quiet_on))
    refine wpR_rel pick rfl ((hR.rel _).trans rfl) ((hR.turns _).trans rfl) ?_ ?_
    · intro u hu
      have hk := hR.since hu.1
      have hks := hk.size
      have hcv := (HLD.out.on (HK1.out.trans hk) (fun _ _ h => h)).conv (P := Tryz.prog) (c := lc) Tryz.underlying30 Tryz.underlying5 Tryz.underlying9
      rw [← HYE.out] at hcv
      unfold relAt
      go_simp
      exact ⟨hR.same, hR.put 2 rfl rfl rfl⟩
    intro v hv
    obtain ⟨u, _, hu⟩ := hv
    obtain rfl := hR.get 2 rfl hu
    clear hu
    intro K hK
    go_big_quiet_op
    go_big_quiet_on
    repeat (first | (refine wpR_det hp2 rfl ((hR.rel _).trans rfl) rfl ?_; intro K hK; go_big_quiet_op; go_big_quiet_on) | (refine wpR_ptr hp2 rfl ((hR.rel _).trans rfl) rfl rfl ?_; intro K hK; go_big_quiet_op; go_big_quiet_on) | (refine wpR_skip pick rfl ?_; intro K hK; go_big_quiet_op; go_big_quiet_on))
    refine wpR_rel pick rfl ((hR.rel _).trans rfl) ((hR.turns _).trans rfl) ?_ ?_
    · intro u hu
      have hk := hR.since hu.1
      have hks := hk.size
      unfold relAt
      go_simp
      exact ⟨hR.into0 ((Kept.refl _ _).alloc _), hR.put 3 rfl rfl ⟨[(⟨#[115, 101, 110, 100]⟩ : ByteArray), yw, ya, yf, y1, y2, yld], by simp only [List.map_cons, List.map_nil]; rw [HYW.out, HYA.out, HYF.out, HY1.out, HY2.out, HYLD.out]; try rfl, Row.of_blk (Blk.new u 9 #[.string (⟨#[115, 101, 110, 100]⟩ : ByteArray), .string yw, .string ya, .string yf, .string y1, .string y2, .string yld]) (by omega) (show 7 ≤ maxLen by decide) rfl⟩⟩
    intro v hv
    obtain ⟨u, _, hu⟩ := hv
    obtain ⟨xs, hxs, hrxs⟩ := hR.get 3 rfl hu
    clear hu
    have HXS := Lib.hid hxs
    intro K hK
    go_big_quiet_op
    go_big_quiet_on
    repeat (first | (refine wpR_det hp2 rfl ((hR.rel _).trans rfl) rfl ?_; intro K hK; go_big_quiet_op; go_big_quiet_on) | (refine wpR_ptr hp2 rfl ((hR.rel _).trans rfl) rfl rfl ?_; intro K hK; go_big_quiet_op; go_big_quiet_on) | (refine wpR_skip pick rfl ?_; intro K hK; go_big_quiet_op; go_big_quiet_on))
    refine wpR_rel pick rfl ((hR.rel _).trans rfl) ((hR.turns _).trans rfl) ?_ ?_
    · intro u hu
      have hk := hR.since hu.1
      have hks := hk.size
      obtain ⟨xs', hx', hr'⟩ := (hR.get 3 rfl (hu.2 _ _ (Got.upd_self _ _ _) (by kernel_rfl)))
      have hne' : xs' ≠ [] := fun e => by rw [e] at hx'; cases hx'
      have hln' : xs'.length ≤ 1000 := by have := congrArg List.length hx'; simp at this; omega
      unfold relAt
      go_simp
      refine (line_any xs' hr' hne' hln' (by rw [hx']; exact HLEN.out)).mono ?_
      rintro e w' ⟨y, rfl, hy, hk'⟩
      exact ⟨_, rfl, hR.into0 hk', hR.put 4 rfl rfl ⟨y, rfl, by rw [hy, hx']⟩⟩
    intro v hv
    obtain ⟨u, _, hu⟩ := hv
    obtain ⟨yL, rfl, hyL⟩ := hR.get 4 rfl hu
    clear hu
    have HYL := Lib.hid hyL
    clear hyL
    intro K hK
    go_big_quiet_op
    go_big_quiet_on
    repeat (first | (refine wpR_det hp2 rfl ((hR.rel _).trans rfl) rfl ?_; intro K hK; go_big_quiet_op; go_big_quiet_on) | (refine wpR_ptr hp2 rfl ((hR.rel _).trans rfl) rfl rfl ?_; intro K hK; go_big_quiet_op; go_big_quiet_on) | (refine wpR_skip pick rfl ?_; intro K hK; go_big_quiet_op; go_big_quiet_on))
    refine wpR_nil ?_
    intro wE hk2 hF hM
    have HKE := Lib.hid (HK1.out.trans hk2)
    clear hF hM hk2 hp1 hp2 hR sF
    go_wp2_with fail
    go_ret
    exact ⟨yL, rfl, by rw [HYL.out, HWR.out]; try rfl, HKE.out⟩
  by_cases hk12 : s.kind = 12
  · skip
    have q0 : (s.kind == 0) = false := by rw [hk12]; rfl
    have q1 : (s.kind == 1) = false := by rw [hk12]; rfl
    have q2 : (s.kind == 2) = false := by rw [hk12]; rfl
    have q3 : (s.kind == 3) = false := by rw [hk12]; rfl
    have q4 : (s.kind == 4) = false := by rw [hk12]; rfl
    have q5 : (s.kind == 5) = false := by rw [hk12]; rfl
    have q6 : (s.kind == 6) = false := by rw [hk12]; rfl
    have q7 : (s.kind == 7) = false := by rw [hk12]; rfl
    have q8 : (s.kind == 8) = false := by rw [hk12]; rfl
    have q11 : (s.kind == 11) = false := by rw [hk12]; rfl
    have q15 : (s.kind == 15) = false := by rw [hk12]; rfl
    have q9 : (s.kind == 9) = false := by rw [hk12]; rfl
    have q12 : (s.kind == 12) = true := by rw [hk12]; rfl
    have HWR := Lib.hid (show writeP s = joinC 32 [[113, 117, 105, 99], numT s.who, numT s.time, s.load] by unfold writeP stepG; rw [if_neg (by omega), show cmdK s.kind = some (12, [113, 117, 105, 99], [87, 65, 84]) by rw [hk12]; rfl]; rfl)
    clear hk0 hk1 hk2 hk3 hk4 hk5 hk6 hk7 hk8 hk11 hk15 hk9 hk12
    have HLEN := Lib.hid (show (joinC 32 [[113, 117, 105, 99], numT s.who, numT s.time, s.load]).length ≤ 140737488355328 from Nat.le_trans (joinC_len_le 32 4000 _ (by
          intro p hp
          simp only [List.mem_cons, List.not_mem_nil, or_false] at hp
          rcases hp with rfl | rfl | rfl | rfl
          all_goals first | decide | (show List.length _ ≤ 4000; simp; done) | omega)) (by simp))
    have hcv := (HLD.out.on HK1.out (fun _ _ h => h)).conv (P := Tryz.prog) (c := lc) Tryz.underlying30 Tryz.underlying5 Tryz.underlying9
    rw [← HYE.out] at hcv
    have HXS := Lib.hid (show ([(⟨#[113, 117, 105, 99]⟩ : ByteArray), yw, ya, yld] : List ByteArray).map (·.data.toList) = [[113, 117, 105, 99], numT s.who, numT s.time, s.load] by simp only [List.map_cons, List.map_nil]; rw [HYW.out, HYA.out, HYLD.out]; try rfl)
    have HRW := Lib.hid (show Row (w1.alloc (.cells #[.string (⟨#[113, 117, 105, 99]⟩ : ByteArray), .string yw, .string ya, .string yld] 9)) w1.heap.size 9 (.slice (some ⟨w1.heap.size, 0, none⟩) 4 4) (([(⟨#[113, 117, 105, 99]⟩ : ByteArray), yw, ya, yld] : List ByteArray).map Value.string) from Row.of_blk (Blk.new _ _ _) (Nat.le_refl _) (show 4 ≤ maxLen by decide) rfl)
    have HLN := Lib.hid (line_any [(⟨#[113, 117, 105, 99]⟩ : ByteArray), yw, ya, yld] HRW.out (by simp) (by simp) (by rw [HXS.out]; exact HLEN.out))
    rw [HXS.out] at HLN
    clear HXS HRW HLEN
    go_wp2_with fail
    refine HLN.out.mono ?_
    rintro e wE ⟨yL, rfl, hyL, hk⟩
    have HYL := Lib.hid hyL
    have HKE := Lib.hid ((HK1.out.alloc _).trans hk)
    clear hyL hk
    go_wp2_with fail
    go_ret
    exact ⟨yL, rfl, by rw [HYL.out, HWR.out]; try rfl, HKE.out⟩
  by_cases hk10 : s.kind = 10
  · skip
    have q0 : (s.kind == 0) = false := by rw [hk10]; rfl
    have q1 : (s.kind == 1) = false := by rw [hk10]; rfl
    have q2 : (s.kind == 2) = false := by rw [hk10]; rfl
    have q3 : (s.kind == 3) = false := by rw [hk10]; rfl
    have q4 : (s.kind == 4) = false := by rw [hk10]; rfl
    have q5 : (s.kind == 5) = false := by rw [hk10]; rfl
    have q6 : (s.kind == 6) = false := by rw [hk10]; rfl
    have q7 : (s.kind == 7) = false := by rw [hk10]; rfl
    have q8 : (s.kind == 8) = false := by rw [hk10]; rfl
    have q11 : (s.kind == 11) = false := by rw [hk10]; rfl
    have q15 : (s.kind == 15) = false := by rw [hk10]; rfl
    have q9 : (s.kind == 9) = false := by rw [hk10]; rfl
    have q12 : (s.kind == 12) = false := by rw [hk10]; rfl
    have q10 : (s.kind == 10) = true := by rw [hk10]; rfl
    have HWR := Lib.hid (show writeP s = joinC 32 [[114, 101, 112, 108, 121], numT s.who, numT s.time, numT (s.flags : Int), s.load] by unfold writeP stepG; rw [if_neg (by omega), show cmdK s.kind = some (10, [114, 101, 112, 108, 121], [87, 65, 70, 84]) by rw [hk10]; rfl]; rfl)
    clear hk0 hk1 hk2 hk3 hk4 hk5 hk6 hk7 hk8 hk11 hk15 hk9 hk12 hk10
    have HLEN := Lib.hid (show (joinC 32 [[114, 101, 112, 108, 121], numT s.who, numT s.time, numT (s.flags : Int), s.load]).length ≤ 140737488355328 from Nat.le_trans (joinC_len_le 32 4000 _ (by
          intro p hp
          simp only [List.mem_cons, List.not_mem_nil, or_false] at hp
          rcases hp with rfl | rfl | rfl | rfl | rfl
          all_goals first | decide | (show List.length _ ≤ 4000; simp; done) | omega)) (by simp))
    have hcv := (HLD.out.on HK1.out (fun _ _ h => h)).conv (P := Tryz.prog) (c := lc) Tryz.underlying30 Tryz.underlying5 Tryz.underlying9
    rw [← HYE.out] at hcv
    have HXS := Lib.hid (show ([(⟨#[114, 101, 112, 108, 121]⟩ : ByteArray), yw, ya, yf, yld] : List ByteArray).map (·.data.toList) = [[114, 101, 112, 108, 121], numT s.who, numT s.time, numT (s.flags : Int), s.load] by simp only [List.map_cons, List.map_nil]; rw [HYW.out, HYA.out, HYF.out, HYLD.out]; try rfl)
    have HRW := Lib.hid (show Row (w1.alloc (.cells #[.string (⟨#[114, 101, 112, 108, 121]⟩ : ByteArray), .string yw, .string ya, .string yf, .string yld] 9)) w1.heap.size 9 (.slice (some ⟨w1.heap.size, 0, none⟩) 5 5) (([(⟨#[114, 101, 112, 108, 121]⟩ : ByteArray), yw, ya, yf, yld] : List ByteArray).map Value.string) from Row.of_blk (Blk.new _ _ _) (Nat.le_refl _) (show 5 ≤ maxLen by decide) rfl)
    have HLN := Lib.hid (line_any [(⟨#[114, 101, 112, 108, 121]⟩ : ByteArray), yw, ya, yf, yld] HRW.out (by simp) (by simp) (by rw [HXS.out]; exact HLEN.out))
    rw [HXS.out] at HLN
    clear HXS HRW HLEN
    go_wp2_with fail
    refine HLN.out.mono ?_
    rintro e wE ⟨yL, rfl, hyL, hk⟩
    have HYL := Lib.hid hyL
    have HKE := Lib.hid ((HK1.out.alloc _).trans hk)
    clear hyL hk
    go_wp2_with fail
    go_ret
    exact ⟨yL, rfl, by rw [HYL.out, HWR.out]; try rfl, HKE.out⟩
  by_cases hk13 : s.kind = 13
  · skip
    have q0 : (s.kind == 0) = false := by rw [hk13]; rfl
    have q1 : (s.kind == 1) = false := by rw [hk13]; rfl
    have q2 : (s.kind == 2) = false := by rw [hk13]; rfl
    have q3 : (s.kind == 3) = false := by rw [hk13]; rfl
    have q4 : (s.kind == 4) = false := by rw [hk13]; rfl
    have q5 : (s.kind == 5) = false := by rw [hk13]; rfl
    have q6 : (s.kind == 6) = false := by rw [hk13]; rfl
    have q7 : (s.kind == 7) = false := by rw [hk13]; rfl
    have q8 : (s.kind == 8) = false := by rw [hk13]; rfl
    have q11 : (s.kind == 11) = false := by rw [hk13]; rfl
    have q15 : (s.kind == 15) = false := by rw [hk13]; rfl
    have q9 : (s.kind == 9) = false := by rw [hk13]; rfl
    have q12 : (s.kind == 12) = false := by rw [hk13]; rfl
    have q10 : (s.kind == 10) = false := by rw [hk13]; rfl
    have q13 : (s.kind == 13) = true := by rw [hk13]; rfl
    have HWR := Lib.hid (show writeP s = joinC 32 [[103, 105, 118, 101], numT s.who, numT s.time] by unfold writeP stepG; rw [if_neg (by omega), show cmdK s.kind = some (13, [103, 105, 118, 101], [87, 65]) by rw [hk13]; rfl]; rfl)
    clear hk0 hk1 hk2 hk3 hk4 hk5 hk6 hk7 hk8 hk11 hk15 hk9 hk12 hk10 hk13
    have HLEN := Lib.hid (show (joinC 32 [[103, 105, 118, 101], numT s.who, numT s.time]).length ≤ 140737488355328 from Nat.le_trans (joinC_len_le 32 4000 _ (by
          intro p hp
          simp only [List.mem_cons, List.not_mem_nil, or_false] at hp
          rcases hp with rfl | rfl | rfl
          all_goals first | decide | (show List.length _ ≤ 4000; simp; done) | omega)) (by simp))
    have HXS := Lib.hid (show ([(⟨#[103, 105, 118, 101]⟩ : ByteArray), yw, ya] : List ByteArray).map (·.data.toList) = [[103, 105, 118, 101], numT s.who, numT s.time] by simp only [List.map_cons, List.map_nil]; rw [HYW.out, HYA.out]; try rfl)
    have HRW := Lib.hid (show Row (w1.alloc (.cells #[.string (⟨#[103, 105, 118, 101]⟩ : ByteArray), .string yw, .string ya] 9)) w1.heap.size 9 (.slice (some ⟨w1.heap.size, 0, none⟩) 3 3) (([(⟨#[103, 105, 118, 101]⟩ : ByteArray), yw, ya] : List ByteArray).map Value.string) from Row.of_blk (Blk.new _ _ _) (Nat.le_refl _) (show 3 ≤ maxLen by decide) rfl)
    have HLN := Lib.hid (line_any [(⟨#[103, 105, 118, 101]⟩ : ByteArray), yw, ya] HRW.out (by simp) (by simp) (by rw [HXS.out]; exact HLEN.out))
    rw [HXS.out] at HLN
    clear HXS HRW HLEN
    go_wp2_with fail
    refine HLN.out.mono ?_
    rintro e wE ⟨yL, rfl, hyL, hk⟩
    have HYL := Lib.hid hyL
    have HKE := Lib.hid ((HK1.out.alloc _).trans hk)
    clear hyL hk
    go_wp2_with fail
    go_ret
    exact ⟨yL, rfl, by rw [HYL.out, HWR.out]; try rfl, HKE.out⟩
  by_cases hk14 : s.kind = 14
  · skip
    have q0 : (s.kind == 0) = false := by rw [hk14]; rfl
    have q1 : (s.kind == 1) = false := by rw [hk14]; rfl
    have q2 : (s.kind == 2) = false := by rw [hk14]; rfl
    have q3 : (s.kind == 3) = false := by rw [hk14]; rfl
    have q4 : (s.kind == 4) = false := by rw [hk14]; rfl
    have q5 : (s.kind == 5) = false := by rw [hk14]; rfl
    have q6 : (s.kind == 6) = false := by rw [hk14]; rfl
    have q7 : (s.kind == 7) = false := by rw [hk14]; rfl
    have q8 : (s.kind == 8) = false := by rw [hk14]; rfl
    have q11 : (s.kind == 11) = false := by rw [hk14]; rfl
    have q15 : (s.kind == 15) = false := by rw [hk14]; rfl
    have q9 : (s.kind == 9) = false := by rw [hk14]; rfl
    have q12 : (s.kind == 12) = false := by rw [hk14]; rfl
    have q10 : (s.kind == 10) = false := by rw [hk14]; rfl
    have q13 : (s.kind == 13) = false := by rw [hk14]; rfl
    have q14 : (s.kind == 14) = true := by rw [hk14]; rfl
    have HWR := Lib.hid (show writeP s = joinC 32 [[109, 111, 118, 101], numT s.who, textA s.src, numT (s.port : Int)] by unfold writeP stepG; rw [if_neg (by omega), show cmdK s.kind = some (14, [109, 111, 118, 101], [87, 97, 80]) by rw [hk14]; rfl]; rfl)
    clear hk0 hk1 hk2 hk3 hk4 hk5 hk6 hk7 hk8 hk11 hk15 hk9 hk12 hk10 hk13 hk14
    go_upto_region 34 with fail
    have HLEN := Lib.hid (show (joinC 32 [[109, 111, 118, 101], numT s.who, textA s.src, numT (s.port : Int)]).length ≤ 140737488355328 from Nat.le_trans (joinC_len_le 32 4000 _ (by
          intro p hp
          simp only [List.mem_cons, List.not_mem_nil, or_false] at hp
          rcases hp with rfl | rfl | rfl | rfl
          all_goals first | decide | (show List.length _ ≤ 4000; simp; done) | omega)) (by simp))
    refine wp_region_kept 10 [(3, fun v u => ∃ y : ByteArray, v = .string y ∧ y.data.toList = textA s.src), (7, fun v u => ∃ y : ByteArray, v = .string y ∧ y.data.toList = numT (s.port : Int)), (8, fun v u => ∃ xs : List ByteArray, xs.map (·.data.toList) = [[109, 111, 118, 101], numT s.who, textA s.src, numT (s.port : Int)] ∧ Row u w.heap.size 9 v (xs.map Value.string)), (9, fun v u => ∃ y : ByteArray, v = .string y ∧ y.data.toList = joinC 32 [[109, 111, 118, 101], numT s.who, textA s.src, numT (s.port : Int)])] ?st ?ne rfl (by kernel_rfl) (by kernel_rfl) ?_
    case st =>
      intro p hp
      simp only [List.mem_cons, List.not_mem_nil, or_false] at hp
      rcases hp with rfl | rfl | rfl | rfl
      · intro v u u' h hk; exact h
      · intro v u u' h hk; exact h
      · intro v u u' h hk; obtain ⟨xs, h1, h2⟩ := h; exact ⟨xs, h1, Row.kept h2 hk (fun _ _ h => h)⟩
      · intro v u u' h hk; exact h
    case ne =>
      intro p hp
      simp only [List.mem_cons, List.not_mem_nil, or_false] at hp
      rcases hp with rfl | rfl | rfl | rfl
      · exact ⟨_, _, Kept.refl _ _, ⟨(textA s.src).toArray⟩, rfl, rfl⟩
      · exact ⟨_, _, Kept.refl _ _, ⟨(numT (s.port : Int)).toArray⟩, rfl, rfl⟩
      · exact ⟨_, _, (Kept.refl _ _).alloc (.cells (([[109, 111, 118, 101], numT s.who, textA s.src, numT (s.port : Int)]).map fun l => Value.string ⟨l.toArray⟩).toArray 9), ([[109, 111, 118, 101], numT s.who, textA s.src, numT (s.port : Int)]).map fun l => ⟨l.toArray⟩, by simp, Row.of_blk (Blk.new _ _ _) (by omega) (by unfold maxLen; simp; try omega) (by simp)⟩
      · exact ⟨_, _, Kept.refl _ _, ⟨(joinC 32 [[109, 111, 118, 101], numT s.who, textA s.src, numT (s.port : Int)]).toArray⟩, rfl, rfl⟩
    simp only [List.take_succ_cons, List.take_zero, List.drop_succ_cons, List.drop_zero]
    intro G pick hR hp1 hp2
    have sF : ∀ u i, (pick u).cell? ⟨w.heap.size, i, none⟩ = (#[.int .i64 s.kind, .int .i64 s.op.kind, .int .i64 s.op.vip, .int .i64 s.op.backend, .int .i64 s.op.version, .bool s.op.a.six, .int .u64 (s.op.a.hi : Int), .int .u64 (s.op.a.lo : Int), .int .u16 (s.op.port : Int), .int .u8 (s.op.proto : Int), .int .i64 s.op.way, .slice MA s.op.ms.length mc, .int .i64 s.who, .int .i64 s.time, .int .u8 (s.flags : Int), .slice LA s.load.length lc, .int .u32 (s.n : Int), .int .u32 (s.x : Int), .int .u32 (s.y : Int), .bool s.src.six, .int .u64 (s.src.hi : Int), .int .u64 (s.src.lo : Int), .int .u16 (s.port : Int)] : Array Value)[i]? := fun u i => ((hp1 u).cell HN1.out.lt (fun h => h) _).trans (HN1.out.cell i)
    repeat (first | (refine wpR_det hp2 rfl ((hR.rel _).trans rfl) rfl ?_; intro K hK; go_big_quiet_op; go_big_quiet_on) | (refine wpR_ptr hp2 rfl ((hR.rel _).trans rfl) rfl rfl ?_; intro K hK; go_big_quiet_op; go_big_quiet_on) | (refine wpR_skip pick rfl ?_; intro K hK; go_big_quiet_op; go_big_quiet_on))
    refine wpR_rel pick rfl ((hR.rel _).trans rfl) ((hR.turns _).trans rfl) ?_ ?_
    · intro u hu
      have hk := hR.since hu.1
      have hks := hk.size
      unfold relAt
      go_simp
      refine (text_any s.src HI.out.hi HI.out.lo u (HT.out.on (HK1.out.trans hk))).mono ?_
      rintro e w' ⟨y, rfl, hy, hk'⟩
      exact ⟨_, rfl, hR.into0 hk', hR.put 0 rfl rfl ⟨y, rfl, hy⟩⟩
    intro v hv
    obtain ⟨u, _, hu⟩ := hv
    obtain ⟨y1, rfl, hy1⟩ := hR.get 0 rfl hu
    clear hu
    have HY1 := Lib.hid hy1
    clear hy1
    intro K hK
    go_big_quiet_op
    go_big_quiet_on
    repeat (first | (refine wpR_det hp2 rfl ((hR.rel _).trans rfl) rfl ?_; intro K hK; go_big_quiet_op; go_big_quiet_on) | (refine wpR_ptr hp2 rfl ((hR.rel _).trans rfl) rfl rfl ?_; intro K hK; go_big_quiet_op; go_big_quiet_on) | (refine wpR_skip pick rfl ?_; intro K hK; go_big_quiet_op; go_big_quiet_on))
    refine wpR_rel pick rfl ((hR.rel _).trans rfl) ((hR.turns _).trans rfl) ?_ ?_
    · intro u hu
      have hk := hR.since hu.1
      have hks := hk.size
      unfold relAt
      go_simp
      refine (num_any (s.port : Int) (by omega) (by omega) u (HT.out.on (HK1.out.trans hk))).mono ?_
      rintro e w' ⟨y, rfl, hy, hk'⟩
      exact ⟨_, rfl, hR.into0 hk', hR.put 1 rfl rfl ⟨y, rfl, hy⟩⟩
    intro v hv
    obtain ⟨u, _, hu⟩ := hv
    obtain ⟨y2, rfl, hy2⟩ := hR.get 1 rfl hu
    clear hu
    have HY2 := Lib.hid hy2
    clear hy2
    intro K hK
    go_big_quiet_op
    go_big_quiet_on
    repeat (first | (refine wpR_det hp2 rfl ((hR.rel _).trans rfl) rfl ?_; intro K hK; go_big_quiet_op; go_big_quiet_on) | (refine wpR_ptr hp2 rfl ((hR.rel _).trans rfl) rfl rfl ?_; intro K hK; go_big_quiet_op; go_big_quiet_on) | (refine wpR_skip pick rfl ?_; intro K hK; go_big_quiet_op; go_big_quiet_on))
    refine wpR_rel pick rfl ((hR.rel _).trans rfl) ((hR.turns _).trans rfl) ?_ ?_
    · intro u hu
      have hk := hR.since hu.1
      have hks := hk.size
      unfold relAt
      go_simp
      exact ⟨hR.into0 ((Kept.refl _ _).alloc _), hR.put 2 rfl rfl ⟨[(⟨#[109, 111, 118, 101]⟩ : ByteArray), yw, y1, y2], by simp only [List.map_cons, List.map_nil]; rw [HYW.out, HY1.out, HY2.out]; try rfl, Row.of_blk (Blk.new u 9 #[.string (⟨#[109, 111, 118, 101]⟩ : ByteArray), .string yw, .string y1, .string y2]) (by omega) (show 4 ≤ maxLen by decide) rfl⟩⟩
    intro v hv
    obtain ⟨u, _, hu⟩ := hv
    obtain ⟨xs, hxs, hrxs⟩ := hR.get 2 rfl hu
    clear hu
    have HXS := Lib.hid hxs
    intro K hK
    go_big_quiet_op
    go_big_quiet_on
    repeat (first | (refine wpR_det hp2 rfl ((hR.rel _).trans rfl) rfl ?_; intro K hK; go_big_quiet_op; go_big_quiet_on) | (refine wpR_ptr hp2 rfl ((hR.rel _).trans rfl) rfl rfl ?_; intro K hK; go_big_quiet_op; go_big_quiet_on) | (refine wpR_skip pick rfl ?_; intro K hK; go_big_quiet_op; go_big_quiet_on))
    refine wpR_rel pick rfl ((hR.rel _).trans rfl) ((hR.turns _).trans rfl) ?_ ?_
    · intro u hu
      have hk := hR.since hu.1
      have hks := hk.size
      obtain ⟨xs', hx', hr'⟩ := (hR.get 2 rfl (hu.2 _ _ (Got.upd_self _ _ _) (by kernel_rfl)))
      have hne' : xs' ≠ [] := fun e => by rw [e] at hx'; cases hx'
      have hln' : xs'.length ≤ 1000 := by have := congrArg List.length hx'; simp at this; omega
      unfold relAt
      go_simp
      refine (line_any xs' hr' hne' hln' (by rw [hx']; exact HLEN.out)).mono ?_
      rintro e w' ⟨y, rfl, hy, hk'⟩
      exact ⟨_, rfl, hR.into0 hk', hR.put 3 rfl rfl ⟨y, rfl, by rw [hy, hx']⟩⟩
    intro v hv
    obtain ⟨u, _, hu⟩ := hv
    obtain ⟨yL, rfl, hyL⟩ := hR.get 3 rfl hu
    clear hu
    have HYL := Lib.hid hyL
    clear hyL
    intro K hK
    go_big_quiet_op
    go_big_quiet_on
    repeat (first | (refine wpR_det hp2 rfl ((hR.rel _).trans rfl) rfl ?_; intro K hK; go_big_quiet_op; go_big_quiet_on) | (refine wpR_ptr hp2 rfl ((hR.rel _).trans rfl) rfl rfl ?_; intro K hK; go_big_quiet_op; go_big_quiet_on) | (refine wpR_skip pick rfl ?_; intro K hK; go_big_quiet_op; go_big_quiet_on))
    refine wpR_nil ?_
    intro wE hk2 hF hM
    have HKE := Lib.hid (HK1.out.trans hk2)
    clear hF hM hk2 hp1 hp2 hR sF
    go_wp2_with fail
    go_ret
    exact ⟨yL, rfl, by rw [HYL.out, HWR.out]; try rfl, HKE.out⟩
  have HWR := Lib.hid (show writeP s = [] by unfold writeP stepG; rw [if_neg hk0, cmdK_none (by omega)])
  have q0 : (s.kind == 0) = false := beq_eq_false_iff_ne.2 hk0
  have q1 : (s.kind == 1) = false := beq_eq_false_iff_ne.2 hk1
  have q2 : (s.kind == 2) = false := beq_eq_false_iff_ne.2 hk2
  have q3 : (s.kind == 3) = false := beq_eq_false_iff_ne.2 hk3
  have q4 : (s.kind == 4) = false := beq_eq_false_iff_ne.2 hk4
  have q5 : (s.kind == 5) = false := beq_eq_false_iff_ne.2 hk5
  have q6 : (s.kind == 6) = false := beq_eq_false_iff_ne.2 hk6
  have q7 : (s.kind == 7) = false := beq_eq_false_iff_ne.2 hk7
  have q8 : (s.kind == 8) = false := beq_eq_false_iff_ne.2 hk8
  have q11 : (s.kind == 11) = false := beq_eq_false_iff_ne.2 hk11
  have q15 : (s.kind == 15) = false := beq_eq_false_iff_ne.2 hk15
  have q9 : (s.kind == 9) = false := beq_eq_false_iff_ne.2 hk9
  have q12 : (s.kind == 12) = false := beq_eq_false_iff_ne.2 hk12
  have q10 : (s.kind == 10) = false := beq_eq_false_iff_ne.2 hk10
  have q13 : (s.kind == 13) = false := beq_eq_false_iff_ne.2 hk13
  have q14 : (s.kind == 14) = false := beq_eq_false_iff_ne.2 hk14
  clear hk0 hk1 hk2 hk3 hk4 hk5 hk6 hk7 hk8 hk11 hk15 hk9 hk12 hk10 hk13 hk14
  go_wp2_with fail
  go_ret
  exact ⟨_, rfl, by rw [HWR.out], HK1.out⟩
end Go.Proofs.YthfdhggcnkgjfaaGreatDoor
