/- The parses in one form; the law ScriptReads. -/
import Derived.Test.YthfdhggcnkgjfaaGreatDoorUI
import Derived.Test.YthfdhggcnkgjfaaGreatDoorPlainR
namespace Go.Proofs.YthfdhggcnkgjfaaGreatDoor
open Go.RowKit
set_option linter.unusedVariables false
set_option linter.unusedSimpArgs false
/-- A step in memory: its members, its load. -/
structure StM (w : World) (s : Sp) (MA : Option Addr) (mc : Nat) (LA : Option Addr) (lc : Nat) : Prop where
  m1 : s.op.ms.length ≤ mc
  m2 : mc ≤ maxLen
  ms : ES w w.heap.size MA 2 (mcs s.op.ms)
  l1 : s.load.length ≤ lc
  l2 : lc ≤ maxLen
  ld : BS w w.heap.size LA s.load
theorem StM.on {w w' : World} {s : Sp} {MA LA : Option Addr} {mc lc : Nat} (h : StM w s MA mc LA lc) (hk : Kept (fun _ => False) w w') : StM w' s MA mc LA lc := ⟨h.m1, h.m2, h.ms.on hk (fun _ _ h => h), h.l1, h.l2, h.ld.on hk (fun _ _ h => h)⟩
theorem StM.zero (w : World) : StM w Sp.zero none 0 none 0 := ⟨Nat.le_refl _, by decide, .nil, Nat.le_refl _, by decide, .nil⟩
theorem parse_gen (y : ByteArray) (hz : y.size ≤ 4000) (w : World) : Calls Tryz.prog 6 #[.string y] w fun e w' => ∃ MA mc LA lc, e = .returned (.tuple #[.agg (SpC (.slice MA ((lineP y.data.toList).getD Sp.zero).op.ms.length mc) (.slice LA ((lineP y.data.toList).getD Sp.zero).load.length lc) ((lineP y.data.toList).getD Sp.zero)), .int .i64 (if (lineP y.data.toList).isSome = true then 0 else 21)]) ∧ StM w' ((lineP y.data.toList).getD Sp.zero) MA mc LA lc ∧ Kept (fun _ => False) w w' := by
  refine (parse_any y hz w).mono ?_
  rintro e w' ⟨hb, hm⟩
  generalize lineP y.data.toList = o at hm ⊢
  cases o with
  | none =>
    obtain rfl : e = _ := hm
    exact ⟨none, 0, none, 0, rfl, StM.zero _, Kept.ofB hb⟩
  | some s =>
    obtain ⟨mv, lv, rfl, hmem, hld⟩ := hm
    obtain ⟨MA, mc, rfl, h1, h2, h3⟩ := RowN.es hmem
    obtain ⟨LA, lc, rfl, h4, h5, h6⟩ := hld.byt
    rw [mcs_len] at h1 ⊢
    exact ⟨MA, mc, LA, lc, rfl, ⟨h1, h2, h3, h4, h5, h6⟩, Kept.ofB hb⟩
theorem refParse_gen (y : ByteArray) (hz : y.size ≤ 4000) (w : World) : Calls Tryz.prog 7 #[.string y] w fun e w' => ∃ MA mc LA lc, e = .returned (.tuple #[.agg (SpC (.slice MA ((lineP y.data.toList).getD Sp.zero).op.ms.length mc) (.slice LA ((lineP y.data.toList).getD Sp.zero).load.length lc) ((lineP y.data.toList).getD Sp.zero)), .bool (lineP y.data.toList).isSome]) ∧ StM w' ((lineP y.data.toList).getD Sp.zero) MA mc LA lc ∧ Kept (fun _ => False) w w' := by
  refine (refParse_any y hz w).mono ?_
  rintro e w' ⟨hb, hm⟩
  generalize lineP y.data.toList = o at hm ⊢
  cases o with
  | none =>
    obtain rfl : e = _ := hm
    exact ⟨none, 0, none, 0, rfl, StM.zero _, Kept.ofB hb⟩
  | some s =>
    obtain ⟨mv, lv, rfl, hmem, hld⟩ := hm
    obtain ⟨MA, mc, rfl, h1, h2, h3⟩ := RowN.es hmem
    obtain ⟨LA, lc, rfl, h4, h5, h6⟩ := hld.byt
    rw [mcs_len] at h1 ⊢
    exact ⟨MA, mc, LA, lc, rfl, ⟨h1, h2, h3, h4, h5, h6⟩, Kept.ofB hb⟩
theorem kbel {w w' : World} (h : Kept (fun _ => False) w w') : Below w.heap.size w w' := h.below (Nat.le_refl _) (fun i h => h.elim)
set_option maxRecDepth 20000 in
set_option maxHeartbeats 40000000 in
theorem reads_any (s : ByteArray) (hs : s.size ≤ 9223372036854775807) (w : World) (hT : Tabs w) : Calls Tryz.prog 3 #[.string s] w fun e w' => e = .returned (.bool true) ∧ Below w.heap.size w w' := by
  have hs0 : (0 : Int) ≤ (s.size : Int) := Int.natCast_nonneg _
  have hs1 : (s.size : Int) ≤ 9223372036854775807 := by omega
  have HT := Lib.hid hT
  clear hT
  by_cases hl : 600 < s.size
  · have hI : (600 : Int) < (s.size : Int) := by omega
    go_enter Tryz.func3, Tryz.ntmps3
    go_wp2_with fail
    refine (awake_any w).mono ?_
    rintro e w1 ⟨rfl, hk⟩
    go_wp2_with fail
    go_ret
    exact ⟨rfl, kbel hk⟩
  · have hI : ¬ (600 : Int) < (s.size : Int) := by omega
    have HX := Lib.hid (fun W => parse_gen s (by omega) W)
    have HY := Lib.hid (fun W => refParse_gen s (by omega) W)
    obtain ⟨o, ho⟩ : ∃ o, lineP s.data.toList = o := ⟨_, rfl⟩
    rw [ho] at HX HY
    obtain ⟨sp, hsp⟩ : ∃ sp, o.getD Sp.zero = sp := ⟨_, rfl⟩
    rw [hsp] at HX HY
    have HL70 := Lib.hid (show sp.op.ms.length ≤ 70 by
      rw [← hsp]
      cases o with
      | none => exact Nat.zero_le _
      | some t => exact Nat.le_trans (line_len ho) (by decide))
    cases o with
    | none =>
      obtain rfl : Sp.zero = sp := hsp
      go_enter Tryz.func3, Tryz.ntmps3
      go_wp2_with fail
      refine (HX.out w).mono ?_
      rintro e w1 ⟨MX, cX, LX, lX, rfl, hst, hk⟩
      have HSX1 := Lib.hid hst
      have HK1 := Lib.hid hk
      clear hst hk HX
      obtain ⟨sp, hspz⟩ : ∃ sp, Sp.zero = sp := ⟨_, rfl⟩
      rw [hspz] at HL70 HSX1 HY ⊢
      clear hspz
      unfold SpC
      go_upto_region 4 with (show wpList _ _ _ ((⟨none, .store 33 (.tmp 3) _, _, _, _, none⟩ : Oper) :: _) _ _; refine wpList_store_mid rfl 33 (.tmp 3) _ rfl w1.heap.size 0 #[.int .i64 sp.kind, .int .i64 sp.op.kind, .int .i64 sp.op.vip, .int .i64 sp.op.backend, .int .i64 sp.op.version, .bool sp.op.a.six, .int .u64 (sp.op.a.hi : Int), .int .u64 (sp.op.a.lo : Int), .int .u16 (sp.op.port : Int), .int .u8 (sp.op.proto : Int), .int .i64 sp.op.way, .slice MX sp.op.ms.length cX, .int .i64 sp.who, .int .i64 sp.time, .int .u8 (sp.flags : Int), .slice LX sp.load.length lX, .int .u32 (sp.n : Int), .int .u32 (sp.x : Int), .int .u32 (sp.y : Int), .bool sp.src.six, .int .u64 (sp.src.hi : Int), .int .u64 (sp.src.lo : Int), .int .u16 (sp.port : Int)] rfl rfl ((Blk.new w1 33 #[.int .i64 0, .int .i64 0, .int .i64 0, .int .i64 0, .int .i64 0, .bool false, .int .u64 0, .int .u64 0, .int .u16 0, .int .u8 0, .int .i64 0, .slice none 0 0, .int .i64 0, .int .i64 0, .int .u8 0, .slice none 0 0, .int .u32 0, .int .u32 0, .int .u32 0, .bool false, .int .u64 0, .int .u64 0, .int .u16 0]).there rfl) (by kernel_rfl) (by simp [Value.oneCell']) ?_)
      generalize hw2 : (World.setCells _ _ _ _) = w2
      have HKA := Lib.hid (show Kept (fun _ => False) w1 w2 by rw [← hw2]; exact ((Kept.refl _ _).alloc _).then (Kept.setCells (S := fun i => i = w1.heap.size) rfl _ _ (Kept.refl _ _)) (fun i hi e => by omega))
      have HX2 := Lib.hid (show Blk w2 w1.heap.size 33 #[.int .i64 sp.kind, .int .i64 sp.op.kind, .int .i64 sp.op.vip, .int .i64 sp.op.backend, .int .i64 sp.op.version, .bool sp.op.a.six, .int .u64 (sp.op.a.hi : Int), .int .u64 (sp.op.a.lo : Int), .int .u16 (sp.op.port : Int), .int .u8 (sp.op.proto : Int), .int .i64 sp.op.way, .slice MX sp.op.ms.length cX, .int .i64 sp.who, .int .i64 sp.time, .int .u8 (sp.flags : Int), .slice LX sp.load.length lX, .int .u32 (sp.n : Int), .int .u32 (sp.x : Int), .int .u32 (sp.y : Int), .bool sp.src.six, .int .u64 (sp.src.hi : Int), .int .u64 (sp.src.lo : Int), .int .u16 (sp.port : Int)] by rw [← hw2]; exact (Blk.new w1 33 #[.int .i64 0, .int .i64 0, .int .i64 0, .int .i64 0, .int .i64 0, .bool false, .int .u64 0, .int .u64 0, .int .u16 0, .int .u8 0, .int .i64 0, .slice none 0 0, .int .i64 0, .int .i64 0, .int .u8 0, .slice none 0 0, .int .u32 0, .int .u32 0, .int .u32 0, .bool false, .int .u64 0, .int .u64 0, .int .u16 0]).setAll #[.int .i64 sp.kind, .int .i64 sp.op.kind, .int .i64 sp.op.vip, .int .i64 sp.op.backend, .int .i64 sp.op.version, .bool sp.op.a.six, .int .u64 (sp.op.a.hi : Int), .int .u64 (sp.op.a.lo : Int), .int .u16 (sp.op.port : Int), .int .u8 (sp.op.proto : Int), .int .i64 sp.op.way, .slice MX sp.op.ms.length cX, .int .i64 sp.who, .int .i64 sp.time, .int .u8 (sp.flags : Int), .slice LX sp.load.length lX, .int .u32 (sp.n : Int), .int .u32 (sp.x : Int), .int .u32 (sp.y : Int), .bool sp.src.six, .int .u64 (sp.src.hi : Int), .int .u64 (sp.src.lo : Int), .int .u16 (sp.port : Int)] rfl)
      have HK2 := Lib.hid (HK1.out.trans HKA.out)
      have HSX2 := Lib.hid (HSX1.out.on HKA.out)
      obtain ⟨xb, hxb⟩ : ∃ xb, w1.heap.size = xb := ⟨_, rfl⟩
      rw [hxb] at HX2 ⊢
      clear hw2 hxb HKA HK1 HSX1
      go_wp2_with fail
      refine (HY.out w2).mono ?_
      rintro e w3 ⟨MY, cY, LY, lY, rfl, hst, hk⟩
      have HSY3 := Lib.hid hst
      have HK3 := Lib.hid (HK2.out.trans hk)
      have HX3 := Lib.hid (HX2.out.kept hk (fun h => h))
      have HSX3 := Lib.hid (HSX2.out.on hk)
      clear hst hk HY HX2 HK2 HSX2
      unfold SpC
      go_upto_region 5 with (show wpList _ _ _ ((⟨none, .store 41 (.tmp 5) _, _, _, _, none⟩ : Oper) :: _) _ _; refine wpList_store_mid rfl 41 (.tmp 5) _ rfl w3.heap.size 0 #[.int .i64 sp.kind, .int .i64 sp.op.kind, .int .i64 sp.op.vip, .int .i64 sp.op.backend, .int .i64 sp.op.version, .bool sp.op.a.six, .int .u64 (sp.op.a.hi : Int), .int .u64 (sp.op.a.lo : Int), .int .u16 (sp.op.port : Int), .int .u8 (sp.op.proto : Int), .int .i64 sp.op.way, .slice MY sp.op.ms.length cY, .int .i64 sp.who, .int .i64 sp.time, .int .u8 (sp.flags : Int), .slice LY sp.load.length lY, .int .u32 (sp.n : Int), .int .u32 (sp.x : Int), .int .u32 (sp.y : Int), .bool sp.src.six, .int .u64 (sp.src.hi : Int), .int .u64 (sp.src.lo : Int), .int .u16 (sp.port : Int)] rfl rfl ((Blk.new w3 41 #[.int .i64 0, .int .i64 0, .int .i64 0, .int .i64 0, .int .i64 0, .bool false, .int .u64 0, .int .u64 0, .int .u16 0, .int .u8 0, .int .i64 0, .slice none 0 0, .int .i64 0, .int .i64 0, .int .u8 0, .slice none 0 0, .int .u32 0, .int .u32 0, .int .u32 0, .bool false, .int .u64 0, .int .u64 0, .int .u16 0]).there rfl) (by kernel_rfl) (by simp [Value.oneCell']) ?_)
      generalize hw4 : (World.setCells _ _ _ _) = w4
      have HKA := Lib.hid (show Kept (fun _ => False) w3 w4 by rw [← hw4]; exact ((Kept.refl _ _).alloc _).then (Kept.setCells (S := fun i => i = w3.heap.size) rfl _ _ (Kept.refl _ _)) (fun i hi e => by omega))
      have HYB := Lib.hid (show Blk w4 w3.heap.size 41 #[.int .i64 sp.kind, .int .i64 sp.op.kind, .int .i64 sp.op.vip, .int .i64 sp.op.backend, .int .i64 sp.op.version, .bool sp.op.a.six, .int .u64 (sp.op.a.hi : Int), .int .u64 (sp.op.a.lo : Int), .int .u16 (sp.op.port : Int), .int .u8 (sp.op.proto : Int), .int .i64 sp.op.way, .slice MY sp.op.ms.length cY, .int .i64 sp.who, .int .i64 sp.time, .int .u8 (sp.flags : Int), .slice LY sp.load.length lY, .int .u32 (sp.n : Int), .int .u32 (sp.x : Int), .int .u32 (sp.y : Int), .bool sp.src.six, .int .u64 (sp.src.hi : Int), .int .u64 (sp.src.lo : Int), .int .u16 (sp.port : Int)] by rw [← hw4]; exact (Blk.new w3 41 #[.int .i64 0, .int .i64 0, .int .i64 0, .int .i64 0, .int .i64 0, .bool false, .int .u64 0, .int .u64 0, .int .u16 0, .int .u8 0, .int .i64 0, .slice none 0 0, .int .i64 0, .int .i64 0, .int .u8 0, .slice none 0 0, .int .u32 0, .int .u32 0, .int .u32 0, .bool false, .int .u64 0, .int .u64 0, .int .u16 0]).setAll #[.int .i64 sp.kind, .int .i64 sp.op.kind, .int .i64 sp.op.vip, .int .i64 sp.op.backend, .int .i64 sp.op.version, .bool sp.op.a.six, .int .u64 (sp.op.a.hi : Int), .int .u64 (sp.op.a.lo : Int), .int .u16 (sp.op.port : Int), .int .u8 (sp.op.proto : Int), .int .i64 sp.op.way, .slice MY sp.op.ms.length cY, .int .i64 sp.who, .int .i64 sp.time, .int .u8 (sp.flags : Int), .slice LY sp.load.length lY, .int .u32 (sp.n : Int), .int .u32 (sp.x : Int), .int .u32 (sp.y : Int), .bool sp.src.six, .int .u64 (sp.src.hi : Int), .int .u64 (sp.src.lo : Int), .int .u16 (sp.port : Int)] rfl)
      have HXB := Lib.hid (HX3.out.kept HKA.out (fun h => h))
      have HSX := Lib.hid (HSX3.out.on HKA.out)
      have HSY := Lib.hid (HSY3.out.on HKA.out)
      have HK4 := Lib.hid (HK3.out.trans HKA.out)
      obtain ⟨yb, hyb⟩ : ∃ yb, w3.heap.size = yb := ⟨_, rfl⟩
      rw [hyb] at HYB ⊢
      clear hw4 hyb HKA HX3 HSX3 HSY3 HK3
      refine wp_region_kept 19 [(0, fun v u => v = .agg #[.int .i64 sp.kind, .int .i64 sp.op.kind, .int .i64 sp.op.vip, .int .i64 sp.op.backend, .int .i64 sp.op.version, .bool sp.op.a.six, .int .u64 (sp.op.a.hi : Int), .int .u64 (sp.op.a.lo : Int), .int .u16 (sp.op.port : Int), .int .u8 (sp.op.proto : Int), .int .i64 sp.op.way, .slice MX sp.op.ms.length cX, .int .i64 sp.who, .int .i64 sp.time, .int .u8 (sp.flags : Int), .slice LX sp.load.length lX, .int .u32 (sp.n : Int), .int .u32 (sp.x : Int), .int .u32 (sp.y : Int), .bool sp.src.six, .int .u64 (sp.src.hi : Int), .int .u64 (sp.src.lo : Int), .int .u16 (sp.port : Int)]), (1, fun v u => v = .agg #[.int .i64 sp.kind, .int .i64 sp.op.kind, .int .i64 sp.op.vip, .int .i64 sp.op.backend, .int .i64 sp.op.version, .bool sp.op.a.six, .int .u64 (sp.op.a.hi : Int), .int .u64 (sp.op.a.lo : Int), .int .u16 (sp.op.port : Int), .int .u8 (sp.op.proto : Int), .int .i64 sp.op.way, .slice MY sp.op.ms.length cY, .int .i64 sp.who, .int .i64 sp.time, .int .u8 (sp.flags : Int), .slice LY sp.load.length lY, .int .u32 (sp.n : Int), .int .u32 (sp.x : Int), .int .u32 (sp.y : Int), .bool sp.src.six, .int .u64 (sp.src.hi : Int), .int .u64 (sp.src.lo : Int), .int .u16 (sp.port : Int)]), (2, fun v u => ∃ A c, v = .agg #[.int .i64 sp.kind, .int .i64 sp.op.kind, .int .i64 sp.op.vip, .int .i64 sp.op.backend, .int .i64 sp.op.version, .bool sp.op.a.six, .int .u64 (sp.op.a.hi : Int), .int .u64 (sp.op.a.lo : Int), .int .u16 (sp.op.port : Int), .int .u8 (sp.op.proto : Int), .int .i64 sp.op.way, .slice A sp.op.ms.length c, .int .i64 sp.who, .int .i64 sp.time, .int .u8 (sp.flags : Int), .slice LY sp.load.length lY, .int .u32 (sp.n : Int), .int .u32 (sp.x : Int), .int .u32 (sp.y : Int), .bool sp.src.six, .int .u64 (sp.src.hi : Int), .int .u64 (sp.src.lo : Int), .int .u16 (sp.port : Int)] ∧ sp.op.ms.length ≤ c ∧ c ≤ maxLen ∧ ES u u.heap.size A 2 (mcs sp.op.ms)), (3, fun v u => v = .bool true)] ?st ?ne rfl (by kernel_rfl) (by kernel_rfl) ?_
      case st =>
        intro p hp
        simp only [List.mem_cons, List.not_mem_nil, or_false] at hp
        rcases hp with rfl | rfl | rfl | rfl
        · intro v u u' h hk; exact h
        · intro v u u' h hk; exact h
        · rintro v u u' ⟨A, c, rfl, h1, h2, h3⟩ hk; exact ⟨A, c, rfl, h1, h2, h3.on hk (fun _ _ h => h)⟩
        · intro v u u' h hk; exact h
      case ne =>
        intro p hp
        simp only [List.mem_cons, List.not_mem_nil, or_false] at hp
        rcases hp with rfl | rfl | rfl | rfl
        · exact ⟨_, _, Kept.refl _ _, rfl⟩
        · exact ⟨_, _, Kept.refl _ _, rfl⟩
        · exact ⟨_, w4, Kept.refl _ _, MY, cY, rfl, HSY.out.m1, HSY.out.m2, HSY.out.ms⟩
        · exact ⟨_, _, Kept.refl _ _, rfl⟩
      simp only [List.take_succ_cons, List.take_zero, List.drop_succ_cons, List.drop_zero]
      intro G pick hR hp1 hp2
      repeat (first | (refine wpR_det hp2 rfl ((hR.rel _).trans rfl) rfl ?_; intro K hK; go_big_quiet_op; go_big_quiet_on) | (refine wpR_ptr hp2 rfl ((hR.rel _).trans rfl) rfl rfl ?_; intro K hK; go_big_quiet_op; go_big_quiet_on) | (refine wpR_skip pick rfl ?_; intro K hK; go_big_quiet_op; go_big_quiet_on))
      refine wpR_rel pick rfl ((hR.rel _).trans rfl) ((hR.turns _).trans rfl) ?_ ?_
      · intro u hu
        have hk := hR.since hu.1
        have hks := hk.size
        refine relAt_load_mid 33 (.tmp 3) rfl xb 0 rfl [.int .i64 sp.kind, .int .i64 sp.op.kind, .int .i64 sp.op.vip, .int .i64 sp.op.backend, .int .i64 sp.op.version, .bool sp.op.a.six, .int .u64 (sp.op.a.hi : Int), .int .u64 (sp.op.a.lo : Int), .int .u16 (sp.op.port : Int), .int .u8 (sp.op.proto : Int), .int .i64 sp.op.way, .slice MX sp.op.ms.length cX, .int .i64 sp.who, .int .i64 sp.time, .int .u8 (sp.flags : Int), .slice LX sp.load.length lX, .int .u32 (sp.n : Int), .int .u32 (sp.x : Int), .int .u32 (sp.y : Int), .bool sp.src.six, .int .u64 (sp.src.hi : Int), .int .u64 (sp.src.lo : Int), .int .u16 (sp.port : Int)] _ ((HXB.out.kept hk (fun h => h)).range) Tryz.underlying33 rfl (by kernel_rfl) ?_
        exact ⟨hR.into0 (Kept.refl _ _), hR.put 0 rfl rfl rfl⟩
      intro v hv
      obtain ⟨u, _, hu⟩ := hv
      obtain rfl := hR.get 0 rfl hu
      clear hu
      intro K hK
      go_big_quiet_op
      go_big_quiet_on
      repeat (first | (refine wpR_det hp2 rfl ((hR.rel _).trans rfl) rfl ?_; intro K hK; go_big_quiet_op; go_big_quiet_on) | (refine wpR_ptr hp2 rfl ((hR.rel _).trans rfl) rfl rfl ?_; intro K hK; go_big_quiet_op; go_big_quiet_on) | (refine wpR_skip pick rfl ?_; intro K hK; go_big_quiet_op; go_big_quiet_on))
      refine wpR_rel pick rfl ((hR.rel _).trans rfl) ((hR.turns _).trans rfl) ?_ ?_
      · intro u hu
        have hk := hR.since hu.1
        have hks := hk.size
        refine relAt_load_mid 41 (.tmp 5) rfl yb 0 rfl [.int .i64 sp.kind, .int .i64 sp.op.kind, .int .i64 sp.op.vip, .int .i64 sp.op.backend, .int .i64 sp.op.version, .bool sp.op.a.six, .int .u64 (sp.op.a.hi : Int), .int .u64 (sp.op.a.lo : Int), .int .u16 (sp.op.port : Int), .int .u8 (sp.op.proto : Int), .int .i64 sp.op.way, .slice MY sp.op.ms.length cY, .int .i64 sp.who, .int .i64 sp.time, .int .u8 (sp.flags : Int), .slice LY sp.load.length lY, .int .u32 (sp.n : Int), .int .u32 (sp.x : Int), .int .u32 (sp.y : Int), .bool sp.src.six, .int .u64 (sp.src.hi : Int), .int .u64 (sp.src.lo : Int), .int .u16 (sp.port : Int)] _ ((HYB.out.kept hk (fun h => h)).range) Tryz.underlying41 rfl (by kernel_rfl) ?_
        exact ⟨hR.into0 (Kept.refl _ _), hR.put 1 rfl rfl rfl⟩
      intro v hv
      obtain ⟨u, _, hu⟩ := hv
      obtain rfl := hR.get 1 rfl hu
      clear hu
      intro K hK
      go_big_quiet_op
      go_big_quiet_on
      repeat (first | (refine wpR_det hp2 rfl ((hR.rel _).trans rfl) rfl ?_; intro K hK; go_big_quiet_op; go_big_quiet_on) | (refine wpR_ptr hp2 rfl ((hR.rel _).trans rfl) rfl rfl ?_; intro K hK; go_big_quiet_op; go_big_quiet_on) | (refine wpR_skip pick rfl ?_; intro K hK; go_big_quiet_op; go_big_quiet_on))
      refine wpR_rel pick rfl ((hR.rel _).trans rfl) ((hR.turns _).trans rfl) ?_ ?_
      · intro u hu
        have hk := hR.since hu.1
        have hks := hk.size
        have hz := toS sp MY LY cY lY u HL70.out (HSY.out.on hk).m1 (HSY.out.on hk).m2 (HSY.out.on hk).ms
        unfold SpC at hz
        unfold relAt
        go_simp
        refine hz.mono ?_
        rintro e w' ⟨A', c', rfl, h1, h2, h3, hk'⟩
        exact ⟨_, rfl, hR.into0 hk', hR.put 2 rfl rfl ⟨A', c', rfl, h1, h2, h3⟩⟩
      intro v hv
      obtain ⟨u, _, hu⟩ := hv
      obtain ⟨A2, c2, rfl, hl2, hc2, -⟩ := hR.get 2 rfl hu
      clear hu
      intro K hK
      go_big_quiet_op
      go_big_quiet_on
      repeat (first | (refine wpR_det hp2 rfl ((hR.rel _).trans rfl) rfl ?_; intro K hK; go_big_quiet_op; go_big_quiet_on) | (refine wpR_ptr hp2 rfl ((hR.rel _).trans rfl) rfl rfl ?_; intro K hK; go_big_quiet_op; go_big_quiet_on) | (refine wpR_skip pick rfl ?_; intro K hK; go_big_quiet_op; go_big_quiet_on))
      refine wpR_rel pick rfl ((hR.rel _).trans rfl) ((hR.turns _).trans rfl) ?_ ?_
      · intro u hu
        have hk := hR.since hu.1
        have hks := hk.size
        obtain ⟨A', c', e, -, -, hm1⟩ := (hR.get 2 rfl (hu.2 _ _ (Got.upd_self _ _ _) (by kernel_rfl)))
        obtain ⟨rfl, rfl⟩ : A2 = A' ∧ c2 = c' := by simpa using e
        have hz := sameS sp sp MX LX A2 LY cX lX c2 lY u (Nat.le_trans (HSX.out.on hk).m1 (HSX.out.on hk).m2) (HSX.out.on hk).ms hm1 (Nat.le_trans (HSX.out.on hk).l1 (HSX.out.on hk).l2) (HSX.out.on hk).ld (HSY.out.on hk).ld
        unfold SpC at hz
        rw [(sameB_iff sp sp).2 rfl] at hz
        unfold relAt
        go_simp
        refine hz.mono ?_
        rintro e w' ⟨rfl, hk'⟩
        exact ⟨_, rfl, hR.into0 hk', hR.put 3 rfl rfl rfl⟩
      intro v hv
      obtain ⟨u, _, hu⟩ := hv
      obtain rfl := hR.get 3 rfl hu
      clear hu
      intro K hK
      go_big_quiet_op
      go_big_quiet_on
      repeat (first | (refine wpR_det hp2 rfl ((hR.rel _).trans rfl) rfl ?_; intro K hK; go_big_quiet_op; go_big_quiet_on) | (refine wpR_ptr hp2 rfl ((hR.rel _).trans rfl) rfl rfl ?_; intro K hK; go_big_quiet_op; go_big_quiet_on) | (refine wpR_skip pick rfl ?_; intro K hK; go_big_quiet_op; go_big_quiet_on))
      refine wpR_nil ?_
      intro w5 hk2 hF hM
      have HKX := Lib.hid hk2
      have HK5 := Lib.hid (HK4.out.trans hk2)
      have HXB5 := Lib.hid (HXB.out.kept hk2 (fun h => h))
      have HYB5 := Lib.hid (HYB.out.kept hk2 (fun h => h))
      clear hF hM hk2 hp1 hp2 hR
      have HK7 := HK5
      obtain ⟨w7, hw7⟩ : ∃ w7, w5 = w7 := ⟨_, rfl⟩
      subst hw7
      go_wp2_with fail
      refine (awake_any w5).mono ?_
      rintro e w8 ⟨rfl, hk⟩
      go_wp2_with fail
      go_ret
      exact ⟨rfl, (HK7.out.trans hk).below (Nat.le_refl _) (fun i h => h.elim)⟩
    | some t =>
      obtain rfl : t = sp := hsp
      have hb := line_back ho
      have HI := Lib.hid (line_int ho)
      have HN := Lib.hid (show SpN t from ⟨hb.2.kind, (by
        by_cases hk : t.kind = 0
        · have q := hb.2.op hk
          exact ⟨q.vip, q.backend, q.version, q.way, q.ms⟩
        · rw [hb.2.op0 hk]
          exact ⟨Int.le_refl 0, Int.le_refl 0, Int.le_refl 0, ⟨Int.le_refl 0, show (0 : Int) ≤ 4 by decide⟩, fun m h => by cases h⟩), hb.2.who, hb.2.time⟩)
      have HLD := Lib.hid (show t.load.length ≤ 4000 by have := line_load ho; rw [← Lib.size_eq] at this; omega)
      have HWP := Lib.hid (show (writeP t).length ≤ 4000 by rw [hb.1, ← Lib.size_eq]; omega)
      have HWZ := Lib.hid (lineR_back ho)
      have HWW := Lib.hid (show writeW t = s.data.toList by unfold writeW; rw [hb.1, ho, if_pos ((sameO_iff _ _).2 rfl)])
      have HWO := Lib.hid (show (joinC 32 (opG adrT proR t.op)).length ≤ 100000 by
        by_cases hk : t.kind = 0
        · have h1 := HWZ.out
          unfold writeR at h1
          rw [if_pos hk, joinC_cons 32 issueT (opG_ne _ _ _)] at h1
          have h2 := congrArg List.length h1
          rw [List.length_append, List.length_cons, ← Lib.size_eq] at h2
          omega
        · rw [hb.2.op0 hk]; decide)
      clear hb
      go_enter Tryz.func3, Tryz.ntmps3
      go_wp2_with fail
      refine (HX.out w).mono ?_
      rintro e w1 ⟨MX, cX, LX, lX, rfl, hst, hk⟩
      have HSX1 := Lib.hid hst
      have HK1 := Lib.hid hk
      clear hst hk HX ho
      obtain ⟨sp, hspz⟩ : ∃ sp, t = sp := ⟨_, rfl⟩
      rw [hspz] at HL70 HSX1 HY HI HN HLD HWP HWZ HWW HWO ⊢
      clear hspz
      unfold SpC
      go_upto_region 4 with (show wpList _ _ _ ((⟨none, .store 33 (.tmp 3) _, _, _, _, none⟩ : Oper) :: _) _ _; refine wpList_store_mid rfl 33 (.tmp 3) _ rfl w1.heap.size 0 #[.int .i64 sp.kind, .int .i64 sp.op.kind, .int .i64 sp.op.vip, .int .i64 sp.op.backend, .int .i64 sp.op.version, .bool sp.op.a.six, .int .u64 (sp.op.a.hi : Int), .int .u64 (sp.op.a.lo : Int), .int .u16 (sp.op.port : Int), .int .u8 (sp.op.proto : Int), .int .i64 sp.op.way, .slice MX sp.op.ms.length cX, .int .i64 sp.who, .int .i64 sp.time, .int .u8 (sp.flags : Int), .slice LX sp.load.length lX, .int .u32 (sp.n : Int), .int .u32 (sp.x : Int), .int .u32 (sp.y : Int), .bool sp.src.six, .int .u64 (sp.src.hi : Int), .int .u64 (sp.src.lo : Int), .int .u16 (sp.port : Int)] rfl rfl ((Blk.new w1 33 #[.int .i64 0, .int .i64 0, .int .i64 0, .int .i64 0, .int .i64 0, .bool false, .int .u64 0, .int .u64 0, .int .u16 0, .int .u8 0, .int .i64 0, .slice none 0 0, .int .i64 0, .int .i64 0, .int .u8 0, .slice none 0 0, .int .u32 0, .int .u32 0, .int .u32 0, .bool false, .int .u64 0, .int .u64 0, .int .u16 0]).there rfl) (by kernel_rfl) (by simp [Value.oneCell']) ?_)
      generalize hw2 : (World.setCells _ _ _ _) = w2
      have HKA := Lib.hid (show Kept (fun _ => False) w1 w2 by rw [← hw2]; exact ((Kept.refl _ _).alloc _).then (Kept.setCells (S := fun i => i = w1.heap.size) rfl _ _ (Kept.refl _ _)) (fun i hi e => by omega))
      have HX2 := Lib.hid (show Blk w2 w1.heap.size 33 #[.int .i64 sp.kind, .int .i64 sp.op.kind, .int .i64 sp.op.vip, .int .i64 sp.op.backend, .int .i64 sp.op.version, .bool sp.op.a.six, .int .u64 (sp.op.a.hi : Int), .int .u64 (sp.op.a.lo : Int), .int .u16 (sp.op.port : Int), .int .u8 (sp.op.proto : Int), .int .i64 sp.op.way, .slice MX sp.op.ms.length cX, .int .i64 sp.who, .int .i64 sp.time, .int .u8 (sp.flags : Int), .slice LX sp.load.length lX, .int .u32 (sp.n : Int), .int .u32 (sp.x : Int), .int .u32 (sp.y : Int), .bool sp.src.six, .int .u64 (sp.src.hi : Int), .int .u64 (sp.src.lo : Int), .int .u16 (sp.port : Int)] by rw [← hw2]; exact (Blk.new w1 33 #[.int .i64 0, .int .i64 0, .int .i64 0, .int .i64 0, .int .i64 0, .bool false, .int .u64 0, .int .u64 0, .int .u16 0, .int .u8 0, .int .i64 0, .slice none 0 0, .int .i64 0, .int .i64 0, .int .u8 0, .slice none 0 0, .int .u32 0, .int .u32 0, .int .u32 0, .bool false, .int .u64 0, .int .u64 0, .int .u16 0]).setAll #[.int .i64 sp.kind, .int .i64 sp.op.kind, .int .i64 sp.op.vip, .int .i64 sp.op.backend, .int .i64 sp.op.version, .bool sp.op.a.six, .int .u64 (sp.op.a.hi : Int), .int .u64 (sp.op.a.lo : Int), .int .u16 (sp.op.port : Int), .int .u8 (sp.op.proto : Int), .int .i64 sp.op.way, .slice MX sp.op.ms.length cX, .int .i64 sp.who, .int .i64 sp.time, .int .u8 (sp.flags : Int), .slice LX sp.load.length lX, .int .u32 (sp.n : Int), .int .u32 (sp.x : Int), .int .u32 (sp.y : Int), .bool sp.src.six, .int .u64 (sp.src.hi : Int), .int .u64 (sp.src.lo : Int), .int .u16 (sp.port : Int)] rfl)
      have HK2 := Lib.hid (HK1.out.trans HKA.out)
      have HSX2 := Lib.hid (HSX1.out.on HKA.out)
      obtain ⟨xb, hxb⟩ : ∃ xb, w1.heap.size = xb := ⟨_, rfl⟩
      rw [hxb] at HX2 ⊢
      clear hw2 hxb HKA HK1 HSX1
      go_wp2_with fail
      refine (HY.out w2).mono ?_
      rintro e w3 ⟨MY, cY, LY, lY, rfl, hst, hk⟩
      have HSY3 := Lib.hid hst
      have HK3 := Lib.hid (HK2.out.trans hk)
      have HX3 := Lib.hid (HX2.out.kept hk (fun h => h))
      have HSX3 := Lib.hid (HSX2.out.on hk)
      clear hst hk HY HX2 HK2 HSX2
      unfold SpC
      go_upto_region 5 with (show wpList _ _ _ ((⟨none, .store 41 (.tmp 5) _, _, _, _, none⟩ : Oper) :: _) _ _; refine wpList_store_mid rfl 41 (.tmp 5) _ rfl w3.heap.size 0 #[.int .i64 sp.kind, .int .i64 sp.op.kind, .int .i64 sp.op.vip, .int .i64 sp.op.backend, .int .i64 sp.op.version, .bool sp.op.a.six, .int .u64 (sp.op.a.hi : Int), .int .u64 (sp.op.a.lo : Int), .int .u16 (sp.op.port : Int), .int .u8 (sp.op.proto : Int), .int .i64 sp.op.way, .slice MY sp.op.ms.length cY, .int .i64 sp.who, .int .i64 sp.time, .int .u8 (sp.flags : Int), .slice LY sp.load.length lY, .int .u32 (sp.n : Int), .int .u32 (sp.x : Int), .int .u32 (sp.y : Int), .bool sp.src.six, .int .u64 (sp.src.hi : Int), .int .u64 (sp.src.lo : Int), .int .u16 (sp.port : Int)] rfl rfl ((Blk.new w3 41 #[.int .i64 0, .int .i64 0, .int .i64 0, .int .i64 0, .int .i64 0, .bool false, .int .u64 0, .int .u64 0, .int .u16 0, .int .u8 0, .int .i64 0, .slice none 0 0, .int .i64 0, .int .i64 0, .int .u8 0, .slice none 0 0, .int .u32 0, .int .u32 0, .int .u32 0, .bool false, .int .u64 0, .int .u64 0, .int .u16 0]).there rfl) (by kernel_rfl) (by simp [Value.oneCell']) ?_)
      generalize hw4 : (World.setCells _ _ _ _) = w4
      have HKA := Lib.hid (show Kept (fun _ => False) w3 w4 by rw [← hw4]; exact ((Kept.refl _ _).alloc _).then (Kept.setCells (S := fun i => i = w3.heap.size) rfl _ _ (Kept.refl _ _)) (fun i hi e => by omega))
      have HYB := Lib.hid (show Blk w4 w3.heap.size 41 #[.int .i64 sp.kind, .int .i64 sp.op.kind, .int .i64 sp.op.vip, .int .i64 sp.op.backend, .int .i64 sp.op.version, .bool sp.op.a.six, .int .u64 (sp.op.a.hi : Int), .int .u64 (sp.op.a.lo : Int), .int .u16 (sp.op.port : Int), .int .u8 (sp.op.proto : Int), .int .i64 sp.op.way, .slice MY sp.op.ms.length cY, .int .i64 sp.who, .int .i64 sp.time, .int .u8 (sp.flags : Int), .slice LY sp.load.length lY, .int .u32 (sp.n : Int), .int .u32 (sp.x : Int), .int .u32 (sp.y : Int), .bool sp.src.six, .int .u64 (sp.src.hi : Int), .int .u64 (sp.src.lo : Int), .int .u16 (sp.port : Int)] by rw [← hw4]; exact (Blk.new w3 41 #[.int .i64 0, .int .i64 0, .int .i64 0, .int .i64 0, .int .i64 0, .bool false, .int .u64 0, .int .u64 0, .int .u16 0, .int .u8 0, .int .i64 0, .slice none 0 0, .int .i64 0, .int .i64 0, .int .u8 0, .slice none 0 0, .int .u32 0, .int .u32 0, .int .u32 0, .bool false, .int .u64 0, .int .u64 0, .int .u16 0]).setAll #[.int .i64 sp.kind, .int .i64 sp.op.kind, .int .i64 sp.op.vip, .int .i64 sp.op.backend, .int .i64 sp.op.version, .bool sp.op.a.six, .int .u64 (sp.op.a.hi : Int), .int .u64 (sp.op.a.lo : Int), .int .u16 (sp.op.port : Int), .int .u8 (sp.op.proto : Int), .int .i64 sp.op.way, .slice MY sp.op.ms.length cY, .int .i64 sp.who, .int .i64 sp.time, .int .u8 (sp.flags : Int), .slice LY sp.load.length lY, .int .u32 (sp.n : Int), .int .u32 (sp.x : Int), .int .u32 (sp.y : Int), .bool sp.src.six, .int .u64 (sp.src.hi : Int), .int .u64 (sp.src.lo : Int), .int .u16 (sp.port : Int)] rfl)
      have HXB := Lib.hid (HX3.out.kept HKA.out (fun h => h))
      have HSX := Lib.hid (HSX3.out.on HKA.out)
      have HSY := Lib.hid (HSY3.out.on HKA.out)
      have HK4 := Lib.hid (HK3.out.trans HKA.out)
      obtain ⟨yb, hyb⟩ : ∃ yb, w3.heap.size = yb := ⟨_, rfl⟩
      rw [hyb] at HYB ⊢
      clear hw4 hyb HKA HX3 HSX3 HSY3 HK3
      refine wp_region_kept 19 [(0, fun v u => v = .agg #[.int .i64 sp.kind, .int .i64 sp.op.kind, .int .i64 sp.op.vip, .int .i64 sp.op.backend, .int .i64 sp.op.version, .bool sp.op.a.six, .int .u64 (sp.op.a.hi : Int), .int .u64 (sp.op.a.lo : Int), .int .u16 (sp.op.port : Int), .int .u8 (sp.op.proto : Int), .int .i64 sp.op.way, .slice MX sp.op.ms.length cX, .int .i64 sp.who, .int .i64 sp.time, .int .u8 (sp.flags : Int), .slice LX sp.load.length lX, .int .u32 (sp.n : Int), .int .u32 (sp.x : Int), .int .u32 (sp.y : Int), .bool sp.src.six, .int .u64 (sp.src.hi : Int), .int .u64 (sp.src.lo : Int), .int .u16 (sp.port : Int)]), (1, fun v u => v = .agg #[.int .i64 sp.kind, .int .i64 sp.op.kind, .int .i64 sp.op.vip, .int .i64 sp.op.backend, .int .i64 sp.op.version, .bool sp.op.a.six, .int .u64 (sp.op.a.hi : Int), .int .u64 (sp.op.a.lo : Int), .int .u16 (sp.op.port : Int), .int .u8 (sp.op.proto : Int), .int .i64 sp.op.way, .slice MY sp.op.ms.length cY, .int .i64 sp.who, .int .i64 sp.time, .int .u8 (sp.flags : Int), .slice LY sp.load.length lY, .int .u32 (sp.n : Int), .int .u32 (sp.x : Int), .int .u32 (sp.y : Int), .bool sp.src.six, .int .u64 (sp.src.hi : Int), .int .u64 (sp.src.lo : Int), .int .u16 (sp.port : Int)]), (2, fun v u => ∃ A c, v = .agg #[.int .i64 sp.kind, .int .i64 sp.op.kind, .int .i64 sp.op.vip, .int .i64 sp.op.backend, .int .i64 sp.op.version, .bool sp.op.a.six, .int .u64 (sp.op.a.hi : Int), .int .u64 (sp.op.a.lo : Int), .int .u16 (sp.op.port : Int), .int .u8 (sp.op.proto : Int), .int .i64 sp.op.way, .slice A sp.op.ms.length c, .int .i64 sp.who, .int .i64 sp.time, .int .u8 (sp.flags : Int), .slice LY sp.load.length lY, .int .u32 (sp.n : Int), .int .u32 (sp.x : Int), .int .u32 (sp.y : Int), .bool sp.src.six, .int .u64 (sp.src.hi : Int), .int .u64 (sp.src.lo : Int), .int .u16 (sp.port : Int)] ∧ sp.op.ms.length ≤ c ∧ c ≤ maxLen ∧ ES u u.heap.size A 2 (mcs sp.op.ms)), (3, fun v u => v = .bool true)] ?st ?ne rfl (by kernel_rfl) (by kernel_rfl) ?_
      case st =>
        intro p hp
        simp only [List.mem_cons, List.not_mem_nil, or_false] at hp
        rcases hp with rfl | rfl | rfl | rfl
        · intro v u u' h hk; exact h
        · intro v u u' h hk; exact h
        · rintro v u u' ⟨A, c, rfl, h1, h2, h3⟩ hk; exact ⟨A, c, rfl, h1, h2, h3.on hk (fun _ _ h => h)⟩
        · intro v u u' h hk; exact h
      case ne =>
        intro p hp
        simp only [List.mem_cons, List.not_mem_nil, or_false] at hp
        rcases hp with rfl | rfl | rfl | rfl
        · exact ⟨_, _, Kept.refl _ _, rfl⟩
        · exact ⟨_, _, Kept.refl _ _, rfl⟩
        · exact ⟨_, w4, Kept.refl _ _, MY, cY, rfl, HSY.out.m1, HSY.out.m2, HSY.out.ms⟩
        · exact ⟨_, _, Kept.refl _ _, rfl⟩
      simp only [List.take_succ_cons, List.take_zero, List.drop_succ_cons, List.drop_zero]
      intro G pick hR hp1 hp2
      repeat (first | (refine wpR_det hp2 rfl ((hR.rel _).trans rfl) rfl ?_; intro K hK; go_big_quiet_op; go_big_quiet_on) | (refine wpR_ptr hp2 rfl ((hR.rel _).trans rfl) rfl rfl ?_; intro K hK; go_big_quiet_op; go_big_quiet_on) | (refine wpR_skip pick rfl ?_; intro K hK; go_big_quiet_op; go_big_quiet_on))
      refine wpR_rel pick rfl ((hR.rel _).trans rfl) ((hR.turns _).trans rfl) ?_ ?_
      · intro u hu
        have hk := hR.since hu.1
        have hks := hk.size
        refine relAt_load_mid 33 (.tmp 3) rfl xb 0 rfl [.int .i64 sp.kind, .int .i64 sp.op.kind, .int .i64 sp.op.vip, .int .i64 sp.op.backend, .int .i64 sp.op.version, .bool sp.op.a.six, .int .u64 (sp.op.a.hi : Int), .int .u64 (sp.op.a.lo : Int), .int .u16 (sp.op.port : Int), .int .u8 (sp.op.proto : Int), .int .i64 sp.op.way, .slice MX sp.op.ms.length cX, .int .i64 sp.who, .int .i64 sp.time, .int .u8 (sp.flags : Int), .slice LX sp.load.length lX, .int .u32 (sp.n : Int), .int .u32 (sp.x : Int), .int .u32 (sp.y : Int), .bool sp.src.six, .int .u64 (sp.src.hi : Int), .int .u64 (sp.src.lo : Int), .int .u16 (sp.port : Int)] _ ((HXB.out.kept hk (fun h => h)).range) Tryz.underlying33 rfl (by kernel_rfl) ?_
        exact ⟨hR.into0 (Kept.refl _ _), hR.put 0 rfl rfl rfl⟩
      intro v hv
      obtain ⟨u, _, hu⟩ := hv
      obtain rfl := hR.get 0 rfl hu
      clear hu
      intro K hK
      go_big_quiet_op
      go_big_quiet_on
      repeat (first | (refine wpR_det hp2 rfl ((hR.rel _).trans rfl) rfl ?_; intro K hK; go_big_quiet_op; go_big_quiet_on) | (refine wpR_ptr hp2 rfl ((hR.rel _).trans rfl) rfl rfl ?_; intro K hK; go_big_quiet_op; go_big_quiet_on) | (refine wpR_skip pick rfl ?_; intro K hK; go_big_quiet_op; go_big_quiet_on))
      refine wpR_rel pick rfl ((hR.rel _).trans rfl) ((hR.turns _).trans rfl) ?_ ?_
      · intro u hu
        have hk := hR.since hu.1
        have hks := hk.size
        refine relAt_load_mid 41 (.tmp 5) rfl yb 0 rfl [.int .i64 sp.kind, .int .i64 sp.op.kind, .int .i64 sp.op.vip, .int .i64 sp.op.backend, .int .i64 sp.op.version, .bool sp.op.a.six, .int .u64 (sp.op.a.hi : Int), .int .u64 (sp.op.a.lo : Int), .int .u16 (sp.op.port : Int), .int .u8 (sp.op.proto : Int), .int .i64 sp.op.way, .slice MY sp.op.ms.length cY, .int .i64 sp.who, .int .i64 sp.time, .int .u8 (sp.flags : Int), .slice LY sp.load.length lY, .int .u32 (sp.n : Int), .int .u32 (sp.x : Int), .int .u32 (sp.y : Int), .bool sp.src.six, .int .u64 (sp.src.hi : Int), .int .u64 (sp.src.lo : Int), .int .u16 (sp.port : Int)] _ ((HYB.out.kept hk (fun h => h)).range) Tryz.underlying41 rfl (by kernel_rfl) ?_
        exact ⟨hR.into0 (Kept.refl _ _), hR.put 1 rfl rfl rfl⟩
      intro v hv
      obtain ⟨u, _, hu⟩ := hv
      obtain rfl := hR.get 1 rfl hu
      clear hu
      intro K hK
      go_big_quiet_op
      go_big_quiet_on
      repeat (first | (refine wpR_det hp2 rfl ((hR.rel _).trans rfl) rfl ?_; intro K hK; go_big_quiet_op; go_big_quiet_on) | (refine wpR_ptr hp2 rfl ((hR.rel _).trans rfl) rfl rfl ?_; intro K hK; go_big_quiet_op; go_big_quiet_on) | (refine wpR_skip pick rfl ?_; intro K hK; go_big_quiet_op; go_big_quiet_on))
      refine wpR_rel pick rfl ((hR.rel _).trans rfl) ((hR.turns _).trans rfl) ?_ ?_
      · intro u hu
        have hk := hR.since hu.1
        have hks := hk.size
        have hz := toS sp MY LY cY lY u HL70.out (HSY.out.on hk).m1 (HSY.out.on hk).m2 (HSY.out.on hk).ms
        unfold SpC at hz
        unfold relAt
        go_simp
        refine hz.mono ?_
        rintro e w' ⟨A', c', rfl, h1, h2, h3, hk'⟩
        exact ⟨_, rfl, hR.into0 hk', hR.put 2 rfl rfl ⟨A', c', rfl, h1, h2, h3⟩⟩
      intro v hv
      obtain ⟨u, _, hu⟩ := hv
      obtain ⟨A2, c2, rfl, hl2, hc2, -⟩ := hR.get 2 rfl hu
      clear hu
      intro K hK
      go_big_quiet_op
      go_big_quiet_on
      repeat (first | (refine wpR_det hp2 rfl ((hR.rel _).trans rfl) rfl ?_; intro K hK; go_big_quiet_op; go_big_quiet_on) | (refine wpR_ptr hp2 rfl ((hR.rel _).trans rfl) rfl rfl ?_; intro K hK; go_big_quiet_op; go_big_quiet_on) | (refine wpR_skip pick rfl ?_; intro K hK; go_big_quiet_op; go_big_quiet_on))
      refine wpR_rel pick rfl ((hR.rel _).trans rfl) ((hR.turns _).trans rfl) ?_ ?_
      · intro u hu
        have hk := hR.since hu.1
        have hks := hk.size
        obtain ⟨A', c', e, -, -, hm1⟩ := (hR.get 2 rfl (hu.2 _ _ (Got.upd_self _ _ _) (by kernel_rfl)))
        obtain ⟨rfl, rfl⟩ : A2 = A' ∧ c2 = c' := by simpa using e
        have hz := sameS sp sp MX LX A2 LY cX lX c2 lY u (Nat.le_trans (HSX.out.on hk).m1 (HSX.out.on hk).m2) (HSX.out.on hk).ms hm1 (Nat.le_trans (HSX.out.on hk).l1 (HSX.out.on hk).l2) (HSX.out.on hk).ld (HSY.out.on hk).ld
        unfold SpC at hz
        rw [(sameB_iff sp sp).2 rfl] at hz
        unfold relAt
        go_simp
        refine hz.mono ?_
        rintro e w' ⟨rfl, hk'⟩
        exact ⟨_, rfl, hR.into0 hk', hR.put 3 rfl rfl rfl⟩
      intro v hv
      obtain ⟨u, _, hu⟩ := hv
      obtain rfl := hR.get 3 rfl hu
      clear hu
      intro K hK
      go_big_quiet_op
      go_big_quiet_on
      repeat (first | (refine wpR_det hp2 rfl ((hR.rel _).trans rfl) rfl ?_; intro K hK; go_big_quiet_op; go_big_quiet_on) | (refine wpR_ptr hp2 rfl ((hR.rel _).trans rfl) rfl rfl ?_; intro K hK; go_big_quiet_op; go_big_quiet_on) | (refine wpR_skip pick rfl ?_; intro K hK; go_big_quiet_op; go_big_quiet_on))
      refine wpR_nil ?_
      intro w5 hk2 hF hM
      have HKX := Lib.hid hk2
      have HK5 := Lib.hid (HK4.out.trans hk2)
      have HXB5 := Lib.hid (HXB.out.kept hk2 (fun h => h))
      have HYB5 := Lib.hid (HYB.out.kept hk2 (fun h => h))
      clear hF hM hk2 hp1 hp2 hR
      have HWR := Lib.hid (Write_any sp MX LX cX lX w5 (HT.out.on HK5.out) HI.out HL70.out HLD.out HWP.out (HSX.out.on HKX.out).ms (HSX.out.on HKX.out).ld)
      unfold SpC at HWR
      go_wp2_with (show wpList _ _ _ ((⟨_, .load 33 (.tmp 3), _, _, _, some _⟩ : Oper) :: _) _ _; refine wpList_load_g rfl 33 (.tmp 3) rfl xb 0 rfl [.int .i64 sp.kind, .int .i64 sp.op.kind, .int .i64 sp.op.vip, .int .i64 sp.op.backend, .int .i64 sp.op.version, .bool sp.op.a.six, .int .u64 (sp.op.a.hi : Int), .int .u64 (sp.op.a.lo : Int), .int .u16 (sp.op.port : Int), .int .u8 (sp.op.proto : Int), .int .i64 sp.op.way, .slice MX sp.op.ms.length cX, .int .i64 sp.who, .int .i64 sp.time, .int .u8 (sp.flags : Int), .slice LX sp.load.length lX, .int .u32 (sp.n : Int), .int .u32 (sp.x : Int), .int .u32 (sp.y : Int), .bool sp.src.six, .int .u64 (sp.src.hi : Int), .int .u64 (sp.src.lo : Int), .int .u16 (sp.port : Int)] _ HXB5.out.range Tryz.underlying33 rfl (by kernel_rfl) ?_)
      refine HWR.out.mono ?_
      rintro e w6 ⟨y, rfl, hy, hk⟩
      have hye : y = s := by apply ByteArray.ext; apply Array.ext'; rw [hy, HWW.out]
      subst hye
      have HK6 := Lib.hid (HK5.out.trans hk)
      have HRW := Lib.hid (refWrite_any sp MY LY cY lY w6 HI.out HN.out HL70.out HLD.out HWO.out (HSY.out.on (HKX.out.trans hk)).ms (HSY.out.on (HKX.out.trans hk)).ld)
      have HYB6 := Lib.hid (HYB5.out.kept hk (fun h => h))
      unfold SpC at HRW
      clear hy hk HWR
      go_wp2_with (show wpList _ _ _ ((⟨_, .load 41 (.tmp 5), _, _, _, some _⟩ : Oper) :: _) _ _; refine wpList_load_g rfl 41 (.tmp 5) rfl yb 0 rfl [.int .i64 sp.kind, .int .i64 sp.op.kind, .int .i64 sp.op.vip, .int .i64 sp.op.backend, .int .i64 sp.op.version, .bool sp.op.a.six, .int .u64 (sp.op.a.hi : Int), .int .u64 (sp.op.a.lo : Int), .int .u16 (sp.op.port : Int), .int .u8 (sp.op.proto : Int), .int .i64 sp.op.way, .slice MY sp.op.ms.length cY, .int .i64 sp.who, .int .i64 sp.time, .int .u8 (sp.flags : Int), .slice LY sp.load.length lY, .int .u32 (sp.n : Int), .int .u32 (sp.x : Int), .int .u32 (sp.y : Int), .bool sp.src.six, .int .u64 (sp.src.hi : Int), .int .u64 (sp.src.lo : Int), .int .u16 (sp.port : Int)] _ HYB6.out.range Tryz.underlying41 rfl (by kernel_rfl) ?_)
      refine HRW.out.mono ?_
      rintro e w7 ⟨z, rfl, hz, hk⟩
      have hze : z = y := by apply ByteArray.ext; apply Array.ext'; rw [hz, HWZ.out]
      subst hze
      have HK7 := Lib.hid (HK6.out.trans hk)
      clear hz hk HRW
      go_wp2_with fail
      refine (awake_any w7).mono ?_
      rintro e w8 ⟨rfl, hk⟩
      go_wp2_with fail
      go_ret
      exact ⟨rfl, (HK7.out.trans hk).below (Nat.le_refl _) (fun i h => h.elim)⟩
end Go.Proofs.YthfdhggcnkgjfaaGreatDoor
