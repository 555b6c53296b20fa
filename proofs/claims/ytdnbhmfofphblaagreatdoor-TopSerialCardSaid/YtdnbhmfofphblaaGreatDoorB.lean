/- Contracts of ip4's Size, valid and Right, of addr's Right and Bytes (version 4). -/
import Derived.Test.YtdnbhmfofphblaaGreatDoorPlainT
import Derived.Test.YtdnbhmfofphblaaGreatDoorOctPut
import Derived.Test.YtdnbhmfofphblaaGreatDoorBase
namespace Go.Proofs.YtdnbhmfofphblaaGreatDoor
set_option maxRecDepth 100000
open Go.RowKit
set_option linter.unusedVariables false
theorem size_any (tos len id : Int) (stay more : Bool) (off ttl pr sm src dst : Int) (OA : Option Addr) (n oc : Nat) (n40 : n ≤ 40) (w : World) :
    Calls Tryz.prog 118 #[.agg #[.int .u8 tos, .int .i64 len, .int .u16 id, .bool stay, .bool more, .int .i64 off, .int .u8 ttl, .int .u8 pr, .int .u16 sm, .bool false, .int .u64 0, .int .u64 src, .bool false, .int .u64 0, .int .u64 dst, .slice OA n oc]] w fun e w' => e = .returned (.int .i64 (20 + (n : Int))) ∧ Below w.heap.size w w' := by
  go_enter Tryz.func118, Tryz.ntmps118
  go_wp2
  go_ret
  exact ⟨rfl, (Below.refl _ _).alloc (Nat.le_refl _) _⟩
theorem adRight_any (x : Int) (x0 : 0 ≤ x) (x1 : x ≤ 4294967295) (w : World) :
    Calls Tryz.prog 46 #[.agg #[.bool false, .int .u64 0, .int .u64 x]] w fun e w' => e = .returned (.bool true) ∧ Below w.heap.size w w' := by
  have g : decide (x < 4294967296) = true := decide_eq_true (by omega)
  go_enter Tryz.func46, Tryz.ntmps46
  go_wp2
  go_ret
  exact ⟨by first | rfl | rw [g] | simp [g], (Below.refl _ _).alloc (Nat.le_refl _) _⟩
theorem valid_any (x : Int) (x0 : 0 ≤ x) (x1 : x ≤ 4294967295) (w : World) :
    Calls Tryz.prog 175 #[.agg #[.bool false, .int .u64 0, .int .u64 x]] w fun e w' => e = .returned (.bool true) ∧ Below w.heap.size w w' := by
  have H := Lib.hid (fun u => adRight_any x x0 x1 u)
  go_enter Tryz.func175, Tryz.ntmps175
  go_wp2_with fail
  refine (H.out _).mono ?_
  rintro e w1 ⟨rfl, hb⟩
  have HB := Lib.hid (((Below.refl w.heap.size w).alloc (Nat.le_refl _) (.cells #[.bool false, .int .u64 0, .int .u64 x] 26)).trans (hb.mono (by simp)))
  clear hb
  go_wp2_with fail
  go_ret
  exact ⟨rfl, HB.out⟩
theorem v4Bytes_any (x : Int) (x0 : 0 ≤ x) (x1 : x ≤ 4294967295) (w : World) :
    Calls Tryz.prog 122 #[.agg #[.bool false, .int .u64 0, .int .u64 x]] w fun e w' => ∃ g, e = .returned (.slice (some ⟨g, 0, none⟩) 4 4) ∧ Own w' 5 g 4 (digs 4 x) ∧ w.heap.size ≤ g ∧ Below w.heap.size w w' := by
  go_enter Tryz.func122, Tryz.ntmps122
  go_wp2_with fail
  refine (put_nil 4 x _ x0 (by omega) (by omega)).mono ?_
  rintro e w1 ⟨rfl, hO, hb⟩
  have HO := Lib.hid hO
  have HB := Lib.hid (((Below.refl w.heap.size w).alloc (Nat.le_refl _) (.cells #[.bool false, .int .u64 0, .int .u64 x] 26)).trans (hb.mono (by simp)))
  clear hO hb
  go_wp2_with fail
  go_ret
  exact ⟨_, rfl, by simpa using HO.out, by simp, HB.out⟩
set_option maxRecDepth 100000 in
set_option maxHeartbeats 4000000 in
theorem rightH_yes (tos len id : Int) (stay more : Bool) (off ttl pr sm src dst : Int) (OA : Option Addr) (n oc : Nat) (n40 : n ≤ 40) (n4 : n % 4 = 0) (l0 : 20 + (n : Int) ≤ len) (l1 : len ≤ 65535) (o0 : 0 ≤ off) (src0 : 0 ≤ src) (src1 : src ≤ 4294967295) (dst0 : 0 ≤ dst) (dst1 : dst ≤ 4294967295) (o1 : off ≤ 8191) (w : World) :
    Calls Tryz.prog 119 #[.agg #[.int .u8 tos, .int .i64 len, .int .u16 id, .bool stay, .bool more, .int .i64 off, .int .u8 ttl, .int .u8 pr, .int .u16 sm, .bool false, .int .u64 0, .int .u64 src, .bool false, .int .u64 0, .int .u64 dst, .slice OA n oc]] w fun e w' => e = .returned (.bool true) ∧ Below w.heap.size w w' := by
  have g1 : decide ((n : Int) ≤ 40) = true := decide_eq_true (by omega)
  have g1' : decide (n ≤ 40) = true := decide_eq_true n40
  have g2 : ((n : Int) % 4 == 0) = true := by have : (n : Int) % 4 = 0 := by omega
                                              rw [this]; rfl
  have g3 : decide (20 + (n : Int) ≤ len) = true := decide_eq_true (by omega)
  have g4 : decide (len ≤ 65535) = true := decide_eq_true (by omega)
  have g5 : decide (0 ≤ off) = true := decide_eq_true (by omega)
  have g6 : decide (off ≤ 8191) = true := decide_eq_true (by omega)
  go_enter Tryz.func119, Tryz.ntmps119
  go_upto_region 1 with fail
  obtain ⟨w1, hw1⟩ : ∃ w1 : World, w1 = w.alloc (.cells #[.int .u8 tos, .int .i64 len, .int .u16 id, .bool stay, .bool more, .int .i64 off, .int .u8 ttl, .int .u8 pr, .int .u16 sm, .bool false, .int .u64 0, .int .u64 src, .bool false, .int .u64 0, .int .u64 dst, .slice OA n oc] 190) := ⟨_, rfl⟩
  have HB0 := Lib.hid (show Blk w1 w.heap.size 190 #[.int .u8 tos, .int .i64 len, .int .u16 id, .bool stay, .bool more, .int .i64 off, .int .u8 ttl, .int .u8 pr, .int .u16 sm, .bool false, .int .u64 0, .int .u64 src, .bool false, .int .u64 0, .int .u64 dst, .slice OA n oc] by rw [hw1]; exact Blk.new _ _ _)
  have HK := Lib.hid (show Below w.heap.size w w1 by rw [hw1]; exact (Below.refl _ _).alloc (Nat.le_refl _) _)
  have HS1 := Lib.hid (show w1.heap.size = w.heap.size + 1 by rw [hw1]; simp)
  rw [← hw1]
  clear hw1
  obtain ⟨hb, hhb⟩ : ∃ hb, w.heap.size = hb := ⟨_, rfl⟩
  have HB : Hid (Blk w1 hb 190 #[.int .u8 tos, .int .i64 len, .int .u16 id, .bool stay, .bool more, .int .i64 off, .int .u8 ttl, .int .u8 pr, .int .u16 sm, .bool false, .int .u64 0, .int .u64 src, .bool false, .int .u64 0, .int .u64 dst, .slice OA n oc]) := Lib.hid (by rw [← hhb]; exact HB0.out)
  rw [hhb] at ⊢
  have HK2 : Hid (Below hb w w1) := Lib.hid (by rw [← hhb]; exact HK.out)
  clear HB0 HK
  refine wp_region_kept 43 [(15, fun v u => v = .int .i64 (20 + (n : Int))), (36, fun v u => v = .bool true), (41, fun v u => v = .bool true)] ?st ?ne rfl (by kernel_rfl) (by kernel_rfl) ?_
  case st =>
    intro p hp
    simp only [List.mem_cons, List.not_mem_nil, or_false] at hp
    rcases hp with rfl | rfl | rfl
    · intro v u u' h hk; exact h
    · intro v u u' h hk; exact h
    · intro v u u' h hk; exact h
  case ne =>
    intro p hp
    simp only [List.mem_cons, List.not_mem_nil, or_false] at hp
    rcases hp with rfl | rfl | rfl
    · exact ⟨_, _, Kept.refl _ _, rfl⟩
    · exact ⟨_, _, Kept.refl _ _, rfl⟩
    · exact ⟨_, _, Kept.refl _ _, rfl⟩
  simp only [List.take_succ_cons, List.take_zero, List.drop_succ_cons, List.drop_zero]
  intro G pick hR hp1 hp2
  have p0 : ∀ u, (pick u).cell? ⟨hb, 0, none⟩ = some (.int .u8 tos) := fun u => ((hp1 u).cell HB.out.lt (fun h => h) _).trans (HB.out.cell 0)
  have p1 : ∀ u, (pick u).cell? ⟨hb, 1, none⟩ = some (.int .i64 len) := fun u => ((hp1 u).cell HB.out.lt (fun h => h) _).trans (HB.out.cell 1)
  have p2 : ∀ u, (pick u).cell? ⟨hb, 2, none⟩ = some (.int .u16 id) := fun u => ((hp1 u).cell HB.out.lt (fun h => h) _).trans (HB.out.cell 2)
  have p3 : ∀ u, (pick u).cell? ⟨hb, 3, none⟩ = some (.bool stay) := fun u => ((hp1 u).cell HB.out.lt (fun h => h) _).trans (HB.out.cell 3)
  have p4 : ∀ u, (pick u).cell? ⟨hb, 4, none⟩ = some (.bool more) := fun u => ((hp1 u).cell HB.out.lt (fun h => h) _).trans (HB.out.cell 4)
  have p5 : ∀ u, (pick u).cell? ⟨hb, 5, none⟩ = some (.int .i64 off) := fun u => ((hp1 u).cell HB.out.lt (fun h => h) _).trans (HB.out.cell 5)
  have p6 : ∀ u, (pick u).cell? ⟨hb, 6, none⟩ = some (.int .u8 ttl) := fun u => ((hp1 u).cell HB.out.lt (fun h => h) _).trans (HB.out.cell 6)
  have p7 : ∀ u, (pick u).cell? ⟨hb, 7, none⟩ = some (.int .u8 pr) := fun u => ((hp1 u).cell HB.out.lt (fun h => h) _).trans (HB.out.cell 7)
  have p8 : ∀ u, (pick u).cell? ⟨hb, 8, none⟩ = some (.int .u16 sm) := fun u => ((hp1 u).cell HB.out.lt (fun h => h) _).trans (HB.out.cell 8)
  have p9 : ∀ u, (pick u).cell? ⟨hb, 9, none⟩ = some (.bool false) := fun u => ((hp1 u).cell HB.out.lt (fun h => h) _).trans (HB.out.cell 9)
  have p10 : ∀ u, (pick u).cell? ⟨hb, 10, none⟩ = some (.int .u64 0) := fun u => ((hp1 u).cell HB.out.lt (fun h => h) _).trans (HB.out.cell 10)
  have p11 : ∀ u, (pick u).cell? ⟨hb, 11, none⟩ = some (.int .u64 src) := fun u => ((hp1 u).cell HB.out.lt (fun h => h) _).trans (HB.out.cell 11)
  have p12 : ∀ u, (pick u).cell? ⟨hb, 12, none⟩ = some (.bool false) := fun u => ((hp1 u).cell HB.out.lt (fun h => h) _).trans (HB.out.cell 12)
  have p13 : ∀ u, (pick u).cell? ⟨hb, 13, none⟩ = some (.int .u64 0) := fun u => ((hp1 u).cell HB.out.lt (fun h => h) _).trans (HB.out.cell 13)
  have p14 : ∀ u, (pick u).cell? ⟨hb, 14, none⟩ = some (.int .u64 dst) := fun u => ((hp1 u).cell HB.out.lt (fun h => h) _).trans (HB.out.cell 14)
  have p15 : ∀ u, (pick u).cell? ⟨hb, 15, none⟩ = some (.slice OA n oc) := fun u => ((hp1 u).cell HB.out.lt (fun h => h) _).trans (HB.out.cell 15)
  repeat (first | (refine wpR_det hp2 rfl ((hR.rel _).trans rfl) rfl ?_; intro K hK; go_big_quiet_op; go_big_quiet_on) | (refine wpR_ptr hp2 rfl ((hR.rel _).trans rfl) rfl rfl ?_; intro K hK; go_big_quiet_op; go_big_quiet_on) | (refine wpR_skip pick rfl ?_; intro K hK; go_big_quiet_op; go_big_quiet_on))
  refine wpR_rel pick rfl ((hR.rel _).trans rfl) ((hR.turns _).trans rfl) ?_ ?_
  · intro u hu
    have hk := hR.since hu.1
    have hks := hk.size
    have hz := size_any tos len id stay more off ttl pr sm src dst OA n oc n40 u
    unfold relAt
    go_simp
    refine hz.mono ?_
    rintro e w' ⟨rfl, hb'⟩
    exact ⟨_, rfl, hR.intoB hb', hR.put 0 rfl rfl rfl⟩
  intro v hv
  obtain ⟨u, _, hu⟩ := hv
  obtain rfl := hR.get 0 rfl hu
  clear hu
  intro K hK
  go_big_quiet_op
  go_big_quiet_on
  repeat (first | (refine wpR_det hp2 rfl ((hR.rel _).trans rfl) rfl ?_; intro K hK; go_big_quiet_op; go_big_quiet_on) | (refine wpR_ptr hp2 rfl ((hR.rel _).trans rfl) rfl rfl ?_; intro K hK; go_big_quiet_op; go_big_quiet_on) | (refine wpR_skip pick rfl ?_; intro K hK; go_big_quiet_op; go_big_quiet_on))
  refine wpR_rel pick rfl ((hR.rel _).trans rfl) ((hR.turns _).trans rfl) ?_ ?_
  · intro u hu
    have hk := hR.since hu.1
    have hks := hk.size
    have hz := valid_any src src0 src1 u
    unfold relAt
    go_simp
    refine hz.mono ?_
    rintro e w' ⟨rfl, hb'⟩
    exact ⟨_, rfl, hR.intoB hb', hR.put 1 rfl rfl rfl⟩
  intro v hv
  obtain ⟨u, _, hu⟩ := hv
  obtain rfl := hR.get 1 rfl hu
  clear hu
  intro K hK
  go_big_quiet_op
  go_big_quiet_on
  repeat (first | (refine wpR_det hp2 rfl ((hR.rel _).trans rfl) rfl ?_; intro K hK; go_big_quiet_op; go_big_quiet_on) | (refine wpR_ptr hp2 rfl ((hR.rel _).trans rfl) rfl rfl ?_; intro K hK; go_big_quiet_op; go_big_quiet_on) | (refine wpR_skip pick rfl ?_; intro K hK; go_big_quiet_op; go_big_quiet_on))
  refine wpR_rel pick rfl ((hR.rel _).trans rfl) ((hR.turns _).trans rfl) ?_ ?_
  · intro u hu
    have hk := hR.since hu.1
    have hks := hk.size
    have hz := valid_any dst dst0 dst1 u
    unfold relAt
    go_simp
    refine hz.mono ?_
    rintro e w' ⟨rfl, hb'⟩
    exact ⟨_, rfl, hR.intoB hb', hR.put 2 rfl rfl rfl⟩
  intro v hv
  obtain ⟨u, _, hu⟩ := hv
  obtain rfl := hR.get 2 rfl hu
  clear hu
  intro K hK
  go_big_quiet_op
  go_big_quiet_on
  repeat (first | (refine wpR_det hp2 rfl ((hR.rel _).trans rfl) rfl ?_; intro K hK; go_big_quiet_op; go_big_quiet_on) | (refine wpR_ptr hp2 rfl ((hR.rel _).trans rfl) rfl rfl ?_; intro K hK; go_big_quiet_op; go_big_quiet_on) | (refine wpR_skip pick rfl ?_; intro K hK; go_big_quiet_op; go_big_quiet_on))
  refine wpR_nil ?_
  intro w9 hk2 hF hM
  have HK9 := Lib.hid (HK2.out.trans (hk2.below (B := hb) (by have := HS1.out; omega) (fun i h => h.elim)))
  clear hF hM hk2 hp1 hp2 hR p0 p1 p2 p3 p4 p5 p6 p7 p8 p9 p10 p11 p12 p13 p14 p15
  go_wp2_with fail
  go_ret
  exact ⟨rfl, by first | exact HK9.out | (rw [hhb]; exact HK9.out)⟩
set_option maxRecDepth 100000 in
set_option maxHeartbeats 4000000 in
theorem rightH_no (tos len id : Int) (stay more : Bool) (off ttl pr sm src dst : Int) (OA : Option Addr) (n oc : Nat) (n40 : n ≤ 40) (n4 : n % 4 = 0) (l0 : 20 + (n : Int) ≤ len) (l1 : len ≤ 65535) (o0 : 0 ≤ off) (src0 : 0 ≤ src) (src1 : src ≤ 4294967295) (dst0 : 0 ≤ dst) (dst1 : dst ≤ 4294967295) (o1 : ¬ off ≤ 8191) (w : World) :
    Calls Tryz.prog 119 #[.agg #[.int .u8 tos, .int .i64 len, .int .u16 id, .bool stay, .bool more, .int .i64 off, .int .u8 ttl, .int .u8 pr, .int .u16 sm, .bool false, .int .u64 0, .int .u64 src, .bool false, .int .u64 0, .int .u64 dst, .slice OA n oc]] w fun e w' => e = .returned (.bool false) ∧ Below w.heap.size w w' := by
  have g1 : decide ((n : Int) ≤ 40) = true := decide_eq_true (by omega)
  have g1' : decide (n ≤ 40) = true := decide_eq_true n40
  have g2 : ((n : Int) % 4 == 0) = true := by have : (n : Int) % 4 = 0 := by omega
                                              rw [this]; rfl
  have g3 : decide (20 + (n : Int) ≤ len) = true := decide_eq_true (by omega)
  have g4 : decide (len ≤ 65535) = true := decide_eq_true (by omega)
  have g5 : decide (0 ≤ off) = true := decide_eq_true (by omega)
  have g6 : decide (off ≤ 8191) = false := decide_eq_false (by omega)
  go_enter Tryz.func119, Tryz.ntmps119
  go_upto_region 1 with fail
  obtain ⟨w1, hw1⟩ : ∃ w1 : World, w1 = w.alloc (.cells #[.int .u8 tos, .int .i64 len, .int .u16 id, .bool stay, .bool more, .int .i64 off, .int .u8 ttl, .int .u8 pr, .int .u16 sm, .bool false, .int .u64 0, .int .u64 src, .bool false, .int .u64 0, .int .u64 dst, .slice OA n oc] 190) := ⟨_, rfl⟩
  have HB0 := Lib.hid (show Blk w1 w.heap.size 190 #[.int .u8 tos, .int .i64 len, .int .u16 id, .bool stay, .bool more, .int .i64 off, .int .u8 ttl, .int .u8 pr, .int .u16 sm, .bool false, .int .u64 0, .int .u64 src, .bool false, .int .u64 0, .int .u64 dst, .slice OA n oc] by rw [hw1]; exact Blk.new _ _ _)
  have HK := Lib.hid (show Below w.heap.size w w1 by rw [hw1]; exact (Below.refl _ _).alloc (Nat.le_refl _) _)
  have HS1 := Lib.hid (show w1.heap.size = w.heap.size + 1 by rw [hw1]; simp)
  rw [← hw1]
  clear hw1
  obtain ⟨hb, hhb⟩ : ∃ hb, w.heap.size = hb := ⟨_, rfl⟩
  have HB : Hid (Blk w1 hb 190 #[.int .u8 tos, .int .i64 len, .int .u16 id, .bool stay, .bool more, .int .i64 off, .int .u8 ttl, .int .u8 pr, .int .u16 sm, .bool false, .int .u64 0, .int .u64 src, .bool false, .int .u64 0, .int .u64 dst, .slice OA n oc]) := Lib.hid (by rw [← hhb]; exact HB0.out)
  rw [hhb] at ⊢
  have HK2 : Hid (Below hb w w1) := Lib.hid (by rw [← hhb]; exact HK.out)
  clear HB0 HK
  refine wp_region_kept 43 [(15, fun v u => v = .int .i64 (20 + (n : Int)))] ?st ?ne rfl (by kernel_rfl) (by kernel_rfl) ?_
  case st =>
    intro p hp
    simp only [List.mem_cons, List.not_mem_nil, or_false] at hp
    subst hp
    · intro v u u' h hk; exact h
  case ne =>
    intro p hp
    simp only [List.mem_cons, List.not_mem_nil, or_false] at hp
    subst hp
    · exact ⟨_, _, Kept.refl _ _, rfl⟩
  simp only [List.take_succ_cons, List.take_zero, List.drop_succ_cons, List.drop_zero]
  intro G pick hR hp1 hp2
  have p0 : ∀ u, (pick u).cell? ⟨hb, 0, none⟩ = some (.int .u8 tos) := fun u => ((hp1 u).cell HB.out.lt (fun h => h) _).trans (HB.out.cell 0)
  have p1 : ∀ u, (pick u).cell? ⟨hb, 1, none⟩ = some (.int .i64 len) := fun u => ((hp1 u).cell HB.out.lt (fun h => h) _).trans (HB.out.cell 1)
  have p2 : ∀ u, (pick u).cell? ⟨hb, 2, none⟩ = some (.int .u16 id) := fun u => ((hp1 u).cell HB.out.lt (fun h => h) _).trans (HB.out.cell 2)
  have p3 : ∀ u, (pick u).cell? ⟨hb, 3, none⟩ = some (.bool stay) := fun u => ((hp1 u).cell HB.out.lt (fun h => h) _).trans (HB.out.cell 3)
  have p4 : ∀ u, (pick u).cell? ⟨hb, 4, none⟩ = some (.bool more) := fun u => ((hp1 u).cell HB.out.lt (fun h => h) _).trans (HB.out.cell 4)
  have p5 : ∀ u, (pick u).cell? ⟨hb, 5, none⟩ = some (.int .i64 off) := fun u => ((hp1 u).cell HB.out.lt (fun h => h) _).trans (HB.out.cell 5)
  have p6 : ∀ u, (pick u).cell? ⟨hb, 6, none⟩ = some (.int .u8 ttl) := fun u => ((hp1 u).cell HB.out.lt (fun h => h) _).trans (HB.out.cell 6)
  have p7 : ∀ u, (pick u).cell? ⟨hb, 7, none⟩ = some (.int .u8 pr) := fun u => ((hp1 u).cell HB.out.lt (fun h => h) _).trans (HB.out.cell 7)
  have p8 : ∀ u, (pick u).cell? ⟨hb, 8, none⟩ = some (.int .u16 sm) := fun u => ((hp1 u).cell HB.out.lt (fun h => h) _).trans (HB.out.cell 8)
  have p9 : ∀ u, (pick u).cell? ⟨hb, 9, none⟩ = some (.bool false) := fun u => ((hp1 u).cell HB.out.lt (fun h => h) _).trans (HB.out.cell 9)
  have p10 : ∀ u, (pick u).cell? ⟨hb, 10, none⟩ = some (.int .u64 0) := fun u => ((hp1 u).cell HB.out.lt (fun h => h) _).trans (HB.out.cell 10)
  have p11 : ∀ u, (pick u).cell? ⟨hb, 11, none⟩ = some (.int .u64 src) := fun u => ((hp1 u).cell HB.out.lt (fun h => h) _).trans (HB.out.cell 11)
  have p12 : ∀ u, (pick u).cell? ⟨hb, 12, none⟩ = some (.bool false) := fun u => ((hp1 u).cell HB.out.lt (fun h => h) _).trans (HB.out.cell 12)
  have p13 : ∀ u, (pick u).cell? ⟨hb, 13, none⟩ = some (.int .u64 0) := fun u => ((hp1 u).cell HB.out.lt (fun h => h) _).trans (HB.out.cell 13)
  have p14 : ∀ u, (pick u).cell? ⟨hb, 14, none⟩ = some (.int .u64 dst) := fun u => ((hp1 u).cell HB.out.lt (fun h => h) _).trans (HB.out.cell 14)
  have p15 : ∀ u, (pick u).cell? ⟨hb, 15, none⟩ = some (.slice OA n oc) := fun u => ((hp1 u).cell HB.out.lt (fun h => h) _).trans (HB.out.cell 15)
  repeat (first | (refine wpR_det hp2 rfl ((hR.rel _).trans rfl) rfl ?_; intro K hK; go_big_quiet_op; go_big_quiet_on) | (refine wpR_ptr hp2 rfl ((hR.rel _).trans rfl) rfl rfl ?_; intro K hK; go_big_quiet_op; go_big_quiet_on) | (refine wpR_skip pick rfl ?_; intro K hK; go_big_quiet_op; go_big_quiet_on))
  refine wpR_rel pick rfl ((hR.rel _).trans rfl) ((hR.turns _).trans rfl) ?_ ?_
  · intro u hu
    have hk := hR.since hu.1
    have hks := hk.size
    have hz := size_any tos len id stay more off ttl pr sm src dst OA n oc n40 u
    unfold relAt
    go_simp
    refine hz.mono ?_
    rintro e w' ⟨rfl, hb'⟩
    exact ⟨_, rfl, hR.intoB hb', hR.put 0 rfl rfl rfl⟩
  intro v hv
  obtain ⟨u, _, hu⟩ := hv
  obtain rfl := hR.get 0 rfl hu
  clear hu
  intro K hK
  go_big_quiet_op
  go_big_quiet_on
  repeat (first | (refine wpR_det hp2 rfl ((hR.rel _).trans rfl) rfl ?_; intro K hK; go_big_quiet_op; go_big_quiet_on) | (refine wpR_ptr hp2 rfl ((hR.rel _).trans rfl) rfl rfl ?_; intro K hK; go_big_quiet_op; go_big_quiet_on) | (refine wpR_skip pick rfl ?_; intro K hK; go_big_quiet_op; go_big_quiet_on))
  refine wpR_nil ?_
  intro w9 hk2 hF hM
  have HK9 := Lib.hid (HK2.out.trans (hk2.below (B := hb) (by have := HS1.out; omega) (fun i h => h.elim)))
  clear hF hM hk2 hp1 hp2 hR p0 p1 p2 p3 p4 p5 p6 p7 p8 p9 p10 p11 p12 p13 p14 p15
  go_wp2_with fail
  go_ret
  exact ⟨rfl, by first | exact HK9.out | (rw [hhb]; exact HK9.out)⟩
end Go.Proofs.YtdnbhmfofphblaaGreatDoor
