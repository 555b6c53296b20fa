/- An empty disk and its journal. -/
import Derived.Test.YtdnbhmfofphblaaGreatDoorTB
import Derived.Test.YtdnbhmfofphblaaGreatDoorTP
namespace Go.Proofs.YtdnbhmfofphblaaGreatDoor
open Go.RowKit
set_option maxRecDepth 100000
set_option linter.unusedVariables false
set_option linter.unusedSimpArgs false
theorem diskNew (m : Int) (m0 : 0 ≤ m) (m1 : m ≤ 1000000) (w : World) :
    Calls Tryz.prog 14 #[.int .i64 m] w fun e w' => e = .returned (.pointer (some ⟨w.heap.size, 0, none⟩)) ∧ Blk w' w.heap.size 138 #[.int .i64 m, .slice none 0 0, .int .i64 0, .int .i64 0] ∧ Kept (fun _ => False) w w' := by
  go_enter Tryz.func14, Tryz.ntmps14
  go_wp2
  go_ret
  exact ⟨rfl, by first | exact Blk.new _ _ _ | (rw [Int.max_eq_left m0]; exact Blk.new _ _ _), (Kept.refl _ _).alloc _⟩
theorem mailNew (m : Int) (m0 : 0 ≤ m) (m1 : m ≤ 1000000) (w : World) :
    Calls Tryz.prog 15 #[.int .i64 m] w fun e w' => ∃ b, e = .returned (.pointer (some ⟨b, 0, none⟩)) ∧ w.heap.size ≤ b ∧ Kept (fun _ => False) w w' := by
  go_enter Tryz.func15, Tryz.ntmps15
  go_wp2
  go_ret
  exact ⟨_, rfl, Nat.le_refl _, (Kept.refl _ _).alloc _⟩
theorem cloneNil (w : World) : Calls Tryz.prog 163 #[.slice none 0 0] w fun e w' => e = .returned (.slice none 0 0) ∧ w = w' := by
  have hq := fun W => Lib.run_eql_slice_nil (P := Tryz.prog) W 44 5 none 0 0 0 0 Tryz.underlying44
  go_enter Tryz.func163, Tryz.ntmps163
  go_wp2
  go_ret
  exact ⟨rfl, rfl⟩
theorem diskRead (dm : Int) (db : Nat) (w : World) (hD : Blk w db 138 #[.int .i64 dm, .slice none 0 0, .int .i64 0, .int .i64 0]) : Calls Tryz.prog 101 #[.pointer (some ⟨db, 0, none⟩)] w fun e w' => e = .returned (.slice none 0 0) ∧ w = w' := by
  have cD := hD.cell
  have lD := hD.lt
  have fD := hD.frozen
  go_enter Tryz.func101, Tryz.ntmps101
  go_wp2_with fail
  refine (cloneNil w).mono ?_
  rintro e w' ⟨rfl, rfl⟩
  go_wp2_with fail
  go_ret
  exact ⟨rfl, rfl⟩
theorem diskCut (dm : Int) (db : Nat) (w : World) (hD : Blk w db 138 #[.int .i64 dm, .slice none 0 0, .int .i64 0, .int .i64 0]) : Calls Tryz.prog 102 #[.pointer (some ⟨db, 0, none⟩), .int .i64 0] w fun e w' => e = .returned (.int .i64 0) ∧ Blk w' db 138 #[.int .i64 dm, .slice none 0 0, .int .i64 0, .int .i64 0] ∧ Kept (fun i => i = db) w w' := by
  have cD := hD.cell
  have lD := hD.lt
  have fD := hD.frozen
  go_enter Tryz.func102, Tryz.ntmps102
  go_wp2
  go_ret
  exact ⟨rfl, (hD.set_to (cs' := #[.int .i64 dm, .slice none 0 0, .int .i64 0, .int .i64 0]) rfl).set_to rfl, Kept.setIn (S := fun i => i = db) rfl (Kept.setIn (S := fun i => i = db) rfl (Kept.refl _ _))⟩
theorem firstNil (n : Int) (w : World) : Calls Tryz.prog 162 #[.slice none 0 0, .int .u64 n] w fun e w' => e = .returned (.tuple #[.slice none 0 0, .bool false]) ∧ w = w' := by
  go_enter Tryz.func162, Tryz.ntmps162
  go_wp2
  go_ret2
  exact ⟨rfl, rfl⟩
theorem scanNil (w : World) : Calls Tryz.prog 100 #[.slice none 0 0] w fun e w' => e = .returned (.tuple #[.slice none 0 0, .int .i64 0]) ∧ w = w' := by
  go_enter Tryz.func100, Tryz.ntmps100
  go_wp2
  refine wp_loop_rounds 1 ?_
  rw [rounds_succ]
  go_wp2_with fail
  refine (firstNil 1 w).mono ?_
  rintro e w' ⟨rfl, rfl⟩
  go_wp2_with fail
  go_ret2
  exact ⟨rfl, rfl⟩
theorem jouOpen (dm : Int) (db : Nat) (w : World) (hD : Blk w db 138 #[.int .i64 dm, .slice none 0 0, .int .i64 0, .int .i64 0]) : Calls Tryz.prog 47 #[.pointer (some ⟨db, 0, none⟩)] w fun e w' => ∃ jb, e = .returned (.tuple #[.pointer (some ⟨jb, 0, none⟩), .int .i64 0]) ∧ w.heap.size ≤ jb ∧ Blk w' jb 241 #[.pointer (some ⟨db, 0, none⟩), .slice none 0 0] ∧ Blk w' db 138 #[.int .i64 dm, .slice none 0 0, .int .i64 0, .int .i64 0] ∧ Kept (fun i => i = db) w w' := by
  have HD := Lib.hid hD
  clear hD
  go_enter Tryz.func47, Tryz.ntmps47
  go_wp2_with fail
  refine (diskRead dm db w HD.out).mono ?_
  rintro e w' ⟨rfl, rfl⟩
  go_wp2_with fail
  refine (scanNil w).mono ?_
  rintro e w' ⟨rfl, rfl⟩
  go_wp2_with fail
  refine (diskCut dm db w HD.out).mono ?_
  rintro e w2 ⟨rfl, hd, hk⟩
  have HD2 := Lib.hid hd
  have HK2 := Lib.hid hk
  clear hd hk
  go_wp2_with fail
  go_ret2
  exact ⟨_, rfl, HK2.out.size, Blk.new _ _ _, HD2.out.alloc _, HK2.out.alloc _⟩
theorem jouLen (db jb : Nat) (w : World) (hJ : Blk w jb 241 #[.pointer (some ⟨db, 0, none⟩), .slice none 0 0]) : Calls Tryz.prog 48 #[.pointer (some ⟨jb, 0, none⟩)] w fun e w' => e = .returned (.int .i64 0) ∧ w = w' := by
  have cD := hJ.cell
  have lD := hJ.lt
  have fD := hJ.frozen
  go_enter Tryz.func48, Tryz.ntmps48
  go_wp2
  go_ret
  exact ⟨rfl, rfl⟩
end Go.Proofs.YtdnbhmfofphblaaGreatDoor
/- addr.V4, V6, Right; load.New, plane.New. -/
namespace Go.Proofs.YtdnbhmfofphblaaGreatDoor
open Go.RowKit
set_option maxRecDepth 100000
set_option linter.unusedVariables false
set_option linter.unusedSimpArgs false
set_option maxRecDepth 100000 in
set_option maxHeartbeats 2000000 in
theorem v4T (w : World) : Calls Tryz.prog 17 #[.int .u8 10, .int .u8 0, .int .u8 1, .int .u8 1] w fun e w' => e = .returned (.agg #[.bool false, .int .u64 0, .int .u64 167772417]) ∧ Kept (fun _ => False) w w' := by
  go_enter Tryz.func17, Tryz.ntmps17
  go_upto_region 1 with fail
  obtain ⟨w1, hw1⟩ : ∃ w1 : World, w1 = (w.alloc (.cells #[.bool false, .int .u64 0, .int .u64 0] 26)) := ⟨_, rfl⟩
  have HAB1 := Lib.hid (show Blk w1 w.heap.size 26 #[.bool false, .int .u64 0, .int .u64 0] by rw [hw1]; exact Blk.new _ _ _)
  have HK1 := Lib.hid (show Kept (fun _ => False) w w1 by rw [hw1]; exact (Kept.refl _ _).alloc _)
  rw [← hw1]
  clear hw1
  obtain ⟨ab, hab⟩ : ∃ ab, w.heap.size = ab := ⟨_, rfl⟩
  rw [hab] at HAB1
  (try rw [hab])
  have HNE := Lib.hid (show ab = w.heap.size + 0 ∧ True from ⟨by omega, trivial⟩)
  clear hab
  have cAB := HAB1.out.cell
  have lAB := HAB1.out.lt
  have fAB := HAB1.out.frozen
  go_wp2_with (show wpList _ _ _ ((⟨none, .store 26 (.tmp 8) _, _, _, _, none⟩ : Oper) :: _) _ _; refine wpList_store_mid rfl 26 (.tmp 8) _ rfl ab 0 #[.bool false, .int .u64 0, .int .u64 167772417] rfl rfl (HAB1.out.there rfl) (by kernel_rfl) (by simp [Value.oneCell']) ?_)
  generalize hwq : World.setCells _ _ _ _ = w2
  have HX2 := Lib.hid (show Kept (fun i => i = ab) w1 w2 by rw [← hwq]; exact Kept.setCells (S := fun i => i = ab) rfl _ _ (Kept.refl _ _))
  have HAB2 := Lib.hid (show Blk w2 ab 26 #[.bool false, .int .u64 0, .int .u64 167772417] by rw [← hwq]; exact HAB1.out.setAll #[.bool false, .int .u64 0, .int .u64 167772417] rfl)
  have HK2 := Lib.hid (HK1.out.then HX2.out (fun i hi e => by have := HNE.out; omega))
  clear cAB lAB fAB
  clear hwq
  have cAB := HAB2.out.cell
  have lAB := HAB2.out.lt
  have fAB := HAB2.out.frozen
  exact bodyPost_ret (results_blk1 (P := Tryz.prog) (show Tryz.f17.results = _ from rfl) _ _ ab 26 #[.bool false, .int .u64 0, .int .u64 167772417] _ rfl HAB2.out Tryz.underlying26 rfl (by kernel_rfl)) rfl ⟨rfl, HK2.out⟩
set_option maxRecDepth 100000 in
set_option maxHeartbeats 2000000 in
theorem v6T (x y : Int) (w : World) : Calls Tryz.prog 18 #[.int .u64 x, .int .u64 y] w fun e w' => e = .returned (.agg #[.bool true, .int .u64 x, .int .u64 y]) ∧ Kept (fun _ => False) w w' := by
  go_enter Tryz.func18, Tryz.ntmps18
  go_upto_region 1 with fail
  obtain ⟨w1, hw1⟩ : ∃ w1 : World, w1 = (w.alloc (.cells #[.bool false, .int .u64 0, .int .u64 0] 26)) := ⟨_, rfl⟩
  have HAB1 := Lib.hid (show Blk w1 w.heap.size 26 #[.bool false, .int .u64 0, .int .u64 0] by rw [hw1]; exact Blk.new _ _ _)
  have HK1 := Lib.hid (show Kept (fun _ => False) w w1 by rw [hw1]; exact (Kept.refl _ _).alloc _)
  rw [← hw1]
  clear hw1
  obtain ⟨ab, hab⟩ : ∃ ab, w.heap.size = ab := ⟨_, rfl⟩
  rw [hab] at HAB1
  (try rw [hab])
  have HNE := Lib.hid (show ab = w.heap.size + 0 ∧ True from ⟨by omega, trivial⟩)
  clear hab
  have cAB := HAB1.out.cell
  have lAB := HAB1.out.lt
  have fAB := HAB1.out.frozen
  go_wp2_with (show wpList _ _ _ ((⟨none, .store 26 (.tmp 4) _, _, _, _, none⟩ : Oper) :: _) _ _; refine wpList_store_mid rfl 26 (.tmp 4) _ rfl ab 0 #[.bool true, .int .u64 x, .int .u64 y] rfl rfl (HAB1.out.there rfl) (by kernel_rfl) (by simp [Value.oneCell']) ?_)
  generalize hwq : World.setCells _ _ _ _ = w2
  have HX2 := Lib.hid (show Kept (fun i => i = ab) w1 w2 by rw [← hwq]; exact Kept.setCells (S := fun i => i = ab) rfl _ _ (Kept.refl _ _))
  have HAB2 := Lib.hid (show Blk w2 ab 26 #[.bool true, .int .u64 x, .int .u64 y] by rw [← hwq]; exact HAB1.out.setAll #[.bool true, .int .u64 x, .int .u64 y] rfl)
  have HK2 := Lib.hid (HK1.out.then HX2.out (fun i hi e => by have := HNE.out; omega))
  clear cAB lAB fAB
  clear hwq
  have cAB := HAB2.out.cell
  have lAB := HAB2.out.lt
  have fAB := HAB2.out.frozen
  exact bodyPost_ret (results_blk1 (P := Tryz.prog) (show Tryz.f18.results = _ from rfl) _ _ ab 26 #[.bool true, .int .u64 x, .int .u64 y] _ rfl HAB2.out Tryz.underlying26 rfl (by kernel_rfl)) rfl ⟨rfl, HK2.out⟩
theorem rightAx (x : Int) (x1 : x < 4294967296) (w : World) : Calls Tryz.prog 46 #[.agg #[.bool false, .int .u64 0, .int .u64 x]] w fun e w' => e = .returned (.bool true) ∧ Kept (fun _ => False) w w' := by
  have g : decide (x < 4294967296) = true := decide_eq_true x1
  go_enter Tryz.func46, Tryz.ntmps46
  go_wp2
  go_ret
  exact ⟨by first | rfl | rw [g] | simp [g], (Kept.refl _ _).alloc _⟩
theorem loadNew (w : World) : Calls Tryz.prog 55 #[] w fun e w' => ∃ lb, e = .returned (.pointer (some ⟨lb, 0, none⟩)) ∧ Kept (fun _ => False) w w' := by
  have hmm := @run_makeMap Tryz.prog
  go_enter Tryz.func55, Tryz.ntmps55
  go_wp2
  go_ret
  exact ⟨_, rfl, ((Kept.refl _ _).alloc _).alloc _⟩
set_option maxRecDepth 100000 in
set_option maxHeartbeats 2000000 in
theorem planeNew (x y pm : Int) (x1 : x < 4294967296) (p0 : 576 ≤ pm) (p1 : pm ≤ 9000) (w : World) : Calls Tryz.prog 19 #[.agg #[.bool false, .int .u64 0, .int .u64 x, .bool true, .int .u64 0, .int .u64 y, .int .i64 pm]] w fun e w' => ∃ rb, e = .returned (.tuple #[.pointer (some ⟨rb, 0, none⟩), .int .i64 0]) ∧ Kept (fun _ => False) w w' := by
  have g1 : decide (pm < 576) = false := decide_eq_false (by omega)
  have g2 : decide (9000 < pm) = false := decide_eq_false (by omega)
  go_enter Tryz.func19, Tryz.ntmps19
  go_upto_region 1 with fail
  obtain ⟨w1, hw1⟩ : ∃ w1 : World, w1 = (w.alloc (.cells #[.bool false, .int .u64 0, .int .u64 x, .bool true, .int .u64 0, .int .u64 y, .int .i64 pm] 82)) := ⟨_, rfl⟩
  have HPB1 := Lib.hid (show Blk w1 w.heap.size 82 #[.bool false, .int .u64 0, .int .u64 x, .bool true, .int .u64 0, .int .u64 y, .int .i64 pm] by rw [hw1]; exact Blk.new _ _ _)
  have HK1 := Lib.hid (show Kept (fun _ => False) w w1 by rw [hw1]; exact (Kept.refl _ _).alloc _)
  rw [← hw1]
  clear hw1
  obtain ⟨pb, hpb⟩ : ∃ pb, w.heap.size = pb := ⟨_, rfl⟩
  rw [hpb] at HPB1
  (try rw [hpb])
  have HNE := Lib.hid (show pb = w.heap.size + 0 ∧ True from ⟨by omega, trivial⟩)
  clear hpb
  have cPB := HPB1.out.cell
  have lPB := HPB1.out.lt
  have fPB := HPB1.out.frozen
  go_wp2_with fail
  refine (rightAx x x1 w1).mono ?_
  rintro e w2 ⟨rfl, hk⟩
  have HK2 := Lib.hid (HK1.out.trans hk)
  have HS2 := Lib.hid (show Kept (fun _ => False) w1 w2 from hk)
  have HPB2 := Lib.hid (HPB1.out.kept hk (fun h => h))
  clear cPB lPB fPB
  have cPB := HPB2.out.cell
  have lPB := HPB2.out.lt
  have fPB := HPB2.out.frozen
  clear hk
  go_upto_region 5 with fail
  clear cPB lPB fPB
  refine wp_region_kept 6 [(0, fun v u => ∃ lb, v = .pointer (some ⟨lb, 0, none⟩)), (1, fun v u => v = .agg #[.bool false, .int .u64 0, .int .u64 x, .bool true, .int .u64 0, .int .u64 y, .int .i64 pm]), (3, fun v u => ∃ rb, v = .pointer (some ⟨rb, 0, none⟩))] ?st ?ne rfl (by kernel_rfl) (by kernel_rfl) ?_
  case st =>
    intro p hp
    simp only [List.mem_cons, List.not_mem_nil, or_false] at hp
    rcases hp with rfl | rfl | rfl
    · intro v u u' h hk; exact h
    · intro v u u' h hk; exact h
    · intro v u u' h hk; exact h
  case ne =>
    intro p hp
    simp only [List.mem_cons, List.not_mem_nil, or_false] at hp
    rcases hp with rfl | rfl | rfl
    · exact ⟨_, _, Kept.refl _ _, 0, rfl⟩
    · exact ⟨_, _, Kept.refl _ _, rfl⟩
    · exact ⟨_, _, Kept.refl _ _, 0, rfl⟩
  simp only [List.take_succ_cons, List.take_zero, List.drop_succ_cons, List.drop_zero]
  intro G pick hR hp1 hp2
  repeat (first | (refine wpR_det hp2 rfl ((hR.rel _).trans rfl) rfl ?_; intro K hK; go_big_quiet_op; go_big_quiet_on) | (refine wpR_ptr hp2 rfl ((hR.rel _).trans rfl) rfl rfl ?_; intro K hK; go_big_quiet_op; go_big_quiet_on) | (refine wpR_skip pick rfl ?_; intro K hK; go_big_quiet_op; go_big_quiet_on))
  refine wpR_rel pick rfl ((hR.rel _).trans rfl) ((hR.turns _).trans rfl) ?_ ?_
  · intro u hu
    have hk := hR.since hu.1
    have hks := hk.size
    unfold relAt
    go_simp
    refine (loadNew u).mono ?_
    rintro e' w' ⟨lb, rfl, hk'⟩
    exact ⟨_, rfl, hR.into0 hk', hR.put 0 rfl rfl ⟨lb, rfl⟩⟩
  intro v hv
  obtain ⟨u, _, hu⟩ := hv
  obtain ⟨lb, rfl⟩ := hR.get 0 rfl hu
  clear hu
  intro K hK
  go_big_quiet_op
  go_big_quiet_on
  repeat (first | (refine wpR_det hp2 rfl ((hR.rel _).trans rfl) rfl ?_; intro K hK; go_big_quiet_op; go_big_quiet_on) | (refine wpR_ptr hp2 rfl ((hR.rel _).trans rfl) rfl rfl ?_; intro K hK; go_big_quiet_op; go_big_quiet_on) | (refine wpR_skip pick rfl ?_; intro K hK; go_big_quiet_op; go_big_quiet_on))
  refine wpR_rel pick rfl ((hR.rel _).trans rfl) ((hR.turns _).trans rfl) ?_ ?_
  · intro u hu
    have hk := hR.since hu.1
    have hks := hk.size
    refine relAt_load_mid 82 (.tmp 1) rfl pb 0 rfl [.bool false, .int .u64 0, .int .u64 x, .bool true, .int .u64 0, .int .u64 y, .int .i64 pm] _ ((HPB2.out.kept hk (fun h => h)).range) Tryz.underlying82 rfl (by kernel_rfl) ?_
    exact ⟨hR.into0 (Kept.refl _ _), hR.put 1 rfl rfl rfl⟩
  intro v hv
  obtain ⟨u, _, hu⟩ := hv
  obtain rfl := hR.get 1 rfl hu
  clear hu
  intro K hK
  go_big_quiet_op
  go_big_quiet_on
  repeat (first | (refine wpR_det hp2 rfl ((hR.rel _).trans rfl) rfl ?_; intro K hK; go_big_quiet_op; go_big_quiet_on) | (refine wpR_ptr hp2 rfl ((hR.rel _).trans rfl) rfl rfl ?_; intro K hK; go_big_quiet_op; go_big_quiet_on) | (refine wpR_skip pick rfl ?_; intro K hK; go_big_quiet_op; go_big_quiet_on))
  refine wpR_rel pick rfl ((hR.rel _).trans rfl) ((hR.turns _).trans rfl) ?_ ?_
  · intro u hu
    have hk := hR.since hu.1
    have hks := hk.size
    unfold relAt
    go_simp
    exact ⟨hR.into0 ((Kept.refl _ _).alloc _), hR.put 2 rfl rfl ⟨_, rfl⟩⟩
  intro v hv
  obtain ⟨u, _, hu⟩ := hv
  obtain ⟨rb, rfl⟩ := hR.get 2 rfl hu
  clear hu
  intro K hK
  go_big_quiet_op
  go_big_quiet_on
  repeat (first | (refine wpR_det hp2 rfl ((hR.rel _).trans rfl) rfl ?_; intro K hK; go_big_quiet_op; go_big_quiet_on) | (refine wpR_ptr hp2 rfl ((hR.rel _).trans rfl) rfl rfl ?_; intro K hK; go_big_quiet_op; go_big_quiet_on) | (refine wpR_skip pick rfl ?_; intro K hK; go_big_quiet_op; go_big_quiet_on))
  refine wpR_nil ?_
  intro w3 hk2 hF hM
  have HK3 := Lib.hid (HK2.out.trans hk2)
  clear hF hM hp1 hp2 hR hk2
  go_wp2_with fail
  go_ret2
  exact ⟨_, rfl, HK3.out⟩
end Go.Proofs.YtdnbhmfofphblaaGreatDoor
