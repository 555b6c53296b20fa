/- control.Open of an empty disk. -/
import Derived.Test.YtdnbhmfofphblaaGreatDoorVF
import Derived.Test.YtdnbhmfofphblaaGreatDoorVG
namespace Go.Proofs.YtdnbhmfofphblaaGreatDoor
open Go.RowKit
set_option maxRecDepth 100000
set_option linter.unusedVariables false
set_option linter.unusedSimpArgs false
structure Ctl (w : World) (xb jb nb db st su rm : Nat) : Prop where
  c : Blk w xb 150 #[.pointer (some ⟨jb, 0, none⟩), .int .i64 0, .pointer (some ⟨st, 0, none⟩), .pointer (some ⟨su, 0, none⟩), .map (some rm), .slice (some ⟨nb, 0, none⟩) 2 2]
  j : Blk w jb 241 #[.pointer (some ⟨db, 0, none⟩), .slice none 0 0]
  n : Blk w nb 399 #[.int .u64 0, .int .u64 0, .int .u64 0, .int .u64 0]
set_option maxRecDepth 100000 in
set_option maxHeartbeats 2000000 in
theorem ctlOpen (dm : Int) (k : Nat → Int) (db : Nat) (w : World) (hD : Blk w db 138 #[.int .i64 dm, .slice none 0 0, .int .i64 0, .int .i64 0]) :
    Calls Tryz.prog 16 #[.pointer (some ⟨db, 0, none⟩), .agg #[.int .u8 (k 0), .int .u8 (k 1), .int .u8 (k 2), .int .u8 (k 3), .int .u8 (k 4), .int .u8 (k 5), .int .u8 (k 6), .int .u8 (k 7), .int .u8 (k 8), .int .u8 (k 9), .int .u8 (k 10), .int .u8 (k 11), .int .u8 (k 12), .int .u8 (k 13), .int .u8 (k 14), .int .u8 (k 15)], .int .i64 2] w fun e w' => ∃ xb jb nb st su rm, e = .returned (.tuple #[.pointer (some ⟨xb, 0, none⟩), .int .i64 0]) ∧ w.heap.size ≤ xb ∧ Ctl w' xb jb nb db st su rm ∧ Kept (fun i => i = db) w w' := by
  have hmm := @run_makeMap Tryz.prog
  have hmk := Lib.hid (fun W : World => (show (Instr.makeSlice 148 (.int .i64 2) (.int .i64 2)).run Tryz.prog W = .ok (.slice (some ⟨W.heap.size, 0, none⟩) 2 2) (W.alloc (.cells #[.int .u64 0, .int .u64 0, .int .u64 0, .int .u64 0] 399)) by kernel_rfl))
  have HD := Lib.hid hD
  clear hD
  go_enter Tryz.func16, Tryz.ntmps16
  go_upto_region 1 with fail
  obtain ⟨w1, hw1⟩ : ∃ w1 : World, w1 = (w.alloc (.cells #[.int .u8 (k 0), .int .u8 (k 1), .int .u8 (k 2), .int .u8 (k 3), .int .u8 (k 4), .int .u8 (k 5), .int .u8 (k 6), .int .u8 (k 7), .int .u8 (k 8), .int .u8 (k 9), .int .u8 (k 10), .int .u8 (k 11), .int .u8 (k 12), .int .u8 (k 13), .int .u8 (k 14), .int .u8 (k 15)] 36)) := ⟨_, rfl⟩
  have HKB1 := Lib.hid (show Blk w1 w.heap.size 36 #[.int .u8 (k 0), .int .u8 (k 1), .int .u8 (k 2), .int .u8 (k 3), .int .u8 (k 4), .int .u8 (k 5), .int .u8 (k 6), .int .u8 (k 7), .int .u8 (k 8), .int .u8 (k 9), .int .u8 (k 10), .int .u8 (k 11), .int .u8 (k 12), .int .u8 (k 13), .int .u8 (k 14), .int .u8 (k 15)] by rw [hw1]; exact Blk.new _ _ _)
  have HK1 := Lib.hid (show Kept (fun _ => False) w w1 by rw [hw1]; exact (Kept.refl _ _).alloc _)
  rw [← hw1]
  clear hw1
  obtain ⟨kb, hkb⟩ : ∃ kb, w.heap.size = kb := ⟨_, rfl⟩
  rw [hkb] at HKB1
  (try rw [hkb])
  have HNE := Lib.hid (show kb = w.heap.size + 0 ∧ True from ⟨by omega, trivial⟩)
  clear hkb
  have cKB := HKB1.out.cell
  have lKB := HKB1.out.lt
  have fKB := HKB1.out.frozen
  clear cKB lKB fKB
  have HDW := Lib.hid HD.out.lt
  go_wp2_with fail
  refine (jouOpen dm db w1 (HD.out.kept HK1.out (fun h => h))).mono ?_
  rintro e w2 ⟨jb, rfl, hj, hjb, -, hk⟩
  have HJ2 := Lib.hid hjb
  have HJL := Lib.hid hj
  have HKB2 := Lib.hid (HKB1.out.kept hk (fun h => by have := HNE.out; have := HDW.out; omega))
  have HK2 := Lib.hid (show Kept (fun i => i = db) w w2 from (HK1.out.mono (fun _ _ h => h.elim)).trans hk)
  clear hj hjb hk
  go_upto_region 6 with fail
  refine wp_region_kept 11 [(2, fun v u => v = .int .i64 0), (3, fun v u => v = .agg #[.int .u8 (k 0), .int .u8 (k 1), .int .u8 (k 2), .int .u8 (k 3), .int .u8 (k 4), .int .u8 (k 5), .int .u8 (k 6), .int .u8 (k 7), .int .u8 (k 8), .int .u8 (k 9), .int .u8 (k 10), .int .u8 (k 11), .int .u8 (k 12), .int .u8 (k 13), .int .u8 (k 14), .int .u8 (k 15)]), (4, fun v u => ∃ st Z, v = .pointer (some ⟨st, 0, none⟩) ∧ w2.heap.size ≤ st ∧ Blk u st 250 Z ∧ StZ Z), (5, fun v u => ∃ rm, v = .map (some rm)), (7, fun v u => ∃ nb, v = .slice (some ⟨nb, 0, none⟩) 2 2 ∧ w2.heap.size ≤ nb ∧ Blk u nb 399 #[.int .u64 0, .int .u64 0, .int .u64 0, .int .u64 0]), (9, fun v u => ∃ xb st nb rm Z, v = .pointer (some ⟨xb, 0, none⟩) ∧ w2.heap.size ≤ xb ∧ Blk u xb 150 #[.pointer (some ⟨jb, 0, none⟩), .int .i64 0, .pointer (some ⟨st, 0, none⟩), .pointer none, .map (some rm), .slice (some ⟨nb, 0, none⟩) 2 2] ∧ w2.heap.size ≤ st ∧ Blk u st 250 Z ∧ StZ Z ∧ w2.heap.size ≤ nb ∧ Blk u nb 399 #[.int .u64 0, .int .u64 0, .int .u64 0, .int .u64 0])] ?st ?ne rfl (by kernel_rfl) (by kernel_rfl) ?_
  case st =>
    intro p hp
    simp only [List.mem_cons, List.not_mem_nil, or_false] at hp
    rcases hp with rfl | rfl | rfl | rfl | rfl | rfl
    · intro v u u' h hk; exact h
    · intro v u u' h hk; exact h
    · rintro v u u' ⟨st, Z, h1, h2, h3, h4⟩ hk; exact ⟨st, Z, h1, h2, h3.kept hk (fun h => h), h4⟩
    · intro v u u' h hk; exact h
    · rintro v u u' ⟨nb, h1, h2, h3⟩ hk; exact ⟨nb, h1, h2, h3.kept hk (fun h => h)⟩
    · rintro v u u' ⟨xb, st, nb, rm, Z, h1, h2, h3, h4, h5, h6, h7, h8⟩ hk; exact ⟨xb, st, nb, rm, Z, h1, h2, h3.kept hk (fun h => h), h4, h5.kept hk (fun h => h), h6, h7, h8.kept hk (fun h => h)⟩
  case ne =>
    intro p hp
    simp only [List.mem_cons, List.not_mem_nil, or_false] at hp
    rcases hp with rfl | rfl | rfl | rfl | rfl | rfl
    · exact ⟨_, _, Kept.refl _ _, rfl⟩
    · exact ⟨_, _, Kept.refl _ _, rfl⟩
    · exact ⟨_, _, (Kept.refl _ _).alloc _, w2.heap.size, (((((((((((((((((Tryz.zeroCells250.setIfInBounds 1 (.int .u8 (k 0))).setIfInBounds 2 (.int .u8 (k 1))).setIfInBounds 3 (.int .u8 (k 2))).setIfInBounds 4 (.int .u8 (k 3))).setIfInBounds 5 (.int .u8 (k 4))).setIfInBounds 6 (.int .u8 (k 5))).setIfInBounds 7 (.int .u8 (k 6))).setIfInBounds 8 (.int .u8 (k 7))).setIfInBounds 9 (.int .u8 (k 8))).setIfInBounds 10 (.int .u8 (k 9))).setIfInBounds 11 (.int .u8 (k 10))).setIfInBounds 12 (.int .u8 (k 11))).setIfInBounds 13 (.int .u8 (k 12))).setIfInBounds 14 (.int .u8 (k 13))).setIfInBounds 15 (.int .u8 (k 14))).setIfInBounds 16 (.int .u8 (k 15))).setIfInBounds 17 (.int .u64 0)), rfl, Nat.le_refl _, Blk.new _ _ _, stZ250 k⟩
    · exact ⟨_, w2, Kept.refl _ _, 0, rfl⟩
    · exact ⟨_, _, (Kept.refl _ _).alloc _, w2.heap.size, rfl, Nat.le_refl _, Blk.new _ _ _⟩
    · exact ⟨_, _, (((Kept.refl _ _).alloc (.cells ((((((((((((((((((Tryz.zeroCells250.setIfInBounds 1 (.int .u8 (k 0))).setIfInBounds 2 (.int .u8 (k 1))).setIfInBounds 3 (.int .u8 (k 2))).setIfInBounds 4 (.int .u8 (k 3))).setIfInBounds 5 (.int .u8 (k 4))).setIfInBounds 6 (.int .u8 (k 5))).setIfInBounds 7 (.int .u8 (k 6))).setIfInBounds 8 (.int .u8 (k 7))).setIfInBounds 9 (.int .u8 (k 8))).setIfInBounds 10 (.int .u8 (k 9))).setIfInBounds 11 (.int .u8 (k 10))).setIfInBounds 12 (.int .u8 (k 11))).setIfInBounds 13 (.int .u8 (k 12))).setIfInBounds 14 (.int .u8 (k 13))).setIfInBounds 15 (.int .u8 (k 14))).setIfInBounds 16 (.int .u8 (k 15))).setIfInBounds 17 (.int .u64 0))) 250)).alloc (.cells #[.int .u64 0, .int .u64 0, .int .u64 0, .int .u64 0] 399)).alloc (.cells #[.pointer (some ⟨jb, 0, none⟩), .int .i64 0, .pointer (some ⟨w2.heap.size, 0, none⟩), .pointer none, .map (some 0), .slice (some ⟨w2.heap.size + 1, 0, none⟩) 2 2] 150), w2.heap.size + 2, w2.heap.size, w2.heap.size + 1, 0, (((((((((((((((((Tryz.zeroCells250.setIfInBounds 1 (.int .u8 (k 0))).setIfInBounds 2 (.int .u8 (k 1))).setIfInBounds 3 (.int .u8 (k 2))).setIfInBounds 4 (.int .u8 (k 3))).setIfInBounds 5 (.int .u8 (k 4))).setIfInBounds 6 (.int .u8 (k 5))).setIfInBounds 7 (.int .u8 (k 6))).setIfInBounds 8 (.int .u8 (k 7))).setIfInBounds 9 (.int .u8 (k 8))).setIfInBounds 10 (.int .u8 (k 9))).setIfInBounds 11 (.int .u8 (k 10))).setIfInBounds 12 (.int .u8 (k 11))).setIfInBounds 13 (.int .u8 (k 12))).setIfInBounds 14 (.int .u8 (k 13))).setIfInBounds 15 (.int .u8 (k 14))).setIfInBounds 16 (.int .u8 (k 15))).setIfInBounds 17 (.int .u64 0)), rfl, by omega, Blk.new_ (by simp) _ _, Nat.le_refl _, (((Blk.new _ _ _).alloc _).alloc _), stZ250 k, by omega, ((Blk.new_ (by simp) _ _).alloc _)⟩
  simp only [List.take_succ_cons, List.take_zero, List.drop_succ_cons, List.drop_zero]
  intro G pick hR hp1 hp2
  repeat (first | (refine wpR_det hp2 rfl ((hR.rel _).trans rfl) rfl ?_; intro K hK; go_big_quiet_op; go_big_quiet_on) | (refine wpR_ptr hp2 rfl ((hR.rel _).trans rfl) rfl rfl ?_; intro K hK; go_big_quiet_op; go_big_quiet_on) | (refine wpR_skip pick rfl ?_; intro K hK; go_big_quiet_op; go_big_quiet_on))
  refine wpR_rel pick rfl ((hR.rel _).trans rfl) ((hR.turns _).trans rfl) ?_ ?_
  · intro u hu
    have hk := hR.since hu.1
    have hks := hk.size
    unfold relAt
    go_simp
    refine (jouLen db jb u (HJ2.out.kept hk (fun h => h))).mono ?_
    rintro e' w' ⟨rfl, rfl⟩
    exact ⟨_, rfl, hR.same, hR.put 0 rfl rfl rfl⟩
  intro v hv
  obtain ⟨u, _, hu⟩ := hv
  obtain rfl := hR.get 0 rfl hu
  clear hu
  intro K hK
  go_big_quiet_op
  go_big_quiet_on
  repeat (first | (refine wpR_det hp2 rfl ((hR.rel _).trans rfl) rfl ?_; intro K hK; go_big_quiet_op; go_big_quiet_on) | (refine wpR_ptr hp2 rfl ((hR.rel _).trans rfl) rfl rfl ?_; intro K hK; go_big_quiet_op; go_big_quiet_on) | (refine wpR_skip pick rfl ?_; intro K hK; go_big_quiet_op; go_big_quiet_on))
  refine wpR_rel pick rfl ((hR.rel _).trans rfl) ((hR.turns _).trans rfl) ?_ ?_
  · intro u hu
    have hk := hR.since hu.1
    have hks := hk.size
    refine relAt_load_mid 36 (.tmp 4) rfl kb 0 rfl [.int .u8 (k 0), .int .u8 (k 1), .int .u8 (k 2), .int .u8 (k 3), .int .u8 (k 4), .int .u8 (k 5), .int .u8 (k 6), .int .u8 (k 7), .int .u8 (k 8), .int .u8 (k 9), .int .u8 (k 10), .int .u8 (k 11), .int .u8 (k 12), .int .u8 (k 13), .int .u8 (k 14), .int .u8 (k 15)] _ ((HKB2.out.kept hk (fun h => h)).range) Tryz.underlying36 rfl (by kernel_rfl) ?_
    exact ⟨hR.into0 (Kept.refl _ _), hR.put 1 rfl rfl rfl⟩
  intro v hv
  obtain ⟨u, _, hu⟩ := hv
  obtain rfl := hR.get 1 rfl hu
  clear hu
  intro K hK
  go_big_quiet_op
  go_big_quiet_on
  repeat (first | (refine wpR_det hp2 rfl ((hR.rel _).trans rfl) rfl ?_; intro K hK; go_big_quiet_op; go_big_quiet_on) | (refine wpR_ptr hp2 rfl ((hR.rel _).trans rfl) rfl rfl ?_; intro K hK; go_big_quiet_op; go_big_quiet_on) | (refine wpR_skip pick rfl ?_; intro K hK; go_big_quiet_op; go_big_quiet_on))
  refine wpR_rel pick rfl ((hR.rel _).trans rfl) ((hR.turns _).trans rfl) ?_ ?_
  · intro u hu
    have hk := hR.since hu.1
    have hks := hk.size
    unfold relAt
    go_simp
    refine (cfgNew k u).mono ?_
    rintro e' w' ⟨st, Z, rfl, h1, h2, h3, hk'⟩
    exact ⟨_, rfl, hR.into0 hk', hR.put 2 rfl rfl ⟨st, Z, rfl, Nat.le_trans hks h1, h2, h3⟩⟩
  intro v hv
  obtain ⟨u, _, hu⟩ := hv
  obtain ⟨st, Z0, rfl, -⟩ := hR.get 2 rfl hu
  clear hu
  intro K hK
  go_big_quiet_op
  go_big_quiet_on
  repeat (first | (refine wpR_det hp2 rfl ((hR.rel _).trans rfl) rfl ?_; intro K hK; go_big_quiet_op; go_big_quiet_on) | (refine wpR_ptr hp2 rfl ((hR.rel _).trans rfl) rfl rfl ?_; intro K hK; go_big_quiet_op; go_big_quiet_on) | (refine wpR_skip pick rfl ?_; intro K hK; go_big_quiet_op; go_big_quiet_on))
  refine wpR_rel pick rfl ((hR.rel _).trans rfl) ((hR.turns _).trans rfl) ?_ ?_
  · intro u hu
    have hk := hR.since hu.1
    have hks := hk.size
    unfold relAt
    go_simp
    exact ⟨hR.into0 ((Kept.refl _ _).alloc _), hR.put 3 rfl rfl ⟨_, rfl⟩⟩
  intro v hv
  obtain ⟨u, _, hu⟩ := hv
  obtain ⟨rm, rfl⟩ := hR.get 3 rfl hu
  clear hu
  intro K hK
  go_big_quiet_op
  go_big_quiet_on
  repeat (first | (refine wpR_det hp2 rfl ((hR.rel _).trans rfl) rfl ?_; intro K hK; go_big_quiet_op; go_big_quiet_on) | (refine wpR_ptr hp2 rfl ((hR.rel _).trans rfl) rfl rfl ?_; intro K hK; go_big_quiet_op; go_big_quiet_on) | (refine wpR_skip pick rfl ?_; intro K hK; go_big_quiet_op; go_big_quiet_on))
  refine wpR_rel pick rfl ((hR.rel _).trans rfl) ((hR.turns _).trans rfl) ?_ ?_
  · intro u hu
    have hk := hR.since hu.1
    have hks := hk.size
    unfold relAt
    have hmu := hmk.out u
    go_simp
    exact ⟨hR.into0 ((Kept.refl _ _).alloc _), hR.put 4 rfl rfl ⟨_, rfl, hks, Blk.new _ _ _⟩⟩
  intro v hv
  obtain ⟨u, _, hu⟩ := hv
  obtain ⟨nb, rfl, -⟩ := hR.get 4 rfl hu
  clear hu
  intro K hK
  go_big_quiet_op
  go_big_quiet_on
  repeat (first | (refine wpR_det hp2 rfl ((hR.rel _).trans rfl) rfl ?_; intro K hK; go_big_quiet_op; go_big_quiet_on) | (refine wpR_ptr hp2 rfl ((hR.rel _).trans rfl) rfl rfl ?_; intro K hK; go_big_quiet_op; go_big_quiet_on) | (refine wpR_skip pick rfl ?_; intro K hK; go_big_quiet_op; go_big_quiet_on))
  refine wpR_rel pick rfl ((hR.rel _).trans rfl) ((hR.turns _).trans rfl) ?_ ?_
  · intro u hu
    have hk := hR.since hu.1
    have hks := hk.size
    obtain ⟨st', Z, e', h1, h2, h3⟩ := (hR.get 2 rfl (hu.2 _ _ (Got.upd_old (Got.upd_old (Got.upd_self _ _ _) rfl) rfl) (by kernel_rfl)))
    obtain rfl : st = st' := by injection e' with e'; injection e' with e'; injection e'
    obtain ⟨nb', e2, g1, g2⟩ := (hR.get 4 rfl (hu.2 _ _ (Got.upd_self _ _ _) (by kernel_rfl)))
    obtain rfl : nb = nb' := by injection e2 with e2; injection e2 with e2; injection e2
    unfold relAt
    go_simp
    exact ⟨hR.into0 ((Kept.refl _ _).alloc _), hR.put 5 rfl rfl ⟨_, st, nb, rm, Z, rfl, hks, Blk.new _ _ _, h1, h2.alloc _, h3, g1, g2.alloc _⟩⟩
  intro v hv
  obtain ⟨u, _, hu⟩ := hv
  obtain ⟨xb, st2, nb2, rm2, Z2, rfl, -⟩ := hR.get 5 rfl hu
  clear hu
  intro K hK
  go_big_quiet_op
  go_big_quiet_on
  repeat (first | (refine wpR_det hp2 rfl ((hR.rel _).trans rfl) rfl ?_; intro K hK; go_big_quiet_op; go_big_quiet_on) | (refine wpR_ptr hp2 rfl ((hR.rel _).trans rfl) rfl rfl ?_; intro K hK; go_big_quiet_op; go_big_quiet_on) | (refine wpR_skip pick rfl ?_; intro K hK; go_big_quiet_op; go_big_quiet_on))
  refine wpR_nil ?_
  intro w3 hk2 hF hM
  obtain ⟨xb', st3, nb3, rm3, Z3, e', h1, h2, h3, h4, h5, h6, h7⟩ := (hR.get 5 rfl (hF _ _ (Got.upd_self _ _ _)))
  obtain rfl : xb = xb' := by injection e' with e'; injection e' with e'; injection e'
  have HX3 := Lib.hid h2
  have HXL := Lib.hid h1
  have HST3 := Lib.hid h4
  have HZ3 := Lib.hid h5
  have HNL := Lib.hid h6
  have HN3 := Lib.hid h7
  have HSX := Lib.hid (show st3 ≠ xb from h4.ne_ h2 (by decide))
  have HNX := Lib.hid (show nb3 ≠ xb from h7.ne_ h2 (by decide))
  have HJ3 := Lib.hid (HJ2.out.kept hk2 (fun h => h))
  have HJX := Lib.hid (show jb ≠ xb from (HJ2.out.kept hk2 (fun h => h)).ne_ h2 (by decide))
  have HK3 := Lib.hid (HK2.out.then hk2 (fun _ _ h => h.elim))
  clear hF hM hp1 hp2 hR hk2 h1 h2 h3 h4 h5 h6 h7 e'
  have cX := HX3.out.cell
  have lX := HX3.out.lt
  have fX := HX3.out.frozen
  go_wp2_with fail
  refine wp_loop_rounds 1 ?_
  rw [rounds_succ]
  go_wp2_with fail
  refine (cfgCopy Z3 HZ3.out st3 w3 HST3.out).mono ?_
  rintro e w4 ⟨su, rfl, -, hk⟩
  have HX4 := Lib.hid (HX3.out.kept hk (fun h => h))
  have HJ4 := Lib.hid (HJ3.out.kept hk (fun h => h))
  have HN4 := Lib.hid (HN3.out.kept hk (fun h => h))
  have HK4 := Lib.hid (HK3.out.then hk (fun _ _ h => h.elim))
  clear hk cX lX fX
  have cX := HX4.out.cell
  have lX := HX4.out.lt
  have fX := HX4.out.frozen
  go_wp2_with fail
  go_ret2
  have hw := HK2.out.size
  have hx : Kept (fun i => i = xb) w4 (w4.setCell ⟨xb, 3, none⟩ (.pointer (some ⟨su, 0, none⟩))) := Kept.setIn (S := fun i => i = xb) rfl (Kept.refl _ _)
  exact ⟨xb, jb, nb3, st3, su, rm3, rfl, by have := HXL.out; omega, ⟨HX4.out.set_to rfl, HJ4.out.kept hx HJX.out, HN4.out.kept hx HNX.out⟩, HK4.out.then hx (fun i hi h => by have := HXL.out; omega)⟩
end Go.Proofs.YtdnbhmfofphblaaGreatDoor
