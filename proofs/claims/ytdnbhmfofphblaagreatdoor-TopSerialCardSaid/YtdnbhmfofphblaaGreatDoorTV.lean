/- shim's made, right, carry, New; addr.Right. -/
import Derived.Test.YtdnbhmfofphblaaGreatDoorTS
import Derived.Test.YtdnbhmfofphblaaGreatDoorTH
namespace Go.Proofs.YtdnbhmfofphblaaGreatDoor
open Go.RowKit
set_option maxRecDepth 100000
set_option linter.unusedVariables false
set_option linter.unusedSimpArgs false
theorem madeT (bk ls le rp : Int) (sb cb : Nat) (w : World) (hS : Blk w sb 95 #[.pointer none, .int .i64 bk, .pointer (some ⟨cb, 0, none⟩), .int .u64 ls, .int .u64 le, .int .u64 rp]) :
    Calls Tryz.prog 28 #[.pointer (some ⟨sb, 0, none⟩)] w fun e w' => e = .returned (.bool true) ∧ w = w' := by
  have cS := hS.cell
  have lS := hS.lt
  have fS := hS.frozen
  go_enter Tryz.func28, Tryz.ntmps28
  go_wp2
  go_ret
  exact ⟨rfl, rfl⟩
theorem rightA0 (w : World) : Calls Tryz.prog 46 #[.agg #[.bool false, .int .u64 0, .int .u64 0]] w fun e w' => e = .returned (.bool true) ∧ Kept (fun _ => False) w w' := by
  go_enter Tryz.func46, Tryz.ntmps46
  go_wp2
  go_ret
  exact ⟨rfl, (Kept.refl _ _).alloc _⟩
set_option maxRecDepth 100000 in
set_option maxHeartbeats 2000000 in
theorem rightS (sp dp : Int) (w : World) : Calls Tryz.prog 30 #[.agg #[.bool false, .int .u64 0, .int .u64 0, .bool false, .int .u64 0, .int .u64 0, .int .u16 sp, .int .u16 dp, .int .u8 6], .int .u8 6] w fun e w' => e = .returned (.bool true) ∧ Kept (fun _ => False) w w' := by
  go_enter Tryz.func30, Tryz.ntmps30
  go_upto_region 1 with fail
  obtain ⟨w1, hw1⟩ : ∃ w1 : World, w1 = (w.alloc (.cells #[.bool false, .int .u64 0, .int .u64 0, .bool false, .int .u64 0, .int .u64 0, .int .u16 sp, .int .u16 dp, .int .u8 6] 28)) := ⟨_, rfl⟩
  have HFB1 := Lib.hid (show Blk w1 w.heap.size 28 #[.bool false, .int .u64 0, .int .u64 0, .bool false, .int .u64 0, .int .u64 0, .int .u16 sp, .int .u16 dp, .int .u8 6] by rw [hw1]; exact Blk.new _ _ _)
  have HK1 := Lib.hid (show Kept (fun _ => False) w w1 by rw [hw1]; exact (Kept.refl _ _).alloc _)
  rw [← hw1]
  clear hw1
  obtain ⟨fb, hfb⟩ : ∃ fb, w.heap.size = fb := ⟨_, rfl⟩
  rw [hfb] at HFB1
  (try rw [hfb])
  have HNE := Lib.hid (show fb = w.heap.size + 0 ∧ True from ⟨by omega, trivial⟩)
  clear hfb
  have cFB := HFB1.out.cell
  have lFB := HFB1.out.lt
  have fFB := HFB1.out.frozen
  go_wp2_with fail
  refine (rightA0 w1).mono ?_
  rintro e w2 ⟨rfl, hk⟩
  have HK2 := Lib.hid (HK1.out.trans hk)
  have HS2 := Lib.hid (show Kept (fun _ => False) w1 w2 from hk)
  have HFB2 := Lib.hid (HFB1.out.kept hk (fun h => h))
  clear cFB lFB fFB
  have cFB := HFB2.out.cell
  have lFB := HFB2.out.lt
  have fFB := HFB2.out.frozen
  clear hk
  go_wp2_with fail
  refine (rightA0 w2).mono ?_
  rintro e w3 ⟨rfl, hk⟩
  have HK3 := Lib.hid (HK2.out.trans hk)
  have HS3 := Lib.hid (show Kept (fun _ => False) w2 w3 from hk)
  have HFB3 := Lib.hid (HFB2.out.kept hk (fun h => h))
  clear cFB lFB fFB
  have cFB := HFB3.out.cell
  have lFB := HFB3.out.lt
  have fFB := HFB3.out.frozen
  clear hk
  go_wp2_with fail
  go_ret
  exact ⟨rfl, HK3.out⟩
set_option maxRecDepth 100000 in
set_option maxHeartbeats 2000000 in
theorem carryT (sp dp : Int) (BA : Option Addr) (q bc : Nat) (L : List UInt8) (hq : L.length = q) (h9 : q ≤ 60000) (w : World) (hB : BS w w.heap.size BA L) :
    Calls Tryz.prog 34 #[.agg #[.bool false, .int .u64 0, .int .u64 0, .bool false, .int .u64 0, .int .u64 0, .int .u16 sp, .int .u16 dp, .int .u8 6], .slice BA q bc] w fun e w' => ∃ v, e = .returned (.tuple #[v, .int .i64 0]) ∧ Row w' w.heap.size 5 v (bcs ((⟨0, 0, 0, true, false, 0, 64, 6, 0, 0, 0, []⟩ : Hd).pkt L)) ∧ Kept (fun _ => False) w w' := by
  have HBS := Lib.hid hB
  have HQ := Lib.hid hq
  clear hB hq
  go_enter Tryz.func34, Tryz.ntmps34
  go_upto_region 1 with fail
  obtain ⟨w1, hw1⟩ : ∃ w1 : World, w1 = (w.alloc (.cells #[.bool false, .int .u64 0, .int .u64 0, .bool false, .int .u64 0, .int .u64 0, .int .u16 sp, .int .u16 dp, .int .u8 6] 28)) := ⟨_, rfl⟩
  have HFB1 := Lib.hid (show Blk w1 w.heap.size 28 #[.bool false, .int .u64 0, .int .u64 0, .bool false, .int .u64 0, .int .u64 0, .int .u16 sp, .int .u16 dp, .int .u8 6] by rw [hw1]; exact Blk.new _ _ _)
  have HK1 := Lib.hid (show Kept (fun _ => False) w w1 by rw [hw1]; exact (Kept.refl _ _).alloc _)
  rw [← hw1]
  clear hw1
  obtain ⟨fb, hfb⟩ : ∃ fb, w.heap.size = fb := ⟨_, rfl⟩
  rw [hfb] at HFB1
  (try rw [hfb])
  have HNE := Lib.hid (show fb = w.heap.size + 0 ∧ True from ⟨by omega, trivial⟩)
  clear hfb
  have cFB := HFB1.out.cell
  have lFB := HFB1.out.lt
  have fFB := HFB1.out.frozen
  have HPK := Lib.hid (packet_yes 0 0 0 true false 0 64 6 0 0 0 none 0 0 [] rfl (by omega) (by omega) (by omega) (by omega) (by omega) (by omega) (by omega) (by omega) (by omega) (by omega) (by omega) (by omega) (by omega) (by omega) (by omega) L BA q bc HQ.out h9 (by omega) w1 .nil (HBS.out.on HK1.out (fun _ _ h => h)))
  go_wp2_with fail
  refine HPK.out.mono ?_
  rintro e w2 ⟨v, rfl, hv, hbw⟩
  have HV := Lib.hid hv
  have HK2 := Lib.hid (HK1.out.trans (Kept.ofB (S := fun _ => False) hbw))
  clear hv hbw HPK
  go_wp2_with fail
  go_ret2
  exact ⟨_, rfl, HV.out.more HK1.out.size, HK2.out⟩
set_option maxRecDepth 100000 in
set_option maxHeartbeats 2000000 in
theorem newS (bk most ls le : Int) (b0 : 1 ≤ bk) (b1 : bk ≤ 64) (m0 : 1 ≤ most) (m1 : most ≤ 1024) (w : World) :
    Calls Tryz.prog 20 #[.int .i64 bk, .int .i64 most, .agg #[.int .u64 ls, .int .u64 le]] w fun e w' => ∃ sb cb mg, e = .returned (.tuple #[.pointer (some ⟨sb, 0, none⟩), .int .i64 0]) ∧ w.heap.size ≤ sb ∧ w.heap.size ≤ cb ∧ w.heap.size ≤ mg ∧ Blk w' sb 95 #[.pointer none, .int .i64 bk, .pointer (some ⟨cb, 0, none⟩), .int .u64 ls, .int .u64 le, .int .u64 0] ∧ Blk w' cb 272 #[.int .i64 most, .map (some mg), .pointer none, .pointer none] ∧ MapB w' mg #[] 0 ∧ Kept (fun _ => False) w w' := by
  have g1 : decide (bk < 1) = false := decide_eq_false (by omega)
  have g2 : decide (64 < bk) = false := decide_eq_false (by omega)
  have g3 : decide (most < 1) = false := decide_eq_false (by omega)
  have g4 : decide (1024 < most) = false := decide_eq_false (by omega)
  go_enter Tryz.func20, Tryz.ntmps20
  go_upto_region 1 with fail
  obtain ⟨w1, hw1⟩ : ∃ w1 : World, w1 = (w.alloc (.cells #[.int .u64 ls, .int .u64 le] 84)) := ⟨_, rfl⟩
  have HLB1 := Lib.hid (show Blk w1 w.heap.size 84 #[.int .u64 ls, .int .u64 le] by rw [hw1]; exact Blk.new _ _ _)
  have HK1 := Lib.hid (show Kept (fun _ => False) w w1 by rw [hw1]; exact (Kept.refl _ _).alloc _)
  rw [← hw1]
  clear hw1
  obtain ⟨lb, hlb⟩ : ∃ lb, w.heap.size = lb := ⟨_, rfl⟩
  rw [hlb] at HLB1
  (try rw [hlb])
  have HNE := Lib.hid (show lb = w.heap.size + 0 ∧ True from ⟨by omega, trivial⟩)
  clear hlb
  have cLB := HLB1.out.cell
  have lLB := HLB1.out.lt
  have fLB := HLB1.out.frozen
  go_upto_region 3 with fail
  refine wp_region_kept 6 [(2, fun v u => ∃ cb mg, v = .pointer (some ⟨cb, 0, none⟩) ∧ w1.heap.size ≤ cb ∧ w1.heap.size ≤ mg ∧ Blk u cb 272 #[.int .i64 most, .map (some mg), .pointer none, .pointer none] ∧ MapB u mg #[] 0), (3, fun v u => v = .agg #[.int .u64 ls, .int .u64 le]), (5, fun v u => ∃ sb cb mg, v = .pointer (some ⟨sb, 0, none⟩) ∧ w1.heap.size ≤ sb ∧ w1.heap.size ≤ cb ∧ w1.heap.size ≤ mg ∧ Blk u sb 95 #[.pointer none, .int .i64 bk, .pointer (some ⟨cb, 0, none⟩), .int .u64 ls, .int .u64 le, .int .u64 0] ∧ Blk u cb 272 #[.int .i64 most, .map (some mg), .pointer none, .pointer none] ∧ MapB u mg #[] 0)] ?st ?ne rfl (by kernel_rfl) (by kernel_rfl) ?_
  case st =>
    intro p hp
    simp only [List.mem_cons, List.not_mem_nil, or_false] at hp
    rcases hp with rfl | rfl | rfl
    · rintro v u u' ⟨cb, mg, h1, h2, h3, h4, h5⟩ hk; exact ⟨cb, mg, h1, h2, h3, h4.kept hk (fun h => h), h5.kept hk (fun h => h)⟩
    · intro v u u' h hk; exact h
    · rintro v u u' ⟨sb, cb, mg, h1, h2, h3, h4, h5, h6, h7⟩ hk; exact ⟨sb, cb, mg, h1, h2, h3, h4, h5.kept hk (fun h => h), h6.kept hk (fun h => h), h7.kept hk (fun h => h)⟩
  case ne =>
    intro p hp
    simp only [List.mem_cons, List.not_mem_nil, or_false] at hp
    rcases hp with rfl | rfl | rfl
    · exact ⟨_, _, ((Kept.refl _ _).alloc _).alloc (.cells #[.int .i64 most, .map (some w1.heap.size), .pointer none, .pointer none] 272), w1.heap.size + 1, w1.heap.size, rfl, Nat.le_succ _, Nat.le_refl _, Blk.new_ (by simp) _ _, (MapB.new w1).kept ((Kept.refl (fun _ => False) _).alloc _) (fun h => h)⟩
    · exact ⟨_, _, Kept.refl _ _, rfl⟩
    · exact ⟨_, _, (((Kept.refl _ _).alloc _).alloc (.cells #[.int .i64 most, .map (some w1.heap.size), .pointer none, .pointer none] 272)).alloc (.cells #[.pointer none, .int .i64 bk, .pointer (some ⟨(w1.heap.size + 1), 0, none⟩), .int .u64 ls, .int .u64 le, .int .u64 0] 95), w1.heap.size + 2, w1.heap.size + 1, w1.heap.size, rfl, by omega, by omega, Nat.le_refl _, Blk.new_ (by simp) _ _, (Blk.new_ (by simp) _ _).alloc _, (MapB.new w1).kept (((Kept.refl (fun _ => False) _).alloc _).alloc _) (fun h => h)⟩
  simp only [List.take_succ_cons, List.take_zero, List.drop_succ_cons, List.drop_zero]
  intro G pick hR hp1 hp2
  repeat (first | (refine wpR_det hp2 rfl ((hR.rel _).trans rfl) rfl ?_; intro K hK; go_big_quiet_op; go_big_quiet_on) | (refine wpR_ptr hp2 rfl ((hR.rel _).trans rfl) rfl rfl ?_; intro K hK; go_big_quiet_op; go_big_quiet_on) | (refine wpR_skip pick rfl ?_; intro K hK; go_big_quiet_op; go_big_quiet_on))
  refine wpR_rel pick rfl ((hR.rel _).trans rfl) ((hR.turns _).trans rfl) ?_ ?_
  · intro u hu
    have hk := hR.since hu.1
    have hks := hk.size
    unfold relAt
    go_simp
    refine (newC most m0 m1 u).mono ?_
    rintro e' w' ⟨cb, mg, rfl, h1, h2, h3, h4, hk'⟩
    exact ⟨_, rfl, hR.into0 hk', hR.put 0 rfl rfl ⟨cb, mg, rfl, Nat.le_trans hks h1, Nat.le_trans hks h2, h3, h4⟩⟩
  intro v hv
  obtain ⟨u, _, hu⟩ := hv
  obtain ⟨cb, mg, rfl, -⟩ := hR.get 0 rfl hu
  clear hu
  intro K hK
  go_big_quiet_op
  go_big_quiet_on
  repeat (first | (refine wpR_det hp2 rfl ((hR.rel _).trans rfl) rfl ?_; intro K hK; go_big_quiet_op; go_big_quiet_on) | (refine wpR_ptr hp2 rfl ((hR.rel _).trans rfl) rfl rfl ?_; intro K hK; go_big_quiet_op; go_big_quiet_on) | (refine wpR_skip pick rfl ?_; intro K hK; go_big_quiet_op; go_big_quiet_on))
  refine wpR_rel pick rfl ((hR.rel _).trans rfl) ((hR.turns _).trans rfl) ?_ ?_
  · intro u hu
    have hk := hR.since hu.1
    have hks := hk.size
    refine relAt_load_mid 84 (.tmp 5) rfl lb 0 rfl [.int .u64 ls, .int .u64 le] _ ((HLB1.out.kept hk (fun h => h)).range) Tryz.underlying84 rfl (by kernel_rfl) ?_
    exact ⟨hR.into0 (Kept.refl _ _), hR.put 1 rfl rfl rfl⟩
  intro v hv
  obtain ⟨u, _, hu⟩ := hv
  obtain rfl := hR.get 1 rfl hu
  clear hu
  intro K hK
  go_big_quiet_op
  go_big_quiet_on
  repeat (first | (refine wpR_det hp2 rfl ((hR.rel _).trans rfl) rfl ?_; intro K hK; go_big_quiet_op; go_big_quiet_on) | (refine wpR_ptr hp2 rfl ((hR.rel _).trans rfl) rfl rfl ?_; intro K hK; go_big_quiet_op; go_big_quiet_on) | (refine wpR_skip pick rfl ?_; intro K hK; go_big_quiet_op; go_big_quiet_on))
  refine wpR_rel pick rfl ((hR.rel _).trans rfl) ((hR.turns _).trans rfl) ?_ ?_
  · intro u hu
    have hk := hR.since hu.1
    have hks := hk.size
    obtain ⟨cb', mg, e', h2, h3, h4, h5⟩ := (hR.get 0 rfl (hu.2 _ _ (Got.upd_old (Got.upd_self _ _ _) rfl) (by kernel_rfl)))
    obtain rfl : cb = cb' := by injection e' with e'; injection e' with e'; injection e'
    unfold relAt
    go_simp
    exact ⟨hR.into0 ((Kept.refl _ _).alloc _), hR.put 2 rfl rfl ⟨_, cb, mg, rfl, hks, h2, h3, Blk.new _ _ _, h4.kept ((Kept.refl (fun _ => False) _).alloc _) (fun h => h), h5.kept ((Kept.refl (fun _ => False) _).alloc _) (fun h => h)⟩⟩
  intro v hv
  obtain ⟨u, _, hu⟩ := hv
  obtain ⟨sb, cb2, mg, rfl, -⟩ := hR.get 2 rfl hu
  clear hu
  intro K hK
  go_big_quiet_op
  go_big_quiet_on
  repeat (first | (refine wpR_det hp2 rfl ((hR.rel _).trans rfl) rfl ?_; intro K hK; go_big_quiet_op; go_big_quiet_on) | (refine wpR_ptr hp2 rfl ((hR.rel _).trans rfl) rfl rfl ?_; intro K hK; go_big_quiet_op; go_big_quiet_on) | (refine wpR_skip pick rfl ?_; intro K hK; go_big_quiet_op; go_big_quiet_on))
  refine wpR_nil ?_
  intro w2 hk2 hF hM
  obtain ⟨sb', cb3, mg3, e', h2, h3, h4, h5, h6, h7⟩ := (hR.get 2 rfl (hF _ _ (Got.upd_self _ _ _)))
  obtain rfl : sb = sb' := by injection e' with e'; injection e' with e'; injection e'
  have HQ := Lib.hid (And.intro h2 (And.intro h3 (And.intro h4 (And.intro h5 (And.intro h6 h7)))))
  have HK2 := Lib.hid (HK1.out.trans hk2)
  clear hF hM hp1 hp2 hR hk2 h2 h3 h4 h5 h6 h7 e'
  go_wp2_with fail
  go_ret2
  obtain ⟨h2, h3, h4, h5, h6, h7⟩ := HQ.out
  have hz := HK1.out.size
  exact ⟨sb, cb3, mg3, rfl, by omega, by omega, by omega, h5, h6, h7, HK2.out⟩
end Go.Proofs.YtdnbhmfofphblaaGreatDoor
