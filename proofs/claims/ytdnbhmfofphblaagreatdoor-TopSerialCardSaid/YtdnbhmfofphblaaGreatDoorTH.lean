/- conns: New, find, link, unlink, Put into an empty table, Get of the one connection. -/
import Derived.Test.YtdnbhmfofphblaaGreatDoorTB
import Derived.Test.YtdnbhmfofphblaaGreatDoorTM
namespace Go.Proofs.YtdnbhmfofphblaaGreatDoor
open Go.RowKit
set_option maxRecDepth 100000
set_option linter.unusedVariables false
set_option linter.unusedSimpArgs false
theorem relAt_lookup {P : Program} {w : World} {o : Oper} {a : Act} {R : Value → World → Prop} (t : TypeId) (x k : Operand) (ho : o.op = .lookup t x k false) (m key : Value) (hm : a.eval x = m) (hk : a.eval k = key) {v : Value} (h : (Instr.lookup t m key false).run P w = .ok v w) (hr : R v w) : relAt P o a w R := by
  unfold relAt execOp
  simp only [ho, hm, hk, Sem.run_bind, Sem.run_pure, h, Result.andThen_ok]
  exact hr
theorem Tryz.zeroEnt (w : World) : (zeroValue 202).run Tryz.prog w = .ok (.pointer none) w := by kernel_rfl
set_option maxRecDepth 100000 in
set_option maxHeartbeats 8000000 in
theorem findNone (most sp dp : Int) (cb mg mc : Nat) (s0 : 0 ≤ sp) (s1 : sp ≤ 65535) (d0 : 0 ≤ dp) (d1 : dp ≤ 65535) (w : World) (hC : Blk w cb 272 #[.int .i64 most, .map (some mg), .pointer none, .pointer none]) (hM : MapB w mg #[] mc) :
    Calls Tryz.prog 78 #[.pointer (some ⟨cb, 0, none⟩), .agg #[.bool false, .int .u64 0, .int .u64 0, .bool false, .int .u64 0, .int .u64 0, .int .u16 sp, .int .u16 dp, .int .u8 6]] w fun e w' => e = .returned (.pointer none) ∧ Kept (fun _ => False) w w' := by
  obtain ⟨kl, hkl⟩ := flowKey sp dp s0 s1 d0 d1
  have HKY := Lib.hid hkl
  have HCB := Lib.hid hC
  have HMP := Lib.hid hM
  clear hkl hC hM
  go_enter Tryz.func78, Tryz.ntmps78
  go_upto_region 1 with fail
  obtain ⟨w1, hw1⟩ : ∃ w1 : World, w1 = (w.alloc (.cells #[.bool false, .int .u64 0, .int .u64 0, .bool false, .int .u64 0, .int .u64 0, .int .u16 sp, .int .u16 dp, .int .u8 6] 28)) := ⟨_, rfl⟩
  have HFB1 := Lib.hid (show Blk w1 w.heap.size 28 #[.bool false, .int .u64 0, .int .u64 0, .bool false, .int .u64 0, .int .u64 0, .int .u16 sp, .int .u16 dp, .int .u8 6] by rw [hw1]; exact Blk.new _ _ _)
  have HK1 := Lib.hid (show Kept (fun _ => False) w w1 by rw [hw1]; exact (Kept.refl _ _).alloc _)
  rw [← hw1]
  clear hw1
  obtain ⟨fb, hfb⟩ : ∃ fb, w.heap.size = fb := ⟨_, rfl⟩
  rw [hfb] at HFB1
  (try rw [hfb])
  have HNE := Lib.hid (show fb = w.heap.size + 0 ∧ True from ⟨by omega, trivial⟩)
  clear hfb
  have cFB := HFB1.out.cell
  have lFB := HFB1.out.lt
  have fFB := HFB1.out.frozen
  have HCB1 := Lib.hid (HCB.out.kept HK1.out (fun h => h))
  clear cFB lFB fFB
  go_upto_region 3 with fail
  refine wp_region_kept 6 [(4, fun v u => v = .agg #[.bool false, .int .u64 0, .int .u64 0, .bool false, .int .u64 0, .int .u64 0, .int .u16 sp, .int .u16 dp, .int .u8 6]), (5, fun v u => v = .pointer none)] ?st ?ne rfl (by kernel_rfl) (by kernel_rfl) ?_
  case st =>
    intro p hp
    simp only [List.mem_cons, List.not_mem_nil, or_false] at hp
    rcases hp with rfl | rfl
    · intro v u u' h hk; exact h
    · intro v u u' h hk; exact h
  case ne =>
    intro p hp
    simp only [List.mem_cons, List.not_mem_nil, or_false] at hp
    rcases hp with rfl | rfl
    · exact ⟨_, _, Kept.refl _ _, rfl⟩
    · exact ⟨_, _, Kept.refl _ _, rfl⟩
  simp only [List.take_succ_cons, List.take_zero, List.drop_succ_cons, List.drop_zero]
  intro G pick hR hp1 hp2
  have sC : ∀ u i, (pick u).cell? ⟨cb, i, none⟩ = (#[.int .i64 most, .map (some mg), .pointer none, .pointer none] : Array Value)[i]? := fun u i => ((hp1 u).cell HCB1.out.lt (fun h => h) _).trans (HCB1.out.cell i)
  repeat (first | (refine wpR_det hp2 rfl ((hR.rel _).trans rfl) rfl ?_; intro K hK; go_big_quiet_op; go_big_quiet_on) | (refine wpR_ptr hp2 rfl ((hR.rel _).trans rfl) rfl rfl ?_; intro K hK; go_big_quiet_op; go_big_quiet_on) | (refine wpR_skip pick rfl ?_; intro K hK; go_big_quiet_op; go_big_quiet_on))
  refine wpR_rel pick rfl ((hR.rel _).trans rfl) ((hR.turns _).trans rfl) ?_ ?_
  · intro u hu
    have hk := hR.since hu.1
    have hks := hk.size
    refine relAt_load_mid 28 (.tmp 3) rfl fb 0 rfl [.bool false, .int .u64 0, .int .u64 0, .bool false, .int .u64 0, .int .u64 0, .int .u16 sp, .int .u16 dp, .int .u8 6] _ ((HFB1.out.kept hk (fun h => h)).range) Tryz.underlying28 rfl (by kernel_rfl) ?_
    exact ⟨hR.into0 (Kept.refl _ _), hR.put 0 rfl rfl rfl⟩
  intro v hv
  obtain ⟨u, _, hu⟩ := hv
  obtain rfl := hR.get 0 rfl hu
  clear hu
  intro K hK
  go_big_quiet_op
  go_big_quiet_on
  repeat (first | (refine wpR_det hp2 rfl ((hR.rel _).trans rfl) rfl ?_; intro K hK; go_big_quiet_op; go_big_quiet_on) | (refine wpR_ptr hp2 rfl ((hR.rel _).trans rfl) rfl rfl ?_; intro K hK; go_big_quiet_op; go_big_quiet_on) | (refine wpR_skip pick rfl ?_; intro K hK; go_big_quiet_op; go_big_quiet_on))
  refine wpR_rel pick rfl ((hR.rel _).trans rfl) ((hR.turns _).trans rfl) ?_ ?_
  · intro u hu
    have hk := hR.since hu.1
    have hks := hk.size
    refine relAt_lookup 270 (.tmp 10) (.tmp 11) rfl (.map (some mg)) (.agg #[.bool false, .int .u64 0, .int .u64 0, .bool false, .int .u64 0, .int .u64 0, .int .u16 sp, .int .u16 dp, .int .u8 6]) rfl rfl ((run_lookup_none flowLaw Tryz.underlying270 (HMP.out.kept (HK1.out.trans hk) (fun h => h)) HKY.out (Tryz.zeroEnt u))) ?_
    exact ⟨hR.into0 (Kept.refl _ _), hR.put 1 rfl rfl rfl⟩
  intro v hv
  obtain ⟨u, _, hu⟩ := hv
  obtain rfl := hR.get 1 rfl hu
  clear hu
  intro K hK
  go_big_quiet_op
  go_big_quiet_on
  repeat (first | (refine wpR_det hp2 rfl ((hR.rel _).trans rfl) rfl ?_; intro K hK; go_big_quiet_op; go_big_quiet_on) | (refine wpR_ptr hp2 rfl ((hR.rel _).trans rfl) rfl rfl ?_; intro K hK; go_big_quiet_op; go_big_quiet_on) | (refine wpR_skip pick rfl ?_; intro K hK; go_big_quiet_op; go_big_quiet_on))
  refine wpR_nil ?_
  intro w2 hk2 hF hM
  clear hF hM hp1 hp2 hR sC
  go_wp2_with fail
  go_ret
  exact ⟨rfl, HK1.out.trans hk2⟩
set_option maxRecDepth 100000 in
set_option maxHeartbeats 8000000 in
theorem findOne (most sp dp : Int) (cb mg eb mc mb : Nat) (s0 : 0 ≤ sp) (s1 : sp ≤ 65535) (d0 : 0 ≤ dp) (d1 : dp ≤ 65535) (w : World) (hC : Blk w cb 272 #[.int .i64 most, .map (some mg), .pointer (some ⟨eb, 0, none⟩), .pointer (some ⟨eb, 0, none⟩)]) (hM : MapB w mg #[⟨.agg #[.bool false, .int .u64 0, .int .u64 0, .bool false, .int .u64 0, .int .u64 0, .int .u16 sp, .int .u16 dp, .int .u8 6], .pointer (some ⟨eb, 0, none⟩), mb⟩] mc) :
    Calls Tryz.prog 78 #[.pointer (some ⟨cb, 0, none⟩), .agg #[.bool false, .int .u64 0, .int .u64 0, .bool false, .int .u64 0, .int .u64 0, .int .u16 sp, .int .u16 dp, .int .u8 6]] w fun e w' => e = .returned (.pointer (some ⟨eb, 0, none⟩)) ∧ Kept (fun _ => False) w w' := by
  obtain ⟨kl, hkl⟩ := flowKey sp dp s0 s1 d0 d1
  have HKY := Lib.hid hkl
  have HCB := Lib.hid hC
  have HMP := Lib.hid hM
  clear hkl hC hM
  go_enter Tryz.func78, Tryz.ntmps78
  go_upto_region 1 with fail
  obtain ⟨w1, hw1⟩ : ∃ w1 : World, w1 = (w.alloc (.cells #[.bool false, .int .u64 0, .int .u64 0, .bool false, .int .u64 0, .int .u64 0, .int .u16 sp, .int .u16 dp, .int .u8 6] 28)) := ⟨_, rfl⟩
  have HFB1 := Lib.hid (show Blk w1 w.heap.size 28 #[.bool false, .int .u64 0, .int .u64 0, .bool false, .int .u64 0, .int .u64 0, .int .u16 sp, .int .u16 dp, .int .u8 6] by rw [hw1]; exact Blk.new _ _ _)
  have HK1 := Lib.hid (show Kept (fun _ => False) w w1 by rw [hw1]; exact (Kept.refl _ _).alloc _)
  rw [← hw1]
  clear hw1
  obtain ⟨fb, hfb⟩ : ∃ fb, w.heap.size = fb := ⟨_, rfl⟩
  rw [hfb] at HFB1
  (try rw [hfb])
  have HNE := Lib.hid (show fb = w.heap.size + 0 ∧ True from ⟨by omega, trivial⟩)
  clear hfb
  have cFB := HFB1.out.cell
  have lFB := HFB1.out.lt
  have fFB := HFB1.out.frozen
  have HCB1 := Lib.hid (HCB.out.kept HK1.out (fun h => h))
  clear cFB lFB fFB
  go_upto_region 3 with fail
  refine wp_region_kept 6 [(4, fun v u => v = .agg #[.bool false, .int .u64 0, .int .u64 0, .bool false, .int .u64 0, .int .u64 0, .int .u16 sp, .int .u16 dp, .int .u8 6]), (5, fun v u => v = .pointer (some ⟨eb, 0, none⟩))] ?st ?ne rfl (by kernel_rfl) (by kernel_rfl) ?_
  case st =>
    intro p hp
    simp only [List.mem_cons, List.not_mem_nil, or_false] at hp
    rcases hp with rfl | rfl
    · intro v u u' h hk; exact h
    · intro v u u' h hk; exact h
  case ne =>
    intro p hp
    simp only [List.mem_cons, List.not_mem_nil, or_false] at hp
    rcases hp with rfl | rfl
    · exact ⟨_, _, Kept.refl _ _, rfl⟩
    · exact ⟨_, _, Kept.refl _ _, rfl⟩
  simp only [List.take_succ_cons, List.take_zero, List.drop_succ_cons, List.drop_zero]
  intro G pick hR hp1 hp2
  have sC : ∀ u i, (pick u).cell? ⟨cb, i, none⟩ = (#[.int .i64 most, .map (some mg), .pointer (some ⟨eb, 0, none⟩), .pointer (some ⟨eb, 0, none⟩)] : Array Value)[i]? := fun u i => ((hp1 u).cell HCB1.out.lt (fun h => h) _).trans (HCB1.out.cell i)
  repeat (first | (refine wpR_det hp2 rfl ((hR.rel _).trans rfl) rfl ?_; intro K hK; go_big_quiet_op; go_big_quiet_on) | (refine wpR_ptr hp2 rfl ((hR.rel _).trans rfl) rfl rfl ?_; intro K hK; go_big_quiet_op; go_big_quiet_on) | (refine wpR_skip pick rfl ?_; intro K hK; go_big_quiet_op; go_big_quiet_on))
  refine wpR_rel pick rfl ((hR.rel _).trans rfl) ((hR.turns _).trans rfl) ?_ ?_
  · intro u hu
    have hk := hR.since hu.1
    have hks := hk.size
    refine relAt_load_mid 28 (.tmp 3) rfl fb 0 rfl [.bool false, .int .u64 0, .int .u64 0, .bool false, .int .u64 0, .int .u64 0, .int .u16 sp, .int .u16 dp, .int .u8 6] _ ((HFB1.out.kept hk (fun h => h)).range) Tryz.underlying28 rfl (by kernel_rfl) ?_
    exact ⟨hR.into0 (Kept.refl _ _), hR.put 0 rfl rfl rfl⟩
  intro v hv
  obtain ⟨u, _, hu⟩ := hv
  obtain rfl := hR.get 0 rfl hu
  clear hu
  intro K hK
  go_big_quiet_op
  go_big_quiet_on
  repeat (first | (refine wpR_det hp2 rfl ((hR.rel _).trans rfl) rfl ?_; intro K hK; go_big_quiet_op; go_big_quiet_on) | (refine wpR_ptr hp2 rfl ((hR.rel _).trans rfl) rfl rfl ?_; intro K hK; go_big_quiet_op; go_big_quiet_on) | (refine wpR_skip pick rfl ?_; intro K hK; go_big_quiet_op; go_big_quiet_on))
  refine wpR_rel pick rfl ((hR.rel _).trans rfl) ((hR.turns _).trans rfl) ?_ ?_
  · intro u hu
    have hk := hR.since hu.1
    have hks := hk.size
    refine relAt_lookup 270 (.tmp 10) (.tmp 11) rfl (.map (some mg)) (.agg #[.bool false, .int .u64 0, .int .u64 0, .bool false, .int .u64 0, .int .u64 0, .int .u16 sp, .int .u16 dp, .int .u8 6]) rfl rfl ((run_lookup_one flowLaw Tryz.underlying270 (HMP.out.kept (HK1.out.trans hk) (fun h => h)) HKY.out)) ?_
    exact ⟨hR.into0 (Kept.refl _ _), hR.put 1 rfl rfl rfl⟩
  intro v hv
  obtain ⟨u, _, hu⟩ := hv
  obtain rfl := hR.get 1 rfl hu
  clear hu
  intro K hK
  go_big_quiet_op
  go_big_quiet_on
  repeat (first | (refine wpR_det hp2 rfl ((hR.rel _).trans rfl) rfl ?_; intro K hK; go_big_quiet_op; go_big_quiet_on) | (refine wpR_ptr hp2 rfl ((hR.rel _).trans rfl) rfl rfl ?_; intro K hK; go_big_quiet_op; go_big_quiet_on) | (refine wpR_skip pick rfl ?_; intro K hK; go_big_quiet_op; go_big_quiet_on))
  refine wpR_nil ?_
  intro w2 hk2 hF hM
  clear hF hM hp1 hp2 hR sC
  go_wp2_with fail
  go_ret
  exact ⟨rfl, HK1.out.trans hk2⟩
set_option maxRecDepth 100000 in
set_option maxHeartbeats 8000000 in
theorem unlinkOne (most sp dp wd : Int) (cb mg eb : Nat) (w : World) (hC : Blk w cb 272 #[.int .i64 most, .map (some mg), .pointer (some ⟨eb, 0, none⟩), .pointer (some ⟨eb, 0, none⟩)]) (hE : Blk w eb 206 #[.bool false, .int .u64 0, .int .u64 0, .bool false, .int .u64 0, .int .u64 0, .int .u16 sp, .int .u16 dp, .int .u8 6, .int .u16 wd, .pointer none, .pointer none]) :
    Calls Tryz.prog 79 #[.pointer (some ⟨cb, 0, none⟩), .pointer (some ⟨eb, 0, none⟩)] w fun e w' => e = .returned (.tuple #[]) ∧ Blk w' cb 272 #[.int .i64 most, .map (some mg), .pointer none, .pointer none] ∧ Blk w' eb 206 #[.bool false, .int .u64 0, .int .u64 0, .bool false, .int .u64 0, .int .u64 0, .int .u16 sp, .int .u16 dp, .int .u8 6, .int .u16 wd, .pointer none, .pointer none] ∧ Kept (fun i => i = cb ∨ i = eb) w w' := by
  have HCB0 := Lib.hid hC
  have HEB0 := Lib.hid hE
  have HNE := Lib.hid (show cb ≠ eb from hC.ne_ hE (by decide))
  have hne : cb ≠ eb := HNE.out
  obtain ⟨w0, hw0⟩ : ∃ w0, w = w0 := ⟨_, rfl⟩
  have HK0 := Lib.hid (show Kept (fun i => i = cb ∨ i = eb) w0 w0 from Kept.refl _ _)
  rw [hw0] at HCB0 HEB0
  clear hC hE
  go_enter Tryz.func79, Tryz.ntmps79
  rw [hw0]
  have cC := HCB0.out.cell
  have lC := HCB0.out.lt
  have fC := HCB0.out.frozen
  have cE := HEB0.out.cell
  have lE := HEB0.out.lt
  have fE := HEB0.out.frozen
  go_upto_region 3 with fail
  generalize hwq : World.setCell _ _ _ = w1
  have HX1 := Lib.hid (show Kept (fun i => i = cb) w0 w1 by rw [← hwq]; exact Kept.setIn (S := fun i => i = cb) rfl (Kept.refl _ _))
  have HCB1 := Lib.hid (show Blk w1 cb 272 #[.int .i64 most, .map (some mg), .pointer none, .pointer (some ⟨eb, 0, none⟩)] by rw [← hwq]; exact HCB0.out.set_to rfl)
  have HEB1 := Lib.hid (HEB0.out.kept HX1.out (fun h => HNE.out h.symm))
  have HK1 := Lib.hid (HK0.out.trans (HX1.out.mono (fun i _ h => .inl h)))
  clear hwq cC lC fC cE lE fE
  have cC := HCB1.out.cell
  have lC := HCB1.out.lt
  have fC := HCB1.out.frozen
  have cE := HEB1.out.cell
  have lE := HEB1.out.lt
  have fE := HEB1.out.frozen
  go_upto_region 6 with fail
  generalize hwq : World.setCell _ _ _ = w2
  have HX2 := Lib.hid (show Kept (fun i => i = cb) w1 w2 by rw [← hwq]; exact Kept.setIn (S := fun i => i = cb) rfl (Kept.refl _ _))
  have HCB2 := Lib.hid (show Blk w2 cb 272 #[.int .i64 most, .map (some mg), .pointer none, .pointer none] by rw [← hwq]; exact HCB1.out.set_to rfl)
  have HEB2 := Lib.hid (HEB1.out.kept HX2.out (fun h => HNE.out h.symm))
  have HK2 := Lib.hid (HK1.out.trans (HX2.out.mono (fun i _ h => .inl h)))
  clear hwq cC lC fC cE lE fE
  have cC := HCB2.out.cell
  have lC := HCB2.out.lt
  have fC := HCB2.out.frozen
  have cE := HEB2.out.cell
  have lE := HEB2.out.lt
  have fE := HEB2.out.frozen
  go_wp2
  generalize hwq : World.setCell _ _ _ = w3
  have HX3 := Lib.hid (show Kept (fun i => i = eb) w2 w3 by rw [← hwq]; exact Kept.setIn (S := fun i => i = eb) rfl (Kept.setIn (S := fun i => i = eb) rfl (Kept.refl _ _)))
  have HEB3 := Lib.hid (show Blk w3 eb 206 #[.bool false, .int .u64 0, .int .u64 0, .bool false, .int .u64 0, .int .u64 0, .int .u16 sp, .int .u16 dp, .int .u8 6, .int .u16 wd, .pointer none, .pointer none] by rw [← hwq]; exact ((HEB2.out.set_to (cs' := #[.bool false, .int .u64 0, .int .u64 0, .bool false, .int .u64 0, .int .u64 0, .int .u16 sp, .int .u16 dp, .int .u8 6, .int .u16 wd, .pointer none, .pointer none]) rfl).set_to rfl))
  have HCB3 := Lib.hid (HCB2.out.kept HX3.out (fun h => HNE.out h))
  refine bodyPost_end (results_none rfl _ _ _) rfl ?_
  refine ⟨rfl, HCB3.out, HEB3.out, ?_⟩
  exact HK2.out.trans (HX3.out.mono (fun i _ h => .inr h))
set_option maxRecDepth 100000 in
set_option maxHeartbeats 8000000 in
theorem linkEmpty (most sp dp wd : Int) (cb mg eb : Nat) (w : World) (hC : Blk w cb 272 #[.int .i64 most, .map (some mg), .pointer none, .pointer none]) (hE : Blk w eb 206 #[.bool false, .int .u64 0, .int .u64 0, .bool false, .int .u64 0, .int .u64 0, .int .u16 sp, .int .u16 dp, .int .u8 6, .int .u16 wd, .pointer none, .pointer none]) :
    Calls Tryz.prog 80 #[.pointer (some ⟨cb, 0, none⟩), .pointer (some ⟨eb, 0, none⟩)] w fun e w' => e = .returned (.tuple #[]) ∧ Blk w' cb 272 #[.int .i64 most, .map (some mg), .pointer (some ⟨eb, 0, none⟩), .pointer (some ⟨eb, 0, none⟩)] ∧ Blk w' eb 206 #[.bool false, .int .u64 0, .int .u64 0, .bool false, .int .u64 0, .int .u64 0, .int .u16 sp, .int .u16 dp, .int .u8 6, .int .u16 wd, .pointer none, .pointer none] ∧ Kept (fun i => i = cb ∨ i = eb) w w' := by
  have HCB0 := Lib.hid hC
  have HEB0 := Lib.hid hE
  have HNE := Lib.hid (show cb ≠ eb from hC.ne_ hE (by decide))
  have hne : cb ≠ eb := HNE.out
  obtain ⟨w0, hw0⟩ : ∃ w0, w = w0 := ⟨_, rfl⟩
  have HK0 := Lib.hid (show Kept (fun i => i = cb ∨ i = eb) w0 w0 from Kept.refl _ _)
  rw [hw0] at HCB0 HEB0
  clear hC hE
  go_enter Tryz.func80, Tryz.ntmps80
  rw [hw0]
  have cC := HCB0.out.cell
  have lC := HCB0.out.lt
  have fC := HCB0.out.frozen
  have cE := HEB0.out.cell
  have lE := HEB0.out.lt
  have fE := HEB0.out.frozen
  go_upto_region 1 with fail
  generalize hwq : World.setCell _ _ _ = w1
  have HX1 := Lib.hid (show Kept (fun i => i = eb) w0 w1 by rw [← hwq]; exact Kept.setIn (S := fun i => i = eb) rfl (Kept.setIn (S := fun i => i = eb) rfl (Kept.refl _ _)))
  have HEB1 := Lib.hid (show Blk w1 eb 206 #[.bool false, .int .u64 0, .int .u64 0, .bool false, .int .u64 0, .int .u64 0, .int .u16 sp, .int .u16 dp, .int .u8 6, .int .u16 wd, .pointer none, .pointer none] by rw [← hwq]; exact ((HEB0.out.set_to (cs' := #[.bool false, .int .u64 0, .int .u64 0, .bool false, .int .u64 0, .int .u64 0, .int .u16 sp, .int .u16 dp, .int .u8 6, .int .u16 wd, .pointer none, .pointer none]) rfl).set_to rfl))
  have HCB1 := Lib.hid (HCB0.out.kept HX1.out (fun h => HNE.out h))
  have HK1 := Lib.hid (HK0.out.trans (HX1.out.mono (fun i _ h => .inr h)))
  clear hwq cC lC fC cE lE fE
  have cC := HCB1.out.cell
  have lC := HCB1.out.lt
  have fC := HCB1.out.frozen
  have cE := HEB1.out.cell
  have lE := HEB1.out.lt
  have fE := HEB1.out.frozen
  go_upto_region 4 with fail
  generalize hwq : World.setCell _ _ _ = w2
  have HX2 := Lib.hid (show Kept (fun i => i = cb) w1 w2 by rw [← hwq]; exact Kept.setIn (S := fun i => i = cb) rfl (Kept.refl _ _))
  have HCB2 := Lib.hid (show Blk w2 cb 272 #[.int .i64 most, .map (some mg), .pointer (some ⟨eb, 0, none⟩), .pointer none] by rw [← hwq]; exact HCB1.out.set_to rfl)
  have HEB2 := Lib.hid (HEB1.out.kept HX2.out (fun h => HNE.out h.symm))
  have HK2 := Lib.hid (HK1.out.trans (HX2.out.mono (fun i _ h => .inl h)))
  clear hwq cC lC fC cE lE fE
  have cC := HCB2.out.cell
  have lC := HCB2.out.lt
  have fC := HCB2.out.frozen
  have cE := HEB2.out.cell
  have lE := HEB2.out.lt
  have fE := HEB2.out.frozen
  go_wp2
  generalize hwq : World.setCell _ _ _ = w3
  have HX3 := Lib.hid (show Kept (fun i => i = cb) w2 w3 by rw [← hwq]; exact Kept.setIn (S := fun i => i = cb) rfl (Kept.refl _ _))
  have HCB3 := Lib.hid (show Blk w3 cb 272 #[.int .i64 most, .map (some mg), .pointer (some ⟨eb, 0, none⟩), .pointer (some ⟨eb, 0, none⟩)] by rw [← hwq]; exact HCB2.out.set_to rfl)
  have HEB3 := Lib.hid (HEB2.out.kept HX3.out (fun h => HNE.out h.symm))
  refine bodyPost_end (results_none rfl _ _ _) rfl ?_
  refine ⟨rfl, HCB3.out, HEB3.out, ?_⟩
  exact HK2.out.trans (HX3.out.mono (fun i _ h => .inl h))
theorem MapB.ne {w : World} {g t b : Nat} {cs : Array Value} {es : Array MapEntry} {c : Nat} (h : MapB w g es c) (hb : Blk w b t cs) : g ≠ b := by
  rintro rfl
  unfold MapB at h
  unfold Blk at hb
  rw [h] at hb
  cases hb
set_option maxRecDepth 100000 in
set_option maxHeartbeats 8000000 in
theorem getOne (most sp dp wd : Int) (cb mg eb mc mb : Nat) (s0 : 0 ≤ sp) (s1 : sp ≤ 65535) (d0 : 0 ≤ dp) (d1 : dp ≤ 65535) (w : World) (hC : Blk w cb 272 #[.int .i64 most, .map (some mg), .pointer (some ⟨eb, 0, none⟩), .pointer (some ⟨eb, 0, none⟩)]) (hE : Blk w eb 206 #[.bool false, .int .u64 0, .int .u64 0, .bool false, .int .u64 0, .int .u64 0, .int .u16 sp, .int .u16 dp, .int .u8 6, .int .u16 wd, .pointer none, .pointer none]) (hM : MapB w mg #[⟨.agg #[.bool false, .int .u64 0, .int .u64 0, .bool false, .int .u64 0, .int .u64 0, .int .u16 sp, .int .u16 dp, .int .u8 6], .pointer (some ⟨eb, 0, none⟩), mb⟩] mc) :
    Calls Tryz.prog 31 #[.pointer (some ⟨cb, 0, none⟩), .agg #[.bool false, .int .u64 0, .int .u64 0, .bool false, .int .u64 0, .int .u64 0, .int .u16 sp, .int .u16 dp, .int .u8 6]] w fun e w' => e = .returned (.tuple #[.int .u16 wd, .bool true]) ∧ Blk w' cb 272 #[.int .i64 most, .map (some mg), .pointer (some ⟨eb, 0, none⟩), .pointer (some ⟨eb, 0, none⟩)] ∧ Blk w' eb 206 #[.bool false, .int .u64 0, .int .u64 0, .bool false, .int .u64 0, .int .u64 0, .int .u16 sp, .int .u16 dp, .int .u8 6, .int .u16 wd, .pointer none, .pointer none] ∧ MapB w' mg #[⟨.agg #[.bool false, .int .u64 0, .int .u64 0, .bool false, .int .u64 0, .int .u64 0, .int .u16 sp, .int .u16 dp, .int .u8 6], .pointer (some ⟨eb, 0, none⟩), mb⟩] mc ∧ Kept (fun i => i = cb ∨ i = eb) w w' := by
  have HCB0 := Lib.hid hC
  have HEB0 := Lib.hid hE
  have HM0 := Lib.hid hM
  have HMC := Lib.hid (hM.ne hC)
  have HME := Lib.hid (hM.ne hE)
  clear hC hE hM
  go_enter Tryz.func31, Tryz.ntmps31
  go_upto_region 1 with fail
  obtain ⟨w1, hw1⟩ : ∃ w1 : World, w1 = (w.alloc (.cells #[.bool false, .int .u64 0, .int .u64 0, .bool false, .int .u64 0, .int .u64 0, .int .u16 sp, .int .u16 dp, .int .u8 6] 28)) := ⟨_, rfl⟩
  have HFB1 := Lib.hid (show Blk w1 w.heap.size 28 #[.bool false, .int .u64 0, .int .u64 0, .bool false, .int .u64 0, .int .u64 0, .int .u16 sp, .int .u16 dp, .int .u8 6] by rw [hw1]; exact Blk.new _ _ _)
  have HK1 := Lib.hid (show Kept (fun _ => False) w w1 by rw [hw1]; exact (Kept.refl _ _).alloc _)
  rw [← hw1]
  clear hw1
  obtain ⟨fb, hfb⟩ : ∃ fb, w.heap.size = fb := ⟨_, rfl⟩
  rw [hfb] at HFB1
  (try rw [hfb])
  have HNE := Lib.hid (show fb = w.heap.size + 0 ∧ True from ⟨by omega, trivial⟩)
  clear hfb
  have cFB := HFB1.out.cell
  have lFB := HFB1.out.lt
  have fFB := HFB1.out.frozen
  have HCB1 := Lib.hid (HCB0.out.kept HK1.out (fun h => h))
  have HEB1 := Lib.hid (HEB0.out.kept HK1.out (fun h => h))
  have HM1 := Lib.hid (HM0.out.kept HK1.out (fun h => h))
  have HFI := Lib.hid (findOne most sp dp cb mg eb mc mb s0 s1 d0 d1 w1 HCB1.out HM1.out)
  go_wp2_with (show wpList _ _ _ ((⟨_, .load 28 (.tmp 3), _, _, _, none⟩ : Oper) :: _) _ _; refine wpList_load_mid rfl 28 (.tmp 3) rfl fb 0 rfl [.bool false, .int .u64 0, .int .u64 0, .bool false, .int .u64 0, .int .u64 0, .int .u16 sp, .int .u16 dp, .int .u8 6] _ HFB1.out.range Tryz.underlying28 rfl (by kernel_rfl) ?_)
  refine HFI.out.mono ?_
  rintro e w2 ⟨rfl, hk⟩
  have HK2 := Lib.hid (HK1.out.trans hk)
  have HCB2 := Lib.hid (HCB1.out.kept hk (fun h => h))
  have HEB2 := Lib.hid (HEB1.out.kept hk (fun h => h))
  clear hk HFI cFB lFB fFB
  have HUN := Lib.hid (unlinkOne most sp dp wd cb mg eb w2 HCB2.out HEB2.out)
  go_wp2_with fail
  refine HUN.out.mono ?_
  rintro e w3 ⟨rfl, hc, he, hk⟩
  have HCB3 := Lib.hid hc
  have HEB3 := Lib.hid he
  have HX3 := Lib.hid hk
  clear hc he hk HUN
  have HLI := Lib.hid (linkEmpty most sp dp wd cb mg eb w3 HCB3.out HEB3.out)
  go_wp2_with fail
  refine HLI.out.mono ?_
  rintro e w4 ⟨rfl, hc, he, hk⟩
  have HCB4 := Lib.hid hc
  have HEB4 := Lib.hid he
  have HX4 := Lib.hid (HX3.out.trans hk)
  clear hc he hk HLI
  have cE := HEB4.out.cell
  have lE := HEB4.out.lt
  have fE := HEB4.out.frozen
  have HK4 := Lib.hid (show Kept (fun i => i = cb ∨ i = eb) w w4 from (HK2.out.mono (fun _ _ h => h.elim)).trans HX4.out)
  go_wp2_with fail
  go_ret2
  exact ⟨rfl, HCB4.out, HEB4.out, HM0.out.kept HK4.out (fun h => h.elim HMC.out HME.out), HK4.out⟩
set_option maxRecDepth 100000 in
set_option maxHeartbeats 8000000 in
theorem newC (most : Int) (m0 : 1 ≤ most) (m1 : most ≤ 1024) (w : World) :
    Calls Tryz.prog 56 #[.int .i64 most] w fun e w' => ∃ cb mg, e = .returned (.pointer (some ⟨cb, 0, none⟩)) ∧ w.heap.size ≤ cb ∧ w.heap.size ≤ mg ∧ Blk w' cb 272 #[.int .i64 most, .map (some mg), .pointer none, .pointer none] ∧ MapB w' mg #[] 0 ∧ Kept (fun _ => False) w w' := by
  have hmm := @run_makeMap Tryz.prog
  go_enter Tryz.func56, Tryz.ntmps56
  go_wp2
  go_ret
  exact ⟨w.heap.size + 1, w.heap.size, rfl, Nat.le_succ _, Nat.le_refl _, Blk.new_ (by simp) _ _, (MapB.new w).kept ((Kept.refl (fun _ => False) _).alloc _) (fun h => h), ((Kept.refl _ _).alloc _).alloc _⟩
theorem relAt_len_map {P : Program} {w : World} {o : Oper} {a : Act} {R : Value → World → Prop} (x : Operand) (t : TypeId) (ho : o.op = .call { callee := .builtin .len, args := #[x], argTypes := #[t] }) {k e : TypeId} (ht : P.underlying t = some (.map k e)) (g : Nat) {es : Array MapEntry} {c : Nat} (hm : a.eval x = .map (some g)) (hb : MapB w g es c) (hr : R (.int .i64 es.size) w) : relAt P o a w R := by
  unfold relAt execOp
  simp [ho, resolve, invoke, builtin, hm, Builtin.len_, run_underlying ht, MapKept.run_getObj_map hb, Result.andThen, goInt]
  exact hr
theorem wpList_update_at {P : Program} (w : World) {ops : Array Oper} {rest : List Oper} {o : Oper} {a : Act} {Q : Exit → Act → World → Prop} (hg : o.guard = none) (m x v : Operand) (t : TypeId) (hop : o.op = .mapUpdate t m x v) (mv key val : Value) (hm : a.eval m = mv) (hx : a.eval x = key) (hv : a.eval v = val)
    (T : World → Prop) (h : ∃ w', (Instr.mapUpdate t mv key val).run P w = .ok () w' ∧ T w') (hK : ∀ w', T w' → wpList P ops Q rest (a.put o.dst undef) w') : wpList P ops Q (o :: rest) a w := by
  refine wpList_plain hg fun K' hK' => ?_
  obtain ⟨w', hrun, ht⟩ := h
  unfold Oper.wp
  simp [execOp, hop, hm, hx, hv, hrun, Result.andThen]
  exact hK' _ _ (hK w' ht)
set_option maxRecDepth 100000 in
set_option maxHeartbeats 8000000 in
theorem putNew (most sp dp wd : Int) (cb mg mc : Nat) (m0 : 1 ≤ most) (s0 : 0 ≤ sp) (s1 : sp ≤ 65535) (d0 : 0 ≤ dp) (d1 : dp ≤ 65535) (w : World) (hC : Blk w cb 272 #[.int .i64 most, .map (some mg), .pointer none, .pointer none]) (hM : MapB w mg #[] mc) :
    Calls Tryz.prog 125 #[.pointer (some ⟨cb, 0, none⟩), .agg #[.bool false, .int .u64 0, .int .u64 0, .bool false, .int .u64 0, .int .u64 0, .int .u16 sp, .int .u16 dp, .int .u8 6], .int .u16 wd] w fun e w' => ∃ eb, e = .returned (.tuple #[.agg #[.bool false, .int .u64 0, .int .u64 0, .bool false, .int .u64 0, .int .u64 0, .int .u16 0, .int .u16 0, .int .u8 0], .bool false]) ∧ w.heap.size ≤ eb ∧ Blk w' cb 272 #[.int .i64 most, .map (some mg), .pointer (some ⟨eb, 0, none⟩), .pointer (some ⟨eb, 0, none⟩)] ∧ Blk w' eb 206 #[.bool false, .int .u64 0, .int .u64 0, .bool false, .int .u64 0, .int .u64 0, .int .u16 sp, .int .u16 dp, .int .u8 6, .int .u16 wd, .pointer none, .pointer none] ∧ MapB w' mg #[⟨.agg #[.bool false, .int .u64 0, .int .u64 0, .bool false, .int .u64 0, .int .u64 0, .int .u16 sp, .int .u16 dp, .int .u8 6], .pointer (some ⟨eb, 0, none⟩), mc⟩] (mc + 1) ∧ Kept (fun i => i = cb ∨ i = mg) w w' := by
  have hq := fun W => run_eql_map_nil (P := Tryz.prog) W 270 28 202 (some mg) Tryz.underlying270
  obtain ⟨kl, hkl⟩ := flowKey sp dp s0 s1 d0 d1
  have HKY := Lib.hid hkl
  have HCB0 := Lib.hid hC
  have HM0 := Lib.hid hM
  have HMC := Lib.hid (hM.ne hC)
  have g1 : decide (most ≤ 0) = false := decide_eq_false (by omega)
  clear hC hM hkl
  go_enter Tryz.func125, Tryz.ntmps125
  go_upto_region 1 with fail
  obtain ⟨w1, hw1⟩ : ∃ w1 : World, w1 = ((w.alloc (.cells #[.bool false, .int .u64 0, .int .u64 0, .bool false, .int .u64 0, .int .u64 0, .int .u16 sp, .int .u16 dp, .int .u8 6] 28)).alloc (.cells #[.bool false, .int .u64 0, .int .u64 0, .bool false, .int .u64 0, .int .u64 0, .int .u16 0, .int .u16 0, .int .u8 0] 28)) := ⟨_, rfl⟩
  have HFB1 := Lib.hid (show Blk w1 w.heap.size 28 #[.bool false, .int .u64 0, .int .u64 0, .bool false, .int .u64 0, .int .u64 0, .int .u16 sp, .int .u16 dp, .int .u8 6] by rw [hw1]; exact (Blk.new _ _ _).alloc _)
  have HRB1 := Lib.hid (show Blk w1 (w.heap.size + 1) 28 #[.bool false, .int .u64 0, .int .u64 0, .bool false, .int .u64 0, .int .u64 0, .int .u16 0, .int .u16 0, .int .u8 0] by rw [hw1]; exact Blk.new_ (by simp) _ _)
  have HK1 := Lib.hid (show Kept (fun _ => False) w w1 by rw [hw1]; exact ((Kept.refl _ _).alloc _).alloc _)
  rw [← hw1]
  clear hw1
  obtain ⟨rb, hrb⟩ : ∃ rb, w.heap.size + 1 = rb := ⟨_, rfl⟩
  rw [hrb] at HRB1
  (try rw [hrb])
  obtain ⟨fb, hfb⟩ : ∃ fb, w.heap.size = fb := ⟨_, rfl⟩
  rw [hfb] at HFB1
  (try rw [hfb])
  have HNE := Lib.hid (show fb = w.heap.size + 0 ∧ rb = w.heap.size + 1 ∧ True from ⟨by omega, by omega, trivial⟩)
  clear hfb hrb
  have cFB := HFB1.out.cell
  have lFB := HFB1.out.lt
  have fFB := HFB1.out.frozen
  have cRB := HRB1.out.cell
  have lRB := HRB1.out.lt
  have fRB := HRB1.out.frozen
  have HCB1 := Lib.hid (HCB0.out.kept HK1.out (fun h => h))
  have HM1 := Lib.hid (HM0.out.kept HK1.out (fun h => h))
  have cC := HCB1.out.cell
  have HFI := Lib.hid (findNone most sp dp cb mg mc s0 s1 d0 d1 w1 HCB1.out HM1.out)
  go_wp2_with (show wpList _ _ _ ((⟨_, .load 28 (.tmp 4), _, _, _, none⟩ : Oper) :: _) _ _; refine wpList_load_mid rfl 28 (.tmp 4) rfl fb 0 rfl [.bool false, .int .u64 0, .int .u64 0, .bool false, .int .u64 0, .int .u64 0, .int .u16 sp, .int .u16 dp, .int .u8 6] _ HFB1.out.range Tryz.underlying28 rfl (by kernel_rfl) ?_)
  refine HFI.out.mono ?_
  rintro e w2 ⟨rfl, hk⟩
  have HK2 := Lib.hid (HK1.out.trans hk)
  have HS2 := Lib.hid (show Kept (fun _ => False) w1 w2 from hk)
  have HFB2 := Lib.hid (HFB1.out.kept hk (fun h => h))
  have HRB2 := Lib.hid (HRB1.out.kept hk (fun h => h))
  clear cFB lFB fFB cRB lRB fRB
  have cFB := HFB2.out.cell
  have lFB := HFB2.out.lt
  have fFB := HFB2.out.frozen
  have cRB := HRB2.out.cell
  have lRB := HRB2.out.lt
  have fRB := HRB2.out.frozen
  have HCB2 := Lib.hid (HCB1.out.kept hk (fun h => h))
  have HM2 := Lib.hid (HM1.out.kept hk (fun h => h))
  clear hk HFI cC
  have cC := HCB2.out.cell
  go_upto_region 10 with fail
  obtain ⟨w3, hw3⟩ : ∃ w3 : World, w3 = w2.alloc (.cells #[.bool false, .int .u64 0, .int .u64 0, .bool false, .int .u64 0, .int .u64 0, .int .u16 0, .int .u16 0, .int .u8 0] 28) := ⟨_, rfl⟩
  have HGB3 := Lib.hid (show Blk w3 w2.heap.size 28 #[.bool false, .int .u64 0, .int .u64 0, .bool false, .int .u64 0, .int .u64 0, .int .u16 0, .int .u16 0, .int .u8 0] by rw [hw3]; exact Blk.new _ _ _)
  have hk : Kept (fun _ => False) w2 w3 := by rw [hw3]; exact (Kept.refl _ _).alloc _
  have HK3 := Lib.hid (HK2.out.trans hk)
  have HS3 := Lib.hid (show Kept (fun _ => False) w2 w3 from hk)
  have HFB3 := Lib.hid (HFB2.out.kept hk (fun h => h))
  have HRB3 := Lib.hid (HRB2.out.kept hk (fun h => h))
  clear cFB lFB fFB cRB lRB fRB
  have cFB := HFB3.out.cell
  have lFB := HFB3.out.lt
  have fFB := HFB3.out.frozen
  have cRB := HRB3.out.cell
  have lRB := HRB3.out.lt
  have fRB := HRB3.out.frozen
  have HCB3 := Lib.hid (HCB2.out.kept hk (fun h => h))
  have HM3 := Lib.hid (HM2.out.kept hk (fun h => h))
  rw [← hw3]
  clear hw3 hk cC
  obtain ⟨gb, hgb⟩ : ∃ gb, w2.heap.size = gb := ⟨_, rfl⟩
  rw [hgb] at HGB3 ⊢
  have HGBL := Lib.hid (show w.heap.size ≤ gb by have := HK2.out.size; omega)
  clear hgb
  refine wp_region_kept 10 [(4, fun v u => v = .int .i64 0)] ?st ?ne rfl (by kernel_rfl) (by kernel_rfl) ?_
  case st =>
    intro p hp
    simp only [List.mem_cons, List.not_mem_nil, or_false] at hp
    subst hp
    · intro v u u' h hk; exact h
  case ne =>
    intro p hp
    simp only [List.mem_cons, List.not_mem_nil, or_false] at hp
    subst hp
    · exact ⟨_, _, Kept.refl _ _, rfl⟩
  simp only [List.take_succ_cons, List.take_zero, List.drop_succ_cons, List.drop_zero]
  intro G pick hR hp1 hp2
  have sC : ∀ u i, (pick u).cell? ⟨cb, i, none⟩ = (#[.int .i64 most, .map (some mg), .pointer none, .pointer none] : Array Value)[i]? := fun u i => ((hp1 u).cell HCB3.out.lt (fun h => h) _).trans (HCB3.out.cell i)
  repeat (first | (refine wpR_det hp2 rfl ((hR.rel _).trans rfl) rfl ?_; intro K hK; go_big_quiet_op; go_big_quiet_on) | (refine wpR_ptr hp2 rfl ((hR.rel _).trans rfl) rfl rfl ?_; intro K hK; go_big_quiet_op; go_big_quiet_on) | (refine wpR_skip pick rfl ?_; intro K hK; go_big_quiet_op; go_big_quiet_on))
  refine wpR_rel pick rfl ((hR.rel _).trans rfl) ((hR.turns _).trans rfl) ?_ ?_
  · intro u hu
    have hk := hR.since hu.1
    have hks := hk.size
    refine relAt_len_map (.tmp 41) 270 rfl Tryz.underlying270 mg rfl (HM3.out.kept hk (fun h => h)) ?_
    exact ⟨hR.into0 (Kept.refl _ _), hR.put 0 rfl rfl rfl⟩
  intro v hv
  obtain ⟨u, _, hu⟩ := hv
  obtain rfl := hR.get 0 rfl hu
  clear hu
  intro K hK
  go_big_quiet_op
  go_big_quiet_on
  repeat (first | (refine wpR_det hp2 rfl ((hR.rel _).trans rfl) rfl ?_; intro K hK; go_big_quiet_op; go_big_quiet_on) | (refine wpR_ptr hp2 rfl ((hR.rel _).trans rfl) rfl rfl ?_; intro K hK; go_big_quiet_op; go_big_quiet_on) | (refine wpR_skip pick rfl ?_; intro K hK; go_big_quiet_op; go_big_quiet_on))
  refine wpR_nil ?_
  intro w4 hk2 hF hM
  have hk := hk2
  have HK4 := Lib.hid (HK3.out.trans hk)
  have HS4 := Lib.hid (show Kept (fun _ => False) w3 w4 from hk)
  have HFB4 := Lib.hid (HFB3.out.kept hk (fun h => h))
  have HRB4 := Lib.hid (HRB3.out.kept hk (fun h => h))
  clear cFB lFB fFB cRB lRB fRB
  have cFB := HFB4.out.cell
  have lFB := HFB4.out.lt
  have fFB := HFB4.out.frozen
  have cRB := HRB4.out.cell
  have lRB := HRB4.out.lt
  have fRB := HRB4.out.frozen
  have HCB4 := Lib.hid (HCB3.out.kept hk2 (fun h => h))
  have HM4 := Lib.hid (HM3.out.kept hk2 (fun h => h))
  have HGB4 := Lib.hid (HGB3.out.kept hk2 (fun h => h))
  clear hk hk2 hF hM hp1 hp2 hR sC
  have cC := HCB4.out.cell
  go_upto_region 14 with fail
  go_upto_region 15 with (show wpList _ _ _ ((⟨_, .load 28 (.tmp 4), _, _, _, none⟩ : Oper) :: _) _ _; refine wpList_load_mid rfl 28 (.tmp 4) rfl fb 0 rfl [.bool false, .int .u64 0, .int .u64 0, .bool false, .int .u64 0, .int .u64 0, .int .u16 sp, .int .u16 dp, .int .u8 6] _ HFB4.out.range Tryz.underlying28 rfl (by kernel_rfl) ?_)
  obtain ⟨w5, hw5⟩ : ∃ w5 : World, w5 = w4.alloc (.cells #[.bool false, .int .u64 0, .int .u64 0, .bool false, .int .u64 0, .int .u64 0, .int .u16 sp, .int .u16 dp, .int .u8 6, .int .u16 wd, .pointer none, .pointer none] 206) := ⟨_, rfl⟩
  have HEB5 := Lib.hid (show Blk w5 w4.heap.size 206 #[.bool false, .int .u64 0, .int .u64 0, .bool false, .int .u64 0, .int .u64 0, .int .u16 sp, .int .u16 dp, .int .u8 6, .int .u16 wd, .pointer none, .pointer none] by rw [hw5]; exact Blk.new _ _ _)
  have hk : Kept (fun _ => False) w4 w5 := by rw [hw5]; exact (Kept.refl _ _).alloc _
  have HK5 := Lib.hid (HK4.out.trans hk)
  have HS5 := Lib.hid (show Kept (fun _ => False) w4 w5 from hk)
  have HFB5 := Lib.hid (HFB4.out.kept hk (fun h => h))
  have HRB5 := Lib.hid (HRB4.out.kept hk (fun h => h))
  clear cFB lFB fFB cRB lRB fRB
  have cFB := HFB5.out.cell
  have lFB := HFB5.out.lt
  have fFB := HFB5.out.frozen
  have cRB := HRB5.out.cell
  have lRB := HRB5.out.lt
  have fRB := HRB5.out.frozen
  have HCB5 := Lib.hid (HCB4.out.kept hk (fun h => h))
  have HM5 := Lib.hid (HM4.out.kept hk (fun h => h))
  have HGB5 := Lib.hid (HGB4.out.kept hk (fun h => h))
  have HEW := Lib.hid (show w.heap.size ≤ w4.heap.size from HK4.out.size)
  rw [← hw5]
  clear hw5 hk cC
  obtain ⟨eb, heb⟩ : ∃ eb, w4.heap.size = eb := ⟨_, rfl⟩
  rw [heb] at HEB5 HEW ⊢
  have HGE := Lib.hid (show gb < eb by have := HGB4.out.lt; omega)
  have HRE := Lib.hid (show rb < eb by have := HRB4.out.lt; omega)
  clear heb
  refine wp_region_kept 6 [(4, fun v u => v = .agg #[.bool false, .int .u64 0, .int .u64 0, .bool false, .int .u64 0, .int .u64 0, .int .u16 sp, .int .u16 dp, .int .u8 6])] ?st ?ne rfl (by kernel_rfl) (by kernel_rfl) ?_
  case st =>
    intro p hp
    simp only [List.mem_cons, List.not_mem_nil, or_false] at hp
    subst hp
    · intro v u u' h hk; exact h
  case ne =>
    intro p hp
    simp only [List.mem_cons, List.not_mem_nil, or_false] at hp
    subst hp
    · exact ⟨_, _, Kept.refl _ _, rfl⟩
  simp only [List.take_succ_cons, List.take_zero, List.drop_succ_cons, List.drop_zero]
  intro G pick hR hp1 hp2
  have sC : ∀ u i, (pick u).cell? ⟨cb, i, none⟩ = (#[.int .i64 most, .map (some mg), .pointer none, .pointer none] : Array Value)[i]? := fun u i => ((hp1 u).cell HCB5.out.lt (fun h => h) _).trans (HCB5.out.cell i)
  repeat (first | (refine wpR_det hp2 rfl ((hR.rel _).trans rfl) rfl ?_; intro K hK; go_big_quiet_op; go_big_quiet_on) | (refine wpR_ptr hp2 rfl ((hR.rel _).trans rfl) rfl rfl ?_; intro K hK; go_big_quiet_op; go_big_quiet_on) | (refine wpR_skip pick rfl ?_; intro K hK; go_big_quiet_op; go_big_quiet_on))
  refine wpR_rel pick rfl ((hR.rel _).trans rfl) ((hR.turns _).trans rfl) ?_ ?_
  · intro u hu
    have hk := hR.since hu.1
    have hks := hk.size
    refine relAt_load_mid 28 (.tmp 4) rfl fb 0 rfl [.bool false, .int .u64 0, .int .u64 0, .bool false, .int .u64 0, .int .u64 0, .int .u16 sp, .int .u16 dp, .int .u8 6] _ ((HFB5.out.kept hk (fun h => h)).range) Tryz.underlying28 rfl (by kernel_rfl) ?_
    exact ⟨hR.into0 (Kept.refl _ _), hR.put 0 rfl rfl rfl⟩
  intro v hv
  obtain ⟨u, _, hu⟩ := hv
  obtain rfl := hR.get 0 rfl hu
  clear hu
  intro K hK
  go_big_quiet_op
  go_big_quiet_on
  repeat (first | (refine wpR_det hp2 rfl ((hR.rel _).trans rfl) rfl ?_; intro K hK; go_big_quiet_op; go_big_quiet_on) | (refine wpR_ptr hp2 rfl ((hR.rel _).trans rfl) rfl rfl ?_; intro K hK; go_big_quiet_op; go_big_quiet_on) | (refine wpR_skip pick rfl ?_; intro K hK; go_big_quiet_op; go_big_quiet_on))
  refine wpR_nil ?_
  intro w6 hk2 hF hM
  have hk := hk2
  have HK6 := Lib.hid (HK5.out.trans hk)
  have HS6 := Lib.hid (show Kept (fun _ => False) w5 w6 from hk)
  have HFB6 := Lib.hid (HFB5.out.kept hk (fun h => h))
  have HRB6 := Lib.hid (HRB5.out.kept hk (fun h => h))
  clear cFB lFB fFB cRB lRB fRB
  have cFB := HFB6.out.cell
  have lFB := HFB6.out.lt
  have fFB := HFB6.out.frozen
  have cRB := HRB6.out.cell
  have lRB := HRB6.out.lt
  have fRB := HRB6.out.frozen
  have HCB6 := Lib.hid (HCB5.out.kept hk2 (fun h => h))
  have HM6 := Lib.hid (HM5.out.kept hk2 (fun h => h))
  have HGB6 := Lib.hid (HGB5.out.kept hk2 (fun h => h))
  have HEB6 := Lib.hid (HEB5.out.kept hk2 (fun h => h))
  clear hk hk2 hF hM hp1 hp2 hR sC
  have hml := HM0.out.lt
  have HML := Lib.hid hml
  go_wp2_with (refine wpList_update_at w6 rfl (.tmp 66) (.tmp 67) (.tmp 68) 270 rfl (.map (some mg)) (.agg #[.bool false, .int .u64 0, .int .u64 0, .bool false, .int .u64 0, .int .u64 0, .int .u16 sp, .int .u16 dp, .int .u8 6]) (.pointer (some ⟨eb, 0, none⟩)) rfl rfl rfl (fun w' => MapB w' mg #[⟨.agg #[.bool false, .int .u64 0, .int .u64 0, .bool false, .int .u64 0, .int .u64 0, .int .u16 sp, .int .u16 dp, .int .u8 6], .pointer (some ⟨eb, 0, none⟩), mc⟩] (mc + 1) ∧ Kept (fun i => i = mg) w6 w') (run_update_first flowLaw Tryz.underlying270 HM6.out HKY.out) ?_)
  intro w7 hm0 hk
  have hm : MapB w7 mg #[⟨.agg #[.bool false, .int .u64 0, .int .u64 0, .bool false, .int .u64 0, .int .u64 0, .int .u16 sp, .int .u16 dp, .int .u8 6], .pointer (some ⟨eb, 0, none⟩), mc⟩] (mc + 1) := hm0
  clear hm0
  have HM7 := Lib.hid hm
  have HX7 := Lib.hid hk
  have HCB7 := Lib.hid (HCB6.out.kept hk (fun h => HMC.out h.symm))
  have HEB7 := Lib.hid (HEB6.out.kept hk (fun h => by have := HEW.out; have := HML.out; omega))
  have HGB7 := Lib.hid (HGB6.out.kept hk (fun h => by have := HGBL.out; have := HML.out; omega))
  have HRB7 := Lib.hid (HRB6.out.kept hk (fun h => by have := HNE.out; have := HML.out; omega))
  have HK7 := Lib.hid (show Kept (fun i => i = cb ∨ i = mg) w w7 from (HK6.out.mono (fun _ _ h => h.elim)).trans (hk.mono (fun _ _ h => .inr h)))
  clear hm hk hml cFB lFB fFB cRB lRB fRB
  have HLI := Lib.hid (linkEmpty most sp dp wd cb mg eb w7 HCB7.out HEB7.out)
  go_wp2_with fail
  refine HLI.out.mono ?_
  rintro e w8 ⟨rfl, hc, he, hk⟩
  have HCB8 := Lib.hid hc
  have HEB8 := Lib.hid he
  have HCW := Lib.hid (show cb < w.heap.size from HCB0.out.lt)
  have HM8 := Lib.hid (HM7.out.kept hk (fun h => h.elim HMC.out (fun h => by have := HEW.out; have := HML.out; omega)))
  have HGB8 := Lib.hid (HGB7.out.kept hk (fun h => h.elim (fun h => by have := HGBL.out; have := HCW.out; omega) (fun h => by have := HGE.out; omega)))
  have HRB8 := Lib.hid (HRB7.out.kept hk (fun h => h.elim (fun h => by have := HNE.out; have := HCW.out; omega) (fun h => by have := HRE.out; omega)))
  have HK8 := Lib.hid (show Kept (fun i => i = cb ∨ i = mg) w w8 from HK7.out.then hk (fun i hi h => h.elim (fun h => .inl h) (fun h => by have := HEW.out; omega)))
  clear hc he hk HLI
  go_wp2_with (first | (show wpList _ _ _ ((⟨_, .load 28 (.tmp 9), _, _, _, none⟩ : Oper) :: _) _ _; refine wpList_load_mid rfl 28 (.tmp 9) rfl gb 0 rfl [.bool false, .int .u64 0, .int .u64 0, .bool false, .int .u64 0, .int .u64 0, .int .u16 0, .int .u16 0, .int .u8 0] _ HGB8.out.range Tryz.underlying28 rfl (by kernel_rfl) ?_) | (show wpList _ _ _ ((⟨none, .store 28 (.tmp 6) _, _, _, _, none⟩ : Oper) :: _) _ _; refine wpList_store_mid rfl 28 (.tmp 6) _ rfl rb 0 #[.bool false, .int .u64 0, .int .u64 0, .bool false, .int .u64 0, .int .u64 0, .int .u16 0, .int .u16 0, .int .u8 0] rfl rfl (HRB8.out.there rfl) (by kernel_rfl) (by simp [Value.oneCell']) ?_))
  generalize hwq : (World.setCells _ _ _ _) = w9
  have HX9 := Lib.hid (show Kept (fun i => i = rb) w8 w9 by rw [← hwq]; exact Kept.setCells (S := fun i => i = rb) rfl _ _ (Kept.refl _ _))
  have HRB9 := Lib.hid (show Blk w9 rb 28 #[.bool false, .int .u64 0, .int .u64 0, .bool false, .int .u64 0, .int .u64 0, .int .u16 0, .int .u16 0, .int .u8 0] by rw [← hwq]; exact HRB8.out.setAll #[.bool false, .int .u64 0, .int .u64 0, .bool false, .int .u64 0, .int .u64 0, .int .u16 0, .int .u16 0, .int .u8 0] rfl)
  clear hwq
  refine bodyPost_ret (results_blk_tmp (P := Tryz.prog) (show Tryz.f125.results = _ from rfl) _ _ rb 28 #[.bool false, .int .u64 0, .int .u64 0, .bool false, .int .u64 0, .int .u64 0, .int .u16 0, .int .u16 0, .int .u8 0] _ rfl HRB9.out Tryz.underlying28 rfl (by kernel_rfl)) rfl ⟨eb, rfl, HEW.out, ?_, ?_, ?_, ?_⟩
  · exact HCB8.out.kept HX9.out (fun h => by have := HNE.out; have := HCW.out; omega)
  · exact HEB8.out.kept HX9.out (fun h => by have := HRE.out; omega)
  · exact HM8.out.kept HX9.out (fun h => by have := HNE.out; have := HML.out; omega)
  · exact HK8.out.then HX9.out (fun i hi h => by have := HNE.out; omega)
end Go.Proofs.YtdnbhmfofphblaaGreatDoor
