/- shim.unmark at a segment that opens a connection. -/
import Derived.Test.YtdnbhmfofphblaaGreatDoorTV
import Derived.Test.YtdnbhmfofphblaaGreatDoorTR
import Derived.Test.YtdnbhmfofphblaaGreatDoorTS
namespace Go.Proofs.YtdnbhmfofphblaaGreatDoor
open Go.RowKit
set_option maxRecDepth 100000
set_option linter.unusedVariables false
set_option linter.unusedSimpArgs false
theorem putIs (most sp dp wd : Int) (cb mg mc : Nat) (s0 : 0 ≤ sp) (s1 : sp ≤ 65535) (d0 : 0 ≤ dp) (d1 : dp ≤ 65535) (w : World) (hC : Blk w cb 272 #[.int .i64 most, .map (some mg), .pointer none, .pointer none]) (hM : MapB w mg #[] mc) :
    ∃ (v : Value) (u : World), Kept (fun i => i = cb ∨ i = mg) w u ∧ ∃ eb, v = .tuple #[.agg #[.bool false, .int .u64 0, .int .u64 0, .bool false, .int .u64 0, .int .u64 0, .int .u16 0, .int .u16 0, .int .u8 0], .bool false] ∧ w.heap.size ≤ eb ∧ Blk u cb 272 #[.int .i64 most, .map (some mg), .pointer (some ⟨eb, 0, none⟩), .pointer (some ⟨eb, 0, none⟩)] ∧ Blk u eb 206 #[.bool false, .int .u64 0, .int .u64 0, .bool false, .int .u64 0, .int .u64 0, .int .u16 sp, .int .u16 dp, .int .u8 6, .int .u16 wd, .pointer none, .pointer none] ∧ MapB u mg #[⟨.agg #[.bool false, .int .u64 0, .int .u64 0, .bool false, .int .u64 0, .int .u64 0, .int .u16 sp, .int .u16 dp, .int .u8 6], .pointer (some ⟨eb, 0, none⟩), mc⟩] (mc + 1) := by
  obtain ⟨kl, hkl⟩ := flowKey sp dp s0 s1 d0 d1
  have hne := hM.ne hC
  have ha : Kept (fun _ => False) w (w.alloc (.cells #[.bool false, .int .u64 0, .int .u64 0, .bool false, .int .u64 0, .int .u64 0, .int .u16 sp, .int .u16 dp, .int .u8 6, .int .u16 wd, .pointer none, .pointer none] 206)) := (Kept.refl _ _).alloc _
  have hE : Blk (w.alloc (.cells #[.bool false, .int .u64 0, .int .u64 0, .bool false, .int .u64 0, .int .u64 0, .int .u16 sp, .int .u16 dp, .int .u8 6, .int .u16 wd, .pointer none, .pointer none] 206)) w.heap.size 206 #[.bool false, .int .u64 0, .int .u64 0, .bool false, .int .u64 0, .int .u64 0, .int .u16 sp, .int .u16 dp, .int .u8 6, .int .u16 wd, .pointer none, .pointer none] := Blk.new _ _ _
  obtain ⟨w1, -, hm, hk⟩ := run_update_first (v := .pointer (some ⟨w.heap.size, 0, none⟩)) flowLaw Tryz.underlying270 (hM.kept ha (fun h => h)) hkl
  have hC1 := (hC.kept ha (fun h => h)).kept hk (fun h => hne h.symm)
  have hE1 := hE.kept hk (fun h => by have := hM.lt; omega)
  have hl := hC.lt
  have hl2 := hM.lt
  refine ⟨_, (w1.setCell ⟨cb, 2, none⟩ (.pointer (some ⟨w.heap.size, 0, none⟩))).setCell ⟨cb, 3, none⟩ (.pointer (some ⟨w.heap.size, 0, none⟩)), ?_, w.heap.size, rfl, Nat.le_refl _, ?_, ?_, ?_⟩
  · exact Kept.setIn (.inl rfl) (Kept.setIn (.inl rfl) ((ha.mono (fun _ _ h => h.elim)).trans (hk.mono (fun _ _ h => .inr h))))
  · exact (hC1.set_to (cs' := #[.int .i64 most, .map (some mg), .pointer (some ⟨w.heap.size, 0, none⟩), .pointer none]) rfl).set_to rfl
  · exact Blk.far' (by omega) (Blk.far' (by omega) hE1)
  · have h2 : Kept (fun i => i = cb) w1 ((w1.setCell ⟨cb, 2, none⟩ (.pointer (some ⟨w.heap.size, 0, none⟩))).setCell ⟨cb, 3, none⟩ (.pointer (some ⟨w.heap.size, 0, none⟩))) := Kept.setIn (S := fun i => i = cb) rfl (Kept.setIn (S := fun i => i = cb) rfl (Kept.refl _ _))
    exact hm.kept h2 hne
set_option maxRecDepth 100000 in
set_option maxHeartbeats 2000000 in
theorem unmarkT (most bk ls le rp sp dp seq ack wi sm ur : Int) (k0 : 0 ≤ sm) (k1 : sm ≤ 65535) (OA : Option Addr) (oc : Nat) (hoc : 12 ≤ oc ∧ oc ≤ maxLen) (LA : Option Addr) (lc : Nat) (a e : Int) (a0 : 0 ≤ a) (a1 : a ≤ 4294967295) (e0 : 0 ≤ e) (e1 : e ≤ 65535) (now : Int) (m0 : 1 ≤ most) (sp0 : 0 ≤ sp) (sp1 : sp ≤ 65535) (dp0 : 0 ≤ dp) (dp1 : dp ≤ 65535)
    (sb cb mg mc B : Nat) (w : World) (hS : Blk w sb 95 #[.pointer none, .int .i64 bk, .pointer (some ⟨cb, 0, none⟩), .int .u64 ls, .int .u64 le, .int .u64 rp]) (hC : Blk w cb 272 #[.int .i64 most, .map (some mg), .pointer none, .pointer none]) (hM : MapB w mg #[] mc) (hO : Row w B 5 (.slice OA 12 oc) (bcs ([1, 1, 8, 10] ++ (digs 4 a ++ digs 4 e)))) (hcB : cb < B) (hmB : mg < B) :
    Calls Tryz.prog 74 #[.pointer (some ⟨sb, 0, none⟩), .agg #[.bool false, .int .u64 0, .int .u64 0, .bool false, .int .u64 0, .int .u64 0, .int .u16 sp, .int .u16 dp, .int .u8 6], .agg #[.int .u16 sp, .int .u16 dp, .int .u32 seq, .int .u32 ack, .int .u8 2, .int .u16 wi, .int .u16 sm, .int .u16 ur, .slice OA 12 oc, .slice LA 0 lc], .int .u32 now] w fun e' w' => ∃ vg vc UA uc r eb, e' = .returned (.agg #[.int .u16 sp, .int .u16 dp, .int .u32 seq, .int .u32 ack, .int .u8 2, .int .u16 wi, .int .u16 r, .int .u16 ur, .slice (some ⟨vg, 0, none⟩) 12 vc, .slice UA 0 uc]) ∧ 0 ≤ r ∧ r ≤ 65535 ∧ Row w' w.heap.size 5 (.slice (some ⟨vg, 0, none⟩) 12 vc) (bcs ([1, 1, 8, 10] ++ (digs 4 a ++ digs 4 0))) ∧ w.heap.size ≤ eb ∧ Blk w' cb 272 #[.int .i64 most, .map (some mg), .pointer (some ⟨eb, 0, none⟩), .pointer (some ⟨eb, 0, none⟩)] ∧ Blk w' eb 206 #[.bool false, .int .u64 0, .int .u64 0, .bool false, .int .u64 0, .int .u64 0, .int .u16 sp, .int .u16 dp, .int .u8 6, .int .u16 e, .pointer none, .pointer none] ∧ MapB w' mg #[⟨.agg #[.bool false, .int .u64 0, .int .u64 0, .bool false, .int .u64 0, .int .u64 0, .int .u16 sp, .int .u16 dp, .int .u8 6], .pointer (some ⟨eb, 0, none⟩), mc⟩] (mc + 1) ∧ Kept (fun i => i = cb ∨ i = mg) w w' := by
  have HS0 := Lib.hid hS
  have HC0 := Lib.hid hC
  have HM0 := Lib.hid hM
  have HO0 := Lib.hid hO
  have HOC := Lib.hid hoc
  have HSC := Lib.hid (show sb ≠ cb from hS.ne_ hC (by decide))
  have HSM := Lib.hid (show sb ≠ mg from (hM.ne hS).symm)
  have HCW := Lib.hid (And.intro hC.lt hM.lt)
  have HLT := Lib.hid (And.intro hcB hmB)
  clear hS hC hM hO hoc hcB hmB
  go_enter Tryz.func74, Tryz.ntmps74
  go_upto_region 1 with fail
  obtain ⟨w1, hw1⟩ : ∃ w1 : World, w1 = (((w.alloc (.cells #[.bool false, .int .u64 0, .int .u64 0, .bool false, .int .u64 0, .int .u64 0, .int .u16 sp, .int .u16 dp, .int .u8 6] 28)).alloc (.cells #[.int .u16 sp, .int .u16 dp, .int .u32 seq, .int .u32 ack, .int .u8 2, .int .u16 wi, .int .u16 sm, .int .u16 ur, .slice OA 12 oc, .slice LA 0 lc] 48)).alloc (.cells #[.int .u16 0, .int .u16 0, .int .u32 0, .int .u32 0, .int .u8 0, .int .u16 0, .int .u16 0, .int .u16 0, .slice none 0 0, .slice none 0 0] 48)) := ⟨_, rfl⟩
  have HFB1 := Lib.hid (show Blk w1 w.heap.size 28 #[.bool false, .int .u64 0, .int .u64 0, .bool false, .int .u64 0, .int .u64 0, .int .u16 sp, .int .u16 dp, .int .u8 6] by rw [hw1]; exact ((Blk.new _ _ _).alloc _).alloc _)
  have HXB1 := Lib.hid (show Blk w1 (w.heap.size + 1) 48 #[.int .u16 sp, .int .u16 dp, .int .u32 seq, .int .u32 ack, .int .u8 2, .int .u16 wi, .int .u16 sm, .int .u16 ur, .slice OA 12 oc, .slice LA 0 lc] by rw [hw1]; exact (Blk.new_ (by simp) _ _).alloc _)
  have HRB1 := Lib.hid (show Blk w1 (w.heap.size + 2) 48 #[.int .u16 0, .int .u16 0, .int .u32 0, .int .u32 0, .int .u8 0, .int .u16 0, .int .u16 0, .int .u16 0, .slice none 0 0, .slice none 0 0] by rw [hw1]; exact Blk.new_ (by simp) _ _)
  have HK1 := Lib.hid (show Kept (fun _ => False) w w1 by rw [hw1]; exact (((Kept.refl _ _).alloc _).alloc _).alloc _)
  rw [← hw1]
  clear hw1
  obtain ⟨rb, hrb⟩ : ∃ rb, w.heap.size + 2 = rb := ⟨_, rfl⟩
  rw [hrb] at HRB1
  (try rw [hrb])
  obtain ⟨xb, hxb⟩ : ∃ xb, w.heap.size + 1 = xb := ⟨_, rfl⟩
  rw [hxb] at HXB1
  (try rw [hxb])
  obtain ⟨fb, hfb⟩ : ∃ fb, w.heap.size = fb := ⟨_, rfl⟩
  rw [hfb] at HFB1
  (try rw [hfb])
  have HNE := Lib.hid (show fb = w.heap.size + 0 ∧ xb = w.heap.size + 1 ∧ rb = w.heap.size + 2 ∧ True from ⟨by omega, by omega, by omega, trivial⟩)
  clear hfb hxb hrb
  have cFB := HFB1.out.cell
  have lFB := HFB1.out.lt
  have fFB := HFB1.out.frozen
  have cXB := HXB1.out.cell
  have lXB := HXB1.out.lt
  have fXB := HXB1.out.frozen
  have cRB := HRB1.out.cell
  have lRB := HRB1.out.lt
  have fRB := HRB1.out.frozen
  have HO1 := Lib.hid (Row.kept HO0.out HK1.out (fun _ _ h => h))
  have HMK := Lib.hid (markT sp dp seq ack wi sm ur OA oc LA 0 lc a e a0 a1 e0 e1 HOC.out w1 HO1.out.byt_bs)
  go_wp2_with (show wpList _ _ _ ((⟨_, .load 48 (.tmp 6), _, _, _, none⟩ : Oper) :: _) _ _; refine wpList_load_mid rfl 48 (.tmp 6) rfl xb 0 rfl [.int .u16 sp, .int .u16 dp, .int .u32 seq, .int .u32 ack, .int .u8 2, .int .u16 wi, .int .u16 sm, .int .u16 ur, .slice OA 12 oc, .slice LA 0 lc] _ HXB1.out.range Tryz.underlying48 rfl (by kernel_rfl) ?_)
  refine HMK.out.mono ?_
  rintro e' w2 ⟨rfl, hk⟩
  have HO2 := Lib.hid (Row.kept HO1.out hk (fun _ _ h => h))
  have HK2 := Lib.hid (HK1.out.trans hk)
  have HS2 := Lib.hid (show Kept (fun _ => False) w1 w2 from hk)
  have HFB2 := Lib.hid (HFB1.out.kept hk (fun h => h))
  have HXB2 := Lib.hid (HXB1.out.kept hk (fun h => h))
  have HRB2 := Lib.hid (HRB1.out.kept hk (fun h => h))
  clear cFB lFB fFB cXB lXB fXB cRB lRB fRB
  have cFB := HFB2.out.cell
  have lFB := HFB2.out.lt
  have fFB := HFB2.out.frozen
  have cXB := HXB2.out.cell
  have lXB := HXB2.out.lt
  have fXB := HXB2.out.frozen
  have cRB := HRB2.out.cell
  have lRB := HRB2.out.lt
  have fRB := HRB2.out.frozen
  have HS2 := Lib.hid (HS0.out.kept HK2.out (fun h => h))
  have HC2 := Lib.hid (HC0.out.kept HK2.out (fun h => h))
  have HM2 := Lib.hid (HM0.out.kept HK2.out (fun h => h))
  clear hk HMK cFB lFB fFB cXB lXB fXB cRB lRB fRB
  go_upto_region 3 with fail
  refine wp_region_add 7 (fun i => i = cb ∨ i = mg) [6] [] [(4, fun v u => v = .agg #[.bool false, .int .u64 0, .int .u64 0, .bool false, .int .u64 0, .int .u64 0, .int .u16 sp, .int .u16 dp, .int .u8 6]), (6, fun v u => ∃ eb, v = .tuple #[.agg #[.bool false, .int .u64 0, .int .u64 0, .bool false, .int .u64 0, .int .u64 0, .int .u16 0, .int .u16 0, .int .u8 0], .bool false] ∧ w2.heap.size ≤ eb ∧ Blk u cb 272 #[.int .i64 most, .map (some mg), .pointer (some ⟨eb, 0, none⟩), .pointer (some ⟨eb, 0, none⟩)] ∧ Blk u eb 206 #[.bool false, .int .u64 0, .int .u64 0, .bool false, .int .u64 0, .int .u64 0, .int .u16 sp, .int .u16 dp, .int .u8 6, .int .u16 e, .pointer none, .pointer none] ∧ MapB u mg #[⟨.agg #[.bool false, .int .u64 0, .int .u64 0, .bool false, .int .u64 0, .int .u64 0, .int .u16 sp, .int .u16 dp, .int .u8 6], .pointer (some ⟨eb, 0, none⟩), mc⟩] (mc + 1))] ?st ?ne rfl (by kernel_rfl) (by kernel_rfl) (by kernel_rfl) ?_
  case st =>
    intro p hp
    simp only [List.mem_cons, List.not_mem_nil, or_false] at hp
    rcases hp with rfl | rfl
    · intro v u u' h hk; exact h
    · rintro v u u' ⟨eb, h1, h2, h3, h4, h5⟩ hk; exact ⟨eb, h1, h2, h3.kept hk (fun h => h), h4.kept hk (fun h => h), h5.kept hk (fun h => h)⟩
  case ne =>
    intro p hp
    simp only [List.mem_cons, List.not_mem_nil, or_false] at hp
    rcases hp with rfl | rfl
    · exact ⟨_, _, Kept.refl _ _, rfl⟩
    · exact putIs most sp dp e cb mg mc sp0 sp1 dp0 dp1 w2 HC2.out HM2.out
  simp only [List.take_succ_cons, List.take_zero, List.drop_succ_cons, List.drop_zero]
  intro G pick hR hp1 hp2
  have sS : ∀ u i, (pick u).cell? ⟨sb, i, none⟩ = (#[.pointer none, .int .i64 bk, .pointer (some ⟨cb, 0, none⟩), .int .u64 ls, .int .u64 le, .int .u64 rp] : Array Value)[i]? := fun u i => ((hp1 u).cell HS2.out.lt (fun h => h.elim HSC.out HSM.out) _).trans (HS2.out.cell i)
  repeat (first | (refine wpR_det hp2 rfl ((hR.rel _).trans rfl) rfl ?_; intro K hK; go_big_quiet_op; go_big_quiet_on) | (refine wpR_ptr hp2 rfl ((hR.rel _).trans rfl) rfl rfl ?_; intro K hK; go_big_quiet_op; go_big_quiet_on) | (refine wpR_skip pick rfl ?_; intro K hK; go_big_quiet_op; go_big_quiet_on))
  refine wpR_rel pick rfl ((hR.rel _).trans rfl) ((hR.turns _).trans rfl) ?_ ?_
  · intro u hu
    have hk := hR.since hu.1
    have hks := hk.size
    refine relAt_load_mid 28 (.tmp 5) rfl fb 0 rfl [.bool false, .int .u64 0, .int .u64 0, .bool false, .int .u64 0, .int .u64 0, .int .u16 sp, .int .u16 dp, .int .u8 6] _ ((HFB2.out.kept hk (fun h => by have := HNE.out; have := HCW.out; omega)).range) Tryz.underlying28 rfl (by kernel_rfl) ?_
    exact ⟨hR.into0 (Kept.refl _ _), hR.put 0 rfl rfl rfl⟩
  intro v hv
  obtain ⟨u, _, hu⟩ := hv
  obtain rfl := hR.get 0 rfl hu
  clear hu
  intro K hK
  go_big_quiet_op
  go_big_quiet_on
  repeat (first | (refine wpR_det hp2 rfl ((hR.rel _).trans rfl) rfl ?_; intro K hK; go_big_quiet_op; go_big_quiet_on) | (refine wpR_ptr hp2 rfl ((hR.rel _).trans rfl) rfl rfl ?_; intro K hK; go_big_quiet_op; go_big_quiet_on) | (refine wpR_skip pick rfl ?_; intro K hK; go_big_quiet_op; go_big_quiet_on))
  refine wpR_turn pick rfl ((hR.rel _).trans rfl) ((hR.turns _).trans rfl) ((hR.adds _).trans rfl) ?_ ?_
  · intro u hu hM
    have hk := hR.since hu.1
    have hks := hk.size
    have hK0 := hR.first hM
    unfold relAt
    go_simp
    refine (putNew most sp dp e cb mg mc m0 sp0 sp1 dp0 dp1 u (HC2.out.kept hK0 (fun h => h)) (HM2.out.kept hK0 (fun h => h))).mono ?_
    rintro e' w' ⟨eb, rfl, h1, h2, h3, h4, hk'⟩
    exact ⟨_, rfl, hR.into hk', hR.put 1 rfl rfl ⟨eb, rfl, Nat.le_trans hks h1, h2, h3, h4⟩⟩
  intro v hv
  obtain ⟨u, _, hu⟩ := hv
  obtain hT6 := hR.get 1 rfl hu
  clear hu
  intro K hK
  go_big_quiet_op
  go_big_quiet_on
  repeat (first | (refine wpR_det hp2 rfl ((hR.rel _).trans rfl) rfl ?_; intro K hK; go_big_quiet_op; go_big_quiet_on) | (refine wpR_ptr hp2 rfl ((hR.rel _).trans rfl) rfl rfl ?_; intro K hK; go_big_quiet_op; go_big_quiet_on) | (refine wpR_skip pick rfl ?_; intro K hK; go_big_quiet_op; go_big_quiet_on))
  refine wpR_nil ?_
  intro w3 hk2 hF hM
  obtain ⟨eb, -, q1, q2, q3, q4⟩ := hR.get 1 rfl hM
  have HQ := Lib.hid (And.intro q1 (And.intro q2 (And.intro q3 q4)))
  have HX3 := Lib.hid hk2
  have HK3 := Lib.hid (show Kept (fun i => i = cb ∨ i = mg) w w3 from (HK2.out.mono (fun _ _ h => h.elim)).trans hk2)
  have HXB3 := Lib.hid (HXB2.out.kept hk2 (fun h => by have := HNE.out; have := HCW.out; omega))
  have HRB3 := Lib.hid (HRB2.out.kept hk2 (fun h => by have := HNE.out; have := HCW.out; omega))
  have HO3 := Lib.hid (Row.kept HO2.out hk2 (fun g hg h => by have := (HO2.out.lt g hg).1; have := HLT.out; omega))
  have HBE := Lib.hid (show rb < eb by have := HRB2.out.lt; omega)
  clear hF hM hp1 hp2 hR hk2 sS q1 q2 q3 q4
  have HWE := Lib.hid (withEchoT sp dp seq ack 2 wi sm ur k0 k1 OA oc LA lc a e 0 a0 a1 e0 (by omega) (by omega) (by omega) w3 HO3.out.byt_bs)
  go_wp2_with (show wpList _ _ _ ((⟨_, .load 48 (.tmp 6), _, _, _, none⟩ : Oper) :: _) _ _; refine wpList_load_mid rfl 48 (.tmp 6) rfl xb 0 rfl [.int .u16 sp, .int .u16 dp, .int .u32 seq, .int .u32 ack, .int .u8 2, .int .u16 wi, .int .u16 sm, .int .u16 ur, .slice OA 12 oc, .slice LA 0 lc] _ HXB3.out.range Tryz.underlying48 rfl (by kernel_rfl) ?_)
  refine HWE.out.mono ?_
  rintro e' w4 ⟨vg, vc, UA, uc, r, rfl, r0, r1, hv, hk⟩
  have HV4 := Lib.hid hv
  have HRB4 := Lib.hid (HRB3.out.kept hk (fun h => h))
  have HX4 := Lib.hid hk
  clear hv hk HWE
  go_wp2_with (show wpList _ _ _ ((⟨none, .store 48 (.tmp 8) _, _, _, _, none⟩ : Oper) :: _) _ _; refine wpList_store_mid rfl 48 (.tmp 8) _ rfl rb 0 #[.int .u16 sp, .int .u16 dp, .int .u32 seq, .int .u32 ack, .int .u8 2, .int .u16 wi, .int .u16 r, .int .u16 ur, .slice (some ⟨vg, 0, none⟩) 12 vc, .slice UA 0 uc] rfl rfl (HRB4.out.there rfl) (by kernel_rfl) (by simp [Value.oneCell']) ?_)
  generalize hwq : (World.setCells _ _ _ _) = w5
  have HX5 := Lib.hid (show Kept (fun i => i = rb) w4 w5 by rw [← hwq]; exact Kept.setCells (S := fun i => i = rb) rfl _ _ (Kept.refl _ _))
  have HRB5 := Lib.hid (show Blk w5 rb 48 #[.int .u16 sp, .int .u16 dp, .int .u32 seq, .int .u32 ack, .int .u8 2, .int .u16 wi, .int .u16 r, .int .u16 ur, .slice (some ⟨vg, 0, none⟩) 12 vc, .slice UA 0 uc] by rw [← hwq]; exact HRB4.out.setAll #[.int .u16 sp, .int .u16 dp, .int .u32 seq, .int .u32 ack, .int .u8 2, .int .u16 wi, .int .u16 r, .int .u16 ur, .slice (some ⟨vg, 0, none⟩) 12 vc, .slice UA 0 uc] rfl)
  clear hwq
  obtain ⟨q1, q2, q3, q4⟩ := HQ.out
  refine bodyPost_ret (results_blk1 (P := Tryz.prog) (show Tryz.f74.results = _ from rfl) _ _ rb 48 #[.int .u16 sp, .int .u16 dp, .int .u32 seq, .int .u32 ack, .int .u8 2, .int .u16 wi, .int .u16 r, .int .u16 ur, .slice (some ⟨vg, 0, none⟩) 12 vc, .slice UA 0 uc] _ rfl HRB5.out Tryz.underlying48 rfl (by kernel_rfl)) rfl ⟨vg, vc, UA, uc, r, eb, rfl, r0, r1, ?_, ?_, ?_, ?_, ?_, ?_⟩
  · exact (Row.kept HV4.out HX5.out (fun g hg h => by have := (HV4.out.lt g hg).1; have := HRB3.out.lt; omega)).more HK3.out.size
  · have := HK2.out.size; omega
  · exact (q2.kept HX4.out (fun h => h)).kept HX5.out (fun h => by have := HNE.out; have := HCW.out; omega)
  · exact (q3.kept HX4.out (fun h => h)).kept HX5.out (fun h => by have := HBE.out; omega)
  · exact (q4.kept HX4.out (fun h => h)).kept HX5.out (fun h => by have := HNE.out; have := HCW.out; omega)
  · exact (HK3.out.then HX4.out (fun _ _ h => h.elim)).then HX5.out (fun i hi h => by have := HNE.out; omega)
end Go.Proofs.YtdnbhmfofphblaaGreatDoor
/- Host of a packet between zero ends; Unwrap of a packet that Wrap made. -/
namespace Go.Proofs.YtdnbhmfofphblaaGreatDoor
open Go.RowKit
set_option maxRecDepth 100000
set_option linter.unusedVariables false
set_option linter.unusedSimpArgs false
theorem wf_pk (ln s0 : Int) (st : Bool) (ttl pr : Int) (t0 : 0 ≤ ttl) (t1 : ttl ≤ 255) (p0 : 0 ≤ pr) (p1 : pr ≤ 255) (l0 : 0 ≤ ln) (l1 : ln ≤ 1000000) (z0 : 0 ≤ s0) (z1 : s0 ≤ 65535) : (⟨0, ln, 0, st, false, 0, ttl, pr, s0, 0, 0, []⟩ : Hd).wf := by
  constructor <;> first | decide | (simp; omega) | simp
theorem pk_facts (ln s0 : Int) (st : Bool) (ttl pr : Int) (t0 : 0 ≤ ttl) (t1 : ttl ≤ 255) (p0 : 0 ≤ pr) (p1 : pr ≤ 255) (l0 : 0 ≤ ln) (l1 : ln ≤ 1000000) (z0 : 0 ≤ s0) (z1 : s0 ≤ 65535) (X : List UInt8) (hX : X.length ≤ 30000) :
    let b := (⟨0, ln, 0, st, false, 0, ttl, pr, s0, 0, 0, []⟩ : Hd).pkt X
    perr b = 0 ∧ pld b = X ∧ (∃ s, phd b = ⟨0, 20 + (X.length : Int), 0, st, false, 0, ttl, pr, s, 0, 0, []⟩) ∧ b.length = 20 + X.length ∧ fld b 0 1 / 16 = 4 := by
  intro b
  obtain ⟨h1, h2, s, h3⟩ := perr_pkt (h := (⟨0, ln, 0, st, false, 0, ttl, pr, s0, 0, 0, []⟩ : Hd)) (X := X) (wf_pk ln s0 st ttl pr t0 t1 p0 p1 l0 l1 z0 z1) (show (0 : Int) ≤ 8191 by decide) (by show 20 + 0 + X.length ≤ 65535; omega)
  refine ⟨h1, h2, ⟨s, h3⟩, by rw [Hd.pkt_len]; rfl, ?_⟩
  show fld (Hd.pkt _ X) 0 1 / 16 = 4
  unfold Hd.pkt
  rw [fl0]
  show (64 + ((20 + 0 : Nat) : Int) / 4) % 256 / 16 = 4
  decide
set_option maxRecDepth 100000 in
set_option maxHeartbeats 2000000 in
theorem hostPk (ln s0 : Int) (l0 : 0 ≤ ln) (l1 : ln ≤ 1000000) (z0 : 0 ≤ s0) (z1 : s0 ≤ 65535) (st : Bool) (ttl : Int) (t0 : 0 ≤ ttl) (t1 : ttl ≤ 255) (sp dp seq ack fl wi sm ur : Int) (os ls : List UInt8) (n m : Nat) (hn : os.length = n) (hm : ls.length = m) (n40 : n ≤ 40) (n4 : n % 4 = 0) (np : 0 < n) (m9 : m ≤ 9000) (hw : (⟨sp, dp, seq, ack, fl, wi, sm, ur, os, ls⟩ : Sg).wf) (hz : 65535 - norm (total true (pseudo 0 0 6 (((⟨sp, dp, seq, ack, fl, wi, sm, ur, os, ls⟩ : Sg).size : Nat) : Int) ++ (⟨sp, dp, seq, ack, fl, wi, sm, ur, os, ls⟩ : Sg).bytes)) = 0) (BA : Option Addr) (q bc : Nat) (hq : ((⟨0, ln, 0, st, false, 0, ttl, 6, s0, 0, 0, []⟩ : Hd).pkt (⟨sp, dp, seq, ack, fl, wi, sm, ur, os, ls⟩ : Sg).bytes).length = q) (hbc : q ≤ bc ∧ bc ≤ maxLen) (w : World) (hB : BS w w.heap.size BA ((⟨0, ln, 0, st, false, 0, ttl, 6, s0, 0, 0, []⟩ : Hd).pkt (⟨sp, dp, seq, ack, fl, wi, sm, ur, os, ls⟩ : Sg).bytes)) :
    Calls Tryz.prog 9 #[.slice BA q bc] w fun e w' => ∃ VA vc UA uc, e = .returned (.tuple #[.agg #[.bool false, .bool st, .int .u8 ttl, .bool false, .int .u64 0, .int .u64 0, .bool false, .int .u64 0, .int .u64 0, .int .u16 sp, .int .u16 dp, .int .u8 6, .int .u16 sp, .int .u16 dp, .int .u32 seq, .int .u32 ack, .int .u8 fl, .int .u16 wi, .int .u16 sm, .int .u16 ur, .slice VA n vc, .slice UA m uc, .int .u16 0, .int .u16 0, .int .u16 0, .slice none 0 0, .int .u8 0, .int .u8 0, .int .u16 0, .int .u32 0, .slice none 0 0], .int .i64 0]) ∧ Row w' w.heap.size 5 (.slice VA n vc) (bcs os) ∧ Row w' w.heap.size 5 (.slice UA m uc) (bcs ls) ∧ Kept (fun _ => False) w w' := by
  have hlb : (⟨sp, dp, seq, ack, fl, wi, sm, ur, os, ls⟩ : Sg).bytes.length = 20 + n + m := by rw [Sg.bytes_len, Sg.size, hn, hm]
  obtain ⟨h1, h2, ⟨s, h3⟩, h4, h5⟩ := pk_facts ln s0 st ttl 6 t0 t1 (by decide) (by decide) l0 l1 z0 z1 (⟨sp, dp, seq, ack, fl, wi, sm, ur, os, ls⟩ : Sg).bytes (by omega)
  exact host4 BA q bc _ _ h3 hq (by omega) (by omega) hbc h5 h1 rfl rfl rfl t0 t1 (show (0 : Int) ≤ 0 by decide) (show (0 : Int) ≤ 4294967295 by decide) (show (0 : Int) ≤ 0 by decide) (show (0 : Int) ≤ 4294967295 by decide) sp dp seq ack fl wi sm ur os ls n m hn hm n40 n4 np m9 hw h2 hz w hB
set_option maxRecDepth 100000 in
set_option maxHeartbeats 2000000 in
theorem unwrapPk (X : List UInt8) (m : Nat) (hm : X.length = m) (hX : X.length ≤ 30000) (hl : 0 < X.length) (hl4 : fld X 0 1 / 16 = 4) (BA : Option Addr) (q bc : Nat) (hq : ((⟨0, 0, 0, false, false, 0, 9, 4, 0, 0, 0, []⟩ : Hd).pkt X).length = q) (hbc : q ≤ bc ∧ bc ≤ maxLen) (w : World) (hB : BS w w.heap.size BA ((⟨0, 0, 0, false, false, 0, 9, 4, 0, 0, 0, []⟩ : Hd).pkt X)) :
    Calls Tryz.prog 72 #[.slice BA q bc] w fun e w' => ∃ XA xc, e = .returned (.tuple #[.slice XA m xc, .agg #[.bool false, .int .u64 0, .int .u64 0, .bool false, .int .u64 0, .int .u64 0, .int .u8 9], .int .i64 0]) ∧ Row w' w.heap.size 5 (.slice XA m xc) (bcs X) ∧ Kept (fun _ => False) w w' := by
  obtain ⟨h1, h2, ⟨s, h3⟩, h4, h5⟩ := pk_facts 0 0 false 9 4 (by decide) (by decide) (by decide) (by decide) (by decide) (by decide) (by decide) (by decide) X hX
  have h := unwrap4 BA q bc _ _ h3 hq (by omega) (by omega) hbc h5 h1 rfl rfl rfl (by rw [h2]; exact hl) (by rw [h2]; exact hl4) w hB
  rw [h2, hm] at h
  exact h
end Go.Proofs.YtdnbhmfofphblaaGreatDoor
