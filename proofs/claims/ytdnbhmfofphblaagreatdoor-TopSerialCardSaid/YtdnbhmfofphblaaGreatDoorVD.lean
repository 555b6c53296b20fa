/- shim.Leave of a segment with time stamps, at the one connection. -/
import Derived.Test.YtdnbhmfofphblaaGreatDoorTV
import Derived.Test.YtdnbhmfofphblaaGreatDoorTI
namespace Go.Proofs.YtdnbhmfofphblaaGreatDoor
open Go.RowKit
set_option maxRecDepth 100000
set_option linter.unusedVariables false
set_option linter.unusedSimpArgs false
theorem wf12 (x y fl r : Int) (os : List UInt8) (x0 : 0 ≤ x) (x1 : x ≤ 65535) (y0 : 0 ≤ y) (y1 : y ≤ 65535) (f0 : 0 ≤ fl) (f1 : fl ≤ 255) (r0 : 0 ≤ r) (r1 : r ≤ 65535) (h12 : os.length = 12) : (⟨x, y, 0, 0, fl, 0, r, 0, os, []⟩ : Sg).wf :=
  ⟨x0, x1, y0, y1, Int.le_refl 0, (show (0 : Int) ≤ 4294967295 by decide), Int.le_refl 0, (show (0 : Int) ≤ 4294967295 by decide), f0, f1, Int.le_refl 0, (show (0 : Int) ≤ 65535 by decide), r0, r1, Int.le_refl 0, (show (0 : Int) ≤ 65535 by decide), (show os.length ≤ 40 by omega), (show os.length % 4 = 0 by omega), Nat.zero_le _⟩
theorem rowNew (l : List UInt8) (w : World) {n : Nat} (hn : l.length = n) (hm : n ≤ maxLen) : Row (w.alloc (.cells (bcs l).toArray 5)) w.heap.size 5 (.slice (some ⟨w.heap.size, 0, none⟩) n n) (bcs l) := by
  have e : (bcs l).toArray.size = n := by rw [List.size_toArray, bcs_length, hn]
  have h := Row.of_blk (xs := bcs l) (Blk.new w 5 (bcs l).toArray) (Nat.le_refl _) (by rw [e]; exact hm) (by simp)
  rwa [e] at h
theorem veq {dp sp r r' : Int} {s t s' t' : Value} (h : Value.agg #[.int .u16 dp, .int .u16 sp, .int .u32 0, .int .u32 0, .int .u8 16, .int .u16 0, .int .u16 r, .int .u16 0, s, t] = .agg #[.int .u16 dp, .int .u16 sp, .int .u32 0, .int .u32 0, .int .u8 16, .int .u16 0, .int .u16 r', .int .u16 0, s', t']) : s' = s ∧ r' = r := by
  injection h with h
  simp at h
  exact ⟨h.2.1.symm, h.1.symm⟩
theorem lvIs (OA : Option Addr) (oc : Nat) (dp sp vv : Int) (w : World) (xb : Nat) (hX : Blk w xb 48 #[.int .u16 dp, .int .u16 sp, .int .u32 0, .int .u32 0, .int .u8 16, .int .u16 0, .int .u16 0, .int .u16 0, .slice OA 12 oc, .slice none 0 0]) : ∃ (x : Value) (u : World), Kept (fun i => i = xb) w u ∧ ∃ vg vc UA uc r, Blk u xb 48 #[.int .u16 dp, .int .u16 sp, .int .u32 0, .int .u32 0, .int .u8 16, .int .u16 0, .int .u16 r, .int .u16 0, .slice (some ⟨vg, 0, none⟩) 12 vc, .slice UA 0 uc] ∧ 0 ≤ r ∧ r ≤ 65535 ∧ Row u w.heap.size 5 (.slice (some ⟨vg, 0, none⟩) 12 vc) (bcs ([1, 1, 8, 10] ++ (digs 4 vv ++ digs 4 0))) := by
  have hr : Row (w.alloc (.cells (bcs ([1, 1, 8, 10] ++ (digs 4 vv ++ digs 4 0))).toArray 5)) w.heap.size 5 (.slice (some ⟨w.heap.size, 0, none⟩) 12 12) (bcs ([1, 1, 8, 10] ++ (digs 4 vv ++ digs 4 0))) := rowNew ([1, 1, 8, 10] ++ (digs 4 vv ++ digs 4 0)) w (by simp [digs_length]) (by decide)
  have hX1 := hX.alloc (.cells (bcs ([1, 1, 8, 10] ++ (digs 4 vv ++ digs 4 0))).toArray 5)
  have hk : Kept (fun i => i = xb) (w.alloc (.cells (bcs ([1, 1, 8, 10] ++ (digs 4 vv ++ digs 4 0))).toArray 5)) ((w.alloc (.cells (bcs ([1, 1, 8, 10] ++ (digs 4 vv ++ digs 4 0))).toArray 5)).setCells xb 0 #[.int .u16 dp, .int .u16 sp, .int .u32 0, .int .u32 0, .int .u8 16, .int .u16 0, .int .u16 0, .int .u16 0, .slice (some ⟨w.heap.size, 0, none⟩) 12 12, .slice none 0 0].toList) := Kept.setCells (S := fun i => i = xb) rfl _ _ (Kept.refl _ _)
  exact ⟨undef, _, ((Kept.refl _ _).alloc _).trans hk, w.heap.size, 12, none, 0, 0, hX1.setAll _ rfl, by omega, by omega, Row.kept hr hk (fun g hg h => by have := (hr.lt g hg).1; have := hX.lt; omega)⟩
set_option maxRecDepth 100000 in
set_option maxHeartbeats 2000000 in
theorem leaveT (most bk ls le rp sp dp wd a : Int) (a0 : 0 ≤ a) (a1 : a ≤ 4294967295) (wd0 : 0 ≤ wd) (wd1 : wd ≤ 65535) (sp0 : 0 ≤ sp) (sp1 : sp ≤ 65535) (dp0 : 0 ≤ dp) (dp1 : dp ≤ 65535)
    (sb cb mg eb mb mc B : Nat) (OA : Option Addr) (oc : Nat) (hoc : 12 ≤ oc ∧ oc ≤ maxLen) (w : World) (hS : Blk w sb 95 #[.pointer none, .int .i64 bk, .pointer (some ⟨cb, 0, none⟩), .int .u64 ls, .int .u64 le, .int .u64 rp]) (hC : Blk w cb 272 #[.int .i64 most, .map (some mg), .pointer (some ⟨eb, 0, none⟩), .pointer (some ⟨eb, 0, none⟩)] ∧ Blk w eb 206 #[.bool false, .int .u64 0, .int .u64 0, .bool false, .int .u64 0, .int .u64 0, .int .u16 sp, .int .u16 dp, .int .u8 6, .int .u16 wd, .pointer none, .pointer none] ∧ MapB w mg #[⟨.agg #[.bool false, .int .u64 0, .int .u64 0, .bool false, .int .u64 0, .int .u64 0, .int .u16 sp, .int .u16 dp, .int .u8 6], .pointer (some ⟨eb, 0, none⟩), mb⟩] mc) (hO : Row w B 5 (.slice OA 12 oc) (bcs ([1, 1, 8, 10] ++ (digs 4 a ++ digs 4 0)))) (hcB : cb < B) (heB : eb < B) :
    Calls Tryz.prog 8 #[.pointer (some ⟨sb, 0, none⟩), .agg #[.bool false, .int .u64 0, .int .u64 0, .bool false, .int .u64 0, .int .u64 0, .int .u16 sp, .int .u16 dp, .int .u8 6], .agg #[.int .u16 0, .int .u16 0, .int .u32 0, .int .u32 0, .int .u8 16, .int .u16 0, .int .u16 0, .int .u16 0, .slice OA 12 oc, .slice none 0 0]] w fun e' w' => ∃ pv, e' = .returned (.tuple #[pv, .int .i64 0]) ∧ Byt w' pv ((⟨0, 0, 0, true, false, 0, 64, 6, 0, 0, 0, []⟩ : Hd).pkt ((⟨dp, sp, 0, 0, 16, 0, 0, 0, ([1, 1, 8, 10] ++ (digs 4 (a % 65536 * 65536 + wd) ++ digs 4 0)), []⟩ : Sg).summed 0 0).bytes) ∧ Blk w' cb 272 #[.int .i64 most, .map (some mg), .pointer (some ⟨eb, 0, none⟩), .pointer (some ⟨eb, 0, none⟩)] ∧ Blk w' eb 206 #[.bool false, .int .u64 0, .int .u64 0, .bool false, .int .u64 0, .int .u64 0, .int .u16 sp, .int .u16 dp, .int .u8 6, .int .u16 wd, .pointer none, .pointer none] ∧ MapB w' mg #[⟨.agg #[.bool false, .int .u64 0, .int .u64 0, .bool false, .int .u64 0, .int .u64 0, .int .u16 sp, .int .u16 dp, .int .u8 6], .pointer (some ⟨eb, 0, none⟩), mb⟩] mc ∧ Kept (fun i => i = cb ∨ i = eb) w w' := by
  obtain ⟨vv, hv⟩ : ∃ vv, a % 65536 * 65536 + wd = vv := ⟨_, rfl⟩
  rw [hv]
  have v0 : 0 ≤ vv := by omega
  have v1 : vv ≤ 4294967295 := by omega
  have HV := Lib.hid hv
  obtain ⟨hC, hE, hM⟩ := hC
  have HS0 := Lib.hid hS
  have HC0 := Lib.hid hC
  have HE0 := Lib.hid hE
  have HM0 := Lib.hid hM
  have HO0 := Lib.hid hO
  have HOC := Lib.hid hoc
  have HSC := Lib.hid (show sb ≠ cb from hS.ne_ hC (by decide))
  have HSE := Lib.hid (show sb ≠ eb from hS.ne_ hE (by decide))
  have HCW := Lib.hid (And.intro hC.lt (And.intro hE.lt (And.intro hM.lt hS.lt)))
  have HLT := Lib.hid (And.intro hcB heB)
  have HMC := Lib.hid (And.intro (hM.ne hC) (hM.ne hE))
  clear hv hS hC hE hM hO hoc hcB heB
  go_enter Tryz.func8, Tryz.ntmps8
  go_upto_region 1 with fail
  obtain ⟨w1, hw1⟩ : ∃ w1 : World, w1 = ((w.alloc (.cells #[.bool false, .int .u64 0, .int .u64 0, .bool false, .int .u64 0, .int .u64 0, .int .u16 sp, .int .u16 dp, .int .u8 6] 28)).alloc (.cells #[.int .u16 0, .int .u16 0, .int .u32 0, .int .u32 0, .int .u8 16, .int .u16 0, .int .u16 0, .int .u16 0, .slice OA 12 oc, .slice none 0 0] 48)) := ⟨_, rfl⟩
  have HFB1 := Lib.hid (show Blk w1 w.heap.size 28 #[.bool false, .int .u64 0, .int .u64 0, .bool false, .int .u64 0, .int .u64 0, .int .u16 sp, .int .u16 dp, .int .u8 6] by rw [hw1]; exact (Blk.new _ _ _).alloc _)
  have HXB1 := Lib.hid (show Blk w1 (w.heap.size + 1) 48 #[.int .u16 0, .int .u16 0, .int .u32 0, .int .u32 0, .int .u8 16, .int .u16 0, .int .u16 0, .int .u16 0, .slice OA 12 oc, .slice none 0 0] by rw [hw1]; exact Blk.new_ (by simp) _ _)
  have HK1 := Lib.hid (show Kept (fun _ => False) w w1 by rw [hw1]; exact ((Kept.refl _ _).alloc _).alloc _)
  rw [← hw1]
  clear hw1
  obtain ⟨xb, hxb⟩ : ∃ xb, w.heap.size + 1 = xb := ⟨_, rfl⟩
  rw [hxb] at HXB1
  (try rw [hxb])
  obtain ⟨fb, hfb⟩ : ∃ fb, w.heap.size = fb := ⟨_, rfl⟩
  rw [hfb] at HFB1
  (try rw [hfb])
  have HNE := Lib.hid (show fb = w.heap.size + 0 ∧ xb = w.heap.size + 1 ∧ True from ⟨by omega, by omega, trivial⟩)
  clear hfb hxb
  have cFB := HFB1.out.cell
  have lFB := HFB1.out.lt
  have fFB := HFB1.out.frozen
  have cXB := HXB1.out.cell
  have lXB := HXB1.out.lt
  have fXB := HXB1.out.frozen
  clear cFB lFB fFB cXB lXB fXB
  go_wp2_with fail
  refine (madeT bk ls le rp sb cb w1 (HS0.out.kept HK1.out (fun h => h))).mono ?_
  rintro e' w' ⟨rfl, rfl⟩
  have HRT := Lib.hid (rightT 0 0 0 0 16 0 0 0 OA 12 oc none 0 0 (by omega) (by omega) (by omega) w1)
  go_wp2_with (show wpList _ _ _ ((⟨_, .load 48 (.tmp 5), _, _, _, none⟩ : Oper) :: _) _ _; refine wpList_load_mid rfl 48 (.tmp 5) rfl xb 0 rfl [.int .u16 0, .int .u16 0, .int .u32 0, .int .u32 0, .int .u8 16, .int .u16 0, .int .u16 0, .int .u16 0, .slice OA 12 oc, .slice none 0 0] _ HXB1.out.range Tryz.underlying48 rfl (by kernel_rfl) ?_)
  refine HRT.out.mono ?_
  rintro e' w2 ⟨rfl, hk⟩
  have cFB := HFB1.out.cell
  have lFB := HFB1.out.lt
  have fFB := HFB1.out.frozen
  have cXB := HXB1.out.cell
  have lXB := HXB1.out.lt
  have fXB := HXB1.out.frozen
  have HK2 := Lib.hid (HK1.out.trans hk)
  have HS2 := Lib.hid (show Kept (fun _ => False) w1 w2 from hk)
  have HFB2 := Lib.hid (HFB1.out.kept hk (fun h => h))
  have HXB2 := Lib.hid (HXB1.out.kept hk (fun h => h))
  clear cFB lFB fFB cXB lXB fXB
  have cFB := HFB2.out.cell
  have lFB := HFB2.out.lt
  have fFB := HFB2.out.frozen
  have cXB := HXB2.out.cell
  have lXB := HXB2.out.lt
  have fXB := HXB2.out.frozen
  clear hk HRT cFB lFB fFB cXB lXB fXB
  go_wp2_with (show wpList _ _ _ ((⟨_, .load 28 (.tmp 4), _, _, _, some _⟩ : Oper) :: _) _ _; refine wpList_load_g rfl 28 (.tmp 4) rfl fb 0 rfl [.bool false, .int .u64 0, .int .u64 0, .bool false, .int .u64 0, .int .u64 0, .int .u16 sp, .int .u16 dp, .int .u8 6] _ HFB2.out.range Tryz.underlying28 rfl (by kernel_rfl) ?_)
  refine (rightS sp dp w2).mono ?_
  rintro e' w3 ⟨rfl, hk⟩
  have cFB := HFB2.out.cell
  have lFB := HFB2.out.lt
  have fFB := HFB2.out.frozen
  have cXB := HXB2.out.cell
  have lXB := HXB2.out.lt
  have fXB := HXB2.out.frozen
  have HK3 := Lib.hid (HK2.out.trans hk)
  have HS3 := Lib.hid (show Kept (fun _ => False) w2 w3 from hk)
  have HFB3 := Lib.hid (HFB2.out.kept hk (fun h => h))
  have HXB3 := Lib.hid (HXB2.out.kept hk (fun h => h))
  clear cFB lFB fFB cXB lXB fXB
  have cFB := HFB3.out.cell
  have lFB := HFB3.out.lt
  have fFB := HFB3.out.frozen
  have cXB := HXB3.out.cell
  have lXB := HXB3.out.lt
  have fXB := HXB3.out.frozen
  clear hk cFB lFB fFB cXB lXB fXB
  have HO3 := Lib.hid (Row.kept HO0.out HK3.out (fun _ _ h => h))
  go_upto_region 5 with fail
  refine wp_region_add 8 (fun i => i = xb) [5, 7] [] [(5, fun a u => Blk u xb 48 #[.int .u16 dp, .int .u16 0, .int .u32 0, .int .u32 0, .int .u8 16, .int .u16 0, .int .u16 0, .int .u16 0, .slice OA 12 oc, .slice none 0 0]), (7, fun a u => Blk u xb 48 #[.int .u16 dp, .int .u16 sp, .int .u32 0, .int .u32 0, .int .u8 16, .int .u16 0, .int .u16 0, .int .u16 0, .slice OA 12 oc, .slice none 0 0])] ?st ?ne rfl (by kernel_rfl) (by kernel_rfl) (by kernel_rfl) ?_
  case st =>
    intro p hp
    simp only [List.mem_cons, List.not_mem_nil, or_false] at hp
    rcases hp with rfl | rfl
    · intro a u u' h hk; exact h.kept hk (fun h => h)
    · intro a u u' h hk; exact h.kept hk (fun h => h)
  case ne =>
    intro p hp
    simp only [List.mem_cons, List.not_mem_nil, or_false] at hp
    rcases hp with rfl | rfl
    · exact ⟨undef, w3.setCell ⟨xb, 0, none⟩ (.int .u16 dp), Kept.setIn (S := fun i => i = xb) (b := xb) rfl (Kept.refl _ _), HXB3.out.set_to rfl⟩
    · exact ⟨undef, (w3.setCell ⟨xb, 0, none⟩ (.int .u16 dp)).setCell ⟨xb, 1, none⟩ (.int .u16 sp), Kept.setIn (S := fun i => i = xb) (b := xb) rfl (Kept.setIn (S := fun i => i = xb) (b := xb) rfl (Kept.refl _ _)), (HXB3.out.set_to (cs' := #[.int .u16 dp, .int .u16 0, .int .u32 0, .int .u32 0, .int .u8 16, .int .u16 0, .int .u16 0, .int .u16 0, .slice OA 12 oc, .slice none 0 0]) rfl).set_to rfl⟩
  simp only [List.take_succ_cons, List.take_zero, List.drop_succ_cons, List.drop_zero]
  intro G pick hR hp1 hp2
  have sF : ∀ u i, (pick u).cell? ⟨fb, i, none⟩ = (#[.bool false, .int .u64 0, .int .u64 0, .bool false, .int .u64 0, .int .u64 0, .int .u16 sp, .int .u16 dp, .int .u8 6] : Array Value)[i]? := fun u i => ((hp1 u).cell HFB3.out.lt (fun h => by have := HNE.out; omega) _).trans (HFB3.out.cell i)
  repeat (first | (refine wpR_det hp2 rfl ((hR.rel _).trans rfl) rfl ?_; intro K hK; go_big_quiet_op; go_big_quiet_on) | (refine wpR_ptr hp2 rfl ((hR.rel _).trans rfl) rfl rfl ?_; intro K hK; go_big_quiet_op; go_big_quiet_on) | (refine wpR_skip pick rfl ?_; intro K hK; go_big_quiet_op; go_big_quiet_on))
  refine wpR_turn pick rfl ((hR.rel _).trans rfl) ((hR.turns _).trans rfl) ((hR.adds _).trans rfl) ?_ ?_
  · intro u hu hM
    have hk := hR.since hu.1
    have hks := hk.size
    have hK0 := hR.first hM
    have h5 := HXB3.out.kept hK0 (fun h => h)
    have cc := h5.cell
    have ff := h5.frozen
    have ll := h5.lt
    unfold relAt
    go_simp
    exact ⟨hR.into (Kept.setIn (S := fun i => i = xb) (b := xb) rfl (Kept.refl _ _)), hR.put 0 rfl rfl (h5.set_to rfl)⟩
  intro v hv
  obtain ⟨u, _, hu⟩ := hv
  obtain hT := hR.get 0 rfl hu
  clear hu
  intro K hK
  go_big_quiet_op
  go_big_quiet_on
  repeat (first | (refine wpR_det hp2 rfl ((hR.rel _).trans rfl) rfl ?_; intro K hK; go_big_quiet_op; go_big_quiet_on) | (refine wpR_ptr hp2 rfl ((hR.rel _).trans rfl) rfl rfl ?_; intro K hK; go_big_quiet_op; go_big_quiet_on) | (refine wpR_skip pick rfl ?_; intro K hK; go_big_quiet_op; go_big_quiet_on))
  refine wpR_turn pick rfl ((hR.rel _).trans rfl) ((hR.turns _).trans rfl) ((hR.adds _).trans rfl) ?_ ?_
  · intro u hu hM
    have hk := hR.since hu.1
    have hks := hk.size
    have h5 := hR.get 0 rfl hM
    have cc := h5.cell
    have ff := h5.frozen
    have ll := h5.lt
    unfold relAt
    go_simp
    exact ⟨hR.into (Kept.setIn (S := fun i => i = xb) (b := xb) rfl (Kept.refl _ _)), hR.put 1 rfl rfl (h5.set_to rfl)⟩
  intro v hv
  obtain ⟨u, _, hu⟩ := hv
  obtain hT := hR.get 1 rfl hu
  clear hu
  intro K hK
  go_big_quiet_op
  go_big_quiet_on
  repeat (first | (refine wpR_det hp2 rfl ((hR.rel _).trans rfl) rfl ?_; intro K hK; go_big_quiet_op; go_big_quiet_on) | (refine wpR_ptr hp2 rfl ((hR.rel _).trans rfl) rfl rfl ?_; intro K hK; go_big_quiet_op; go_big_quiet_on) | (refine wpR_skip pick rfl ?_; intro K hK; go_big_quiet_op; go_big_quiet_on))
  refine wpR_nil ?_
  intro w4 hk2 hF hM
  have HXB4 := Lib.hid (hR.get 1 rfl hM)
  have HFB4 := Lib.hid (HFB3.out.kept hk2 (fun h => by have := HNE.out; omega))
  have HK4 := Lib.hid (HK3.out.then hk2 (fun i hi e => by have := HNE.out; omega))
  have HO4 := Lib.hid (Row.kept HO3.out hk2 (fun g hg h => by have := (HO0.out.lt g hg).2; have := HNE.out; omega))
  clear hF hM hp1 hp2 hR hk2 sF
  have HST := Lib.hid (stampT dp sp 0 0 16 0 0 0 OA oc none 0 0 a 0 a0 a1 (by omega) (by omega) HOC.out w4 HO4.out.byt_bs)
  go_wp2_with (show wpList _ _ _ ((⟨_, .load 48 (.tmp 5), _, _, _, none⟩ : Oper) :: _) _ _; refine wpList_load_mid rfl 48 (.tmp 5) rfl xb 0 rfl [.int .u16 dp, .int .u16 sp, .int .u32 0, .int .u32 0, .int .u8 16, .int .u16 0, .int .u16 0, .int .u16 0, .slice OA 12 oc, .slice none 0 0] _ HXB4.out.range Tryz.underlying48 rfl (by kernel_rfl) ?_)
  refine HST.out.mono ?_
  rintro e' w5 ⟨rfl, hk⟩
  have HK5 := Lib.hid (HK4.out.trans hk)
  have HXB5 := Lib.hid (HXB4.out.kept hk (fun h => h))
  have HFB5 := Lib.hid (HFB4.out.kept hk (fun h => h))
  have HO5 := Lib.hid (Row.kept HO4.out hk (fun _ _ h => h))
  have HS5 := Lib.hid (HS0.out.kept HK5.out (fun h => h))
  have HC5 := Lib.hid (HC0.out.kept HK5.out (fun h => h))
  have HE5 := Lib.hid (HE0.out.kept HK5.out (fun h => h))
  have HM5 := Lib.hid (HM0.out.kept HK5.out (fun h => h))
  clear hk HST
  go_upto_region 8 with fail
  refine wp_region_add 11 (fun i => i = cb ∨ i = eb) [5] [] [(4, fun v u => v = .agg #[.bool false, .int .u64 0, .int .u64 0, .bool false, .int .u64 0, .int .u64 0, .int .u16 sp, .int .u16 dp, .int .u8 6]), (5, fun v u => v = .tuple #[.int .u16 wd, .bool true] ∧ Blk u cb 272 #[.int .i64 most, .map (some mg), .pointer (some ⟨eb, 0, none⟩), .pointer (some ⟨eb, 0, none⟩)] ∧ Blk u eb 206 #[.bool false, .int .u64 0, .int .u64 0, .bool false, .int .u64 0, .int .u64 0, .int .u16 sp, .int .u16 dp, .int .u8 6, .int .u16 wd, .pointer none, .pointer none] ∧ MapB u mg #[⟨.agg #[.bool false, .int .u64 0, .int .u64 0, .bool false, .int .u64 0, .int .u64 0, .int .u16 sp, .int .u16 dp, .int .u8 6], .pointer (some ⟨eb, 0, none⟩), mb⟩] mc)] ?st ?ne rfl (by kernel_rfl) (by kernel_rfl) (by kernel_rfl) ?_
  case st =>
    intro p hp
    simp only [List.mem_cons, List.not_mem_nil, or_false] at hp
    rcases hp with rfl | rfl
    · intro v u u' h hk; exact h
    · rintro v u u' ⟨h1, h2, h3, h4⟩ hk; exact ⟨h1, h2.kept hk (fun h => h), h3.kept hk (fun h => h), h4.kept hk (fun h => h)⟩
  case ne =>
    intro p hp
    simp only [List.mem_cons, List.not_mem_nil, or_false] at hp
    rcases hp with rfl | rfl
    · exact ⟨_, _, Kept.refl _ _, rfl⟩
    · exact ⟨_, w5, Kept.refl _ _, rfl, HC5.out, HE5.out, HM5.out⟩
  simp only [List.take_succ_cons, List.take_zero, List.drop_succ_cons, List.drop_zero]
  intro G pick hR hp1 hp2
  have sS : ∀ u i, (pick u).cell? ⟨sb, i, none⟩ = (#[.pointer none, .int .i64 bk, .pointer (some ⟨cb, 0, none⟩), .int .u64 ls, .int .u64 le, .int .u64 rp] : Array Value)[i]? := fun u i => ((hp1 u).cell HS5.out.lt (fun h => h.elim HSC.out HSE.out) _).trans (HS5.out.cell i)
  repeat (first | (refine wpR_det hp2 rfl ((hR.rel _).trans rfl) rfl ?_; intro K hK; go_big_quiet_op; go_big_quiet_on) | (refine wpR_ptr hp2 rfl ((hR.rel _).trans rfl) rfl rfl ?_; intro K hK; go_big_quiet_op; go_big_quiet_on) | (refine wpR_skip pick rfl ?_; intro K hK; go_big_quiet_op; go_big_quiet_on))
  refine wpR_rel pick rfl ((hR.rel _).trans rfl) ((hR.turns _).trans rfl) ?_ ?_
  · intro u hu
    have hk := hR.since hu.1
    have hks := hk.size
    refine relAt_load_mid 28 (.tmp 4) rfl fb 0 rfl [.bool false, .int .u64 0, .int .u64 0, .bool false, .int .u64 0, .int .u64 0, .int .u16 sp, .int .u16 dp, .int .u8 6] _ ((HFB5.out.kept hk (fun h => by have := HNE.out; have := HCW.out; omega)).range) Tryz.underlying28 rfl (by kernel_rfl) ?_
    exact ⟨hR.into0 (Kept.refl _ _), hR.put 0 rfl rfl rfl⟩
  intro v hv
  obtain ⟨u, _, hu⟩ := hv
  obtain rfl := hR.get 0 rfl hu
  clear hu
  intro K hK
  go_big_quiet_op
  go_big_quiet_on
  repeat (first | (refine wpR_det hp2 rfl ((hR.rel _).trans rfl) rfl ?_; intro K hK; go_big_quiet_op; go_big_quiet_on) | (refine wpR_ptr hp2 rfl ((hR.rel _).trans rfl) rfl rfl ?_; intro K hK; go_big_quiet_op; go_big_quiet_on) | (refine wpR_skip pick rfl ?_; intro K hK; go_big_quiet_op; go_big_quiet_on))
  refine wpR_turn pick rfl ((hR.rel _).trans rfl) ((hR.turns _).trans rfl) ((hR.adds _).trans rfl) ?_ ?_
  · intro u hu hM
    have hk := hR.since hu.1
    have hks := hk.size
    have hK0 := hR.first hM
    unfold relAt
    go_simp
    refine (getOne most sp dp wd cb mg eb mc mb sp0 sp1 dp0 dp1 u (HC5.out.kept hK0 (fun h => h)) (HE5.out.kept hK0 (fun h => h)) (HM5.out.kept hK0 (fun h => h))).mono ?_
    rintro e' w' ⟨rfl, h1, h2, h3, hk'⟩
    exact ⟨_, rfl, hR.into hk', hR.put 1 rfl rfl ⟨rfl, h1, h2, h3⟩⟩
  intro v hv
  obtain ⟨u, _, hu⟩ := hv
  obtain ⟨rfl, -⟩ := hR.get 1 rfl hu
  clear hu
  intro K hK
  go_big_quiet_op
  go_big_quiet_on
  repeat (first | (refine wpR_det hp2 rfl ((hR.rel _).trans rfl) rfl ?_; intro K hK; go_big_quiet_op; go_big_quiet_on) | (refine wpR_ptr hp2 rfl ((hR.rel _).trans rfl) rfl rfl ?_; intro K hK; go_big_quiet_op; go_big_quiet_on) | (refine wpR_skip pick rfl ?_; intro K hK; go_big_quiet_op; go_big_quiet_on))
  refine wpR_nil ?_
  intro w6 hk2 hF hM
  have HQ := Lib.hid (hR.get 1 rfl hM).2
  have HK6 := Lib.hid (show Kept (fun i => i = cb ∨ i = eb) w w6 from (HK5.out.mono (fun _ _ h => h.elim)).trans hk2)
  have HXB6 := Lib.hid (HXB5.out.kept hk2 (fun h => by have := HNE.out; have := HCW.out; omega))
  have HFB6 := Lib.hid (HFB5.out.kept hk2 (fun h => by have := HNE.out; have := HCW.out; omega))
  have HO6 := Lib.hid (Row.kept HO5.out hk2 (fun g hg h => by have := (HO0.out.lt g hg).1; have := HLT.out; omega))
  clear hF hM hp1 hp2 hR hk2 sS
  go_upto_region 11 with fail
  refine wp_region_add 6 (fun i => i = xb) [0, 4, 5] [0, 4] [(0, fun x u => x = .agg #[.int .u16 dp, .int .u16 sp, .int .u32 0, .int .u32 0, .int .u8 16, .int .u16 0, .int .u16 0, .int .u16 0, .slice OA 12 oc, .slice none 0 0]), (3, fun x u => x = .int .u32 vv), (4, fun x u => ∃ vg vc UA uc r, x = .agg #[.int .u16 dp, .int .u16 sp, .int .u32 0, .int .u32 0, .int .u8 16, .int .u16 0, .int .u16 r, .int .u16 0, .slice (some ⟨vg, 0, none⟩) 12 vc, .slice UA 0 uc] ∧ 0 ≤ r ∧ r ≤ 65535 ∧ Row u w6.heap.size 5 (.slice (some ⟨vg, 0, none⟩) 12 vc) (bcs ([1, 1, 8, 10] ++ (digs 4 vv ++ digs 4 0)))), (5, fun x u => ∃ vg vc UA uc r, Blk u xb 48 #[.int .u16 dp, .int .u16 sp, .int .u32 0, .int .u32 0, .int .u8 16, .int .u16 0, .int .u16 r, .int .u16 0, .slice (some ⟨vg, 0, none⟩) 12 vc, .slice UA 0 uc] ∧ 0 ≤ r ∧ r ≤ 65535 ∧ Row u w6.heap.size 5 (.slice (some ⟨vg, 0, none⟩) 12 vc) (bcs ([1, 1, 8, 10] ++ (digs 4 vv ++ digs 4 0))))] ?st ?ne rfl (by kernel_rfl) (by kernel_rfl) (by kernel_rfl) ?_
  case st =>
    intro p hp
    simp only [List.mem_cons, List.not_mem_nil, or_false] at hp
    rcases hp with rfl | rfl | rfl | rfl
    · intro v u u' h hk; exact h
    · intro v u u' h hk; exact h
    · rintro x u u' ⟨vg, vc, UA, uc, r, h1, h2, h3, h4⟩ hk; exact ⟨vg, vc, UA, uc, r, h1, h2, h3, h4.kept hk (fun _ _ h => h)⟩
    · rintro x u u' ⟨vg, vc, UA, uc, r, h1, h2, h3, h4⟩ hk; exact ⟨vg, vc, UA, uc, r, h1.kept hk (fun h => h), h2, h3, h4.kept hk (fun _ _ h => h)⟩
  case ne =>
    intro p hp
    simp only [List.mem_cons, List.not_mem_nil, or_false] at hp
    rcases hp with rfl | rfl | rfl | rfl
    · exact ⟨_, _, Kept.refl _ _, rfl⟩
    · exact ⟨_, _, Kept.refl _ _, rfl⟩
    · exact ⟨_, _, (Kept.refl _ _).alloc (.cells (bcs ([1, 1, 8, 10] ++ (digs 4 vv ++ digs 4 0))).toArray 5), w6.heap.size, 12, none, 0, 0, rfl, by omega, by omega, rowNew ([1, 1, 8, 10] ++ (digs 4 vv ++ digs 4 0)) w6 (by simp [digs_length]) (by decide)⟩
    · exact lvIs OA oc dp sp vv w6 xb HXB6.out
  simp only [List.take_succ_cons, List.take_zero, List.drop_succ_cons, List.drop_zero]
  intro G pick hR hp1 hp2
  repeat (first | (refine wpR_det hp2 rfl ((hR.rel _).trans rfl) rfl ?_; intro K hK; go_big_quiet_op; go_big_quiet_on) | (refine wpR_ptr hp2 rfl ((hR.rel _).trans rfl) rfl rfl ?_; intro K hK; go_big_quiet_op; go_big_quiet_on) | (refine wpR_skip pick rfl ?_; intro K hK; go_big_quiet_op; go_big_quiet_on))
  refine wpR_add pick rfl ((hR.rel _).trans rfl) ((hR.turns _).trans rfl) ((hR.adds _).trans rfl) ?_ ?_
  · intro u hu hM
    have hk := hR.since hu.1
    have hks := hk.size
    refine relAt_load_mid 48 (.tmp 5) rfl xb 0 rfl [.int .u16 dp, .int .u16 sp, .int .u32 0, .int .u32 0, .int .u8 16, .int .u16 0, .int .u16 0, .int .u16 0, .slice OA 12 oc, .slice none 0 0] _ ((HXB6.out.kept (hR.first hM) (fun h => h)).range) Tryz.underlying48 rfl (by kernel_rfl) ?_
    exact ⟨hR.into0 (Kept.refl _ _), hR.put 0 rfl rfl rfl⟩
  intro v hv
  obtain ⟨u, _, hu⟩ := hv
  obtain rfl := hR.get 0 rfl hu
  clear hu
  intro K hK
  go_big_quiet_op
  go_big_quiet_on
  repeat (first | (refine wpR_det hp2 rfl ((hR.rel _).trans rfl) rfl ?_; intro K hK; go_big_quiet_op; go_big_quiet_on) | (refine wpR_ptr hp2 rfl ((hR.rel _).trans rfl) rfl rfl ?_; intro K hK; go_big_quiet_op; go_big_quiet_on) | (refine wpR_skip pick rfl ?_; intro K hK; go_big_quiet_op; go_big_quiet_on))
  refine wpR_rel pick rfl ((hR.rel _).trans rfl) ((hR.turns _).trans rfl) ?_ ?_
  · intro u hu
    have hk := hR.since hu.1
    have hks := hk.size
    unfold relAt
    go_simp
    refine (blendT a wd a0 a1 wd0 wd1 u).mono ?_
    rintro e' w' ⟨rfl, rfl⟩
    exact ⟨_, rfl, hR.same, hR.put 1 rfl rfl (by rw [HV.out])⟩
  intro v hv
  obtain ⟨u, _, hu⟩ := hv
  obtain rfl := hR.get 1 rfl hu
  clear hu
  intro K hK
  go_big_quiet_op
  go_big_quiet_on
  repeat (first | (refine wpR_det hp2 rfl ((hR.rel _).trans rfl) rfl ?_; intro K hK; go_big_quiet_op; go_big_quiet_on) | (refine wpR_ptr hp2 rfl ((hR.rel _).trans rfl) rfl rfl ?_; intro K hK; go_big_quiet_op; go_big_quiet_on) | (refine wpR_skip pick rfl ?_; intro K hK; go_big_quiet_op; go_big_quiet_on))
  refine wpR_add pick rfl ((hR.rel _).trans rfl) ((hR.turns _).trans rfl) ((hR.adds _).trans rfl) ?_ ?_
  · intro u hu hM
    have hk := hR.since hu.1
    have hks := hk.size
    unfold relAt
    go_simp
    refine (withValT dp sp 0 0 16 0 0 0 (by omega) (by omega) OA oc none 0 a 0 vv a0 a1 (by omega) (by omega) v0 v1 u (HO6.out.kept (hR.first hM.1) (fun _ _ h => h)).byt_bs).mono ?_
    rintro e' w' ⟨vg, vc, UA, uc, r, rfl, r0, r1, hv, hk'⟩
    exact ⟨_, rfl, hR.into0 hk', hR.put 2 rfl rfl ⟨vg, vc, UA, uc, r, rfl, r0, r1, hv.more hks⟩⟩
  intro v hv
  obtain ⟨u, _, hu⟩ := hv
  obtain ⟨vg, vc, UA, uc, r, rfl, r0, r1, -⟩ := hR.get 2 rfl hu
  clear hu
  intro K hK
  go_big_quiet_op
  go_big_quiet_on
  repeat (first | (refine wpR_det hp2 rfl ((hR.rel _).trans rfl) rfl ?_; intro K hK; go_big_quiet_op; go_big_quiet_on) | (refine wpR_ptr hp2 rfl ((hR.rel _).trans rfl) rfl rfl ?_; intro K hK; go_big_quiet_op; go_big_quiet_on) | (refine wpR_skip pick rfl ?_; intro K hK; go_big_quiet_op; go_big_quiet_on))
  refine wpR_turn pick rfl ((hR.rel _).trans rfl) ((hR.turns _).trans rfl) ((hR.adds _).trans rfl) ?_ ?_
  · intro u hu hM
    have hk := hR.since hu.1
    have hks := hk.size
    have hK0 := hR.first hM.1.1
    have hB0 := HXB6.out.kept hK0 (fun h => h)
    obtain ⟨vg', vc', UA', uc', r', ev, -, -, hrow⟩ := hR.get 2 rfl hM.2
    obtain ⟨e1, e2⟩ := veq ev
    rw [e1] at hrow
    refine relAt_store_mid 48 (.tmp 5) (.tmp 52) rfl xb 0 #[.int .u16 dp, .int .u16 sp, .int .u32 0, .int .u32 0, .int .u8 16, .int .u16 0, .int .u16 r, .int .u16 0, .slice (some ⟨vg, 0, none⟩) 12 vc, .slice UA 0 uc] rfl rfl (hB0.there rfl) (by kernel_rfl) (by simp [Value.oneCell']) ?_
    exact ⟨hR.into (Kept.setCells (S := fun i => i = xb) rfl _ _ (Kept.refl _ _)), hR.put 3 rfl rfl ⟨vg, vc, UA, uc, r, hB0.setAll #[.int .u16 dp, .int .u16 sp, .int .u32 0, .int .u32 0, .int .u8 16, .int .u16 0, .int .u16 r, .int .u16 0, .slice (some ⟨vg, 0, none⟩) 12 vc, .slice UA 0 uc] rfl, r0, r1, Row.kept hrow (Kept.setCells (S := fun i => i = xb) rfl _ _ (Kept.refl _ _)) (fun g hg h => by have := (hrow.lt g hg).1; have := HXB6.out.lt; omega)⟩⟩
  intro v hv
  obtain ⟨u, _, hu⟩ := hv
  obtain hT := hR.get 3 rfl hu
  clear hu
  intro K hK
  go_big_quiet_op
  go_big_quiet_on
  repeat (first | (refine wpR_det hp2 rfl ((hR.rel _).trans rfl) rfl ?_; intro K hK; go_big_quiet_op; go_big_quiet_on) | (refine wpR_ptr hp2 rfl ((hR.rel _).trans rfl) rfl rfl ?_; intro K hK; go_big_quiet_op; go_big_quiet_on) | (refine wpR_skip pick rfl ?_; intro K hK; go_big_quiet_op; go_big_quiet_on))
  refine wpR_nil ?_
  intro w7 hk2 hF hM
  obtain ⟨vg, vc, UA, uc, r, hxb, r0, r1, hv⟩ := hR.get 3 rfl hM
  have HXB7 := Lib.hid hxb
  have HV7 := Lib.hid hv
  have HK7 := Lib.hid (HK6.out.then hk2 (fun i hi h => by have := HNE.out; omega))
  have HFB7 := Lib.hid (HFB6.out.kept hk2 (fun h => by have := HNE.out; omega))
  have HQ7 := Lib.hid (And.intro (HQ.out.1.kept hk2 (fun h => by have := HNE.out; have := HCW.out; omega)) (And.intro (HQ.out.2.1.kept hk2 (fun h => by have := HNE.out; have := HCW.out; omega)) (HQ.out.2.2.kept hk2 (fun h => by have := HNE.out; have := HCW.out; omega))))
  clear hF hM hR hk2 hxb hv
  (try clear hp1 hp2)
  have hwf : (⟨dp, sp, 0, 0, 16, 0, r, 0, ([1, 1, 8, 10] ++ (digs 4 vv ++ digs 4 0)), []⟩ : Sg).wf := wf12 dp sp 16 r ([1, 1, 8, 10] ++ (digs 4 vv ++ digs 4 0)) dp0 dp1 sp0 sp1 (by omega) (by omega) r0 r1 (by simp [digs_length])
  have hck : (⟨dp, sp, 0, 0, 16, 0, r, 0, ([1, 1, 8, 10] ++ (digs 4 vv ++ digs 4 0)), []⟩ : Sg).ck 0 0 = ((⟨dp, sp, 0, 0, 16, 0, 0, 0, ([1, 1, 8, 10] ++ (digs 4 vv ++ digs 4 0)), []⟩ : Sg).ck 0 0) := rfl
  have hl12 : ([1, 1, 8, 10] ++ (digs 4 vv ++ digs 4 0)).length = 12 := by simp [digs_length]
  have hckr := (⟨dp, sp, 0, 0, 16, 0, 0, 0, ([1, 1, 8, 10] ++ (digs 4 vv ++ digs 4 0)), []⟩ : Sg).ck_range 0 0
  have HSU := Lib.hid (fun u (h : BS u u.heap.size (some ⟨vg, 0, none⟩) ([1, 1, 8, 10] ++ (digs 4 vv ++ digs 4 0))) => summedT dp sp 0 0 16 0 r 0 (some ⟨vg, 0, none⟩) 12 vc UA 0 uc ([1, 1, 8, 10] ++ (digs 4 vv ++ digs 4 0)) [] hl12 rfl (by omega) (by omega) (by omega) hwf 0 0 (by omega) (by omega) (by omega) (by omega) u h .nil)
  rw [hck] at HSU
  have hwf2 : (⟨dp, sp, 0, 0, 16, 0, ((⟨dp, sp, 0, 0, 16, 0, 0, 0, ([1, 1, 8, 10] ++ (digs 4 vv ++ digs 4 0)), []⟩ : Sg).ck 0 0), 0, ([1, 1, 8, 10] ++ (digs 4 vv ++ digs 4 0)), []⟩ : Sg).wf := wf12 dp sp 16 _ ([1, 1, 8, 10] ++ (digs 4 vv ++ digs 4 0)) dp0 dp1 sp0 sp1 (by omega) (by omega) hckr.1 hckr.2 (by simp [digs_length])
  have HBY := Lib.hid (fun VA vd UB ud u (h : BS u u.heap.size VA ([1, 1, 8, 10] ++ (digs 4 vv ++ digs 4 0))) => (show Calls Tryz.prog 35 #[.agg #[.int .u16 dp, .int .u16 sp, .int .u32 0, .int .u32 0, .int .u8 16, .int .u16 0, .int .u16 ((⟨dp, sp, 0, 0, 16, 0, 0, 0, ([1, 1, 8, 10] ++ (digs 4 vv ++ digs 4 0)), []⟩ : Sg).ck 0 0), .int .u16 0, .slice VA 12 vd, .slice UB 0 ud]] u fun e w' => ∃ v, e = .returned v ∧ Row w' u.heap.size 5 v (bcs ((⟨dp, sp, 0, 0, 16, 0, 0, 0, ([1, 1, 8, 10] ++ (digs 4 vv ++ digs 4 0)), []⟩ : Sg).summed 0 0).bytes) ∧ Kept (fun _ => False) u w' from bytesT dp sp 0 0 16 0 ((⟨dp, sp, 0, 0, 16, 0, 0, 0, ([1, 1, 8, 10] ++ (digs 4 vv ++ digs 4 0)), []⟩ : Sg).ck 0 0) 0 VA 12 vd UB 0 ud ([1, 1, 8, 10] ++ (digs 4 vv ++ digs 4 0)) [] hl12 rfl (by omega) (by omega) (by omega) hwf2 u h .nil))
  have hsl : ((⟨dp, sp, 0, 0, 16, 0, 0, 0, ([1, 1, 8, 10] ++ (digs 4 vv ++ digs 4 0)), []⟩ : Sg).summed 0 0).bytes.length = 32 := by rw [Sg.bytes_len, Sg.size]; show 20 + (([1, 1, 8, 10] ++ (digs 4 vv ++ digs 4 0))).length + 0 = 32; rw [hl12]
  have HLB := Lib.hid (show ((⟨dp, sp, 0, 0, 16, 0, 0, 0, ([1, 1, 8, 10] ++ (digs 4 vv ++ digs 4 0)), []⟩ : Sg).summed 0 0).bytes.length ≤ maxLen by rw [hsl]; decide)
  have HL6 := Lib.hid (show ((⟨dp, sp, 0, 0, 16, 0, 0, 0, ([1, 1, 8, 10] ++ (digs 4 vv ++ digs 4 0)), []⟩ : Sg).summed 0 0).bytes.length ≤ 60000 by omega)
  have HLP := Lib.hid (show ((⟨0, 0, 0, true, false, 0, 64, 6, 0, 0, 0, []⟩ : Hd).pkt ((⟨dp, sp, 0, 0, 16, 0, 0, 0, ([1, 1, 8, 10] ++ (digs 4 vv ++ digs 4 0)), []⟩ : Sg).summed 0 0).bytes).length ≤ maxLen by rw [Hd.pkt_len, hsl]; decide)
  clear hwf hwf2 hck hckr hl12 hsl
  go_upto_region 12 with fail
  refine wp_region_kept 13 [(0, fun x u => x = .agg #[.bool false, .int .u64 0, .int .u64 0, .bool false, .int .u64 0, .int .u64 0, .int .u16 sp, .int .u16 dp, .int .u8 6]), (1, fun x u => x = .agg #[.int .u16 dp, .int .u16 sp, .int .u32 0, .int .u32 0, .int .u8 16, .int .u16 0, .int .u16 r, .int .u16 0, .slice (some ⟨vg, 0, none⟩) 12 vc, .slice UA 0 uc]), (3, fun x u => x = .agg #[.bool false, .int .u64 0, .int .u64 0]), (5, fun x u => x = .agg #[.bool false, .int .u64 0, .int .u64 0]), (6, fun x u => ∃ VA vd UB ud, x = .agg #[.int .u16 dp, .int .u16 sp, .int .u32 0, .int .u32 0, .int .u8 16, .int .u16 0, .int .u16 ((⟨dp, sp, 0, 0, 16, 0, 0, 0, ([1, 1, 8, 10] ++ (digs 4 vv ++ digs 4 0)), []⟩ : Sg).ck 0 0), .int .u16 0, .slice VA 12 vd, .slice UB 0 ud] ∧ Row u w7.heap.size 5 (.slice VA 12 vd) (bcs ([1, 1, 8, 10] ++ (digs 4 vv ++ digs 4 0))) ∧ Row u w7.heap.size 5 (.slice UB 0 ud) (bcs [])), (7, fun x u => Byt u x ((⟨dp, sp, 0, 0, 16, 0, 0, 0, ([1, 1, 8, 10] ++ (digs 4 vv ++ digs 4 0)), []⟩ : Sg).summed 0 0).bytes), (8, fun x u => ∃ v', x = .tuple #[v', .int .i64 0] ∧ Byt u v' ((⟨0, 0, 0, true, false, 0, 64, 6, 0, 0, 0, []⟩ : Hd).pkt ((⟨dp, sp, 0, 0, 16, 0, 0, 0, ([1, 1, 8, 10] ++ (digs 4 vv ++ digs 4 0)), []⟩ : Sg).summed 0 0).bytes))] ?st ?ne rfl (by kernel_rfl) (by kernel_rfl) ?_
  case st =>
    intro p hp
    simp only [List.mem_cons, List.not_mem_nil, or_false] at hp
    rcases hp with rfl | rfl | rfl | rfl | rfl | rfl | rfl
    · intro v u u' h hk; exact h
    · intro v u u' h hk; exact h
    · intro v u u' h hk; exact h
    · intro v u u' h hk; exact h
    · rintro x u u' ⟨VA, vd, UB, ud, h1, h2, h3⟩ hk; exact ⟨VA, vd, UB, ud, h1, h2.kept hk (fun _ _ h => h), h3.kept hk (fun _ _ h => h)⟩
    · intro x u u' h hk; exact h.on0 hk
    · rintro x u u' ⟨v', h1, h2⟩ hk; exact ⟨v', h1, h2.on0 hk⟩
  case ne =>
    intro p hp
    simp only [List.mem_cons, List.not_mem_nil, or_false] at hp
    rcases hp with rfl | rfl | rfl | rfl | rfl | rfl | rfl
    · exact ⟨_, _, Kept.refl _ _, rfl⟩
    · exact ⟨_, _, Kept.refl _ _, rfl⟩
    · exact ⟨_, _, Kept.refl _ _, rfl⟩
    · exact ⟨_, _, Kept.refl _ _, rfl⟩
    · exact ⟨_, _, (Kept.refl _ _).alloc _, some ⟨w7.heap.size, 0, none⟩, 12, none, 0, rfl, rowNew ([1, 1, 8, 10] ++ (digs 4 vv ++ digs 4 0)) w7 (by simp [digs_length]) (by decide), Row.nil _ _ _⟩
    · exact Byt.some _ _ HLB.out
    · obtain ⟨v', u, h1, h2⟩ := Byt.some (S := fun _ => False) w7 ((⟨0, 0, 0, true, false, 0, 64, 6, 0, 0, 0, []⟩ : Hd).pkt ((⟨dp, sp, 0, 0, 16, 0, 0, 0, ([1, 1, 8, 10] ++ (digs 4 vv ++ digs 4 0)), []⟩ : Sg).summed 0 0).bytes) HLP.out; exact ⟨_, u, h1, v', rfl, h2⟩
  simp only [List.take_succ_cons, List.take_zero, List.drop_succ_cons, List.drop_zero]
  intro G pick hR hp1 hp2
  repeat (first | (refine wpR_det hp2 rfl ((hR.rel _).trans rfl) rfl ?_; intro K hK; go_big_quiet_op; go_big_quiet_on) | (refine wpR_ptr hp2 rfl ((hR.rel _).trans rfl) rfl rfl ?_; intro K hK; go_big_quiet_op; go_big_quiet_on) | (refine wpR_skip pick rfl ?_; intro K hK; go_big_quiet_op; go_big_quiet_on))
  refine wpR_rel pick rfl ((hR.rel _).trans rfl) ((hR.turns _).trans rfl) ?_ ?_
  · intro u hu
    have hk := hR.since hu.1
    have hks := hk.size
    refine relAt_load_mid 28 (.tmp 4) rfl fb 0 rfl [.bool false, .int .u64 0, .int .u64 0, .bool false, .int .u64 0, .int .u64 0, .int .u16 sp, .int .u16 dp, .int .u8 6] _ ((HFB7.out.kept hk (fun h => h)).range) Tryz.underlying28 rfl (by kernel_rfl) ?_
    exact ⟨hR.into0 (Kept.refl _ _), hR.put 0 rfl rfl rfl⟩
  intro v hv
  obtain ⟨u, _, hu⟩ := hv
  obtain rfl := hR.get 0 rfl hu
  clear hu
  intro K hK
  go_big_quiet_op
  go_big_quiet_on
  repeat (first | (refine wpR_det hp2 rfl ((hR.rel _).trans rfl) rfl ?_; intro K hK; go_big_quiet_op; go_big_quiet_on) | (refine wpR_ptr hp2 rfl ((hR.rel _).trans rfl) rfl rfl ?_; intro K hK; go_big_quiet_op; go_big_quiet_on) | (refine wpR_skip pick rfl ?_; intro K hK; go_big_quiet_op; go_big_quiet_on))
  refine wpR_rel pick rfl ((hR.rel _).trans rfl) ((hR.turns _).trans rfl) ?_ ?_
  · intro u hu
    have hk := hR.since hu.1
    have hks := hk.size
    refine relAt_load_mid 48 (.tmp 5) rfl xb 0 rfl [.int .u16 dp, .int .u16 sp, .int .u32 0, .int .u32 0, .int .u8 16, .int .u16 0, .int .u16 r, .int .u16 0, .slice (some ⟨vg, 0, none⟩) 12 vc, .slice UA 0 uc] _ ((HXB7.out.kept hk (fun h => h)).range) Tryz.underlying48 rfl (by kernel_rfl) ?_
    exact ⟨hR.into0 (Kept.refl _ _), hR.put 1 rfl rfl rfl⟩
  intro v hv
  obtain ⟨u, _, hu⟩ := hv
  obtain rfl := hR.get 1 rfl hu
  clear hu
  intro K hK
  go_big_quiet_op
  go_big_quiet_on
  repeat (first | (refine wpR_det hp2 rfl ((hR.rel _).trans rfl) rfl ?_; intro K hK; go_big_quiet_op; go_big_quiet_on) | (refine wpR_ptr hp2 rfl ((hR.rel _).trans rfl) rfl rfl ?_; intro K hK; go_big_quiet_op; go_big_quiet_on) | (refine wpR_skip pick rfl ?_; intro K hK; go_big_quiet_op; go_big_quiet_on))
  refine wpR_rel pick rfl ((hR.rel _).trans rfl) ((hR.turns _).trans rfl) ?_ ?_
  · intro u hu
    have hk := hR.since hu.1
    have hks := hk.size
    refine relAt_load_mid 26 (.tmp 55) rfl fb 3 rfl [.bool false, .int .u64 0, .int .u64 0] _ ((HFB7.out.kept hk (fun h => h)).rangeMid 3 3 _ rfl) Tryz.underlying26 rfl (by kernel_rfl) ?_
    exact ⟨hR.into0 (Kept.refl _ _), hR.put 2 rfl rfl rfl⟩
  intro v hv
  obtain ⟨u, _, hu⟩ := hv
  obtain rfl := hR.get 2 rfl hu
  clear hu
  intro K hK
  go_big_quiet_op
  go_big_quiet_on
  repeat (first | (refine wpR_det hp2 rfl ((hR.rel _).trans rfl) rfl ?_; intro K hK; go_big_quiet_op; go_big_quiet_on) | (refine wpR_ptr hp2 rfl ((hR.rel _).trans rfl) rfl rfl ?_; intro K hK; go_big_quiet_op; go_big_quiet_on) | (refine wpR_skip pick rfl ?_; intro K hK; go_big_quiet_op; go_big_quiet_on))
  refine wpR_rel pick rfl ((hR.rel _).trans rfl) ((hR.turns _).trans rfl) ?_ ?_
  · intro u hu
    have hk := hR.since hu.1
    have hks := hk.size
    refine relAt_load_mid 26 (.tmp 57) rfl fb 0 rfl [.bool false, .int .u64 0, .int .u64 0] _ ((HFB7.out.kept hk (fun h => h)).rangeMid 0 3 _ rfl) Tryz.underlying26 rfl (by kernel_rfl) ?_
    exact ⟨hR.into0 (Kept.refl _ _), hR.put 3 rfl rfl rfl⟩
  intro v hv
  obtain ⟨u, _, hu⟩ := hv
  obtain rfl := hR.get 3 rfl hu
  clear hu
  intro K hK
  go_big_quiet_op
  go_big_quiet_on
  repeat (first | (refine wpR_det hp2 rfl ((hR.rel _).trans rfl) rfl ?_; intro K hK; go_big_quiet_op; go_big_quiet_on) | (refine wpR_ptr hp2 rfl ((hR.rel _).trans rfl) rfl rfl ?_; intro K hK; go_big_quiet_op; go_big_quiet_on) | (refine wpR_skip pick rfl ?_; intro K hK; go_big_quiet_op; go_big_quiet_on))
  refine wpR_rel pick rfl ((hR.rel _).trans rfl) ((hR.turns _).trans rfl) ?_ ?_
  · intro u hu
    have hk := hR.since hu.1
    have hks := hk.size
    unfold relAt
    go_simp
    refine (HSU.out u (HV7.out.kept hk (fun _ _ h => h)).byt_bs).mono ?_
    rintro e' w' ⟨VA, vd, UB, ud, rfl, h1, h2, hk'⟩
    exact ⟨_, rfl, hR.into0 hk', hR.put 4 rfl rfl ⟨VA, vd, UB, ud, rfl, h1.more hks, h2.more hks⟩⟩
  intro v hv
  obtain ⟨u, _, hu⟩ := hv
  obtain ⟨VA, vd, UB, ud, rfl, -⟩ := hR.get 4 rfl hu
  clear hu
  intro K hK
  go_big_quiet_op
  go_big_quiet_on
  repeat (first | (refine wpR_det hp2 rfl ((hR.rel _).trans rfl) rfl ?_; intro K hK; go_big_quiet_op; go_big_quiet_on) | (refine wpR_ptr hp2 rfl ((hR.rel _).trans rfl) rfl rfl ?_; intro K hK; go_big_quiet_op; go_big_quiet_on) | (refine wpR_skip pick rfl ?_; intro K hK; go_big_quiet_op; go_big_quiet_on))
  refine wpR_rel pick rfl ((hR.rel _).trans rfl) ((hR.turns _).trans rfl) ?_ ?_
  · intro u hu
    have hk := hR.since hu.1
    have hks := hk.size
    unfold relAt
    go_simp
    obtain ⟨VA', vd', UB', ud', ev, h1, h2⟩ := (hR.get 4 rfl (hu.2 _ _ (Got.upd_self _ _ _) (by kernel_rfl)))
    obtain ⟨e1, -⟩ := veq ev
    rw [e1] at h1
    refine (HBY.out VA vd UB ud u h1.byt_bs).mono ?_
    rintro e' w' ⟨v', rfl, hr, hk'⟩
    exact ⟨_, rfl, hR.into0 hk', hR.put 5 rfl rfl hr.byt⟩
  intro v hv
  obtain ⟨u, _, hu⟩ := hv
  obtain ⟨YA, yc, rfl, -⟩ := hR.get 5 rfl hu
  clear hu
  intro K hK
  go_big_quiet_op
  go_big_quiet_on
  repeat (first | (refine wpR_det hp2 rfl ((hR.rel _).trans rfl) rfl ?_; intro K hK; go_big_quiet_op; go_big_quiet_on) | (refine wpR_ptr hp2 rfl ((hR.rel _).trans rfl) rfl rfl ?_; intro K hK; go_big_quiet_op; go_big_quiet_on) | (refine wpR_skip pick rfl ?_; intro K hK; go_big_quiet_op; go_big_quiet_on))
  refine wpR_rel pick rfl ((hR.rel _).trans rfl) ((hR.turns _).trans rfl) ?_ ?_
  · intro u hu
    have hk := hR.since hu.1
    have hks := hk.size
    unfold relAt
    go_simp
    obtain ⟨A', c', e', -, -, h5⟩ := (hR.get 5 rfl (hu.2 _ _ (Got.upd_self _ _ _) (by kernel_rfl)))
    injection e' with ea en ec
    subst ea ec
    refine (carryT sp dp YA _ yc ((⟨dp, sp, 0, 0, 16, 0, 0, 0, ([1, 1, 8, 10] ++ (digs 4 vv ++ digs 4 0)), []⟩ : Sg).summed 0 0).bytes rfl HL6.out u h5).mono ?_
    rintro e' w' ⟨v', rfl, hr, hk'⟩
    exact ⟨_, rfl, hR.into0 hk', hR.put 6 rfl rfl ⟨_, rfl, hr.byt⟩⟩
  intro v hv
  obtain ⟨u, _, hu⟩ := hv
  obtain ⟨pv, rfl, -⟩ := hR.get 6 rfl hu
  clear hu
  intro K hK
  go_big_quiet_op
  go_big_quiet_on
  repeat (first | (refine wpR_det hp2 rfl ((hR.rel _).trans rfl) rfl ?_; intro K hK; go_big_quiet_op; go_big_quiet_on) | (refine wpR_ptr hp2 rfl ((hR.rel _).trans rfl) rfl rfl ?_; intro K hK; go_big_quiet_op; go_big_quiet_on) | (refine wpR_skip pick rfl ?_; intro K hK; go_big_quiet_op; go_big_quiet_on))
  refine wpR_nil ?_
  intro w8 hk2 hF hM
  obtain ⟨pv', e', hP⟩ := (hR.get 6 rfl (hF _ _ (Got.upd_self _ _ _)))
  obtain rfl : pv = pv' := by injection e' with e'; injection e' with e'; injection e' with e' _
  have HP8 := Lib.hid hP
  have HK8 := Lib.hid (HK7.out.then hk2 (fun _ _ h => h.elim))
  have HX8 := Lib.hid hk2
  clear hF hM hp1 hp2 hR hk2 hP e'
  go_wp2_with fail
  go_ret2
  exact ⟨_, rfl, HP8.out, HQ7.out.1.kept HX8.out (fun h => h), HQ7.out.2.1.kept HX8.out (fun h => h), HQ7.out.2.2.kept HX8.out (fun h => h), HK8.out⟩
end Go.Proofs.YtdnbhmfofphblaaGreatDoor
