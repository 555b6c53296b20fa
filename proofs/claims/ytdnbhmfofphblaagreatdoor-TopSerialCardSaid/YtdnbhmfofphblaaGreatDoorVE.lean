/- opened: lets a shim know a connection. -/
import Derived.Test.YtdnbhmfofphblaaGreatDoorVC
import Derived.Test.YtdnbhmfofphblaaGreatDoorVD
import Derived.Test.YtdnbhmfofphblaaGreatDoorTU
namespace Go.Proofs.YtdnbhmfofphblaaGreatDoor
open Go.RowKit
set_option maxRecDepth 100000
set_option linter.unusedVariables false
set_option linter.unusedSimpArgs false
theorem own20 {w : World} {tb : Nat} (h : Blk w tb 5 #[.int .u8 69, .int .u8 0, .int .u8 0, .int .u8 20, .int .u8 0, .int .u8 0, .int .u8 0, .int .u8 0, .int .u8 9, .int .u8 6, .int .u8 177, .int .u8 229, .int .u8 0, .int .u8 0, .int .u8 0, .int .u8 0, .int .u8 0, .int .u8 0, .int .u8 0, .int .u8 0]) : Own w 5 tb 20 b20 := Own.of_blk (l := b20) h (by decide)
set_option maxRecDepth 100000 in
set_option maxHeartbeats 2000000 in
theorem openedT (most bk ls le rp sp dp mk : Int) (m0 : 1 ≤ most) (sp0 : 0 ≤ sp) (sp1 : sp ≤ 65535) (dp0 : 0 ≤ dp) (dp1 : dp ≤ 65535) (mk0 : 0 ≤ mk) (mk1 : mk ≤ 65535) (sb cb mg mc : Nat) (w : World) (hS : Blk w sb 95 #[.pointer none, .int .i64 bk, .pointer (some ⟨cb, 0, none⟩), .int .u64 ls, .int .u64 le, .int .u64 rp]) (hC : Blk w cb 272 #[.int .i64 most, .map (some mg), .pointer none, .pointer none]) (hM : MapB w mg #[] mc) :
    Calls Tryz.prog 7 #[.pointer (some ⟨sb, 0, none⟩), .agg #[.bool false, .int .u64 0, .int .u64 0, .bool false, .int .u64 0, .int .u64 0, .int .u16 sp, .int .u16 dp, .int .u8 6], .int .u16 mk] w fun e' w' => ∃ eb, e' = .returned (.bool true) ∧ w.heap.size ≤ eb ∧ Blk w' cb 272 #[.int .i64 most, .map (some mg), .pointer (some ⟨eb, 0, none⟩), .pointer (some ⟨eb, 0, none⟩)] ∧ Blk w' eb 206 #[.bool false, .int .u64 0, .int .u64 0, .bool false, .int .u64 0, .int .u64 0, .int .u16 sp, .int .u16 dp, .int .u8 6, .int .u16 mk, .pointer none, .pointer none] ∧ MapB w' mg #[⟨.agg #[.bool false, .int .u64 0, .int .u64 0, .bool false, .int .u64 0, .int .u64 0, .int .u16 sp, .int .u16 dp, .int .u8 6], .pointer (some ⟨eb, 0, none⟩), mc⟩] (mc + 1) ∧ Kept (fun i => i = cb ∨ i = mg) w w' := by
  have HS0 := Lib.hid hS
  have HC0 := Lib.hid hC
  have HM0 := Lib.hid hM
  have hl12 : ([1, 1, 8, 10] ++ (digs 4 0 ++ digs 4 mk)).length = 12 := by simp [digs_length]
  have hckr := (⟨sp, dp, 0, 0, 2, 0, 0, 0, ([1, 1, 8, 10] ++ (digs 4 0 ++ digs 4 mk)), []⟩ : Sg).ck_range 0 0
  have hwf0 : (⟨sp, dp, 0, 0, 2, 0, 0, 0, ([1, 1, 8, 10] ++ (digs 4 0 ++ digs 4 mk)), []⟩ : Sg).wf := wf12 sp dp 2 0 ([1, 1, 8, 10] ++ (digs 4 0 ++ digs 4 mk)) sp0 sp1 dp0 dp1 (by omega) (by omega) (by omega) (by omega) hl12
  have hwf : (⟨sp, dp, 0, 0, 2, 0, ((⟨sp, dp, 0, 0, 2, 0, 0, 0, ([1, 1, 8, 10] ++ (digs 4 0 ++ digs 4 mk)), []⟩ : Sg).ck 0 0), 0, ([1, 1, 8, 10] ++ (digs 4 0 ++ digs 4 mk)), []⟩ : Sg).wf := wf12 sp dp 2 _ ([1, 1, 8, 10] ++ (digs 4 0 ++ digs 4 mk)) sp0 sp1 dp0 dp1 (by omega) (by omega) hckr.1 hckr.2 hl12
  have hsl : (⟨sp, dp, 0, 0, 2, 0, ((⟨sp, dp, 0, 0, 2, 0, 0, 0, ([1, 1, 8, 10] ++ (digs 4 0 ++ digs 4 mk)), []⟩ : Sg).ck 0 0), 0, ([1, 1, 8, 10] ++ (digs 4 0 ++ digs 4 mk)), []⟩ : Sg).bytes.length = 32 := by rw [Sg.bytes_len, Sg.size]; show 20 + (([1, 1, 8, 10] ++ (digs 4 0 ++ digs 4 mk))).length + 0 = 32; rw [hl12]
  have hpl : ((⟨0, 20, 0, false, false, 0, 9, 6, 45541, 0, 0, []⟩ : Hd).pkt (⟨sp, dp, 0, 0, 2, 0, ((⟨sp, dp, 0, 0, 2, 0, 0, 0, ([1, 1, 8, 10] ++ (digs 4 0 ++ digs 4 mk)), []⟩ : Sg).ck 0 0), 0, ([1, 1, 8, 10] ++ (digs 4 0 ++ digs 4 mk)), []⟩ : Sg).bytes).length = 52 := by rw [Hd.pkt_len, hsl]; rfl
  obtain ⟨pk1, pk2, ⟨pk0, pk3⟩, -, pk5⟩ := pk_facts 20 45541 false 9 6 (by decide) (by decide) (by decide) (by decide) (by decide) (by decide) (by decide) (by decide) (⟨sp, dp, 0, 0, 2, 0, ((⟨sp, dp, 0, 0, 2, 0, 0, 0, ([1, 1, 8, 10] ++ (digs 4 0 ++ digs 4 mk)), []⟩ : Sg).ck 0 0), 0, ([1, 1, 8, 10] ++ (digs 4 0 ++ digs 4 mk)), []⟩ : Sg).bytes (by omega)
  have hst : (phd ((⟨0, 20, 0, false, false, 0, 9, 6, 45541, 0, 0, []⟩ : Hd).pkt (⟨sp, dp, 0, 0, 2, 0, ((⟨sp, dp, 0, 0, 2, 0, 0, 0, ([1, 1, 8, 10] ++ (digs 4 0 ++ digs 4 mk)), []⟩ : Sg).ck 0 0), 0, ([1, 1, 8, 10] ++ (digs 4 0 ++ digs 4 mk)), []⟩ : Sg).bytes)).stay = false := by rw [pk3]
  have HSU := Lib.hid (fun VA vc u (h : BS u u.heap.size VA ([1, 1, 8, 10] ++ (digs 4 0 ++ digs 4 mk))) => summedT sp dp 0 0 2 0 0 0 VA 12 vc none 0 0 ([1, 1, 8, 10] ++ (digs 4 0 ++ digs 4 mk)) [] hl12 rfl (by omega) (by omega) (by omega) hwf0 0 0 (by omega) (by omega) (by omega) (by omega) u h .nil)
  have HWT := Lib.hid (fun tb VA vc UA uc u hb h => withTCP20 (some ⟨tb, 0, none⟩) 20 (by decide) sp dp 0 0 2 0 ((⟨sp, dp, 0, 0, 2, 0, 0, 0, ([1, 1, 8, 10] ++ (digs 4 0 ++ digs 4 mk)), []⟩ : Sg).ck 0 0) 0 VA 12 vc UA 0 uc ([1, 1, 8, 10] ++ (digs 4 0 ++ digs 4 mk)) [] hl12 rfl (by omega) (by omega) (by omega) hwf u hb h .nil)
  have HWR := Lib.hid (fun PA pc h1 u h => (show Calls Tryz.prog 26 #[.agg #[.bool false, .int .u64 0, .int .u64 0, .bool false, .int .u64 0, .int .u64 0, .int .u8 9], .slice PA 52 pc] u fun e w' => ∃ v, e = .returned (.tuple #[v, .int .i64 0]) ∧ Row w' u.heap.size 5 v (bcs ((⟨0, 0, 0, false, false, 0, 9, 4, 0, 0, 0, []⟩ : Hd).pkt ((⟨0, 20, 0, false, false, 0, 9, 6, 45541, 0, 0, []⟩ : Hd).pkt (⟨sp, dp, 0, 0, 2, 0, ((⟨sp, dp, 0, 0, 2, 0, 0, 0, ([1, 1, 8, 10] ++ (digs 4 0 ++ digs 4 mk)), []⟩ : Sg).ck 0 0), 0, ([1, 1, 8, 10] ++ (digs 4 0 ++ digs 4 mk)), []⟩ : Sg).bytes))) ∧ Kept (fun _ => False) u w' from by have hq := wrapT 9 (by decide) (by decide) PA 52 pc ((⟨0, 20, 0, false, false, 0, 9, 6, 45541, 0, 0, []⟩ : Hd).pkt (⟨sp, dp, 0, 0, 2, 0, ((⟨sp, dp, 0, 0, 2, 0, 0, 0, ([1, 1, 8, 10] ++ (digs 4 0 ++ digs 4 mk)), []⟩ : Sg).ck 0 0), 0, ([1, 1, 8, 10] ++ (digs 4 0 ++ digs 4 mk)), []⟩ : Sg).bytes) hpl (by omega) (by omega) h1 pk5 pk1 u h; rw [hst] at hq; exact hq))
  have es0 : (⟨sp, dp, 0, 0, 2, 0, 0, 0, ([1, 1, 8, 10] ++ (digs 4 0 ++ digs 4 mk)), []⟩ : Sg).size = 32 := by rw [Sg.size]; show 20 + (([1, 1, 8, 10] ++ (digs 4 0 ++ digs 4 mk))).length + 0 = 32; rw [hl12]
  have es2 : (⟨sp, dp, 0, 0, 2, 0, ((⟨sp, dp, 0, 0, 2, 0, 0, 0, ([1, 1, 8, 10] ++ (digs 4 0 ++ digs 4 mk)), []⟩ : Sg).ck 0 0), 0, ([1, 1, 8, 10] ++ (digs 4 0 ++ digs 4 mk)), []⟩ : Sg).size = 32 := by rw [Sg.size]; show 20 + (([1, 1, 8, 10] ++ (digs 4 0 ++ digs 4 mk))).length + 0 = 32; rw [hl12]
  have ez : (⟨sp, dp, 0, 0, 2, 0, 0, 0, ([1, 1, 8, 10] ++ (digs 4 0 ++ digs 4 mk)), []⟩ : Sg).summed 0 0 = (⟨sp, dp, 0, 0, 2, 0, ((⟨sp, dp, 0, 0, 2, 0, 0, 0, ([1, 1, 8, 10] ++ (digs 4 0 ++ digs 4 mk)), []⟩ : Sg).ck 0 0), 0, ([1, 1, 8, 10] ++ (digs 4 0 ++ digs 4 mk)), []⟩ : Sg) := rfl
  have hz := (⟨sp, dp, 0, 0, 2, 0, 0, 0, ([1, 1, 8, 10] ++ (digs 4 0 ++ digs 4 mk)), []⟩ : Sg).fine 0 0
  rw [ez, es0] at hz
  have hz2 : 65535 - norm (total true (pseudo 0 0 6 (((⟨sp, dp, 0, 0, 2, 0, ((⟨sp, dp, 0, 0, 2, 0, 0, 0, ([1, 1, 8, 10] ++ (digs 4 0 ++ digs 4 mk)), []⟩ : Sg).ck 0 0), 0, ([1, 1, 8, 10] ++ (digs 4 0 ++ digs 4 mk)), []⟩ : Sg).size : Nat) : Int) ++ (⟨sp, dp, 0, 0, 2, 0, ((⟨sp, dp, 0, 0, 2, 0, 0, 0, ([1, 1, 8, 10] ++ (digs 4 0 ++ digs 4 mk)), []⟩ : Sg).ck 0 0), 0, ([1, 1, 8, 10] ++ (digs 4 0 ++ digs 4 mk)), []⟩ : Sg).bytes)) = 0 := by rw [es2]; exact hz
  clear es0 es2 ez hz
  have HAR := Lib.hid (fun DA dc h1 u h2 h3 h4 h5 => arriveT most bk ls le rp sp dp 0 0 0 ((⟨sp, dp, 0, 0, 2, 0, 0, 0, ([1, 1, 8, 10] ++ (digs 4 0 ++ digs 4 mk)), []⟩ : Sg).ck 0 0) 0 0 mk (by omega) (by omega) mk0 mk1 0 m0 hwf hz2 sb cb mg mc DA dc h1 u h2 h3 h4 h5)
  have HPL := Lib.hid hpl
  have HOL := Lib.hid (show ((⟨0, 0, 0, false, false, 0, 9, 4, 0, 0, 0, []⟩ : Hd).pkt ((⟨0, 20, 0, false, false, 0, 9, 6, 45541, 0, 0, []⟩ : Hd).pkt (⟨sp, dp, 0, 0, 2, 0, ((⟨sp, dp, 0, 0, 2, 0, 0, 0, ([1, 1, 8, 10] ++ (digs 4 0 ++ digs 4 mk)), []⟩ : Sg).ck 0 0), 0, ([1, 1, 8, 10] ++ (digs 4 0 ++ digs 4 mk)), []⟩ : Sg).bytes)).length = 72 by rw [Hd.pkt_len, hpl]; rfl)
  clear hz2 hS hC hM hl12 hckr hwf0 hwf hsl hpl pk1 pk2 pk3 pk5 hst
  go_enter Tryz.func7, Tryz.ntmps7
  go_upto_region 1 with fail
  obtain ⟨w1, hw1⟩ : ∃ w1 : World, w1 = (w.alloc (.cells #[.bool false, .int .u64 0, .int .u64 0, .bool false, .int .u64 0, .int .u64 0, .int .u16 sp, .int .u16 dp, .int .u8 6] 28)) := ⟨_, rfl⟩
  have HFB1 := Lib.hid (show Blk w1 w.heap.size 28 #[.bool false, .int .u64 0, .int .u64 0, .bool false, .int .u64 0, .int .u64 0, .int .u16 sp, .int .u16 dp, .int .u8 6] by rw [hw1]; exact Blk.new _ _ _)
  have HK1 := Lib.hid (show Kept (fun _ => False) w w1 by rw [hw1]; exact (Kept.refl _ _).alloc _)
  rw [← hw1]
  clear hw1
  obtain ⟨fb, hfb⟩ : ∃ fb, w.heap.size = fb := ⟨_, rfl⟩
  rw [hfb] at HFB1
  (try rw [hfb])
  have HNE := Lib.hid (show fb = w.heap.size + 0 ∧ True from ⟨by omega, trivial⟩)
  clear hfb
  have cFB := HFB1.out.cell
  have lFB := HFB1.out.lt
  have fFB := HFB1.out.frozen
  go_wp2_with fail
  obtain ⟨w2, hw2⟩ : ∃ w2 : World, w2 = w1.alloc (.cells #[.int .u8 1, .int .u8 1, .int .u8 8, .int .u8 10, .int .u8 0, .int .u8 0, .int .u8 0, .int .u8 0, .int .u8 0, .int .u8 0, .int .u8 0, .int .u8 0] 5) := ⟨_, rfl⟩
  have HOB2 := Lib.hid (show Blk w2 w1.heap.size 5 #[.int .u8 1, .int .u8 1, .int .u8 8, .int .u8 10, .int .u8 0, .int .u8 0, .int .u8 0, .int .u8 0, .int .u8 0, .int .u8 0, .int .u8 0, .int .u8 0] by rw [hw2]; exact Blk.new _ _ _)
  have HX2 := Lib.hid (show Kept (fun _ => False) w1 w2 by rw [hw2]; exact (Kept.refl _ _).alloc _)
  rw [← hw2]
  clear hw2
  refine (refWith sp dp mk mk0 mk1 w1.heap.size w2 HOB2.out).mono ?_
  rintro e w3 ⟨VA, vc, r, rfl, hv, hk⟩
  have HV3 := Lib.hid hv
  have HK3 := Lib.hid ((HK1.out.trans HX2.out).trans hk)
  have HFB3 := Lib.hid (HFB1.out.kept (HX2.out.trans hk) (fun h => h))
  clear hv hk cFB lFB fFB
  go_upto_region 2 with (show wpList _ _ _ ((⟨none, .store 96 (.tmp 7) _, _, _, _, none⟩ : Oper) :: _) _ _; refine wpList_store_mid rfl 96 (.tmp 7) _ rfl w3.heap.size 0 #[.int .u16 sp, .int .u16 dp, .int .u32 0, .int .u32 0, .int .u8 2, .int .u16 0, .int .u16 r, .int .u16 0, .slice VA 12 vc, .slice none 0 0] rfl rfl ((Blk.new w3 96 #[.int .u16 0, .int .u16 0, .int .u32 0, .int .u32 0, .int .u8 0, .int .u16 0, .int .u16 0, .int .u16 0, .slice none 0 0, .slice none 0 0]).there rfl) (by kernel_rfl) (by simp [Value.oneCell']) ?_)
  generalize hwq : (World.setCells _ _ _ _) = w4
  have HX4 := Lib.hid (show Kept (fun _ => False) w3 w4 by rw [← hwq]; exact ((Kept.refl _ _).alloc _).then (Kept.setCells (S := fun i => i = w3.heap.size) rfl _ _ (Kept.refl _ _)) (fun i hi e => by omega))
  have HYB4 := Lib.hid (show Blk w4 w3.heap.size 96 #[.int .u16 sp, .int .u16 dp, .int .u32 0, .int .u32 0, .int .u8 2, .int .u16 0, .int .u16 r, .int .u16 0, .slice VA 12 vc, .slice none 0 0] by rw [← hwq]; exact (Blk.new w3 96 #[.int .u16 0, .int .u16 0, .int .u32 0, .int .u32 0, .int .u8 0, .int .u16 0, .int .u16 0, .int .u16 0, .slice none 0 0, .slice none 0 0]).setAll #[.int .u16 sp, .int .u16 dp, .int .u32 0, .int .u32 0, .int .u8 2, .int .u16 0, .int .u16 r, .int .u16 0, .slice VA 12 vc, .slice none 0 0] rfl)
  have HK4 := Lib.hid (HK3.out.trans HX4.out)
  have HFB4 := Lib.hid (HFB3.out.kept HX4.out (fun h => h))
  have HV4 := Lib.hid (HV3.out.on0 HX4.out)
  clear hwq
  obtain ⟨yb, hyb⟩ : ∃ yb, w3.heap.size = yb := ⟨_, rfl⟩
  rw [hyb] at HYB4 ⊢
  clear hyb
  have cY := HYB4.out.cell
  have lY := HYB4.out.lt
  have fY := HYB4.out.frozen
  go_wp2_with (first | (show wpList _ _ _ ((⟨_, .load 26 (.tmp 32), _, _, _, none⟩ : Oper) :: _) _ _; refine wpList_load_mid rfl 26 (.tmp 32) rfl fb 0 rfl [.bool false, .int .u64 0, .int .u64 0] _ ((HFB4.out.alloc _).rangeMid 0 3 _ rfl) Tryz.underlying26 rfl (by kernel_rfl) ?_) | (show wpList _ _ _ ((⟨_, .load 26 (.tmp 34), _, _, _, none⟩ : Oper) :: _) _ _; refine wpList_load_mid rfl 26 (.tmp 34) rfl fb 3 rfl [.bool false, .int .u64 0, .int .u64 0] _ ((HFB4.out.alloc _).rangeMid 3 3 _ rfl) Tryz.underlying26 rfl (by kernel_rfl) ?_))
  obtain ⟨w5, hw5⟩ : ∃ w5 : World, w5 = w4.alloc (.cells #[.int .u8 69, .int .u8 0, .int .u8 0, .int .u8 20, .int .u8 0, .int .u8 0, .int .u8 0, .int .u8 0, .int .u8 9, .int .u8 6, .int .u8 177, .int .u8 229, .int .u8 0, .int .u8 0, .int .u8 0, .int .u8 0, .int .u8 0, .int .u8 0, .int .u8 0, .int .u8 0] 5) := ⟨_, rfl⟩
  have HTB5 := Lib.hid (show Blk w5 w4.heap.size 5 #[.int .u8 69, .int .u8 0, .int .u8 0, .int .u8 20, .int .u8 0, .int .u8 0, .int .u8 0, .int .u8 0, .int .u8 9, .int .u8 6, .int .u8 177, .int .u8 229, .int .u8 0, .int .u8 0, .int .u8 0, .int .u8 0, .int .u8 0, .int .u8 0, .int .u8 0, .int .u8 0] by rw [hw5]; exact Blk.new _ _ _)
  have HX5 := Lib.hid (show Kept (fun _ => False) w4 w5 by rw [hw5]; exact (Kept.refl _ _).alloc _)
  have HK5 := Lib.hid (HK4.out.trans HX5.out)
  have HV5 := Lib.hid (HV4.out.on0 HX5.out)
  rw [← hw5]
  clear hw5 cY lY fY
  obtain ⟨tb, htb⟩ : ∃ tb, w4.heap.size = tb := ⟨_, rfl⟩
  rw [htb] at HTB5 ⊢
  clear htb
  have HVB := Lib.hid (show BS w5 w5.heap.size VA ([1, 1, 8, 10] ++ (digs 4 0 ++ digs 4 mk)) by obtain ⟨A', c', e', -, -, h⟩ := HV5.out; injection e' with ea _ _; subst ea; exact h)
  refine (HSU.out VA vc w5 HVB.out).mono ?_
  rintro e w6 ⟨VB, vd, UB, ud, rfl, hv, -, hk⟩
  have HV6 := Lib.hid hv
  have HTB6 := Lib.hid (HTB5.out.kept hk (fun h => h))
  have HK6 := Lib.hid (HK5.out.trans hk)
  clear hv hk HSU
  go_wp2_with fail
  refine (HWT.out tb VB vd UB ud w6 (own20 HTB6.out).bs HV6.out.byt_bs).mono ?_
  rintro e w7 ⟨pv, rfl, hp, hk⟩
  obtain ⟨PA, pc, hpe, h1, h2, h3⟩ := hp
  rw [HPL.out] at hpe h1
  subst hpe
  have HPB := Lib.hid (And.intro (And.intro h1 h2) h3)
  have HK7 := Lib.hid (HK6.out.trans hk)
  clear h1 h2 h3 hk HWT
  go_wp2_with fail
  refine (HWR.out PA pc HPB.out.1 w7 HPB.out.2).mono ?_
  rintro e w8 ⟨cv, rfl, hc, hk⟩
  obtain ⟨CA, dc, hce, h1, h2⟩ := hc.shape
  rw [bcs_length, HOL.out] at hce h1
  subst hce
  have HCB := Lib.hid (And.intro h1 h2)
  have HCV := Lib.hid hc
  have HK8 := Lib.hid (HK7.out.trans hk)
  clear h1 h2 hc hk HWR
  go_wp2_with fail
  refine (HAR.out CA dc HCB.out w8 (HS0.out.kept HK8.out (fun h => h)) (HC0.out.kept HK8.out (fun h => h)) (HM0.out.kept HK8.out (fun h => h)) HCV.out.byt_bs).mono ?_
  rintro e w9 ⟨DA, dn, dd, eb, rfl, q1, q2, q3, q4, hk⟩
  have HQ := Lib.hid (And.intro q1 (And.intro q2 (And.intro q3 q4)))
  have HK9 := Lib.hid (show Kept (fun i => i = cb ∨ i = mg) w w9 from (HK8.out.mono (fun _ _ h => h.elim)).trans hk)
  have HZ := Lib.hid HK8.out.size
  clear q1 q2 q3 q4 hk HAR
  go_upto_region 5 with (show wpList _ _ _ ((⟨none, .store 104 (.tmp 12) _, _, _, _, none⟩ : Oper) :: _) _ _; refine wpList_store_mid rfl 104 (.tmp 12) _ rfl w9.heap.size 0 #[.bool false, .int .u64 0, .int .u64 0, .bool false, .int .u64 0, .int .u64 0, .int .u16 sp, .int .u16 dp, .int .u8 6, .slice DA dn dd] rfl rfl ((Blk.new w9 104 #[.bool false, .int .u64 0, .int .u64 0, .bool false, .int .u64 0, .int .u64 0, .int .u16 0, .int .u16 0, .int .u8 0, .slice none 0 0]).there rfl) (by kernel_rfl) (by simp [Value.oneCell']) ?_)
  generalize hwq : (World.setCells _ _ _ _) = wa
  have HXA := Lib.hid (show Kept (fun _ => False) w9 wa by rw [← hwq]; exact ((Kept.refl _ _).alloc _).then (Kept.setCells (S := fun i => i = w9.heap.size) rfl _ _ (Kept.refl _ _)) (fun i hi e => by omega))
  clear hwq
  go_wp2_with fail
  go_ret
  obtain ⟨q1, q2, q3, q4⟩ := HQ.out
  exact ⟨eb, rfl, Nat.le_trans HZ.out q1, q2.kept HXA.out (fun h => h), q3.kept HXA.out (fun h => h), q4.kept HXA.out (fun h => h), HK9.out.then HXA.out (fun _ _ h => h.elim)⟩
end Go.Proofs.YtdnbhmfofphblaaGreatDoor
