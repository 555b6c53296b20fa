/- shim.Arrive of a tunneled segment that opens a connection. -/
import Derived.Test.YtdnbhmfofphblaaGreatDoorVB
namespace Go.Proofs.YtdnbhmfofphblaaGreatDoor
open Go.RowKit
set_option maxRecDepth 100000
set_option linter.unusedVariables false
set_option linter.unusedSimpArgs false
set_option maxRecDepth 100000 in
set_option maxHeartbeats 2000000 in
theorem arriveT (most bk ls le rp sp dp seq ack wi sm ur : Int) (a e : Int) (a0 : 0 ≤ a) (a1 : a ≤ 4294967295) (e0 : 0 ≤ e) (e1 : e ≤ 65535) (now : Int) (m0 : 1 ≤ most) (hw : (⟨sp, dp, seq, ack, 2, wi, sm, ur, ([1, 1, 8, 10] ++ (digs 4 a ++ digs 4 e)), []⟩ : Sg).wf) (hz : 65535 - norm (total true (pseudo 0 0 6 (((⟨sp, dp, seq, ack, 2, wi, sm, ur, ([1, 1, 8, 10] ++ (digs 4 a ++ digs 4 e)), []⟩ : Sg).size : Nat) : Int) ++ (⟨sp, dp, seq, ack, 2, wi, sm, ur, ([1, 1, 8, 10] ++ (digs 4 a ++ digs 4 e)), []⟩ : Sg).bytes)) = 0)
    (sb cb mg mc : Nat) (BA : Option Addr) (bc : Nat) (hbc : 72 ≤ bc ∧ bc ≤ maxLen) (w : World) (hS : Blk w sb 95 #[.pointer none, .int .i64 bk, .pointer (some ⟨cb, 0, none⟩), .int .u64 ls, .int .u64 le, .int .u64 rp]) (hC : Blk w cb 272 #[.int .i64 most, .map (some mg), .pointer none, .pointer none]) (hM : MapB w mg #[] mc) (hB : BS w w.heap.size BA ((⟨0, 0, 0, false, false, 0, 9, 4, 0, 0, 0, []⟩ : Hd).pkt ((⟨0, 20, 0, false, false, 0, 9, 6, 45541, 0, 0, []⟩ : Hd).pkt (⟨sp, dp, seq, ack, 2, wi, sm, ur, ([1, 1, 8, 10] ++ (digs 4 a ++ digs 4 e)), []⟩ : Sg).bytes))) :
    Calls Tryz.prog 27 #[.pointer (some ⟨sb, 0, none⟩), .slice BA 72 bc, .int .u32 now] w fun e' w' => ∃ DA dn dc eb, e' = .returned (.tuple #[.agg #[.bool false, .int .u64 0, .int .u64 0, .bool false, .int .u64 0, .int .u64 0, .int .u16 sp, .int .u16 dp, .int .u8 6, .slice DA dn dc], .int .i64 0]) ∧ w.heap.size ≤ eb ∧ Blk w' cb 272 #[.int .i64 most, .map (some mg), .pointer (some ⟨eb, 0, none⟩), .pointer (some ⟨eb, 0, none⟩)] ∧ Blk w' eb 206 #[.bool false, .int .u64 0, .int .u64 0, .bool false, .int .u64 0, .int .u64 0, .int .u16 sp, .int .u16 dp, .int .u8 6, .int .u16 e, .pointer none, .pointer none] ∧ MapB w' mg #[⟨.agg #[.bool false, .int .u64 0, .int .u64 0, .bool false, .int .u64 0, .int .u64 0, .int .u16 sp, .int .u16 dp, .int .u8 6], .pointer (some ⟨eb, 0, none⟩), mc⟩] (mc + 1) ∧ Kept (fun i => i = cb ∨ i = mg) w w' := by
  have hl12 : ([1, 1, 8, 10] ++ (digs 4 a ++ digs 4 e)).length = 12 := by simp [digs_length]
  have hsz : (⟨sp, dp, seq, ack, 2, wi, sm, ur, ([1, 1, 8, 10] ++ (digs 4 a ++ digs 4 e)), []⟩ : Sg).bytes.length = 32 := by rw [Sg.bytes_len, Sg.size]; show 20 + (([1, 1, 8, 10] ++ (digs 4 a ++ digs 4 e))).length + 0 = 32; rw [hl12]
  have hl2 : ((⟨0, 20, 0, false, false, 0, 9, 6, 45541, 0, 0, []⟩ : Hd).pkt (⟨sp, dp, seq, ack, 2, wi, sm, ur, ([1, 1, 8, 10] ++ (digs 4 a ++ digs 4 e)), []⟩ : Sg).bytes).length = 52 := by rw [Hd.pkt_len, hsz]; rfl
  have hl3 : ((⟨0, 0, 0, false, false, 0, 9, 4, 0, 0, 0, []⟩ : Hd).pkt ((⟨0, 20, 0, false, false, 0, 9, 6, 45541, 0, 0, []⟩ : Hd).pkt (⟨sp, dp, seq, ack, 2, wi, sm, ur, ([1, 1, 8, 10] ++ (digs 4 a ++ digs 4 e)), []⟩ : Sg).bytes)).length = 72 := by rw [Hd.pkt_len, hl2]; rfl
  obtain ⟨pk1, pk2, -, -, pk5⟩ := pk_facts 20 45541 false 9 6 (by decide) (by decide) (by decide) (by decide) (by decide) (by decide) (by decide) (by decide) (⟨sp, dp, seq, ack, 2, wi, sm, ur, ([1, 1, 8, 10] ++ (digs 4 a ++ digs 4 e)), []⟩ : Sg).bytes (by omega)
  have HUN := Lib.hid (fun W h => unwrapPk ((⟨0, 20, 0, false, false, 0, 9, 6, 45541, 0, 0, []⟩ : Hd).pkt (⟨sp, dp, seq, ack, 2, wi, sm, ur, ([1, 1, 8, 10] ++ (digs 4 a ++ digs 4 e)), []⟩ : Sg).bytes) 52 hl2 (by omega) (by omega) pk5 BA 72 bc hl3 hbc W h)
  have HHO := Lib.hid (fun XA xc h1 W h2 => hostPk 20 45541 (by decide) (by decide) (by decide) (by decide) false 9 (by decide) (by decide) sp dp seq ack 2 wi sm ur ([1, 1, 8, 10] ++ (digs 4 a ++ digs 4 e)) [] 12 0 hl12 rfl (by omega) (by omega) (by omega) (by omega) hw hz XA 52 xc hl2 h1 W h2)
  have HL2 := Lib.hid hl2
  have HW := Lib.hid hw
  have HB0 := Lib.hid hB
  have HS0 := Lib.hid hS
  have HC0 := Lib.hid hC
  have HM0 := Lib.hid hM
  have HSC := Lib.hid (show sb ≠ cb from hS.ne_ hC (by decide))
  have HCW := Lib.hid (And.intro hS.lt (And.intro hC.lt hM.lt))
  have sp0 := hw.sp0
  have sp1 := hw.sp1
  have dp0 := hw.dp0
  have dp1 := hw.dp1
  have k0 := hw.sum0
  have k1 := hw.sum1
  simp only at sp0 sp1 dp0 dp1 k0 k1
  clear hS hC hM hB hbc hl12 hsz hl2 hl3 pk1 pk2 pk5 hw hz
  go_enter Tryz.func27, Tryz.ntmps27
  go_upto_region 1 with fail
  obtain ⟨w1, hw1⟩ : ∃ w1 : World, w1 = (w.alloc (.cells #[.bool false, .int .u64 0, .int .u64 0, .bool false, .int .u64 0, .int .u64 0, .int .u16 0, .int .u16 0, .int .u8 0, .slice none 0 0] 104)) := ⟨_, rfl⟩
  have HRB1 := Lib.hid (show Blk w1 w.heap.size 104 #[.bool false, .int .u64 0, .int .u64 0, .bool false, .int .u64 0, .int .u64 0, .int .u16 0, .int .u16 0, .int .u8 0, .slice none 0 0] by rw [hw1]; exact Blk.new _ _ _)
  have HK1 := Lib.hid (show Kept (fun _ => False) w w1 by rw [hw1]; exact (Kept.refl _ _).alloc _)
  rw [← hw1]
  clear hw1
  obtain ⟨rb, hrb⟩ : ∃ rb, w.heap.size = rb := ⟨_, rfl⟩
  rw [hrb] at HRB1
  (try rw [hrb])
  have HNE := Lib.hid (show rb = w.heap.size + 0 ∧ True from ⟨by omega, trivial⟩)
  clear hrb
  have cRB := HRB1.out.cell
  have lRB := HRB1.out.lt
  have fRB := HRB1.out.frozen
  clear cRB lRB fRB
  go_wp2_with fail
  refine (madeT bk ls le rp sb cb w1 (HS0.out.kept HK1.out (fun h => h))).mono ?_
  rintro e' w' ⟨rfl, rfl⟩
  go_wp2_with fail
  refine (HUN.out w1 (HB0.out.on HK1.out (fun _ _ h => h))).mono ?_
  rintro e' w2 ⟨XA, xc, rfl, hx, hk⟩
  have HXW2 := Lib.hid hx
  have HXC := Lib.hid (show 52 ≤ xc ∧ xc ≤ maxLen by obtain ⟨_, c', e', h1, h2⟩ := hx.shape; injection e' with _ _ ec; subst ec; rw [bcs_length, HL2.out] at h1; exact ⟨h1, h2⟩)
  have HK2 := Lib.hid (HK1.out.trans hk)
  have HRB2 := Lib.hid (HRB1.out.kept hk (fun h => h))
  clear hx hk HUN
  go_upto_region 4 with (show wpList _ _ _ ((⟨none, .store 101 (.tmp 9) _, _, _, _, none⟩ : Oper) :: _) _ _; refine wpList_store_mid rfl 101 (.tmp 9) _ rfl w2.heap.size 0 #[.bool false, .int .u64 0, .int .u64 0, .bool false, .int .u64 0, .int .u64 0, .int .u8 9] rfl rfl ((Blk.new w2 101 #[.bool false, .int .u64 0, .int .u64 0, .bool false, .int .u64 0, .int .u64 0, .int .u8 0]).there rfl) (by kernel_rfl) (by simp [Value.oneCell']) ?_)
  generalize hwq : (World.setCells _ _ _ _) = w3
  have HX3 := Lib.hid (show Kept (fun _ => False) w2 w3 by rw [← hwq]; exact ((Kept.refl _ _).alloc _).then (Kept.setCells (S := fun i => i = w2.heap.size) rfl _ _ (Kept.refl _ _)) (fun i hi e => by omega))
  have T1 : Blk (w2.alloc (.cells #[.bool false, .int .u64 0, .int .u64 0, .bool false, .int .u64 0, .int .u64 0, .int .u8 0] 101)) w2.heap.size 101 #[.bool false, .int .u64 0, .int .u64 0, .bool false, .int .u64 0, .int .u64 0, .int .u8 0] := Blk.new w2 101 #[.bool false, .int .u64 0, .int .u64 0, .bool false, .int .u64 0, .int .u64 0, .int .u8 0]
  have T2 : Blk (World.setCells (w2.alloc (.cells #[.bool false, .int .u64 0, .int .u64 0, .bool false, .int .u64 0, .int .u64 0, .int .u8 0] 101)) w2.heap.size 0 [.bool false, .int .u64 0, .int .u64 0, .bool false, .int .u64 0, .int .u64 0, .int .u8 9]) w2.heap.size 101 #[.bool false, .int .u64 0, .int .u64 0, .bool false, .int .u64 0, .int .u64 0, .int .u8 9] := T1.setMid 0 _ _ (by simp) rfl
  have HTB3 := Lib.hid (show Blk w3 w2.heap.size 101 #[.bool false, .int .u64 0, .int .u64 0, .bool false, .int .u64 0, .int .u64 0, .int .u8 9] by rw [← hwq]; exact T2)
  have HK3 := Lib.hid (HK2.out.trans HX3.out)
  have HXW3 := Lib.hid (Row.kept HXW2.out HX3.out (fun _ _ h => h))
  have HRB3 := Lib.hid (HRB2.out.kept HX3.out (fun h => h))
  obtain ⟨tb, htb⟩ : ∃ tb, w2.heap.size = tb := ⟨_, rfl⟩
  have HGTB := Lib.hid (show w.heap.size ≤ tb by have := HK2.out.size; omega)
  rw [htb] at HTB3 ⊢
  clear hwq T1 T2
  clear htb
  go_wp2_with fail
  refine (HHO.out XA xc HXC.out w3 HXW3.out.byt_bs).mono ?_
  rintro e' w4 ⟨VA, vc, UA, uc, rfl, hv, -, hk⟩
  have HVW4 := Lib.hid hv
  have HVC := Lib.hid (show 12 ≤ vc ∧ vc ≤ maxLen by obtain ⟨_, c', e', h1, h2⟩ := hv.shape; injection e' with _ _ ec; subst ec; rw [bcs_length] at h1; simp [digs_length] at h1; exact ⟨h1, h2⟩)
  have HVB := Lib.hid (show cb < w3.heap.size ∧ mg < w3.heap.size by have := HK3.out.size; have := HCW.out; omega)
  have HK4 := Lib.hid (HK3.out.trans hk)
  have HRB4 := Lib.hid (HRB3.out.kept hk (fun h => h))
  clear hv hk HHO
  go_upto_region 9 with (show wpList _ _ _ ((⟨none, .store 54 (.tmp 11) _, _, _, _, none⟩ : Oper) :: _) _ _; refine wpList_store_mid rfl 54 (.tmp 11) _ rfl w4.heap.size 0 #[.bool false, .bool false, .int .u8 9, .bool false, .int .u64 0, .int .u64 0, .bool false, .int .u64 0, .int .u64 0, .int .u16 sp, .int .u16 dp, .int .u8 6, .int .u16 sp, .int .u16 dp, .int .u32 seq, .int .u32 ack, .int .u8 2, .int .u16 wi, .int .u16 sm, .int .u16 ur, .slice VA 12 vc, .slice UA 0 uc, .int .u16 0, .int .u16 0, .int .u16 0, .slice none 0 0, .int .u8 0, .int .u8 0, .int .u16 0, .int .u32 0, .slice none 0 0] rfl rfl ((Blk.new w4 54 #[.bool false, .bool false, .int .u8 0, .bool false, .int .u64 0, .int .u64 0, .bool false, .int .u64 0, .int .u64 0, .int .u16 0, .int .u16 0, .int .u8 0, .int .u16 0, .int .u16 0, .int .u32 0, .int .u32 0, .int .u8 0, .int .u16 0, .int .u16 0, .int .u16 0, .slice none 0 0, .slice none 0 0, .int .u16 0, .int .u16 0, .int .u16 0, .slice none 0 0, .int .u8 0, .int .u8 0, .int .u16 0, .int .u32 0, .slice none 0 0]).there rfl) (by kernel_rfl) (by simp [Value.oneCell']) ?_)
  generalize hwq : (World.setCells _ _ _ _) = w5
  have HX5 := Lib.hid (show Kept (fun _ => False) w4 w5 by rw [← hwq]; exact ((Kept.refl _ _).alloc _).then (Kept.setCells (S := fun i => i = w4.heap.size) rfl _ _ (Kept.refl _ _)) (fun i hi e => by omega))
  have T1 : Blk (w4.alloc (.cells #[.bool false, .bool false, .int .u8 0, .bool false, .int .u64 0, .int .u64 0, .bool false, .int .u64 0, .int .u64 0, .int .u16 0, .int .u16 0, .int .u8 0, .int .u16 0, .int .u16 0, .int .u32 0, .int .u32 0, .int .u8 0, .int .u16 0, .int .u16 0, .int .u16 0, .slice none 0 0, .slice none 0 0, .int .u16 0, .int .u16 0, .int .u16 0, .slice none 0 0, .int .u8 0, .int .u8 0, .int .u16 0, .int .u32 0, .slice none 0 0] 54)) w4.heap.size 54 #[.bool false, .bool false, .int .u8 0, .bool false, .int .u64 0, .int .u64 0, .bool false, .int .u64 0, .int .u64 0, .int .u16 0, .int .u16 0, .int .u8 0, .int .u16 0, .int .u16 0, .int .u32 0, .int .u32 0, .int .u8 0, .int .u16 0, .int .u16 0, .int .u16 0, .slice none 0 0, .slice none 0 0, .int .u16 0, .int .u16 0, .int .u16 0, .slice none 0 0, .int .u8 0, .int .u8 0, .int .u16 0, .int .u32 0, .slice none 0 0] := Blk.new w4 54 #[.bool false, .bool false, .int .u8 0, .bool false, .int .u64 0, .int .u64 0, .bool false, .int .u64 0, .int .u64 0, .int .u16 0, .int .u16 0, .int .u8 0, .int .u16 0, .int .u16 0, .int .u32 0, .int .u32 0, .int .u8 0, .int .u16 0, .int .u16 0, .int .u16 0, .slice none 0 0, .slice none 0 0, .int .u16 0, .int .u16 0, .int .u16 0, .slice none 0 0, .int .u8 0, .int .u8 0, .int .u16 0, .int .u32 0, .slice none 0 0]
  have T2 : Blk (World.setCells (w4.alloc (.cells #[.bool false, .bool false, .int .u8 0, .bool false, .int .u64 0, .int .u64 0, .bool false, .int .u64 0, .int .u64 0, .int .u16 0, .int .u16 0, .int .u8 0, .int .u16 0, .int .u16 0, .int .u32 0, .int .u32 0, .int .u8 0, .int .u16 0, .int .u16 0, .int .u16 0, .slice none 0 0, .slice none 0 0, .int .u16 0, .int .u16 0, .int .u16 0, .slice none 0 0, .int .u8 0, .int .u8 0, .int .u16 0, .int .u32 0, .slice none 0 0] 54)) w4.heap.size 0 [.bool false, .bool false, .int .u8 9, .bool false, .int .u64 0, .int .u64 0, .bool false, .int .u64 0, .int .u64 0, .int .u16 sp, .int .u16 dp, .int .u8 6, .int .u16 sp, .int .u16 dp, .int .u32 seq, .int .u32 ack, .int .u8 2, .int .u16 wi, .int .u16 sm, .int .u16 ur, .slice VA 12 vc, .slice UA 0 uc, .int .u16 0, .int .u16 0, .int .u16 0, .slice none 0 0, .int .u8 0, .int .u8 0, .int .u16 0, .int .u32 0, .slice none 0 0]) w4.heap.size 54 #[.bool false, .bool false, .int .u8 9, .bool false, .int .u64 0, .int .u64 0, .bool false, .int .u64 0, .int .u64 0, .int .u16 sp, .int .u16 dp, .int .u8 6, .int .u16 sp, .int .u16 dp, .int .u32 seq, .int .u32 ack, .int .u8 2, .int .u16 wi, .int .u16 sm, .int .u16 ur, .slice VA 12 vc, .slice UA 0 uc, .int .u16 0, .int .u16 0, .int .u16 0, .slice none 0 0, .int .u8 0, .int .u8 0, .int .u16 0, .int .u32 0, .slice none 0 0] := T1.setMid 0 _ _ (by simp) rfl
  have HIB5 := Lib.hid (show Blk w5 w4.heap.size 54 #[.bool false, .bool false, .int .u8 9, .bool false, .int .u64 0, .int .u64 0, .bool false, .int .u64 0, .int .u64 0, .int .u16 sp, .int .u16 dp, .int .u8 6, .int .u16 sp, .int .u16 dp, .int .u32 seq, .int .u32 ack, .int .u8 2, .int .u16 wi, .int .u16 sm, .int .u16 ur, .slice VA 12 vc, .slice UA 0 uc, .int .u16 0, .int .u16 0, .int .u16 0, .slice none 0 0, .int .u8 0, .int .u8 0, .int .u16 0, .int .u32 0, .slice none 0 0] by rw [← hwq]; exact T2)
  have HK5 := Lib.hid (HK4.out.trans HX5.out)
  have HRB5 := Lib.hid (HRB4.out.kept HX5.out (fun h => h))
  have HVW5 := Lib.hid (Row.kept HVW4.out HX5.out (fun _ _ h => h))
  obtain ⟨ib, hib⟩ : ∃ ib, w4.heap.size = ib := ⟨_, rfl⟩
  have HGIB := Lib.hid (show w.heap.size ≤ ib by have := HK4.out.size; omega)
  rw [hib] at HIB5 ⊢
  clear hwq T1 T2
  clear hib
  go_upto_region 12 with (first | (show wpList _ _ _ ((⟨_, .load 28 (.tmp 41), _, _, _, none⟩ : Oper) :: _) _ _; refine wpList_load_mid rfl 28 (.tmp 41) rfl ib 3 rfl [.bool false, .int .u64 0, .int .u64 0, .bool false, .int .u64 0, .int .u64 0, .int .u16 sp, .int .u16 dp, .int .u8 6] _ (HIB5.out.rangeMid 3 9 _ rfl) Tryz.underlying28 rfl (by kernel_rfl) ?_) | (show wpList _ _ _ ((⟨none, .store 104 (.tmp 13) _, _, _, _, none⟩ : Oper) :: _) _ _; refine wpList_store_mid rfl 104 (.tmp 13) _ rfl w5.heap.size 0 #[.bool false, .int .u64 0, .int .u64 0, .bool false, .int .u64 0, .int .u64 0, .int .u16 sp, .int .u16 dp, .int .u8 6, .slice none 0 0] rfl rfl ((Blk.new w5 104 #[.bool false, .int .u64 0, .int .u64 0, .bool false, .int .u64 0, .int .u64 0, .int .u16 0, .int .u16 0, .int .u8 0, .slice none 0 0]).there rfl) (by kernel_rfl) (by simp [Value.oneCell']) ?_))
  generalize hwq : (World.setCells _ _ _ _) = w6
  have HX6 := Lib.hid (show Kept (fun _ => False) w5 w6 by rw [← hwq]; exact ((Kept.refl _ _).alloc _).then (Kept.setCells (S := fun i => i = w5.heap.size) rfl _ _ (Kept.refl _ _)) (fun i hi e => by omega))
  have T1 : Blk (w5.alloc (.cells #[.bool false, .int .u64 0, .int .u64 0, .bool false, .int .u64 0, .int .u64 0, .int .u16 0, .int .u16 0, .int .u8 0, .slice none 0 0] 104)) w5.heap.size 104 #[.bool false, .int .u64 0, .int .u64 0, .bool false, .int .u64 0, .int .u64 0, .int .u16 0, .int .u16 0, .int .u8 0, .slice none 0 0] := Blk.new w5 104 #[.bool false, .int .u64 0, .int .u64 0, .bool false, .int .u64 0, .int .u64 0, .int .u16 0, .int .u16 0, .int .u8 0, .slice none 0 0]
  have T2 : Blk (World.setCells (w5.alloc (.cells #[.bool false, .int .u64 0, .int .u64 0, .bool false, .int .u64 0, .int .u64 0, .int .u16 0, .int .u16 0, .int .u8 0, .slice none 0 0] 104)) w5.heap.size 0 [.bool false, .int .u64 0, .int .u64 0, .bool false, .int .u64 0, .int .u64 0, .int .u16 sp, .int .u16 dp, .int .u8 6, .slice none 0 0]) w5.heap.size 104 #[.bool false, .int .u64 0, .int .u64 0, .bool false, .int .u64 0, .int .u64 0, .int .u16 sp, .int .u16 dp, .int .u8 6, .slice none 0 0] := T1.setMid 0 _ _ (by simp) rfl
  have HDB6 := Lib.hid (show Blk w6 w5.heap.size 104 #[.bool false, .int .u64 0, .int .u64 0, .bool false, .int .u64 0, .int .u64 0, .int .u16 sp, .int .u16 dp, .int .u8 6, .slice none 0 0] by rw [← hwq]; exact T2)
  have HK6 := Lib.hid (HK5.out.trans HX6.out)
  have HRB6 := Lib.hid (HRB5.out.kept HX6.out (fun h => h))
  have HVW6 := Lib.hid (Row.kept HVW5.out HX6.out (fun _ _ h => h))
  have HIB6 := Lib.hid (HIB5.out.kept HX6.out (fun h => h))
  obtain ⟨db, hdb⟩ : ∃ db, w5.heap.size = db := ⟨_, rfl⟩
  have HGDB := Lib.hid (show w.heap.size ≤ db by have := HK5.out.size; omega)
  rw [hdb] at HDB6 ⊢
  clear hwq T1 T2
  have HRD := Lib.hid (show rb < db ∧ ib < db by have := HRB5.out.lt; have := HIB5.out.lt; omega)
  clear hdb
  have HUM := Lib.hid (unmarkT most bk ls le rp sp dp seq ack wi sm ur k0 k1 VA vc HVC.out UA uc a e a0 a1 e0 e1 now m0 sp0 sp1 dp0 dp1 sb cb mg mc w3.heap.size w6 (HS0.out.kept HK6.out (fun h => h)) (HC0.out.kept HK6.out (fun h => h)) (HM0.out.kept HK6.out (fun h => h)) HVW6.out HVB.out.1 HVB.out.2)
  have cI := HIB6.out.cell
  have lI := HIB6.out.lt
  have fI := HIB6.out.frozen
  go_wp2_with (first | (show wpList _ _ _ ((⟨_, .load 28 (.tmp 54), _, _, _, none⟩ : Oper) :: _) _ _; refine wpList_load_mid rfl 28 (.tmp 54) rfl ib 3 rfl [.bool false, .int .u64 0, .int .u64 0, .bool false, .int .u64 0, .int .u64 0, .int .u16 sp, .int .u16 dp, .int .u8 6] _ (HIB6.out.rangeMid 3 9 _ rfl) Tryz.underlying28 rfl (by kernel_rfl) ?_) | (show wpList _ _ _ ((⟨_, .load 48 (.tmp 56), _, _, _, none⟩ : Oper) :: _) _ _; refine wpList_load_mid rfl 48 (.tmp 56) rfl ib 12 rfl [.int .u16 sp, .int .u16 dp, .int .u32 seq, .int .u32 ack, .int .u8 2, .int .u16 wi, .int .u16 sm, .int .u16 ur, .slice VA 12 vc, .slice UA 0 uc] _ (HIB6.out.rangeMid 12 10 _ rfl) Tryz.underlying48 rfl (by kernel_rfl) ?_))
  refine HUM.out.mono ?_
  rintro e' w7 ⟨vg, vd, UB, ud, r, eb, rfl, r0, r1, hv, q1, q2, q3, q4, hk⟩
  have HQ := Lib.hid (And.intro q1 (And.intro q2 (And.intro q3 q4)))
  have HX7 := Lib.hid hk
  have HV7 := Lib.hid hv
  have HRB7 := Lib.hid (HRB6.out.kept hk (fun h => by have := HNE.out; have := HCW.out; omega))
  have HDB7 := Lib.hid (HDB6.out.kept hk (fun h => by have := HGDB.out; have := HCW.out; omega))
  have HBE := Lib.hid (show rb < eb ∧ db < eb by have := HRB6.out.lt; have := HDB6.out.lt; omega)
  have HWE := Lib.hid (show w.heap.size ≤ eb by have := HK6.out.size; omega)
  have HK7 := Lib.hid (show Kept (fun i => i = cb ∨ i = mg) w w7 from (HK6.out.mono (fun _ _ h => h.elim)).trans hk)
  have HW2 := Lib.hid (show (⟨sp, dp, seq, ack, 2, wi, r, ur, ([1, 1, 8, 10] ++ (digs 4 a ++ digs 4 0)), []⟩ : Sg).wf from ⟨HW.out.sp0, HW.out.sp1, HW.out.dp0, HW.out.dp1, HW.out.seq0, HW.out.seq1, HW.out.ack0, HW.out.ack1, HW.out.fl0, HW.out.fl1, HW.out.wi0, HW.out.wi1, r0, r1, HW.out.ur0, HW.out.ur1, by simp [digs_length], by simp [digs_length], by simp⟩)
  clear q1 q2 q3 q4 hk hv HUM cI lI fI
  have HBY := Lib.hid (bytesT sp dp seq ack 2 wi r ur (some ⟨vg, 0, none⟩) 12 vd UB 0 ud ([1, 1, 8, 10] ++ (digs 4 a ++ digs 4 0)) [] (by simp [digs_length]) rfl (by omega) (by omega) (by omega) HW2.out w7 HV7.out.byt_bs .nil)
  go_wp2_with fail
  refine HBY.out.mono ?_
  rintro e' w8 ⟨v, rfl, hb, hk⟩
  obtain ⟨DA, dc, hve, -, -⟩ := hb.shape
  obtain ⟨dn, hdn⟩ : ∃ dn, (bcs (⟨sp, dp, seq, ack, 2, wi, r, ur, ([1, 1, 8, 10] ++ (digs 4 a ++ digs 4 0)), []⟩ : Sg).bytes).length = dn := ⟨_, rfl⟩
  rw [hdn] at hve
  subst hve
  have HX8 := Lib.hid hk
  have HRB8 := Lib.hid (HRB7.out.kept hk (fun h => h))
  have HDB8 := Lib.hid (HDB7.out.kept hk (fun h => h))
  clear hb hk hdn HBY
  have cD := HDB8.out.cell
  have lD := HDB8.out.lt
  have fD := HDB8.out.frozen
  go_upto_region 18 with fail
  generalize hwq : World.setCell _ _ _ = w9
  have HX9 := Lib.hid (show Kept (fun i => i = db) w8 w9 by rw [← hwq]; exact Kept.setIn (S := fun i => i = db) rfl (Kept.refl _ _))
  have HDB9 := Lib.hid (show Blk w9 db 104 #[.bool false, .int .u64 0, .int .u64 0, .bool false, .int .u64 0, .int .u64 0, .int .u16 sp, .int .u16 dp, .int .u8 6, .slice DA dn dc] by rw [← hwq]; exact HDB8.out.set_to rfl)
  have HRB9 := Lib.hid (HRB8.out.kept HX9.out (fun h => by have := HRD.out; omega))
  clear hwq cD lD fD
  go_wp2_with (first | (show wpList _ _ _ ((⟨_, .load 104 (.tmp 13), _, _, _, none⟩ : Oper) :: _) _ _; refine wpList_load_mid rfl 104 (.tmp 13) rfl db 0 rfl [.bool false, .int .u64 0, .int .u64 0, .bool false, .int .u64 0, .int .u64 0, .int .u16 sp, .int .u16 dp, .int .u8 6, .slice DA dn dc] _ HDB9.out.range Tryz.underlying104 rfl (by kernel_rfl) ?_) | (show wpList _ _ _ ((⟨none, .store 104 (.tmp 6) _, _, _, _, none⟩ : Oper) :: _) _ _; refine wpList_store_mid rfl 104 (.tmp 6) _ rfl rb 0 #[.bool false, .int .u64 0, .int .u64 0, .bool false, .int .u64 0, .int .u64 0, .int .u16 sp, .int .u16 dp, .int .u8 6, .slice DA dn dc] rfl rfl (HRB9.out.there rfl) (by kernel_rfl) (by simp [Value.oneCell']) ?_))
  generalize hwq : (World.setCells _ _ _ _) = wa
  have HXA := Lib.hid (show Kept (fun i => i = rb) w9 wa by rw [← hwq]; exact Kept.setCells (S := fun i => i = rb) rfl _ _ (Kept.refl _ _))
  have HRBA := Lib.hid (show Blk wa rb 104 #[.bool false, .int .u64 0, .int .u64 0, .bool false, .int .u64 0, .int .u64 0, .int .u16 sp, .int .u16 dp, .int .u8 6, .slice DA dn dc] by rw [← hwq]; exact HRB9.out.setAll #[.bool false, .int .u64 0, .int .u64 0, .bool false, .int .u64 0, .int .u64 0, .int .u16 sp, .int .u16 dp, .int .u8 6, .slice DA dn dc] rfl)
  clear hwq
  obtain ⟨q1, q2, q3, q4⟩ := HQ.out
  refine bodyPost_ret (results_blk_tmp (P := Tryz.prog) (show Tryz.f27.results = _ from rfl) _ _ rb 104 #[.bool false, .int .u64 0, .int .u64 0, .bool false, .int .u64 0, .int .u64 0, .int .u16 sp, .int .u16 dp, .int .u8 6, .slice DA dn dc] _ rfl HRBA.out Tryz.underlying104 rfl (by kernel_rfl)) rfl ⟨DA, dn, dc, eb, rfl, HWE.out, ?_, ?_, ?_, ?_⟩
  · exact ((q2.kept HX8.out (fun h => h)).kept HX9.out (fun h => by have := HGDB.out; have := HCW.out; omega)).kept HXA.out (fun h => by have := HNE.out; have := HCW.out; omega)
  · exact ((q3.kept HX8.out (fun h => h)).kept HX9.out (fun h => by have := HBE.out; omega)).kept HXA.out (fun h => by have := HBE.out; omega)
  · exact ((q4.kept HX8.out (fun h => h)).kept HX9.out (fun h => by have := HGDB.out; have := HCW.out; omega)).kept HXA.out (fun h => by have := HNE.out; have := HCW.out; omega)
  · exact ((HK7.out.then HX8.out (fun _ _ h => h.elim)).then HX9.out (fun i hi h => by have := HGDB.out; omega)).then HXA.out (fun i hi h => by have := HNE.out; omega)
end Go.Proofs.YtdnbhmfofphblaaGreatDoor
