/- packet's look and Host of a packet of version 4 that carries a right segment. -/
import Derived.Test.YtdnbhmfofphblaaGreatDoorTS
namespace Go.Proofs.YtdnbhmfofphblaaGreatDoor
open Go.RowKit
set_option maxRecDepth 100000
set_option linter.unusedVariables false
set_option linter.unusedSimpArgs false
theorem Blk.rangePre {w : World} {g t : Nat} {cs : Array Value} (h : Blk w g t cs) (l r : List Value) (e : cs = (l ++ r).toArray) : w.rangeAt g 0 l := h.rangeMid 0 l.length l (by subst e; simp)
set_option maxRecDepth 100000 in
set_option maxHeartbeats 2000000 in
theorem look4 (BA : Option Addr) (q bc : Nat) (b : List UInt8) (H : Hd) (hH : phd b = H) (hq : b.length = q) (h0 : 0 < q) (h9 : q ≤ 60000) (hbc : q ≤ bc ∧ bc ≤ maxLen) (h4 : fld b 0 1 / 16 = 4) (hp : perr b = 0) (hmo : H.more = false) (ho : H.off = 0) (hpr : H.proto = 6) (t0 : 0 ≤ H.ttl) (t1 : H.ttl ≤ 255) (x0 : 0 ≤ H.src) (x1 : H.src ≤ 4294967295) (y0 : 0 ≤ H.dst) (y1 : H.dst ≤ 4294967295) (sp dp seq ack fl wi sm ur : Int) (os ls : List UInt8) (n m : Nat) (hn : os.length = n) (hm : ls.length = m) (n40 : n ≤ 40) (n4 : n % 4 = 0) (np : 0 < n) (m9 : m ≤ 9000) (hw : (⟨sp, dp, seq, ack, fl, wi, sm, ur, os, ls⟩ : Sg).wf) (hl : pld b = (⟨sp, dp, seq, ack, fl, wi, sm, ur, os, ls⟩ : Sg).bytes) (hz : 65535 - norm (total true (pseudo H.src H.dst 6 (((⟨sp, dp, seq, ack, fl, wi, sm, ur, os, ls⟩ : Sg).size : Nat) : Int) ++ (⟨sp, dp, seq, ack, fl, wi, sm, ur, os, ls⟩ : Sg).bytes)) = 0) (w : World) (hB : BS w w.heap.size BA b) :
    Calls Tryz.prog 36 #[.slice BA q bc, .int .i64 (-1)] w fun e w' => ∃ VA vc UA uc, e = .returned (.tuple #[.agg #[.bool false, .bool H.stay, .int .u8 H.ttl, .bool false, .int .u64 0, .int .u64 H.src, .bool false, .int .u64 0, .int .u64 H.dst, .int .u16 sp, .int .u16 dp, .int .u8 6, .int .u16 sp, .int .u16 dp, .int .u32 seq, .int .u32 ack, .int .u8 fl, .int .u16 wi, .int .u16 sm, .int .u16 ur, .slice VA n vc, .slice UA m uc, .int .u16 0, .int .u16 0, .int .u16 0, .slice none 0 0, .int .u8 0, .int .u8 0, .int .u16 0, .int .u32 0, .slice none 0 0], .int .i64 0]) ∧ Row w' w.heap.size 5 (.slice VA n vc) (bcs os) ∧ Row w' w.heap.size 5 (.slice UA m uc) (bcs ls) ∧ Kept (fun _ => False) w w' := by
  obtain ⟨z, hzz⟩ : ∃ z, 20 + n + m = z := ⟨_, rfl⟩
  have hsz : (⟨sp, dp, seq, ack, fl, wi, sm, ur, os, ls⟩ : Sg).size = z := by rw [Sg.size, ← hzz, hn, hm]
  have hlz : (pld b).length = z := by rw [hl, Sg.bytes_len, hsz]
  rw [hsz] at hz
  have HBS := Lib.hid hB
  have HPR := Lib.hid hpr
  have HOP := Lib.hid (fun W (h : BS W W.heap.size BA b) => open4 BA q bc b H hH hq h0 h9 hbc h4 hp hmo ho W h)
  rw [hlz, hl] at HOP
  have HTK := Lib.hid (fun XA xc xb (h : z ≤ xc ∧ xc ≤ maxLen) W (h1 : BS W W.heap.size XA (⟨sp, dp, seq, ack, fl, wi, sm, ur, os, ls⟩ : Sg).bytes) h2 => takeT H.stay H.ttl H.src H.dst x0 x1 y0 y1 sp dp seq ack fl wi sm ur os ls n m hn hm n40 n4 np m9 hw XA z xc xb hzz h hz W h1 h2)
  have HLZ := Lib.hid (show (⟨sp, dp, seq, ack, fl, wi, sm, ur, os, ls⟩ : Sg).bytes.length = z by rw [← hl]; exact hlz)
  have g1 : decide (H.ttl ≤ -1) = false := decide_eq_false (by omega)
  have g2 : ¬ H.ttl ≤ -1 := by omega
  clear hB hq hH hp hmo ho hpr hl hz h4 hbc hlz hsz hzz hn hm hw
  go_enter Tryz.func36, Tryz.ntmps36
  go_upto_region 1 with fail
  obtain ⟨w1, hw1⟩ : ∃ w1 : World, w1 = (w.alloc (.cells #[.bool false, .bool false, .int .u8 0, .bool false, .int .u64 0, .int .u64 0, .bool false, .int .u64 0, .int .u64 0, .int .u16 0, .int .u16 0, .int .u8 0, .int .u16 0, .int .u16 0, .int .u32 0, .int .u32 0, .int .u8 0, .int .u16 0, .int .u16 0, .int .u16 0, .slice none 0 0, .slice none 0 0, .int .u16 0, .int .u16 0, .int .u16 0, .slice none 0 0, .int .u8 0, .int .u8 0, .int .u16 0, .int .u32 0, .slice none 0 0] 54)) := ⟨_, rfl⟩
  have HRB1 := Lib.hid (show Blk w1 w.heap.size 54 #[.bool false, .bool false, .int .u8 0, .bool false, .int .u64 0, .int .u64 0, .bool false, .int .u64 0, .int .u64 0, .int .u16 0, .int .u16 0, .int .u8 0, .int .u16 0, .int .u16 0, .int .u32 0, .int .u32 0, .int .u8 0, .int .u16 0, .int .u16 0, .int .u16 0, .slice none 0 0, .slice none 0 0, .int .u16 0, .int .u16 0, .int .u16 0, .slice none 0 0, .int .u8 0, .int .u8 0, .int .u16 0, .int .u32 0, .slice none 0 0] by rw [hw1]; exact Blk.new _ _ _)
  have HK1 := Lib.hid (show Kept (fun _ => False) w w1 by rw [hw1]; exact (Kept.refl _ _).alloc _)
  rw [← hw1]
  clear hw1
  obtain ⟨rb, hrb⟩ : ∃ rb, w.heap.size = rb := ⟨_, rfl⟩
  rw [hrb] at HRB1
  (try rw [hrb])
  have HNE := Lib.hid (show rb = w.heap.size + 0 ∧ True from ⟨by omega, trivial⟩)
  clear hrb
  have cRB := HRB1.out.cell
  have lRB := HRB1.out.lt
  have fRB := HRB1.out.frozen
  clear cRB lRB fRB
  go_wp2_with fail
  refine (HOP.out w1 (HBS.out.on HK1.out (fun _ _ h => h))).mono ?_
  rintro e w2 ⟨XA, xc, rfl, hx, hk⟩
  have HX2 := Lib.hid hx
  have HXC := Lib.hid (show z ≤ xc ∧ xc ≤ maxLen by obtain ⟨_, c', e', h1, h2⟩ := hx.shape; injection e' with _ _ ec; subst ec; rw [bcs_length, HLZ.out] at h1; exact ⟨h1, h2⟩)
  have HK2 := Lib.hid (HK1.out.trans hk)
  have HRB2 := Lib.hid (HRB1.out.kept hk (fun h => h))
  clear hx hk HOP
  rw [HPR.out]
  go_upto_region 2 with (show wpList _ _ _ ((⟨none, .store 210 (.tmp 6) _, _, _, _, none⟩ : Oper) :: _) _ _; refine wpList_store_mid rfl 210 (.tmp 6) _ rfl w2.heap.size 0 #[.bool false, .bool H.stay, .int .u8 H.ttl, .bool false, .int .u64 0, .int .u64 H.src, .bool false, .int .u64 0, .int .u64 H.dst, .int .u16 0, .int .u16 0, .int .u8 6, .int .u16 0, .int .u16 0, .int .u32 0, .int .u32 0, .int .u8 0, .int .u16 0, .int .u16 0, .int .u16 0, .slice none 0 0, .slice none 0 0, .int .u16 0, .int .u16 0, .int .u16 0, .slice none 0 0, .int .u8 0, .int .u8 0, .int .u16 0, .int .u32 0, .slice none 0 0, .bool false, .slice XA z xc] rfl rfl ((Blk.new w2 210 #[.bool false, .bool false, .int .u8 0, .bool false, .int .u64 0, .int .u64 0, .bool false, .int .u64 0, .int .u64 0, .int .u16 0, .int .u16 0, .int .u8 0, .int .u16 0, .int .u16 0, .int .u32 0, .int .u32 0, .int .u8 0, .int .u16 0, .int .u16 0, .int .u16 0, .slice none 0 0, .slice none 0 0, .int .u16 0, .int .u16 0, .int .u16 0, .slice none 0 0, .int .u8 0, .int .u8 0, .int .u16 0, .int .u32 0, .slice none 0 0, .bool false, .slice none 0 0]).there rfl) (by kernel_rfl) (by simp [Value.oneCell']) ?_)
  generalize hwq : (World.setCells _ _ _ _) = w3
  have HX3 := Lib.hid (show Kept (fun _ => False) w2 w3 by rw [← hwq]; exact ((Kept.refl _ _).alloc _).then (Kept.setCells (S := fun i => i = w2.heap.size) rfl _ _ (Kept.refl _ _)) (fun i hi e => by omega))
  have T1 : Blk (w2.alloc (.cells #[.bool false, .bool false, .int .u8 0, .bool false, .int .u64 0, .int .u64 0, .bool false, .int .u64 0, .int .u64 0, .int .u16 0, .int .u16 0, .int .u8 0, .int .u16 0, .int .u16 0, .int .u32 0, .int .u32 0, .int .u8 0, .int .u16 0, .int .u16 0, .int .u16 0, .slice none 0 0, .slice none 0 0, .int .u16 0, .int .u16 0, .int .u16 0, .slice none 0 0, .int .u8 0, .int .u8 0, .int .u16 0, .int .u32 0, .slice none 0 0, .bool false, .slice none 0 0] 210)) w2.heap.size 210 #[.bool false, .bool false, .int .u8 0, .bool false, .int .u64 0, .int .u64 0, .bool false, .int .u64 0, .int .u64 0, .int .u16 0, .int .u16 0, .int .u8 0, .int .u16 0, .int .u16 0, .int .u32 0, .int .u32 0, .int .u8 0, .int .u16 0, .int .u16 0, .int .u16 0, .slice none 0 0, .slice none 0 0, .int .u16 0, .int .u16 0, .int .u16 0, .slice none 0 0, .int .u8 0, .int .u8 0, .int .u16 0, .int .u32 0, .slice none 0 0, .bool false, .slice none 0 0] := Blk.new w2 210 #[.bool false, .bool false, .int .u8 0, .bool false, .int .u64 0, .int .u64 0, .bool false, .int .u64 0, .int .u64 0, .int .u16 0, .int .u16 0, .int .u8 0, .int .u16 0, .int .u16 0, .int .u32 0, .int .u32 0, .int .u8 0, .int .u16 0, .int .u16 0, .int .u16 0, .slice none 0 0, .slice none 0 0, .int .u16 0, .int .u16 0, .int .u16 0, .slice none 0 0, .int .u8 0, .int .u8 0, .int .u16 0, .int .u32 0, .slice none 0 0, .bool false, .slice none 0 0]
  have T2 : Blk (World.setCells (w2.alloc (.cells #[.bool false, .bool false, .int .u8 0, .bool false, .int .u64 0, .int .u64 0, .bool false, .int .u64 0, .int .u64 0, .int .u16 0, .int .u16 0, .int .u8 0, .int .u16 0, .int .u16 0, .int .u32 0, .int .u32 0, .int .u8 0, .int .u16 0, .int .u16 0, .int .u16 0, .slice none 0 0, .slice none 0 0, .int .u16 0, .int .u16 0, .int .u16 0, .slice none 0 0, .int .u8 0, .int .u8 0, .int .u16 0, .int .u32 0, .slice none 0 0, .bool false, .slice none 0 0] 210)) w2.heap.size 0 [.bool false, .bool H.stay, .int .u8 H.ttl, .bool false, .int .u64 0, .int .u64 H.src, .bool false, .int .u64 0, .int .u64 H.dst, .int .u16 0, .int .u16 0, .int .u8 6, .int .u16 0, .int .u16 0, .int .u32 0, .int .u32 0, .int .u8 0, .int .u16 0, .int .u16 0, .int .u16 0, .slice none 0 0, .slice none 0 0, .int .u16 0, .int .u16 0, .int .u16 0, .slice none 0 0, .int .u8 0, .int .u8 0, .int .u16 0, .int .u32 0, .slice none 0 0, .bool false, .slice XA z xc]) w2.heap.size 210 #[.bool false, .bool H.stay, .int .u8 H.ttl, .bool false, .int .u64 0, .int .u64 H.src, .bool false, .int .u64 0, .int .u64 H.dst, .int .u16 0, .int .u16 0, .int .u8 6, .int .u16 0, .int .u16 0, .int .u32 0, .int .u32 0, .int .u8 0, .int .u16 0, .int .u16 0, .int .u16 0, .slice none 0 0, .slice none 0 0, .int .u16 0, .int .u16 0, .int .u16 0, .slice none 0 0, .int .u8 0, .int .u8 0, .int .u16 0, .int .u32 0, .slice none 0 0, .bool false, .slice XA z xc] := T1.setMid 0 _ _ (by simp) rfl
  have HXB3 := Lib.hid (show Blk w3 w2.heap.size 210 #[.bool false, .bool H.stay, .int .u8 H.ttl, .bool false, .int .u64 0, .int .u64 H.src, .bool false, .int .u64 0, .int .u64 H.dst, .int .u16 0, .int .u16 0, .int .u8 6, .int .u16 0, .int .u16 0, .int .u32 0, .int .u32 0, .int .u8 0, .int .u16 0, .int .u16 0, .int .u16 0, .slice none 0 0, .slice none 0 0, .int .u16 0, .int .u16 0, .int .u16 0, .slice none 0 0, .int .u8 0, .int .u8 0, .int .u16 0, .int .u32 0, .slice none 0 0, .bool false, .slice XA z xc] by rw [← hwq]; exact T2)
  clear T1 T2
  have HK3 := Lib.hid (HK2.out.trans HX3.out)
  have HRB3 := Lib.hid (HRB2.out.kept HX3.out (fun h => h))
  have HXW3 := Lib.hid (Row.kept HX2.out HX3.out (fun _ _ h => h))
  clear hwq
  obtain ⟨xb, hxb⟩ : ∃ xb, w2.heap.size = xb := ⟨_, rfl⟩
  have HXR := Lib.hid (show rb < xb by have := HRB2.out.lt; omega)
  have HXL := Lib.hid (show w.heap.size ≤ xb by have := HK2.out.size; omega)
  rw [hxb] at HXB3 ⊢
  clear hxb
  have cX := HXB3.out.cell
  have lX := HXB3.out.lt
  have fX := HXB3.out.frozen
  go_wp2_with fail
  refine (HTK.out XA xc xb HXC.out w3 HXW3.out.byt_bs HXB3.out).mono ?_
  rintro e w4 ⟨VA, vc, UA, uc, rfl, hb4, hv, hu, hk⟩
  have HXB4 := Lib.hid hb4
  have HV4 := Lib.hid hv
  have HU4 := Lib.hid hu
  have HK4 := Lib.hid (HK3.out.then hk (fun i hi e => by have := HXL.out; omega))
  have HRB4 := Lib.hid (HRB3.out.kept hk (fun h => by have := HXR.out; omega))
  clear hb4 hv hu hk HTK cX lX fX
  go_wp2_with (first | (show wpList _ _ _ ((⟨_, .load 54 (.tmp 72), _, _, _, none⟩ : Oper) :: _) _ _; refine wpList_load_mid rfl 54 (.tmp 72) rfl xb 0 rfl [.bool false, .bool H.stay, .int .u8 H.ttl, .bool false, .int .u64 0, .int .u64 H.src, .bool false, .int .u64 0, .int .u64 H.dst, .int .u16 sp, .int .u16 dp, .int .u8 6, .int .u16 sp, .int .u16 dp, .int .u32 seq, .int .u32 ack, .int .u8 fl, .int .u16 wi, .int .u16 sm, .int .u16 ur, .slice VA n vc, .slice UA m uc, .int .u16 0, .int .u16 0, .int .u16 0, .slice none 0 0, .int .u8 0, .int .u8 0, .int .u16 0, .int .u32 0, .slice none 0 0] _ (HXB4.out.rangePre [.bool false, .bool H.stay, .int .u8 H.ttl, .bool false, .int .u64 0, .int .u64 H.src, .bool false, .int .u64 0, .int .u64 H.dst, .int .u16 sp, .int .u16 dp, .int .u8 6, .int .u16 sp, .int .u16 dp, .int .u32 seq, .int .u32 ack, .int .u8 fl, .int .u16 wi, .int .u16 sm, .int .u16 ur, .slice VA n vc, .slice UA m uc, .int .u16 0, .int .u16 0, .int .u16 0, .slice none 0 0, .int .u8 0, .int .u8 0, .int .u16 0, .int .u32 0, .slice none 0 0] [.bool false, .slice XA z xc] rfl) Tryz.underlying54 rfl (by kernel_rfl) ?_) | (show wpList _ _ _ ((⟨none, .store 54 (.tmp 4) _, _, _, _, none⟩ : Oper) :: _) _ _; refine wpList_store_mid rfl 54 (.tmp 4) _ rfl rb 0 #[.bool false, .bool H.stay, .int .u8 H.ttl, .bool false, .int .u64 0, .int .u64 H.src, .bool false, .int .u64 0, .int .u64 H.dst, .int .u16 sp, .int .u16 dp, .int .u8 6, .int .u16 sp, .int .u16 dp, .int .u32 seq, .int .u32 ack, .int .u8 fl, .int .u16 wi, .int .u16 sm, .int .u16 ur, .slice VA n vc, .slice UA m uc, .int .u16 0, .int .u16 0, .int .u16 0, .slice none 0 0, .int .u8 0, .int .u8 0, .int .u16 0, .int .u32 0, .slice none 0 0] rfl rfl (HRB4.out.there rfl) (by kernel_rfl) (by simp [Value.oneCell']) ?_))
  generalize hwq : (World.setCells _ _ _ _) = w5
  have HX5 := Lib.hid (show Kept (fun i => i = rb) w4 w5 by rw [← hwq]; exact Kept.setCells (S := fun i => i = rb) rfl _ _ (Kept.refl _ _))
  have HRB5 := Lib.hid (show Blk w5 rb 54 #[.bool false, .bool H.stay, .int .u8 H.ttl, .bool false, .int .u64 0, .int .u64 H.src, .bool false, .int .u64 0, .int .u64 H.dst, .int .u16 sp, .int .u16 dp, .int .u8 6, .int .u16 sp, .int .u16 dp, .int .u32 seq, .int .u32 ack, .int .u8 fl, .int .u16 wi, .int .u16 sm, .int .u16 ur, .slice VA n vc, .slice UA m uc, .int .u16 0, .int .u16 0, .int .u16 0, .slice none 0 0, .int .u8 0, .int .u8 0, .int .u16 0, .int .u32 0, .slice none 0 0] by rw [← hwq]; have T1 := HRB4.out; exact T1.setMid 0 _ _ (by simp) rfl)
  clear hwq
  refine bodyPost_ret (results_blk_tmp (P := Tryz.prog) (show Tryz.f36.results = _ from rfl) _ _ rb 54 #[.bool false, .bool H.stay, .int .u8 H.ttl, .bool false, .int .u64 0, .int .u64 H.src, .bool false, .int .u64 0, .int .u64 H.dst, .int .u16 sp, .int .u16 dp, .int .u8 6, .int .u16 sp, .int .u16 dp, .int .u32 seq, .int .u32 ack, .int .u8 fl, .int .u16 wi, .int .u16 sm, .int .u16 ur, .slice VA n vc, .slice UA m uc, .int .u16 0, .int .u16 0, .int .u16 0, .slice none 0 0, .int .u8 0, .int .u8 0, .int .u16 0, .int .u32 0, .slice none 0 0] _ rfl HRB5.out Tryz.underlying54 rfl (by kernel_rfl)) rfl ⟨VA, vc, UA, uc, rfl, ?_, ?_, HK4.out.then HX5.out (fun i hi e => by have := HNE.out; omega)⟩
  · exact (Row.kept HV4.out HX5.out (fun g hg e => by have := (HV4.out.lt g hg).1; have := HRB3.out.lt; omega)).more HK3.out.size
  · exact (Row.kept HU4.out HX5.out (fun g hg e => by have := (HU4.out.lt g hg).1; have := HRB3.out.lt; omega)).more HK3.out.size
set_option maxRecDepth 100000 in
set_option maxHeartbeats 2000000 in
theorem host4 (BA : Option Addr) (q bc : Nat) (b : List UInt8) (H : Hd) (hH : phd b = H) (hq : b.length = q) (h0 : 0 < q) (h9 : q ≤ 60000) (hbc : q ≤ bc ∧ bc ≤ maxLen) (h4 : fld b 0 1 / 16 = 4) (hp : perr b = 0) (hmo : H.more = false) (ho : H.off = 0) (hpr : H.proto = 6) (t0 : 0 ≤ H.ttl) (t1 : H.ttl ≤ 255) (x0 : 0 ≤ H.src) (x1 : H.src ≤ 4294967295) (y0 : 0 ≤ H.dst) (y1 : H.dst ≤ 4294967295) (sp dp seq ack fl wi sm ur : Int) (os ls : List UInt8) (n m : Nat) (hn : os.length = n) (hm : ls.length = m) (n40 : n ≤ 40) (n4 : n % 4 = 0) (np : 0 < n) (m9 : m ≤ 9000) (hw : (⟨sp, dp, seq, ack, fl, wi, sm, ur, os, ls⟩ : Sg).wf) (hl : pld b = (⟨sp, dp, seq, ack, fl, wi, sm, ur, os, ls⟩ : Sg).bytes) (hz : 65535 - norm (total true (pseudo H.src H.dst 6 (((⟨sp, dp, seq, ack, fl, wi, sm, ur, os, ls⟩ : Sg).size : Nat) : Int) ++ (⟨sp, dp, seq, ack, fl, wi, sm, ur, os, ls⟩ : Sg).bytes)) = 0) (w : World) (hB : BS w w.heap.size BA b) :
    Calls Tryz.prog 9 #[.slice BA q bc] w fun e w' => ∃ VA vc UA uc, e = .returned (.tuple #[.agg #[.bool false, .bool H.stay, .int .u8 H.ttl, .bool false, .int .u64 0, .int .u64 H.src, .bool false, .int .u64 0, .int .u64 H.dst, .int .u16 sp, .int .u16 dp, .int .u8 6, .int .u16 sp, .int .u16 dp, .int .u32 seq, .int .u32 ack, .int .u8 fl, .int .u16 wi, .int .u16 sm, .int .u16 ur, .slice VA n vc, .slice UA m uc, .int .u16 0, .int .u16 0, .int .u16 0, .slice none 0 0, .int .u8 0, .int .u8 0, .int .u16 0, .int .u32 0, .slice none 0 0], .int .i64 0]) ∧ Row w' w.heap.size 5 (.slice VA n vc) (bcs os) ∧ Row w' w.heap.size 5 (.slice UA m uc) (bcs ls) ∧ Kept (fun _ => False) w w' := by
  have HBS := Lib.hid hB
  have HLK := Lib.hid (fun W (h : BS W W.heap.size BA b) => look4 BA q bc b H hH hq h0 h9 hbc h4 hp hmo ho hpr t0 t1 x0 x1 y0 y1 sp dp seq ack fl wi sm ur os ls n m hn hm n40 n4 np m9 hw hl hz W h)
  clear hB hq hH hp hmo ho hpr hl hz h4 hbc hn hm hw
  go_enter Tryz.func9, Tryz.ntmps9
  go_upto_region 1 with fail
  obtain ⟨w1, hw1⟩ : ∃ w1 : World, w1 = (w.alloc (.cells #[.bool false, .bool false, .int .u8 0, .bool false, .int .u64 0, .int .u64 0, .bool false, .int .u64 0, .int .u64 0, .int .u16 0, .int .u16 0, .int .u8 0, .int .u16 0, .int .u16 0, .int .u32 0, .int .u32 0, .int .u8 0, .int .u16 0, .int .u16 0, .int .u16 0, .slice none 0 0, .slice none 0 0, .int .u16 0, .int .u16 0, .int .u16 0, .slice none 0 0, .int .u8 0, .int .u8 0, .int .u16 0, .int .u32 0, .slice none 0 0] 54)) := ⟨_, rfl⟩
  have HRB1 := Lib.hid (show Blk w1 w.heap.size 54 #[.bool false, .bool false, .int .u8 0, .bool false, .int .u64 0, .int .u64 0, .bool false, .int .u64 0, .int .u64 0, .int .u16 0, .int .u16 0, .int .u8 0, .int .u16 0, .int .u16 0, .int .u32 0, .int .u32 0, .int .u8 0, .int .u16 0, .int .u16 0, .int .u16 0, .slice none 0 0, .slice none 0 0, .int .u16 0, .int .u16 0, .int .u16 0, .slice none 0 0, .int .u8 0, .int .u8 0, .int .u16 0, .int .u32 0, .slice none 0 0] by rw [hw1]; exact Blk.new _ _ _)
  have HK1 := Lib.hid (show Kept (fun _ => False) w w1 by rw [hw1]; exact (Kept.refl _ _).alloc _)
  rw [← hw1]
  clear hw1
  obtain ⟨rb, hrb⟩ : ∃ rb, w.heap.size = rb := ⟨_, rfl⟩
  rw [hrb] at HRB1
  (try rw [hrb])
  have HNE := Lib.hid (show rb = w.heap.size + 0 ∧ True from ⟨by omega, trivial⟩)
  clear hrb
  have cRB := HRB1.out.cell
  have lRB := HRB1.out.lt
  have fRB := HRB1.out.frozen
  clear cRB lRB fRB
  go_wp2_with fail
  refine (HLK.out w1 (HBS.out.on HK1.out (fun _ _ h => h))).mono ?_
  rintro e w4 ⟨VA, vc, UA, uc, rfl, hv, hu, hk⟩
  have HV4 := Lib.hid hv
  have HU4 := Lib.hid hu
  have HK4 := Lib.hid (HK1.out.trans hk)
  have HRB4 := Lib.hid (HRB1.out.kept hk (fun h => h))
  clear hv hu hk HLK
  go_wp2_with (show wpList _ _ _ ((⟨none, .store 54 (.tmp 2) _, _, _, _, none⟩ : Oper) :: _) _ _; refine wpList_store_mid rfl 54 (.tmp 2) _ rfl rb 0 #[.bool false, .bool H.stay, .int .u8 H.ttl, .bool false, .int .u64 0, .int .u64 H.src, .bool false, .int .u64 0, .int .u64 H.dst, .int .u16 sp, .int .u16 dp, .int .u8 6, .int .u16 sp, .int .u16 dp, .int .u32 seq, .int .u32 ack, .int .u8 fl, .int .u16 wi, .int .u16 sm, .int .u16 ur, .slice VA n vc, .slice UA m uc, .int .u16 0, .int .u16 0, .int .u16 0, .slice none 0 0, .int .u8 0, .int .u8 0, .int .u16 0, .int .u32 0, .slice none 0 0] rfl rfl (HRB4.out.there rfl) (by kernel_rfl) (by simp [Value.oneCell']) ?_)
  generalize hwq : (World.setCells _ _ _ _) = w5
  have HX5 := Lib.hid (show Kept (fun i => i = rb) w4 w5 by rw [← hwq]; exact Kept.setCells (S := fun i => i = rb) rfl _ _ (Kept.refl _ _))
  have HRB5 := Lib.hid (show Blk w5 rb 54 #[.bool false, .bool H.stay, .int .u8 H.ttl, .bool false, .int .u64 0, .int .u64 H.src, .bool false, .int .u64 0, .int .u64 H.dst, .int .u16 sp, .int .u16 dp, .int .u8 6, .int .u16 sp, .int .u16 dp, .int .u32 seq, .int .u32 ack, .int .u8 fl, .int .u16 wi, .int .u16 sm, .int .u16 ur, .slice VA n vc, .slice UA m uc, .int .u16 0, .int .u16 0, .int .u16 0, .slice none 0 0, .int .u8 0, .int .u8 0, .int .u16 0, .int .u32 0, .slice none 0 0] by rw [← hwq]; have T1 := HRB4.out; exact T1.setMid 0 _ _ (by simp) rfl)
  clear hwq
  refine bodyPost_ret (results_blk_tmp (P := Tryz.prog) (show Tryz.f9.results = _ from rfl) _ _ rb 54 #[.bool false, .bool H.stay, .int .u8 H.ttl, .bool false, .int .u64 0, .int .u64 H.src, .bool false, .int .u64 0, .int .u64 H.dst, .int .u16 sp, .int .u16 dp, .int .u8 6, .int .u16 sp, .int .u16 dp, .int .u32 seq, .int .u32 ack, .int .u8 fl, .int .u16 wi, .int .u16 sm, .int .u16 ur, .slice VA n vc, .slice UA m uc, .int .u16 0, .int .u16 0, .int .u16 0, .slice none 0 0, .int .u8 0, .int .u8 0, .int .u16 0, .int .u32 0, .slice none 0 0] _ rfl HRB5.out Tryz.underlying54 rfl (by kernel_rfl)) rfl ⟨VA, vc, UA, uc, rfl, ?_, ?_, HK4.out.then HX5.out (fun i hi e => by have := HNE.out; omega)⟩
  · exact (Row.kept HV4.out HX5.out (fun g hg e => by have := (HV4.out.lt g hg).1; have := HRB1.out.lt; omega)).more HK1.out.size
  · exact (Row.kept HU4.out HX5.out (fun g hg e => by have := (HU4.out.lt g hg).1; have := HRB1.out.lt; omega)).more HK1.out.size
end Go.Proofs.YtdnbhmfofphblaaGreatDoor
