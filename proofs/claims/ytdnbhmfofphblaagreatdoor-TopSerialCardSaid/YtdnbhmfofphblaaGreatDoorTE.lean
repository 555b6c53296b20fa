/- tcp.Parse at the bytes of a segment. -/
import Derived.Test.YtdnbhmfofphblaaGreatDoorTD
import Derived.Test.YtdnbhmfofphblaaGreatDoorRdr
import Derived.Test.YtdnbhmfofphblaaGreatDoorH
namespace Go.Proofs.YtdnbhmfofphblaaGreatDoor
open Go.RowKit
set_option maxRecDepth 100000
set_option linter.unusedVariables false
set_option linter.unusedSimpArgs false
set_option maxRecDepth 100000 in
set_option maxHeartbeats 8000000 in
theorem parseT (sp dp seq ack fl wi sm ur : Int) (os ls : List UInt8) (n m : Nat) (hn : os.length = n) (hm : ls.length = m) (n40 : n ≤ 40) (n4 : n % 4 = 0) (np : 0 < n) (m9 : m ≤ 9000) (hw : (⟨sp, dp, seq, ack, fl, wi, sm, ur, os, ls⟩ : Sg).wf) (BA : Option Addr) (q bc : Nat) (hq : 20 + n + m = q) (hbc : q ≤ bc ∧ bc ≤ maxLen) (w : World) (hB : BS w w.heap.size BA (⟨sp, dp, seq, ack, fl, wi, sm, ur, os, ls⟩ : Sg).bytes) :
    Calls Tryz.prog 134 #[.slice BA q bc] w fun e w' => ∃ VA vc UA uc, e = .returned (.tuple #[.agg #[.int .u16 sp, .int .u16 dp, .int .u32 seq, .int .u32 ack, .int .u8 fl, .int .u16 wi, .int .u16 sm, .int .u16 ur, .slice VA n vc, .slice UA m uc], .int .i64 0]) ∧ Row w' w.heap.size 5 (.slice VA n vc) (bcs os) ∧ Row w' w.heap.size 5 (.slice UA m uc) (bcs ls) ∧ Kept (fun _ => False) w w' := by
  obtain ⟨b, hb⟩ : ∃ b, (⟨sp, dp, seq, ack, fl, wi, sm, ur, os, ls⟩ : Sg).bytes = b := ⟨_, rfl⟩
  have hbl : b.length = q := by rw [← hb, Sg.bytes_len, Sg.size, ← hq, hn, hm]
  have hdr : b.drop 20 = os ++ ls := by rw [← hb]; exact Sg.drop20 _
  rw [hb] at hB
  obtain ⟨bb, o, hbb, rfl, _⟩ := hB.at (k := 0) (by omega)
  have HBS := Lib.hid hB
  have HNN := Lib.hid hn
  have HMM := Lib.hid hm
  have HDR := Lib.hid hdr
  obtain ⟨vo, hvo⟩ : ∃ v, (20 + (n : Int)) / 4 * 16 = v := ⟨_, rfl⟩
  have vo0 : 0 ≤ vo := by omega
  have vo1 : vo ≤ 255 := by omega
  have hzz : ((20 + n : Nat) : Int) = 4 * (vo / 16) := by omega
  have e15 : bits .and .u8 vo 15 = 0 := by rw [and15 vo vo0 (by omega)]; omega
  have hvo : (20 + ((⟨sp, dp, seq, ack, fl, wi, sm, ur, os, ls⟩ : Sg).opts.length : Int)) / 4 * 16 = vo := by show (20 + (os.length : Int)) / 4 * 16 = vo; rw [hn]; exact hvo
  have T0 := Lib.hid (show fld (b.take 20) 0 2 = sp by rw [fld_take b 0 2 20 (by omega), ← hb]; exact Sg.f_sp hw)
  have T2 := Lib.hid (show fld (b.take 20) 2 2 = dp by rw [fld_take b 2 2 20 (by omega), ← hb]; exact Sg.f_dp hw)
  have T4 := Lib.hid (show fld (b.take 20) 4 4 = seq by rw [fld_take b 4 4 20 (by omega), ← hb]; exact Sg.f_seq hw)
  have T8 := Lib.hid (show fld (b.take 20) 8 4 = ack by rw [fld_take b 8 4 20 (by omega), ← hb]; exact Sg.f_ack hw)
  have T12 := Lib.hid (show fld (b.take 20) 12 1 = vo by rw [fld_take b 12 1 20 (by omega), ← hb]; exact Sg.f_off hw |>.trans hvo)
  have T13 := Lib.hid (show fld (b.take 20) 13 1 = fl by rw [fld_take b 13 1 20 (by omega), ← hb]; exact Sg.f_flags hw)
  have T14 := Lib.hid (show fld (b.take 20) 14 2 = wi by rw [fld_take b 14 2 20 (by omega), ← hb]; exact Sg.f_window hw)
  have T16 := Lib.hid (show fld (b.take 20) 16 2 = sm by rw [fld_take b 16 2 20 (by omega), ← hb]; exact Sg.f_sum hw)
  have T18 := Lib.hid (show fld (b.take 20) 18 2 = ur by rw [fld_take b 18 2 20 (by omega), ← hb]; exact Sg.f_urgent hw)
  have H20 := Lib.hid (show (b.take 20).length = 20 by rw [List.length_take]; omega)
  have HZZ := Lib.hid hzz
  have HQ := Lib.hid hq
  obtain ⟨hbc1, hbc2⟩ := hbc
  unfold maxLen at hbc2
  have n0 : (0 : Int) ≤ (n : Int) := Int.natCast_nonneg _
  have q20 : ¬ (q : Int) < 20 := by omega
  have q20' : 20 ≤ bc := by omega
  clear hvo hzz hb hn hm hdr hB hw
  go_enter Tryz.func134, Tryz.ntmps134
  go_upto_region 1 with fail
  obtain ⟨w1, hw1⟩ : ∃ w1 : World, w1 = (w.alloc (.cells #[.int .u16 0, .int .u16 0, .int .u32 0, .int .u32 0, .int .u8 0, .int .u16 0, .int .u16 0, .int .u16 0, .slice none 0 0, .slice none 0 0] 48)) := ⟨_, rfl⟩
  have HRB1 := Lib.hid (show Blk w1 w.heap.size 48 #[.int .u16 0, .int .u16 0, .int .u32 0, .int .u32 0, .int .u8 0, .int .u16 0, .int .u16 0, .int .u16 0, .slice none 0 0, .slice none 0 0] by rw [hw1]; exact Blk.new _ _ _)
  have HK1 := Lib.hid (show Kept (fun _ => False) w w1 by rw [hw1]; exact (Kept.refl _ _).alloc _)
  rw [← hw1]
  clear hw1
  obtain ⟨rb, hrb⟩ : ∃ rb, w.heap.size = rb := ⟨_, rfl⟩
  rw [hrb] at HRB1
  (try rw [hrb])
  have HNE := Lib.hid (show rb = w.heap.size + 0 ∧ True from ⟨by omega, trivial⟩)
  clear hrb
  have cRB := HRB1.out.cell
  have lRB := HRB1.out.lt
  have fRB := HRB1.out.frozen
  have HZ1 := Lib.hid HK1.out.size
  clear cRB lRB fRB
  have HB1 := Lib.hid (HBS.out.on HK1.out (fun _ _ h => h))
  go_wp2_with fail
  have hqq := readL_any (some ⟨bb, o, none⟩) bc (b.take 20) w1 (by rw [H20.out]; omega) (HB1.out.take_ 20)
  rw [H20.out] at hqq
  refine hqq.mono ?_
  clear hqq
  rintro e w2 ⟨rd, rfl, hrd, hR, hbw⟩
  have HRD2 := Lib.hid (show RdL w2 rd ((b.take 20).drop 0) by rw [List.drop_zero]; exact hR)
  have HK2 := Lib.hid (HK1.out.trans (Kept.ofB (S := fun _ => False) hbw))
  have HRB2 := Lib.hid (HRB1.out.kept (Kept.ofB (S := fun _ => False) hbw) (fun h => h))
  have HGE := Lib.hid hrd
  clear hR hbw hrd
  go_wp2_with fail
  refine (rdWord rd 0 (b.take 20) (sp) w2 (by rw [H20.out]; omega) (by rw [H20.out]; omega) T0.out HRD2.out).mono ?_
  rintro e w3 ⟨rfl, hR, hK⟩
  have HRD3 := Lib.hid hR
  have HX3 := Lib.hid hK
  have HK3 := Lib.hid (HK2.out.then hK (fun i hi e => by have := HGE.out; have := HZ1.out; omega))
  have HRB3 := Lib.hid (HRB2.out.kept hK (fun e => by have := HGE.out; have := HRB1.out.lt; omega))
  clear hR hK
  go_wp2_with fail
  refine (rdWord rd 2 (b.take 20) (dp) w3 (by rw [H20.out]; omega) (by rw [H20.out]; omega) T2.out HRD3.out).mono ?_
  rintro e w4 ⟨rfl, hR, hK⟩
  have HRD4 := Lib.hid hR
  have HX4 := Lib.hid hK
  have HK4 := Lib.hid (HK3.out.then hK (fun i hi e => by have := HGE.out; have := HZ1.out; omega))
  have HRB4 := Lib.hid (HRB3.out.kept hK (fun e => by have := HGE.out; have := HRB1.out.lt; omega))
  clear hR hK
  go_wp2_with fail
  refine (rdLong rd 4 (b.take 20) (seq) w4 (by rw [H20.out]; omega) (by rw [H20.out]; omega) T4.out HRD4.out).mono ?_
  rintro e w5 ⟨rfl, hR, hK⟩
  have HRD5 := Lib.hid hR
  have HX5 := Lib.hid hK
  have HK5 := Lib.hid (HK4.out.then hK (fun i hi e => by have := HGE.out; have := HZ1.out; omega))
  have HRB5 := Lib.hid (HRB4.out.kept hK (fun e => by have := HGE.out; have := HRB1.out.lt; omega))
  clear hR hK
  go_wp2_with fail
  refine (rdLong rd 8 (b.take 20) (ack) w5 (by rw [H20.out]; omega) (by rw [H20.out]; omega) T8.out HRD5.out).mono ?_
  rintro e w6 ⟨rfl, hR, hK⟩
  have HRD6 := Lib.hid hR
  have HX6 := Lib.hid hK
  have HK6 := Lib.hid (HK5.out.then hK (fun i hi e => by have := HGE.out; have := HZ1.out; omega))
  have HRB6 := Lib.hid (HRB5.out.kept hK (fun e => by have := HGE.out; have := HRB1.out.lt; omega))
  clear hR hK
  go_upto_region 5 with (show wpList _ _ _ ((⟨none, .store 48 (.tmp 5) _, _, _, _, none⟩ : Oper) :: _) _ _; refine wpList_store_mid rfl 48 (.tmp 5) _ rfl w6.heap.size 0 #[.int .u16 sp, .int .u16 dp, .int .u32 seq, .int .u32 ack, .int .u8 0, .int .u16 0, .int .u16 0, .int .u16 0, .slice none 0 0, .slice none 0 0] rfl rfl ((Blk.new w6 48 #[.int .u16 0, .int .u16 0, .int .u32 0, .int .u32 0, .int .u8 0, .int .u16 0, .int .u16 0, .int .u16 0, .slice none 0 0, .slice none 0 0]).there rfl) (by kernel_rfl) (by simp [Value.oneCell']) ?_)
  generalize hwq : (World.setCells _ _ _ _) = w7
  have HHT7 := Lib.hid (show Blk w7 w6.heap.size 48 #[.int .u16 sp, .int .u16 dp, .int .u32 seq, .int .u32 ack, .int .u8 0, .int .u16 0, .int .u16 0, .int .u16 0, .slice none 0 0, .slice none 0 0] by rw [← hwq]; exact (Blk.new w6 48 #[.int .u16 0, .int .u16 0, .int .u32 0, .int .u32 0, .int .u8 0, .int .u16 0, .int .u16 0, .int .u16 0, .slice none 0 0, .slice none 0 0]).setAll #[.int .u16 sp, .int .u16 dp, .int .u32 seq, .int .u32 ack, .int .u8 0, .int .u16 0, .int .u16 0, .int .u16 0, .slice none 0 0, .slice none 0 0] rfl)
  have HX7 := Lib.hid (show Kept (fun _ => False) w6 w7 by rw [← hwq]; exact ((Kept.refl _ _).alloc _).then (Kept.setCells (S := fun i => i = w6.heap.size) rfl _ _ (Kept.refl _ _)) (fun i hi e => by omega))
  have HK7 := Lib.hid (HK6.out.trans HX7.out)
  have HRB7 := Lib.hid (HRB6.out.kept HX7.out (fun h => h))
  have HRD7 := Lib.hid (HRD6.out.on HX7.out (fun _ _ h => h))
  have HTR := Lib.hid (show rd < w6.heap.size by obtain ⟨_, _, h, _⟩ := HRD6.out; exact h.lt)
  have HTW := Lib.hid (show w1.heap.size ≤ w6.heap.size by have := HGE.out; have := HTR.out; omega)
  obtain ⟨ht, hht⟩ : ∃ ht, w6.heap.size = ht := ⟨_, rfl⟩
  rw [hht] at HHT7 HTR HTW ⊢
  clear hwq hht
  go_wp2_with fail
  refine (rdByte rd 12 (b.take 20) (vo) w7 (by rw [H20.out]; omega) (by rw [H20.out]; omega) T12.out HRD7.out).mono ?_
  rintro e w8 ⟨rfl, hR, hK⟩
  have HRD8 := Lib.hid hR
  have HX8 := Lib.hid hK
  have HK8 := Lib.hid (HK7.out.then hK (fun i hi e => by have := HGE.out; have := HZ1.out; omega))
  have HRB8 := Lib.hid (HRB7.out.kept hK (fun e => by have := HGE.out; have := HRB1.out.lt; omega))
  clear hR hK
  have HHT8 := Lib.hid (HHT7.out.kept HX8.out (fun e => by have := HTR.out; omega))
  go_upto_region 7 with fail
  rw [← HZZ.out]
  have cB := HHT8.out.cell
  have lB := HHT8.out.lt
  have fB := HHT8.out.frozen
  go_wp2_with fail
  refine (rdByte rd 13 (b.take 20) (fl) w8 (by rw [H20.out]; omega) (by rw [H20.out]; omega) T13.out HRD8.out).mono ?_
  rintro e w9 ⟨rfl, hR, hK⟩
  have HRD9 := Lib.hid hR
  have HX9 := Lib.hid hK
  have HK9 := Lib.hid (HK8.out.then hK (fun i hi e => by have := HGE.out; have := HZ1.out; omega))
  have HRB9 := Lib.hid (HRB8.out.kept hK (fun e => by have := HGE.out; have := HRB1.out.lt; omega))
  clear hR hK
  have HHT9 := Lib.hid (HHT8.out.kept HX9.out (fun e => by have := HTR.out; omega))
  clear cB lB fB
  have cB := HHT9.out.cell
  have lB := HHT9.out.lt
  have fB := HHT9.out.frozen
  go_upto_region 12 with fail
  generalize hwq : World.setCell _ _ _ = w10
  have HX10 := Lib.hid (show Kept (fun i => i = ht) w9 w10 by rw [← hwq]; exact Kept.setIn (S := fun i => i = ht) rfl (Kept.refl _ _))
  have HHT10 := Lib.hid (show Blk w10 ht 48 #[.int .u16 sp, .int .u16 dp, .int .u32 seq, .int .u32 ack, .int .u8 fl, .int .u16 0, .int .u16 0, .int .u16 0, .slice none 0 0, .slice none 0 0] by rw [← hwq]; exact HHT9.out.set_to rfl)
  have HK10 := Lib.hid (HK9.out.then HX10.out (fun i hi e => by have := HTW.out; have := HZ1.out; omega))
  have HRB10 := Lib.hid (HRB9.out.kept HX10.out (fun e => by have := HTW.out; have := HRB1.out.lt; omega))
  have HRD10 := Lib.hid (HRD9.out.on HX10.out (fun i hi e => by have := HTR.out; omega))
  clear hwq
  clear cB lB fB
  have cB := HHT10.out.cell
  have lB := HHT10.out.lt
  have fB := HHT10.out.frozen
  go_wp2_with fail
  refine (rdWord rd 14 (b.take 20) (wi) w10 (by rw [H20.out]; omega) (by rw [H20.out]; omega) T14.out HRD10.out).mono ?_
  rintro e w11 ⟨rfl, hR, hK⟩
  have HRD11 := Lib.hid hR
  have HX11 := Lib.hid hK
  have HK11 := Lib.hid (HK10.out.then hK (fun i hi e => by have := HGE.out; have := HZ1.out; omega))
  have HRB11 := Lib.hid (HRB10.out.kept hK (fun e => by have := HGE.out; have := HRB1.out.lt; omega))
  clear hR hK
  have HHT11 := Lib.hid (HHT10.out.kept HX11.out (fun e => by have := HTR.out; omega))
  clear cB lB fB
  have cB := HHT11.out.cell
  have lB := HHT11.out.lt
  have fB := HHT11.out.frozen
  go_upto_region 13 with fail
  generalize hwq : World.setCell _ _ _ = w12
  have HX12 := Lib.hid (show Kept (fun i => i = ht) w11 w12 by rw [← hwq]; exact Kept.setIn (S := fun i => i = ht) rfl (Kept.refl _ _))
  have HHT12 := Lib.hid (show Blk w12 ht 48 #[.int .u16 sp, .int .u16 dp, .int .u32 seq, .int .u32 ack, .int .u8 fl, .int .u16 wi, .int .u16 0, .int .u16 0, .slice none 0 0, .slice none 0 0] by rw [← hwq]; exact HHT11.out.set_to rfl)
  have HK12 := Lib.hid (HK11.out.then HX12.out (fun i hi e => by have := HTW.out; have := HZ1.out; omega))
  have HRB12 := Lib.hid (HRB11.out.kept HX12.out (fun e => by have := HTW.out; have := HRB1.out.lt; omega))
  have HRD12 := Lib.hid (HRD11.out.on HX12.out (fun i hi e => by have := HTR.out; omega))
  clear hwq
  clear cB lB fB
  have cB := HHT12.out.cell
  have lB := HHT12.out.lt
  have fB := HHT12.out.frozen
  go_wp2_with fail
  refine (rdWord rd 16 (b.take 20) (sm) w12 (by rw [H20.out]; omega) (by rw [H20.out]; omega) T16.out HRD12.out).mono ?_
  rintro e w13 ⟨rfl, hR, hK⟩
  have HRD13 := Lib.hid hR
  have HX13 := Lib.hid hK
  have HK13 := Lib.hid (HK12.out.then hK (fun i hi e => by have := HGE.out; have := HZ1.out; omega))
  have HRB13 := Lib.hid (HRB12.out.kept hK (fun e => by have := HGE.out; have := HRB1.out.lt; omega))
  clear hR hK
  have HHT13 := Lib.hid (HHT12.out.kept HX13.out (fun e => by have := HTR.out; omega))
  clear cB lB fB
  have cB := HHT13.out.cell
  have lB := HHT13.out.lt
  have fB := HHT13.out.frozen
  go_upto_region 14 with fail
  generalize hwq : World.setCell _ _ _ = w14
  have HX14 := Lib.hid (show Kept (fun i => i = ht) w13 w14 by rw [← hwq]; exact Kept.setIn (S := fun i => i = ht) rfl (Kept.refl _ _))
  have HHT14 := Lib.hid (show Blk w14 ht 48 #[.int .u16 sp, .int .u16 dp, .int .u32 seq, .int .u32 ack, .int .u8 fl, .int .u16 wi, .int .u16 sm, .int .u16 0, .slice none 0 0, .slice none 0 0] by rw [← hwq]; exact HHT13.out.set_to rfl)
  have HK14 := Lib.hid (HK13.out.then HX14.out (fun i hi e => by have := HTW.out; have := HZ1.out; omega))
  have HRB14 := Lib.hid (HRB13.out.kept HX14.out (fun e => by have := HTW.out; have := HRB1.out.lt; omega))
  have HRD14 := Lib.hid (HRD13.out.on HX14.out (fun i hi e => by have := HTR.out; omega))
  clear hwq
  clear cB lB fB
  have cB := HHT14.out.cell
  have lB := HHT14.out.lt
  have fB := HHT14.out.frozen
  go_wp2_with fail
  refine (rdWord rd 18 (b.take 20) (ur) w14 (by rw [H20.out]; omega) (by rw [H20.out]; omega) T18.out HRD14.out).mono ?_
  rintro e w15 ⟨rfl, hR, hK⟩
  have HRD15 := Lib.hid hR
  have HX15 := Lib.hid hK
  have HK15 := Lib.hid (HK14.out.then hK (fun i hi e => by have := HGE.out; have := HZ1.out; omega))
  have HRB15 := Lib.hid (HRB14.out.kept hK (fun e => by have := HGE.out; have := HRB1.out.lt; omega))
  clear hR hK
  have HHT15 := Lib.hid (HHT14.out.kept HX15.out (fun e => by have := HTR.out; omega))
  clear cB lB fB
  have cB := HHT15.out.cell
  have lB := HHT15.out.lt
  have fB := HHT15.out.frozen
  go_upto_region 15 with fail
  generalize hwq : World.setCell _ _ _ = w16
  have HX16 := Lib.hid (show Kept (fun i => i = ht) w15 w16 by rw [← hwq]; exact Kept.setIn (S := fun i => i = ht) rfl (Kept.refl _ _))
  have HHT16 := Lib.hid (show Blk w16 ht 48 #[.int .u16 sp, .int .u16 dp, .int .u32 seq, .int .u32 ack, .int .u8 fl, .int .u16 wi, .int .u16 sm, .int .u16 ur, .slice none 0 0, .slice none 0 0] by rw [← hwq]; exact HHT15.out.set_to rfl)
  have HK16 := Lib.hid (HK15.out.then HX16.out (fun i hi e => by have := HTW.out; have := HZ1.out; omega))
  have HRB16 := Lib.hid (HRB15.out.kept HX16.out (fun e => by have := HTW.out; have := HRB1.out.lt; omega))
  have HRD16 := Lib.hid (HRD15.out.on HX16.out (fun i hi e => by have := HTR.out; omega))
  clear hwq
  clear cB lB fB
  have cB := HHT16.out.cell
  have lB := HHT16.out.lt
  have fB := HHT16.out.frozen
  have HYB := Lib.hid (show BS w16 w16.heap.size (some ⟨bb, o + 20, none⟩) os from by
    have h := ((HBS.out.on HK16.out (fun _ _ h => h)).drop_ 20).take_ n
    rw [HDR.out, List.take_append_of_le_length (by rw [HNN.out]; exact Nat.le_refl _), List.take_of_length_le (by rw [HNN.out]; exact Nat.le_refl _)] at h
    exact h)
  have kc : ¬ bc = 20 := by omega
  go_wp2_with fail
  refine (clone_len (some ⟨bb, o + 20, none⟩) (bc - 20) os n HNN.out w16 (by omega) HYB.out).mono ?_
  rintro e w17 ⟨v, rfl, hv, hbw⟩
  obtain ⟨VA, vc, hve, -, -⟩ := hv.shape
  rw [bcs_length, HNN.out] at hve
  subst hve
  have HV17 := Lib.hid hv
  have hk := Kept.ofB (S := fun _ => False) hbw
  have HK17 := Lib.hid (HK16.out.trans hk)
  have HHT17 := Lib.hid (HHT16.out.kept hk (fun h => h))
  have HRB17 := Lib.hid (HRB16.out.kept hk (fun h => h))
  clear hv hbw hk
  clear cB lB fB
  have cB := HHT17.out.cell
  have lB := HHT17.out.lt
  have fB := HHT17.out.frozen
  go_upto_region 16 with fail
  generalize hwq : World.setCell _ _ _ = w18
  have HX18 := Lib.hid (show Kept (fun i => i = ht) w17 w18 by rw [← hwq]; exact Kept.setIn (S := fun i => i = ht) rfl (Kept.refl _ _))
  have HHT18 := Lib.hid (show Blk w18 ht 48 #[.int .u16 sp, .int .u16 dp, .int .u32 seq, .int .u32 ack, .int .u8 fl, .int .u16 wi, .int .u16 sm, .int .u16 ur, .slice VA n vc, .slice none 0 0] by rw [← hwq]; exact HHT17.out.set_to rfl)
  have HK18 := Lib.hid (HK17.out.then HX18.out (fun i hi e => by have := HTW.out; have := HZ1.out; omega))
  have HRB18 := Lib.hid (HRB17.out.kept HX18.out (fun e => by have := HTW.out; have := HRB1.out.lt; omega))
  have HV18 := Lib.hid (Row.kept HV17.out HX18.out (fun g hg e => by have := (HV17.out.lt g hg).1; have := HHT16.out.lt; omega))
  clear hwq
  clear cB lB fB
  have cB := HHT18.out.cell
  have lB := HHT18.out.lt
  have fB := HHT18.out.frozen
  have HYL := Lib.hid (show BS w18 w18.heap.size (some ⟨bb, o + (20 + n), none⟩) ls from by
    have h := (HBS.out.on HK18.out (fun _ _ h => h)).drop_ (20 + n)
    rw [← List.drop_drop, HDR.out, List.drop_append_of_le_length (by rw [HNN.out]; exact Nat.le_refl _), List.drop_of_length_le (by rw [HNN.out]; exact Nat.le_refl _), List.nil_append] at h
    exact h)
  have hqm : q - (20 + n) = m := by omega
  by_cases kd : bc = 20 + n
  · have HYE := Lib.hid (show BS w18 w18.heap.size (some ⟨bb, o, none⟩) ls from .inl (List.length_eq_zero_iff.1 (by rw [HMM.out]; omega)))
    go_wp2_with fail
    refine (clone_len (some ⟨bb, o, none⟩) 0 ls m HMM.out w18 (by omega) HYE.out).mono ?_
    rintro e w19 ⟨u, rfl, hu, hbw⟩
    obtain ⟨UA, uc, hue, -, -⟩ := hu.shape
    rw [bcs_length, HMM.out] at hue
    subst hue
    have HU19 := Lib.hid hu
    have hk := Kept.ofB (S := fun _ => False) hbw
    have HV19 := Lib.hid (Row.kept HV18.out hk (fun _ _ h => h))
    have HK19 := Lib.hid (HK18.out.trans hk)
    have HHT19 := Lib.hid (HHT18.out.kept hk (fun h => h))
    have HRB19 := Lib.hid (HRB18.out.kept hk (fun h => h))
    clear hu hbw hk
    clear cB lB fB
    have cB := HHT19.out.cell
    have lB := HHT19.out.lt
    have fB := HHT19.out.frozen
    go_upto_region 17 with fail
    generalize hwq : World.setCell _ _ _ = w20
    have HX20 := Lib.hid (show Kept (fun i => i = ht) w19 w20 by rw [← hwq]; exact Kept.setIn (S := fun i => i = ht) rfl (Kept.refl _ _))
    have HHT20 := Lib.hid (show Blk w20 ht 48 #[.int .u16 sp, .int .u16 dp, .int .u32 seq, .int .u32 ack, .int .u8 fl, .int .u16 wi, .int .u16 sm, .int .u16 ur, .slice VA n vc, .slice UA m uc] by rw [← hwq]; exact HHT19.out.set_to rfl)
    have HK20 := Lib.hid (HK19.out.then HX20.out (fun i hi e => by have := HTW.out; have := HZ1.out; omega))
    have HRB20 := Lib.hid (HRB19.out.kept HX20.out (fun e => by have := HTW.out; have := HRB1.out.lt; omega))
    have HV20 := Lib.hid (Row.kept HV19.out HX20.out (fun g hg e => by have := (HV17.out.lt g hg).1; have := HHT16.out.lt; omega))
    have HU20 := Lib.hid (Row.kept HU19.out HX20.out (fun g hg e => by have := (HU19.out.lt g hg).1; have := HHT18.out.lt; omega))
    clear hwq
    clear cB lB fB
    go_wp2_with (first | (show wpList _ _ _ ((⟨_, .load 48 (.tmp 5), _, _, _, none⟩ : Oper) :: _) _ _; refine wpList_load_mid rfl 48 (.tmp 5) rfl ht 0 rfl [.int .u16 sp, .int .u16 dp, .int .u32 seq, .int .u32 ack, .int .u8 fl, .int .u16 wi, .int .u16 sm, .int .u16 ur, .slice VA n vc, .slice UA m uc] _ HHT20.out.range Tryz.underlying48 rfl (by kernel_rfl) ?_) | (show wpList _ _ _ ((⟨none, .store 48 (.tmp 2) _, _, _, _, none⟩ : Oper) :: _) _ _; refine wpList_store_mid rfl 48 (.tmp 2) _ rfl rb 0 #[.int .u16 sp, .int .u16 dp, .int .u32 seq, .int .u32 ack, .int .u8 fl, .int .u16 wi, .int .u16 sm, .int .u16 ur, .slice VA n vc, .slice UA m uc] rfl rfl (HRB20.out.there rfl) (by kernel_rfl) (by simp [Value.oneCell']) ?_))
    generalize hwq : (World.setCells _ _ _ _) = w21
    have HX21 := Lib.hid (show Kept (fun i => i = rb) w20 w21 by rw [← hwq]; exact Kept.setCells (S := fun i => i = rb) rfl _ _ (Kept.refl _ _))
    have HRB21 := Lib.hid (show Blk w21 rb 48 #[.int .u16 sp, .int .u16 dp, .int .u32 seq, .int .u32 ack, .int .u8 fl, .int .u16 wi, .int .u16 sm, .int .u16 ur, .slice VA n vc, .slice UA m uc] by rw [← hwq]; exact HRB20.out.setAll #[.int .u16 sp, .int .u16 dp, .int .u32 seq, .int .u32 ack, .int .u8 fl, .int .u16 wi, .int .u16 sm, .int .u16 ur, .slice VA n vc, .slice UA m uc] rfl)
    have HK21 := Lib.hid (HK20.out.then HX21.out (fun i hi e => by have := HNE.out; omega))
    have HV21 := Lib.hid (Row.kept HV20.out HX21.out (fun g hg e => by have := (HV17.out.lt g hg).1; have := HRB16.out.lt; omega))
    have HU21 := Lib.hid (Row.kept HU20.out HX21.out (fun g hg e => by have := (HU19.out.lt g hg).1; have := HRB18.out.lt; omega))
    clear hwq
    exact bodyPost_ret (results_blk_tmp (P := Tryz.prog) (show Tryz.f134.results = _ from rfl) _ _ rb 48 #[.int .u16 sp, .int .u16 dp, .int .u32 seq, .int .u32 ack, .int .u8 fl, .int .u16 wi, .int .u16 sm, .int .u16 ur, .slice VA n vc, .slice UA m uc] _ rfl HRB21.out Tryz.underlying48 rfl (by kernel_rfl)) rfl ⟨VA, vc, UA, uc, rfl, HV21.out.more HK16.out.size, HU21.out.more HK18.out.size, HK21.out⟩
  · go_wp2_with fail
    refine (clone_len (some ⟨bb, o + (20 + n), none⟩) (bc - (20 + n)) ls m HMM.out w18 (by omega) HYL.out).mono ?_
    rintro e w19 ⟨u, rfl, hu, hbw⟩
    obtain ⟨UA, uc, hue, -, -⟩ := hu.shape
    rw [bcs_length, HMM.out] at hue
    subst hue
    have HU19 := Lib.hid hu
    have hk := Kept.ofB (S := fun _ => False) hbw
    have HV19 := Lib.hid (Row.kept HV18.out hk (fun _ _ h => h))
    have HK19 := Lib.hid (HK18.out.trans hk)
    have HHT19 := Lib.hid (HHT18.out.kept hk (fun h => h))
    have HRB19 := Lib.hid (HRB18.out.kept hk (fun h => h))
    clear hu hbw hk
    clear cB lB fB
    have cB := HHT19.out.cell
    have lB := HHT19.out.lt
    have fB := HHT19.out.frozen
    go_upto_region 17 with fail
    generalize hwq : World.setCell _ _ _ = w20
    have HX20 := Lib.hid (show Kept (fun i => i = ht) w19 w20 by rw [← hwq]; exact Kept.setIn (S := fun i => i = ht) rfl (Kept.refl _ _))
    have HHT20 := Lib.hid (show Blk w20 ht 48 #[.int .u16 sp, .int .u16 dp, .int .u32 seq, .int .u32 ack, .int .u8 fl, .int .u16 wi, .int .u16 sm, .int .u16 ur, .slice VA n vc, .slice UA m uc] by rw [← hwq]; exact HHT19.out.set_to rfl)
    have HK20 := Lib.hid (HK19.out.then HX20.out (fun i hi e => by have := HTW.out; have := HZ1.out; omega))
    have HRB20 := Lib.hid (HRB19.out.kept HX20.out (fun e => by have := HTW.out; have := HRB1.out.lt; omega))
    have HV20 := Lib.hid (Row.kept HV19.out HX20.out (fun g hg e => by have := (HV17.out.lt g hg).1; have := HHT16.out.lt; omega))
    have HU20 := Lib.hid (Row.kept HU19.out HX20.out (fun g hg e => by have := (HU19.out.lt g hg).1; have := HHT18.out.lt; omega))
    clear hwq
    clear cB lB fB
    go_wp2_with (first | (show wpList _ _ _ ((⟨_, .load 48 (.tmp 5), _, _, _, none⟩ : Oper) :: _) _ _; refine wpList_load_mid rfl 48 (.tmp 5) rfl ht 0 rfl [.int .u16 sp, .int .u16 dp, .int .u32 seq, .int .u32 ack, .int .u8 fl, .int .u16 wi, .int .u16 sm, .int .u16 ur, .slice VA n vc, .slice UA m uc] _ HHT20.out.range Tryz.underlying48 rfl (by kernel_rfl) ?_) | (show wpList _ _ _ ((⟨none, .store 48 (.tmp 2) _, _, _, _, none⟩ : Oper) :: _) _ _; refine wpList_store_mid rfl 48 (.tmp 2) _ rfl rb 0 #[.int .u16 sp, .int .u16 dp, .int .u32 seq, .int .u32 ack, .int .u8 fl, .int .u16 wi, .int .u16 sm, .int .u16 ur, .slice VA n vc, .slice UA m uc] rfl rfl (HRB20.out.there rfl) (by kernel_rfl) (by simp [Value.oneCell']) ?_))
    generalize hwq : (World.setCells _ _ _ _) = w21
    have HX21 := Lib.hid (show Kept (fun i => i = rb) w20 w21 by rw [← hwq]; exact Kept.setCells (S := fun i => i = rb) rfl _ _ (Kept.refl _ _))
    have HRB21 := Lib.hid (show Blk w21 rb 48 #[.int .u16 sp, .int .u16 dp, .int .u32 seq, .int .u32 ack, .int .u8 fl, .int .u16 wi, .int .u16 sm, .int .u16 ur, .slice VA n vc, .slice UA m uc] by rw [← hwq]; exact HRB20.out.setAll #[.int .u16 sp, .int .u16 dp, .int .u32 seq, .int .u32 ack, .int .u8 fl, .int .u16 wi, .int .u16 sm, .int .u16 ur, .slice VA n vc, .slice UA m uc] rfl)
    have HK21 := Lib.hid (HK20.out.then HX21.out (fun i hi e => by have := HNE.out; omega))
    have HV21 := Lib.hid (Row.kept HV20.out HX21.out (fun g hg e => by have := (HV17.out.lt g hg).1; have := HRB16.out.lt; omega))
    have HU21 := Lib.hid (Row.kept HU20.out HX21.out (fun g hg e => by have := (HU19.out.lt g hg).1; have := HRB18.out.lt; omega))
    clear hwq
    exact bodyPost_ret (results_blk_tmp (P := Tryz.prog) (show Tryz.f134.results = _ from rfl) _ _ rb 48 #[.int .u16 sp, .int .u16 dp, .int .u32 seq, .int .u32 ack, .int .u8 fl, .int .u16 wi, .int .u16 sm, .int .u16 ur, .slice VA n vc, .slice UA m uc] _ rfl HRB21.out Tryz.underlying48 rfl (by kernel_rfl)) rfl ⟨VA, vc, UA, uc, rfl, HV21.out.more HK16.out.size, HU21.out.more HK18.out.size, HK21.out⟩
end Go.Proofs.YtdnbhmfofphblaaGreatDoor
